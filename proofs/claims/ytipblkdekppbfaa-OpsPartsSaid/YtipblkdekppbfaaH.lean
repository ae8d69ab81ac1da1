/- Walks: ops.run, ops.Run, ops.Do. Conditions: as each theorem states them. -/
import Derived.Test.YtipblkdekppbfaaF
import Derived.Test.YtipblkdekppbfaaG
import Derived.Deep.CutBlock
namespace Go.Proofs.Ytipblkdekppbfaa
open Go.RowKit Go.Shelf
set_option linter.unusedVariables false

theorem runS_wrong (o : OpD) (ins : List Int) (c : CellD) (vs : List Int) (h : rightS o ins c ≠ 0) : runS o ins c vs = (zeroC, [], rightS o ins c) := by
  unfold rightS at *
  unfold runS
  split at h
  · rename_i h1; rw [if_pos h1, if_pos h1]
  · rename_i h1
    split at h
    · rename_i h2; rw [if_neg h1, if_pos h2, if_neg h1, if_pos h2]
    · simp at h
theorem right_alone (o : OpD) (ins : List Int) (c : CellD) (h : rightS o ins c = 0) : aloneS o ins = true ∧ fitsS o c = true := by
  unfold rightS at h
  split at h
  · simp at h
  · split at h
    · simp at h
    · simp_all
theorem runS_right (o : OpD) (ins : List Int) (c : CellD) (vs : List Int) (h : rightS o ins c = 0) : runS o ins c vs = if (flowS o c vs).2.2 ≠ 0 then (zeroC, [], (flowS o c vs).2.2) else ((flowS o c vs).1, (flowS o c vs).2.1, 0) := by
  obtain ⟨h1, h2⟩ := right_alone o ins c h
  unfold runS
  rw [if_neg (by simp [h1]), if_neg (by simp [h2])]

/-- the flow of an operator over values, collected: what 'flow' and 'collected' come to in a row -/
def FlowS (o : OpD) (c : CellD) (vs : List Int) (pc pe : Nat) (xs : List Int) (W : World) : Prop :=
  xs = (flowS o c vs).2.1 ∧ W.heap[pc]? = some (.cells #[.int .i64 (flowS o c vs).1.count, .int .i64 (flowS o c vs).1.sum] 26 (0, 0)) ∧ W.heap[pe]? = some (.cells #[.int .i64 (flowS o c vs).2.2] 33 (0, 0))

theorem flow_collected (o : OpD) (c : CellD) (vs : List Int) (pc pe b0 : Nat) (av : Option Addr) (capv : Nat) (w0 w : World) (ho : o.ok) (ht1 : 1 ≤ o.tag) (ht7 : o.tag ≤ 7) (hc0 : c.ok) (hvs : ∀ v ∈ vs, i64b v) (hlen : vs.length ≤ 1000)
    (hV : Sl EI w0 (.slice av vs.length capv) vs) (hb0 : Below w0.heap.size w0 w) (hpc : w0.heap.size ≤ pc) (hpe : w0.heap.size ≤ pe)
    (h1 : w.heap[b0]? = some (.cells #[.int .i64 o.tag, .int .i64 o.width, .slice o.a o.len o.cap, .int .i64 o.A, .int .i64 o.B] 24 (0, 0)))
    (h3 : w.heap[b0 + 1]? = some (.cells #[.pointer (some ⟨pc, 0, none⟩)] 64 (0, 0))) (h4 : w.heap[b0 + 1 + 1]? = some (.cells #[.pointer (some ⟨pe, 0, none⟩)] 65 (0, 0)))
    (h2 : w.heap[b0 + 1 + 1 + 1]? = some (.cells #[.slice av vs.length capv] 29 (0, 0)))
    (h5 : w.heap[pc]? = some (.cells #[.int .i64 c.count, .int .i64 c.sum] 26 (0, 0))) (h6 : w.heap[pe]? = some (.cells #[.int .i64 0] 33 (0, 0))) :
    Calls Try.prog 37 #[.func (.func 40) #[] #[.pointer (some ⟨b0, 0, none⟩), .pointer (some ⟨b0 + 1 + 1 + 1, 0, none⟩), .pointer (some ⟨b0 + 1, 0, none⟩), .pointer (some ⟨b0 + 1 + 1, 0, none⟩)]] w fun e w' =>
      ∃ v', e = .returned v' ∧ FlowS o c vs pc pe (flowS o c vs).2.1 w' ∧ Own EI w' w.heap.size v' (flowS o c vs).2.1 ∧ Turn (FlowR pc pe) w w' := by
  have hw0 : w0.heap.size ≤ w.heap.size := hb0.size
  refine (collected_any 40 _ (FlowR pc pe) (FlowS o c vs pc pe) (fun _ _ => True) (vs.length + 1) w (by omega) (enters_of Try.func40 (by kernel_rfl) rfl) ?_ ?_ ?_ (fun _ _ _ _ _ => trivial)).mono ?_
  · intro w1 hb1
    refine flow_iter o c vs b0 _ _ _ pc pe w.heap.size av capv w1 ho ht1 ht7 hc0 hvs (by omega) (blk_le h1 hb1) (blk_le h2 hb1) (blk_le h3 hb1) (blk_le h4 hb1) (blk_le h5 hb1) (blk_le h6 hb1)
      ⟨lt_of_block h1, lt_of_block h2, lt_of_block h3, lt_of_block h4, lt_of_block h5, lt_of_block h6⟩ hb1.size ?_
    intro A hA
    refine hV.le (hb0.trans ((hb1.mono hw0).trans (hA.below (Nat.le_trans hw0 hb1.size) ?_)))
    rintro k o ((rfl | rfl) | h)
    · exact hpc
    · exact hpe
    · exact Nat.le_trans hw0 h.1
  · rintro k o (rfl | rfl)
    · exact lt_of_block h5
    · exact lt_of_block h6
  · rintro xs A B ⟨rfl, ha, hb⟩ ht
    exact ⟨rfl, ht.same _ _ ha (fun h => by have := h.1; have := lt_of_block h5; omega), ht.same _ _ hb (fun h => by have := h.1; have := lt_of_block h6; omega)⟩
  · rintro e w' ⟨v', xs, rfl, hs, ho', ht⟩
    obtain rfl := hs.1
    exact ⟨v', rfl, hs, ho', ht⟩

set_option maxHeartbeats 1000000 in
set_option maxRecDepth 100000 in
theorem run_any (o : OpD) (ins : List Int) (c : CellD) (vs : List Int) (v : Value) (w : World) (ho : o.ok) (hS : Sl EN w o.sl ins) (hi : ∀ x ∈ ins, i64b x) (hc : c.ok) (hV : Sl EI w v vs) (hvs : ∀ x ∈ vs, i64b x) (hlen : vs.length ≤ 1000) :
    Calls Try.prog 30 #[o.val, c.val, v] w fun e w' => ∃ v', e = .returned (.tuple #[(runS o ins c vs).1.val, v', .int .i64 (runS o ins c vs).2.2]) ∧ Own EI w' w.heap.size v' (runS o ins c vs).2.1 ∧ Below w.heap.size w w' := by
  have HA := Lib.hid (show ∀ W, Below w.heap.size w W → Calls Try.prog 31 #[o.val, c.val] W fun e w' => e = .returned (.int .i64 (rightS o ins c)) ∧ Below W.heap.size W w' from fun W h => right_any o ins c W ho (hS.le h) hi hc)
  obtain ⟨av, capv, hv, -⟩ := hV.ex
  subst hv
  have HV := Lib.hid hV; have HVS := Lib.hid hvs; have HO := Lib.hid ho; have HC := Lib.hid hc
  have HW := Lib.hid (runS_wrong o ins c vs); have HR := Lib.hid (runS_right o ins c vs); have HAL := Lib.hid (fun h => alone_tag o ins (right_alone o ins c h).1)
  generalize rightS o ins c = r at *
  clear hV hvs hS hi ho hc
  have HFA := Lib.hid (flow_any o)
  have HFC := Lib.hid (fun pc pe b0 w1 h1 h2 => flow_collected o c vs pc pe b0 av capv w w1 HO.out h1 h2 HC.out HVS.out hlen HV.out)
  obtain ⟨tag, width, a, n, cap, A, B⟩ := o
  obtain ⟨cnt, sm⟩ := c
  obtain ⟨e1, e2, e3, e4⟩ := alloc3 w (.cells #[.int .i64 tag, .int .i64 width, .slice a n cap, .int .i64 A, .int .i64 B] 24) (.cells #[.int .i64 cnt, .int .i64 sm] 26) (.cells #[.int .i64 0, .int .i64 0] 26)
  have E1 := Lib.hid e1; have E2 := Lib.hid e2; have E3 := Lib.hid e3; have E4 := Lib.hid e4
  clear e1 e2 e3 e4
  go_enter Try.func30, Try.ntmps30
  go_wp2_with fail
  refine (HA.out _ E4.out).mono ?_
  rintro e w1 ⟨rfl, hb⟩
  have X1 := Lib.hid (bt E4.out hb); have Y1 := Lib.hid hb
  have F1 := Lib.hid (blk_le E1.out hb); have F2 := Lib.hid (blk_le E2.out hb); have F3 := Lib.hid (blk_le E3.out hb)
  have hs1 : w.heap.size + 1 + 1 < w1.heap.size := lt_of_block F3.out
  clear hb
  by_cases hr : r = 0
  · subst hr
    have ht := HAL.out rfl
    have HR0 := Lib.hid (HR.out rfl)
    go_upto_region 2 with fail
    have N1 := heap_alloc_new w1 (.cells #[.int .i64 0] 33)
    have N2 := below_alloc w1 (.cells #[.int .i64 0] 33)
    have hsz : w1.heap.size < (w1.alloc (.cells #[.int .i64 0] 33)).heap.size := by simp
    generalize w1.alloc (.cells #[.int .i64 0] 33) = w2 at *
    have G1 := Lib.hid (blk_le F1.out N2); have G2 := Lib.hid (blk_le F2.out N2); have G3 := Lib.hid (blk_le F3.out N2)
    have M1 := Lib.hid N1; have X2 := Lib.hid (bt X1.out N2)
    obtain ⟨q1, -⟩ := blk N1
    obtain ⟨q2, -⟩ := blk G1.out
    clear N1 N2
    go_wp2_with fail
    refine (HFA.out (w.heap.size + 1) w1.heap.size _ av vs.length capv rfl _).mono ?_
    rintro e w3 ⟨rfl, p1, p2, p3, p4, hb⟩
    have Q := Lib.hid (And.intro p1 (And.intro p2 (And.intro p3 p4)))
    have X3 := Lib.hid (bt X2.out hb)
    have H2 := Lib.hid (blk_le G2.out hb); have H3 := Lib.hid (blk_le G3.out hb); have K1 := Lib.hid (blk_le M1.out hb)
    have hs3 : w2.heap.size ≤ w3.heap.size := hb.size
    clear p1 p2 p3 p4 hb q1 q2
    go_wp2_with fail
    with_reducible refine (HFC.out (w.heap.size + 1) w1.heap.size w2.heap.size w3 ht.1 ht.2 X3.out (by omega) (by omega) Q.out.1 Q.out.2.1 Q.out.2.2.1 Q.out.2.2.2 H2.out K1.out).mono ?_
    rintro e w4 ⟨v4, rfl, hS4, ho4, ht4⟩
    obtain ⟨a4, c4, hv, -⟩ := ho4.sl.ex
    have X4 := Lib.hid (X3.out.trans (ht4.below X3.out.size (by rintro k o (rfl | rfl) <;> omega)))
    have J3 := Lib.hid (ht4.same _ _ H3.out (by rintro (h | h) <;> omega))
    have O4 := Lib.hid ho4; have S4 := Lib.hid hS4
    clear ho4 hS4 ht4
    subst hv
    obtain ⟨⟨fc, fs⟩, fo, fe, hfl⟩ : ∃ c o e, flowS ⟨tag, width, a, n, cap, A, B⟩ ⟨cnt, sm⟩ vs = (c, o, e) := ⟨_, _, _, rfl⟩
    have HFL := Lib.hid hfl
    have s2 := S4.out.2.1; have s3 := S4.out.2.2
    rw [hfl] at s2 s3
    simp only at s2 s3
    have U2 := Lib.hid s2; have U3 := Lib.hid s3
    obtain ⟨q1, -⟩ := blk s2
    obtain ⟨q2, -⟩ := blk s3
    obtain ⟨q3, q4⟩ := blk J3.out
    clear s2 s3 hfl
    by_cases hfe : fe = 0
    · subst hfe
      have HRS := Lib.hid (show runS ⟨tag, width, a, n, cap, A, B⟩ ins ⟨cnt, sm⟩ vs = (⟨fc, fs⟩, fo, 0) from HR0.out.trans (by rw [HFL.out]; simp))
      go_wp2_with fail
      have K := (blk (blk_set (i := 1) (blk_set (i := 0) J3.out (.int .i64 fc)) (.int .i64 fs))).1
      refine bodyPost_ret (v := .tuple #[.agg #[.int .i64 fc, .int .i64 fs], .slice a4 (flowS ⟨tag, width, a, n, cap, A, B⟩ ⟨cnt, sm⟩ vs).2.1.length c4, .int .i64 0]) (by simp [results, Try.results30, go_sem, K]) rfl ?_
      refine ⟨_, by rw [HRS.out], ?_, (X4.out.setCell (by simp; omega) _).setCell (by simp; omega) _⟩
      rw [HRS.out]
      have ho := O4.out
      rw [HFL.out] at ho ⊢
      exact ((ho.grown (grown_setCell w4 (w.heap.size + 1 + 1) 0 (.int .i64 fc)) (.inr (fun e => by have := (ho.lt _ e).1; omega))).grown (grown_setCell _ (w.heap.size + 1 + 1) 1 (.int .i64 fs)) (.inr (fun e => by have := (ho.lt _ e).1; omega))).mono (by omega)
    · have hq : (fe != 0) = true := by simp [hfe]
      have HRS := Lib.hid (show runS ⟨tag, width, a, n, cap, A, B⟩ ins ⟨cnt, sm⟩ vs = (zeroC, [], fe) from HR0.out.trans (by rw [HFL.out]; simp [hfe]))
      clear hfe
      go_wp2_with fail
      go_region
      go_wp2_with fail
      have K := (blk (blk_set (i := 1) (blk_set (i := 0) J3.out (.int .i64 0)) (.int .i64 0))).1
      refine bodyPost_ret (v := .tuple #[.agg #[.int .i64 0, .int .i64 0], .slice none 0 0, .int .i64 fe]) (by simp [results, Try.results30, go_sem, K]) rfl ?_
      exact ⟨_, by rw [HRS.out]; rfl, by rw [HRS.out]; exact Own.nil _ _ _, ((X4.out.setCell (by simp; omega) _).setCell (by simp; omega) _).drew⟩
  · have hq : (r != 0) = true := by simp [hr]
    have HRS := Lib.hid (HW.out hr)
    have A1 := Lib.hid (below_alloc w1 (.cells #[.int .i64 r] 33))
    have P3 := Lib.hid (blk_le F3.out A1.out)
    obtain ⟨q3, q4⟩ := blk P3.out
    obtain ⟨r3, r4⟩ := blk F3.out
    clear hr
    go_wp2_with fail
    go_region
    go_wp2_with fail
    have K := (blk (blk_le (blk_set (i := 1) (blk_set (i := 0) F3.out (.int .i64 0)) (.int .i64 0)) (below_alloc _ (.cells #[.int .i64 r] 33)))).1
    refine bodyPost_ret (v := .tuple #[.agg #[.int .i64 0, .int .i64 0], .slice none 0 0, .int .i64 r]) (by simp [results, Try.results30, go_sem, K]) rfl ?_
    have hBB := (X1.out.setCell (p := ⟨w.heap.size + 1 + 1, 0, none⟩) (by show w.heap.size ≤ w.heap.size + 1 + 1; omega) (.int .i64 0)).setCell (p := ⟨w.heap.size + 1 + 1, 1, none⟩) (by show w.heap.size ≤ w.heap.size + 1 + 1; omega) (.int .i64 0)
    exact ⟨_, by rw [HRS.out]; rfl, by rw [HRS.out]; exact Own.nil _ _ _, (hBB.alloc hBB.size _).drew⟩

set_option maxHeartbeats 1000000 in
set_option maxRecDepth 100000 in
theorem Run_any (o : OpD) (ins : List Int) (c : CellD) (vs : List Int) (v : Value) (w : World) (ho : o.ok) (hS : Sl EN w o.sl ins) (hi : ∀ x ∈ ins, i64b x) (hc : c.ok) (hV : Sl EI w v vs) (hvs : ∀ x ∈ vs, i64b x) (hlen : vs.length ≤ 1000) :
    Calls Try.prog 13 #[o.val, c.val, v] w fun e w' => ∃ v', e = .returned (.tuple #[(if 40 < vs.length then (zeroC, [], (3 : Int)) else runS o ins c vs).1.val, v', .int .i64 (if 40 < vs.length then (zeroC, [], (3 : Int)) else runS o ins c vs).2.2]) ∧ Own EI w' w.heap.size v' (if 40 < vs.length then (zeroC, [], (3 : Int)) else runS o ins c vs).2.1 ∧ Below w.heap.size w w' := by
  have HA := Lib.hid (show ∀ W, Below w.heap.size w W → Calls Try.prog 30 #[o.val, c.val, v] W fun e w' => ∃ v', e = .returned (.tuple #[(runS o ins c vs).1.val, v', .int .i64 (runS o ins c vs).2.2]) ∧ Own EI w' W.heap.size v' (runS o ins c vs).2.1 ∧ Below W.heap.size W w' from
    fun W h => run_any o ins c vs v W ho (hS.le h) hi hc (hV.le h) hvs hlen)
  obtain ⟨av, capv, hv, -⟩ := hV.ex
  subst hv
  clear hV hvs hS hi ho hc
  obtain ⟨tag, width, a, n, cap, A, B⟩ := o
  obtain ⟨cnt, sm⟩ := c
  obtain ⟨e1, e2, e3, e4⟩ := alloc3 w (.cells #[.int .i64 tag, .int .i64 width, .slice a n cap, .int .i64 A, .int .i64 B] 24) (.cells #[.int .i64 cnt, .int .i64 sm] 26) (.cells #[.int .i64 0, .int .i64 0] 26)
  have E3 := Lib.hid e3; have E4 := Lib.hid e4
  clear e1 e2 e3 e4
  by_cases h40 : 40 < vs.length
  · simp only [h40, if_true]
    go_enter Try.func13, Try.ntmps13
    go_wp2_with fail
    refine bodyPost_ret (v := .tuple #[.agg #[.int .i64 0, .int .i64 0], .slice none 0 0, .int .i64 3]) (by simp [results, Try.results13, go_sem]) rfl ?_
    exact ⟨_, rfl, Own.nil _ _ _, E4.out⟩
  · simp only [h40, if_false]
    generalize runS ⟨tag, width, a, n, cap, A, B⟩ ins ⟨cnt, sm⟩ vs = r at *
    obtain ⟨⟨rc, rs⟩, ro, re⟩ := r
    go_enter Try.func13, Try.ntmps13
    go_wp2_with fail
    refine (HA.out _ E4.out).mono ?_
    rintro e w1 ⟨v1, rfl, ho, hb⟩
    obtain ⟨a1, c1, hv, -⟩ := ho.sl.ex
    subst hv
    have O1 := Lib.hid ho; have X1 := Lib.hid (bt E4.out hb); have F3 := Lib.hid (blk_le E3.out hb)
    have hs1 : w.heap.size + 1 + 1 + 1 ≤ w1.heap.size := lt_of_block F3.out
    have hs2 : w.heap.size + 1 + 1 < (((w.alloc (.cells #[.int .i64 tag, .int .i64 width, .slice a n cap, .int .i64 A, .int .i64 B] 24)).alloc (.cells #[.int .i64 cnt, .int .i64 sm] 26)).alloc (.cells #[.int .i64 0, .int .i64 0] 26)).heap.size := lt_of_block E3.out
    obtain ⟨q3, q4⟩ := blk F3.out
    clear ho hb
    go_wp2_with fail
    have K := (blk (blk_set (i := 1) (blk_set (i := 0) F3.out (.int .i64 rc)) (.int .i64 rs))).1
    refine bodyPost_ret (v := .tuple #[.agg #[.int .i64 rc, .int .i64 rs], .slice a1 ro.length c1, .int .i64 re]) (by simp [results, Try.results13, go_sem, K]) rfl ?_
    have ho := O1.out
    exact ⟨_, rfl, ((ho.grown (grown_setCell w1 (w.heap.size + 1 + 1) 0 (.int .i64 rc)) (.inr (fun e => by have := (ho.lt _ e).1; omega))).grown (grown_setCell _ (w.heap.size + 1 + 1) 1 (.int .i64 rs)) (.inr (fun e => by have := (ho.lt _ e).1; omega))).mono (by omega), (X1.out.setCell (by simp; omega) _).setCell (by simp; omega) _⟩

set_option maxHeartbeats 1000000 in
set_option maxRecDepth 100000 in
theorem Do_any (o : OpD) (ins : List Int) (c : CellD) (x : Int) (w : World) (ho : o.ok) (hS : Sl EN w o.sl ins) (hi : ∀ x ∈ ins, i64b x) (hc : c.ok) (hx : i64b x) :
    Calls Try.prog 22 #[o.val, c.val, .int .i64 x] w fun e w' => ∃ v', e = .returned (.tuple #[(runS o ins c [x]).1.val, v', .int .i64 (runS o ins c [x]).2.2]) ∧ Own EI w' w.heap.size v' (runS o ins c [x]).2.1 ∧ Below w.heap.size w w' := by
  have HA := Lib.hid (show ∀ v W, Below w.heap.size w W → Sl EI W v [x] → Calls Try.prog 30 #[o.val, c.val, v] W fun e w' => ∃ v', e = .returned (.tuple #[(runS o ins c [x]).1.val, v', .int .i64 (runS o ins c [x]).2.2]) ∧ Own EI w' W.heap.size v' (runS o ins c [x]).2.1 ∧ Below W.heap.size W w' from
    fun v W h hV => run_any o ins c [x] v W ho (hS.le h) hi hc hV (by simpa using hx) (by simp))
  clear hS hi ho hc
  obtain ⟨tag, width, a, n, cap, A, B⟩ := o
  obtain ⟨cnt, sm⟩ := c
  obtain ⟨e1, e2, e3, e4⟩ := alloc3 w (.cells #[.int .i64 tag, .int .i64 width, .slice a n cap, .int .i64 A, .int .i64 B] 24) (.cells #[.int .i64 cnt, .int .i64 sm] 26) (.cells #[.int .i64 0, .int .i64 0] 26)
  have E3 := Lib.hid e3; have E4 := Lib.hid e4
  clear e1 e2 e3 e4
  generalize runS ⟨tag, width, a, n, cap, A, B⟩ ins ⟨cnt, sm⟩ [x] = r at *
  obtain ⟨⟨rc, rs⟩, ro, re⟩ := r
  have hs3 := lt_of_block E3.out
  go_enter Try.func22, Try.ntmps22
  go_wp2_with fail
  have M := Own.made EI (((w.alloc (.cells #[.int .i64 tag, .int .i64 width, .slice a n cap, .int .i64 A, .int .i64 B] 24)).alloc (.cells #[.int .i64 cnt, .int .i64 sm] 26)).alloc (.cells #[.int .i64 0, .int .i64 0] 26)) [x] #[.int .i64 x] rfl (by simp [maxLen]) 0 (Nat.zero_le _) 1 rfl
  have BA := below_alloc (((w.alloc (.cells #[.int .i64 tag, .int .i64 width, .slice a n cap, .int .i64 A, .int .i64 B] 24)).alloc (.cells #[.int .i64 cnt, .int .i64 sm] 26)).alloc (.cells #[.int .i64 0, .int .i64 0] 26)) (.cells #[.int .i64 x] 2)
  refine (HA.out _ _ (bt E4.out BA) (by have h := M.sl; simp only [World.size_alloc] at h; exact h)).mono ?_
  rintro e w1 ⟨v1, rfl, ho, hb⟩
  obtain ⟨a1, c1, hv, -⟩ := ho.sl.ex
  subst hv
  have O1 := Lib.hid ho; have X1 := Lib.hid (bt (bt E4.out BA) hb); have F3 := Lib.hid (blk_le (blk_le E3.out BA) hb)
  have hs4 := BA.size
  obtain ⟨q3, q4⟩ := blk F3.out
  clear ho hb M BA
  go_wp2_with fail
  have K := (blk (blk_set (i := 1) (blk_set (i := 0) F3.out (.int .i64 rc)) (.int .i64 rs))).1
  refine bodyPost_ret (v := .tuple #[.agg #[.int .i64 rc, .int .i64 rs], .slice a1 ro.length c1, .int .i64 re]) (by simp [results, Try.results22, go_sem, K]) rfl ?_
  have ho := O1.out
  exact ⟨_, rfl, ((ho.grown (grown_setCell w1 (w.heap.size + 1 + 1) 0 (.int .i64 rc)) (.inr (fun e => by have := (ho.lt _ e).1; omega))).grown (grown_setCell _ (w.heap.size + 1 + 1) 1 (.int .i64 rs)) (.inr (fun e => by have := (ho.lt _ e).1; omega))).mono (by simp; omega), (X1.out.setCell (by simp; omega) _).setCell (by simp; omega) _⟩
end Go.Proofs.Ytipblkdekppbfaa
