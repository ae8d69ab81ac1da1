/- Walk: the iterator of ops.flow. Conditions: as each theorem states them. -/
import Derived.Test.YtipblkdekppbfaaE
import Derived.Sort.CutIn
namespace Go.Proofs.Ytipblkdekppbfaa
open Go.RowKit Go.Shelf
attribute [local go_sem] Oper.semAt_some
set_option linter.unusedVariables false

/-- the cells that the iterator turns: the operator's cell, and why it refuses -/
def FlowR (pc pe : Nat) (k : Nat) (o : Obj) : Prop := k = pc ∨ k = pe

set_option maxHeartbeats 4000000 in
set_option maxRecDepth 100000 in
theorem flow_iter (o : OpD) (c0 : CellD) (vs : List Int) (bo bv bc be pc pe n : Nat) (av : Option Addr) (capv : Nat) (w : World) (ho : o.ok) (ht1 : 1 ≤ o.tag) (ht7 : o.tag ≤ 7) (hc0 : c0.ok) (hvs : ∀ v ∈ vs, i64b v) (hlen : vs.length ≤ 1000000)
    (h1 : w.heap[bo]? = some (.cells #[.int .i64 o.tag, .int .i64 o.width, .slice o.a o.len o.cap, .int .i64 o.A, .int .i64 o.B] 24 (0, 0)))
    (h2 : w.heap[bv]? = some (.cells #[.slice av vs.length capv] 29 (0, 0))) (h3 : w.heap[bc]? = some (.cells #[.pointer (some ⟨pc, 0, none⟩)] 64 (0, 0))) (h4 : w.heap[be]? = some (.cells #[.pointer (some ⟨pe, 0, none⟩)] 65 (0, 0)))
    (h5 : w.heap[pc]? = some (.cells #[.int .i64 c0.count, .int .i64 c0.sum] 26 (0, 0))) (h6 : w.heap[pe]? = some (.cells #[.int .i64 0] 33 (0, 0)))
    (hn : bo < n ∧ bv < n ∧ bc < n ∧ be < n ∧ pc < n ∧ pe < n) (hnw : n ≤ w.heap.size)
    (hsl : ∀ A, Turn (fun k o => FlowR pc pe k o ∨ CollC n k o) w A → Sl EI A (.slice av vs.length capv) vs) :
    Iter Try.prog 40 #[.pointer (some ⟨bo, 0, none⟩), .pointer (some ⟨bv, 0, none⟩), .pointer (some ⟨bc, 0, none⟩), .pointer (some ⟨be, 0, none⟩)] (fun x : Int => #[.int .i64 x]) (FlowR pc pe) (CollC n)
      (fun xs W => xs = (flowS o c0 vs).2.1 ∧ W.heap[pc]? = some (.cells #[.int .i64 (flowS o c0 vs).1.count, .int .i64 (flowS o c0 vs).1.sum] 26 (0, 0)) ∧ W.heap[pe]? = some (.cells #[.int .i64 (flowS o c0 vs).2.2] 33 (0, 0)))
      (fun _ _ => True) (vs.length + 1) w := by
  intro l J Jx W hbel hJ hJx hY h0
  obtain ⟨hn1, hn2, hn3, hn4, hn5, hn6⟩ := hn
  have HY := Lib.hid hY; have HJ := Lib.hid hJ; have HJx := Lib.hid hJx; have H0 := Lib.hid h0; have HSL := Lib.hid hsl; have HVS := Lib.hid hvs
  have nR : ∀ (b : Nat) (x : Obj), b < n → b ≠ pc → b ≠ pe → ¬ (FlowR pc pe b x ∨ CollC n b x) := fun b x h1 h2 h3 h => by
    rcases h with (h | h) | h
    · exact h2 h
    · exact h3 h
    · have := h.1; omega
  have M1 := Lib.hid (And.intro h1 (nR bo (.cells #[.int .i64 o.tag, .int .i64 o.width, .slice o.a o.len o.cap, .int .i64 o.A, .int .i64 o.B] 24 (0, 0)) hn1 (ne_of_kind h1 h5 (by decide)) (ne_of_kind h1 h6 (by decide))))
  have M3 := Lib.hid (And.intro h3 (nR bc (.cells #[.pointer (some ⟨pc, 0, none⟩)] 64 (0, 0)) hn3 (ne_of_kind h3 h5 (by decide)) (ne_of_kind h3 h6 (by decide))))
  have M4 := Lib.hid (And.intro h4 (nR be (.cells #[.pointer (some ⟨pe, 0, none⟩)] 65 (0, 0)) hn4 (ne_of_kind h4 h5 (by decide)) (ne_of_kind h4 h6 (by decide))))
  have hpce : pc ≠ pe := ne_of_kind h5 h6 (by decide)
  clear nR
  have K1 := Lib.hid (blk_le h1 hbel); have K2 := Lib.hid (blk_le h2 hbel); have K3 := Lib.hid (blk_le h3 hbel); have K4 := Lib.hid (blk_le h4 hbel); have K5 := Lib.hid (blk_le h5 hbel); have K6 := Lib.hid (blk_le h6 hbel)
  have HW := Lib.hid (Turn.of_below (R := fun k o => FlowR pc pe k o ∨ CollC n k o) hbel)
  obtain ⟨tag, width, oa, on, ocap, A, B⟩ := o
  have hWn : n ≤ W.heap.size := Nat.le_trans hnw hbel.size
  obtain ⟨q1, -⟩ := blk K1.out
  clear hY hJ hJx h0 hsl hvs h1 h2 h3 h4 h5 h6 hbel
  have hix := step_index tag (W.heap.size + 1) ht1 ht7
  obtain ⟨⟨fn, cv⟩, hfn⟩ : ∃ f, stepF tag (W.heap.size + 1) = f := ⟨_, rfl⟩
  rw [hfn] at hix
  have heg : ∀ (args : Array Value) (w : World), (callFunc fn args).run Try.prog w = .ok (.enter fn args) w := by
    have := step_enters tag (W.heap.size + 1)
    rw [hfn] at this
    exact this
  have HST := Lib.hid (show ∀ (c : CellD) (v : Int) (w' : World), i64b v → w'.heap[W.heap.size + 1]? = some (.cells #[.func (.func 43) #[] #[]] 72 (0, 0)) →
      Calls Try.prog fn (#[(⟨tag, width, oa, on, ocap, A, B⟩ : OpD).val, c.val, .int .i64 v] ++ cv) w' (StepPost ⟨tag, width, oa, on, ocap, A, B⟩ c v w') from fun c v w' hv hp => by
    have := step_any ⟨tag, width, oa, on, ocap, A, B⟩ c v (W.heap.size + 1) w' hv ho.2.2.1 hp
    rw [hfn] at this
    exact this)
  clear hfn
  refine callsIn_of_wp Try.func40 rfl trivial ?_
  simp only [Try.ntmps40, List.size_toArray, List.length_cons, List.length_nil, Nat.reduceAdd, Nat.reduceSub, Array.replicate_succ, Array.replicate_zero, List.push_toArray, List.append_toArray, List.nil_append, List.cons_append]
  gi_wp2_with fail
  gi_cut [6] from 12 (fun s wx => s = .func (.func fn) #[] cv ∧ wx.heap[W.heap.size + 1]? = some (.cells #[.func (.func 43) #[] #[]] 72 (0, 0)) ∧ Below W.heap.size W wx)
  case first =>
    gi_region_with (refine ⟨trivial, ?_⟩; gi_at_call 41; refine (callsIn_wide.2 (steps_any _)).mono ?_; rintro e w1 ⟨rfl, hp, hb⟩; have X1 := Lib.hid (And.intro hp hb); have r1 := (hb.cell (p := ⟨bo, 0, none⟩) (lt_of_block K1.out)).trans (q1 0); clear hp hb)
    all_goals gi_wp2_with fail
    all_goals gi_meet
    all_goals exact ⟨rfl, X1.out.1, by first | exact X1.out.2 | exact bt (Below.refl _ W).drew X1.out.2⟩
  case rest =>
    obtain ⟨rfl, hp, hb⟩ := hcut
    have hpn : n ≤ W.heap.size + 1 := by omega
    obtain ⟨q2, -⟩ := blk (blk_le K2.out hb)
    have C1 := Lib.hid hp; have C2 := Lib.hid hb
    have J0 := Lib.hid (HJ.out _ _ _ H0.out (Turn.of_below hb))
    have T0 := Lib.hid (HW.out.trans (Turn.of_below hb))
    have P5 := Lib.hid (blk_le K5.out hb); have P6 := Lib.hid (blk_le K6.out hb)
    clear hp hb q1
    gi_wp2_with fail
    clear q2
    gi_loopw [18] (fun i wr => ∃ k : Nat, k ≤ vs.length ∧ i = .int .i64 k ∧ (flowS ⟨tag, width, oa, on, ocap, A, B⟩ c0 (vs.take k)).2.2 = 0 ∧ J (flowS ⟨tag, width, oa, on, ocap, A, B⟩ c0 (vs.take k)).2.1 wr ∧
        wr.heap[pc]? = some (.cells #[.int .i64 (flowS ⟨tag, width, oa, on, ocap, A, B⟩ c0 (vs.take k)).1.count, .int .i64 (flowS ⟨tag, width, oa, on, ocap, A, B⟩ c0 (vs.take k)).1.sum] 26 (0, 0)) ∧ wr.heap[pe]? = some (.cells #[.int .i64 0] 33 (0, 0)) ∧
        wr.heap[W.heap.size + 1]? = some (.cells #[.func (.func 43) #[] #[]] 72 (0, 0)) ∧ Turn (fun k o => FlowR pc pe k o ∨ CollC n k o) w wr) (fun i _ => vs.length - (intOf i).toNat)
    case atStart => exact ⟨0, Nat.zero_le _, rfl, rfl, by simpa [flowS] using J0.out, by simpa [flowS] using P5.out, P6.out, C1.out, T0.out⟩
    case round =>
      obtain ⟨k, hk, rfl, he0, hj, hc, he, hp, ht⟩ := hrel
      have HE0 := Lib.hid he0
      obtain ⟨⟨cnt, sm⟩, out, er, hfl⟩ : ∃ c out er, flowS ⟨tag, width, oa, on, ocap, A, B⟩ c0 (vs.take k) = (c, out, er) := ⟨_, _, _, rfl⟩
      have HFL := Lib.hid hfl
      rw [hfl] at he0 hj hc
      simp only at he0 hj hc
      subst he0
      obtain ⟨r1, r2⟩ := blk hc
      obtain ⟨r3, r4⟩ := blk he
      obtain ⟨r5, -⟩ := blk (ht.same _ _ M1.out.1 M1.out.2)
      obtain ⟨r6, -⟩ := blk (ht.same _ _ M3.out.1 M3.out.2)
      obtain ⟨r7, -⟩ := blk (ht.same _ _ M4.out.1 M4.out.2)
      have J1 := Lib.hid hj; have C1' := Lib.hid hc; have E1 := Lib.hid he; have P1 := Lib.hid hp; have T1 := Lib.hid ht
      by_cases hlt : k < vs.length
      · obtain ⟨av', cv', hv, -, -, -, hcs⟩ := (HSL.out wr ht).num
        simp only [Value.slice.injEq, true_and] at hv
        obtain ⟨rfl, rfl⟩ := hv
        obtain ⟨bb, oo, rfl, hbl, hcs⟩ := hcs k hlt
        obtain ⟨v, hvk⟩ : ∃ v, vs[k] = v := ⟨_, rfl⟩
        have hcv := hcs k hlt
        have hvb := HVS.out _ (List.getElem_mem hlt)
        rw [hvk] at hcv hvb
        have HVB := Lib.hid hvb; have HVK := Lib.hid hvk
        obtain ⟨hvb1, hvb2⟩ := hvb
        clear hcs hvk hj hc he hp ht hfl
        by_cases hm : cnt = 9223372036854775807
        · have hmq : (cnt == 9223372036854775807) = true := by simp [hm]
          have HFF := Lib.hid (flow_take_full ⟨tag, width, oa, on, ocap, A, B⟩ c0 vs k hlt HE0.out (by rw [HFL.out]; exact hm))
          have HM := Lib.hid hm
          clear hm
          gi_wp2_with fail
          refine bodyPost_ret (results_none rfl _ _ _) rfl ?_
          refine ⟨⟨_, rfl⟩, .inl ⟨out, ⟨?_, ?_, ?_⟩, ?_⟩⟩
          · rw [HFF.out, HFL.out]
          · rw [HFF.out, HFL.out, Below.heap_setCell _ _ _ _ (by exact hpce)]; exact C1'.out
          · rw [HFF.out, blk_set E1.out]; rfl
          · refine HJ.out _ _ _ J1.out (Turn.set (p := ⟨pe, 0, none⟩) (fun o _ => .inr rfl) _)
        · have hmq : (cnt == 9223372036854775807) = false := by simp [hm]
          have HFS := Lib.hid (flow_take_step ⟨tag, width, oa, on, ocap, A, B⟩ c0 vs k hlt HE0.out (by rw [HFL.out]; exact hm))
          have HM := Lib.hid hm
          clear hm
          gi_wp2_with fail
          have hbn : n ≤ wr.heap.size := by have := T1.out.size; omega
          obtain ⟨c1, s1, y, cb, hst⟩ : ∃ c1 s1 y cb, stepS ⟨tag, width, oa, on, ocap, A, B⟩ ⟨cnt, sm⟩ v = (⟨c1, s1⟩, y, cb) := ⟨_, _, _, _, rfl⟩
          have HS2 := Lib.hid (show ∀ w', w'.heap[W.heap.size + 1]? = some (.cells #[.func (.func 43) #[] #[]] 72 (0, 0)) → Calls Try.prog fn (#[.agg #[.int .i64 tag, .int .i64 width, .slice oa on ocap, .int .i64 A, .int .i64 B], .agg #[.int .i64 cnt, .int .i64 sm], .int .i64 v] ++ cv) w'
              fun e w'' => e = .returned (.tuple #[.agg #[.int .i64 c1, .int .i64 s1], .int .i64 y, .bool cb]) ∧ Below w'.heap.size w' w'' from fun w' hp => by
            refine (HST.out ⟨cnt, sm⟩ v w' HVB.out hp).mono ?_
            rintro e w'' ⟨he, hb⟩
            rw [hst] at he
            exact ⟨he, hb⟩)
          have HSTEP := Lib.hid hst
          clear hst
          gi_cut [9, 10, 11] from 29 (fun s9 s10 s11 wx => ∃ b9, s9 = .pointer (some ⟨b9, 0, none⟩) ∧ s10 = .int .i64 y ∧ s11 = .bool cb ∧
            wx.heap[b9]? = some (.cells #[.int .i64 c1, .int .i64 s1] 26 (0, 0)) ∧ wr.heap.size ≤ b9 ∧ Below wr.heap.size wr wx)
          case first =>
            have P2 := Lib.hid (blk_le P1.out (below_alloc wr (.cells #[.int .i64 0, .int .i64 0] 26)))
            have HZ := Lib.hid (show ∀ w3, Below (wr.alloc (.cells #[.int .i64 0, .int .i64 0] 26)).drew.heap.size (wr.alloc (.cells #[.int .i64 0, .int .i64 0] 26)).drew w3 → w3.heap[wr.heap.size]? = some (.cells #[.int .i64 0, .int .i64 0] 26 (0, 0)) from
              fun w3 hb => blk_le (w := (wr.alloc (.cells #[.int .i64 0, .int .i64 0] 26)).drew) (heap_alloc_new wr _) hb)
            obtain ⟨a1, -⟩ := blk (blk_le C1'.out (below_alloc wr (.cells #[.int .i64 0, .int .i64 0] 26)))
            obtain ⟨a2, -⟩ := blk (blk_le (T1.out.same _ _ M1.out.1 M1.out.2) (below_alloc wr (.cells #[.int .i64 0, .int .i64 0] 26)))
            obtain ⟨a3, -⟩ := blk (blk_le (T1.out.same _ _ M3.out.1 M3.out.2) (below_alloc wr (.cells #[.int .i64 0, .int .i64 0] 26)))
            gi_region_with (refine ⟨trivial, ?_⟩; (refine (callsIn_wide.2 (HS2.out _ (by first | exact P1.out | exact P2.out))).mono ?_; rintro e w3 ⟨rfl, hb3⟩; (first | (obtain ⟨z1, z2⟩ := blk (HZ.out _ hb3); have zz := lt_of_block (HZ.out _ hb3)) | skip); have X3 := Lib.hid hb3; clear hb3))
            all_goals gi_wp2_with fail
            all_goals gi_meet
            all_goals first
              | exact ⟨_, rfl, rfl, rfl, heap_alloc_new _ _, by have := X3.out.size; simp at this; omega, bt (bt (Below.refl _ wr).drew X3.out) (below_alloc _ _)⟩
              | exact ⟨_, rfl, rfl, rfl, heap_alloc_new _ _, by have := X3.out.size; simp at this; omega, (bt (bt (Below.refl _ wr).drew X3.out) (below_alloc _ _)).drew⟩
              | exact ⟨wr.heap.size, rfl, rfl, rfl, blk_set (i := 1) (blk_set (i := 0) (HZ.out _ X3.out) _) _, Nat.le_refl _, ((bt (below_alloc wr _).drew X3.out).setCell (p := ⟨wr.heap.size, 0, none⟩) (Nat.le_refl _) _).setCell (p := ⟨wr.heap.size, 1, none⟩) (Nat.le_refl _) _⟩
          case rest =>
            obtain ⟨b9, rfl, rfl, rfl, h9, hle9, hb9⟩ := hcut
            have g5 := blk_le C1'.out hb9
            have hb9pc : b9 ≠ pc := by have := lt_of_block C1'.out; omega
            obtain ⟨t1, t2⟩ := blk g5
            obtain ⟨t3, -⟩ := blk (blk_le (T1.out.same _ _ M3.out.1 M3.out.2) hb9)
            obtain ⟨t4, -⟩ := blk h9
            have hlout : out.length ≤ k := by
              have := flowS_len ⟨tag, width, oa, on, ocap, A, B⟩ (vs.take k) c0
              rw [HFL.out, List.length_take] at this
              simp only at this
              omega
            have hT4 : Turn (FlowR pc pe) wr ((wc.setCell ⟨pc, 0, none⟩ (.int .i64 c1)).setCell ⟨pc, 1, none⟩ (.int .i64 s1)) := ((Turn.of_below hb9).trans (Turn.set (p := ⟨pc, 0, none⟩) (fun o _ => .inl rfl) _)).trans (Turn.set (p := ⟨pc, 1, none⟩) (fun o _ => .inl rfl) _)
            have hpc4 : ((wc.setCell ⟨pc, 0, none⟩ (.int .i64 c1)).setCell ⟨pc, 1, none⟩ (.int .i64 s1)).heap[pc]? = some (.cells #[.int .i64 c1, .int .i64 s1] 26 (0, 0)) := blk_set (i := 1) (blk_set (i := 0) g5 _) _
            have hpe4 : ((wc.setCell ⟨pc, 0, none⟩ (.int .i64 c1)).setCell ⟨pc, 1, none⟩ (.int .i64 s1)).heap[pe]? = some (.cells #[.int .i64 0] 33 (0, 0)) := by
              rw [Below.heap_setCell _ _ _ _ (by exact fun e => hpce e.symm), Below.heap_setCell _ _ _ _ (by exact fun e => hpce e.symm)]; exact blk_le E1.out hb9
            have hpp4 : ((wc.setCell ⟨pc, 0, none⟩ (.int .i64 c1)).setCell ⟨pc, 1, none⟩ (.int .i64 s1)).heap[W.heap.size + 1]? = some (.cells #[.func (.func 43) #[] #[]] 72 (0, 0)) := by
              rw [Below.heap_setCell _ _ _ _ (by show W.heap.size + 1 ≠ pc; omega), Below.heap_setCell _ _ _ _ (by show W.heap.size + 1 ≠ pc; omega)]; exact blk_le P1.out hb9
            have X4 := Lib.hid (And.intro hT4 (And.intro hpc4 (And.intro hpe4 hpp4)))
            have TT := Lib.hid (T1.out.trans (hT4.mono (fun k o h => .inl h)))
            have J4 := Lib.hid (HJ.out _ _ _ J1.out hT4)
            have HNX := Lib.hid (show flowS ⟨tag, width, oa, on, ocap, A, B⟩ c0 (vs.take (k + 1)) = (⟨c1, s1⟩, out ++ (if cb then [y] else []), 0) by rw [HFS.out, HFL.out, HVK.out]; simp only; rw [HSTEP.out])
            clear hT4 hpc4 hpe4 hpp4 g5 h9 hb9 r1 r2 r3 r4 r5 r6 r7 hcv
            cases cb with
            | false =>
              gi_wp2_with fail
              refine ⟨fun _ h => (by cases h), ?_⟩
              gi_wp2_with fail
              go_roundw
              case rel => exact ⟨k + 1, hlt, by go_num, by rw [HNX.out], by rw [HNX.out]; simpa using J4.out, by rw [HNX.out]; exact X4.out.2.1, X4.out.2.2.1, X4.out.2.2.2, TT.out⟩
              case measure => simp [intOf]; omega
            | true =>
              obtain ⟨fny, tmpsy, assigny, bodyy, hy, hR⟩ := HY.out out y _ J4.out (by omega)
              have HR := Lib.hid hR
              clear hR
              gi_wp2_with fail
              refine HR.out.mono ?_
              rintro e W5 (⟨rfl, hJ5, hk5⟩ | ⟨rfl, hJx5, hk5⟩)
              · have Z5 := Lib.hid (And.intro hJ5 hk5)
                clear hJ5 hk5
                gi_wp2_with fail
                go_roundw
                case rel =>
                  have hnc : ∀ (b : Nat) (x : Obj), b < n → ¬ CollC n b x := fun b x h1 h2 => by have := h2.1; omega
                  refine ⟨k + 1, hlt, by go_num, by rw [HNX.out], by rw [HNX.out]; exact Z5.out.1, ?_, Z5.out.2.same _ _ X4.out.2.2.1 (hnc _ _ hn6), Z5.out.2.same _ _ X4.out.2.2.2 ?_, TT.out.trans (Z5.out.2.mono (fun k o h => .inr h))⟩
                  · rw [HNX.out]; exact Z5.out.2.same _ _ X4.out.2.1 (hnc _ _ hn5)
                  · rintro ⟨-, h | ⟨cs, h | h⟩⟩
                    · cases h
                    · simp at h
                    · simp at h
                case measure => simp [intOf]; omega
              · have Z5 := Lib.hid hJx5
                clear hJx5 hk5
                gi_wp2_with fail
                refine bodyPost_ret (results_none rfl _ _ _) rfl ?_
                exact ⟨⟨_, rfl⟩, .inr ⟨_, trivial, Z5.out⟩⟩
      · obtain rfl : k = vs.length := by omega
        have HT := Lib.hid (List.take_length (l := vs))
        clear hj hc he hp ht hfl
        gi_wp2_with fail
        go_end0
        refine ⟨⟨_, rfl⟩, .inl ⟨out, ⟨?_, ?_, ?_⟩, J1.out⟩⟩
        · rw [← HT.out, HFL.out]
        · rw [← HT.out, HFL.out]; exact C1'.out
        · rw [← HT.out, HFL.out]; exact E1.out
end Go.Proofs.Ytipblkdekppbfaa
