/- Walk: OpsFewer. Conditions: as each theorem states them. -/
import Derived.Test.YtipblkdekppbfaaI
import Derived.Test.YtipblkdekppbfaaJ
import Derived.Test.YtipblkdekppbfaaPF
import Derived.Test.YtipblkdekppbfaaS2
import Derived.Deep.QuietTactic
import Derived.BigQuiet
import Derived.Deep.CutBlock
namespace Go.Proofs.Ytipblkdekppbfaa
open Go.RowKit
set_option linter.unusedVariables false

theorem runS_err (o : OpD) (ins : List Int) (c : CellD) (vs : List Int) (h : (runS o ins c vs).2.2 ≠ 0) : runS o ins c vs = (zeroC, [], (runS o ins c vs).2.2) := by
  unfold runS at *
  split
  · rfl
  · split
    · rfl
    · split
      · rfl
      · rename_i h1 h2 h3
        rw [if_neg h1, if_neg h2, if_neg h3] at h
        exact absurd rfl h
theorem runS_ok (o : OpD) (ins : List Int) (c : CellD) (vs : List Int) (h : (runS o ins c vs).2.2 = 0) : aloneS o ins = true ∧ fitsS o c = true ∧ (flowS o c vs).2.2 = 0 ∧ runS o ins c vs = flowS o c vs := by
  unfold runS at *
  split at h
  · cases h
  · split at h
    · cases h
    · split at h
      · rename_i h1 h2 h3; exact absurd h h3
      · rename_i h1 h2 h3
        rw [if_neg h1, if_neg h2, if_neg h3]
        refine ⟨by simpa using h1, by simpa using h2, by simpa using h3, ?_⟩
        have : (flowS o c vs).2.2 = 0 := by simpa using h3
        rw [← this]

/-- what Run answers -/
def RunT (o : OpD) (ins : List Int) (c : CellD) (vs : List Int) : CellD × List Int × Int := if 40 < vs.length then (zeroC, [], (3 : Int)) else runS o ins c vs
theorem RunT_err (o : OpD) (ins : List Int) (c : CellD) (vs : List Int) (h : (RunT o ins c vs).2.2 ≠ 0) : (RunT o ins c vs).1 = zeroC ∧ (RunT o ins c vs).2.1 = [] := by
  unfold RunT at *
  split
  · exact ⟨rfl, rfl⟩
  · rename_i h1
    rw [if_neg h1] at h
    rw [runS_err o ins c vs h]
    exact ⟨rfl, rfl⟩
theorem RunT_ok (o : OpD) (ins : List Int) (c : CellD) (vs : List Int) (h : (RunT o ins c vs).2.2 = 0) : vs.length ≤ 40 ∧ aloneS o ins = true ∧ fitsS o c = true ∧ (flowS o c vs).2.2 = 0 ∧ RunT o ins c vs = flowS o c vs := by
  unfold RunT at *
  split at h
  · cases h
  · rename_i h1
    rw [if_neg h1]
    exact ⟨by omega, runS_ok o ins c vs h⟩

set_option maxHeartbeats 4000000 in
set_option maxRecDepth 100000 in
theorem fewer_walk (W : World) (o : OpD) (c : CellD) (ins : List Int) (ho : o.ok) (hc : c.ok) (hS : Sl EN W o.sl ins) (hi : ∀ x ∈ ins, i64b x) (l : List Int) (vl : Value) (hL : Sl EI W vl l) (hl : ∀ x ∈ l, i64b x) :
    Calls Try.prog 7 #[askedV o c, vl] W fun e w' => e = .returned (.bool true) ∧ Below W.heap.size W w' := by
  obtain ⟨al, cl, hv, -⟩ := hL.ex
  subst hv
  obtain ⟨tag, width, a, n, cap, A, B⟩ := o
  obtain ⟨cnt, sm⟩ := c
  obtain ⟨t, ht⟩ : ∃ t, l.take 41 = t := ⟨_, rfl⟩
  obtain ⟨is, his⟩ : ∃ is, ins.take 10 = is := ⟨_, rfl⟩
  have htl : t.length ≤ 41 := by rw [← ht, List.length_take]; omega
  have HTB := Lib.hid (show ∀ v ∈ t, i64b v from fun v h => hl v (List.mem_of_mem_take (ht ▸ h)))
  have HIB := Lib.hid (show ∀ v ∈ is, i64b v from fun v h => hi v (List.mem_of_mem_take (his ▸ h)))
  have HT := Lib.hid ht; have HIS := Lib.hid his; have HO := Lib.hid ho; have HC := Lib.hid hc; have HL := Lib.hid hL; have HS := Lib.hid hS
  have E0 := Lib.hid (heap_alloc_new W (.cells #[.int .i64 tag, .int .i64 width, .slice a n cap, .int .i64 A, .int .i64 B, .int .i64 cnt, .int .i64 sm] 28))
  have B0 := Lib.hid (below_alloc W (.cells #[.int .i64 tag, .int .i64 width, .slice a n cap, .int .i64 A, .int .i64 B, .int .i64 cnt, .int .i64 sm] 28))
  clear ht his ho hc hL hS hl hi
  go_enter Try.func7, Try.ntmps7
  go_wp2_with fail
  refine (wakes_any _).mono ?_
  rintro e w1 ⟨rfl, hb⟩
  have X1 := Lib.hid (bt B0.out hb); have F1 := Lib.hid (blk_le E0.out hb)
  obtain ⟨r1, -⟩ := blk F1.out
  clear hb
  go_wp2_with fail
  refine (op_any tag width A B a n cap ins _ (HS.out.le X1.out)).mono ?_
  rintro e w2 ⟨a2, c2, he, ho, hb⟩
  rw [HIS.out] at he ho
  subst he
  have X2 := Lib.hid (bt X1.out hb); have F2 := Lib.hid (blk_le F1.out hb); have O2 := Lib.hid ho
  clear ho hb r1
  obtain ⟨r1, -⟩ := blk F2.out
  go_wp2_with fail
  refine (few_any l _ _ (HL.out.le X2.out)).mono ?_
  rintro e w3 ⟨v3, he, ho, hb⟩
  subst he
  rw [HT.out] at ho
  obtain ⟨a3, c3, hv, -⟩ := ho.sl.ex
  subst hv
  have X3 := Lib.hid (bt X2.out hb); have F3 := Lib.hid (blk_le F2.out hb); have O23 := Lib.hid (O2.out.le hb); have O3 := Lib.hid ho
  clear ho hb r1
  go_upto_region 4 with fail
  have A4 := below_alloc w3 (.cells #[.int .i64 tag, .int .i64 width, .slice a2 is.length c2, .int .i64 A, .int .i64 B] 24)
  have N4 := heap_alloc_new w3 (.cells #[.int .i64 tag, .int .i64 width, .slice a2 is.length c2, .int .i64 A, .int .i64 B] 24)
  generalize w3.alloc (.cells #[.int .i64 tag, .int .i64 width, .slice a2 is.length c2, .int .i64 A, .int .i64 B] 24) = w4 at *
  have X4 := Lib.hid (bt X3.out A4); have F4 := Lib.hid (blk_le F3.out A4); have O24 := Lib.hid (O23.out.le A4); have O34 := Lib.hid (O3.out.le A4); have N4' := Lib.hid N4
  clear A4 N4
  obtain ⟨r1, -⟩ := blk F4.out
  obtain ⟨q1, -⟩ := blk N4'.out
  go_wp2_with fail
  refine (Run_any ⟨tag, width, a2, is.length, c2, A, B⟩ is ⟨cnt, sm⟩ t _ _ HO.out O24.out.sl HIB.out HC.out O34.out.sl HTB.out (by omega)).mono ?_
  rintro e w5 ⟨v5, he, ho, hb⟩
  change e = .returned (.tuple #[(RunT ⟨tag, width, a2, is.length, c2, A, B⟩ is ⟨cnt, sm⟩ t).1.val, v5, .int .i64 (RunT ⟨tag, width, a2, is.length, c2, A, B⟩ is ⟨cnt, sm⟩ t).2.2]) at he
  change Own EI w5 _ v5 (RunT ⟨tag, width, a2, is.length, c2, A, B⟩ is ⟨cnt, sm⟩ t).2.1 at ho
  have HER := Lib.hid (RunT_err ⟨tag, width, a2, is.length, c2, A, B⟩ is ⟨cnt, sm⟩ t)
  have HOK := Lib.hid (RunT_ok ⟨tag, width, a2, is.length, c2, A, B⟩ is ⟨cnt, sm⟩ t)
  generalize RunT ⟨tag, width, a2, is.length, c2, A, B⟩ is ⟨cnt, sm⟩ t = R at *
  obtain ⟨⟨c5, s5⟩, out, er⟩ := R
  simp only at he ho
  subst he
  obtain ⟨a5, k5, hv, -⟩ := ho.sl.ex
  subst hv
  have X5 := Lib.hid (bt X4.out hb); have F5 := Lib.hid (blk_le F4.out hb); have O25 := Lib.hid (O24.out.le hb); have O35 := Lib.hid (O34.out.le hb); have N5 := Lib.hid (blk_le N4'.out hb); have O5 := Lib.hid ho
  clear ho hb r1 q1
  go_upto_region 5 with fail
  have A6 := below_alloc w5 (.cells #[.int .i64 c5, .int .i64 s5] 26)
  have N6 := heap_alloc_new w5 (.cells #[.int .i64 c5, .int .i64 s5] 26)
  generalize w5.alloc (.cells #[.int .i64 c5, .int .i64 s5] 26) = w6 at *
  have X6 := Lib.hid (bt X5.out A6); have F6 := Lib.hid (blk_le F5.out A6); have O26 := Lib.hid (O25.out.le A6); have O36 := Lib.hid (O35.out.le A6); have P6 := Lib.hid (blk_le N5.out A6); have O56 := Lib.hid (O5.out.le A6); have N6' := Lib.hid N6
  clear A6 N6
  obtain ⟨r1, -⟩ := blk F6.out
  obtain ⟨q1, -⟩ := blk P6.out
  obtain ⟨u1, -⟩ := blk N6'.out
  by_cases h0 : er = 0
  · subst h0
    obtain ⟨h40, hal, hfi, hf0, hfe⟩ := HOK.out rfl
    have HAL := Lib.hid hal; have HFI := Lib.hid hfi; have HF0 := Lib.hid hf0; have HFE := Lib.hid hfe
    have hlen := flowS_len ⟨tag, width, a2, is.length, c2, A, B⟩ t ⟨cnt, sm⟩
    rw [← hfe] at hlen
    simp only at hlen
    have hol : out.length ≤ 40 := by omega
    have hd : decide ((t.length : Int) < (out.length : Int)) = false := by simp; omega
    clear hal hfi hf0 hfe
    go_wp2_with fail
    refine (alone_any ⟨tag, width, a2, is.length, c2, A, B⟩ is _ HO.out O26.out.sl HIB.out).mono ?_
    rintro e w7 ⟨he, hb⟩
    rw [HAL.out] at he
    subst he
    have X7 := Lib.hid (bt X6.out hb); have F7 := Lib.hid (blk_le F6.out hb); have O37 := Lib.hid (O36.out.le hb); have P7 := Lib.hid (blk_le P6.out hb); have O57 := Lib.hid (O56.out.le hb); have N7 := Lib.hid (blk_le N6'.out hb)
    clear hb r1 q1 u1 hd
    obtain ⟨r1, -⟩ := blk F7.out
    obtain ⟨q1, -⟩ := blk P7.out
    obtain ⟨u1, -⟩ := blk N7.out
    by_cases t3 : tag = 3
    · subst t3
      obtain ⟨hce, hall⟩ := few_filter ⟨3, width, a2, is.length, c2, A, B⟩ rfl t ⟨cnt, sm⟩ HF0.out
      rw [← HFE.out] at hce hall
      simp only [CellD.mk.injEq] at hce hall
      obtain ⟨rfl, rfl⟩ := hce
      have HALL := Lib.hid hall
      obtain ⟨p1, p2, hv1, -, -, -, hc1⟩ := O57.out.sl.num
      simp only [Value.slice.injEq] at hv1
      obtain ⟨rfl, -, rfl⟩ := hv1
      have HC1 := Lib.hid hc1
      clear hall hc1
      go_wp2_with fail
      go_loopw [57] (fun i wr => ∃ k : Nat, k ≤ out.length ∧ i = .int .i64 k ∧ Below w7.heap.size w7 wr) (fun i _ => out.length - (intOf i).toNat)
      case atStart => exact ⟨0, Nat.zero_le _, rfl, Below.refl _ _⟩
      case round =>
        obtain ⟨k, hk, rfl, hb⟩ := hrel
        have HB := Lib.hid hb
        clear r1 q1 u1 hb
        obtain ⟨r1, -⟩ := blk (blk_le F7.out HB.out)
        obtain ⟨q1, -⟩ := blk (blk_le P7.out HB.out)
        obtain ⟨u1, -⟩ := blk (blk_le N7.out HB.out)
        by_cases hlt : k < out.length
        · obtain ⟨bb, oo, rfl, hbl, hc⟩ := HC1.out k hlt
          have hck := (HB.out.cell (p := ⟨bb, oo + k, none⟩) hbl).trans (hc k hlt)
          obtain ⟨hm1, hm2⟩ := HALL.out _ (List.getElem_mem hlt)
          generalize out[k] = y at *
          have HIN := Lib.hid hm2
          obtain ⟨m, hm⟩ : ∃ m, modS y A = m := ⟨_, rfl⟩
          have HM := Lib.hid (show ∀ w, Calls Try.prog 16 #[.int .i64 y, .int .i64 A] w fun e w' => e = .returned (.int .i64 m) ∧ w' = w from fun w => by rw [← hm]; exact (mod16_any y A (HTB.out _ hm2) HO.out.2.2.1 w).mono fun _ _ h => ⟨h.1, h.2.symm⟩)
          have hne : (m != B) = false := by rw [← hm]; simp [hm1]
          clear hm hm1 hm2 hc
          go_wp2_with fail
          go_quiet (first | (go_at_call 16; exact Calls.quiet_of_same (HM.out _)) | (go_at_call 25; exact Calls.quiet_of_same ((contains25_any t y _ _ (O37.out.sl.le (below_drewN HB.out _)) HIN.out).mono fun _ _ h => ⟨h.1, h.2.symm⟩)))
          go_wp2_with fail
          go_roundw
          case rel => exact ⟨k + 1, hlt, by go_num, below_drewN HB.out _⟩
          case measure => simp [intOf]; omega
        · obtain rfl : k = out.length := by omega
          go_wp2_with fail
          go_ret
          exact ⟨rfl, bt X7.out HB.out⟩
    · have g3 : (tag == 3) = false := beq_eq_false_iff_ne.2 t3
      by_cases t4 : tag = 4
      · subst t4
        obtain ⟨hcc, hoc⟩ := few_reduce ⟨4, width, a2, is.length, c2, A, B⟩ rfl t ⟨cnt, sm⟩ HC.out HF0.out
        rw [← HFE.out] at hcc hoc
        simp only at hcc hoc
        have hdl : ((out.length : Int) == (t.length : Int)) = true := by rw [hoc]; simp
        have hdl2 : decide ((out.length : Int) = (t.length : Int)) = true := decide_eq_true (by rw [hoc])
        have hcb : cnt + (t.length : Int) ≤ 9223372036854775807 := by
          have h := (flowS_ok ⟨4, width, a2, is.length, c2, A, B⟩ t ⟨cnt, sm⟩ HC.out HTB.out).1.1
          rw [← HFE.out] at h
          have := h.2
          simp only at this
          omega
        have hcb2 := HC.out.1.1
        simp only at hcb2
        generalize out.length = no at *
        generalize t.length = nt at *
        subst hcc
        clear hoc
        go_wp2_with fail
        go_ret
        exact ⟨by first | rfl | exact ret_bool (by simp), X7.out⟩
      · have g4 : (tag == 4) = false := beq_eq_false_iff_ne.2 t4
        by_cases t5 : tag = 5
        · subst t5
          have hA18 := alone_window ⟨5, width, a2, is.length, c2, A, B⟩ is HAL.out rfl
          obtain ⟨hw1, hw2⟩ := fits_window ⟨5, width, a2, is.length, c2, A, B⟩ ⟨cnt, sm⟩ rfl HFI.out
          simp only at hA18 hw1 hw2
          obtain ⟨-, hz0, hzA, hsum⟩ := few_window ⟨5, width, a2, is.length, c2, A, B⟩ rfl hA18.1 hA18.2 t ⟨cnt, sm⟩ hw1 hw2
          rw [← HFE.out] at hz0 hzA hsum
          simp only at hz0 hzA hsum
          obtain ⟨hA1, hA8⟩ := hA18
          have hq : (cnt + (t.length : Int)).tdiv A = out.length := by
            rw [hsum, Int.tdiv_eq_ediv_of_nonneg (by have : 0 ≤ A * (out.length : Int) := Int.mul_nonneg (by omega) (by omega); omega), Int.add_comm, Int.add_mul_ediv_left _ _ (by omega), Int.ediv_eq_zero_of_lt hz0 hzA]
            omega
          have hr : (cnt + (t.length : Int)).tmod A = c5 := by
            rw [hsum, Int.tmod_eq_emod_of_nonneg (by have : 0 ≤ A * (out.length : Int) := Int.mul_nonneg (by omega) (by omega); omega), Int.add_comm, Int.add_mul_emod_self_left, Int.emod_eq_of_lt hz0 hzA]
          have HSUM := Lib.hid hsum
          clear hsum
          generalize out.length = no at *
          generalize t.length = nt at *
          go_wp2_with fail
          go_quiet (fail)
          go_wp2_with fail
          go_ret
          exact ⟨rfl, below_drewN X7.out _⟩
        · have g5 : (tag == 5) = false := beq_eq_false_iff_ne.2 t5
          obtain ⟨hce, hoc⟩ := few_other ⟨tag, width, a2, is.length, c2, A, B⟩ t3 t4 t5 t ⟨cnt, sm⟩ HF0.out
          rw [← HFE.out] at hce hoc
          simp only [CellD.mk.injEq] at hce hoc
          obtain ⟨rfl, rfl⟩ := hce
          have hdl : ((out.length : Int) == (t.length : Int)) = true := by rw [hoc]; simp
          have hdl2 : decide ((out.length : Int) = (t.length : Int)) = true := decide_eq_true (by rw [hoc])
          generalize out.length = no at *
          generalize t.length = nt at *
          clear hoc
          go_wp2_with fail
          go_ret
          exact ⟨by first | rfl | exact ret_bool (by simp), X7.out⟩
  · have g0 : (er != 0) = true := by simpa using h0
    obtain ⟨hz1, hz2⟩ := HER.out h0
    subst hz2
    simp only [zeroC, CellD.mk.injEq] at hz1
    obtain ⟨rfl, rfl⟩ := hz1
    go_wp2_with fail
    go_ret
    exact ⟨rfl, X6.out⟩
end Go.Proofs.Ytipblkdekppbfaa
