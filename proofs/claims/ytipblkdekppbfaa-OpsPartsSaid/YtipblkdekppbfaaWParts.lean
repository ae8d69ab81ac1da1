/- Walk: OpsParts. Conditions: as each theorem states them. -/
import Derived.Test.YtipblkdekppbfaaI
import Derived.Test.YtipblkdekppbfaaJ
import Derived.Test.YtipblkdekppbfaaPF2
import Derived.Test.YtipblkdekppbfaaS3
import Derived.Deep.QuietTactic
import Derived.BigQuiet
import Derived.Deep.CutBlock
import Derived.Deep.RegionWith
namespace Go.Proofs.Ytipblkdekppbfaa
open Go.RowKit
set_option linter.unusedVariables false

theorem runS_okc (o : OpD) (ins : List Int) (c : CellD) (vs : List Int) (hc : c.ok) (hv : ∀ v ∈ vs, i64b v) : (runS o ins c vs).1.ok := by
  unfold runS
  split
  · exact ⟨by unfold zeroC i64b; simp, by unfold zeroC i64b; simp⟩
  · split
    · exact ⟨by unfold zeroC i64b; simp, by unfold zeroC i64b; simp⟩
    · split
      · exact ⟨by unfold zeroC i64b; simp, by unfold zeroC i64b; simp⟩
      · exact (flowS_ok o vs c hc hv).1
theorem runS_fits (o : OpD) (ins : List Int) (c : CellD) (vs : List Int) (hc : c.ok) (hv : ∀ v ∈ vs, i64b v) (h : (runS o ins c vs).2.2 = 0) : fitsS o (runS o ins c vs).1 = true := by
  by_cases h1 : aloneS o ins = false
  · unfold runS at h; rw [if_pos h1] at h; cases h
  by_cases h2 : fitsS o c = false
  · unfold runS at h; rw [if_neg h1, if_pos h2] at h; cases h
  by_cases h3 : (flowS o c vs).2.2 ≠ 0
  · unfold runS at h; rw [if_neg h1, if_neg h2, if_pos h3] at h; exact absurd h h3
  unfold runS
  rw [if_neg h1, if_neg h2, if_neg h3]
  exact fits_flow o ins (by simpa using h1) vs c hc hv (by simpa using h2) (by simpa using h3)

theorem runS_len (o : OpD) (ins : List Int) (c : CellD) (vs : List Int) : (runS o ins c vs).2.1.length ≤ vs.length := by
  unfold runS
  split
  · simp
  · split
    · simp
    · split
      · simp
      · exact flowS_len o vs c
theorem rightS_zero (o : OpD) (ins : List Int) (c : CellD) (ha : aloneS o ins = true) (hf : fitsS o c = true) : rightS o ins c = 0 := by
  unfold rightS
  rw [if_neg (by rw [ha]; simp), if_neg (by rw [hf]; simp)]

set_option maxHeartbeats 4000000 in
set_option maxRecDepth 100000 in
theorem parts_walk (W : World) (o : OpD) (c : CellD) (ins : List Int) (ho : o.ok) (hc : c.ok) (hS : Sl EN W o.sl ins) (hi : ∀ x ∈ ins, i64b x) (l : List Int) (vl : Value) (hL : Sl EI W vl l) (hl : ∀ x ∈ l, i64b x) (x : Int) (hx1 : -9223372036854775808 ≤ x) (hx2 : x ≤ 9223372036854775807) :
    Calls Try.prog 9 #[askedV o c, vl, .int .i64 x] W fun e w' => e = .returned (.bool true) ∧ Below W.heap.size W w' := by
  obtain ⟨al, cl, hv, -⟩ := hL.ex
  subst hv
  obtain ⟨tag, width, a, n, cap, A, B⟩ := o
  obtain ⟨cnt, sm⟩ := c
  obtain ⟨t, ht⟩ : ∃ t, l.take 41 = t := ⟨_, rfl⟩
  obtain ⟨is, his⟩ : ∃ is, ins.take 10 = is := ⟨_, rfl⟩
  have htl : t.length ≤ 41 := by rw [← ht, List.length_take]; omega
  obtain ⟨vs, hvs⟩ : ∃ vs, vs = t.take 40 := ⟨_, rfl⟩
  have HVB := Lib.hid (show ∀ v ∈ vs, i64b v from fun v h => hl v (List.mem_of_mem_take (ht ▸ List.mem_of_mem_take (hvs ▸ h))))
  have hvl : vs.length ≤ 40 := by rw [hvs, List.length_take]; omega
  have HIB := Lib.hid (show ∀ v ∈ is, i64b v from fun v h => hi v (List.mem_of_mem_take (his ▸ h)))
  have HT := Lib.hid ht; have HIS := Lib.hid his; have HO := Lib.hid ho; have HC := Lib.hid hc; have HL := Lib.hid hL; have HS := Lib.hid hS; have HVS := Lib.hid hvs
  have E0 := Lib.hid (heap_alloc_new W (.cells #[.int .i64 tag, .int .i64 width, .slice a n cap, .int .i64 A, .int .i64 B, .int .i64 cnt, .int .i64 sm] 28))
  have B0 := Lib.hid (below_alloc W (.cells #[.int .i64 tag, .int .i64 width, .slice a n cap, .int .i64 A, .int .i64 B, .int .i64 cnt, .int .i64 sm] 28))
  clear ht his ho hc hL hS hl hi hvs
  go_enter Try.func9, Try.ntmps9
  go_wp2_with fail
  refine (wakes_any _).mono ?_
  rintro e w1 ⟨rfl, hb⟩
  have X1 := Lib.hid (bt B0.out hb); have F1 := Lib.hid (blk_le E0.out hb)
  obtain ⟨r1, -⟩ := blk F1.out
  clear hb
  go_wp2_with fail
  refine (op_any tag width A B a n cap ins _ (HS.out.le X1.out)).mono ?_
  rintro e w2 ⟨a2, c2, he, ho, hb⟩
  rw [HIS.out] at he ho
  subst he
  have X2 := Lib.hid (bt X1.out hb); have F2 := Lib.hid (blk_le F1.out hb); have O2 := Lib.hid ho
  clear ho hb r1
  obtain ⟨r1, -⟩ := blk F2.out
  go_wp2_with fail
  refine (few_any l _ _ (HL.out.le X2.out)).mono ?_
  rintro e w3 ⟨v3, he, ho, hb⟩
  subst he
  rw [HT.out] at ho
  obtain ⟨a3, c3, hv, hlc, -⟩ := ho.sl.ex
  subst hv
  have X3 := Lib.hid (bt X2.out hb); have F3 := Lib.hid (blk_le F2.out hb); have O23 := Lib.hid (O2.out.le hb)
  obtain ⟨m, hm, hm2⟩ : ∃ m : Nat, m = vs.length ∧ (if (40 : Int) < (t.length : Int) then (40 : Int) else (t.length : Int)) = (m : Int) := by
    refine ⟨_, rfl, ?_⟩
    rw [HVS.out, List.length_take, Nat.min_def]
    split <;> split <;> omega
  have hmt : m ≤ t.length := by rw [hm, HVS.out, List.length_take]; omega
  obtain ⟨hs1, hs2⟩ := ho.sl.slice_hi eI (t := 29) Try.underlying29 .i64 (m : Int) (by omega) (by omega)
  simp only [Int.toNat_natCast] at hs1 hs2
  have htv : t.take m = vs := by
    rw [hm, HVS.out, List.length_take, Nat.min_def]
    split
    · rfl
    · rw [List.take_of_length_le (Nat.le_refl _), List.take_of_length_le (by omega)]
  rw [htv] at hs2
  have SV3 := Lib.hid hs2
  have HM := Lib.hid hm
  have hm40 : m ≤ 40 := by omega
  generalize t.length = n41 at *
  clear ho hb hs2 htv hm hlc r1
  go_upto_region 4 with fail
  have A4 := below_alloc w3 (.cells #[.int .i64 tag, .int .i64 width, .slice a2 is.length c2, .int .i64 A, .int .i64 B] 24)
  have N4 := heap_alloc_new w3 (.cells #[.int .i64 tag, .int .i64 width, .slice a2 is.length c2, .int .i64 A, .int .i64 B] 24)
  generalize w3.alloc (.cells #[.int .i64 tag, .int .i64 width, .slice a2 is.length c2, .int .i64 A, .int .i64 B] 24) = w4 at *
  have X4 := Lib.hid (bt X3.out A4); have F4 := Lib.hid (blk_le F3.out A4); have O24 := Lib.hid (O23.out.le A4); have SV4 := Lib.hid (SV3.out.le A4); have N4' := Lib.hid N4
  clear A4 N4
  go_upto_region 5 with fail
  go_cut [9] from 31 to 38 (fun s wx => ∃ k : Nat, s = .int .i64 k ∧ k ≤ m ∧ wx = w4)
  case first =>
    go_wp2_with fail
    go_meet
    have hu : IntKind.u64.wrap x = x % 18446744073709551616 := IntKind.wrap_u64 x
    have h1 := Int.emod_nonneg x (show (18446744073709551616 : Int) ≠ 0 by omega)
    rw [hu, Int.tmod_eq_emod_of_nonneg h1]
    have h2 := Int.emod_nonneg (x % 18446744073709551616) (show (m : Int) + 1 ≠ 0 by omega)
    have h3 := Int.emod_lt_of_pos (x % 18446744073709551616) (show (0 : Int) < (m : Int) + 1 by omega)
    generalize x % 18446744073709551616 % ((m : Int) + 1) = y at *
    refine ⟨y.toNat, ?_, by omega, rfl⟩
    have : wrap64 y = (y.toNat : Int) := by unfold wrap64; omega
    rw [this]
  case rest =>
    obtain ⟨k, rfl, hkm, rfl⟩ := hcut
    obtain ⟨r1, -⟩ := blk F4.out
    obtain ⟨q1, -⟩ := blk N4'.out
    have hkv : k ≤ vs.length := by have := HM.out; omega
    have HXB := Lib.hid (show ∀ v ∈ vs.take k, i64b v from fun v h => HVB.out v (List.mem_of_mem_take h))
    have HYB := Lib.hid (show ∀ v ∈ vs.drop k, i64b v from fun v h => HVB.out v (List.mem_of_mem_drop h))
    have hxl : (vs.take k).length ≤ 40 := by rw [List.length_take]; omega
    have hyl : (vs.drop k).length ≤ 40 := by rw [List.length_drop]; omega
    have SVM := SV4.out
    rw [HM.out] at SVM
    obtain ⟨sx1, sx2⟩ := SVM.slice_hi eI (t := 29) Try.underlying29 .i64 (k : Int) (by omega) (by omega)
    obtain ⟨ay, cy, sy1, sy2, -⟩ := SVM.slice_lo eI (t := 29) Try.underlying29 .i64 (k : Int) (by omega) (by omega)
    simp only [Int.toNat_natCast] at sx1 sx2 sy1 sy2
    try rw [← HM.out] at sx1
    try rw [← HM.out] at sx2
    try rw [← HM.out] at sy1
    try rw [← HM.out] at sy2
    have SX := Lib.hid sx2; have SY := Lib.hid sy2
    have HPE := Lib.hid (parts_err ⟨tag, width, a2, is.length, c2, A, B⟩ is ⟨cnt, sm⟩ (vs.take k) (vs.drop k))
    have HPO := Lib.hid (parts_ok ⟨tag, width, a2, is.length, c2, A, B⟩ is ⟨cnt, sm⟩ (vs.take k) (vs.drop k) HC.out HXB.out)
    rw [List.take_append_drop] at HPE HPO
    clear sx2 sy2 SVM
    go_wp2_with fail
    refine (Run_any ⟨tag, width, a2, is.length, c2, A, B⟩ is ⟨cnt, sm⟩ vs _ _ HO.out O24.out.sl HIB.out HC.out (by have := SV4.out; rwa [HM.out] at this ⊢) HVB.out (by omega)).mono ?_
    rintro e w5 ⟨v5, he, ho, hb⟩
    rw [if_neg (by omega)] at he ho
    generalize hR : runS ⟨tag, width, a2, is.length, c2, A, B⟩ is ⟨cnt, sm⟩ vs = R at *
    obtain ⟨⟨c5, s5⟩, out, er⟩ := R
    simp only at he ho
    subst he
    obtain ⟨a5, k5, hv, -⟩ := ho.sl.ex
    subst hv
    have X5 := Lib.hid (bt X4.out hb); have F5 := Lib.hid (blk_le F4.out hb); have O25 := Lib.hid (O24.out.le hb); have SX5 := Lib.hid (SX.out.le hb); have SY5 := Lib.hid (SY.out.le hb); have N5 := Lib.hid (blk_le N4'.out hb); have O5 := Lib.hid ho
    clear ho hb r1 q1 hR
    go_upto_region 7 with fail
    have A6 := below_alloc w5 (.cells #[.int .i64 c5, .int .i64 s5] 26)
    have N6 := heap_alloc_new w5 (.cells #[.int .i64 c5, .int .i64 s5] 26)
    generalize w5.alloc (.cells #[.int .i64 c5, .int .i64 s5] 26) = w6 at *
    have X6 := Lib.hid (bt X5.out A6); have F6 := Lib.hid (blk_le F5.out A6); have O26 := Lib.hid (O25.out.le A6); have SX6 := Lib.hid (SX5.out.le A6); have SY6 := Lib.hid (SY5.out.le A6); have P6 := Lib.hid (blk_le N5.out A6); have O56 := Lib.hid (O5.out.le A6); have N6' := Lib.hid N6
    clear A6 N6
    obtain ⟨r1, -⟩ := blk F6.out
    obtain ⟨q1, -⟩ := blk P6.out
    have RX := Lib.hid (show ∀ w', Below w6.heap.size w6 w' → Calls Try.prog 13 #[.agg #[.int .i64 tag, .int .i64 width, .slice a2 is.length c2, .int .i64 A, .int .i64 B], .agg #[.int .i64 cnt, .int .i64 sm], .slice a3 k c3] w' fun e w'' => ∃ v', e = .returned (.tuple #[(runS ⟨tag, width, a2, is.length, c2, A, B⟩ is ⟨cnt, sm⟩ (vs.take k)).1.val, v', .int .i64 (runS ⟨tag, width, a2, is.length, c2, A, B⟩ is ⟨cnt, sm⟩ (vs.take k)).2.2]) ∧ Own EI w'' w'.heap.size v' (runS ⟨tag, width, a2, is.length, c2, A, B⟩ is ⟨cnt, sm⟩ (vs.take k)).2.1 ∧ Below w'.heap.size w' w'' from fun w' hb => by
      have := Run_any ⟨tag, width, a2, is.length, c2, A, B⟩ is ⟨cnt, sm⟩ (vs.take k) _ w' HO.out (O26.out.sl.le hb) HIB.out HC.out (SX6.out.le hb) HXB.out (by omega)
      rwa [if_neg (by omega)] at this)
    have HLX := Lib.hid (runS_len ⟨tag, width, a2, is.length, c2, A, B⟩ is ⟨cnt, sm⟩ (vs.take k))
    generalize hR : runS ⟨tag, width, a2, is.length, c2, A, B⟩ is ⟨cnt, sm⟩ (vs.take k) = R at *
    obtain ⟨⟨c7, s7⟩, first, fr⟩ := R
    simp only at RX
    go_cut [13, 14, 15] from 48 to 58 (fun s13 s14 s15 wx => ∃ b13 a14 k14, s13 = .pointer (some ⟨b13, 0, none⟩) ∧ s14 = .slice a14 first.length k14 ∧ s15 = .int .i64 fr ∧ wx.heap[b13]? = some (.cells #[.int .i64 c7, .int .i64 s7] 26 (0, 0)) ∧ Sl EI wx (.slice a14 first.length k14) first ∧ Below w6.heap.size w6 wx)
    case first =>
      have HZ := Lib.hid (show ∀ w3, Below (w6.alloc (.cells #[.int .i64 0, .int .i64 0] 26)).drew.heap.size (w6.alloc (.cells #[.int .i64 0, .int .i64 0] 26)).drew w3 → w3.heap[w6.heap.size]? = some (.cells #[.int .i64 0, .int .i64 0] 26 (0, 0)) from
        fun w3 hb => blk_le (w := (w6.alloc (.cells #[.int .i64 0, .int .i64 0] 26)).drew) (heap_alloc_new w6 _) hb)
      obtain ⟨r2, -⟩ := blk (blk_le F6.out (below_alloc w6 (.cells #[.int .i64 0, .int .i64 0] 26)))
      obtain ⟨q2, -⟩ := blk (blk_le P6.out (below_alloc w6 (.cells #[.int .i64 0, .int .i64 0] 26)))
      go_region_with (refine (RX.out _ (by first | exact (Below.refl _ w6).drew | exact (below_alloc w6 _).drew)).mono ?_; rintro e w7 ⟨v7, he, ho, hb⟩; subst he; obtain ⟨a7, k7, hv, -⟩ := ho.sl.ex; subst hv; (first | (obtain ⟨z1, z2⟩ := blk (HZ.out _ hb); have zz := lt_of_block (HZ.out _ hb)) | skip); have X7 := Lib.hid hb; have O7 := Lib.hid ho; clear ho hb)
      all_goals go_wp2_with fail
      all_goals go_meet
      all_goals first
        | exact ⟨_, _, _, rfl, rfl, rfl, heap_alloc_new w7 _, O7.out.sl.le (below_alloc w7 _), bt (bt (Below.refl _ w6).drew X7.out) (below_alloc w7 _)⟩
        | exact ⟨_, _, _, rfl, rfl, rfl, blk_set (i := 1) (blk_set (i := 0) (HZ.out _ X7.out) _) _, (own_set (own_set O7.out (by simp) 0 _) (by simp) 1 _).sl, ((bt (below_alloc w6 _).drew X7.out).setCell (p := ⟨w6.heap.size, 0, none⟩) (Nat.le_refl _) _).setCell (p := ⟨w6.heap.size, 1, none⟩) (Nat.le_refl _) _⟩
    case rest =>
      obtain ⟨b13, a14, k14, rfl, rfl, rfl, hN, hF, hB⟩ := hcut
      have X8 := Lib.hid (bt X6.out hB); have N8 := Lib.hid hN; have S8 := Lib.hid hF; have P8 := Lib.hid (blk_le P6.out hB); have O28 := Lib.hid (O26.out.le hB); have SY8 := Lib.hid (SY6.out.le hB); have O58 := Lib.hid (O56.out.le hB); have M8 := Lib.hid (blk_le N6'.out hB)
      clear hN hF hB r1 q1 sx1
      obtain ⟨q1, -⟩ := blk P8.out
      obtain ⟨u1, -⟩ := blk N8.out
      by_cases hf0 : fr = 0
      · subst hf0
        obtain ⟨hal, hok7, hfit7, hne, heq⟩ := HPO.out rfl
        simp only at hok7 hfit7 hne heq
        have HAL := Lib.hid hal; have HOK7 := Lib.hid hok7; have HFIT7 := Lib.hid hfit7; have HNE := Lib.hid hne; have HEQ := Lib.hid heq
        clear hal hok7 hfit7 hne heq
        go_upto_region 10 with fail
        have RY := Lib.hid (show ∀ w', Below wc.heap.size wc w' → Calls Try.prog 13 #[.agg #[.int .i64 tag, .int .i64 width, .slice a2 is.length c2, .int .i64 A, .int .i64 B], .agg #[.int .i64 c7, .int .i64 s7], .slice ay (m - k) cy] w' fun e w'' => ∃ v', e = .returned (.tuple #[(runS ⟨tag, width, a2, is.length, c2, A, B⟩ is ⟨c7, s7⟩ (vs.drop k)).1.val, v', .int .i64 (runS ⟨tag, width, a2, is.length, c2, A, B⟩ is ⟨c7, s7⟩ (vs.drop k)).2.2]) ∧ Own EI w'' w'.heap.size v' (runS ⟨tag, width, a2, is.length, c2, A, B⟩ is ⟨c7, s7⟩ (vs.drop k)).2.1 ∧ Below w'.heap.size w' w'' from fun w' hb => by
          have := Run_any ⟨tag, width, a2, is.length, c2, A, B⟩ is ⟨c7, s7⟩ (vs.drop k) _ w' HO.out (O28.out.sl.le hb) HIB.out HOK7.out (SY8.out.le hb) HYB.out (by omega)
          rwa [if_neg (by omega)] at this)
        have HFW := Lib.hid (show (runS ⟨tag, width, a2, is.length, c2, A, B⟩ is ⟨c7, s7⟩ (vs.drop k)).1.ok from runS_okc _ _ _ _ HOK7.out HYB.out)
        have HFT := Lib.hid (runS_fits ⟨tag, width, a2, is.length, c2, A, B⟩ is ⟨c7, s7⟩ (vs.drop k) HOK7.out HYB.out)
        have HLY := Lib.hid (runS_len ⟨tag, width, a2, is.length, c2, A, B⟩ is ⟨c7, s7⟩ (vs.drop k))
        generalize hR : runS ⟨tag, width, a2, is.length, c2, A, B⟩ is ⟨c7, s7⟩ (vs.drop k) = R at *
        obtain ⟨⟨c9, s9⟩, rest, gr⟩ := R
        simp only at RY
        go_cut [16, 17, 18] from 69 to 78 (fun s16 s17 s18 wx => ∃ b16 a17 k17, s16 = .pointer (some ⟨b16, 0, none⟩) ∧ s17 = .slice a17 rest.length k17 ∧ s18 = .int .i64 gr ∧ wx.heap[b16]? = some (.cells #[.int .i64 c9, .int .i64 s9] 26 (0, 0)) ∧ Sl EI wx (.slice a17 rest.length k17) rest ∧ Below wc.heap.size wc wx)
        case first =>
          have HZ := Lib.hid (show ∀ w3, Below (wc.alloc (.cells #[.int .i64 0, .int .i64 0] 26)).drew.heap.size (wc.alloc (.cells #[.int .i64 0, .int .i64 0] 26)).drew w3 → w3.heap[wc.heap.size]? = some (.cells #[.int .i64 0, .int .i64 0] 26 (0, 0)) from
            fun w3 hb => blk_le (w := (wc.alloc (.cells #[.int .i64 0, .int .i64 0] 26)).drew) (heap_alloc_new wc _) hb)
          obtain ⟨u2, -⟩ := blk (blk_le N8.out (below_alloc wc (.cells #[.int .i64 0, .int .i64 0] 26)))
          obtain ⟨q2, -⟩ := blk (blk_le P8.out (below_alloc wc (.cells #[.int .i64 0, .int .i64 0] 26)))
          go_region_with (refine (RY.out _ (by first | exact (Below.refl _ wc).drew | exact (below_alloc wc _).drew)).mono ?_; rintro e w7 ⟨v7, he, ho, hb⟩; subst he; obtain ⟨a7, k7, hv, -⟩ := ho.sl.ex; subst hv; (first | (obtain ⟨z1, z2⟩ := blk (HZ.out _ hb); have zz := lt_of_block (HZ.out _ hb)) | skip); have X7 := Lib.hid hb; have O7 := Lib.hid ho; clear ho hb)
          all_goals go_wp2_with fail
          all_goals go_meet
          all_goals first
            | exact ⟨_, _, _, rfl, rfl, rfl, heap_alloc_new w7 _, O7.out.sl.le (below_alloc w7 _), bt (bt (Below.refl _ wc).drew X7.out) (below_alloc w7 _)⟩
            | exact ⟨_, _, _, rfl, rfl, rfl, blk_set (i := 1) (blk_set (i := 0) (HZ.out _ X7.out) _) _, (own_set (own_set O7.out (by simp) 0 _) (by simp) 1 _).sl, ((bt (below_alloc wc _).drew X7.out).setCell (p := ⟨wc.heap.size, 0, none⟩) (Nat.le_refl _) _).setCell (p := ⟨wc.heap.size, 1, none⟩) (Nat.le_refl _) _⟩
        case rest =>
          obtain ⟨b16, a17, k17, rfl, rfl, rfl, hN, hF, hB⟩ := hcut
          have X9 := Lib.hid (bt X8.out hB); have K9 := Lib.hid hN; have T9 := Lib.hid hF; have S9 := Lib.hid (S8.out.le hB); have P9 := Lib.hid (blk_le P8.out hB); have N9 := Lib.hid (blk_le N8.out hB); have O29 := Lib.hid (O28.out.le hB); have O59 := Lib.hid (O58.out.le hB); have M9 := Lib.hid (blk_le M8.out hB)
          clear hN hF hB q1 u1 sy1
          obtain ⟨q1, -⟩ := blk P9.out
          obtain ⟨u1, -⟩ := blk N9.out
          obtain ⟨m1, -⟩ := blk M9.out
          obtain ⟨k1, -⟩ := blk K9.out
          by_cases hg0 : gr = 0
          · subst hg0
            have he := HEQ.out rfl
            simp only [Prod.mk.injEq, CellD.mk.injEq] at he
            obtain ⟨⟨rfl, rfl⟩, hout, rfl⟩ := he
            have HOUT := Lib.hid hout
            have hlf : first.length ≤ 40 := by have := HLX.out; simp only at this; omega
            have hlr : rest.length ≤ 40 := by have := HLY.out; simp only at this; omega
            have FC := Lib.hid (show ∀ w', Below wc.heap.size wc w' → Calls Try.prog 19 #[.agg #[.int .i64 tag, .int .i64 width, .slice a2 is.length c2, .int .i64 A, .int .i64 B], .agg #[.int .i64 c5, .int .i64 s5]] w' fun e w'' => e = .returned (.bool true) ∧ Below w'.heap.size w' w'' from fun w' hb => by
              have := Fits_any ⟨tag, width, a2, is.length, c2, A, B⟩ is ⟨c5, s5⟩ w' HO.out (O29.out.sl.le hb) HIB.out HFW.out
              rwa [rightS_zero _ _ _ HAL.out (HFT.out rfl)] at this)
            have FA := Lib.hid (show ∀ w', Below wc.heap.size wc w' → Calls Try.prog 19 #[.agg #[.int .i64 tag, .int .i64 width, .slice a2 is.length c2, .int .i64 A, .int .i64 B], .agg #[.int .i64 c7, .int .i64 s7]] w' fun e w'' => e = .returned (.bool true) ∧ Below w'.heap.size w' w'' from fun w' hb => by
              have := Fits_any ⟨tag, width, a2, is.length, c2, A, B⟩ is ⟨c7, s7⟩ w' HO.out (O29.out.sl.le hb) HIB.out HOK7.out
              rwa [rightS_zero _ _ _ HAL.out HFIT7.out] at this)
            have A10 := below_alloc wc (.cells #[.slice a14 first.length k14, .slice a17 rest.length k17] 29)
            have D10 := Lib.hid A10; have SF := Lib.hid (S9.out.le A10); have TF := Lib.hid (T9.out.le A10)
            clear hout A10
            go_wp2_with fail
            refine (concat29_two first rest _ _ wc.heap.size _ SF.out TF.out (heap_alloc_new wc _) (by omega) (by omega)).mono ?_
            rintro e w11 ⟨v11, he, ho, hb⟩
            rw [← HOUT.out] at ho
            subst he
            obtain ⟨a11, k11, hv, -⟩ := ho.sl.ex
            subst hv
            have B11 := Lib.hid (bt D10.out hb); have O11 := Lib.hid ho
            clear ho hb q1 u1 m1 k1
            go_wp2_with fail
            refine (equal28_same out _ _ _ (O59.out.sl.le B11.out) O11.out.sl).mono ?_
            rintro e w12 ⟨rfl, hb⟩
            have B12 := Lib.hid (bt B11.out hb)
            clear hb
            obtain ⟨q1, -⟩ := blk (blk_le P9.out B12.out)
            obtain ⟨m1, -⟩ := blk (blk_le M9.out B12.out)
            go_wp2_with fail
            refine (FC.out _ B12.out).mono ?_
            rintro e w13 ⟨rfl, hb⟩
            have B13 := Lib.hid (bt B12.out hb)
            clear hb q1 m1
            obtain ⟨q1, -⟩ := blk (blk_le P9.out B13.out)
            obtain ⟨u1, -⟩ := blk (blk_le N9.out B13.out)
            go_wp2_with fail
            refine (FA.out _ B13.out).mono ?_
            rintro e w14 ⟨rfl, hb⟩
            have B14 := Lib.hid (bt B13.out hb)
            clear hb
            go_wp2_with fail
            go_ret
            exact ⟨rfl, bt X9.out B14.out⟩
          · have g1 : (gr != 0) = true := by simpa using hg0
            have he := HNE.out hg0
            simp only at he
            subst he
            go_wp2_with fail
            go_ret
            exact ⟨by first | rfl | exact ret_bool (by simp), X9.out⟩
      · have g0 : (fr != 0) = true := by simpa using hf0
        obtain ⟨he1, he2⟩ := HPE.out hf0
        simp only at he1 he2
        subst he1 he2
        go_wp2_with fail
        go_ret
        exact ⟨by first | rfl | exact ret_bool (by simp), X8.out⟩
end Go.Proofs.Ytipblkdekppbfaa
