/- Walk: OpsSums. Conditions: as each theorem states them. -/
import Derived.Test.YtipblkdekppbfaaI
import Derived.Test.YtipblkdekppbfaaPS
import Derived.Test.YtipblkdekppbfaaQ
import Derived.Deep.CutBlock
namespace Go.Proofs.Ytipblkdekppbfaa
open Go.RowKit
set_option linter.unusedVariables false

theorem alloc4 (w : World) (X Y Z V : Obj) : ((((w.alloc X).alloc Y).alloc Z).alloc V).heap[w.heap.size]? = some X ∧ ((((w.alloc X).alloc Y).alloc Z).alloc V).heap[w.heap.size + 1]? = some Y ∧ ((((w.alloc X).alloc Y).alloc Z).alloc V).heap[w.heap.size + 1 + 1]? = some Z ∧ ((((w.alloc X).alloc Y).alloc Z).alloc V).heap[w.heap.size + 1 + 1 + 1]? = some V ∧ Below w.heap.size w ((((w.alloc X).alloc Y).alloc Z).alloc V) := by
  obtain ⟨e1, e2, e3, e4⟩ := alloc3 w X Y Z
  have b := below_alloc (((w.alloc X).alloc Y).alloc Z) V
  refine ⟨blk_le e1 b, blk_le e2 b, blk_le e3 b, ?_, bt e4 b⟩
  have := heap_alloc_new (((w.alloc X).alloc Y).alloc Z) V
  simpa using this

theorem one_sl {w : World} {b : Nat} {n : Int} (h : w.heap[b]? = some (.cells #[.int .i64 n] 3 (0, 0))) : Sl EN w (.slice (some ⟨b, 0, none⟩) 1 1) [n] := by
  refine ⟨_, 1, rfl, Nat.le_refl _, by simp [maxLen], (fun h => by cases h), fun x hx _ => ?_⟩
  obtain rfl := Option.some.inj hx
  refine ⟨rfl, lt_of_block h, fun i hi j u hu => ?_⟩
  simp only [List.length_singleton] at hi
  obtain rfl : i = 0 := by omega
  have := (blk h).1 j
  simp only [Nat.zero_mul, Nat.zero_add] at this ⊢
  rw [this]
  simpa [EN, encI] using hu

def RunsS (out vs : List Int) : Prop := ∀ i, i < vs.length → wrap64 (out.getD i 0 - (if i = 0 then 0 else out.getD (i - 1) 0)) = vs.getD i 0
theorem reduce_runs (o : OpD) (ht : o.tag = 4) (vs : List Int) (hl : vs.length ≤ 1000) (hv : ∀ v ∈ vs, i64b v) :
    i64b (flowS o zeroC vs).1.sum ∧ (flowS o zeroC vs).1.sum % 18446744073709551616 = sumZ vs % 18446744073709551616 ∧ (flowS o zeroC vs).2.1.length = vs.length ∧ RunsS (flowS o zeroC vs).2.1 vs := by
  obtain ⟨h1, h2, h3, h4, h5, h6, h7⟩ := reduce_sums o ht vs hl hv
  refine ⟨h3, h4, h5, fun i hi => ?_⟩
  have := h7 i hi (by omega)
  rw [List.getD_eq_getElem?_getD, List.getElem?_eq_getElem (by omega), List.getD_eq_getElem?_getD (l := vs), List.getElem?_eq_getElem hi]
  exact this

theorem run_window (a : Option Addr) (A : Int) (h1 : 1 ≤ A) (h8 : A ≤ 8) (vs : List Int) : runS ⟨5, 1, a, 1, 1, A, 0⟩ [0] ⟨0, 0⟩ vs = ((flowS ⟨5, 1, a, 1, 1, A, 0⟩ zeroC vs).1, (flowS ⟨5, 1, a, 1, 1, A, 0⟩ zeroC vs).2.1, 0) := by
  have ha : aloneS ⟨5, 1, a, 1, 1, A, 0⟩ [0] = true := by simp [aloneS, risesS, h1, h8]
  have hf : fitsS ⟨5, 1, a, 1, 1, A, 0⟩ ⟨0, 0⟩ = true := by simp [fitsS, soundS, zeroC]; omega
  have he := (window_sums ⟨5, 1, a, 1, 1, A, 0⟩ rfl h1 h8 vs).1
  unfold runS
  rw [if_neg (by simp [ha]), if_neg (by simp [hf])]
  show (if (flowS ⟨5, 1, a, 1, 1, A, 0⟩ zeroC vs).2.2 ≠ 0 then _ else _) = _
  rw [if_neg (by simp [he])]
  rfl
theorem run_reduce (a : Option Addr) (vs : List Int) (hl : vs.length ≤ 1000) (hv : ∀ v ∈ vs, i64b v) : runS ⟨4, 1, a, 1, 1, 0, 0⟩ [0] ⟨0, 0⟩ vs = ((flowS ⟨4, 1, a, 1, 1, 0, 0⟩ zeroC vs).1, (flowS ⟨4, 1, a, 1, 1, 0, 0⟩ zeroC vs).2.1, 0) := by
  have ha : aloneS ⟨4, 1, a, 1, 1, 0, 0⟩ [0] = true := by simp [aloneS, risesS]
  have hf : fitsS ⟨4, 1, a, 1, 1, 0, 0⟩ ⟨0, 0⟩ = true := by simp [fitsS, soundS, zeroC]
  have he := (reduce_sums ⟨4, 1, a, 1, 1, 0, 0⟩ rfl vs hl hv).1
  unfold runS
  rw [if_neg (by simp [ha]), if_neg (by simp [hf])]
  show (if (flowS ⟨4, 1, a, 1, 1, 0, 0⟩ zeroC vs).2.2 ≠ 0 then _ else _) = _
  rw [if_neg (by simp [he])]
  rfl

set_option maxHeartbeats 4000000 in
set_option maxRecDepth 100000 in
theorem sums_walk (W : World) (x : Int) (hx1 : -9223372036854775808 ≤ x) (hx2 : x ≤ 9223372036854775807) (l : List Int) (vl : Value) (hL : Sl EI W vl l) (hl : ∀ x ∈ l, i64b x) :
    Calls Try.prog 5 #[.int .i64 x, vl] W fun e w' => e = .returned (.bool true) ∧ Below W.heap.size W w' := by
  obtain ⟨al, cl, hv, -⟩ := hL.ex
  subst hv
  have HL := Lib.hid hL
  obtain ⟨t, ht41⟩ : ∃ t, l.take 41 = t := ⟨_, rfl⟩
  have htl : t.length ≤ 41 := by rw [← ht41, List.length_take]; omega
  have HT41 := Lib.hid ht41
  obtain ⟨vs, hvs⟩ : ∃ vs, vs = t.take 40 := ⟨_, rfl⟩
  have hvb : ∀ v ∈ vs, i64b v := fun v h => hl v (List.mem_of_mem_take (ht41 ▸ List.mem_of_mem_take (hvs ▸ h)))
  have hvl : vs.length ≤ 40 := by rw [hvs, List.length_take]; omega
  obtain ⟨A, hmod⟩ : ∃ A, modS x 8 = A := ⟨_, rfl⟩
  have hA18 : 0 ≤ A ∧ A ≤ 7 := by
    rw [← hmod]; unfold modS; rw [if_neg (by omega)]; omega
  have HVS := Lib.hid hvs; have HVB := Lib.hid hvb; have HMOD := Lib.hid hmod
  obtain ⟨hA1, hA8⟩ := hA18
  clear hL hl hvs hvb hmod ht41
  go_enter Try.func5, Try.ntmps5
  go_wp2_with fail
  refine (wakes_any _).mono ?_
  rintro e w1 ⟨rfl, hb⟩
  have X1 := Lib.hid hb
  clear hb
  go_wp2_with fail
  refine (few_any l _ _ (HL.out.le X1.out)).mono ?_
  rintro e w2 ⟨v2, rfl, ho, hb⟩
  rw [HT41.out] at ho
  have X2 := Lib.hid (bt X1.out hb)
  obtain ⟨a2, c2, hv, hlc, -⟩ := ho.sl.ex
  subst hv
  obtain ⟨m, hm, hm2⟩ : ∃ m : Nat, m = vs.length ∧ (if (40 : Int) < (t.length : Int) then (40 : Int) else (t.length : Int)) = (m : Int) := by
    refine ⟨_, rfl, ?_⟩
    rw [HVS.out, List.length_take, Nat.min_def]
    split <;> split <;> omega
  have hmt : m ≤ t.length := by rw [hm, HVS.out, List.length_take]; omega
  obtain ⟨hs1, hs2⟩ := ho.sl.slice_hi eI (t := 29) Try.underlying29 .i64 (m : Int) (by omega) (by omega)
  simp only [Int.toNat_natCast] at hs1 hs2
  have htv : t.take m = vs := by
    rw [hm, HVS.out, List.length_take, Nat.min_def]
    split
    · rfl
    · rw [List.take_of_length_le (Nat.le_refl _), List.take_of_length_le (by omega)]
  rw [htv] at hs2
  have SV := Lib.hid hs2
  have HM := Lib.hid hm
  have hm40 : m ≤ 40 := by omega
  generalize t.length = n41 at *
  clear ho hb hs2 htv hm hlc
  obtain ⟨e1, e2, e3, e4, e5⟩ := alloc4 w2 (.cells #[.int .i64 0] 3) (.cells #[.int .i64 5, .int .i64 1, .slice (some ⟨w2.heap.size, 0, none⟩) 1 1, .int .i64 (1 + A), .int .i64 0] 24) (.cells #[.int .i64 0] 3) (.cells #[.int .i64 4, .int .i64 1, .slice (some ⟨w2.heap.size + 1 + 1, 0, none⟩) 1 1, .int .i64 0, .int .i64 0] 24)
  have HM16 := Lib.hid (mod16_any x 8 ⟨hx1, hx2⟩ (by unfold i64b; omega))
  go_upto_region 7 with (go_at_call 16; refine (HM16.out _).mono ?_; rintro e w3 ⟨he, rfl⟩; rw [HMOD.out] at he; subst he)
  have b1 := bt X2.out e5
  have S1 : Sl EN ((((w2.alloc (.cells #[.int .i64 0] 3)).alloc (.cells #[.int .i64 5, .int .i64 1, .slice (some ⟨w2.heap.size, 0, none⟩) 1 1, .int .i64 (1 + A), .int .i64 0] 24)).alloc (.cells #[.int .i64 0] 3)).alloc (.cells #[.int .i64 4, .int .i64 1, .slice (some ⟨w2.heap.size + 1 + 1, 0, none⟩) 1 1, .int .i64 0, .int .i64 0] 24)) (.slice (some ⟨w2.heap.size, 0, none⟩) 1 1) [0] := one_sl e1
  have S3 : Sl EN ((((w2.alloc (.cells #[.int .i64 0] 3)).alloc (.cells #[.int .i64 5, .int .i64 1, .slice (some ⟨w2.heap.size, 0, none⟩) 1 1, .int .i64 (1 + A), .int .i64 0] 24)).alloc (.cells #[.int .i64 0] 3)).alloc (.cells #[.int .i64 4, .int .i64 1, .slice (some ⟨w2.heap.size + 1 + 1, 0, none⟩) 1 1, .int .i64 0, .int .i64 0] 24)) (.slice (some ⟨w2.heap.size + 1 + 1, 0, none⟩) 1 1) [0] := one_sl e3
  generalize ((((w2.alloc (.cells #[.int .i64 0] 3)).alloc (.cells #[.int .i64 5, .int .i64 1, .slice (some ⟨w2.heap.size, 0, none⟩) 1 1, .int .i64 (1 + A), .int .i64 0] 24)).alloc (.cells #[.int .i64 0] 3)).alloc (.cells #[.int .i64 4, .int .i64 1, .slice (some ⟨w2.heap.size + 1 + 1, 0, none⟩) 1 1, .int .i64 0, .int .i64 0] 24)) = w4 at *
  have X4 := Lib.hid b1; have SV4 := Lib.hid (SV.out.le e5); have S14 := Lib.hid S1; have S34 := Lib.hid S3; have E4 := Lib.hid e4
  obtain ⟨q1, -⟩ := blk e2
  clear e1 e2 e3 e4 e5 b1 S1 S3
  have RW := Lib.hid (run_window (some ⟨w2.heap.size, 0, none⟩) (1 + A) (by omega) (by omega) vs)
  have RR := Lib.hid (run_reduce (some ⟨w2.heap.size + 1 + 1, 0, none⟩) vs (by omega) HVB.out)
  have WS := Lib.hid (window_sums ⟨5, 1, some ⟨w2.heap.size, 0, none⟩, 1, 1, 1 + A, 0⟩ rfl (by simp only; omega) (by simp only; omega) vs)
  have RS := Lib.hid (reduce_runs ⟨4, 1, some ⟨w2.heap.size + 1 + 1, 0, none⟩, 1, 1, 0, 0⟩ rfl vs (by omega) HVB.out)
  go_wp2_with fail
  refine (Run_any ⟨5, 1, some ⟨w2.heap.size, 0, none⟩, 1, 1, 1 + A, 0⟩ [0] ⟨0, 0⟩ vs _ _ ⟨by simp [i64b], by simp [i64b], by unfold i64b; simp only; omega, by simp [i64b]⟩ S14.out (by simp [i64b]) ⟨by simp [i64b], by simp [i64b]⟩ SV4.out HVB.out (by omega)).mono ?_
  rintro e w5 ⟨v5, he, ho, hb⟩
  rw [if_neg (by omega), RW.out] at he ho
  obtain ⟨⟨wc, ws⟩, wo, we, hwf⟩ : ∃ c o e, flowS ⟨5, 1, some ⟨w2.heap.size, 0, none⟩, 1, 1, 1 + A, 0⟩ zeroC vs = (c, o, e) := ⟨_, _, _, rfl⟩
  have hws := WS.out
  rw [hwf] at he ho hws
  simp only at he ho hws
  subst he
  obtain ⟨a5, c5, hv, -⟩ := ho.sl.ex
  subst hv
  have X5 := Lib.hid (bt X4.out hb); have O5 := Lib.hid ho; have SV5 := Lib.hid (SV4.out.le hb); have S35 := Lib.hid (S34.out.le hb); have E5 := Lib.hid (blk_le E4.out hb)
  have HWS := Lib.hid hws
  have hwo : wo.length ≤ 40 := by
    have := flowS_len ⟨5, 1, some ⟨w2.heap.size, 0, none⟩, 1, 1, 1 + A, 0⟩ vs zeroC
    rw [hwf] at this; simp only at this; omega
  clear ho hb hws hwf q1
  go_upto_region 8 with fail
  have A6 := below_alloc w5 (.cells #[.int .i64 wc, .int .i64 ws] 26)
  have N6 := heap_alloc_new w5 (.cells #[.int .i64 wc, .int .i64 ws] 26)
  generalize w5.alloc (.cells #[.int .i64 wc, .int .i64 ws] 26) = w6 at *
  obtain ⟨q1, -⟩ := blk (blk_le E5.out A6)
  have X6 := Lib.hid (bt X5.out A6); have O6 := Lib.hid (O5.out.le A6); have SV6 := Lib.hid (SV5.out.le A6); have S36 := Lib.hid (S35.out.le A6); have N6' := Lib.hid N6
  clear A6 N6
  go_wp2_with fail
  refine (Run_any ⟨4, 1, some ⟨w2.heap.size + 1 + 1, 0, none⟩, 1, 1, 0, 0⟩ [0] ⟨0, 0⟩ vs _ _ (by simp [OpD.ok, i64b]) S36.out (by simp [i64b]) ⟨by simp [i64b], by simp [i64b]⟩ SV6.out HVB.out (by omega)).mono ?_
  rintro e w7 ⟨v7, he, ho, hb⟩
  rw [if_neg (by omega), RR.out] at he ho
  obtain ⟨⟨rc, rs⟩, ro, re, hrf⟩ : ∃ c o e, flowS ⟨4, 1, some ⟨w2.heap.size + 1 + 1, 0, none⟩, 1, 1, 0, 0⟩ zeroC vs = (c, o, e) := ⟨_, _, _, rfl⟩
  have hrs := RS.out
  rw [hrf] at he ho
  rw [hrf] at hrs
  simp only at he ho hrs
  subst he
  obtain ⟨a7, c7, hv, -⟩ := ho.sl.ex
  subst hv
  have X7 := Lib.hid (bt X6.out hb); have O7 := Lib.hid ho; have P7 := Lib.hid (O6.out.le hb); have SV7 := Lib.hid (SV6.out.le hb); have N7 := Lib.hid (blk_le N6'.out hb)
  have HRS := Lib.hid hrs
  have hrl : ro.length = vs.length := hrs.2.2.1
  have HRL := Lib.hid hrl
  have hro40 : ro.length ≤ 40 := by omega
  clear ho hb hrs hrl hrf q1
  go_upto_region 9 with fail
  have A8 := below_alloc w7 (.cells #[.int .i64 rc, .int .i64 rs] 26)
  have N8 := heap_alloc_new w7 (.cells #[.int .i64 rc, .int .i64 rs] 26)
  generalize w7.alloc (.cells #[.int .i64 rc, .int .i64 rs] 26) = w8 at *
  obtain ⟨q1, -⟩ := blk (blk_le N7.out A8)
  obtain ⟨q2, -⟩ := blk N8
  have X8 := Lib.hid (bt X7.out A8)
  obtain ⟨p1, r1, hv1, -, -, -, hc1⟩ := (O7.out.sl.le A8).num
  obtain ⟨p2, r2, hv2, -, -, -, hc2⟩ := (P7.out.sl.le A8).num
  obtain ⟨p3, r3, hv3, -, -, -, hc3⟩ := (SV7.out.le A8).num
  simp only [Value.slice.injEq] at hv1 hv2 hv3
  obtain ⟨rfl, -, rfl⟩ := hv1
  obtain ⟨rfl, -, rfl⟩ := hv2
  obtain ⟨rfl, -, rfl⟩ := hv3
  have HC1 := Lib.hid hc1; have HC2 := Lib.hid hc2; have HC3 := Lib.hid hc3
  have hsum : sum64 ws wo = rs := eq_of_mod (sum64_b _ _ HWS.out.2.2.2.1) HRS.out.1 (by rw [sum64_mod, HWS.out.2.2.2.2, HRS.out.2.1])
  have HSUM := Lib.hid hsum
  have hlm : ((ro.length : Int) != (m : Int)) = false := by have h1 := HRL.out; have h2 := HM.out; simp only [bne_eq_false_iff_eq]; omega
  clear hc1 hc2 hc3 hsum A8 N8
  go_wp2_with fail
  go_loop [14, 56] (fun s i => ∃ k : Nat, k ≤ wo.length ∧ i = .int .i64 k ∧ s = .int .i64 (sum64 ws (wo.take k))) (fun _ i => wo.length - (intOf i).toNat)
  case atStart => exact ⟨0, Nat.zero_le _, rfl, rfl⟩
  case round =>
    obtain ⟨k, hk, rfl, rfl⟩ := hrel
    by_cases hlt : k < wo.length
    · obtain ⟨bb, oo, rfl, hbl, hc⟩ := HC2.out k hlt
      have hck := hc k hlt
      have HT := Lib.hid (take_snoc wo k hlt)
      clear hc
      go_wp2_with fail
      go_round
      case rel => exact ⟨k + 1, hlt, by go_num, by rw [HT.out, sum64_snoc]⟩
      case measure => simp [intOf]; omega
    · obtain rfl : k = wo.length := by omega
      rw [List.take_length, HSUM.out]
      clear hlt hk
      go_wp2_with fail
      go_loop [85] (fun i => ∃ k : Nat, k ≤ ro.length ∧ i = .int .i64 k) (fun i => ro.length - (intOf i).toNat)
      case atStart => exact ⟨0, Nat.zero_le _, rfl⟩
      case round =>
        obtain ⟨k, hk, rfl⟩ := hrel
        by_cases hlt : k < ro.length
        · have hkv : k < vs.length := by have := HRL.out; omega
          have hkm : k < m := by have := HM.out; omega
          obtain ⟨b1, o1, rfl, hbl1, hc1⟩ := HC1.out k hlt
          obtain ⟨b3, o3, rfl, hbl3, hc3⟩ := HC3.out k hkv
          have hck := hc1 k hlt
          have hcv := hc3 k hkv
          obtain ⟨y, hy⟩ : ∃ y, ro[k] = y := ⟨_, rfl⟩
          obtain ⟨z, hz⟩ : ∃ z, vs[k] = z := ⟨_, rfl⟩
          rw [hy] at hck
          rw [hz] at hcv
          have hrun := HRS.out.2.2.2 k hkv
          rw [List.getD_eq_getElem?_getD, List.getElem?_eq_getElem hlt, List.getD_eq_getElem?_getD (l := vs), List.getElem?_eq_getElem hkv] at hrun
          simp only [Option.getD_some, hy, hz] at hrun
          by_cases hk0 : k = 0
          · subst hk0
            rw [if_pos rfl] at hrun
            have hrun' : wrap64 y = z := by simpa using hrun
            have hne : (wrap64 (y - 0) != z) = false := by simp [hrun']
            have hne2 : (wrap64 y != z) = false := by simp [hrun']
            have HYB := Lib.hid hrun'
            simp only [Nat.add_zero] at hck hcv
            clear hrun hrun' hc1 hc3 hy hz
            go_wp2_with fail
            go_round
            case rel => exact ⟨1, hlt, by go_num⟩
            case measure => simp [intOf]; omega
          · obtain ⟨j, rfl⟩ : ∃ j, k = j + 1 := ⟨k - 1, by omega⟩
            rw [if_neg hk0, Nat.add_sub_cancel] at hrun
            have hlj : j < ro.length := by omega
            have hcj := hc1 j hlj
            obtain ⟨u, hu⟩ : ∃ u, ro[j] = u := ⟨_, rfl⟩
            rw [hu] at hcj
            rw [List.getD_eq_getElem?_getD, List.getElem?_eq_getElem hlj] at hrun
            simp only [Option.getD_some, hu] at hrun
            have hne : (wrap64 (y - u) != z) = false := by simp [hrun]
            clear hrun hc1 hc3 hy hz hu hk0
            go_wp2_with fail
            go_round
            case rel => exact ⟨j + 1 + 1, hlt, by go_num⟩
            case measure => simp [intOf]; omega
        · go_wp2_with fail
          go_ret
          exact ⟨rfl, X8.out⟩
end Go.Proofs.Ytipblkdekppbfaa
