/- Walks: sum.Seal32, sum.Open32, the document's Seal and Open, slices.Clone. Conditions: as each theorem states them. -/
import Derived.Test.YtclhhnmafmicpaaS
import Derived.Test.YtclhhnmafmicpaaQ
namespace Go.Proofs.Ytclhhnmafmicpaa
open Go.RowKit
set_option linter.unusedVariables false

/-- bytes, and their sum behind them -/
def sealS (l : List UInt8) : List UInt8 := l ++ hi (sumS l) 4
/-- what was sealed -/
def openS (b : List UInt8) : List UInt8 × Int :=
  if b.length < 4 then ([], 7) else if numB (b.drop (b.length - 4)) ≠ sumS (b.take (b.length - 4)) then ([], 130) else (b.take (b.length - 4), 0)

theorem seal_len (l : List UInt8) : (sealS l).length = l.length + 4 := by simp [sealS, hi_len]

theorem seal_iff (b : List UInt8) (h : 4 ≤ b.length) : sealS (b.take (b.length - 4)) = b ↔ numB (b.drop (b.length - 4)) = sumS (b.take (b.length - 4)) := by
  have hd : (b.drop (b.length - 4)).length = 4 := by rw [List.length_drop]; omega
  have hb := List.take_append_drop (b.length - 4) b
  have hlt := sumS_lt (b.take (b.length - 4))
  generalize b.take (b.length - 4) = p at *
  generalize b.drop (b.length - 4) = q at *
  subst hb
  unfold sealS
  constructor
  · intro e
    have e2 := List.append_cancel_left e
    rw [← e2, numB_hi, Nat.mod_eq_of_lt (by rw [show (256 : Nat) ^ 4 = 4294967296 by decide]; exact hlt)]
  · intro e
    rw [← e, hi_numB 4 q hd]

theorem open_seal (l : List UInt8) : openS (sealS l) = (l, 0) := by
  have hl := seal_len l
  have h1 : (sealS l).take ((sealS l).length - 4) = l := by rw [hl]; simp [sealS]
  have h2 := (seal_iff (sealS l) (by omega)).1 (by rw [h1])
  rw [h1] at h2
  unfold openS
  rw [if_neg (by omega), h1, if_neg (by simp [h2])]

set_option maxHeartbeats 400000 in
theorem seal_any (l : List UInt8) (v : Value) (w : World) (hB : Sl EB w v l) (hl : l.length ≤ 10000000) :
   Calls Try.prog 40 #[v] w fun e w' => ∃ v', e = .returned v' ∧ Own EB w' w.heap.size v' (sealS l) ∧ Below w.heap.size w w' := by
  have HB := Lib.hid hB
  have hlt := sumS_lt l
  have HS := Lib.hid (sum32_any l v w hB hl)
  have HD := Lib.hid (show sealS l = l ++ hi (sumS l) 4 from rfl)
  clear hB
  generalize sumS l = s at *
  go_enter Try.func40, Try.ntmps40
  go_wp2_with fail
  refine HS.out.mono ?_
  rintro e w1 ⟨rfl, hb⟩
  have B1 := Lib.hid hb
  go_wp2_with fail
  refine (put32_any l _ s _ (HB.out.le B1.out) hl (by omega) (by omega)).mono ?_
  rintro e w2 ⟨v2, rfl, ho, hb2⟩
  clear hb
  have O2 := Lib.hid ho; have B2 := Lib.hid hb2
  clear ho hb2
  go_wp2_with fail
  go_ret
  refine ⟨_, rfl, ?_, bt B1.out B2.out⟩
  have := O2.out.mono B1.out.size
  rw [HD.out]
  simpa using this

set_option maxHeartbeats 1000000 in
theorem sclone_any (b : List UInt8) (vb : Value) (w : World) (hB : Sl EB w vb b) (hl : b.length ≤ 100000000) :
   Calls Try.prog 50 #[vb] w fun e w' => ∃ v, e = .returned v ∧ Own EB w' w.heap.size v b ∧ Below w.heap.size w w' := by
  obtain ⟨ab, cb, rfl, b1, b2, b3, b4⟩ := hB.byte
  cases ab with
  | none =>
    have h := b3 rfl
    subst h
    clear b3 b4 hB
    have hn := fun (w : World) => Lib.run_eql_slice_nil (P := Try.prog) w 22 5 none 0 cb 0 0 Try.underlying22
    go_enter Try.func50, Try.ntmps50
    go_wp2_with fail
    go_ret
    exact ⟨_, rfl, Own.nil _ _ _, Below.refl _ _⟩
  | some x =>
    clear b3 b4
    have hn := fun (w : World) => Lib.run_eql_slice_nil (P := Try.prog) w 22 5 (some x) b.length cb 0 0 Try.underlying22
    have HB := Lib.hid hB
    have HO := Lib.hid (Own.made EB w [] #[] rfl (by simp [maxLen]) w.heap.size (Nat.le_refl _) 0 rfl)
    clear hB
    go_enter Try.func50, Try.ntmps50
    go_wp2_with (at_builtin; go_must (refine wpl_app eB HO.out (HB.out.le (below_alloc w _)) rfl rfl Try.underlying22 rfl rfl (by simp [maxLen]; omega) (by simp [encB]; omega) (by simp) ?_; intro v1 w1 hown1 hb1 hg1))
    go_ret
    exact ⟨_, rfl, by simpa using hown1, ((below_alloc w _).trans (hb1.mono (Nat.le_refl _)))⟩

set_option maxHeartbeats 1000000 in
theorem refseal_any (l : List UInt8) (v : Value) (w : World) (hB : Sl EB w v l) (hl : l.length ≤ 900000) :
   Calls Try.prog 43 #[v] w fun e w' => ∃ v', e = .returned v' ∧ Own EB w' w.heap.size v' (sealS l) ∧ Below w.heap.size w w' := by
  have HB := Lib.hid hB
  have hlt := sumS_lt l
  have HS := Lib.hid (refsum_any l v w hB (by omega))
  have HD := Lib.hid (show sealS l = l ++ hi (sumS l) 4 from rfl)
  clear hB
  generalize sumS l = s at *
  go_enter Try.func43, Try.ntmps43
  go_wp2_with fail
  refine HS.out.mono ?_
  rintro e w1 ⟨rfl, rfl⟩
  go_wp2_with fail
  refine (high_any 4 s 4 _ rfl (by omega) (by omega) (by omega)).mono ?_
  rintro e w2 ⟨v2, rfl, ho, hb2⟩
  have O2 := Lib.hid ho; have B2 := Lib.hid hb2
  clear ho hb2
  go_wp2_with fail
  refine (both_any l (hi s 4) _ _ _ (HB.out.le B2.out) (by simpa using O2.out.sl) (by omega) (by rw [hi_len]; omega)).mono ?_
  rintro e w3 ⟨v3, rfl, ho, hb3⟩
  have O3 := Lib.hid ho; have B3 := Lib.hid hb3
  clear ho hb3
  go_wp2_with fail
  go_ret
  refine ⟨_, rfl, ?_, bt B2.out B3.out⟩
  rw [HD.out]
  exact O3.out.mono B2.out.size

set_option maxHeartbeats 1000000 in
theorem open_any (b : List UInt8) (v : Value) (w : World) (hB : Sl EB w v b) (hl : b.length ≤ 900000) :
   Calls Try.prog 41 #[v] w fun e w' => ∃ v', e = .returned (.tuple #[v', .int .i64 (openS b).2]) ∧ Own EB w' w.heap.size v' (openS b).1 ∧ Below w.heap.size w w' := by
  obtain ⟨aa, ca, hv, hlc, _⟩ := hB.ex
  subst hv
  have HB := Lib.hid hB
  clear hB
  by_cases h4 : b.length < 4
  · have HD := Lib.hid (show openS b = ([], 7) by unfold openS; rw [if_pos h4])
    go_enter Try.func41, Try.ntmps41
    go_wp2_with fail
    go_returns
    exact ⟨.slice none 0 0, by rw [HD.out]; rfl, by rw [HD.out]; exact Own.nil _ _ _, Below.refl _ _⟩
  · obtain ⟨m, hm⟩ : ∃ m : Nat, b.length = m + 4 := ⟨b.length - 4, by omega⟩
    obtain ⟨hs1, hs2⟩ := HB.out.slice_hi eB (t := 22) Try.underlying22 .i64 (m : Int) (by omega) (by omega)
    obtain ⟨A, C, ht1, ht2, _⟩ := HB.out.slice_lo eB (t := 22) Try.underlying22 .i64 (m : Int) (by omega) (by omega)
    obtain ⟨hu1, hu2⟩ := HB.out.slice_him eB (t := 22) Try.underlying22 .i64 .i64 (m : Int) (m : Int) (by omega) (by omega) (by omega) (by omega)
    simp only [Int.toNat_natCast] at hs1 hs2 ht1 ht2 hu1 hu2
    rw [hm] at hs1 ht1 ht2 hu1 hlc
    rw [show m + 4 - m = 4 by omega] at ht1 ht2
    have hp1 : (b.take m).length ≤ 900000 := by rw [List.length_take]; omega
    have hp2 : (b.drop m).length = 4 := by rw [List.length_drop]; omega
    have hdef : openS b = if numB (b.drop m) ≠ sumS (b.take m) then ([], 130) else (b.take m, 0) := by
      unfold openS; rw [if_neg h4, hm, Nat.add_sub_cancel]
    have HP := Lib.hid hp2
    have HS := Lib.hid hs2; have HT := Lib.hid ht2; have HU := Lib.hid hu2; have HDF := Lib.hid hdef
    have hsl := sumS_lt (b.take m)
    have hnl : numB (b.drop m) < 4294967296 := by have := numB_lt (b.drop m); rw [hp2] at this; simpa using this
    have HG := Lib.hid (show (giveR (b.drop m) 0 ((4 : Nat) : Int)).2.2 = b.drop m by
      unfold giveR
      rw [if_neg (by simp), if_neg (by omega), if_neg (by omega)]
      show List.take 4 _ = _
      rw [List.take_of_length_le (by omega)])
    have HM := Lib.hid hm
    rw [hm]
    have hmb : m ≤ 900000 := by omega
    clear hs2 ht2 hu2 hdef hp2 hm h4
    by_cases heq : numB (b.drop m) = sumS (b.take m)
    · have HD := Lib.hid (show openS b = (b.take m, 0) by rw [HDF.out, if_neg (by simp [heq])])
      have hq : ((numB (b.drop m) : Int) != (sumS (b.take m) : Int)) = false := by simp [heq]
      have HQ := Lib.hid heq
      clear heq
      go_enter Try.func41, Try.ntmps41
      go_wp2_with fail
      go_region_held3 (fun _ => True) (trivial)
        (first
          | (go_at_call 24; refine (read_any (b.drop m) _ _ (HT.out.le (Below.refl _ w).drew) (by rw [HP.out]; omega)).mono ?_; rintro e w1 ⟨g, rfl, hr, hb⟩; have X1 := Lib.hid (And.intro hr hb); clear hr hb)
          | (go_at_call 29; refine (u32_any g _ (b.drop m) 0 _ X1.out.1 (by rw [HP.out]; omega)).mono ?_; rintro e w2 ⟨he, hr2, hg⟩; rw [HG.out] at he; subst he; have X2 := Lib.hid (show Below w.heap.size w w2 from (bt (Below.refl _ w).drew X1.out.2).grown hg (bt (Below.refl _ w).drew X1.out.2).size (rd_base X1.out.1)); clear hr2 hg)
          | (go_at_call 38; refine (sum32_any (b.take m) _ _ (HS.out.le X2.out) (by omega)).mono ?_; rintro e w3 ⟨rfl, hb3⟩; have X3 := Lib.hid (bt X2.out hb3); clear hb3))
      go_wp2_with fail
      refine (sclone_any (b.take m) _ _ (HU.out.le X3.out) (by omega)).mono ?_
      rintro e w4 ⟨v4, rfl, ho, hb4⟩
      have O4 := Lib.hid ho; have X4 := Lib.hid (bt X3.out hb4)
      clear ho hb4
      go_wp2_with fail
      go_returns
      exact ⟨_, by rw [HD.out]; rfl, by rw [HD.out]; exact O4.out.mono X3.out.size, X4.out⟩
    · have HD := Lib.hid (show openS b = ([], 130) by rw [HDF.out, if_pos heq])
      have hq : ((numB (b.drop m) : Int) != (sumS (b.take m) : Int)) = true := by simp only [bne_iff_ne, ne_eq]; omega
      have HQ := Lib.hid heq
      clear heq
      go_enter Try.func41, Try.ntmps41
      go_wp2_with fail
      go_region_held3 (fun _ => True) (trivial)
        (first
          | (go_at_call 24; refine (read_any (b.drop m) _ _ (HT.out.le (Below.refl _ w).drew) (by rw [HP.out]; omega)).mono ?_; rintro e w1 ⟨g, rfl, hr, hb⟩; have X1 := Lib.hid (And.intro hr hb); clear hr hb)
          | (go_at_call 29; refine (u32_any g _ (b.drop m) 0 _ X1.out.1 (by rw [HP.out]; omega)).mono ?_; rintro e w2 ⟨he, hr2, hg⟩; rw [HG.out] at he; subst he; have X2 := Lib.hid (show Below w.heap.size w w2 from (bt (Below.refl _ w).drew X1.out.2).grown hg (bt (Below.refl _ w).drew X1.out.2).size (rd_base X1.out.1)); clear hr2 hg)
          | (go_at_call 38; refine (sum32_any (b.take m) _ _ (HS.out.le X2.out) (by omega)).mono ?_; rintro e w3 ⟨rfl, hb3⟩; have X3 := Lib.hid (bt X2.out hb3); clear hb3))
      go_wp2_with fail
      go_returns
      exact ⟨.slice none 0 0, by rw [HD.out]; rfl, by rw [HD.out]; exact Own.nil _ _ _, X3.out⟩

set_option maxHeartbeats 1000000 in
theorem refopen_any (b : List UInt8) (v : Value) (w : World) (hB : Sl EB w v b) (hl : b.length ≤ 900000) :
   Calls Try.prog 42 #[v] w fun e w' => ∃ v', e = .returned (.tuple #[v', .int .i64 (openS b).2]) ∧ Own EB w' w.heap.size v' (openS b).1 ∧ Below w.heap.size w w' := by
  obtain ⟨aa, ca, hv, hlc, _⟩ := hB.ex
  subst hv
  have HB := Lib.hid hB
  clear hB
  by_cases h4 : b.length < 4
  · have HD := Lib.hid (show openS b = ([], 7) by unfold openS; rw [if_pos h4])
    go_enter Try.func42, Try.ntmps42
    go_wp2_with fail
    go_returns
    exact ⟨.slice none 0 0, by rw [HD.out]; rfl, by rw [HD.out]; exact Own.nil _ _ _, Below.refl _ _⟩
  · have hiff := Lib.hid (seal_iff b (by omega))
    obtain ⟨m, hm⟩ : ∃ m : Nat, b.length = m + 4 := ⟨b.length - 4, by omega⟩
    obtain ⟨hs1, hs2⟩ := HB.out.slice_hi eB (t := 22) Try.underlying22 .i64 (m : Int) (by omega) (by omega)
    simp only [Int.toNat_natCast] at hs1 hs2
    rw [hm] at hs1 hlc
    have hp1 : (b.take m).length ≤ 900000 := by rw [List.length_take]; omega
    have hdef : openS b = if numB (b.drop m) ≠ sumS (b.take m) then ([], 130) else (b.take m, 0) := by
      unfold openS; rw [if_neg h4, hm, Nat.add_sub_cancel]
    have hiff2 := hiff.out
    rw [hm, Nat.add_sub_cancel] at hiff2
    have HI := Lib.hid hiff2
    have HS := Lib.hid hs2; have HDF := Lib.hid hdef
    have hmb : m ≤ 900000 := by omega
    have HM := Lib.hid hm
    have HLb := Lib.hid (show (b.take m).length + 4 ≤ 900000 by rw [List.length_take]; omega)
    rw [hm]
    clear hs2 hdef hm h4 hiff hiff2
    by_cases heq : sealS (b.take m) = b
    · have HD := Lib.hid (show openS b = (b.take m, 0) by rw [HDF.out, if_neg (by simp [HI.out.1 heq])])
      have HQ := Lib.hid heq
      clear heq
      go_enter Try.func42, Try.ntmps42
      go_wp2_with fail
      refine (refseal_any (b.take m) _ _ HS.out (by have := HLb.out; omega)).mono ?_
      rintro e w1 ⟨v1, rfl, ho, hb⟩
      have O1 := Lib.hid ho; have X1 := Lib.hid hb
      clear ho hb
      go_wp2_with fail
      refine (same_any (sealS (b.take m)) b _ _ _ O1.out.sl (HM.out ▸ HB.out.le X1.out) (by rw [seal_len]; have := HLb.out; omega)).mono ?_
      rintro e w2 ⟨he, hb⟩
      obtain rfl := ret_true he HQ.out
      have X2 := Lib.hid (bt X1.out hb)
      clear he hb
      go_wp2_with fail
      refine (both_any (b.take m) [] _ _ _ (HS.out.le X2.out) (Sl.nil _ _) (by omega) (by simp)).mono ?_
      rintro e w3 ⟨v3, rfl, ho, hb⟩
      rw [List.append_nil] at ho
      have O3 := Lib.hid ho; have X3 := Lib.hid (bt X2.out hb)
      clear ho hb
      go_wp2_with fail
      go_returns
      exact ⟨_, by rw [HD.out]; rfl, by rw [HD.out]; exact O3.out.mono X2.out.size, X3.out⟩
    · have HD := Lib.hid (show openS b = ([], 130) by rw [HDF.out, if_pos (fun h => heq (HI.out.2 h))])
      have HQ := Lib.hid heq
      clear heq
      go_enter Try.func42, Try.ntmps42
      go_wp2_with fail
      refine (refseal_any (b.take m) _ _ HS.out (by have := HLb.out; omega)).mono ?_
      rintro e w1 ⟨v1, rfl, ho, hb⟩
      have O1 := Lib.hid ho; have X1 := Lib.hid hb
      clear ho hb
      go_wp2_with fail
      refine (same_any (sealS (b.take m)) b _ _ _ O1.out.sl (HM.out ▸ HB.out.le X1.out) (by rw [seal_len]; have := HLb.out; omega)).mono ?_
      rintro e w2 ⟨he, hb⟩
      obtain rfl := ret_false he HQ.out
      have X2 := Lib.hid (bt X1.out hb)
      clear he hb
      go_wp2_with fail
      go_returns
      exact ⟨.slice none 0 0, by rw [HD.out]; rfl, by rw [HD.out]; exact Own.nil _ _ _, X2.out⟩
end Go.Proofs.Ytclhhnmafmicpaa
