/- Plain law: a record does to its part what it does to all. -/
import Derived.Test.YtmkncbddjnaklaaUO0
import Derived.Test.YtmkncbddjnaklaaUM0
import Derived.Test.YtmkncbddjnaklaaTRd
import Derived.Test.YtmkncbddjnaklaaTK
namespace Go.Proofs.Ytmkncbddjnaklaa
open Go.RowKit
open Nat renaming reduceEqDiff → nA, reduceLT → nB, reduceLeDiff → nC, reduceAdd → nD, reduceMul → nE, reduceSub → nF, reduceBEq → nG
open Int renaming reduceToNat → iA, reduceLT → iB, reduceLE → iC, reduceEq → iD
open Bool renaming and_eq_true → bA, or_eq_true → bB, or_eq_false_iff → bC, and_eq_false_iff → bD, not_eq_true' → bE, not_eq_false' → bF, not_true → bG, not_false → bH
set_option linter.all false
set_option maxHeartbeats 4000000
attribute [local irreducible] AW Does ACall tE tS tB tZ

theorem runS_oneX (o : OpD) (c : CellD) (v : Int) (ha : aloneS o = true) (hf : fitsS o c = true) : runS o c [v] = if c.count = 9223372036854775807 then (zeroC, [], 6) else ((stepS o c v).1, if (stepS o c v).2.2 then [(stepS o c v).2.1] else [], 0) := by
  have hfl : flowS o c [v] = if c.count = 9223372036854775807 then (c, [], 6) else ((stepS o c v).1, if (stepS o c v).2.2 then [(stepS o c v).2.1] else [], 0) := by
    show fstep o (c, [], 0) v = _
    unfold fstep; simp
  unfold runS
  rw [ha, hf, hfl]
  by_cases hm : c.count = 9223372036854775807 <;> simp [hm]
theorem DoT_eqX (o : OpD) (T : List KC) (r : Rec) : DoT o T r = if tOk T = false then ([], [], 220) else if recOk r = false then ([], [], 150) else
    if (runS o (getS T r) [r.v]).2.2 ≠ 0 then ([], [], (runS o (getS T r) [r.v]).2.2) else (setS T r (runS o (getS T r) [r.v]).1, (runS o (getS T r) [r.v]).2.1.map (recV r), 0) := by
  unfold DoT
  simp only [runA]
  by_cases hk : tOk T = false
  · rw [if_pos hk, if_pos hk]
  by_cases hq : recOk r = false
  · simp [hk, hq]
  by_cases h : (runS o (getS T r) [r.v]).2.2 = 0 <;> simp [hk, hq, h]
theorem fits_nzX {o : OpD} {c : CellD} (hf : fitsS o c = true) : c = zeroC ∨ 1 ≤ c.count := by
  unfold fitsS soundS at hf
  split at hf
  · simp only [Bool.or_eq_true, decide_eq_true_eq] at hf
    rcases hf with h | h
    · right; omega
    · exact .inl h
  · split at hf
    · simp only [Bool.and_eq_true, Bool.or_eq_true, decide_eq_true_eq] at hf
      rcases hf.1 with h | h
      · right; omega
      · exact .inl h
    · exact .inl (of_decide_eq_true hf)
theorem runS_nzX (o : OpD) (c : CellD) (v : Int) (hok : c.ok) (he : (runS o c [v]).2.2 = 0) : (runS o c [v]).1 = zeroC ∨ 1 ≤ (runS o c [v]).1.count := by
  have hd : runS o c [v] = if aloneS o = false then (zeroC, [], 180) else if fitsS o c = false then (zeroC, [], 181) else if (flowS o c [v]).2.2 ≠ 0 then (zeroC, [], (flowS o c [v]).2.2) else ((flowS o c [v]).1, (flowS o c [v]).2.1, 0) := rfl
  cases ha : aloneS o
  · rw [hd, ha]; exact .inl rfl
  cases hf : fitsS o c
  · rw [hd, ha, hf]; exact .inl rfl
  have hone := runS_oneX o c v ha hf
  rw [hone] at he ⊢
  by_cases hm : c.count = 9223372036854775807
  · rw [if_pos hm]; exact .inl rfl
  · rw [if_neg hm]; exact fits_nzX (fits_step o c v ha hf hok hm)
def okTb (T : List KC) : Prop := ∀ x ∈ T, (cellK x).ok
theorem getS_okX {T : List KC} (h : okTb T) (r : Rec) : (getS T r).ok := by
  unfold getS
  split
  · rename_i x hx
    exact h x (List.mem_of_find?_eq_some hx)
  · unfold CellD.ok i64b; simp
theorem okTb_set {T : List KC} (h : okTb T) (hr : Rise T) (r : Rec) {c : CellD} (hc : c.ok) : okTb (setS T r c) := fun x hx => by
  rw [setS_rp r c T hr] at hx
  rcases rp_mem r c T _ x hx with h1 | rfl
  · exact h x h1
  · exact hc
theorem runS_ok1X (o : OpD) (c : CellD) (v : Int) (hok : c.ok) (hv : i64b v) : (runS o c [v]).1.ok := by
  have hz : zeroC.ok := by unfold CellD.ok i64b zeroC; simp
  have h := (flowS_ok o [v] c hok (by simpa using hv)).1
  unfold runS
  split
  · exact hz
  split
  · exact hz
  split
  · exact hz
  · exact h
theorem fits_run1 {o : OpD} {c : CellD} {v : Int} (hok : c.ok) (he : (runS o c [v]).2.2 = 0) : fitsS o (runS o c [v]).1 = true := by
  obtain ⟨ha, hf, -, -⟩ := runS_ok0 he
  have hone := runS_oneX o c v ha hf
  rw [hone] at he ⊢
  by_cases hm : c.count = 9223372036854775807
  · rw [if_pos hm] at he; simp at he
  · rw [if_neg hm]; exact fits_step o c v ha hf hok hm
theorem fitsT_iff {o : OpD} {T : List KC} : fitsT o T = true ↔ tOk T = true ∧ aloneS o = true ∧ ∀ x ∈ T, fitsS o (cellK x) = true := by
  unfold fitsT
  rw [Bool.and_eq_true, Bool.and_eq_true, List.all_eq_true]
theorem getS_filter {T : List KC} (h : Rise T) (p : KC → Bool) (r : Rec) (hp : ∀ x ∈ T, cmpR (keyS x) r = 0 → p x = true) : getS (T.filter p) r = getS T r := by
  by_cases hh : ∃ x ∈ T, cmpR (keyS x) r = 0
  · obtain ⟨x, hx, he⟩ := hh
    rw [getS_mem h hx he, getS_mem (List.Pairwise.filter p h) (List.mem_filter.2 ⟨hx, hp x hx he⟩) he]
  · rw [getS_no (T := T) fun x hx he => hh ⟨x, hx, he⟩, getS_no fun x hx he => hh ⟨x, (List.mem_filter.1 hx).1, he⟩]
theorem set_mem' {T : List KC} (h : Rise T) (r : Rec) (c : CellD) (z : KC) : z ∈ setS T r c ↔ (z ∈ T ∧ ¬ cmpR (keyS z) r = 0) ∨ (¬ c = zeroC ∧ z = newC r c) := by
  by_cases hc : c = zeroC
  · subst hc; rw [set_mem0 h]; simp
  · rw [set_mem h r hc]; simp [hc]
def ownR (r : Rec) : Int := ownS (r.k.tmod 8) 2
theorem share_law (o : OpD) (T : List KC) (r : Rec) (hf : fitsT o T = true) (hk : okTb T) (hv : i64b r.v) (h0 : (DoT o T r).2.2 = 0) :
    fitsT o (DoT o T r).1 = true ∧ okTb (DoT o T r).1 ∧
    ∃ Q : Nat → List KC, (∀ k : Nat, k < 2 → (mineS r k 2 = true → DoT o (partS T k 2).1 r = (Q k, (DoT o T r).2.1, 0)) ∧ (mineS r k 2 = false → (partS T k 2).1 = Q k) ∧ (Q k).length ≤ T.length + 1) ∧ joinD [] (Q 0) = (Q 0, 0) ∧ joinD (Q 0) (Q 1) = ((DoT o T r).1, 0) := by
  obtain ⟨ht, ha, hfx⟩ := fitsT_iff.1 hf
  have hr := tOk_rise ht
  have hmem := (tOk_iff.1 ht).2
  have hd := DoT_eqX o T r
  rw [if_neg (by rw [ht]; decide)] at hd
  by_cases hq : recOk r = false
  · rw [if_pos hq] at hd; rw [hd] at h0; simp at h0
  rw [if_neg hq] at hd
  have hqt : recOk r = true := by simpa using hq
  by_cases he : (runS o (getS T r) [r.v]).2.2 = 0
  rotate_left
  · rw [if_pos he] at hd; rw [hd] at h0; exact absurd h0 he
  rw [if_neg (by simp [he])] at hd
  have hg := getS_okX hk r
  have hc1 := runS_nzX o (getS T r) r.v hg he
  have hc2 := runS_ok1X o (getS T r) r.v hg hv
  have hc3 := fits_run1 hg he
  have hdo : ∀ P : List KC, tOk P = true → getS P r = getS T r → DoT o P r = (setS P r (runS o (getS T r) [r.v]).1, (runS o (getS T r) [r.v]).2.1.map (recV r), 0) := fun P hP hgP => by
    have h := DoT_eqX o P r
    rw [if_neg (by rw [hP]; decide), if_neg hq, hgP, if_neg (by simp [he])] at h
    exact h
  rw [hd]
  generalize (runS o (getS T r) [r.v]).1 = c at *
  generalize (runS o (getS T r) [r.v]).2.1.map (recV r) = out at *
  clear hd h0
  have hsm := set_mem' hr r c
  have hto : tOk (setS T r c) = true := tOk_set ht hqt hc1
  refine ⟨fitsT_iff.2 ⟨hto, ha, fun x hx => ?_⟩, okTb_set hk hr r hc2, ?_⟩
  · rcases (hsm x).1 hx with ⟨g, -⟩ | ⟨-, rfl⟩
    · exact hfx x g
    · exact hc3
  have hrk : 0 ≤ r.k ∧ r.k < 32 := by
    simp only [recOk, Bool.and_eq_true, decide_eq_true_eq] at hqt
    omega
  have hob : 0 ≤ ownR r ∧ ownR r < 2 := by
    unfold ownR
    rw [Int.tmod_eq_emod_of_nonneg hrk.1]
    exact own_bd (by omega) (by omega) (by omega) (by omega)
  have hmr : ∀ k : Nat, k < 2 → mineS r k 2 = decide (ownR r = k) := fun k hk2 => by
    have hs : shareS k 2 = true := by simp [shareS, widthS]; omega
    unfold mineS
    rw [hqt, hs]; rfl
  have hkey : ∀ x : KC, cmpR (keyS x) r = 0 → ownK x 2 = ownR r := fun x hx => by
    rw [cmpR_zero] at hx
    unfold ownK ownR
    rw [← hx.2]; rfl
  have hpt : ∀ k : Nat, k < 2 → (partS T k 2).1 = T.filter fun x => decide (ownK x 2 = k) := fun k hk2 => by
    have := part_eq ht (w := 2) (i := k) (by omega) hk2
    rw [show (((2 : Nat) : Int)) = 2 from rfl] at this
    rw [this]
  let Q : Nat → List KC := fun k => if ownR r = k then setS (T.filter fun x => decide (ownK x 2 = k)) r c else T.filter fun x => decide (ownK x 2 = k)
  have hfr : ∀ k : Nat, Rise (T.filter fun x => decide (ownK x 2 = k)) := fun k => List.Pairwise.filter _ hr
  have hQm : ∀ (k : Nat) z, z ∈ Q k ↔ (z ∈ T ∧ ownK z 2 = k ∧ ¬ cmpR (keyS z) r = 0) ∨ (ownR r = k ∧ ¬ c = zeroC ∧ z = newC r c) := fun k z => by
    show z ∈ (if ownR r = k then _ else _) ↔ _
    by_cases h : ownR r = k
    · rw [if_pos h, set_mem' (hfr k), List.mem_filter]
      simp [h, and_assoc]
    · rw [if_neg h, List.mem_filter]
      simp only [decide_eq_true_eq]
      constructor
      · rintro ⟨g1, g2⟩
        exact .inl ⟨g1, g2, fun h0 => h (by rw [← hkey z h0]; exact g2)⟩
      · rintro (⟨g1, g2, -⟩ | ⟨g1, -⟩)
        · exact ⟨g1, g2⟩
        · exact absurd g1 h
  have hQt : ∀ k : Nat, tOk (Q k) = true := fun k => by
    show tOk (if ownR r = k then _ else _) = true
    by_cases h : ownR r = k
    · rw [if_pos h]; exact tOk_set (tOk_filter ht _) hqt hc1
    · rw [if_neg h]; exact tOk_filter ht _
  have hQo : ∀ (k : Nat) z, z ∈ Q k → ownK z 2 = k := fun k z hz => by
    rcases (hQm k z).1 hz with ⟨-, g, -⟩ | ⟨g, -, rfl⟩
    · exact g
    · rw [hkey (newC r c) (by rw [key_new]; exact ⟨rfl, rfl⟩)]; exact g
  refine ⟨Q, fun k hk2 => ⟨fun hm => ?_, fun hm => ?_, ?_⟩, ?_, ?_⟩
  · rw [hmr k hk2, decide_eq_true_eq] at hm
    rw [hpt k hk2, hdo _ (tOk_filter ht _) (getS_filter hr _ r fun x hx h0 => by rw [hkey x h0, hm]; simp)]
    show _ = ((if ownR r = k then _ else _), out, (0 : Int))
    rw [if_pos hm]
  · rw [hmr k hk2, decide_eq_false_iff_not] at hm
    rw [hpt k hk2]
    show _ = (if ownR r = k then _ else _)
    rw [if_neg hm]
  · have h1 : (T.filter fun x => decide (ownK x 2 = k)).length ≤ T.length := List.length_filter_le _ _
    have h2 := setS_len (T.filter fun x => decide (ownK x 2 = k)) r c
    show (if ownR r = k then _ else _ : List KC).length ≤ _
    split <;> omega
  · obtain ⟨j1, j2, j3⟩ := joinD_ok (a := []) rfl (hQt 0) (fun x _ y hy => by cases hy)
    have : (joinD [] (Q 0)).1 = Q 0 := rise_ext (tOk_rise j2) (tOk_rise (hQt 0)) (fun z => by rw [j3 z]; simp)
    exact Prod.ext this j1
  · obtain ⟨j1, j2, j3⟩ := joinD_ok (hQt 0) (hQt 1) (fun x hx y hy h0 => by
      have e1 := hQo 1 x hx
      have e0 := hQo 0 y hy
      have : ownK x 2 = ownK y 2 := by
        rw [cmpR_zero] at h0
        simp only [keyS] at h0
        unfold ownK; rw [h0.2]
      omega)
    have : (joinD (Q 0) (Q 1)).1 = setS T r c := rise_ext (tOk_rise j2) (tOk_rise hto) (fun z => by
      rw [j3 z, hQm 0 z, hQm 1 z, hsm z]
      constructor
      · rintro ((⟨g1, -, g3⟩ | ⟨-, g⟩) | (⟨g1, -, g3⟩ | ⟨-, g⟩))
        · exact .inl ⟨g1, g3⟩
        · exact .inr g
        · exact .inl ⟨g1, g3⟩
        · exact .inr g
      · rintro (⟨g1, g2⟩ | g)
        · have hb := ownK_bd (hmem z g1).1 (w := 2) (by omega) (by omega)
          have h01 : ownK z 2 = ((0 : Nat) : Int) ∨ ownK z 2 = ((1 : Nat) : Int) := by omega
          rcases h01 with e | e
          · exact .inl (.inl ⟨g1, e, g2⟩)
          · exact .inr (.inl ⟨g1, e, g2⟩)
        · have h01 : ownR r = ((0 : Nat) : Int) ∨ ownR r = ((1 : Nat) : Int) := by omega
          rcases h01 with e | e
          · exact .inl (.inr ⟨e, g⟩)
          · exact .inr (.inr ⟨e, g⟩))
    exact Prod.ext this j1
end Go.Proofs.Ytmkncbddjnaklaa
