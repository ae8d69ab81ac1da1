/- The law: a row and its bytes lead back to one another. -/
import Derived.Test.YtfdedgeljijfdaaDS
import Derived.Test.YtfdedgeljijfdaaEN
import Derived.Test.YtfdedgeljijfdaaSH
namespace Go.Proofs.Ytfdedgeljijfdaa
open Go.RowKit
open Nat renaming reduceEqDiff → nA, reduceLT → nB, reduceLeDiff → nC, reduceAdd → nD, reduceMul → nE, reduceSub → nF, reduceBEq → nG
open Int renaming reduceToNat → iA, reduceLT → iB, reduceLE → iC, reduceEq → iD
open Bool renaming and_eq_true → bA, or_eq_true → bB, or_eq_false_iff → bC, and_eq_false_iff → bD, not_eq_true' → bE, not_eq_false' → bF, not_true → bG, not_false → bH
set_option linter.all false
set_option maxHeartbeats 4000000
attribute [local irreducible] AW Does ACall tE tS tB tZ

theorem wrap_back {x : Int} (h0 : 0 ≤ x) (h1 : x < 18446744073709551616) : IntKind.u64.wrap (IntKind.i64.wrap x) = x := by
  have e : IntKind.i64.wrap x = if x < 9223372036854775808 then x else x - 18446744073709551616 := by
    simp only [IntKind.wrap, IntKind.bits, IntKind.signed]; simp; split <;> split <;> omega
  rw [e, IntKind.wrap_u64]
  split <;> omega
theorem wrap_back2 {x : Int} (h0 : -9223372036854775808 ≤ x) (h1 : x ≤ 9223372036854775807) : IntKind.i64.wrap (IntKind.u64.wrap x) = x := by
  have e : IntKind.u64.wrap x = if x < 0 then x + 18446744073709551616 else x := by
    rw [IntKind.wrap_u64]; split <;> omega
  rw [e]
  simp only [IntKind.wrap, IntKind.bits, IntKind.signed]; simp; split <;> split <;> omega
theorem p256_8 : (256 : Int) ^ 8 = 18446744073709551616 := by decide
theorem beB_take (L : List Int) (ho : octs L) (d : Nat) (h : d + 8 ≤ L.length) : beB 8 (IntKind.u64.wrap (IntKind.i64.wrap (numB ((L.drop d).take 8)))) = (L.drop d).take 8 := by
  have hl : ((L.drop d).take 8).length = 8 := by rw [List.length_take, List.length_drop]; omega
  have hoc := (ho.drop d).take 8
  have hb := numB_bd _ hoc
  rw [hl, p256_8] at hb
  rw [wrap_back hb.1 hb.2]
  exact beB_numB 8 _ hl hoc

theorem beB_take0 {L : List Int} (ho : octs L) (h : 8 ≤ L.length) : beB 8 (IntKind.u64.wrap (IntKind.i64.wrap (numB (L.take 8)))) = L.take 8 := by
  have := beB_take L ho 0 (by omega)
  simpa using this
theorem octs_cons {c : Int} {l : List Int} (h : octs (c :: l)) : (0 ≤ c ∧ c < 256) ∧ octs l := ⟨h c (by simp), fun x hx => h x (by simp [hx])⟩
theorem octs_drop {l : List Int} (n : Nat) (h : octs l) : octs (l.drop n) := fun c hc => h c (List.mem_of_mem_drop hc)
theorem elY3 : elY ⟨3, 0, 0, 0, 0⟩ = [3] := by decide +kernel
theorem elR_inv {l l2 : List Int} {y : El} (ho : octs l) (h : elR l = (0, y, l2)) : l = elY y ++ l2 ∧ elOk y = true ∧ octs l2 := by
  cases l with
  | nil => simp [elR] at h
  | cons kd t =>
    obtain ⟨-, ho1⟩ := octs_cons ho
    unfold elR at h
    dsimp only at h
    by_cases hk1 : kd = 1
    · subst hk1
      rw [if_pos rfl] at h
      cases t with
      | nil => simp at h
      | cons s t1 =>
        obtain ⟨hs, ho2⟩ := octs_cons ho1
        simp only at h
        by_cases h7 : 7 < s
        · simp [h7] at h
        rw [if_neg h7] at h
        cases t1 with
        | nil => simp at h
        | cons k t2 =>
          obtain ⟨hkk, ho3⟩ := octs_cons ho2
          simp only at h
          by_cases h31 : 31 < k
          · simp [h31] at h
          rw [if_neg h31] at h
          by_cases h8 : 8 ≤ t2.length
          · rw [if_pos h8] at h
            obtain ⟨rfl, rfl⟩ : y = _ ∧ l2 = _ := by simpa [eq_comm] using h
            refine ⟨?_, ?_, octs_drop 8 ho3⟩
            · unfold elY
              simp only [if_true]
              rw [beB_take0 ho3 h8, wrap_u8 (by omega) (by omega), wrap_u8 (by omega) (by omega), wrap_u8 (by omega) (by omega)]
              simp
            · simp [elOk, recOk]; omega
          · rw [if_neg h8] at h; simp at h
    rw [if_neg hk1] at h
    by_cases hk2 : kd = 2
    · subst hk2
      rw [if_pos rfl] at h
      by_cases h8 : 8 ≤ t.length
      · rw [if_pos h8] at h
        cases hno : numOk (numB (t.take 8))
        · rw [hno] at h; simp at h
        · rw [hno, if_pos rfl] at h
          obtain ⟨rfl, rfl⟩ : y = _ ∧ l2 = _ := by simpa [eq_comm] using h
          refine ⟨?_, ?_, octs_drop 8 ho1⟩
          · unfold elY
            simp only [if_true, show ¬ (2 : Int) = 1 by decide, if_false]
            rw [beB_numB 8 _ (by simp; omega) (fun c hc => ho1 c (List.mem_of_mem_take hc)), wrap_u8 (by omega) (by omega)]
            simp
          · simp [elOk, hno]
      · rw [if_neg h8] at h; simp at h
    rw [if_neg hk2] at h
    by_cases hk3 : kd = 3
    · subst hk3
      rw [if_pos rfl] at h
      obtain ⟨rfl, rfl⟩ : y = _ ∧ l2 = _ := by simpa [eq_comm] using h
      exact ⟨by rw [elY3]; rfl, rfl, ho1⟩
    · rw [if_neg hk3] at h; simp at h
theorem decS_inv : ∀ (n : Nat) (l : List Int) (out x : List El), octs l → decS n l out = (x, 0) → ∃ ys, x = out ++ ys ∧ ys.length = n ∧ ys.flatMap elY = l ∧ ∀ y ∈ ys, elOk y = true
  | 0, l, out, x, ho, h => by
    unfold decS at h
    split at h
    · rename_i hl; subst hl
      obtain rfl : out = x := by simpa using h
      exact ⟨[], by simp, rfl, rfl, by simp⟩
    · simp at h
  | n + 1, l, out, x, ho, h => by
    unfold decS at h
    split at h
    · rename_i he
      obtain ⟨h1, h2, h3⟩ := elR_inv ho (show elR l = (0, (elR l).2.1, (elR l).2.2) by rw [← he])
      obtain ⟨ys, h4, h5, h6, h7⟩ := decS_inv n _ _ x h3 h
      refine ⟨(elR l).2.1 :: ys, by rw [h4]; simp, by simp [h5], by rw [List.flatMap_cons, h6]; exact h1.symm, ?_⟩
      intro y hy
      rcases List.mem_cons.1 hy with rfl | hy
      · exact h2
      · exact h7 y hy
    · rename_i he
      have : (elR l).1 = 0 := by simpa using congrArg Prod.snd h
      exact absurd this he
theorem back1 {b : List Int} (ho : octs b) (h : (decR b).2 = 0) : encR (decR b).1 = (b, 0) ∧ (decR b).1.length ≤ 200 := by
  rw [decR_S] at h ⊢
  cases b with
  | nil => simp at h
  | cons n l =>
    obtain ⟨hn, ho1⟩ := octs_cons ho
    simp only at h ⊢
    split at h
    · simp at h
    · rename_i h200
      rw [if_neg h200]
      obtain ⟨ys, h4, h5, h6, h7⟩ := decS_inv n.toNat l [] _ ho1 (show decS n.toNat l [] = ((decS n.toNat l []).1, 0) by rw [← h])
      rw [List.nil_append] at h4
      rw [h4]
      have hl : ys.length ≤ 200 := by omega
      refine ⟨?_, hl⟩
      unfold encR
      rw [if_neg (by omega), if_neg]
      · unfold rowY
        rw [h6, h5, wrap_u8 (by omega) (by omega)]
        congr 2
        omega
      · simp only [Bool.not_eq_true, List.any_eq_false]
        intro y hy
        simp [h7 y hy]
def El.good (y : El) : Prop := elOk y = true ∧ i64b y.v
theorem elR_elY {y : El} (h : elOk y = true) (hv : i64b y.v) (r : List Int) : elR (elY y ++ r) = (0, y, r) := by
  obtain ⟨kd, s, k, v, nm⟩ := y
  simp only [elOk, recOk, Bool.or_eq_true, Bool.and_eq_true, decide_eq_true_eq] at h
  have hvv : -9223372036854775808 ≤ v ∧ v ≤ 9223372036854775807 := hv
  rcases h with (⟨⟨rfl, h1⟩, rfl⟩ | ⟨⟨⟨⟨rfl, rfl⟩, rfl⟩, rfl⟩, h1⟩) | ⟨⟨⟨⟨rfl, rfl⟩, rfl⟩, rfl⟩, rfl⟩
  · have hw : numB (beB 8 (IntKind.u64.wrap v)) = IntKind.u64.wrap v := by
      have hb : 0 ≤ IntKind.u64.wrap v ∧ IntKind.u64.wrap v < 256 ^ 8 := by rw [p256_8, IntKind.wrap_u64]; omega
      rw [numB_beB 8 _ hb.1]; exact Int.emod_eq_of_lt hb.1 hb.2
    have e : elY ⟨1, s, k, v, 0⟩ ++ r = 1 :: s :: k :: (beB 8 (IntKind.u64.wrap v) ++ r) := by
      unfold elY
      simp only [if_true]
      rw [wrap_u8 (by omega) (by omega), wrap_u8 (by omega) (by omega), wrap_u8 (by omega) (by omega)]
      simp
    rw [e]
    have hl := beB_len 8 (IntKind.u64.wrap v)
    have ht : (beB 8 (IntKind.u64.wrap v) ++ r).take 8 = beB 8 (IntKind.u64.wrap v) := List.take_left' hl
    have hd : (beB 8 (IntKind.u64.wrap v) ++ r).drop 8 = r := List.drop_left' hl
    unfold elR
    dsimp only
    rw [if_pos rfl]
    rw [if_neg (by omega), if_neg (by omega), if_pos (by rw [List.length_append]; omega), ht, hd, hw, wrap_back2 hvv.1 hvv.2]
  · have hno := h1
    simp only [numOk, Bool.and_eq_true, decide_eq_true_eq] at h1
    have hw : numB (beB 8 nm) = nm := by
      rw [numB_beB 8 _ (by omega)]; exact Int.emod_eq_of_lt (by omega) (by rw [p256_8]; omega)
    have e : elY ⟨2, 0, 0, 0, nm⟩ ++ r = 2 :: (beB 8 nm ++ r) := by
      unfold elY
      simp only [if_true, show ¬ (2 : Int) = 1 by decide, if_false]
      rw [wrap_u8 (by omega) (by omega)]
      simp
    rw [e]
    have hl := beB_len 8 nm
    have ht : (beB 8 nm ++ r).take 8 = beB 8 nm := List.take_left' hl
    have hd : (beB 8 nm ++ r).drop 8 = r := List.drop_left' hl
    unfold elR
    dsimp only
    rw [if_neg (by decide), if_pos rfl, if_pos (by rw [List.length_append]; omega), ht, hd, hw, hno, if_pos rfl]
  · rw [elY3]
    rfl
theorem elR_cut {y : El} (h : elOk y = true) (m : Nat) (hm : m < (elY y).length) : (elR ((elY y).take m)).1 = 7 := by
  obtain ⟨kd, s, k, v, nm⟩ := y
  simp only [elOk, recOk, Bool.or_eq_true, Bool.and_eq_true, decide_eq_true_eq] at h
  rcases h with (⟨⟨rfl, h1⟩, rfl⟩ | ⟨⟨⟨⟨rfl, rfl⟩, rfl⟩, rfl⟩, h1⟩) | ⟨⟨⟨⟨rfl, rfl⟩, rfl⟩, rfl⟩, rfl⟩
  · have hl := beB_len 8 (IntKind.u64.wrap v)
    have e : elY ⟨1, s, k, v, 0⟩ = 1 :: s :: k :: beB 8 (IntKind.u64.wrap v) := by
      unfold elY
      simp only [if_true]
      rw [wrap_u8 (by omega) (by omega), wrap_u8 (by omega) (by omega), wrap_u8 (by omega) (by omega)]
      simp
    rw [e] at hm ⊢
    simp only [List.length_cons, hl] at hm
    match m with
    | 0 => rfl
    | 1 => rfl
    | 2 =>
      simp only [List.take_succ_cons, List.take_zero]
      unfold elR
      dsimp only
      rw [if_pos rfl]; try dsimp only
      rw [if_neg (by omega)]
    | m + 3 =>
      simp only [List.take_succ_cons]
      unfold elR
      dsimp only
      rw [if_pos rfl]; try dsimp only
      rw [if_neg (by omega), if_neg (by omega), if_neg (by rw [List.length_take]; omega)]
  · have hl := beB_len 8 nm
    have e : elY ⟨2, 0, 0, 0, nm⟩ = 2 :: beB 8 nm := by
      unfold elY
      simp only [if_true, show ¬ (2 : Int) = 1 by decide, if_false]
      rw [wrap_u8 (by omega) (by omega)]
    rw [e] at hm ⊢
    simp only [List.length_cons, hl] at hm
    match m with
    | 0 => rfl
    | m + 1 =>
      simp only [List.take_succ_cons]
      unfold elR
      dsimp only
      rw [if_neg (by decide), if_pos rfl, if_neg (by rw [List.length_take]; omega)]
  · rw [elY3] at hm ⊢
    simp at hm
    subst hm
    rfl
theorem decS_row : ∀ (l : List El) (out : List El), (∀ y ∈ l, El.good y) → decS l.length (l.flatMap elY) out = (out ++ l, 0)
  | [], out, _ => by simp [decS]
  | y :: l, out, h => by
    have hy := h y (by simp)
    rw [List.length_cons, List.flatMap_cons, decS, elR_elY hy.1 hy.2]
    simp only [if_true]
    rw [decS_row l _ (fun z hz => h z (by simp [hz]))]
    simp
theorem decS_cut : ∀ (l : List El) (out : List El) (m : Nat), (∀ y ∈ l, El.good y) → m < (l.flatMap elY).length → (decS l.length ((l.flatMap elY).take m) out).2 = 7
  | [], out, m, _, hm => by simp at hm
  | y :: l, out, m, h, hm => by
    have hy := h y (by simp)
    rw [List.length_cons, List.flatMap_cons, decS]
    by_cases hlt : m < (elY y).length
    · have h7 := elR_cut hy.1 m hlt
      rw [List.take_append_of_le_length (by omega), h7]
      rfl
    · rw [List.take_append, List.take_of_length_le (by omega), elR_elY hy.1 hy.2]
      simp only [if_true]
      refine decS_cut l _ _ (fun z hz => h z (by simp [hz])) ?_
      rw [List.flatMap_cons, List.length_append] at hm
      omega
theorem enc_inv {l : List El} (h : (encR l).2 = 0) : encR l = (rowY l, 0) ∧ l.length ≤ 200 ∧ ∀ y ∈ l, elOk y = true := by
  unfold encR at h ⊢
  split at h
  · simp at h
  · split at h
    · simp at h
    · rename_i h1 h2
      rw [if_neg h1, if_neg h2]
      refine ⟨rfl, by omega, fun y hy => ?_⟩
      simp only [Bool.not_eq_true, List.any_eq_false] at h2
      simpa using h2 y hy
theorem enc_err {l : List El} (h : (encR l).2 ≠ 0) : (encR l).1 = [] := by
  unfold encR at h ⊢
  split
  · rfl
  · split
    · rfl
    · rename_i h1 h2; rw [if_neg h1, if_neg h2] at h; exact absurd rfl h
theorem back2 {l : List El} (h : (encR l).2 = 0) (hv : ∀ y ∈ l, i64b y.v) : decR (encR l).1 = (l, 0) := by
  obtain ⟨h1, h2, h3⟩ := enc_inv h
  rw [h1, decR_S]
  simp only [rowY]
  rw [wrap_u8 (by omega) (by omega), if_neg (by omega), Int.toNat_natCast, decS_row l [] (fun y hy => ⟨h3 y hy, hv y hy⟩)]
  simp
theorem back3 {l : List El} (h : (encR l).2 = 0) (hv : ∀ y ∈ l, i64b y.v) (m : Nat) (hm : m < (encR l).1.length) : (decR ((encR l).1.take m)).2 = 7 := by
  obtain ⟨h1, h2, h3⟩ := enc_inv h
  rw [h1] at hm ⊢
  rw [decR_S]
  simp only [rowY] at hm ⊢
  cases m with
  | zero => simp
  | succ m =>
    simp only [List.take_succ_cons, List.length_cons] at hm ⊢
    rw [wrap_u8 (by omega) (by omega), if_neg (by omega), Int.toNat_natCast]
    exact decS_cut l [] m (fun y hy => ⟨h3 y hy, hv y hy⟩) (by omega)
theorem elY_octs {y : El} (h : elOk y = true) : octs (elY y) := by
  obtain ⟨kd, s, k, v, nm⟩ := y
  simp only [elOk, recOk, Bool.or_eq_true, Bool.and_eq_true, decide_eq_true_eq] at h
  intro c hc
  unfold elY at hc
  simp only [List.mem_cons] at hc
  rcases hc with rfl | hc
  · rw [IntKind.wrap_u8]; omega
  · split at hc
    · simp only [List.cons_append, List.nil_append, List.mem_cons] at hc
      rcases hc with rfl | rfl | hc
      · rw [IntKind.wrap_u8]; omega
      · rw [IntKind.wrap_u8]; omega
      · exact beB_octs _ _ c hc
    · split at hc
      · exact beB_octs _ _ c hc
      · simp at hc
theorem encR_octs (l : List El) : octs (encR l).1 := by
  by_cases h : (encR l).2 = 0
  · obtain ⟨h1, h2, h3⟩ := enc_inv h
    rw [h1]
    intro c hc
    simp only [rowY, List.mem_cons] at hc
    rcases hc with rfl | hc
    · rw [IntKind.wrap_u8]; omega
    · obtain ⟨y, hy, hc⟩ := List.mem_flatMap.1 hc
      exact elY_octs (h3 y hy) c hc
  · rw [enc_err h]; intro c hc; simp at hc
theorem encR_len (l : List El) : (encR l).1.length ≤ 2201 := by
  by_cases h : (encR l).2 = 0
  · obtain ⟨h1, h2, h3⟩ := enc_inv h
    rw [h1]
    have := flat_len l
    simp only [rowY, List.length_cons]
    omega
  · rw [enc_err h]; simp
end Go.Proofs.Ytfdedgeljijfdaa
