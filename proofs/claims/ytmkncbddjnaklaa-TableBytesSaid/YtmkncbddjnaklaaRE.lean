/- Plain law: tables and their bytes. -/
import Derived.Test.YtmkncbddjnaklaaRD
import Derived.Test.YtmkncbddjnaklaaTJ0
namespace Go.Proofs.Ytmkncbddjnaklaa
open Go.RowKit
open Nat renaming reduceEqDiff → nA, reduceLT → nB, reduceLeDiff → nC, reduceAdd → nD, reduceMul → nE, reduceSub → nF, reduceBEq → nG
open Int renaming reduceToNat → iA, reduceLT → iB, reduceLE → iC, reduceEq → iD
open Bool renaming and_eq_true → bA, or_eq_true → bB, or_eq_false_iff → bC, and_eq_false_iff → bD, not_eq_true' → bE, not_eq_false' → bF, not_true → bG, not_false → bH
set_option linter.all false
set_option maxHeartbeats 4000000
attribute [local irreducible] AW Does ACall tE tS tB tZ

theorem wrap_back {x : Int} (h0 : 0 ≤ x) (h1 : x < 18446744073709551616) : IntKind.u64.wrap (IntKind.i64.wrap x) = x := by
  have e : IntKind.i64.wrap x = if x < 9223372036854775808 then x else x - 18446744073709551616 := by
    simp only [IntKind.wrap, IntKind.bits, IntKind.signed]; simp; split <;> split <;> omega
  rw [e, IntKind.wrap_u64]
  split <;> omega
theorem wrap_back2 {x : Int} (h0 : -9223372036854775808 ≤ x) (h1 : x ≤ 9223372036854775807) : IntKind.i64.wrap (IntKind.u64.wrap x) = x := by
  have e : IntKind.u64.wrap x = if x < 0 then x + 18446744073709551616 else x := by
    rw [IntKind.wrap_u64]; split <;> omega
  rw [e]
  simp only [IntKind.wrap, IntKind.bits, IntKind.signed]; simp; split <;> split <;> omega
theorem p256_8 : (256 : Int) ^ 8 = 18446744073709551616 := by decide
theorem beB_take (L : List Int) (ho : octs L) (d : Nat) (h : d + 8 ≤ L.length) : beB 8 (IntKind.u64.wrap (IntKind.i64.wrap (numB ((L.drop d).take 8)))) = (L.drop d).take 8 := by
  have hl : ((L.drop d).take 8).length = 8 := by rw [List.length_take, List.length_drop]; omega
  have hoc := (ho.drop d).take 8
  have hb := numB_bd _ hoc
  rw [hl, p256_8] at hb
  rw [wrap_back hb.1 hb.2]
  exact beB_numB 8 _ hl hoc
theorem row_parse (L : List Int) (ho : octs L) (h : 18 ≤ L.length) : rowB (rowP L) = L.take 18 := by
  have h1 := beB_take L ho 2 (by omega)
  have h2 := beB_take L ho 10 (by omega)
  obtain ⟨s, kk, r2, rfl⟩ := two_of (b := L) (by omega)
  have hr : rowB (rowP (s :: kk :: r2)) = [s, kk] ++ beB 8 (IntKind.u64.wrap (IntKind.i64.wrap (numB (((s :: kk :: r2).drop 2).take 8)))) ++ beB 8 (IntKind.u64.wrap (IntKind.i64.wrap (numB (((s :: kk :: r2).drop 10).take 8)))) := rfl
  rw [hr, h1, h2]
  have e : (s :: kk :: r2).take 18 = [s, kk] ++ ((s :: kk :: r2).drop 2).take 8 ++ ((s :: kk :: r2).drop 10).take 8 := by
    have : (18 : Nat) = 2 + 8 + 8 := rfl
    rw [this, List.take_add, List.take_add]
    rfl
  rw [e]
theorem rows_parse (R : List Int) (ho : octs R) : ∀ N : Nat, 18 * N ≤ R.length → (parseS R N).flatMap rowB = R.take (18 * N)
  | 0, _ => by simp [parseS]
  | N + 1, h => by
    rw [parse_succ, List.flatMap_append, rows_parse R ho N (by omega), show 18 * (N + 1) = 18 * N + 18 by omega, List.take_add]
    congr 1
    simp only [List.flatMap_cons, List.flatMap_nil, List.append_nil]
    exact row_parse _ (ho.drop _) (by rw [List.length_drop]; omega)
theorem cnt_eq (b : List Int) (ho : octs b) (h : 2 ≤ b.length) : ((cntB b : Nat) : Int) = numB (b.take 2) ∧ cntB b ≤ 65535 := by
  have hb := numB_bd _ (ho.take 2)
  have hl : (b.take 2).length = 2 := by rw [List.length_take]; omega
  rw [hl] at hb
  have : (256 : Int) ^ 2 = 65536 := by decide
  unfold cntB
  omega
theorem enc_parse (b : List Int) (ho : octs b) (h : b.length = 2 + 18 * cntB b) : encB (parseS (b.drop 2) (cntB b)) = b := by
  have hc := cnt_eq b ho (by omega)
  unfold encB
  rw [parse_len, hc.1, beB_numB 2 _ (by rw [List.length_take]; omega) (ho.take 2), rows_parse _ (ho.drop 2) _ (by rw [List.length_drop]; omega)]
  have e : (b.drop 2).take (18 * cntB b) = b.drop 2 := List.take_of_length_le (by rw [List.length_drop]; omega)
  rw [e, List.take_append_drop]
theorem decS_eq (b : List Int) (ho : octs b) : decS b = rdecS b := by
  unfold decS rdecS
  by_cases h2 : b.length < 2
  · rw [if_pos h2, if_pos h2]
  rw [if_neg h2, if_neg h2]
  by_cases h3 : b.length < 2 + 18 * cntB b
  · rw [if_pos h3, if_pos h3]
  rw [if_neg h3, if_neg h3]
  have hT := parse_len (b.drop 2) (cntB b)
  have hp := enc_parse b ho
  generalize parseS (b.drop 2) (cntB b) = T at *
  cases ht : tOk T
  · rw [if_neg, if_neg]
    · rintro ⟨-, h⟩; cases h
    · rintro ⟨h, -⟩
      unfold encE at h
      rw [if_neg (by rw [ht]; decide)] at h
      cases h
  · have he : encE T = (encB T, 0) := by unfold encE; rw [if_pos ht]
    rw [he]
    have hl := encB_len T
    by_cases h4 : b.length = 2 + 18 * cntB b
    · rw [if_pos ⟨rfl, hp h4⟩, if_pos ⟨h4, rfl⟩]
    · rw [if_neg, if_neg]
      · rintro ⟨h, -⟩; exact h4 h
      · rintro ⟨-, h⟩
        rw [← h, hl, hT] at h4
        have h : encB T = b := h
        rw [h] at h4
        exact h4 rfl
theorem drop_rows : ∀ (i : Nat) (T : List KC), (T.flatMap rowB).drop (18 * i) = (T.drop i).flatMap rowB
  | 0, T => by simp
  | i + 1, [] => by simp
  | i + 1, x :: T => by
    have hl := rowB_len x
    have e : (rowB x ++ T.flatMap rowB).drop 18 = T.flatMap rowB := by
      rw [List.drop_append_of_le_length (by omega), List.drop_of_length_le (by omega), List.nil_append]
    rw [List.flatMap_cons, show 18 * (i + 1) = 18 + 18 * i by omega, ← List.drop_drop, e, drop_rows i T]
    simp
theorem row_back (x : KC) (r : List Int) (hx : (cellK x).ok) : rowP (rowB x ++ r) = x := by
  obtain ⟨⟨h1, h2⟩, h3, h4⟩ := hx
  obtain ⟨s, k, cn, ct⟩ := x
  simp only [cellK] at h1 h2 h3 h4
  have hl1 := beB_len 8 (IntKind.u64.wrap cn)
  have hl2 := beB_len 8 (IntKind.u64.wrap ct)
  have e : rowB ⟨s, k, cn, ct⟩ ++ r = s :: k :: (beB 8 (IntKind.u64.wrap cn) ++ (beB 8 (IntKind.u64.wrap ct) ++ r)) := by simp [rowB]
  have hn : ∀ z : Int, numB (beB 8 (IntKind.u64.wrap z)) = IntKind.u64.wrap z := fun z => by
    have hb := u64_bd z
    rw [numB_beB 8 _ hb.1, p256_8]
    omega
  have e1 : ((rowB ⟨s, k, cn, ct⟩ ++ r).drop 2).take 8 = beB 8 (IntKind.u64.wrap cn) := by
    rw [e]
    show (beB 8 (IntKind.u64.wrap cn) ++ (beB 8 (IntKind.u64.wrap ct) ++ r)).take 8 = _
    rw [List.take_append_of_le_length (by omega), List.take_of_length_le (by omega)]
  have e2 : ((rowB ⟨s, k, cn, ct⟩ ++ r).drop 10).take 8 = beB 8 (IntKind.u64.wrap ct) := by
    rw [e]
    show ((beB 8 (IntKind.u64.wrap cn) ++ (beB 8 (IntKind.u64.wrap ct) ++ r)).drop 8).take 8 = _
    rw [List.drop_append_of_le_length (by omega), List.drop_of_length_le (by omega), List.nil_append, List.take_append_of_le_length (by omega), List.take_of_length_le (by omega)]
  unfold rowP
  rw [e1, e2, hn, hn, wrap_back2 h1 h2, wrap_back2 h3 h4, e]
  rfl
theorem parse_rows (T : List KC) (h : ∀ x ∈ T, (cellK x).ok) : parseS (T.flatMap rowB) T.length = T := by
  apply List.ext_getElem?
  intro i
  unfold parseS
  rw [List.getElem?_map]
  by_cases hi : i < T.length
  · rw [List.getElem?_range hi, List.getElem?_eq_getElem hi]
    simp only [Option.map_some]
    rw [drop_rows, List.drop_eq_getElem_cons hi, List.flatMap_cons, row_back _ _ (h _ (List.getElem_mem hi))]
  · rw [List.getElem?_eq_none (by simp; omega), List.getElem?_eq_none (by omega)]
    rfl
theorem cnt_enc (T : List KC) (h : T.length ≤ 65535) (r : List Int) : cntB (beB 2 T.length ++ r) = T.length := by
  unfold cntB
  have hl := beB_len 2 (T.length : Int)
  rw [List.take_append_of_le_length (by omega), List.take_of_length_le (by omega), numB_beB 2 _ (by omega)]
  have : (256 : Int) ^ 2 = 65536 := by decide
  rw [this]; omega
theorem dec_enc {T : List KC} (ht : tOk T = true) (h : ∀ x ∈ T, (cellK x).ok) (hl : T.length ≤ 65535) : decS (encB T) = (T, 0) := by
  have hel := encB_len T
  have hc : cntB (encB T) = T.length := cnt_enc T hl _
  have hb2 := beB_len 2 (T.length : Int)
  have hd : (encB T).drop 2 = T.flatMap rowB := by
    unfold encB
    rw [List.drop_append_of_le_length (by omega), List.drop_of_length_le (by omega), List.nil_append]
  have he : encE T = (encB T, 0) := by unfold encE; rw [if_pos ht]
  unfold decS
  rw [hc, hd, parse_rows T h, if_neg (by omega), if_neg (by omega), he, if_pos ⟨rfl, rfl⟩]
theorem dec_less {T : List KC} (hl : T.length ≤ 65535) {i : Nat} (hi : i < (encB T).length) : (decS ((encB T).take i)).2 = 7 := by
  have hel := encB_len T
  have hli : ((encB T).take i).length = i := by rw [List.length_take]; omega
  unfold decS
  by_cases h2 : i < 2
  · rw [if_pos (by omega)]
  rw [if_neg (by omega)]
  have hc : cntB ((encB T).take i) = T.length := by
    have e : cntB ((encB T).take i) = cntB (encB T) := by
      unfold cntB
      rw [List.take_take]
      congr 3; omega
    rw [e]; exact cnt_enc T hl _
  rw [if_pos (by rw [hc]; omega)]
theorem dec_len (b : List Int) : (decS b).1.length ≤ b.length := by
  unfold decS
  split
  · simp
  · split
    · simp
    · rename_i h1 h2
      split
      · simp only [parse_len]; omega
      · simp
/-- what an error leaves -/
theorem dec_cases (b : List Int) : ((decS b).2 = 0 ∧ encE (decS b).1 = (b, 0)) ∨ ((decS b).1 = [] ∧ ((decS b).2 = 7 ∨ (decS b).2 = 220)) := by
  unfold decS
  split
  · exact .inr ⟨rfl, .inl rfl⟩
  · split
    · exact .inr ⟨rfl, .inl rfl⟩
    · split
      · rename_i h
        exact .inl ⟨rfl, Prod.ext h.2 h.1⟩
      · exact .inr ⟨rfl, .inr rfl⟩
end Go.Proofs.Ytmkncbddjnaklaa
