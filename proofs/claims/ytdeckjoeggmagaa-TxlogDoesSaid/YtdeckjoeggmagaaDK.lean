/- A row of transactions that is cut shorter; rows that are written no more. -/
import Derived.Test.YtdeckjoeggmagaaDE
import Derived.Test.YtdeckjoeggmagaaCU
namespace Go.Proofs.Ytdeckjoeggmagaa
open Go.RowKit
open Nat renaming reduceEqDiff → nA, reduceLT → nB, reduceLeDiff → nC, reduceAdd → nD, reduceMul → nE, reduceSub → nF, reduceBEq → nG
open Int renaming reduceToNat → iA, reduceLT → iB, reduceLE → iC, reduceEq → iD
open Bool renaming and_eq_true → bA, or_eq_true → bB, or_eq_false_iff → bC, and_eq_false_iff → bD, not_eq_true' → bE, not_eq_false' → bF, not_true → bG, not_false → bH
set_option linter.all false
set_option maxHeartbeats 4000000
attribute [local irreducible] AW Does ACall tE tS tB tZ

theorem hold_wp {H : Heap} {n sz cap : Nat} {ty : TypeId} {rows : List (List AV)} (hn : H n = some (.r ty sz cap rows)) : WP (fun F F' => ∀ k cp, k ≤ rows.length → Imp F F' (.s n sz 0 k cp) (.l sz (rows.take k))) H (del H n) := by
  intro F w hs
  obtain ⟨C, c1, c2, c3, c4, c5, c6⟩ := hs.blk n _ hn
  have hle : rows.length * sz ≤ C.size := by rw [c2]; exact Nat.mul_le_mul_right _ c3
  obtain ⟨F', hF'⟩ : ∃ F' : Mem, F' = fun b o => if b = n then (if o < rows.length * sz then C[o]? else Option.none) else F b o := ⟨_, rfl⟩
  have hFn : ∀ o, F n o = Option.none := fun o => by
    cases h : F n o with
    | none => rfl
    | some u => exact (hs.off n o u _ h hn).elim
  have hFF : F.le F' := fun b o u hu => by
    rw [hF']
    by_cases e : b = n
    · subst e; rw [hFn] at hu; cases hu
    · simp [e, hu]
  have hrr : ∀ i j y, at2 rows i j = some y → y.one = true ∧ V F' y (C.getD (i * sz + j) undef) ∧ F' n (i * sz + j) = some (C.getD (i * sz + j) undef) := fun i j y hy => by
    refine ⟨c6.one i j y hy, (c6.val i j y hy).mono hFF, ?_⟩
    obtain ⟨b1, b2⟩ := c6.at2 hy
    have hlt := flat_lt b1 b2
    have : i * sz + j < C.size := by omega
    rw [hF']; simp [hlt, this, Array.getD]
  refine ⟨F', hFF, fun k cp hk v hv => ?_, ⟨fun b o u hu => ?_, fun b o u k hu hk => ?_, fun m k hk => ?_⟩, fun b o u hu => ?_, fun m k hk => ?_⟩
  · have h := hv.frz (n := n) hFF c6.len hrr
    have e : frz n sz rows (.s n sz 0 k cp) = .l sz (rows.take k) := by
      simp only [frz]
      rw [if_pos ⟨trivial, trivial, by omega⟩, List.drop_zero]
    rwa [e] at h
  · rw [hF'] at hu
    by_cases e : b = n
    · subst e
      simp only [if_true] at hu
      split at hu
      · rw [cell_of_row w b _ C ty (0, 0) c1]; exact hu
      · cases hu
    · simp only [e, if_false] at hu; exact hs.mem b o u hu
  · rw [hF'] at hu
    by_cases e : b = n
    · rw [e, del_same] at hk; cases hk
    · simp only [e, if_false] at hu
      rw [del_ne e] at hk
      exact hs.off b o u k hu hk
  · by_cases e : m = n
    · rw [e, del_same] at hk; cases hk
    · rw [del_ne e] at hk
      exact (hs.blk m k hk).mono hFF
  · rw [hF'] at hu
    by_cases e : b = n
    · right; rw [e, hn]; simp
    · simp only [e, if_false] at hu; exact .inl hu
  · by_cases e : m = n
    · rw [e, del_same] at hk; cases hk
    · rw [del_ne e] at hk; rw [hk]; simp
/-- a slice of one's own that is the beginning of a row, with whatever room -/
def OwnB (x : AV) (ty : TypeId) (sz : Nat) (rows : List (List AV)) : HR := fun H H0 => ((∃ ad, x = .c (.slice ad 0 0)) ∧ rows = [] ∧ H0 = H) ∨ ∃ n cp cap rs, x = .s n sz 0 rows.length cp ∧ (rs.take rows.length = rows ∧ rows.length ≤ cp) ∧ rows.length ≤ rs.length ∧ H0 n = none ∧ H = upd H0 n (.r ty sz cap rs)
section
variable {x : AV} {ty : TypeId} {sz : Nat} {rows : List (List AV)} {H H0 : Heap}
theorem OwnB.of (h : OwnL H x ty sz rows H0) (hc : ∀ n cap, x = .s n sz 0 rows.length cap → rows.length ≤ cap) : OwnB x ty sz rows H H0 := by
  rcases h.split with ⟨ad, h1, h2, h3⟩ | ⟨m, cap, h1, h2, h3⟩
  · exact .inl ⟨⟨ad, h1⟩, h2, h3.symm⟩
  · exact .inr ⟨m, cap, cap, rows, h1, ⟨List.take_length, hc m cap h1⟩, Nat.le_refl _, h3, h2⟩
theorem OwnB_loc (x : AV) (ty : TypeId) (sz : Nat) (rows : List (List AV)) : Loc (OwnB x ty sz rows) := by
  constructor
  · intro H H0 h
    rcases h with ⟨h1, h2, rfl⟩ | ⟨n, cp, cap, rs, h1, h2, h3, hm, rfl⟩
    · exact ⟨emp, .inl ⟨h1, h2, rfl⟩, Apart.emp _, (join_emp _).symm⟩
    · exact ⟨upd emp n (.r ty sz cap rs), .inr ⟨n, cp, cap, rs, h1, h2, h3, rfl, rfl⟩, (Apart.emp _).upd _ hm, by rw [← upd_join, join_emp]⟩
  · intro A H0 h ha
    rcases h with ⟨h1, h2, rfl⟩ | ⟨n, cp, cap, rs, h1, h2, h3, hm, rfl⟩
    · rw [join_emp]; exact .inl ⟨h1, h2, rfl⟩
    · have hm2 : H0 n = none := ha.right (upd_same _ _ _)
      rw [← upd_join, join_emp]
      exact .inr ⟨n, cp, cap, rs, h1, h2, h3, hm2, rfl⟩
theorem OwnB.cs (h : OwnB x ty sz rows H H0) : x.cs = some [x] ∧ x.one = true ∧ lenV x = some rows.length := by
  rcases h with ⟨⟨ad, rfl⟩, rfl, -⟩ | ⟨n, cp, cap, rs, rfl, -⟩
  · exact ⟨rfl, rfl, rfl⟩
  · exact ⟨rfl, rfl, rfl⟩
theorem OwnB.wp (h : OwnB x ty sz rows H H0) : WP (fun F F' => Imp F F' x (.l sz rows)) H H0 := by
  rcases h with ⟨⟨ad, rfl⟩, rfl, rfl⟩ | ⟨n, cp, cap, rs, rfl, h2, h3, hm, rfl⟩
  · exact (WP.refl _).mono fun F F' hF _ => Imp.nil_l sz
  · have := (hold_wp (upd_same H0 n (.r ty sz cap rs))).mono fun F F' hF h => h rows.length cp h3
    rw [h2.1, del_upd_same hm] at this
    exact this
theorem OwnB.lent (hl : ∀ e ∈ rows, e.length = sz) (h1 : ∀ e ∈ rows, ∀ y ∈ e, y.one = true) (h : OwnB x ty sz rows H H0) : Lent H x (.l sz rows) := by
  rcases h with ⟨⟨ad, rfl⟩, rfl, rfl⟩ | ⟨n, cp, cap, rs, rfl, h2, h3, hm, rfl⟩
  · exact (OwnL.none' (ad := ad) (ty := ty)).lent
  · intro F w v hs hv
    obtain ⟨C, c1, c2, c3, c4, c5, c6⟩ := hs.blk n _ (upd_same H0 n _)
    have := Lent.s2 (cap := cp) (upd_same H0 n (.r ty sz cap rs)) (rows' := rs) rfl c6.len (fun i j y hy => ⟨c6.one i j y hy, y, hy, Lent.refl _ _⟩) (k := rows.length) h3
    rw [h2.1] at this
    exact this F w v hs hv
end
theorem AW_blkcap {P : Program} {N : Nat} {a : Nat → AV} {H : Heap} {Q : Post} {c : Code} {n sz cap : Nat} {ty : TypeId} {rows : List (List AV)} (hn : H n = some (.r ty sz cap rows)) (h : rows.length ≤ cap → AW P N c a H Q) : AW P N c a H Q := by
  unfold AW at h ⊢
  intro Fe k hF B F w act hr
  obtain ⟨C, c1, c2, c3, c4, c5, c6⟩ := hr.sat.blk n _ hn
  exact h c3 Fe k hF B F w act hr
end Go.Proofs.Ytdeckjoeggmagaa
