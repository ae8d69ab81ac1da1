/- What is lent: pointers to what the caller owns, closures. -/
import Derived.Test.YtdeckjoeggmagaaD
namespace Go.Proofs.Ytdeckjoeggmagaa
open Go.RowKit
open Nat renaming reduceEqDiff → nA, reduceLT → nB, reduceLeDiff → nC, reduceAdd → nD, reduceMul → nE, reduceSub → nF, reduceBEq → nG
open Int renaming reduceToNat → iA, reduceLT → iB, reduceLE → iC, reduceEq → iD
open Bool renaming and_eq_true → bA, or_eq_true → bB, or_eq_false_iff → bC, and_eq_false_iff → bD, not_eq_true' → bE, not_eq_false' → bF, not_true → bG, not_false → bH
set_option linter.all false
set_option maxHeartbeats 4000000
attribute [local irreducible] AW Does ACall tE tS tB tZ

theorem Lent.p {H : Heap} {n sz cap0 i j : Nat} {ty : TypeId} {rows : List (List AV)} {row : List AV} (hn : H n = some (.r ty sz cap0 rows)) (hi : rows[i]? = some row) : Lent H (.p n sz i j) (.q row j) := fun F w v hs hv => by
  obtain ⟨C, c1, c2, c3, c4, c5, c6⟩ := hs.blk n _ hn
  have hle : rows.length * sz ≤ C.size := by rw [c2]; exact Nat.mul_le_mul_right _ c3
  rw [hv.p_inv]
  have hrr : ∀ (k : Nat) (y : AV), row[k]? = some y → y.one = true ∧ V (F0 w) y (C.getD (i * sz + k) undef) ∧ F0 w n (i * sz + k) = some (C.getD (i * sz + k) undef) := fun k y hy => by
    have ha : at2 rows i k = some y := by unfold at2; rw [hi]; exact hy
    refine ⟨c6.one i k y ha, (c6.val i k y ha).mono hs.all, ?_⟩
    obtain ⟨b1, b2⟩ := c6.at2 ha
    have hlt := flat_lt b1 b2
    have : i * sz + k < C.size := by omega
    unfold F0
    rw [cell_of_row w n _ C ty (0, 0) c1]
    simp [Array.getD, this]
  exact V.q row j n (i * sz) (fun k => C.getD (i * sz + k) undef) (fun k y hy => (hrr k y hy).1) (fun k y hy => (hrr k y hy).2.1) (fun k y hy => (hrr k y hy).2.2)
theorem Lent.f {H : Heap} {fn : Fn} {xs ys xs' ys' : List AV} (h : Lents H xs xs') (k : Lents H ys ys') : Lent H (.f fn xs ys) (.f fn xs' ys') := fun F w v hs hv => by
  obtain ⟨cs, ds, rfl, h1, h2⟩ := hv.f_inv
  exact V.f_of (Lents.ok hs h h1) (Lents.ok hs k h2)
section
variable {P : Program} {o : Oper} {a : Nat → AV} {H : Heap} {K : AV → Heap → Prop}
/-- append of what is lent and holds plain values -/
theorem does_appF {x y : Operand} {t ty : TypeId} {sz by' : Nat} {zs : List Value} {rows news : List (List AV)} {H0 : Heap} {x0 y0 : AV} (ho : o.op = .call { callee := .builtin .append, args := #[x, y], argTypes := #[t, t] })
    (hx : ev a x = x0) (hy : ev a y = y0) (hown : OwnL H x0 ty sz rows H0) (hl : Lent H y0 (.l sz news)) (hf : FlatR news) (hE : tE P t = some ty) (hS : tS P ty = some sz) (hB : tB P ty = some by') (hz : tZ P ty = some zs) (hzl : zs.length = sz) (hp : 0 < sz)
    (h63 : rows.length + news.length ≤ maxLen) (hbytes : (rows.length + news.length) * by' ≤ 140737488355328) (h : ∀ x' H', OwnL H' x' ty sz (rows ++ news) H0 → K x' H') : Does P o a H K := by
  subst hx
  subst hy
  refine Does.ran (fun c => by simp [ho]) fun F w act hv hs => ?_
  have hvy := hl F w _ hs (hv.ev y)
  have s0 : Sat (F0 w) (fun _ => none) w := ⟨fun b o v hb => hb, fun b o v k _ hk => (by cases hk), fun n k hk => (by cases hk)⟩
  have hsrc : Src F w (act.eval y) sz news := by
    obtain ⟨ad, c, vs, e1, e2, e3, e4, e5, e6, e7⟩ := (V.src s0 hp hvy).ex
    exact ⟨⟨ad, c, vs, e1, e2, e3, e4, e5, e6, fun i j z hz => ⟨(e7 i j z hz).1, hf i j z hz _ _ _ (e7 i j z hz).2⟩⟩, (V.src s0 hp hvy).len⟩
  obtain ⟨v', w', x', H', r1, r2, r3, r4, r5⟩ := append_ok (rt := o.type) hs hE hS hB hz hzl hp hown (hv.ev x) hsrc h63 hbytes
  obtain ⟨cs, ecs⟩ := builtin_run ho act
  refine ⟨v', w', F, H', x', ?_, r2, r4, r5, h x' H' r3⟩
  rw [ecs]
  simp [builtin, Sem.run_bind, r1]
end
end Go.Proofs.Ytdeckjoeggmagaa
