/- append of a part of a row to a beginning of it that has no room behind it. -/
import Derived.Test.YtdeckjoeggmagaaMD
import Derived.ArgAppend
namespace Go.Proofs.Ytdeckjoeggmagaa
open Go.RowKit
open Nat renaming reduceEqDiff → nA, reduceLT → nB, reduceLeDiff → nC, reduceAdd → nD, reduceMul → nE, reduceSub → nF, reduceBEq → nG
open Int renaming reduceToNat → iA, reduceLT → iB, reduceLE → iC, reduceEq → iD
open Bool renaming and_eq_true → bA, or_eq_true → bB, or_eq_false_iff → bC, and_eq_false_iff → bD, not_eq_true' → bE, not_eq_false' → bF, not_true → bG, not_false → bH
set_option linter.all false
set_option maxHeartbeats 4000000
attribute [local irreducible] AW Does ACall tE tS tB tZ

theorem rows_two {F : Mem} {w : World} {v1 v2 : Value} {sz : Nat} {r1 r2 : List (List AV)} (h1 : Src F w v1 sz r1) (h2 : Src F w v2 sz r2) : ∃ (a1 a2 : Option Addr) (c1 c2 : Nat) (us vs : List Value),
    v1 = .slice a1 r1.length c1 ∧ v2 = .slice a2 r2.length c2 ∧ r1.length ≤ c1 ∧ r2.length ≤ c2 ∧ us.length = r1.length * sz ∧ vs.length = r2.length * sz ∧ (∀ a, a1 = some a → ∀ j u, us[j]? = some u → w.cell? (a.add j) = some u) ∧ (∀ a, a2 = some a → ∀ j u, vs[j]? = some u → w.cell? (a.add j) = some u) ∧
    ∀ (T : Array Value), RowOk F (us.toArray ++ vs.toArray ++ T) sz (r1 ++ r2) := by
  obtain ⟨a1, c1, us, e1, p1, p2, p3, p4, p5, p6⟩ := h1.ex
  obtain ⟨a2, c2, vs, e2, q1, q2, q3, q4, q5, q6⟩ := h2.ex
  refine ⟨a1, a2, c1, c2, us, vs, e1, e2, p1, q1, p3, q3, p5, q5, fun T => ?_⟩
  have hr1 : RowOk F us.toArray sz r1 := ⟨h1.len, fun i j y hy => (p6 i j y hy).1, fun i j y hy => by have := (p6 i j y hy).2; rw [arr_getD]; simpa using this⟩
  refine rows_app (C := us.toArray) (vs := vs) hr1 (by simp [p3]) h2.len q3 q6 ?_
  have e : (r1.length + r2.length) * sz = (us ++ vs).length := by rw [List.length_append, p3, q3, Nat.add_mul]
  rw [e, ← p3]
  simp only [Array.toList_append, List.toList_toArray, List.take_length]
  exact List.take_left
section
variable {P : Program} {o : Oper} {a : Nat → AV} {H : Heap} {K : AV → Heap → Prop}
theorem does_appCut {x y : Operand} {t e : TypeId} {sz by' n i c j m c2 cap : Nat} {zs : List Value} {rows : List (List AV)} (ho : o.op = .call { callee := .builtin .append, args := #[x, y], argTypes := #[t, t] })
    (hx : ev a x = .s n sz 0 i c) (hy : ev a y = .s n sz j m c2) (hH : H n = some (.r e sz cap rows)) (hi : i ≤ rows.length) (hj : j + m ≤ rows.length) (hg : m = 0 ∨ c < i + m)
    (hE : tE P t = some e) (hS : tS P e = some sz) (hB : tB P e = some by') (hz : tZ P e = some zs) (hzl : zs.length = sz) (hp : 0 < sz) (h63 : i + m ≤ maxLen) (hbytes : (i + m) * by' ≤ 140737488355328)
    (h0 : m = 0 → K (.s n sz 0 i c) H)
    (h : 0 < m → ∀ q G, H q = none → i + m ≤ G → G ≤ maxLen → K (.s q sz 0 (i + m) G) (upd H q (.r e sz G (rows.take i ++ (rows.drop j).take m)))) : Does P o a H K :=
  Does.ran (fun c => by simp [ho]) fun F w act hv hs => by
    have hvx := hv.ev x
    rw [hx] at hvx
    have hvy := hv.ev y
    rw [hy] at hvy
    obtain ⟨q, hi0, hi1, hi2⟩ : ∃ q, P.info? e = some q ∧ q.size = sz ∧ q.bytes = by' := by
      unfold tS at hS; unfold tB at hB
      cases hq : P.info? e with
      | none => simp [hq] at hS
      | some q => simp [hq] at hS hB; exact ⟨q, rfl, hS, hB⟩
    obtain ⟨z, hzz, hzc⟩ : ∃ z, q.zero = some z ∧ z.cells.size = sz := by
      unfold tZ at hz
      simp [hi0] at hz
      obtain ⟨z, hz1, hz2⟩ := hz
      exact ⟨z, hz1, by rw [← hzl, ← hz2]; simp⟩
    have s1 := hs.src hH (i := 0) (by omega) hvx
    have s2 := hs.src hH hj hvy
    rw [List.drop_zero] at s1
    have l1 : (rows.take i).length = i := by simp; omega
    have l2 : ((rows.drop j).take m).length = m := by simp; omega
    obtain ⟨a1, a2, d1, d2, us, vs, e1, e2, g1, g2, u1, u2, r1, r2, hrow⟩ := rows_two s1 s2
    rw [l1] at e1 g1 u1
    rw [l2] at e2 g2 u2
    obtain ⟨o1, ex, gx1, gx2, gx3⟩ := hvx.s_inv
    obtain ⟨o2, ey, gy1, gy2, gy3⟩ := hvy.s_inv
    have ex1 : Value.slice a1 i d1 = .slice (some ⟨n, o1, none⟩) i c := by rw [← e1, ← ex]
    have ey1 : Value.slice a2 m d2 = .slice (some ⟨n, o2, none⟩) m c2 := by rw [← e2, ← ey]
    cases ex1
    cases ey1
    obtain ⟨cs, ecs⟩ := builtin_run ho act
    by_cases hm : m = 0
    · subst hm
      have hvs : vs = [] := List.eq_nil_of_length_eq_zero (by omega)
      have hfc := run_firstCells_some (P := P) w q.size 0 ⟨n, o2, none⟩ 0 c2 [] (by simp) (by simp)
      refine ⟨.slice (some ⟨n, o1, none⟩) i c, w, F, H, .s n sz 0 i c, ?_, by rw [← ex]; exact hvx, hs, Ext.refl _ _ _, h0 rfl⟩
      rw [ecs]
      simp [builtin, Sem.run_bind, ex, ey, Builtin.append_, run_underlying (tE_eq hE), sizeOf, typeInfo, hi0, Builtin.lenOf, gx2, hfc, storeCells]
    · have hg2 : c < i + m := by rcases hg with g | g; exact absurd g hm; exact g
      have hr := run_append_grow (P := P) w t o.type e q z (tE_eq hE) hi0 hzz ⟨n, o1, none⟩ i c us (by rw [hi1]; exact u1) (r1 _ rfl) ⟨n, o2, none⟩ m c2 vs (by rw [hi1]; exact u2) (r2 _ rfl) hg2 (by unfold maxLen at h63; omega) (by rw [hi2]; exact growslice_fits hg2 hbytes)
      have hG1 := grownCap_ge w (i + m) c e
      have hG2 := grownCap_le_maxLen w (i + m) c e h63
      obtain ⟨G, hG⟩ : ∃ G, grownCap w (i + m) c e = G := ⟨_, rfl⟩
      rw [hG] at hr hG1 hG2
      obtain ⟨Z, hZ⟩ : ∃ Z, Builtin.zeroCells z.cells (G - (i + m)) = Z := ⟨_, rfl⟩
      rw [hZ] at hr
      have hsz : (us.toArray ++ vs.toArray ++ Z).size = G * sz := by
        rw [← hZ]
        simp only [Array.size_append, List.size_toArray, size_zeroCells, hzc, u1, u2, ← Nat.add_mul]
        congr 1; omega
      refine ⟨.slice (some ⟨w.heap.size, 0, none⟩) (i + m) G, w.drew.alloc (.cells (us.toArray ++ vs.toArray ++ Z) e), F, upd H w.heap.size (.r e sz G (rows.take i ++ (rows.drop j).take m)), .s w.heap.size sz 0 (i + m) G, ?_, .s _ _ _ _ _ 0 (fun _ => by simp) hG1 hG2, ?_, ?_, h (by omega) _ _ (hs.fresh (Nat.le_refl _)) hG1 hG2⟩
      · rw [ecs]; simp [builtin, Sem.run_bind, ex, ey, hr]
      · exact hs.drew.alloc _ _ ⟨_, heap_alloc_new w.drew _, hsz, by rw [List.length_append, l1, l2]; exact hG1, hG2, hp, hrow Z⟩
      · exact (Ext.drew F H w).trans (Ext.alloc H w.drew _ _)
end
end Go.Proofs.Ytdeckjoeggmagaa
