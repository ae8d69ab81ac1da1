/- Rows that are cut shorter, frozen in part, or told in other words. -/
import Derived.Test.YtlbdpnlmdcajbaaMD
import Derived.ArgAppend
namespace Go.Proofs.Ytlbdpnlmdcajbaa
open Go.RowKit
open Nat renaming reduceEqDiff → nA, reduceLT → nB, reduceLeDiff → nC, reduceAdd → nD, reduceMul → nE, reduceSub → nF, reduceBEq → nG
open Int renaming reduceToNat → iA, reduceLT → iB, reduceLE → iC, reduceEq → iD
open Bool renaming and_eq_true → bA, or_eq_true → bB, or_eq_false_iff → bC, and_eq_false_iff → bD, not_eq_true' → bE, not_eq_false' → bF, not_true → bG, not_false → bH
set_option linter.all false
set_option maxHeartbeats 4000000
attribute [local irreducible] AW Does ACall tE tS tB tZ

theorem rows_two {F : Mem} {w : World} {v1 v2 : Value} {sz : Nat} {r1 r2 : List (List AV)} (h1 : Src F w v1 sz r1) (h2 : Src F w v2 sz r2) : ∃ (a1 a2 : Option Addr) (c1 c2 : Nat) (us vs : List Value),
    v1 = .slice a1 r1.length c1 ∧ v2 = .slice a2 r2.length c2 ∧ r1.length ≤ c1 ∧ r2.length ≤ c2 ∧ us.length = r1.length * sz ∧ vs.length = r2.length * sz ∧ (∀ a, a1 = some a → ∀ j u, us[j]? = some u → w.cell? (a.add j) = some u) ∧ (∀ a, a2 = some a → ∀ j u, vs[j]? = some u → w.cell? (a.add j) = some u) ∧
    ∀ (T : Array Value), RowOk F (us.toArray ++ vs.toArray ++ T) sz (r1 ++ r2) := by
  obtain ⟨a1, c1, us, e1, p1, p2, p3, p4, p5, p6⟩ := h1.ex
  obtain ⟨a2, c2, vs, e2, q1, q2, q3, q4, q5, q6⟩ := h2.ex
  refine ⟨a1, a2, c1, c2, us, vs, e1, e2, p1, q1, p3, q3, p5, q5, fun T => ?_⟩
  have hr1 : RowOk F us.toArray sz r1 := ⟨h1.len, fun i j y hy => (p6 i j y hy).1, fun i j y hy => by have := (p6 i j y hy).2; rw [arr_getD]; simpa using this⟩
  refine rows_app (C := us.toArray) (vs := vs) hr1 (by simp [p3]) h2.len q3 q6 ?_
  have e : (r1.length + r2.length) * sz = (us ++ vs).length := by rw [List.length_append, p3, q3, Nat.add_mul]
  rw [e, ← p3]
  simp only [Array.toList_append, List.toList_toArray, List.take_length]
  exact List.take_left
section
variable {P : Program} {o : Oper} {a : Nat → AV} {H : Heap} {K : AV → Heap → Prop}
theorem does_appCut {x y : Operand} {t e : TypeId} {sz by' n i c j m c2 cap : Nat} {zs : List Value} {rows : List (List AV)} (ho : o.op = .call { callee := .builtin .append, args := #[x, y], argTypes := #[t, t] })
    (hx : ev a x = .s n sz 0 i c) (hy : ev a y = .s n sz j m c2) (hH : H n = some (.r e sz cap rows)) (hi : i ≤ rows.length) (hj : j + m ≤ rows.length) (hg : m = 0 ∨ c < i + m)
    (hE : tE P t = some e) (hS : tS P e = some sz) (hB : tB P e = some by') (hz : tZ P e = some zs) (hzl : zs.length = sz) (hp : 0 < sz) (h63 : i + m ≤ maxLen) (hbytes : (i + m) * by' ≤ 140737488355328)
    (h0 : m = 0 → K (.s n sz 0 i c) H)
    (h : 0 < m → ∀ q G, H q = none → i + m ≤ G → G ≤ maxLen → K (.s q sz 0 (i + m) G) (upd H q (.r e sz G (rows.take i ++ (rows.drop j).take m)))) : Does P o a H K :=
  Does.ran (fun c => by simp [ho]) fun F w act hv hs => by
    have hvx := hv.ev x
    rw [hx] at hvx
    have hvy := hv.ev y
    rw [hy] at hvy
    obtain ⟨q, hi0, hi1, hi2⟩ : ∃ q, P.info? e = some q ∧ q.size = sz ∧ q.bytes = by' := by
      unfold tS at hS; unfold tB at hB
      cases hq : P.info? e with
      | none => simp [hq] at hS
      | some q => simp [hq] at hS hB; exact ⟨q, rfl, hS, hB⟩
    obtain ⟨z, hzz, hzc⟩ : ∃ z, q.zero = some z ∧ z.cells.size = sz := by
      unfold tZ at hz
      simp [hi0] at hz
      obtain ⟨z, hz1, hz2⟩ := hz
      exact ⟨z, hz1, by rw [← hzl, ← hz2]; simp⟩
    have s1 := hs.src hH (i := 0) (by omega) hvx
    have s2 := hs.src hH hj hvy
    rw [List.drop_zero] at s1
    have l1 : (rows.take i).length = i := by simp; omega
    have l2 : ((rows.drop j).take m).length = m := by simp; omega
    obtain ⟨a1, a2, d1, d2, us, vs, e1, e2, g1, g2, u1, u2, r1, r2, hrow⟩ := rows_two s1 s2
    rw [l1] at e1 g1 u1
    rw [l2] at e2 g2 u2
    obtain ⟨o1, ex, gx1, gx2, gx3⟩ := hvx.s_inv
    obtain ⟨o2, ey, gy1, gy2, gy3⟩ := hvy.s_inv
    have ex1 : Value.slice a1 i d1 = .slice (some ⟨n, o1, none⟩) i c := by rw [← e1, ← ex]
    have ey1 : Value.slice a2 m d2 = .slice (some ⟨n, o2, none⟩) m c2 := by rw [← e2, ← ey]
    cases ex1
    cases ey1
    obtain ⟨cs, ecs⟩ := builtin_run ho act
    by_cases hm : m = 0
    · subst hm
      have hvs : vs = [] := List.eq_nil_of_length_eq_zero (by omega)
      have hfc := run_firstCells_some (P := P) w q.size 0 ⟨n, o2, none⟩ 0 c2 [] (by simp) (by simp)
      refine ⟨.slice (some ⟨n, o1, none⟩) i c, w, F, H, .s n sz 0 i c, ?_, by rw [← ex]; exact hvx, hs, Ext.refl _ _ _, h0 rfl⟩
      rw [ecs]
      simp [builtin, Sem.run_bind, ex, ey, Builtin.append_, run_underlying (tE_eq hE), sizeOf, typeInfo, hi0, Builtin.lenOf, gx2, hfc, storeCells]
    · have hg2 : c < i + m := by rcases hg with g | g; exact absurd g hm; exact g
      have hr := run_append_grow (P := P) w t o.type e q z (tE_eq hE) hi0 hzz ⟨n, o1, none⟩ i c us (by rw [hi1]; exact u1) (r1 _ rfl) ⟨n, o2, none⟩ m c2 vs (by rw [hi1]; exact u2) (r2 _ rfl) hg2 (by unfold maxLen at h63; omega) (by rw [hi2]; exact growslice_fits hg2 hbytes)
      have hG1 := grownCap_ge w (i + m) c e
      have hG2 := grownCap_le_maxLen w (i + m) c e h63
      obtain ⟨G, hG⟩ : ∃ G, grownCap w (i + m) c e = G := ⟨_, rfl⟩
      rw [hG] at hr hG1 hG2
      obtain ⟨Z, hZ⟩ : ∃ Z, Builtin.zeroCells z.cells (G - (i + m)) = Z := ⟨_, rfl⟩
      rw [hZ] at hr
      have hsz : (us.toArray ++ vs.toArray ++ Z).size = G * sz := by
        rw [← hZ]
        simp only [Array.size_append, List.size_toArray, size_zeroCells, hzc, u1, u2, ← Nat.add_mul]
        congr 1; omega
      refine ⟨.slice (some ⟨w.heap.size, 0, none⟩) (i + m) G, w.drew.alloc (.cells (us.toArray ++ vs.toArray ++ Z) e), F, upd H w.heap.size (.r e sz G (rows.take i ++ (rows.drop j).take m)), .s w.heap.size sz 0 (i + m) G, ?_, .s _ _ _ _ _ 0 (fun _ => by simp) hG1 hG2, ?_, ?_, h (by omega) _ _ (hs.fresh (Nat.le_refl _)) hG1 hG2⟩
      · rw [ecs]; simp [builtin, Sem.run_bind, ex, ey, hr]
      · exact hs.drew.alloc _ _ ⟨_, heap_alloc_new w.drew _, hsz, by rw [List.length_append, l1, l2]; exact hG1, hG2, hp, hrow Z⟩
      · exact (Ext.drew F H w).trans (Ext.alloc H w.drew _ _)
end
theorem hold_wp {H : Heap} {n sz cap : Nat} {ty : TypeId} {rows : List (List AV)} (hn : H n = some (.r ty sz cap rows)) : WP (fun F F' => ∀ k cp, k ≤ rows.length → Imp F F' (.s n sz 0 k cp) (.l sz (rows.take k))) H (del H n) := by
  intro F w hs
  obtain ⟨C, c1, c2, c3, c4, c5, c6⟩ := hs.blk n _ hn
  have hle : rows.length * sz ≤ C.size := by rw [c2]; exact Nat.mul_le_mul_right _ c3
  obtain ⟨F', hF'⟩ : ∃ F' : Mem, F' = fun b o => if b = n then (if o < rows.length * sz then C[o]? else Option.none) else F b o := ⟨_, rfl⟩
  have hFn : ∀ o, F n o = Option.none := fun o => by
    cases h : F n o with
    | none => rfl
    | some u => exact (hs.off n o u _ h hn).elim
  have hFF : F.le F' := fun b o u hu => by
    rw [hF']
    by_cases e : b = n
    · subst e; rw [hFn] at hu; cases hu
    · simp [e, hu]
  have hrr : ∀ i j y, at2 rows i j = some y → y.one = true ∧ V F' y (C.getD (i * sz + j) undef) ∧ F' n (i * sz + j) = some (C.getD (i * sz + j) undef) := fun i j y hy => by
    refine ⟨c6.one i j y hy, (c6.val i j y hy).mono hFF, ?_⟩
    obtain ⟨b1, b2⟩ := c6.at2 hy
    have hlt := flat_lt b1 b2
    have : i * sz + j < C.size := by omega
    rw [hF']; simp [hlt, this, Array.getD]
  refine ⟨F', hFF, fun k cp hk v hv => ?_, ⟨fun b o u hu => ?_, fun b o u k hu hk => ?_, fun m k hk => ?_⟩, fun b o u hu => ?_, fun m k hk => ?_⟩
  · have h := hv.frz (n := n) hFF c6.len hrr
    have e : frz n sz rows (.s n sz 0 k cp) = .l sz (rows.take k) := by
      simp only [frz]
      rw [if_pos ⟨trivial, trivial, by omega⟩, List.drop_zero]
    rwa [e] at h
  · rw [hF'] at hu
    by_cases e : b = n
    · subst e
      simp only [if_true] at hu
      split at hu
      · rw [cell_of_row w b _ C ty (0, 0) c1]; exact hu
      · cases hu
    · simp only [e, if_false] at hu; exact hs.mem b o u hu
  · rw [hF'] at hu
    by_cases e : b = n
    · rw [e, del_same] at hk; cases hk
    · simp only [e, if_false] at hu
      rw [del_ne e] at hk
      exact hs.off b o u k hu hk
  · by_cases e : m = n
    · rw [e, del_same] at hk; cases hk
    · rw [del_ne e] at hk
      exact (hs.blk m k hk).mono hFF
  · rw [hF'] at hu
    by_cases e : b = n
    · right; rw [e, hn]; simp
    · simp only [e, if_false] at hu; exact .inl hu
  · by_cases e : m = n
    · rw [e, del_same] at hk; cases hk
    · rw [del_ne e] at hk; rw [hk]; simp
/-- a slice of one's own that is the beginning of a row, with whatever room -/
def OwnB (x : AV) (ty : TypeId) (sz : Nat) (rows : List (List AV)) : HR := fun H H0 => ((∃ ad, x = .c (.slice ad 0 0)) ∧ rows = [] ∧ H0 = H) ∨ ∃ n cp cap rs, x = .s n sz 0 rows.length cp ∧ (rs.take rows.length = rows ∧ rows.length ≤ cp) ∧ rows.length ≤ rs.length ∧ H0 n = none ∧ H = upd H0 n (.r ty sz cap rs)
section
variable {x : AV} {ty : TypeId} {sz : Nat} {rows : List (List AV)} {H H0 : Heap}
theorem OwnB.of (h : OwnL H x ty sz rows H0) (hc : ∀ n cap, x = .s n sz 0 rows.length cap → rows.length ≤ cap) : OwnB x ty sz rows H H0 := by
  rcases h.split with ⟨ad, h1, h2, h3⟩ | ⟨m, cap, h1, h2, h3⟩
  · exact .inl ⟨⟨ad, h1⟩, h2, h3.symm⟩
  · exact .inr ⟨m, cap, cap, rows, h1, ⟨List.take_length, hc m cap h1⟩, Nat.le_refl _, h3, h2⟩
theorem OwnB.cs (h : OwnB x ty sz rows H H0) : x.cs = some [x] ∧ x.one = true ∧ lenV x = some rows.length := by
  rcases h with ⟨⟨ad, rfl⟩, rfl, -⟩ | ⟨n, cp, cap, rs, rfl, -⟩
  · exact ⟨rfl, rfl, rfl⟩
  · exact ⟨rfl, rfl, rfl⟩
theorem OwnB.wp (h : OwnB x ty sz rows H H0) : WP (fun F F' => Imp F F' x (.l sz rows)) H H0 := by
  rcases h with ⟨⟨ad, rfl⟩, rfl, rfl⟩ | ⟨n, cp, cap, rs, rfl, h2, h3, hm, rfl⟩
  · exact (WP.refl _).mono fun F F' hF _ => Imp.nil_l sz
  · have := (hold_wp (upd_same H0 n (.r ty sz cap rs))).mono fun F F' hF h => h rows.length cp h3
    rw [h2.1, del_upd_same hm] at this
    exact this
theorem OwnB.lent (hl : ∀ e ∈ rows, e.length = sz) (h1 : ∀ e ∈ rows, ∀ y ∈ e, y.one = true) (h : OwnB x ty sz rows H H0) : Lent H x (.l sz rows) := by
  rcases h with ⟨⟨ad, rfl⟩, rfl, rfl⟩ | ⟨n, cp, cap, rs, rfl, h2, h3, hm, rfl⟩
  · exact (OwnL.none' (ad := ad) (ty := ty)).lent
  · intro F w v hs hv
    obtain ⟨C, c1, c2, c3, c4, c5, c6⟩ := hs.blk n _ (upd_same H0 n _)
    have := Lent.s2 (cap := cp) (upd_same H0 n (.r ty sz cap rs)) (rows' := rs) rfl c6.len (fun i j y hy => ⟨c6.one i j y hy, y, hy, Lent.refl _ _⟩) (k := rows.length) h3
    rw [h2.1] at this
    exact this F w v hs hv
end
theorem AW_blkcap {P : Program} {N : Nat} {a : Nat → AV} {H : Heap} {Q : Post} {c : Code} {n sz cap : Nat} {ty : TypeId} {rows : List (List AV)} (hn : H n = some (.r ty sz cap rows)) (h : rows.length ≤ cap → AW P N c a H Q) : AW P N c a H Q := by
  unfold AW at h ⊢
  intro Fe k hF B F w act hr
  obtain ⟨C, c1, c2, c3, c4, c5, c6⟩ := hr.sat.blk n _ hn
  exact h c3 Fe k hF B F w act hr
section
variable {α : Type} {ty : TypeId} {sz : Nat} {enc : AV × α → List AV} {R : AV → α → HR} {x : AV} {l : List α} {H H0 : Heap}
end
theorem Imp_row {sz : Nat} {A B : List (List AV)} {r r' : List AV} (hA : ∀ e, e ∈ A ∨ e ∈ B → e.length = sz ∧ ∀ y ∈ e, y.one = true) (hr : r'.length = sz) (h : ∀ (j : Nat) (y : AV), r'[j]? = some y → y.one = true ∧ ∃ x, r[j]? = some x ∧ ∀ F : Mem, Imp F F x y) (F : Mem) : Imp F F (.l sz (A ++ [r] ++ B)) (.l sz (A ++ [r'] ++ B)) := by
  refine Imp.l (Mem.le.refl F) (by simp) (fun e he => ?_) (fun i j y hy => ?_)
  · rcases List.mem_append.1 he with he | he
    · rcases List.mem_append.1 he with he | he
      · exact (hA e (.inl he)).1
      · simp only [List.mem_singleton] at he; subst he; exact hr
    · exact (hA e (.inr he)).1
  · obtain ⟨e, he, hj⟩ := at2_some.1 hy
    rcases Nat.lt_trichotomy i A.length with c | c | c
    · rw [List.append_assoc, List.getElem?_append_left c] at he
      refine ⟨(hA e (.inl (List.mem_of_getElem? he))).2 y (List.mem_of_getElem? hj), y, at2_some.2 ⟨e, ?_, hj⟩, Imp.refl (Mem.le.refl F) _⟩
      rw [List.append_assoc, List.getElem?_append_left c]; exact he
    · have e1 : e = r' := by
        rw [List.append_assoc, List.getElem?_append_right (by omega), c, Nat.sub_self] at he
        simpa using he.symm
      subst e1
      obtain ⟨h1, x, h2, h3⟩ := h j y hj
      refine ⟨h1, x, at2_some.2 ⟨r, ?_, h2⟩, h3 F⟩
      rw [List.append_assoc, List.getElem?_append_right (by omega), c, Nat.sub_self]; rfl
    · have h2 : ∀ q : List AV, (A ++ [q] ++ B)[i]? = B[i - A.length - 1]? := fun q => by
        rw [List.getElem?_append_right (by simp; omega)]
        congr 1; simp; omega
      rw [h2] at he
      exact ⟨(hA e (.inr (List.mem_of_getElem? he))).2 y (List.mem_of_getElem? hj), y, at2_some.2 ⟨e, by rw [h2]; exact he, hj⟩, Imp.refl (Mem.le.refl F) _⟩
section
variable {P : Program} {o : Oper} {a : Nat → AV} {H : Heap} {K : AV → Heap → Prop}
end
end Go.Proofs.Ytlbdpnlmdcajbaa
