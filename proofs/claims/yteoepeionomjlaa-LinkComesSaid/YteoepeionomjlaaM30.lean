/- A slice grown out of none; what the caller owns, lent as what it reads as; a result of its own. -/
import Derived.Test.YteoepeionomjlaaMC
import Derived.Lib.AppendZerosOnto
namespace Go.Proofs.Yteoepeionomjlaa
open Go.RowKit
set_option linter.all false

section
variable {P : Program} {o : Oper} {a : Nat → AV} {H : Heap} {K : AV → Heap → Prop}
theorem does_capnil {x : Operand} {t et : TypeId} {ad : Option Addr} (ho : o.op = .call { callee := .builtin .cap, args := #[x], argTypes := #[t] }) (hx : ev a x = .c (.slice ad 0 0)) (hE : tE P t = some et) (hK : K (.c (.int .i64 0)) H) : Does P o a H K :=
  Does.val (fun c => by simp [ho]) hK fun F w act hv hs => by
    obtain ⟨cs, ecs⟩ := builtin_run ho act
    exact ⟨.int .i64 0, by rw [ecs]; simp [builtin, Builtin.cap_, hv.c hx, run_underlying (tE_eq hE)]; rfl, .c _⟩
/-- zero cells behind nothing -/
theorem does_appZ {x y : Operand} {t tn e : TypeId} {kn kq : IntKind} {sz by' n : Nat} {zs : List Value} (ho : o.op = .call { callee := .builtin .append, args := #[x, y], argTypes := #[t, tn] }) (hx : ev a x = .c (.slice none 0 0)) (hy : ev a y = .c (.int kq n))
    (htn : P.underlying tn = some (.int kn)) (hE : tE P t = some e) (hS : tS P e = some sz) (hB : tB P e = some by') (hz : tZ P e = some zs) (hzl : zs.length = sz) (hp : 0 < sz) (hn : 0 < n) (h63 : n ≤ maxLen) (hbytes : n * by' ≤ 140737488355328)
    (h : ∀ m G, H m = none → n ≤ G → G ≤ maxLen → K (.s m sz 0 n G) (upd H m (.r e sz G []))) : Does P o a H K :=
  Does.ran (fun c => by simp [ho]) fun F w act hv hs => by
    obtain ⟨i, hi, hi1, hi2⟩ : ∃ i, P.info? e = some i ∧ i.size = sz ∧ i.bytes = by' := by
      unfold tS at hS; unfold tB at hB
      cases hi : P.info? e with
      | none => simp [hi] at hS
      | some i => simp [hi] at hS hB; exact ⟨i, rfl, hS, hB⟩
    obtain ⟨z, hzz, hzc⟩ : ∃ z, i.zero = some z ∧ z.cells.size = sz := by
      unfold tZ at hz
      simp [hi] at hz
      obtain ⟨z, hz1, hz2⟩ := hz
      exact ⟨z, hz1, by rw [← hzl, ← hz2]; simp⟩
    have hfit : n * i.bytes ≤ 281474976710656 := by rw [hi2]; omega
    have hr := Lib.run_append_grow_zeros w t tn o.type e i z kq kn (tE_eq hE) htn hi hzz none 0 0 [] (by rw [hi1]; exact run_firstCells_none w.drew sz 0 0 0) n hn (by omega) (by omega) (by unfold maxLen at h63; omega) hfit (by rw [Nat.zero_add, nextslicecap_zero hn]; exact hfit)
    have hG1 := grownCap_ge w (0 + n) 0 e
    have hG2 := grownCap_le_maxLen w (0 + n) 0 e (by omega)
    obtain ⟨G, hG⟩ : ∃ G, grownCap w (0 + n) 0 e = G := ⟨_, rfl⟩
    rw [hG] at hr hG1 hG2
    rw [Nat.zero_add] at hr hG1
    have hsz : ((([] : List Value)).toArray ++ Builtin.zeroCells z.cells n ++ Builtin.zeroCells z.cells (G - n)).size = G * sz := by
      simp only [Array.size_append, List.size_toArray, List.length_nil, size_zeroCells, hzc, Nat.zero_add, ← Nat.add_mul]
      congr 1; omega
    obtain ⟨C, hC⟩ : ∃ C, (([] : List Value).toArray ++ Builtin.zeroCells z.cells n ++ Builtin.zeroCells z.cells (G - n)) = C := ⟨_, rfl⟩
    rw [hC] at hr hsz
    obtain ⟨cs, ecs⟩ := builtin_run ho act
    refine ⟨.slice (some ⟨w.heap.size, 0, none⟩) n G, w.drew.alloc (.cells C e), F, upd H w.heap.size (.r e sz G []), .s w.heap.size sz 0 n G, ?_, .s _ _ _ _ _ 0 (fun _ => by simp) hG1 hG2, ?_, ?_, h _ _ (hs.fresh (Nat.le_refl _)) hG1 hG2⟩
    · rw [ecs]; simp [builtin, Sem.run_bind, hv.c hx, hv.c hy, hr]
    · exact hs.drew.alloc _ _ ⟨C, heap_alloc_new w.drew _, hsz, by simp, hG2, hp, ⟨by simp, fun i j y hy => by simp [at2] at hy, fun i j y hy => by simp [at2] at hy⟩⟩
    · exact (Ext.drew F H w).trans (Ext.alloc H w.drew _ _)
end
/-- what lies in a block, lent as what its rows may be lent as -/
theorem Lent.s2 {H : Heap} {n sz cap cap0 : Nat} {ty : TypeId} {rows rows' : List (List AV)} (hn : H n = some (.r ty sz cap0 rows)) (hl : rows'.length = rows.length) (hw : ∀ e ∈ rows', e.length = sz)
    (hr : ∀ i j y, at2 rows' i j = some y → y.one = true ∧ ∃ x, at2 rows i j = some x ∧ Lent H x y) {k : Nat} (hk : k ≤ rows.length) : Lent H (.s n sz 0 k cap) (.l sz (rows'.take k)) := fun F w v hs hv => by
  obtain ⟨C, c1, c2, c3, c4, c5, c6⟩ := hs.blk n _ hn
  have hle : rows.length * sz ≤ C.size := by rw [c2]; exact Nat.mul_le_mul_right _ c3
  have hrr : ∀ i j y, at2 rows' i j = some y → y.one = true ∧ V (F0 w) y (C.getD (i * sz + j) undef) ∧ F0 w n (i * sz + j) = some (C.getD (i * sz + j) undef) := fun i j y hy => by
    obtain ⟨h1, x, hx, h2⟩ := hr i j y hy
    refine ⟨h1, h2 F w _ hs (c6.val i j x hx), ?_⟩
    obtain ⟨b1, b2⟩ := c6.at2 hx
    have hlt := flat_lt b1 b2
    have : i * sz + j < C.size := by omega
    unfold F0
    rw [cell_of_row w n _ C ty (0, 0) c1]
    simp [Array.getD, this]
  have := hv.frz hs.all hw hrr
  have e : frz n sz rows' (.s n sz 0 k cap) = .l sz (rows'.take k) := by
    unfold frz; rw [if_pos ⟨rfl, rfl, by omega⟩]; simp
  rwa [e] at this
theorem Lent.pre {H : Heap} {n sz cap cap0 : Nat} {ty : TypeId} {rows : List (List AV)} (hn : H n = some (.r ty sz cap0 rows)) {k : Nat} (hk : k ≤ rows.length) : Lent H (.s n sz 0 k cap) (.l sz (rows.take k)) := fun F w v hs hv => by
  obtain ⟨C, c1, c2, c3, c4, c5, c6⟩ := hs.blk n _ hn
  exact Lent.s2 hn rfl c6.len (fun i j y hy => ⟨c6.one i j y hy, y, hy, Lent.refl H y⟩) hk F w v hs hv
theorem Lents.one {H : Heap} {x y : AV} (h : Lent H x y) : Lents H [x] [y] := ⟨h, trivial⟩
theorem Lents.two {H : Heap} {x y x2 y2 : AV} (h : Lent H x y) (h2 : Lent H x2 y2) : Lents H [x, x2] [y, y2] := ⟨h, h2, trivial⟩
/-- rows whose cells lean on no memory -/
def FlatR (rows : List (List AV)) : Prop := ∀ i j y, at2 rows i j = some y → Flat y
theorem FlatR.map {α : Type} {f : α → List AV} (l : List α) (h : ∀ x, ∀ y ∈ f x, Flat y) : FlatR (l.map f) := fun i j y hy => by
  obtain ⟨e, he, hj⟩ := at2_some.1 hy
  rw [List.getElem?_map] at he
  obtain ⟨x, _, rfl⟩ := Option.map_eq_some_iff.1 he
  exact h x y (List.mem_of_getElem? hj)
/-- a function that gives a slice of its own may be called with what the caller owns -/
theorem ACall.lendO {P : Program} {f : FuncId} {args args' : List AV} {H : Heap} {ty : TypeId} {sz : Nat} {rows : List (List AV)} (hr : FlatR rows) (hl : Lents H args args') (h : ACall P f args' (fun _ => none) fun r' G => OwnL G r' ty sz rows fun _ => none) : ACall P f args H fun r' H' => OwnL H' r' ty sz rows H := by
  refine ⟨h.1, fun F w cs hv hs => (h.2 (F0 w) w cs (Lents.ok hs hl hv) ⟨fun b o v hb => hb, fun b o v k _ hk => (by cases hk), fun n k hk => (by cases hk)⟩).mono ?_⟩
  rintro e w' ⟨v, F', G, r', rfl, h1, h2, h3, h4⟩
  have hmem : ∀ b o u, F b o = some u → w'.cell? ⟨b, o, none⟩ = some u := fun b o u hb => by
    have := hs.mem b o u hb
    rw [← this]
    exact World.cell?_of_block (h3.block b (cell_lt this) rfl)
  have hold : ∀ n k, H n = some k → BlkOk F w' n k := fun n k hk => (hs.blk n k hk).heap (h3.block n (hs.lt hk) rfl)
  rcases h4 with ⟨⟨ad, rfl⟩, rfl, -⟩ | ⟨n, cap, rfl, hn, -⟩
  · refine ⟨v, F, H, _, rfl, Flat.c _ _ _ _ h1, ⟨hmem, hs.off, hold⟩, ?_, .inl ⟨⟨ad, rfl⟩, rfl, rfl⟩⟩
    exact ⟨h3.os, h3.tape, h3.output, h3.size, fun n hn _ => h3.block n hn rfl, fun n k hk => .inl (by rw [hk]; simp), Mem.le.refl F, fun b o u hu => .inl hu⟩
  · have hnew : w.heap.size ≤ n := by
      rcases h3.new n _ hn with h | h
      · exact absurd rfl h
      · exact h
    have hH : H n = none := hs.fresh hnew
    obtain ⟨C, c1, c2, c3, c4, c5, c6⟩ := h2.blk n _ hn
    obtain ⟨oo, e, g1, g2, g3⟩ := h1.s_inv
    refine ⟨v, F, upd H n (.r ty sz cap rows), .s n sz 0 rows.length cap, rfl, by rw [e]; exact .s _ _ _ _ _ _ g1 g2 g3, ⟨hmem, fun b o u k hb hk => ?_, fun m k hm => ?_⟩, ?_, .inr ⟨n, cap, rfl, upd_same _ _ _, (del_upd_same hH).symm⟩⟩
    · by_cases e : b = n
      · subst e; have := hs.memlt hb; omega
      · rw [upd_ne e] at hk; exact hs.off b o u k hb hk
    · by_cases e : m = n
      · subst e
        rw [upd_same] at hm; cases hm
        exact ⟨C, c1, c2, c3, c4, c5, ⟨c6.len, c6.one, fun i j y hy => hr i j y hy _ _ _ (c6.val i j y hy)⟩⟩
      · rw [upd_ne e] at hm; exact hold m k hm
    · refine ⟨h3.os, h3.tape, h3.output, h3.size, fun m hm _ => h3.block m hm rfl, fun m k hm => ?_, Mem.le.refl F, fun b o u hu => .inl hu⟩
      by_cases e : m = n
      · subst e; exact .inr hnew
      · rw [upd_ne e] at hm; left; rw [hm]; simp
end Go.Proofs.Yteoepeionomjlaa
