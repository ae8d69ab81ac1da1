/- Slices that are built and grown. -/
import Derived.Test.YteoepeionomjlaaM5
namespace Go.Proofs.Yteoepeionomjlaa
open Go.RowKit
set_option linter.unusedVariables false
set_option linter.unusedSimpArgs false
set_option linter.constructorNameAsVariable false

def del (H : Heap) (n : Nat) : Heap := fun m => if m = n then none else H m
theorem del_same (H : Heap) (n : Nat) : del H n n = none := by simp [del]
theorem del_ne {H : Heap} {n m : Nat} (h : m ≠ n) : del H n m = H m := by simp [del, h]
theorem del_upd_same {H : Heap} {n : Nat} {k : Blk} (h : H n = none) : del (upd H n k) n = H := by
  funext m; unfold del upd; by_cases e : m = n
  · subst e; simp [h]
  · simp [e]
theorem del_upd_ne {H : Heap} {n m : Nat} {k : Blk} (h : n ≠ m) : del (upd H n k) m = upd (del H m) n k := by
  funext i; unfold del upd; by_cases e : i = n
  · subst e; simp [h]
  · simp [e]
theorem del_none {H : Heap} {n : Nat} (h : H n = none) : del H n = H := by
  funext m; unfold del; by_cases e : m = n
  · subst e; simp [h]
  · simp [e]
theorem upd_del (H : Heap) (n : Nat) (k : Blk) : upd (del H n) n k = upd H n k := by
  funext m; unfold del upd; by_cases e : m = n <;> simp [e]
theorem del_le (H : Heap) (n : Nat) : Heap.le (del H n) H := fun m k h => by
  unfold del at h; split at h
  · cases h
  · exact h

/-- whole elements are laid one by one into new ones -/
def fillR (sz : Nat) (rows : List (List AV)) : List (Nat × AV) → Option (List (List AV))
  | [] => some rows
  | (i, v) :: rest =>
    match v.cs with
    | some ys => if ys.length = sz ∧ i < rows.length then fillR sz (rows.set i ys) rest else none
    | none => none

theorem fillR_ok {F : Mem} {a : Nat → AV} {act : Act} {sz : Nat} : ∀ (parts : List (Nat × Operand)) (rows : List (List AV)) (C : Array Value) (r : List (List AV)), (∀ p ∈ parts, V F (ev a p.2) (act.eval p.2)) → RowOk F C sz rows → C.size = rows.length * sz →
    fillR sz rows (parts.map fun p => (p.1, ev a p.2)) = some r → ∃ D, Instr.fill (fun i => some (i * sz, sz)) C (parts.map fun p => (p.1, act.eval p.2)) = some D ∧ RowOk F D sz r ∧ D.size = C.size ∧ r.length = rows.length
  | [], rows, C, r, hv, h, hs, e => by simp [fillR] at e; subst e; exact ⟨C, rfl, h, rfl, rfl⟩
  | (i, x) :: rest, rows, C, r, hv, h, hs, e => by
    simp only [List.map_cons, fillR] at e
    cases hx : (ev a x).cs with
    | none => simp [hx] at e
    | some ys =>
      simp only [hx] at e
      split at e
      · rename_i hc
        obtain ⟨hc1, hc2⟩ := hc
        obtain ⟨g1, g2, g3⟩ := AV.cs_ok hx (hv (i, x) (by simp))
        have hsz : (act.eval x).cells.size = sz := by rw [← hc1, g1.1]; simp
        have hfit : i * sz + (act.eval x).cells.size ≤ C.size := by
          have : (i + 1) * sz ≤ rows.length * sz := Nat.mul_le_mul_right _ hc2
          rw [Nat.add_mul] at this; omega
        have he : rows[i]? = some rows[i] := List.getElem?_eq_getElem hc2
        have hel : rows[i].length = sz := h.len _ (List.getElem_mem hc2)
        have h2 := h.set1 (by omega) (j := 0) he g1 g2 (by omega)
        have e1 : rows[i].take 0 ++ ys ++ rows[i].drop (0 + ys.length) = ys := by simp [hc1, ← hel]
        rw [e1, Nat.add_zero] at h2
        obtain ⟨D, d1, d2, d3, d4⟩ := fillR_ok rest (rows.set i ys) (splice C (i * sz) (act.eval x).cells.toList) r (fun p hp => hv p (by simp [hp])) h2 (by rw [splice_size (by simpa using hfit), List.length_set]; exact hs) e
        refine ⟨D, ?_, d2, by rw [d3, splice_size (by simpa using hfit)], by rw [d4, List.length_set]⟩
        simp only [List.map_cons, Instr.fill, hsz]
        rw [if_neg (by simp; omega)]
        have hff := foldl_fill (act.eval x) (i * sz) C hfit
        rw [← d1, ← hff]
      · cases e

theorem zeros_get (zs : Array Value) (n i j : Nat) (hi : i < n) (hj : j < zs.size) : ((Array.range (n * zs.size)).map (zs[· % zs.size]!)).getD (i * zs.size + j) undef = zs.getD j undef := by
  have hlt := flat_lt hi hj
  rw [Array.getD_eq_getD_getElem?, Array.getElem?_map, Array.getElem?_range, if_pos hlt]
  simp only [Option.map_some, Option.getD_some]
  rw [Nat.mul_comm, Nat.mul_add_mod, Nat.mod_eq_of_lt hj]
  simp [hj]

theorem zeros_ok {F : Mem} (zs : Array Value) (n : Nat) (h1 : zs.toList.all (·.oneCell') = true) : RowOk F ((Array.range (n * zs.size)).map (zs[· % zs.size]!)) zs.size (List.replicate n (zs.toList.map .c)) := by
  have key : ∀ (i j : Nat) (y : AV), at2 (List.replicate n (zs.toList.map .c)) i j = some y → i < n ∧ ∃ hj : j < zs.size, y = .c zs[j] := by
    intro i j y hy
    obtain ⟨e, he, hj⟩ := at2_some.1 hy
    rw [List.getElem?_replicate] at he
    split at he
    · rename_i hi
      cases he
      rw [List.getElem?_map] at hj
      cases hz : zs.toList[j]? with
      | none => simp [hz] at hj
      | some z =>
        simp [hz] at hj
        have hlt := (List.getElem?_eq_some_iff.1 hz).1
        refine ⟨hi, by simpa using hlt, ?_⟩
        rw [← hj]
        have := (List.getElem?_eq_some_iff.1 hz).2
        simp at this; rw [← this]
    · cases he
  refine ⟨fun e he => by rw [List.eq_of_mem_replicate he]; simp, fun i j y hy => ?_, fun i j y hy => ?_⟩
  · obtain ⟨hi, hj, rfl⟩ := key i j y hy
    exact List.all_eq_true.1 h1 _ (by simp)
  · obtain ⟨hi, hj, rfl⟩ := key i j y hy
    rw [zeros_get zs n i j hi hj]
    simp [Array.getD, hj]
    exact .c _

section
variable {P : Program} {o : Oper} {a : Nat → AV} {H : Heap} {K : AV → Heap → Prop}

theorem does_buildSlice {t et : TypeId} {len : Nat} {parts : Array (Nat × Operand)} {zs : List Value} {sz : Nat} {r : List (List AV)} (ho : o.op = .buildSlice t len parts) (hE : tE P t = some et) (hS : tS P et = some sz) (hz : tZ P et = some zs) (hzl : zs.length = sz) (hp : 0 < sz) (hlen : len * sz ≤ 16777216) (h1 : zs.all (·.oneCell') = true)
    (hr : fillR sz (List.replicate len (zs.map .c)) (parts.toList.map fun p => (p.1, ev a p.2)) = some r) (h : ∀ n, H n = none → K (.s n sz 0 len len) (upd H n (.r et sz len r))) : Does P o a H K :=
  Does.ran (fun c => by simp [ho]) fun F w act hv hs => by
    obtain ⟨z, z1, z2⟩ := run_tZ hz w
    have hu := tE_eq hE
    have hS' := run_tS (P := P) hS
    have hzs : z.cells.size = sz := by rw [← hzl, ← z2]; simp
    have h0 := zeros_ok (F := F) z.cells len (by rw [z2]; exact h1)
    rw [z2, hzs] at h0
    obtain ⟨D, d1, d2, d3, d4⟩ := fillR_ok parts.toList _ _ r (fun p hp => hv.ev p.2 (by simp only [ho, Op.operands, List.toList_toArray]; exact List.mem_map.2 ⟨p, hp, rfl⟩)) h0 (by simp) hr
    have hlen' : len ≤ maxLen := by
      have : len * 1 ≤ len * sz := Nat.mul_le_mul_left _ hp
      simp [maxLen]; omega
    refine ⟨.slice (some ⟨w.heap.size, 0, none⟩) len len, w.alloc (.cells D et), F, _, .s w.heap.size sz 0 len len, ?_, ?_, ?_, Ext.alloc H w _ _, h _ (hs.fresh (Nat.le_refl _))⟩
    · have e : (parts.map fun (i, x) => (i, act.eval x)).toList = parts.toList.map fun p => (p.1, act.eval p.2) := by simp
      rw [show execOp act.eval o = (do pure (.value (← Instr.buildSlice t len (parts.map fun (i, x) => (i, act.eval x))))) by simp [execOp, ho]]
      have hng : ¬ len * sz > 2 ^ 24 := by simp; omega
      by_cases hc : len * sz = 0
      · have e0 : (Array.range (len * sz)).map (z.cells[· % sz]!) = #[] := by rw [hc]; simp
        have e0' : ∀ f : Nat → Value, (Array.range (len * sz)).map f = #[] := fun f => by rw [hc]; simp
        rw [e0] at d1
        simp only [Instr.buildSlice, Sem.run_bind, run_underlying hu, hS', Result.andThen_ok, hng, if_false, e, if_pos hc, Sem.run_pure, e0', d1]
        simp [newRow, Sem.run_bind]
      · simp only [Instr.buildSlice, Sem.run_bind, run_underlying hu, hS', Result.andThen_ok, hng, if_false, e, if_neg hc, Sem.run_pure, z1, hzs, d1]
        simp [newRow, Sem.run_bind]
    · exact .s _ _ _ _ _ _ (fun _ => by simp) (Nat.le_refl _) hlen'
    · refine hs.alloc _ _ ⟨D, heap_alloc_new w _, by rw [d3]; simp, by rw [d4]; simp, hlen', hp, d2⟩

/-! a slice that grows -/
/-- x is a slice of its own with these elements (or nil, and there are none); H0: the memory beside. -/
def OwnL0 (H : Heap) (x : AV) (ty : TypeId) (sz : Nat) (rows : List (List AV)) (H0 : Heap) : Prop :=
  (x = .c (.slice none 0 0) ∧ rows = [] ∧ H0 = H) ∨ ∃ n cap, x = .s n sz 0 rows.length cap ∧ H n = some (.r ty sz cap rows) ∧ H0 = del H n
/-- the same; there may be an address where nothing lies -/
def OwnL (H : Heap) (x : AV) (ty : TypeId) (sz : Nat) (rows : List (List AV)) (H0 : Heap) : Prop :=
  ((∃ ad, x = .c (.slice ad 0 0)) ∧ rows = [] ∧ H0 = H) ∨ ∃ n cap, x = .s n sz 0 rows.length cap ∧ H n = some (.r ty sz cap rows) ∧ H0 = del H n
theorem OwnL0.own {H H0 : Heap} {x : AV} {ty : TypeId} {sz : Nat} {rows : List (List AV)} (h : OwnL0 H x ty sz rows H0) : OwnL H x ty sz rows H0 := by
  rcases h with ⟨h1, h2, h3⟩ | h
  · exact .inl ⟨⟨_, h1⟩, h2, h3⟩
  · exact .inr h
theorem OwnL0.nil (H : Heap) (ty : TypeId) (sz : Nat) : OwnL0 H (.c (.slice none 0 0)) ty sz [] H := .inl ⟨rfl, rfl, rfl⟩
theorem OwnL.nil (H : Heap) (ty : TypeId) (sz : Nat) : OwnL H (.c (.slice none 0 0)) ty sz [] H := .inl ⟨⟨_, rfl⟩, rfl, rfl⟩
theorem OwnL.get {H H0 : Heap} {x : AV} {ty : TypeId} {sz : Nat} {rows : List (List AV)} (h : OwnL H x ty sz rows H0) {m : Nat} {k : Blk} (hm : H0 m = some k) : H m = some k := by
  rcases h with ⟨_, _, rfl⟩ | ⟨n, cap, _, _, rfl⟩
  · exact hm
  · exact del_le H n m k hm

/-- what is appended: cells that can be read -/
structure Src (F : Mem) (w : World) (v : Value) (sz : Nat) (news : List (List AV)) : Prop where
  ex : ∃ (ad : Option Addr) (c : Nat) (vs : List Value), v = .slice ad news.length c ∧ news.length ≤ c ∧ (ad = none → c = 0) ∧ vs.length = news.length * sz ∧ (∀ u ∈ vs, u.oneCell' = true) ∧
    (∀ a, ad = some a → ∀ j u, vs[j]? = some u → w.cell? (a.add j) = some u) ∧ ∀ (i j : Nat) (y : AV), at2 news i j = some y → y.one = true ∧ V F y (vs.getD (i * sz + j) undef)
  len : ∀ e ∈ news, e.length = sz

/-- the cells of elements one behind the other, read by rows -/
theorem flat_vals {F : Mem} {sz : Nat} : ∀ (news : List (List AV)) (u : Nat → Nat → Value), (∀ e ∈ news, e.length = sz) → (∀ (i j : Nat) (y : AV), at2 news i j = some y → y.one = true ∧ V F y (u i j)) →
    ∃ vs : List Value, vs.length = news.length * sz ∧ (∀ x ∈ vs, x.oneCell' = true) ∧ ∀ i j, i < news.length → j < sz → vs[i * sz + j]? = some (u i j)
  | [], u, _, _ => ⟨[], by simp, by simp, fun i j hi => by simp at hi⟩
  | e :: news, u, hl, hv => by
    obtain ⟨vs, h1, h2, h3⟩ := flat_vals news (fun i j => u (i + 1) j) (fun e' he' => hl e' (by simp [he'])) (fun i j y hy => hv (i + 1) j y (by simpa [at2] using hy))
    have he : e.length = sz := hl e (by simp)
    refine ⟨(List.range sz).map (u 0) ++ vs, by simp [h1, Nat.add_mul]; omega, ?_, ?_⟩
    · intro x hx
      rcases List.mem_append.1 hx with hx | hx
      · obtain ⟨j, hj, rfl⟩ := List.mem_map.1 hx
        have hj' : j < e.length := by rw [he]; simpa using hj
        have := hv 0 j e[j] (by simp [at2, List.getElem?_eq_getElem hj'])
        exact this.2.one this.1
      · exact h2 x hx
    · intro i j hi hj
      cases i with
      | zero => rw [Nat.zero_mul, Nat.zero_add, List.getElem?_append_left (by simpa using hj)]; simp [hj]
      | succ i =>
        rw [List.getElem?_append_right (by simp [Nat.add_mul]; omega)]
        have := h3 i j (by simpa using hi) hj
        rw [← this]; congr 1; simp [Nat.add_mul]; omega

theorem Sat.src {F : Mem} {w : World} (hs : Sat F H w) {m sz i len cap : Nat} {ty : TypeId} {cap0 : Nat} {rows : List (List AV)} (hm : H m = some (.r ty sz cap0 rows)) (hl : i + len ≤ rows.length) {v : Value} (hv : V F (.s m sz i len cap) v) : Src F w v sz ((rows.drop i).take len) := by
  obtain ⟨C, c1, c2, c3, c4, c5, c6⟩ := hs.blk m _ hm
  obtain ⟨oo, rfl, h1, h2, h3⟩ := hv.s_inv
  have hlen : ((rows.drop i).take len).length = len := by simp; omega
  have hat : ∀ (i' j : Nat) (y : AV), at2 ((rows.drop i).take len) i' j = some y → at2 rows (i + i') j = some y := fun i' j y hy => by
    have := (at2_take hy).1; rwa [at2_drop] at this
  have hle : ∀ e ∈ (rows.drop i).take len, e.length = sz := fun e he => c6.len e (List.mem_of_mem_drop (List.mem_of_mem_take he))
  obtain ⟨vs, v1, v2, v3⟩ := flat_vals ((rows.drop i).take len) (fun i' j => C.getD ((i + i') * sz + j) undef) hle (fun i' j y hy => ⟨c6.one _ j y (hat i' j y hy), c6.val _ j y (hat i' j y hy)⟩)
  refine ⟨⟨some ⟨m, oo, none⟩, cap, vs, by rw [hlen], by rw [hlen]; exact h2, (fun h => by cases h), v1, v2, ?_, ?_⟩, hle⟩
  · intro a ha j u hu
    cases ha
    have hj : j < len * sz := by have := (List.getElem?_eq_some_iff.1 hu).1; rw [v1, hlen] at this; exact this
    have hq : j / sz < len := Nat.div_lt_of_lt_mul (by rw [Nat.mul_comm]; exact hj)
    have hr : j % sz < sz := Nat.mod_lt _ c5
    have hjj : j = j / sz * sz + j % sz := by rw [Nat.mul_comm]; exact (Nat.div_add_mod j sz).symm
    have := v3 (j / sz) (j % sz) (by rw [hlen]; exact hq) hr
    rw [← hjj, hu] at this
    cases this
    rw [addr_add, cell_of_row w m _ C ty (0, 0) c1, h1 (.inl (Nat.lt_of_lt_of_le (Nat.lt_of_le_of_lt (Nat.zero_le _) hq) h2))]
    have hidx : i * sz + j = (i + j / sz) * sz + j % sz := by rw [Nat.add_mul]; omega
    rw [hidx]
    have : (i + j / sz) * sz + j % sz < C.size := by
      rw [c2]; exact flat_lt (Nat.lt_of_lt_of_le (Nat.add_lt_add_left hq i) (Nat.le_trans hl c3)) hr
    simp [Array.getD, this]
  · intro i' j y hy
    have hb := at2_some.1 hy
    obtain ⟨e, he, hj⟩ := hb
    have hi' : i' < ((rows.drop i).take len).length := (List.getElem?_eq_some_iff.1 he).1
    have hj' : j < sz := by have := hle e (List.mem_of_getElem? he); rw [← this]; exact (List.getElem?_eq_some_iff.1 hj).1
    refine ⟨c6.one _ j y (hat i' j y hy), ?_⟩
    rw [List.getD_eq_getElem?_getD, v3 i' j hi' hj']
    exact c6.val _ j y (hat i' j y hy)

theorem V.src {F : Mem} {w : World} (hs : Sat F H w) {sz : Nat} {rows : List (List AV)} {v : Value} (hp : 0 < sz) (hv : V F (.l sz rows) v) : Src F w v sz rows := by
  obtain ⟨ad, cap, u, rfl, h1, h2, h3, h4, h5, h6⟩ := hv.l_inv
  obtain ⟨vs, v1, v2, v3⟩ := flat_vals rows u h4 h5
  refine ⟨⟨ad, cap, vs, rfl, h1, h3, v1, v2, ?_, ?_⟩, h4⟩
  · intro a ha j x hx
    have hj : j < rows.length * sz := by have := (List.getElem?_eq_some_iff.1 hx).1; rwa [v1] at this
    have hq : j / sz < rows.length := Nat.div_lt_of_lt_mul (by rw [Nat.mul_comm]; exact hj)
    have hr : j % sz < sz := Nat.mod_lt _ hp
    have hjj : j = j / sz * sz + j % sz := by rw [Nat.mul_comm]; exact (Nat.div_add_mod j sz).symm
    have := v3 (j / sz) (j % sz) hq hr
    rw [← hjj, hx] at this
    cases this
    obtain ⟨hsp, h7⟩ := h6 a ha (Nat.lt_of_le_of_lt (Nat.zero_le _) hq)
    obtain ⟨b, oo, sp⟩ := a
    simp only at hsp; subst hsp
    have he : rows[j / sz]? = some rows[j / sz] := List.getElem?_eq_getElem hq
    have hel : rows[j / sz].length = sz := h4 _ (List.getElem_mem hq)
    have hy : at2 rows (j / sz) (j % sz) = some (rows[j / sz][j % sz]'(by omega)) := at2_some.2 ⟨_, he, List.getElem?_eq_getElem (by omega)⟩
    have := hs.mem _ _ _ (h7 _ _ _ hy)
    rw [addr_add, ← this]
    congr 2; simp only; omega
  · intro i j y hy
    obtain ⟨e, he, hj⟩ := at2_some.1 hy
    refine ⟨(h5 i j y hy).1, ?_⟩
    rw [List.getD_eq_getElem?_getD, v3 i j (List.getElem?_eq_some_iff.1 he).1 (by rw [← h4 e (List.mem_of_getElem? he)]; exact (List.getElem?_eq_some_iff.1 hj).1)]
    exact (h5 i j y hy).2
end
end Go.Proofs.Yteoepeionomjlaa
