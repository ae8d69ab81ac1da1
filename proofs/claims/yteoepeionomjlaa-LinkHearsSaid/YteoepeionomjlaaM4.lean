/- Operations that make memory or turn it. -/
import Derived.Test.YteoepeionomjlaaM3
import Derived.Laws.CopyRow
import Derived.Maps.AppendAt
namespace Go.Proofs.Yteoepeionomjlaa
open Go.RowKit
set_option linter.unusedVariables false
set_option linter.unusedSimpArgs false
set_option linter.constructorNameAsVariable false

/-- the cells of a value -/
def AV.cs : AV → Option (List AV)
  | .g xs => some xs
  | .c v => if v.oneCell' then some [.c v] else none
  | .p n sz i j => some [.p n sz i j]
  | .q e j => some [.q e j]
  | .s n sz i len cap => some [.s n sz i len cap]
  | .l sz rows => some [.l sz rows]
  | .f fn xs ys => some [.f fn xs ys]
  | _ => none

theorem AV.cs_ok {F : Mem} {x : AV} {ys : List AV} {v : Value} (h : x.cs = some ys) (hv : V F x v) : Vs F ys v.cells.toList ∧ (∀ y ∈ ys, y.one = true) ∧ ∀ u ∈ v.cells.toList, u.oneCell' = true := by
  have one : ∀ y : AV, y.one = true → V F y v → x.cs = some [y] → ys = [y] → Vs F ys v.cells.toList ∧ (∀ y ∈ ys, y.one = true) ∧ ∀ u ∈ v.cells.toList, u.oneCell' = true := by
    intro y hy hV _ e
    subst e
    have h1 := hV.one hy
    have : v.cells = #[v] := by cases v <;> first | rfl | (simp [Value.oneCell'] at h1)
    rw [this]
    exact ⟨Vs.cons hV (Vs.nil F), by simp [hy], by simp [h1]⟩
  cases x with
  | g xs =>
    simp [AV.cs] at h; subst h
    obtain ⟨cs, rfl, h1, h2⟩ := hv.g_inv
    refine ⟨h1, h2, fun u hu => ?_⟩
    obtain ⟨i, hi, rfl⟩ := List.getElem_of_mem hu
    have hl := h1.1
    have hi' : i < xs.length := by simp [Value.cells] at hi hl ⊢; omega
    have hx : xs[i]? = some xs[i] := List.getElem?_eq_getElem hi'
    have := (h1.2 i _ hx).one (h2 _ (List.mem_of_getElem? hx))
    simp only [Value.cells] at hi this ⊢
    rwa [List.getD_eq_getElem?_getD, List.getElem?_eq_getElem hi] at this
  | c u =>
    simp only [AV.cs] at h
    split at h
    · rename_i ho; simp at h; exact one (.c u) ho hv (by simp [AV.cs, ho]) h.symm
    · cases h
  | x => cases h
  | t xs => cases h
  | _ => simp [AV.cs] at h; exact one _ rfl hv rfl h.symm

/-! ### a stretch of cells is laid anew -/
def splice (C : Array Value) (o : Nat) (vs : List Value) : Array Value := (C.toList.take o ++ vs ++ C.toList.drop (o + vs.length)).toArray
theorem splice_size {C : Array Value} {o : Nat} {vs : List Value} (h : o + vs.length ≤ C.size) : (splice C o vs).size = C.size := by
  simp [splice]; omega
theorem splice_get {C : Array Value} {o : Nat} {vs : List Value} (h : o + vs.length ≤ C.size) (m : Nat) : (splice C o vs).getD m undef = if o ≤ m ∧ m < o + vs.length then vs.getD (m - o) undef else C.getD m undef := by
  rw [arr_getD, arr_getD, splice, List.getD_eq_getElem?_getD, List.getD_eq_getElem?_getD, List.getD_eq_getElem?_getD]
  have h1 : (C.toList.take o).length = o := by simp; omega
  split
  · rename_i hm
    congr 1
    rw [List.append_assoc, List.getElem?_append_right (by omega), h1, List.getElem?_append_left (by omega)]
  · rename_i hm
    congr 1
    by_cases hmo : m < o
    · rw [List.append_assoc, List.getElem?_append_left (by omega), List.getElem?_take, if_pos hmo]
    · rw [List.getElem?_append_right (by simp; omega), List.getElem?_drop]
      congr 1
      simp; omega

theorem flat_inj {i j i' j' sz : Nat} (hj : j < sz) (hj' : j' < sz) (h : i * sz + j = i' * sz + j') : i = i' ∧ j = j' := by
  have h1 : (i * sz + j) / sz = i := by rw [Nat.add_comm, Nat.add_mul_div_right _ _ (by omega), Nat.div_eq_of_lt hj]; omega
  have h2 : (i' * sz + j') / sz = i' := by rw [Nat.add_comm, Nat.add_mul_div_right _ _ (by omega), Nat.div_eq_of_lt hj']; omega
  have : i = i' := by rw [← h1, ← h2, h]
  subst this
  exact ⟨rfl, by omega⟩

theorem flat_lt {i j n sz : Nat} (hi : i < n) (hj : j < sz) : i * sz + j < n * sz := by
  have : (i + 1) * sz ≤ n * sz := Nat.mul_le_mul_right _ hi
  rw [Nat.add_mul] at this; omega

theorem RowOk.at2 {F : Mem} {C : Array Value} {sz : Nat} {rows : List (List AV)} (h : RowOk F C sz rows) {i j : Nat} {y : AV} (hy : at2 rows i j = some y) : i < rows.length ∧ j < sz := by
  obtain ⟨e, he, hj⟩ := at2_some.1 hy
  have := h.len e (List.mem_of_getElem? he)
  exact ⟨(List.getElem?_eq_some_iff.1 he).1, by rw [← this]; exact (List.getElem?_eq_some_iff.1 hj).1⟩

/-- cells j .. of element i -/
theorem RowOk.set1 {F : Mem} {C : Array Value} {sz : Nat} {rows : List (List AV)} (h : RowOk F C sz rows) (hs : rows.length * sz ≤ C.size) {i j : Nat} {e ys : List AV} {vs : List Value} (he : rows[i]? = some e) (hv : Vs F ys vs) (h1 : ∀ y ∈ ys, y.one = true) (hj : j + ys.length ≤ e.length) :
    RowOk F (splice C (i * sz + j) vs) sz (rows.set i (e.take j ++ ys ++ e.drop (j + ys.length))) := by
  have hi : i < rows.length := (List.getElem?_eq_some_iff.1 he).1
  have hel : e.length = sz := h.len e (List.mem_of_getElem? he)
  have hvl := hv.1
  have hfit : i * sz + j + vs.length ≤ C.size := by
    have : (i + 1) * sz ≤ rows.length * sz := Nat.mul_le_mul_right _ hi
    rw [Nat.add_mul] at this; omega
  have hnew : (e.take j ++ ys ++ e.drop (j + ys.length)).length = sz := by simp; omega
  have key : ∀ (i' j' : Nat) (y : AV), Go.Proofs.Yteoepeionomjlaa.at2 (rows.set i (e.take j ++ ys ++ e.drop (j + ys.length))) i' j' = some y →
      (i' = i ∧ j ≤ j' ∧ j' < j + ys.length ∧ ys[j' - j]? = some y) ∨ ((i' ≠ i ∨ j' < j ∨ j + ys.length ≤ j') ∧ Go.Proofs.Yteoepeionomjlaa.at2 rows i' j' = some y) := by
    intro i' j' y hy
    obtain ⟨e', he', hy'⟩ := at2_some.1 hy
    by_cases hii : i' = i
    · subst hii
      rw [List.getElem?_set_self hi] at he'
      cases he'
      by_cases hj1 : j' < j
      · right; refine ⟨.inr (.inl hj1), at2_some.2 ⟨e, he, ?_⟩⟩
        rw [List.append_assoc, List.getElem?_append_left (by simp; omega), List.getElem?_take, if_pos hj1] at hy'
        exact hy'
      · by_cases hj2 : j' < j + ys.length
        · left; refine ⟨rfl, by omega, hj2, ?_⟩
          rw [List.append_assoc, List.getElem?_append_right (by simp; omega), List.getElem?_append_left (by simp; omega)] at hy'
          have : (e.take j).length = j := by simp; omega
          rwa [this] at hy'
        · right; refine ⟨.inr (.inr (by omega)), at2_some.2 ⟨e, he, ?_⟩⟩
          rw [List.getElem?_append_right (by simp; omega), List.getElem?_drop] at hy'
          rw [← hy']; congr 1; simp; omega
    · right
      rw [List.getElem?_set_ne (Ne.symm hii)] at he'
      exact ⟨.inl hii, at2_some.2 ⟨e', he', hy'⟩⟩
  have hlen : ∀ e' ∈ rows.set i (e.take j ++ ys ++ e.drop (j + ys.length)), e'.length = sz := by
    intro e' he'
    rcases List.mem_or_eq_of_mem_set he' with h2 | h2
    · exact h.len e' h2
    · rw [h2]; exact hnew
  refine ⟨hlen, fun i' j' y hy => ?_, fun i' j' y hy => ?_⟩
  · rcases key i' j' y hy with ⟨_, _, _, h2⟩ | ⟨_, h2⟩
    · exact h1 y (List.mem_of_getElem? h2)
    · exact h.one i' j' y h2
  · rw [splice_get hfit]
    rcases key i' j' y hy with ⟨rfl, h3, h4, h2⟩ | ⟨h3, h2⟩
    · rw [if_pos (by omega)]
      have := hv.2 _ y h2
      rwa [show i' * sz + j' - (i' * sz + j) = j' - j by omega]
    · have hb := h.at2 h2
      rw [if_neg]
      · exact h.val i' j' y h2
      · intro hc
        have hd : i' * sz + j' = i * sz + (i' * sz + j' - i * sz) := by omega
        obtain ⟨e1, e2⟩ := flat_inj hb.2 (by omega) hd
        omega

theorem RowOk.single {F : Mem} {e : List AV} {vs : List Value} (hv : Vs F e vs) (h1 : ∀ y ∈ e, y.one = true) : RowOk F vs.toArray e.length [e] := by
  have key : ∀ (i j : Nat) (y : AV), Go.Proofs.Yteoepeionomjlaa.at2 [e] i j = some y → i = 0 ∧ e[j]? = some y := by
    intro i j y hy
    obtain ⟨e', he', hy'⟩ := at2_some.1 hy
    cases i with
    | zero => simp at he'; subst he'; exact ⟨rfl, hy'⟩
    | succ i => simp at he'
  refine ⟨by simp, fun i j y hy => h1 y (List.mem_of_getElem? (key i j y hy).2), fun i j y hy => ?_⟩
  obtain ⟨rfl, hy'⟩ := key i j y hy
  have := hv.2 j y hy'
  rw [arr_getD]
  simpa using this

section
variable {P : Program} {o : Oper} {a : Nat → AV} {H : Heap} {K : AV → Heap → Prop}

theorem newVar_does {F : Mem} {w : World} (hs : Sat F H w) (t : TypeId) {e : List AV} {vs : List Value} (hv : Vs F e vs) (h1 : ∀ y ∈ e, y.one = true) (hp : 0 < e.length) :
    Sat F (upd H w.heap.size (.r t e.length 1 [e])) (w.alloc (.cells vs.toArray t)) := by
  refine hs.alloc _ _ ⟨vs.toArray, heap_alloc_new w _, by simp [hv.1], by simp, by simp [maxLen], hp, RowOk.single hv h1⟩

theorem does_box {t : TypeId} {x : Operand} {ys : List AV} (ho : o.op = .box t x) (hx : (ev a x).cs = some ys) (hp : 0 < ys.length) (h : ∀ n, H n = none → K (.p n ys.length 0 0) (upd H n (.r t ys.length 1 [ys]))) : Does P o a H K :=
  Does.ran (fun c => by simp [ho]) fun F w act hv hs => by
    obtain ⟨h1, h2, h3⟩ := AV.cs_ok hx (hv.ev x)
    refine ⟨.pointer (some ⟨w.heap.size, 0, none⟩), w.alloc (.cells (act.eval x).cells t), F, _, .p w.heap.size ys.length 0 0, ?_, ?_, ?_, Ext.alloc H w _ _, h _ (hs.fresh (Nat.le_refl _))⟩
    · simp [execOp, ho, Instr.box, newVar, newRow, Sem.run_bind]
    · simpa using V.p (F := F) w.heap.size ys.length 0 0
    · have := newVar_does hs t h1 h2 hp
      simpa using this

theorem zs_Vs {F : Mem} (zs : List Value) : Vs F (zs.map .c) zs := by
  induction zs with
  | nil => exact Vs.nil F
  | cons z zs ih => exact Vs.cons (.c z) ih

theorem does_alloc {t : TypeId} {zs : List Value} (ho : o.op = .alloc t) (hz : tZ P t = some zs) (h1 : zs.all (·.oneCell') = true) (hp : 0 < zs.length) (h : ∀ n, H n = none → K (.p n zs.length 0 0) (upd H n (.r t zs.length 1 [zs.map .c]))) : Does P o a H K :=
  Does.ran (fun c => by simp [ho]) fun F w act hv hs => by
    obtain ⟨z, h2, h3⟩ := run_tZ hz w
    refine ⟨.pointer (some ⟨w.heap.size, 0, none⟩), w.alloc (.cells z.cells t), F, _, .p w.heap.size zs.length 0 0, ?_, ?_, ?_, Ext.alloc H w _ _, h _ (hs.fresh (Nat.le_refl _))⟩
    · simp [execOp, ho, Instr.alloc, newVar, newRow, Sem.run_bind, h2]
    · simpa using V.p (F := F) w.heap.size zs.length 0 0
    · have := newVar_does hs t (e := zs.map .c) (zs_Vs zs) (fun y hy => by
        obtain ⟨z, hz, rfl⟩ := List.mem_map.1 hy
        exact List.all_eq_true.1 h1 z hz) (by simpa using hp)
      rw [List.length_map] at this
      have e : (w.alloc (.cells zs.toArray t)) = w.alloc (.cells z.cells t) := by rw [← h3]
      rw [← e]; exact this

theorem turn_row {F : Mem} {w : World} (hs : Sat F H w) {n : Nat} {ty : TypeId} {sz cap : Nat} {rows rows' : List (List AV)} {C C' : Array Value} (hn : H n = some (.r ty sz cap rows)) (hC : w.heap[n]? = some (.cells C ty (0, 0))) (hsz : C'.size = cap * sz) (hl : rows'.length ≤ cap) (hm : cap ≤ maxLen) (hp : 0 < sz) (hr : RowOk F C' sz rows') :
    Sat F (upd H n (.r ty sz cap rows')) (w.setRow n C') ∧ Ext F H w F (upd H n (.r ty sz cap rows')) (w.setRow n C') :=
  ⟨hs.turn hn (by simp) (fun m hm _ => setRow_other w n m C' hm) _ ⟨C', setRow_heap w n C C' ty _ hC, hsz, hl, hm, hp, hr⟩,
   Ext.turn hn (by simp) (by simp) (by simp) (by simp) (fun m hm _ => setRow_other w n m C' hm) _⟩

theorem does_store {t : TypeId} {x y : Operand} {n sz i j : Nat} {ty : TypeId} {cap : Nat} {rows : List (List AV)} {e ys : List AV} {k : Nat} (ho : o.op = .store t x y) (hx : ev a x = .p n sz i j) (hH : H n = some (.r ty sz cap rows)) (he : rows[i]? = some e) (hy : (ev a y).cs = some ys) (hS : tS P t = some k) (hk : ys.length = k) (hj : j + k ≤ e.length)
    (h : K .x (upd H n (.r ty sz cap (rows.set i (e.take j ++ ys ++ e.drop (j + k)))))) : Does P o a H K :=
  Does.skip (fun c => by simp [ho]) fun F w act hv hs => by
    have h1 := hv.ev x
    rw [hx] at h1
    obtain ⟨h2, h3, h4⟩ := AV.cs_ok hy (hv.ev y)
    obtain ⟨C, c1, c2, c3, c4, c5, c6⟩ := hs.blk n _ hH
    have hS' := run_tS (P := P) hS
    have hi : i < rows.length := (List.getElem?_eq_some_iff.1 he).1
    have hel : e.length = sz := c6.len e (List.mem_of_getElem? he)
    have hle : rows.length * sz ≤ C.size := by rw [c2]; exact Nat.mul_le_mul_right _ c3
    have hfit : i * sz + j + 0 + (act.eval y).cells.toList.length ≤ C.size := by
      rw [← h2.1, hk]
      have : (i + 1) * sz ≤ rows.length * sz := Nat.mul_le_mul_right _ hi
      rw [Nat.add_mul] at this; omega
    have hst := run_storeCells_at P n (i * sz + j) ty (act.eval y).cells.toList 0 C w c1 hfit h4
    have hC' : (C.toList.take (i * sz + j + 0) ++ (act.eval y).cells.toList ++ C.toList.drop (i * sz + j + 0 + (act.eval y).cells.toList.length)).toArray = splice C (i * sz + j) (act.eval y).cells.toList := rfl
    rw [hC'] at hst
    have hsize : (act.eval y).cells.size = k := by rw [← hk, h2.1]; simp
    have hr := c6.set1 hle he h2 h3 (by rw [hk]; exact hj)
    rw [hk] at hr
    obtain ⟨s1, s2⟩ := turn_row hs hH c1 (by rw [splice_size (by simpa using hfit)]; exact c2) (by rw [List.length_set]; exact c3) c4 c5 hr
    refine ⟨w.setRow n (splice C (i * sz + j) (act.eval y).cells.toList), _, ?_, s1, s2, h⟩
    simp [execOp, ho, h1.p_inv, Instr.storeAt, Instr.sureAddr, storeVar, Sem.run_bind, hS', hsize, hst]
end
end Go.Proofs.Yteoepeionomjlaa
