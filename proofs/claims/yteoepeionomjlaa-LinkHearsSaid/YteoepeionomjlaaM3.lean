/- Operations on memory: loads, stores, variables, structs, slices. -/
import Derived.Test.YteoepeionomjlaaM2
namespace Go.Proofs.Yteoepeionomjlaa
open Go.RowKit
set_option linter.unusedVariables false
set_option linter.unusedSimpArgs false
set_option linter.constructorNameAsVariable false

/-! ### what is asked of types -/
def tS (P : Program) (t : TypeId) : Option Nat := (P.info? t).map (·.size)
def isAggD : TypeDesc → Bool
  | .struct _ | .array .. => true
  | _ => false
def tA (P : Program) (t : TypeId) : Option Bool := (P.underlying t).map isAggD
def tZ (P : Program) (t : TypeId) : Option (List Value) := (P.info? t).bind fun i => i.zero.map (·.cells.toList)
def tF (P : Program) (t : TypeId) (i : Nat) : Option (Nat × TypeId) :=
  match P.underlying t with
  | some (.struct fs) => fs[i]?.map fun f => (f.offset, f.type)
  | _ => none
def tE (P : Program) (t : TypeId) : Option TypeId :=
  match P.underlying t with
  | some (.slice e) => some e
  | _ => none
def tR (P : Program) (t : TypeId) : Option (Nat × TypeId) :=
  match P.underlying t with
  | some (.array n e) => some (n, e)
  | _ => none
theorem tE_eq {P : Program} {t e : TypeId} (h : tE P t = some e) : P.underlying t = some (.slice e) := by
  unfold tE at h; split at h <;> simp at h; subst h; assumption
theorem tR_eq {P : Program} {t e : TypeId} {n : Nat} (h : tR P t = some (n, e)) : P.underlying t = some (.array n e) := by
  unfold tR at h; split at h <;> simp at h; obtain ⟨rfl, rfl⟩ := h; assumption
theorem run_tS {P : Program} {t : TypeId} {k : Nat} (h : tS P t = some k) (w : World) : (sizeOf t).run P w = .ok k w := by
  unfold tS at h
  cases hi : P.info? t with
  | none => simp [hi] at h
  | some i => simp [hi] at h; subst h; simp [sizeOf, typeInfo, hi]
theorem run_tA {P : Program} {t : TypeId} {b : Bool} (h : tA P t = some b) (w : World) : (isAgg t).run P w = .ok b w := by
  unfold tA at h
  cases hi : P.underlying t with
  | none => simp [hi] at h
  | some d =>
    simp [hi] at h; subst h
    simp only [isAgg, Sem.run_bind, run_underlying hi, Result.andThen_ok]
    cases d <;> rfl
theorem run_tZ {P : Program} {t : TypeId} {zs : List Value} (h : tZ P t = some zs) (w : World) : ∃ z, (zeroValue t).run P w = .ok z w ∧ z.cells.toList = zs := by
  unfold tZ at h
  cases hi : P.info? t with
  | none => simp [hi] at h
  | some i =>
    simp [hi] at h
    obtain ⟨z, hz, h⟩ := h
    exact ⟨z, by simp [zeroValue, typeInfo, hi, hz, Sem.run_bind], h⟩

/-! ### places that read as cells -/
def Reads (F : Mem) (w : World) (b off : Nat) (e : List AV) : Prop := ∀ (k : Nat) (y : AV), e[k]? = some y → ∃ v, w.cell? ⟨b, off + k, none⟩ = some v ∧ V F y v ∧ y.one = true

theorem at2_some {α : Type} {L : List (List α)} {i j : Nat} {y : α} : at2 L i j = some y ↔ ∃ e, L[i]? = some e ∧ e[j]? = some y := by
  unfold at2; cases L[i]? <;> simp

theorem RowOk.reads {F : Mem} {w : World} {n : Nat} {C : Array Value} {ty : TypeId} {sz : Nat} {rows : List (List AV)} (h : RowOk F C sz rows) (hC : w.heap[n]? = some (.cells C ty (0, 0))) (hs : rows.length * sz ≤ C.size) {i : Nat} {e : List AV} (he : rows[i]? = some e) : Reads F w n (i * sz) e := by
  intro k y hy
  have ha : at2 rows i k = some y := at2_some.2 ⟨e, he, hy⟩
  have hi : i < rows.length := (List.getElem?_eq_some_iff.1 he).1
  have hk : k < sz := by
    have h1 := h.len e (List.mem_of_getElem? he)
    have h2 := (List.getElem?_eq_some_iff.1 hy).1
    omega
  have hlt : i * sz + k < C.size := by
    have : (i + 1) * sz ≤ rows.length * sz := Nat.mul_le_mul_right _ hi
    rw [Nat.add_mul] at this; omega
  refine ⟨C.getD (i * sz + k) undef, ?_, h.val i k y ha, h.one i k y ha⟩
  rw [cell_of_row w n _ C ty (0, 0) hC]
  simp [Array.getD, hlt]

theorem Sat.reads {F : Mem} {H : Heap} {w : World} (h : Sat F H w) {n : Nat} {ty : TypeId} {sz cap : Nat} {rows : List (List AV)} (hn : H n = some (.r ty sz cap rows)) {i : Nat} {e : List AV} (he : rows[i]? = some e) : Reads F w n (i * sz) e := by
  obtain ⟨C, h1, h2, h3, h4, h5, h6⟩ := h.blk n _ hn
  exact h6.reads h1 (by rw [h2]; exact Nat.mul_le_mul_right _ h3) he

theorem V.reads {F : Mem} {H : Heap} {w : World} (hs : Sat F H w) {e : List AV} {j : Nat} {v : Value} (h : V F (.q e j) v) : ∃ b o, v = .pointer (some ⟨b, o + j, none⟩) ∧ Reads F w b o e := by
  obtain ⟨b, o, u, rfl, hu⟩ := h.q_inv
  exact ⟨b, o, rfl, fun k y hy => ⟨u k, hs.mem _ _ _ (hu k y hy).2.2, (hu k y hy).2.1, (hu k y hy).1⟩⟩

/-- What lies at cell j: a struct's or an array's cells, or one cell. -/
def prt (ag : Bool) (k : Nat) (e : List AV) (j : Nat) : AV := if ag then .g ((e.drop j).take k) else e.getD j .x

theorem Reads.list {F : Mem} {w : World} {b off : Nat} {e : List AV} (h : Reads F w b off e) (j k : Nat) (hj : j + k ≤ e.length) : ∃ vs : List Value, vs.length = k ∧ Vs F ((e.drop j).take k) vs ∧ (∀ y ∈ (e.drop j).take k, y.one = true) ∧ ∀ m v, vs[m]? = some v → w.cell? ⟨b, off + j + m, none⟩ = some v := by
  induction k with
  | zero => exact ⟨[], rfl, by simpa using Vs.nil F, by simp, by simp⟩
  | succ k ih =>
    obtain ⟨vs, h1, h2, h3, h4⟩ := ih (by omega)
    have hjk : j + k < e.length := by omega
    obtain ⟨v, hv, hV, ho⟩ := h (j + k) e[j + k] (List.getElem?_eq_getElem hjk)
    have e1 : (e.drop j).take (k + 1) = (e.drop j).take k ++ [e[j + k]] := by
      rw [List.take_succ_eq_append_getElem (by simp; omega)]
      simp
    refine ⟨vs ++ [v], by simp [h1], ?_, ?_, ?_⟩
    · rw [e1]; exact h2.append (Vs.cons hV (Vs.nil F))
    · rw [e1]; intro y hy
      rcases List.mem_append.1 hy with hy | hy
      · exact h3 y hy
      · simp at hy; subst hy; exact ho
    · intro m u hu
      by_cases hm : m < vs.length
      · rw [List.getElem?_append_left hm] at hu; exact h4 m u hu
      · rw [List.getElem?_append_right (by omega)] at hu
        have : m - vs.length = 0 := by
          have := (List.getElem?_eq_some_iff.1 hu).1; simp at this; omega
        rw [this] at hu; simp at hu; subst hu
        have : m = k := by omega
        subst this
        rw [← hv, Nat.add_assoc]

theorem addr_add (b o j : Nat) : (⟨b, o, none⟩ : Addr).add j = ⟨b, o + j, none⟩ := Addr.add_lit ..

theorem Reads.load {P : Program} {F : Mem} {w : World} {b off : Nat} {e : List AV} (h : Reads F w b off e) {t : TypeId} {ag : Bool} {k j : Nat} (hA : tA P t = some ag) (hS : tS P t = some k) (hj : j + k ≤ e.length) (hk : 0 < k) :
    ∃ v, (Instr.loadAt t (.pointer (some ⟨b, off + j, none⟩))).run P w = .ok v w ∧ V F (prt ag k e j) v := by
  have hA' := run_tA (P := P) hA
  have hS' := run_tS (P := P) hS
  cases ag with
  | true =>
    obtain ⟨vs, h1, h2, h3, h4⟩ := h.list j k hj
    have hl := run_loadCells_list (P := P) w ⟨b, off + j, none⟩ vs (fun m v hv => by rw [addr_add]; exact h4 m v hv)
    rw [h1] at hl
    refine ⟨.agg vs.toArray, ?_, ?_⟩
    · simp [Instr.loadAt, Instr.sureAddr, loadVar, Sem.run_bind, hA', hS', hl]
    · show V F (.g _) _
      exact V.g_of (by simpa using h2) h3
  | false =>
    have hjl : j < e.length := by omega
    obtain ⟨v, hv, hV, ho⟩ := h j e[j] (List.getElem?_eq_getElem hjl)
    refine ⟨v, ?_, ?_⟩
    · simp [Instr.loadAt, Instr.sureAddr, loadVar, Sem.run_bind, hA', run_load, hv]
    · show V F (e.getD j .x) v
      rw [List.getD_eq_getElem?_getD, List.getElem?_eq_getElem hjl]; exact hV

section
variable {P : Program} {o : Oper} {a : Nat → AV} {H : Heap} {K : AV → Heap → Prop}

theorem does_load {t : TypeId} {x : Operand} {n sz i j : Nat} {ty : TypeId} {cap : Nat} {rows : List (List AV)} {e : List AV} {ag : Bool} {k : Nat} (ho : o.op = .load t x) (hx : ev a x = .p n sz i j) (hH : H n = some (.r ty sz cap rows)) (he : rows[i]? = some e) (hA : tA P t = some ag) (hS : tS P t = some k) (hj : j + k ≤ e.length) (hk : 0 < k) (h : K (prt ag k e j) H) : Does P o a H K :=
  Does.val (fun c => by simp [ho]) h fun F w act hv hs => by
    have h1 := hv.ev x
    rw [hx] at h1
    obtain ⟨v, h2, h3⟩ := (hs.reads hH he).load hA hS hj hk
    exact ⟨v, by simp [execOp, ho, h1.p_inv, Sem.run_bind, h2], h3⟩

theorem does_load_q {t : TypeId} {x : Operand} {j : Nat} {e : List AV} {ag : Bool} {k : Nat} (ho : o.op = .load t x) (hx : ev a x = .q e j) (hA : tA P t = some ag) (hS : tS P t = some k) (hj : j + k ≤ e.length) (hk : 0 < k) (h : K (prt ag k e j) H) : Does P o a H K :=
  Does.val (fun c => by simp [ho]) h fun F w act hv hs => by
    have h1 := hv.ev x
    rw [hx] at h1
    obtain ⟨b, off, e1, hr⟩ := h1.reads hs
    obtain ⟨v, h2, h3⟩ := hr.load hA hS hj hk
    exact ⟨v, by simp [execOp, ho, e1, Sem.run_bind, h2], h3⟩

theorem fieldAt_run {t : TypeId} {f off k : Nat} {ft : TypeId} (hF : tF P t f = some (off, ft)) (hS : tS P ft = some k) (hk : 0 < k) (b oo : Nat) (w : World) : (Instr.fieldAt t (.pointer (some ⟨b, oo, none⟩)) f).run P w = .ok (.pointer (some ⟨b, oo + off, none⟩)) w := by
  unfold tF at hF
  split at hF
  · rename_i fs hu
    simp at hF
    obtain ⟨g, hg, h1, h2⟩ := hF
    subst h1; subst h2
    have hS' := run_tS (P := P) hS
    have hne : k ≠ 0 := by omega
    simp [Instr.fieldAt, Sem.run_bind, run_underlying hu, hg, Instr.sureAddr, fieldPlace, hS', hne, addr_add]
  · cases hF

theorem does_fieldAddr {t : TypeId} {x : Operand} {f n sz i j off k : Nat} {ft : TypeId} (ho : o.op = .fieldAddr t x f) (hx : ev a x = .p n sz i j) (hF : tF P t f = some (off, ft)) (hS : tS P ft = some k) (hk : 0 < k) (h : K (.p n sz i (j + off)) H) : Does P o a H K :=
  Does.val (fun c => by simp [ho]) h fun F w act hv hs => by
    have h1 := hv.ev x
    rw [hx] at h1
    refine ⟨_, by simp [execOp, ho, h1.p_inv, Sem.run_bind, fieldAt_run hF hS hk]; rfl, ?_⟩
    rw [Nat.add_assoc]; exact .p ..
theorem does_fieldAddr_q {t : TypeId} {x : Operand} {f j off k : Nat} {e : List AV} {ft : TypeId} (ho : o.op = .fieldAddr t x f) (hx : ev a x = .q e j) (hF : tF P t f = some (off, ft)) (hS : tS P ft = some k) (hk : 0 < k) (h : K (.q e (j + off)) H) : Does P o a H K :=
  Does.val (fun c => by simp [ho]) h fun F w act hv hs => by
    have h1 := hv.ev x
    rw [hx] at h1
    obtain ⟨b, oo, u, e1, hu⟩ := h1.q_inv
    refine ⟨_, by simp [execOp, ho, e1, Sem.run_bind, fieldAt_run hF hS hk]; rfl, ?_⟩
    rw [Nat.add_assoc]; exact .q e _ b oo u (fun k y hy => (hu k y hy).1) (fun k y hy => (hu k y hy).2.1) (fun k y hy => (hu k y hy).2.2)

/-! a part of a value -/
theorem part_run {F : Mem} {t : TypeId} {ag : Bool} {k : Nat} (hA : tA P t = some ag) (hS : tS P t = some k) {xs : List AV} {cs : Array Value} (hc : Vs F xs cs.toList) (h1 : ∀ y ∈ xs, y.one = true) (j : Nat) (hj : j + k ≤ xs.length) (hk : 0 < k) (w : World) : ∃ v, (part t cs j).run P w = .ok v w ∧ V F (prt ag k xs j) v := by
  have hA' := run_tA (P := P) hA
  have hS' := run_tS (P := P) hS
  have hl := hc.1
  simp at hl
  cases ag with
  | true =>
    refine ⟨.agg (cs.extract j (j + k)), by simp [part, Sem.run_bind, hA', hS'], ?_⟩
    show V F (.g _) _
    refine V.g_of ⟨by simp; omega, fun i y hy => ?_⟩ (fun y hy => h1 y (List.mem_of_mem_drop (List.mem_of_mem_take hy)))
    rw [List.getElem?_take] at hy
    split at hy
    · rw [List.getElem?_drop] at hy
      have := hc.2 _ y hy
      have e : (cs.extract j (j + k)).toList.getD i undef = cs.toList.getD (j + i) undef := by
        rw [List.getD_eq_getElem?_getD, List.getD_eq_getElem?_getD]
        congr 1
        rw [Array.getElem?_toList, Array.getElem?_toList, Array.getElem?_extract]
        rw [if_pos (by omega)]
      rw [e]; exact this
    · cases hy
  | false =>
    have hjl : j < cs.size := by omega
    refine ⟨cs[j], by simp [part, Sem.run_bind, hA', hjl], ?_⟩
    show V F (xs.getD j .x) _
    have hy : xs[j]? = some xs[j] := List.getElem?_eq_getElem (by omega)
    have := hc.2 j _ hy
    rw [List.getD_eq_getElem?_getD, hy]
    rw [← arr_getD] at this
    simpa [Array.getD, hjl] using this

theorem does_field {t : TypeId} {x : Operand} {f off k : Nat} {ft : TypeId} {ag : Bool} {xs : List AV} (ho : o.op = .field t x f) (hx : ev a x = .g xs) (hF : tF P t f = some (off, ft)) (hA : tA P ft = some ag) (hS : tS P ft = some k) (hk : 0 < k) (hj : off + k ≤ xs.length) (h : K (prt ag k xs off) H) : Does P o a H K :=
  Does.val (fun c => by simp [ho]) h fun F w act hv hs => by
    have h1 := hv.ev x
    rw [hx] at h1
    obtain ⟨cs, e1, hc, ho1⟩ := h1.g_inv
    obtain ⟨v, h2, h3⟩ := part_run hA hS hc ho1 off hj hk w
    refine ⟨v, ?_, h3⟩
    unfold tF at hF
    split at hF
    · rename_i fs hu
      simp at hF
      obtain ⟨g, hg, e2, e3⟩ := hF
      subst e2; subst e3
      simp [execOp, ho, e1, Instr.field, Sem.run_bind, run_underlying hu, hg, asAgg, h2]
    · cases hF

theorem does_index {t : TypeId} {x y : Operand} {n k : Nat} {et : TypeId} {ag : Bool} {xs : List AV} {kd : IntKind} {ix : Int} (ho : o.op = .index t x y) (hx : ev a x = .g xs) (hy : ev a y = .c (.int kd ix)) (hR : tR P t = some (n, et)) (hA : tA P et = some ag) (hS : tS P et = some k) (hk : 0 < k) (hn : xs.length = n * k) (h0 : 0 ≤ ix) (h1 : ix < n) (h : K (prt ag k xs (ix.toNat * k)) H) : Does P o a H K :=
  Does.val (fun c => by simp [ho]) h fun F w act hv hs => by
    have h2 := hv.ev x
    rw [hx] at h2
    obtain ⟨cs, e1, hc, ho1⟩ := h2.g_inv
    have hi : ix.toNat < n := by omega
    have hj : ix.toNat * k + k ≤ xs.length := by
      have : (ix.toNat + 1) * k ≤ n * k := Nat.mul_le_mul_right _ hi
      rw [Nat.add_mul] at this; omega
    obtain ⟨v, h3, h4⟩ := part_run hA hS hc ho1 _ hj hk w
    have hS' := run_tS (P := P) hS
    exact ⟨v, by simp [execOp, ho, e1, hv.c hy, Instr.index, asIntOf, Sem.run_bind, run_underlying (tR_eq hR), h0, h1, hS', h3], h4⟩

/-! elements' places -/
theorem does_indexAddr {t : TypeId} {x y : Operand} {n sz i len cap : Nat} {et : TypeId} {kd : IntKind} {ix : Int} (ho : o.op = .indexAddr t x y) (hx : ev a x = .s n sz i len cap) (hy : ev a y = .c (.int kd ix)) (hE : tE P t = some et) (hS : tS P et = some sz) (h0 : 0 ≤ ix) (h1 : ix < len) (h : K (.p n sz (i + ix.toNat) 0) H) : Does P o a H K :=
  Does.val (fun c => by simp [ho]) h fun F w act hv hs => by
    have h2 := hv.ev x
    rw [hx] at h2
    obtain ⟨oo, e1, h3, h4, h5⟩ := h2.s_inv
    have hS' := run_tS (P := P) hS
    have hu := tE_eq hE
    refine ⟨.pointer (some ⟨n, (i + ix.toNat) * sz + 0, none⟩), ?_, .p ..⟩
    have := h3 (.inl (by omega))
    subst this
    simp [execOp, ho, e1, hv.c hy, Instr.indexAt, asIntOf, Sem.run_bind, run_underlying hu, h0, h1, hS', addr_add, Nat.add_mul]

theorem does_indexAddr_l {t : TypeId} {x y : Operand} {sz : Nat} {rows : List (List AV)} {e : List AV} {et : TypeId} {kd : IntKind} {ix : Int} (ho : o.op = .indexAddr t x y) (hx : ev a x = .l sz rows) (hy : ev a y = .c (.int kd ix)) (hE : tE P t = some et) (hS : tS P et = some sz) (h0 : 0 ≤ ix) (he : rows[ix.toNat]? = some e) (h : K (.q e 0) H) : Does P o a H K :=
  Does.val (fun c => by simp [ho]) h fun F w act hv hs => by
    have h2 := hv.ev x
    rw [hx] at h2
    obtain ⟨ad, cap, u, e1, h3, h4, h5, h6, h7, h8⟩ := h2.l_inv
    have hlt : ix.toNat < rows.length := (List.getElem?_eq_some_iff.1 he).1
    have h1 : ix < rows.length := by omega
    have hS' := run_tS (P := P) hS
    have hu := tE_eq hE
    cases ad with
    | none => have := h5 rfl; omega
    | some ad =>
      obtain ⟨b, oo, sp⟩ := ad
      obtain ⟨hsp, h9⟩ := h8 _ rfl (by omega)
      simp only at hsp
      subst hsp
      refine ⟨.pointer (some ⟨b, (oo + ix.toNat * sz) + 0, none⟩), ?_, .q e 0 b _ (u ix.toNat) ?_ ?_ ?_⟩
      · simp [execOp, ho, e1, hv.c hy, Instr.indexAt, asIntOf, Sem.run_bind, run_underlying hu, h0, h1, hS', addr_add]
      · exact fun k y hy => (h7 _ k y (at2_some.2 ⟨e, he, hy⟩)).1
      · exact fun k y hy => (h7 _ k y (at2_some.2 ⟨e, he, hy⟩)).2
      · exact fun k y hy => h9 _ k y (at2_some.2 ⟨e, he, hy⟩)

theorem indexAt_arr {t et : TypeId} {m sz : Nat} (hR : tR P t = some (m, et)) (hS : tS P et = some sz) (kd : IntKind) (ix : Int) (h0 : 0 ≤ ix) (h1 : ix < m) (b oo : Nat) (w : World) : (Instr.indexAt t (.pointer (some ⟨b, oo, none⟩)) (.int kd ix)).run P w = .ok (.pointer (some ⟨b, oo + ix.toNat * sz, none⟩)) w := by
  have hS' := run_tS (P := P) hS
  simp [Instr.indexAt, asIntOf, Sem.run_bind, run_underlying (tR_eq hR), Instr.sureAddr, h0, h1, hS', addr_add]

theorem does_indexAddr_a {t : TypeId} {x y : Operand} {n sz i j k m : Nat} {et : TypeId} {kd : IntKind} {ix : Int} (ho : o.op = .indexAddr t x y) (hx : ev a x = .p n sz i j) (hy : ev a y = .c (.int kd ix)) (hR : tR P t = some (m, et)) (hS : tS P et = some k) (h0 : 0 ≤ ix) (h1 : ix < m) (h : K (.p n sz i (j + ix.toNat * k)) H) : Does P o a H K :=
  Does.val (fun c => by simp [ho]) h fun F w act hv hs => by
    have h2 := hv.ev x
    rw [hx] at h2
    refine ⟨_, by simp [execOp, ho, h2.p_inv, hv.c hy, Sem.run_bind, indexAt_arr hR hS kd ix h0 h1]; rfl, ?_⟩
    rw [Nat.add_assoc]; exact .p ..
theorem does_indexAddr_aq {t : TypeId} {x y : Operand} {e : List AV} {j k m : Nat} {et : TypeId} {kd : IntKind} {ix : Int} (ho : o.op = .indexAddr t x y) (hx : ev a x = .q e j) (hy : ev a y = .c (.int kd ix)) (hR : tR P t = some (m, et)) (hS : tS P et = some k) (h0 : 0 ≤ ix) (h1 : ix < m) (h : K (.q e (j + ix.toNat * k)) H) : Does P o a H K :=
  Does.val (fun c => by simp [ho]) h fun F w act hv hs => by
    have h2 := hv.ev x
    rw [hx] at h2
    obtain ⟨b, oo, u, e1, hu⟩ := h2.q_inv
    refine ⟨_, by simp [execOp, ho, e1, hv.c hy, Sem.run_bind, indexAt_arr hR hS kd ix h0 h1]; rfl, ?_⟩
    rw [Nat.add_assoc]; exact .q e _ b oo u (fun k y hy => (hu k y hy).1) (fun k y hy => (hu k y hy).2.1) (fun k y hy => (hu k y hy).2.2)
end
end Go.Proofs.Yteoepeionomjlaa
