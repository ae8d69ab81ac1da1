/- Abstract values and memory: how a real value and a real world stand to what is known of them; the lemmas that carry it on. -/
import Derived.Deep.AppendLies
import Derived.Below
import Derived.WalkKit
import Derived.WalkLawsBesides
import Derived.Lib.Hide
namespace Go.Proofs.Yteoepeionomjlaa
open Go.RowKit
set_option linter.unusedVariables false
set_option linter.unusedSimpArgs false
set_option linter.constructorNameAsVariable false

/-- Abstract values. x: whatever. c: this very value. p: a pointer to cell j of element i of the block n (its elements have sz cells). s: a slice of such a block, from element i on. l: a slice that reads as these elements and that nobody writes to. g: a struct or array value. t: a row of results. f: a function value. -/
inductive AV where
  | x
  | c (v : Value)
  | p (n sz i j : Nat)
  | q (e : List AV) (j : Nat)
  | s (n sz i len cap : Nat)
  | l (sz : Nat) (rows : List (List AV))
  | g (xs : List AV)
  | t (xs : List AV)
  | f (fn : Fn) (first cap : List AV)

def AV.one : AV → Bool
  | .c v => v.oneCell'
  | .p .. | .q .. | .s .. | .l .. | .f .. => true
  | _ => false

def at2 {α : Type} (L : List (List α)) (i j : Nat) : Option α := L[i]?.bind (·[j]?)

abbrev Mem := Nat → Nat → Option Value

inductive V (F : Mem) : AV → Value → Prop
  | x (v : Value) : V F .x v
  | c (v : Value) : V F (.c v) v
  | p (n sz i j : Nat) : V F (.p n sz i j) (.pointer (some ⟨n, i * sz + j, none⟩))
  | q (e : List AV) (j b o : Nat) (u : Nat → Value) (h1 : ∀ (k : Nat) (y : AV), e[k]? = some y → y.one = true) (h2 : ∀ (k : Nat) (y : AV), e[k]? = some y → V F y (u k)) (h3 : ∀ (k : Nat) (y : AV), e[k]? = some y → F b (o + k) = some (u k)) : V F (.q e j) (.pointer (some ⟨b, o + j, none⟩))
  | s (n sz i len cap o : Nat) (h1 : 0 < cap ∨ i = 0 → o = i * sz) (h2 : len ≤ cap) (h3 : cap ≤ maxLen) : V F (.s n sz i len cap) (.slice (some ⟨n, o, none⟩) len cap)
  | l (sz : Nat) (rows : List (List AV)) (a : Option Addr) (len cap : Nat) (u : Nat → Nat → Value) (h0 : len = rows.length) (h1 : len ≤ cap) (h2 : cap ≤ maxLen) (h3 : a = none → cap = 0)
      (h4 : ∀ e ∈ rows, e.length = sz) (h5 : ∀ (i j : Nat) (y : AV), at2 rows i j = some y → y.one = true) (h6 : ∀ (i j : Nat) (y : AV), at2 rows i j = some y → V F y (u i j))
      (h7 : ∀ ad, a = some ad → 0 < rows.length → ad.spot = none ∧ ∀ (i j : Nat) (y : AV), at2 rows i j = some y → F ad.block (ad.off + i * sz + j) = some (u i j)) : V F (.l sz rows) (.slice a len cap)
  | g (xs : List AV) (cs : Array Value) (h1 : xs.length = cs.size) (h2 : ∀ (i : Nat) (y : AV), xs[i]? = some y → y.one = true) (h3 : ∀ (i : Nat) (y : AV), xs[i]? = some y → V F y (cs.getD i undef)) : V F (.g xs) (.agg cs)
  | t (xs : List AV) (cs : Array Value) (h1 : xs.length = cs.size) (h3 : ∀ (i : Nat) (y : AV), xs[i]? = some y → V F y (cs.getD i undef)) : V F (.t xs) (.tuple cs)
  | f (fn : Fn) (xs ys : List AV) (cs ds : Array Value) (h1 : xs.length = cs.size) (h2 : ys.length = ds.size) (h3 : ∀ (i : Nat) (y : AV), xs[i]? = some y → V F y (cs.getD i undef)) (h4 : ∀ (i : Nat) (y : AV), ys[i]? = some y → V F y (ds.getD i undef)) : V F (.f fn xs ys) (.func fn cs ds)

def Mem.le (F F' : Mem) : Prop := ∀ b o v, F b o = some v → F' b o = some v
theorem Mem.le.refl (F : Mem) : F.le F := fun _ _ _ h => h
theorem Mem.le.trans {F G H : Mem} (h : F.le G) (k : G.le H) : F.le H := fun b o v e => k b o v (h b o v e)

theorem V.mono {F F' : Mem} (hF : F.le F') {a : AV} {v : Value} (h : V F a v) : V F' a v := by
  induction h with
  | x v => exact .x v
  | c v => exact .c v
  | p => exact .p ..
  | q e j b o u h1 h2 h3 ih => exact .q e j b o u h1 ih (fun k y hy => hF _ _ _ (h3 k y hy))
  | s n sz i len cap o h1 h2 h3 => exact .s n sz i len cap o h1 h2 h3
  | l sz rows a len cap u h0 h1 h2 h3 h4 h5 h6 h7 ih => exact .l sz rows a len cap u h0 h1 h2 h3 h4 h5 ih (fun ad ha hc => ⟨(h7 ad ha hc).1, fun i j y hy => hF _ _ _ ((h7 ad ha hc).2 i j y hy)⟩)
  | g xs cs h1 h2 h3 ih => exact .g xs cs h1 h2 ih
  | t xs cs h1 h3 ih => exact .t xs cs h1 ih
  | f fn xs ys cs ds h1 h2 h3 h4 ih1 ih2 => exact .f fn xs ys cs ds h1 h2 ih1 ih2

theorem V.one {F : Mem} {a : AV} {v : Value} (h : V F a v) (ho : a.one = true) : v.oneCell' = true := by
  cases h <;> first | exact ho | rfl | (simp [AV.one] at ho)

theorem V.c_inv {F : Mem} {u v : Value} (h : V F (.c u) v) : v = u := by cases h; rfl
theorem V.p_inv {F : Mem} {n sz i j : Nat} {v : Value} (h : V F (.p n sz i j) v) : v = .pointer (some ⟨n, i * sz + j, none⟩) := by cases h; rfl
theorem V.s_inv {F : Mem} {n sz i len cap : Nat} {v : Value} (h : V F (.s n sz i len cap) v) : ∃ o, v = .slice (some ⟨n, o, none⟩) len cap ∧ (0 < cap ∨ i = 0 → o = i * sz) ∧ len ≤ cap ∧ cap ≤ maxLen := by
  cases h with
  | s n sz i len cap o h1 h2 h3 => exact ⟨o, rfl, h1, h2, h3⟩
theorem V.q_inv {F : Mem} {e : List AV} {j : Nat} {v : Value} (h : V F (.q e j) v) : ∃ (b o : Nat) (u : Nat → Value), v = .pointer (some ⟨b, o + j, none⟩) ∧ ∀ (k : Nat) (y : AV), e[k]? = some y → y.one = true ∧ V F y (u k) ∧ F b (o + k) = some (u k) := by
  cases h with
  | q e j b o u h1 h2 h3 => exact ⟨b, o, u, rfl, fun k y hy => ⟨h1 k y hy, h2 k y hy, h3 k y hy⟩⟩
theorem V.l_inv {F : Mem} {sz : Nat} {rows : List (List AV)} {v : Value} (h : V F (.l sz rows) v) : ∃ (a : Option Addr) (cap : Nat) (u : Nat → Nat → Value), v = .slice a rows.length cap ∧ rows.length ≤ cap ∧ cap ≤ maxLen ∧ (a = none → cap = 0) ∧ (∀ e ∈ rows, e.length = sz) ∧ (∀ (i j : Nat) (y : AV), at2 rows i j = some y → y.one = true ∧ V F y (u i j)) ∧
    ∀ ad, a = some ad → 0 < rows.length → ad.spot = none ∧ ∀ (i j : Nat) (y : AV), at2 rows i j = some y → F ad.block (ad.off + i * sz + j) = some (u i j) := by
  cases h with
  | l sz rows a len cap u h0 h1 h2 h3 h4 h5 h6 h7 => subst h0; exact ⟨a, cap, u, rfl, h1, h2, h3, h4, fun i j y hy => ⟨h5 i j y hy, h6 i j y hy⟩, h7⟩

/-- lists of values -/
def Vs (F : Mem) (xs : List AV) (vs : List Value) : Prop := xs.length = vs.length ∧ ∀ i y, xs[i]? = some y → V F y (vs.getD i undef)

theorem Vs.nil (F : Mem) : Vs F [] [] := ⟨rfl, fun i y h => by simp at h⟩
theorem Vs.cons {F : Mem} {x : AV} {xs : List AV} {v : Value} {vs : List Value} (h : V F x v) (hs : Vs F xs vs) : Vs F (x :: xs) (v :: vs) := by
  refine ⟨by simp [hs.1], fun i y hy => ?_⟩
  cases i with
  | zero => simp at hy; subst hy; simpa using h
  | succ i => simp at hy; simpa using hs.2 i y hy
theorem Vs.cons_inv {F : Mem} {x : AV} {xs : List AV} {vs : List Value} (h : Vs F (x :: xs) vs) : ∃ v vs', vs = v :: vs' ∧ V F x v ∧ Vs F xs vs' := by
  obtain ⟨h1, h2⟩ := h
  cases vs with
  | nil => simp at h1
  | cons v vs' =>
    refine ⟨v, vs', rfl, by simpa using h2 0 x (by simp), by simpa using h1, fun i y hy => ?_⟩
    simpa using h2 (i + 1) y (by simpa using hy)
theorem Vs.nil_inv {F : Mem} {vs : List Value} (h : Vs F [] vs) : vs = [] := by
  have := h.1; cases vs with
  | nil => rfl
  | cons => simp at this
theorem Vs.mono {F F' : Mem} (hF : F.le F') {xs : List AV} {vs : List Value} (h : Vs F xs vs) : Vs F' xs vs := ⟨h.1, fun i y hy => (h.2 i y hy).mono hF⟩
theorem Vs.append {F : Mem} {xs ys : List AV} {vs us : List Value} (h : Vs F xs vs) (k : Vs F ys us) : Vs F (xs ++ ys) (vs ++ us) := by
  refine ⟨by simp [h.1, k.1], fun i y hy => ?_⟩
  have hl := h.1
  by_cases hi : i < xs.length
  · rw [List.getElem?_append_left hi] at hy
    have := h.2 i y hy
    rwa [List.getD_eq_getElem?_getD, List.getElem?_append_left (by omega), ← List.getD_eq_getElem?_getD]
  · rw [List.getElem?_append_right (by omega)] at hy
    have := k.2 _ y hy
    rw [List.getD_eq_getElem?_getD, List.getElem?_append_right (by omega), ← List.getD_eq_getElem?_getD]
    rwa [hl] at this

theorem arr_getD (cs : Array Value) (i : Nat) : cs.getD i undef = cs.toList.getD i undef := by
  simp [Array.getD_eq_getD_getElem?, List.getD_eq_getElem?_getD]

theorem V.g_inv {F : Mem} {xs : List AV} {v : Value} (h : V F (.g xs) v) : ∃ cs, v = .agg cs ∧ Vs F xs cs.toList ∧ ∀ y ∈ xs, y.one = true := by
  cases h with
  | g xs cs h1 h2 h3 =>
    refine ⟨cs, rfl, ⟨by simpa using h1, fun i y hy => by rw [← arr_getD]; exact h3 i y hy⟩, fun y hy => ?_⟩
    obtain ⟨i, hi, rfl⟩ := List.getElem_of_mem hy
    exact h2 i _ (List.getElem?_eq_getElem hi)
theorem V.g_of {F : Mem} {xs : List AV} {cs : Array Value} (h : Vs F xs cs.toList) (ho : ∀ y ∈ xs, y.one = true) : V F (.g xs) (.agg cs) :=
  .g xs cs (by simpa using h.1) (fun i y hy => ho y (List.mem_of_getElem? hy)) (fun i y hy => by rw [arr_getD]; exact h.2 i y hy)
theorem V.t_inv {F : Mem} {xs : List AV} {v : Value} (h : V F (.t xs) v) : ∃ cs, v = .tuple cs ∧ Vs F xs cs.toList := by
  cases h with
  | t xs cs h1 h3 => exact ⟨cs, rfl, by simpa using h1, fun i y hy => by rw [← arr_getD]; exact h3 i y hy⟩
theorem V.t_of {F : Mem} {xs : List AV} {cs : Array Value} (h : Vs F xs cs.toList) : V F (.t xs) (.tuple cs) :=
  .t xs cs (by simpa using h.1) (fun i y hy => by rw [arr_getD]; exact h.2 i y hy)
theorem V.f_inv {F : Mem} {fn : Fn} {xs ys : List AV} {v : Value} (h : V F (.f fn xs ys) v) : ∃ cs ds, v = .func fn cs ds ∧ Vs F xs cs.toList ∧ Vs F ys ds.toList := by
  cases h with
  | f fn xs ys cs ds h1 h2 h3 h4 => exact ⟨cs, ds, rfl, ⟨by simpa using h1, fun i y hy => by rw [← arr_getD]; exact h3 i y hy⟩, ⟨by simpa using h2, fun i y hy => by rw [← arr_getD]; exact h4 i y hy⟩⟩
theorem V.f_of {F : Mem} {fn : Fn} {xs ys : List AV} {cs ds : Array Value} (h : Vs F xs cs.toList) (k : Vs F ys ds.toList) : V F (.f fn xs ys) (.func fn cs ds) :=
  .f fn xs ys cs ds (by simpa using h.1) (by simpa using k.1) (fun i y hy => by rw [arr_getD]; exact h.2 i y hy) (fun i y hy => by rw [arr_getD]; exact k.2 i y hy)

/-- What a block holds: rows of sz cells (the first ones of cap), or an object of another kind (and what must be frozen at the least). -/
inductive Blk where
  | r (ty : TypeId) (sz cap : Nat) (rows : List (List AV))
  | m (o : Obj) (M : Mem)

abbrev Heap := Nat → Option Blk

/-- The rows of cells from an offset on. -/
structure RowOk (F : Mem) (C : Array Value) (sz : Nat) (rows : List (List AV)) : Prop where
  len : ∀ e ∈ rows, e.length = sz
  one : ∀ (i j : Nat) (y : AV), at2 rows i j = some y → y.one = true
  val : ∀ (i j : Nat) (y : AV), at2 rows i j = some y → V F y (C.getD (i * sz + j) undef)

def BlkOk (F : Mem) (w : World) (n : Nat) : Blk → Prop
  | .r ty sz cap rows => ∃ C, w.heap[n]? = some (.cells C ty (0, 0)) ∧ C.size = cap * sz ∧ rows.length ≤ cap ∧ cap ≤ maxLen ∧ 0 < sz ∧ RowOk F C sz rows
  | .m o M => w.heap[n]? = some o ∧ M.le F

structure Sat (F : Mem) (H : Heap) (w : World) : Prop where
  mem : ∀ b o v, F b o = some v → w.cell? ⟨b, o, none⟩ = some v
  off : ∀ b o v k, F b o = some v → H b = some k → False
  blk : ∀ n k, H n = some k → BlkOk F w n k

/-- How a world goes on. -/
structure Ext (F : Mem) (H : Heap) (w : World) (F' : Mem) (H' : Heap) (w' : World) : Prop where
  os : w'.os = w.os
  tape : w'.tape = w.tape
  output : w'.output = w.output
  size : w.heap.size ≤ w'.heap.size
  block : ∀ n, n < w.heap.size → H n = none → w'.heap[n]? = w.heap[n]?
  new : ∀ n k, H' n = some k → H n ≠ none ∨ w.heap.size ≤ n
  le : F.le F'
  frz : ∀ b o v, F' b o = some v → F b o = some v ∨ H b ≠ none ∨ w.heap.size ≤ b

theorem Ext.refl (F : Mem) (H : Heap) (w : World) : Ext F H w F H w :=
  ⟨rfl, rfl, rfl, Nat.le_refl _, fun _ _ _ => rfl, fun n k h => .inl (by rw [h]; simp), Mem.le.refl F, fun _ _ _ h => .inl h⟩

theorem Ext.trans {F G K : Mem} {H H' H'' : Heap} {a b c : World} (h : Ext F H a G H' b) (k : Ext G H' b K H'' c) : Ext F H a K H'' c := by
  have key : ∀ n, n < a.heap.size → H n = none → H' n = none := by
    intro n hn hH
    cases hk : H' n with
    | none => rfl
    | some x => rcases h.new n x hk with h1 | h1
                · exact absurd hH h1
                · omega
  refine ⟨k.os.trans h.os, k.tape.trans h.tape, k.output.trans h.output, Nat.le_trans h.size k.size, ?_, ?_, h.le.trans k.le, ?_⟩
  · intro n hn hH
    rw [k.block n (Nat.lt_of_lt_of_le hn h.size) (key n hn hH), h.block n hn hH]
  · intro n x hx
    rcases k.new n x hx with h1 | h1
    · cases hk : H' n with
      | none => exact absurd hk h1
      | some y => exact h.new n y hk
    · right; have := h.size; omega
  · intro n o v hv
    rcases k.frz n o v hv with h1 | h1 | h1
    · exact h.frz n o v h1
    · cases hk : H' n with
      | none => exact absurd hk h1
      | some y => exact .inr (h.new n y hk)
    · right; right; have := h.size; omega

theorem Ext.below {F F' : Mem} {H H' : Heap} {w w' : World} (h : Ext F H w F' H' w') (h0 : ∀ n, H n = none) : Below w.heap.size w w' :=
  ⟨h.os, h.tape, h.output, h.size, fun n hn => h.block n hn (h0 n)⟩

theorem RowOk.mono {F F' : Mem} (hF : F.le F') {C : Array Value} {sz : Nat} {rows : List (List AV)} (h : RowOk F C sz rows) : RowOk F' C sz rows :=
  ⟨h.len, h.one, fun i j y hy => (h.val i j y hy).mono hF⟩

theorem BlkOk.mono {F F' : Mem} (hF : F.le F') {w : World} {n : Nat} {k : Blk} (h : BlkOk F w n k) : BlkOk F' w n k := by
  cases k with
  | r ty sz cap rows => obtain ⟨C, h1, h2, h3, h4, h5, h6⟩ := h; exact ⟨C, h1, h2, h3, h4, h5, h6.mono hF⟩
  | m o M => exact ⟨h.1, h.2.trans hF⟩

theorem BlkOk.heap {F : Mem} {w w' : World} {n : Nat} {k : Blk} (h : BlkOk F w n k) (e : w'.heap[n]? = w.heap[n]?) : BlkOk F w' n k := by
  cases k with
  | r ty sz cap rows => obtain ⟨C, h1, h2⟩ := h; exact ⟨C, e.trans h1, h2⟩
  | m o M => exact ⟨e.trans h.1, h.2⟩

theorem BlkOk.lt {F : Mem} {w : World} {n : Nat} {k : Blk} (h : BlkOk F w n k) : n < w.heap.size := by
  have : w.heap[n]? ≠ none := by
    cases k with
    | r ty sz cap rows => obtain ⟨C, h1, _⟩ := h; rw [h1]; simp
    | m o M => rw [h.1]; simp
  rcases Nat.lt_or_ge n w.heap.size with h1 | h1
  · exact h1
  · exact absurd (Array.getElem?_eq_none h1) this

theorem cell_lt {w : World} {b o : Nat} {v : Value} (h : w.cell? ⟨b, o, none⟩ = some v) : b < w.heap.size := by
  rcases Nat.lt_or_ge b w.heap.size with h1 | h1
  · exact h1
  · simp [World.cell?, Array.getElem?_eq_none h1] at h

theorem Sat.lt {F : Mem} {H : Heap} {w : World} (h : Sat F H w) {n : Nat} {k : Blk} (hn : H n = some k) : n < w.heap.size := (h.blk n k hn).lt
theorem Sat.fresh {F : Mem} {H : Heap} {w : World} (h : Sat F H w) {n : Nat} (hn : w.heap.size ≤ n) : H n = none := by
  cases hk : H n with
  | none => rfl
  | some k => have := h.lt hk; omega
theorem Sat.memlt {F : Mem} {H : Heap} {w : World} (h : Sat F H w) {b o : Nat} {v : Value} (hb : F b o = some v) : b < w.heap.size := cell_lt (h.mem b o v hb)

def upd (H : Heap) (n : Nat) (k : Blk) : Heap := fun m => if m = n then some k else H m
theorem upd_same (H : Heap) (n : Nat) (k : Blk) : upd H n k n = some k := by simp [upd]
theorem upd_ne {H : Heap} {n m : Nat} {k : Blk} (h : m ≠ n) : upd H n k m = H m := by simp [upd, h]
theorem upd_none {H : Heap} {n m : Nat} {k : Blk} : upd H n k m = none ↔ m ≠ n ∧ H m = none := by
  unfold upd; by_cases h : m = n <;> simp [h]
theorem upd_self {H : Heap} {n : Nat} {k : Blk} (h : H n = some k) : upd H n k = H := by
  funext m; unfold upd; by_cases e : m = n
  · subst e; simp [h]
  · simp [e]
theorem upd_upd (H : Heap) (n : Nat) (k k' : Blk) : upd (upd H n k) n k' = upd H n k' := by
  funext m; unfold upd; by_cases e : m = n <;> simp [e]
theorem upd_comm {H : Heap} {n m : Nat} {k k' : Blk} (h : n ≠ m) : upd (upd H n k) m k' = upd (upd H m k') n k := by
  funext i; unfold upd; by_cases e : i = n
  · subst e; simp [h]
  · simp [e]

/-- A new block. -/
theorem Sat.alloc {F : Mem} {H : Heap} {w : World} (h : Sat F H w) (o : Obj) (k : Blk) (hk : BlkOk F (w.alloc o) w.heap.size k) : Sat F (upd H w.heap.size k) (w.alloc o) := by
  have old : ∀ n, n < w.heap.size → (w.alloc o).heap[n]? = w.heap[n]? := fun n hn => Below.heap_alloc w o n hn
  refine ⟨fun b o' v hb => ?_, fun b o' v k' hb hH => ?_, fun n k' hn => ?_⟩
  · have := h.mem b o' v hb
    rw [← this]; exact World.cell?_of_block (old b (cell_lt this))
  · by_cases e : b = w.heap.size
    · have := h.memlt hb; omega
    · rw [upd_ne e] at hH; exact h.off b o' v k' hb hH
  · by_cases e : n = w.heap.size
    · subst e; rw [upd_same] at hn; cases hn; exact hk
    · rw [upd_ne e] at hn
      exact (h.blk n k' hn).heap (old n (h.lt hn))

theorem Ext.alloc {F : Mem} (H : Heap) (w : World) (o : Obj) (k : Blk) : Ext F H w F (upd H w.heap.size k) (w.alloc o) :=
  ⟨rfl, rfl, rfl, by simp, fun n hn _ => Below.heap_alloc w o n hn, fun n k' hk => by
    by_cases e : n = w.heap.size
    · right; omega
    · rw [upd_ne e] at hk; left; rw [hk]; simp, Mem.le.refl F, fun _ _ _ h => .inl h⟩

/-- A block is turned. -/
theorem Sat.turn {F : Mem} {H : Heap} {w w' : World} (h : Sat F H w) {n : Nat} {k0 : Blk} (hn : H n = some k0) (hs : w.heap.size ≤ w'.heap.size) (hb : ∀ m, m ≠ n → m < w.heap.size → w'.heap[m]? = w.heap[m]?) (k : Blk) (hk : BlkOk F w' n k) : Sat F (upd H n k) w' := by
  refine ⟨fun b o' v hF => ?_, fun b o' v k' hF hH => ?_, fun m k' hm => ?_⟩
  · have := h.mem b o' v hF
    rw [← this]; exact World.cell?_of_block (hb b (by rintro rfl; exact h.off b o' v k0 hF hn) (cell_lt this))
  · by_cases e : b = n
    · subst e; exact h.off b o' v k0 hF hn
    · rw [upd_ne e] at hH; exact h.off b o' v k' hF hH
  · by_cases e : m = n
    · subst e; rw [upd_same] at hm; cases hm; exact hk
    · rw [upd_ne e] at hm
      exact (h.blk m k' hm).heap (hb m e (h.lt hm))

theorem Ext.turn {F : Mem} {H : Heap} {w w' : World} {n : Nat} {k0 : Blk} (hn : H n = some k0) (os : w'.os = w.os) (tape : w'.tape = w.tape) (out : w'.output = w.output) (hs : w.heap.size ≤ w'.heap.size) (hb : ∀ m, m ≠ n → m < w.heap.size → w'.heap[m]? = w.heap[m]?) (k : Blk) : Ext F H w F (upd H n k) w' :=
  ⟨os, tape, out, hs, fun m hm hH => hb m (by rintro rfl; rw [hn] at hH; cases hH) hm, fun m k' hm => by
    by_cases e : m = n
    · subst e; left; rw [hn]; simp
    · rw [upd_ne e] at hm; left; rw [hm]; simp, Mem.le.refl F, fun _ _ _ h => .inl h⟩

/-- A draw turns nothing. -/
theorem Sat.drew {F : Mem} {H : Heap} {w : World} (h : Sat F H w) : Sat F H w.drew :=
  ⟨h.mem, h.off, fun n k hn => (h.blk n k hn).heap rfl⟩
theorem Ext.drew (F : Mem) (H : Heap) (w : World) : Ext F H w F H w.drew :=
  ⟨rfl, rfl, rfl, Nat.le_refl _, fun _ _ _ => rfl, fun n k h => .inl (by rw [h]; simp), Mem.le.refl F, fun _ _ _ h => .inl h⟩

/-- What is no longer of use is forgotten. -/
def Heap.le (H H' : Heap) : Prop := ∀ n k, H n = some k → H' n = some k
theorem Sat.less {F : Mem} {H H' : Heap} {w : World} (h : Sat F H' w) (hl : H.le H') : Sat F H w :=
  ⟨h.mem, fun b o v k hF hH => h.off b o v k hF (hl b k hH), fun n k hn => h.blk n k (hl n k hn)⟩

end Go.Proofs.Yteoepeionomjlaa
