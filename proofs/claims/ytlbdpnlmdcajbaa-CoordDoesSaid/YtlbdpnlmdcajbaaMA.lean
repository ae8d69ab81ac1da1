/- The words for abstract values and memory (1 to 10). -/
import Derived.Deep.AppendLies
import Derived.Below
import Derived.WalkKit
import Derived.WalkLawsBesides
import Derived.Lib.Hide
import Derived.CallsIn
import Derived.TacticsIn
import Derived.ChangeKeysEq
import Derived.Laws.CopyRow
import Derived.Maps.AppendAt
import Derived.OrdersIn
import Derived.Laws.StructEq
import Derived.Laws.BytesArg
import Derived.RangeFuncIn
import Derived.RangeFuncLeaves
/- Abstract values and memory: how a real value and a real world stand to what is known of them; the lemmas that carry it on. -/
namespace Go.Proofs.Ytlbdpnlmdcajbaa
open Go.RowKit
set_option linter.unusedVariables false
set_option linter.unusedSimpArgs false
set_option linter.constructorNameAsVariable false

inductive AV where
  | x
  | c (v : Value)
  | p (n sz i j : Nat)
  | q (e : List AV) (j : Nat)
  | s (n sz i len cap : Nat)
  | l (sz : Nat) (rows : List (List AV))
  | g (xs : List AV)
  | t (xs : List AV)
  | f (fn : Fn) (first cap : List AV)

def AV.one : AV → Bool
  | .c v => v.oneCell'
  | .p .. | .q .. | .s .. | .l .. | .f .. => true
  | _ => false

def at2 {α : Type} (L : List (List α)) (i j : Nat) : Option α := L[i]?.bind (·[j]?)

abbrev Mem := Nat → Nat → Option Value

inductive V (F : Mem) : AV → Value → Prop
  | x (v : Value) : V F .x v
  | c (v : Value) : V F (.c v) v
  | p (n sz i j : Nat) : V F (.p n sz i j) (.pointer (some ⟨n, i * sz + j, none⟩))
  | q (e : List AV) (j b o : Nat) (u : Nat → Value) (h1 : ∀ (k : Nat) (y : AV), e[k]? = some y → y.one = true) (h2 : ∀ (k : Nat) (y : AV), e[k]? = some y → V F y (u k)) (h3 : ∀ (k : Nat) (y : AV), e[k]? = some y → F b (o + k) = some (u k)) : V F (.q e j) (.pointer (some ⟨b, o + j, none⟩))
  | s (n sz i len cap o : Nat) (h1 : 0 < cap ∨ i = 0 → o = i * sz) (h2 : len ≤ cap) (h3 : cap ≤ maxLen) : V F (.s n sz i len cap) (.slice (some ⟨n, o, none⟩) len cap)
  | l (sz : Nat) (rows : List (List AV)) (a : Option Addr) (len cap : Nat) (u : Nat → Nat → Value) (h0 : len = rows.length) (h1 : len ≤ cap) (h2 : cap ≤ maxLen) (h3 : a = none → cap = 0)
      (h4 : ∀ e ∈ rows, e.length = sz) (h5 : ∀ (i j : Nat) (y : AV), at2 rows i j = some y → y.one = true) (h6 : ∀ (i j : Nat) (y : AV), at2 rows i j = some y → V F y (u i j))
      (h7 : ∀ ad, a = some ad → 0 < rows.length → ad.spot = none ∧ ∀ (i j : Nat) (y : AV), at2 rows i j = some y → F ad.block (ad.off + i * sz + j) = some (u i j)) : V F (.l sz rows) (.slice a len cap)
  | g (xs : List AV) (cs : Array Value) (h1 : xs.length = cs.size) (h2 : ∀ (i : Nat) (y : AV), xs[i]? = some y → y.one = true) (h3 : ∀ (i : Nat) (y : AV), xs[i]? = some y → V F y (cs.getD i undef)) : V F (.g xs) (.agg cs)
  | t (xs : List AV) (cs : Array Value) (h1 : xs.length = cs.size) (h3 : ∀ (i : Nat) (y : AV), xs[i]? = some y → V F y (cs.getD i undef)) : V F (.t xs) (.tuple cs)
  | f (fn : Fn) (xs ys : List AV) (cs ds : Array Value) (h1 : xs.length = cs.size) (h2 : ys.length = ds.size) (h3 : ∀ (i : Nat) (y : AV), xs[i]? = some y → V F y (cs.getD i undef)) (h4 : ∀ (i : Nat) (y : AV), ys[i]? = some y → V F y (ds.getD i undef)) : V F (.f fn xs ys) (.func fn cs ds)

def Mem.le (F F' : Mem) : Prop := ∀ b o v, F b o = some v → F' b o = some v
theorem Mem.le.refl (F : Mem) : F.le F := fun _ _ _ h => h
theorem Mem.le.trans {F G H : Mem} (h : F.le G) (k : G.le H) : F.le H := fun b o v e => k b o v (h b o v e)

theorem V.mono {F F' : Mem} (hF : F.le F') {a : AV} {v : Value} (h : V F a v) : V F' a v := by
  induction h with
  | x v => exact .x v
  | c v => exact .c v
  | p => exact .p ..
  | q e j b o u h1 h2 h3 ih => exact .q e j b o u h1 ih (fun k y hy => hF _ _ _ (h3 k y hy))
  | s n sz i len cap o h1 h2 h3 => exact .s n sz i len cap o h1 h2 h3
  | l sz rows a len cap u h0 h1 h2 h3 h4 h5 h6 h7 ih => exact .l sz rows a len cap u h0 h1 h2 h3 h4 h5 ih (fun ad ha hc => ⟨(h7 ad ha hc).1, fun i j y hy => hF _ _ _ ((h7 ad ha hc).2 i j y hy)⟩)
  | g xs cs h1 h2 h3 ih => exact .g xs cs h1 h2 ih
  | t xs cs h1 h3 ih => exact .t xs cs h1 ih
  | f fn xs ys cs ds h1 h2 h3 h4 ih1 ih2 => exact .f fn xs ys cs ds h1 h2 ih1 ih2

theorem V.one {F : Mem} {a : AV} {v : Value} (h : V F a v) (ho : a.one = true) : v.oneCell' = true := by
  cases h <;> first | exact ho | rfl | (simp [AV.one] at ho)

theorem V.c_inv {F : Mem} {u v : Value} (h : V F (.c u) v) : v = u := by cases h; rfl
theorem V.p_inv {F : Mem} {n sz i j : Nat} {v : Value} (h : V F (.p n sz i j) v) : v = .pointer (some ⟨n, i * sz + j, none⟩) := by cases h; rfl
theorem V.s_inv {F : Mem} {n sz i len cap : Nat} {v : Value} (h : V F (.s n sz i len cap) v) : ∃ o, v = .slice (some ⟨n, o, none⟩) len cap ∧ (0 < cap ∨ i = 0 → o = i * sz) ∧ len ≤ cap ∧ cap ≤ maxLen := by
  cases h with
  | s n sz i len cap o h1 h2 h3 => exact ⟨o, rfl, h1, h2, h3⟩
theorem V.q_inv {F : Mem} {e : List AV} {j : Nat} {v : Value} (h : V F (.q e j) v) : ∃ (b o : Nat) (u : Nat → Value), v = .pointer (some ⟨b, o + j, none⟩) ∧ ∀ (k : Nat) (y : AV), e[k]? = some y → y.one = true ∧ V F y (u k) ∧ F b (o + k) = some (u k) := by
  cases h with
  | q e j b o u h1 h2 h3 => exact ⟨b, o, u, rfl, fun k y hy => ⟨h1 k y hy, h2 k y hy, h3 k y hy⟩⟩
theorem V.l_inv {F : Mem} {sz : Nat} {rows : List (List AV)} {v : Value} (h : V F (.l sz rows) v) : ∃ (a : Option Addr) (cap : Nat) (u : Nat → Nat → Value), v = .slice a rows.length cap ∧ rows.length ≤ cap ∧ cap ≤ maxLen ∧ (a = none → cap = 0) ∧ (∀ e ∈ rows, e.length = sz) ∧ (∀ (i j : Nat) (y : AV), at2 rows i j = some y → y.one = true ∧ V F y (u i j)) ∧
    ∀ ad, a = some ad → 0 < rows.length → ad.spot = none ∧ ∀ (i j : Nat) (y : AV), at2 rows i j = some y → F ad.block (ad.off + i * sz + j) = some (u i j) := by
  cases h with
  | l sz rows a len cap u h0 h1 h2 h3 h4 h5 h6 h7 => subst h0; exact ⟨a, cap, u, rfl, h1, h2, h3, h4, fun i j y hy => ⟨h5 i j y hy, h6 i j y hy⟩, h7⟩

def Vs (F : Mem) (xs : List AV) (vs : List Value) : Prop := xs.length = vs.length ∧ ∀ i y, xs[i]? = some y → V F y (vs.getD i undef)

theorem Vs.nil (F : Mem) : Vs F [] [] := ⟨rfl, fun i y h => by simp at h⟩
theorem Vs.cons {F : Mem} {x : AV} {xs : List AV} {v : Value} {vs : List Value} (h : V F x v) (hs : Vs F xs vs) : Vs F (x :: xs) (v :: vs) := by
  refine ⟨by simp [hs.1], fun i y hy => ?_⟩
  cases i with
  | zero => simp at hy; subst hy; simpa using h
  | succ i => simp at hy; simpa using hs.2 i y hy
theorem Vs.cons_inv {F : Mem} {x : AV} {xs : List AV} {vs : List Value} (h : Vs F (x :: xs) vs) : ∃ v vs', vs = v :: vs' ∧ V F x v ∧ Vs F xs vs' := by
  obtain ⟨h1, h2⟩ := h
  cases vs with
  | nil => simp at h1
  | cons v vs' =>
    refine ⟨v, vs', rfl, by simpa using h2 0 x (by simp), by simpa using h1, fun i y hy => ?_⟩
    simpa using h2 (i + 1) y (by simpa using hy)
theorem Vs.nil_inv {F : Mem} {vs : List Value} (h : Vs F [] vs) : vs = [] := by
  have := h.1; cases vs with
  | nil => rfl
  | cons => simp at this
theorem Vs.mono {F F' : Mem} (hF : F.le F') {xs : List AV} {vs : List Value} (h : Vs F xs vs) : Vs F' xs vs := ⟨h.1, fun i y hy => (h.2 i y hy).mono hF⟩
theorem Vs.append {F : Mem} {xs ys : List AV} {vs us : List Value} (h : Vs F xs vs) (k : Vs F ys us) : Vs F (xs ++ ys) (vs ++ us) := by
  refine ⟨by simp [h.1, k.1], fun i y hy => ?_⟩
  have hl := h.1
  by_cases hi : i < xs.length
  · rw [List.getElem?_append_left hi] at hy
    have := h.2 i y hy
    rwa [List.getD_eq_getElem?_getD, List.getElem?_append_left (by omega), ← List.getD_eq_getElem?_getD]
  · rw [List.getElem?_append_right (by omega)] at hy
    have := k.2 _ y hy
    rw [List.getD_eq_getElem?_getD, List.getElem?_append_right (by omega), ← List.getD_eq_getElem?_getD]
    rwa [hl] at this

theorem arr_getD (cs : Array Value) (i : Nat) : cs.getD i undef = cs.toList.getD i undef := by
  simp [Array.getD_eq_getD_getElem?, List.getD_eq_getElem?_getD]

theorem V.g_inv {F : Mem} {xs : List AV} {v : Value} (h : V F (.g xs) v) : ∃ cs, v = .agg cs ∧ Vs F xs cs.toList ∧ ∀ y ∈ xs, y.one = true := by
  cases h with
  | g xs cs h1 h2 h3 =>
    refine ⟨cs, rfl, ⟨by simpa using h1, fun i y hy => by rw [← arr_getD]; exact h3 i y hy⟩, fun y hy => ?_⟩
    obtain ⟨i, hi, rfl⟩ := List.getElem_of_mem hy
    exact h2 i _ (List.getElem?_eq_getElem hi)
theorem V.g_of {F : Mem} {xs : List AV} {cs : Array Value} (h : Vs F xs cs.toList) (ho : ∀ y ∈ xs, y.one = true) : V F (.g xs) (.agg cs) :=
  .g xs cs (by simpa using h.1) (fun i y hy => ho y (List.mem_of_getElem? hy)) (fun i y hy => by rw [arr_getD]; exact h.2 i y hy)
theorem V.t_inv {F : Mem} {xs : List AV} {v : Value} (h : V F (.t xs) v) : ∃ cs, v = .tuple cs ∧ Vs F xs cs.toList := by
  cases h with
  | t xs cs h1 h3 => exact ⟨cs, rfl, by simpa using h1, fun i y hy => by rw [← arr_getD]; exact h3 i y hy⟩
theorem V.t_of {F : Mem} {xs : List AV} {cs : Array Value} (h : Vs F xs cs.toList) : V F (.t xs) (.tuple cs) :=
  .t xs cs (by simpa using h.1) (fun i y hy => by rw [arr_getD]; exact h.2 i y hy)
theorem V.f_inv {F : Mem} {fn : Fn} {xs ys : List AV} {v : Value} (h : V F (.f fn xs ys) v) : ∃ cs ds, v = .func fn cs ds ∧ Vs F xs cs.toList ∧ Vs F ys ds.toList := by
  cases h with
  | f fn xs ys cs ds h1 h2 h3 h4 => exact ⟨cs, ds, rfl, ⟨by simpa using h1, fun i y hy => by rw [← arr_getD]; exact h3 i y hy⟩, ⟨by simpa using h2, fun i y hy => by rw [← arr_getD]; exact h4 i y hy⟩⟩
theorem V.f_of {F : Mem} {fn : Fn} {xs ys : List AV} {cs ds : Array Value} (h : Vs F xs cs.toList) (k : Vs F ys ds.toList) : V F (.f fn xs ys) (.func fn cs ds) :=
  .f fn xs ys cs ds (by simpa using h.1) (by simpa using k.1) (fun i y hy => by rw [arr_getD]; exact h.2 i y hy) (fun i y hy => by rw [arr_getD]; exact k.2 i y hy)

inductive Blk where
  | r (ty : TypeId) (sz cap : Nat) (rows : List (List AV))
  | m (o : Obj) (M : Mem)

abbrev Heap := Nat → Option Blk

structure RowOk (F : Mem) (C : Array Value) (sz : Nat) (rows : List (List AV)) : Prop where
  len : ∀ e ∈ rows, e.length = sz
  one : ∀ (i j : Nat) (y : AV), at2 rows i j = some y → y.one = true
  val : ∀ (i j : Nat) (y : AV), at2 rows i j = some y → V F y (C.getD (i * sz + j) undef)

def BlkOk (F : Mem) (w : World) (n : Nat) : Blk → Prop
  | .r ty sz cap rows => ∃ C, w.heap[n]? = some (.cells C ty (0, 0)) ∧ C.size = cap * sz ∧ rows.length ≤ cap ∧ cap ≤ maxLen ∧ 0 < sz ∧ RowOk F C sz rows
  | .m o M => w.heap[n]? = some o ∧ M.le F

structure Sat (F : Mem) (H : Heap) (w : World) : Prop where
  mem : ∀ b o v, F b o = some v → w.cell? ⟨b, o, none⟩ = some v
  off : ∀ b o v k, F b o = some v → H b = some k → False
  blk : ∀ n k, H n = some k → BlkOk F w n k

structure Ext (F : Mem) (H : Heap) (w : World) (F' : Mem) (H' : Heap) (w' : World) : Prop where
  os : w'.os = w.os
  tape : w'.tape = w.tape
  output : w'.output = w.output
  size : w.heap.size ≤ w'.heap.size
  block : ∀ n, n < w.heap.size → H n = none → w'.heap[n]? = w.heap[n]?
  new : ∀ n k, H' n = some k → H n ≠ none ∨ w.heap.size ≤ n
  le : F.le F'
  frz : ∀ b o v, F' b o = some v → F b o = some v ∨ H b ≠ none ∨ w.heap.size ≤ b

theorem Ext.refl (F : Mem) (H : Heap) (w : World) : Ext F H w F H w :=
  ⟨rfl, rfl, rfl, Nat.le_refl _, fun _ _ _ => rfl, fun n k h => .inl (by rw [h]; simp), Mem.le.refl F, fun _ _ _ h => .inl h⟩

theorem Ext.trans {F G K : Mem} {H H' H'' : Heap} {a b c : World} (h : Ext F H a G H' b) (k : Ext G H' b K H'' c) : Ext F H a K H'' c := by
  have key : ∀ n, n < a.heap.size → H n = none → H' n = none := by
    intro n hn hH
    cases hk : H' n with
    | none => rfl
    | some x => rcases h.new n x hk with h1 | h1
                · exact absurd hH h1
                · omega
  refine ⟨k.os.trans h.os, k.tape.trans h.tape, k.output.trans h.output, Nat.le_trans h.size k.size, ?_, ?_, h.le.trans k.le, ?_⟩
  · intro n hn hH
    rw [k.block n (Nat.lt_of_lt_of_le hn h.size) (key n hn hH), h.block n hn hH]
  · intro n x hx
    rcases k.new n x hx with h1 | h1
    · cases hk : H' n with
      | none => exact absurd hk h1
      | some y => exact h.new n y hk
    · right; have := h.size; omega
  · intro n o v hv
    rcases k.frz n o v hv with h1 | h1 | h1
    · exact h.frz n o v h1
    · cases hk : H' n with
      | none => exact absurd hk h1
      | some y => exact .inr (h.new n y hk)
    · right; right; have := h.size; omega

theorem Ext.below {F F' : Mem} {H H' : Heap} {w w' : World} (h : Ext F H w F' H' w') (h0 : ∀ n, H n = none) : Below w.heap.size w w' :=
  ⟨h.os, h.tape, h.output, h.size, fun n hn => h.block n hn (h0 n)⟩

theorem RowOk.mono {F F' : Mem} (hF : F.le F') {C : Array Value} {sz : Nat} {rows : List (List AV)} (h : RowOk F C sz rows) : RowOk F' C sz rows :=
  ⟨h.len, h.one, fun i j y hy => (h.val i j y hy).mono hF⟩

theorem BlkOk.mono {F F' : Mem} (hF : F.le F') {w : World} {n : Nat} {k : Blk} (h : BlkOk F w n k) : BlkOk F' w n k := by
  cases k with
  | r ty sz cap rows => obtain ⟨C, h1, h2, h3, h4, h5, h6⟩ := h; exact ⟨C, h1, h2, h3, h4, h5, h6.mono hF⟩
  | m o M => exact ⟨h.1, h.2.trans hF⟩

theorem BlkOk.heap {F : Mem} {w w' : World} {n : Nat} {k : Blk} (h : BlkOk F w n k) (e : w'.heap[n]? = w.heap[n]?) : BlkOk F w' n k := by
  cases k with
  | r ty sz cap rows => obtain ⟨C, h1, h2⟩ := h; exact ⟨C, e.trans h1, h2⟩
  | m o M => exact ⟨e.trans h.1, h.2⟩

theorem BlkOk.lt {F : Mem} {w : World} {n : Nat} {k : Blk} (h : BlkOk F w n k) : n < w.heap.size := by
  have : w.heap[n]? ≠ none := by
    cases k with
    | r ty sz cap rows => obtain ⟨C, h1, _⟩ := h; rw [h1]; simp
    | m o M => rw [h.1]; simp
  rcases Nat.lt_or_ge n w.heap.size with h1 | h1
  · exact h1
  · exact absurd (Array.getElem?_eq_none h1) this

theorem cell_lt {w : World} {b o : Nat} {v : Value} (h : w.cell? ⟨b, o, none⟩ = some v) : b < w.heap.size := by
  rcases Nat.lt_or_ge b w.heap.size with h1 | h1
  · exact h1
  · simp [World.cell?, Array.getElem?_eq_none h1] at h

theorem Sat.lt {F : Mem} {H : Heap} {w : World} (h : Sat F H w) {n : Nat} {k : Blk} (hn : H n = some k) : n < w.heap.size := (h.blk n k hn).lt
theorem Sat.fresh {F : Mem} {H : Heap} {w : World} (h : Sat F H w) {n : Nat} (hn : w.heap.size ≤ n) : H n = none := by
  cases hk : H n with
  | none => rfl
  | some k => have := h.lt hk; omega
theorem Sat.memlt {F : Mem} {H : Heap} {w : World} (h : Sat F H w) {b o : Nat} {v : Value} (hb : F b o = some v) : b < w.heap.size := cell_lt (h.mem b o v hb)

def upd (H : Heap) (n : Nat) (k : Blk) : Heap := fun m => if m = n then some k else H m
theorem upd_same (H : Heap) (n : Nat) (k : Blk) : upd H n k n = some k := by simp [upd]
theorem upd_ne {H : Heap} {n m : Nat} {k : Blk} (h : m ≠ n) : upd H n k m = H m := by simp [upd, h]
theorem upd_none {H : Heap} {n m : Nat} {k : Blk} : upd H n k m = none ↔ m ≠ n ∧ H m = none := by
  unfold upd; by_cases h : m = n <;> simp [h]
theorem upd_self {H : Heap} {n : Nat} {k : Blk} (h : H n = some k) : upd H n k = H := by
  funext m; unfold upd; by_cases e : m = n
  · subst e; simp [h]
  · simp [e]
theorem upd_upd (H : Heap) (n : Nat) (k k' : Blk) : upd (upd H n k) n k' = upd H n k' := by
  funext m; unfold upd; by_cases e : m = n <;> simp [e]
theorem upd_comm {H : Heap} {n m : Nat} {k k' : Blk} (h : n ≠ m) : upd (upd H n k) m k' = upd (upd H m k') n k := by
  funext i; unfold upd; by_cases e : i = n
  · subst e; simp [h]
  · simp [e]

theorem Sat.alloc {F : Mem} {H : Heap} {w : World} (h : Sat F H w) (o : Obj) (k : Blk) (hk : BlkOk F (w.alloc o) w.heap.size k) : Sat F (upd H w.heap.size k) (w.alloc o) := by
  have old : ∀ n, n < w.heap.size → (w.alloc o).heap[n]? = w.heap[n]? := fun n hn => Below.heap_alloc w o n hn
  refine ⟨fun b o' v hb => ?_, fun b o' v k' hb hH => ?_, fun n k' hn => ?_⟩
  · have := h.mem b o' v hb
    rw [← this]; exact World.cell?_of_block (old b (cell_lt this))
  · by_cases e : b = w.heap.size
    · have := h.memlt hb; omega
    · rw [upd_ne e] at hH; exact h.off b o' v k' hb hH
  · by_cases e : n = w.heap.size
    · subst e; rw [upd_same] at hn; cases hn; exact hk
    · rw [upd_ne e] at hn
      exact (h.blk n k' hn).heap (old n (h.lt hn))

theorem Ext.alloc {F : Mem} (H : Heap) (w : World) (o : Obj) (k : Blk) : Ext F H w F (upd H w.heap.size k) (w.alloc o) :=
  ⟨rfl, rfl, rfl, by simp, fun n hn _ => Below.heap_alloc w o n hn, fun n k' hk => by
    by_cases e : n = w.heap.size
    · right; omega
    · rw [upd_ne e] at hk; left; rw [hk]; simp, Mem.le.refl F, fun _ _ _ h => .inl h⟩

theorem Sat.turn {F : Mem} {H : Heap} {w w' : World} (h : Sat F H w) {n : Nat} {k0 : Blk} (hn : H n = some k0) (hs : w.heap.size ≤ w'.heap.size) (hb : ∀ m, m ≠ n → m < w.heap.size → w'.heap[m]? = w.heap[m]?) (k : Blk) (hk : BlkOk F w' n k) : Sat F (upd H n k) w' := by
  refine ⟨fun b o' v hF => ?_, fun b o' v k' hF hH => ?_, fun m k' hm => ?_⟩
  · have := h.mem b o' v hF
    rw [← this]; exact World.cell?_of_block (hb b (by rintro rfl; exact h.off b o' v k0 hF hn) (cell_lt this))
  · by_cases e : b = n
    · subst e; exact h.off b o' v k0 hF hn
    · rw [upd_ne e] at hH; exact h.off b o' v k' hF hH
  · by_cases e : m = n
    · subst e; rw [upd_same] at hm; cases hm; exact hk
    · rw [upd_ne e] at hm
      exact (h.blk m k' hm).heap (hb m e (h.lt hm))

theorem Ext.turn {F : Mem} {H : Heap} {w w' : World} {n : Nat} {k0 : Blk} (hn : H n = some k0) (os : w'.os = w.os) (tape : w'.tape = w.tape) (out : w'.output = w.output) (hs : w.heap.size ≤ w'.heap.size) (hb : ∀ m, m ≠ n → m < w.heap.size → w'.heap[m]? = w.heap[m]?) (k : Blk) : Ext F H w F (upd H n k) w' :=
  ⟨os, tape, out, hs, fun m hm hH => hb m (by rintro rfl; rw [hn] at hH; cases hH) hm, fun m k' hm => by
    by_cases e : m = n
    · subst e; left; rw [hn]; simp
    · rw [upd_ne e] at hm; left; rw [hm]; simp, Mem.le.refl F, fun _ _ _ h => .inl h⟩

theorem Sat.drew {F : Mem} {H : Heap} {w : World} (h : Sat F H w) : Sat F H w.drew :=
  ⟨h.mem, h.off, fun n k hn => (h.blk n k hn).heap rfl⟩
theorem Ext.drew (F : Mem) (H : Heap) (w : World) : Ext F H w F H w.drew :=
  ⟨rfl, rfl, rfl, Nat.le_refl _, fun _ _ _ => rfl, fun n k h => .inl (by rw [h]; simp), Mem.le.refl F, fun _ _ _ h => .inl h⟩

def Heap.le (H H' : Heap) : Prop := ∀ n k, H n = some k → H' n = some k
theorem Sat.less {F : Mem} {H H' : Heap} {w : World} (h : Sat F H' w) (hl : H.le H') : Sat F H w :=
  ⟨h.mem, fun b o v k hF hH => h.off b o v k hF (hl b k hH), fun n k hn => h.blk n k (hl n k hn)⟩

end Go.Proofs.Ytlbdpnlmdcajbaa

/- What each operation does to abstract values and memory. -/
namespace Go.Proofs.Ytlbdpnlmdcajbaa
open Go.RowKit
set_option linter.unusedVariables false
set_option linter.unusedSimpArgs false
set_option linter.constructorNameAsVariable false

def Wide (Fe : Fence) : Prop := Fe = Fence.wide ∨ ∃ l, Fe = Fence.wide.inRound l
theorem Wide.fn {Fe : Fence} (h : Wide Fe) (f : FuncId) : Fe.fn f := by rcases h with rfl | ⟨l, rfl⟩ <;> trivial
theorem Wide.depth {Fe : Fence} (h : Wide Fe) : Fe.depth = none := by rcases h with rfl | ⟨l, rfl⟩ <;> rfl
theorem Wide.calls {Fe : Fence} (h : Wide Fe) {n : Nat} {P : Program} {f : FuncId} {args : Array Value} {w : World} {R : Ending → World → Prop} (hc : Calls P f args w R) : CallsIn Fe n P f args w R := by
  rcases h with rfl | ⟨l, rfl⟩
  · exact callsIn_wide.2 hc
  · exact (callsIn_wide (n := n)).2 hc

def ev (a : Nat → AV) : Operand → AV
  | .tmp t => a t
  | .const v => .c v
  | .global g => .c (.pointer (some ⟨g, 0, none⟩))
  | .func f => .c (.func (.func f) #[] #[])

def Va (F : Mem) (a : Nat → AV) (act : Act) : Prop := ∀ t, V F (a t) (act.tmps.getD t undef)
theorem Va.ev {F : Mem} {a : Nat → AV} {act : Act} (h : Va F a act) (x : Operand) : V F (ev a x) (act.eval x) := by
  cases x with
  | tmp t => exact h t
  | const v => exact .c v
  | global g => exact .c _
  | func f => exact .c _
theorem Va.mono {F F' : Mem} (hF : F.le F') {a : Nat → AV} {act : Act} (h : Va F a act) : Va F' a act := fun t => (h t).mono hF
theorem Va.c {F : Mem} {a : Nat → AV} {act : Act} (h : Va F a act) {x : Operand} {v : Value} (hx : Go.Proofs.Ytlbdpnlmdcajbaa.ev a x = .c v) : act.eval x = v := by
  have := h.ev x; rw [hx] at this; exact this.c_inv

def Vf (F : Mem) (a : Nat → AV) (act : Act) (o : Oper) : Prop := ∀ x ∈ o.op.operands.toList, V F (ev a x) (act.eval x)
theorem Vf.ev {F : Mem} {a : Nat → AV} {act : Act} {o : Oper} (h : Vf F a act o) (x : Operand) (hx : x ∈ o.op.operands.toList := by simp [Op.operands, Call.operands, *]) : V F (ev a x) (act.eval x) := h x hx
theorem Vf.c {F : Mem} {a : Nat → AV} {act : Act} {o : Oper} (h : Vf F a act o) {x : Operand} {v : Value} (hx : Go.Proofs.Ytlbdpnlmdcajbaa.ev a x = .c v) (hm : x ∈ o.op.operands.toList := by simp [Op.operands, Call.operands, *]) : act.eval x = v := by
  have := h x hm; rw [hx] at this; exact this.c_inv
theorem Va.vf {F : Mem} {a : Nat → AV} {act : Act} (h : Va F a act) (o : Oper) : Vf F a act o := fun x _ => h.ev x

def Does (P : Program) (o : Oper) (a : Nat → AV) (H : Heap) (K : AV → Heap → Prop) : Prop :=
  ∀ (Fe : Fence) (n : Nat), Wide Fe → ∀ (F : Mem) (w : World) (act : Act), Vf F a act o → Sat F H w →
    o.wpIn Fe n P act w (fun act' w' => ∃ v F' H' r, act' = act.put o.dst v ∧ V F' r v ∧ Sat F' H' w' ∧ Ext F H w F' H' w' ∧ K r H') (fun _ _ _ => False)

section
variable {P : Program} {o : Oper} {a : Nat → AV} {H : Heap} {K : AV → Heap → Prop}

theorem Does.mono {K' : AV → Heap → Prop} (h : Does P o a H K) (hk : ∀ r H', K r H' → K' r H') : Does P o a H K' := by
  intro Fe n hF F w act hv hs
  obtain ⟨h1, h2⟩ := h Fe n hF F w act hv hs
  refine ⟨h1, ?_⟩
  generalize (o.semAt Fe.round act.eval).run P w = r at h2 ⊢
  have key : ∀ (act' : Act) (w' : World), (∃ v F' H' r, act' = act.put o.dst v ∧ V F' r v ∧ Sat F' H' w' ∧ Ext F H w F' H' w' ∧ K r H') → ∃ v F' H' r, act' = act.put o.dst v ∧ V F' r v ∧ Sat F' H' w' ∧ Ext F H w F' H' w' ∧ K' r H' :=
    fun act' w' ⟨v, F', H', r, e1, e2, e3, e4, e5⟩ => ⟨v, F', H', r, e1, e2, e3, e4, hk _ _ e5⟩
  cases r with
  | halt x w' => cases x <;> simp only [Oper.uponIn] at h2
  | ok x w' =>
    cases x with
    | value v => exact key _ _ h2
    | skip => exact key _ _ h2
    | defer d => exact key _ _ h2
    | enter f args => exact ⟨h2.1, h2.2.mono fun e w' he => (by cases e <;> first | exact key _ _ he | exact he)⟩
    | row f args => exact ⟨h2.1, h2.2.mono fun e w' he => key _ _ he⟩
    | round l f tmps as body => exact ⟨h2.1, h2.2.mono fun e w' he => (by cases e <;> first | exact key _ _ he | exact he)⟩
    | _ => simp only [Oper.uponIn] at h2

theorem Does.ran (hd : ∀ c, o.op ≠ .defer c)
    (h : ∀ (F : Mem) (w : World) (act : Act), Vf F a act o → Sat F H w → ∃ v w' F' H' r, (execOp act.eval o).run P w = .ok (.value v) w' ∧ V F' r v ∧ Sat F' H' w' ∧ Ext F H w F' H' w' ∧ K r H') : Does P o a H K := by
  intro Fe n hF F w act hv hs
  refine ⟨fun f _ => hF.fn f, ?_⟩
  rw [Oper.semAt_eq _ _ _ hd]
  obtain ⟨v, w', F', H', r, e1, e2, e3, e4, e5⟩ := h F w act hv hs
  rw [e1]
  exact ⟨v, F', H', r, rfl, e2, e3, e4, e5⟩

theorem Does.val (hd : ∀ c, o.op ≠ .defer c) {r : AV} (hK : K r H)
    (h : ∀ (F : Mem) (w : World) (act : Act), Vf F a act o → Sat F H w → ∃ v, (execOp act.eval o).run P w = .ok (.value v) w ∧ V F r v) : Does P o a H K :=
  Does.ran hd fun F w act hv hs => let ⟨v, e, hr⟩ := h F w act hv hs; ⟨v, w, F, H, r, e, hr, hs, Ext.refl F H w, hK⟩

theorem Does.skip (hd : ∀ c, o.op ≠ .defer c)
    (h : ∀ (F : Mem) (w : World) (act : Act), Vf F a act o → Sat F H w → ∃ w' H', (execOp act.eval o).run P w = .ok .skip w' ∧ Sat F H' w' ∧ Ext F H w F H' w' ∧ K .x H') : Does P o a H K := by
  intro Fe n hF F w act hv hs
  refine ⟨fun f _ => hF.fn f, ?_⟩
  rw [Oper.semAt_eq _ _ _ hd]
  obtain ⟨w', H', e1, e3, e4, e5⟩ := h F w act hv hs
  rw [e1]
  exact ⟨undef, F, H', .x, rfl, .x _, e3, e4, e5⟩

theorem Does.enters (hd : ∀ c, o.op ≠ .defer c)
    (h : ∀ (F : Mem) (w : World) (act : Act), Vf F a act o → Sat F H w → ∃ f args, (execOp act.eval o).run P w = .ok (.enter f args) w ∧
      Calls P f args w fun e w' => ∃ v F' H' r, e = .returned v ∧ V F' r v ∧ Sat F' H' w' ∧ Ext F H w F' H' w' ∧ K r H') : Does P o a H K := by
  intro Fe n hF F w act hv hs
  refine ⟨fun f _ => hF.fn f, ?_⟩
  rw [Oper.semAt_eq _ _ _ hd]
  obtain ⟨f, args, e1, e2⟩ := h F w act hv hs
  rw [e1]
  refine ⟨fun hx => (by rw [hF.depth] at hx; cases hx), hF.calls (e2.mono ?_)⟩
  rintro e w' ⟨v, F', H', r, rfl, e3⟩
  exact ⟨v, F', H', r, rfl, e3⟩


theorem evs_ok {F : Mem} {a : Nat → AV} {act : Act} {zs : Array Operand} (h : ∀ x ∈ zs.toList, V F (ev a x) (act.eval x)) : Vs F (zs.toList.map (ev a)) (zs.map act.eval).toList := by
  rw [Array.toList_map]
  generalize zs.toList = l at h
  induction l with
  | nil => exact Vs.nil F
  | cons z zs ih => exact Vs.cons (h z (by simp)) (ih fun x hx => h x (by simp [hx]))

theorem does_move {x : Operand} (ho : o.op = .move x) (h : K (ev a x) H) : Does P o a H K :=
  Does.val (fun c => by simp [ho]) h fun F w act hv hs => ⟨_, by simp [execOp, ho], hv.ev x⟩
theorem does_assign {x : Operand} (ho : o.op = .assign x) (h : K (ev a x) H) : Does P o a H K :=
  Does.val (fun c => by simp [ho]) h fun F w act hv hs => ⟨_, by simp [execOp, ho], hv.ev x⟩
theorem does_pick {c x y : Operand} {b : Bool} (ho : o.op = .pick c x y) (hc : ev a c = .c (.bool b)) (h : K (if b then ev a x else ev a y) H) : Does P o a H K :=
  Does.val (fun c => by simp [ho]) h fun F w act hv hs => ⟨if b then act.eval x else act.eval y, by
    simp [execOp, ho, hv.c hc, asBool, Sem.run_bind], (by
      cases b
      · exact hv.ev y
      · exact hv.ev x)⟩
theorem does_makeFunc {fn : Fn} {xs ys : Array Operand} (ho : o.op = .makeFunc fn xs ys) (h : K (.f fn (xs.toList.map (ev a)) (ys.toList.map (ev a))) H) : Does P o a H K :=
  Does.val (fun c => by simp [ho]) h fun F w act hv hs => ⟨_, by simp [execOp, ho, Instr.makeFunc]; rfl, by
    exact V.f_of (evs_ok fun x hx => hv.ev x) (evs_ok fun x hx => hv.ev x)⟩
theorem does_extract {x : Operand} {i : Nat} {xs : List AV} {y : AV} (ho : o.op = .extract x i) (hx : ev a x = .t xs) (hy : xs[i]? = some y) (h : K y H) : Does P o a H K :=
  Does.val (fun c => by simp [ho]) h fun F w act hv hs => by
    have := hv.ev x
    rw [hx] at this
    obtain ⟨cs, e, hcs⟩ := this.t_inv
    have hi : i < cs.size := by
      have h1 := hcs.1
      have h2 := (List.getElem?_eq_some_iff.1 hy).1
      simp at h1; omega
    refine ⟨cs[i], by simp [execOp, ho, e, Instr.extract, hi], ?_⟩
    have := hcs.2 i y hy
    rw [← arr_getD] at this
    simpa [Array.getD, hi] using this

def unV (op : UnOp) : Value → Option Value
  | .bool b => if op = .not then some (.bool !b) else none
  | .int k n => if op = .neg then some (.int k (k.wrap (0 - n))) else none
  | _ => none
theorem does_unOp {op : UnOp} {t : TypeId} {x : Operand} {v r : Value} (ho : o.op = .unOp op t x) (hx : ev a x = .c v) (hr : unV op v = some r) (h : K (.c r) H) : Does P o a H K :=
  Does.val (fun c => by simp [ho]) h fun F w act hv hs => ⟨r, by
    rw [show execOp act.eval o = (do pure (.value (← Op.unary op v))) by simp [execOp, ho, hv.c hx]]
    unfold unV at hr
    split at hr
    · split at hr
      · rename_i h1; subst h1; cases hr; simp [Op.unary, Sem.run_bind]
      · simp at hr
    · split at hr
      · rename_i h1; subst h1; cases hr; simp [Op.unary, Op.intArith, Sem.run_bind]
      · simp at hr
    · simp at hr, V.c r⟩

def binI (op : BinOp) (k : IntKind) (x y : Int) : Option Value :=
  match op with
  | .add => some (.int k (k.wrap (x + y)))
  | .sub => some (.int k (k.wrap (x - y)))
  | .mul => some (.int k (k.wrap (x * y)))
  | .and | .or | .xor => some (.int k (bits op k x y))
  | .eql => some (.bool (decide (x = y)))
  | .neq => some (.bool (!decide (x = y)))
  | .lss => some (.bool (decide (x < y)))
  | .leq => some (.bool (decide (x ≤ y)))
  | .gtr => some (.bool (decide (y < x)))
  | .geq => some (.bool (decide (y ≤ x)))
  | _ => none

theorem int_beq (m n : Int) : (m == n) = decide (m = n) := by by_cases h : m = n <;> simp [h]
theorem int_bne (m n : Int) : (m != n) = !decide (m = n) := by by_cases h : m = n <;> simp [h]
theorem does_binI {op : BinOp} {t t' : TypeId} {x y : Operand} {k : IntKind} {m n : Int} {r : Value} (ho : o.op = .binOp op t x y t') (hx : ev a x = .c (.int k m)) (hy : ev a y = .c (.int k n)) (hr : binI op k m n = some r) (h : K (.c r) H) : Does P o a H K :=
  Does.val (fun c => by simp [ho]) h fun F w act hv hs => ⟨r, by
    have e1 := hv.c hx
    have e2 := hv.c hy
    cases op <;> simp only [binI, Option.some.injEq, reduceCtorEq] at hr <;> subst hr <;>
      simp [execOp, ho, e1, e2, eqGuard, binOp, Op.intArith, Op.intCmp, Op.intBits, Sem.run_bind, bits, int_beq, int_bne], V.c _⟩
theorem does_quo {t t' : TypeId} {x y : Operand} {k : IntKind} {m n : Int} (ho : o.op = .binOp .quo t x y t') (hx : ev a x = .c (.int k m)) (hy : ev a y = .c (.int k n)) (hn : n ≠ 0) (h : K (.c (.int k (k.wrap (m.tdiv n)))) H) : Does P o a H K :=
  Does.val (fun c => by simp [ho]) h fun F w act hv hs => ⟨_, by
    simp [execOp, ho, hv.c hx, hv.c hy, eqGuard, binOp, Op.intDiv, Sem.run_bind, hn], .c _⟩
theorem does_rem {t t' : TypeId} {x y : Operand} {k : IntKind} {m n : Int} (ho : o.op = .binOp .rem t x y t') (hx : ev a x = .c (.int k m)) (hy : ev a y = .c (.int k n)) (hn : n ≠ 0) (h : K (.c (.int k (m.tmod n))) H) : Does P o a H K :=
  Does.val (fun c => by simp [ho]) h fun F w act hv hs => ⟨_, by
    simp [execOp, ho, hv.c hx, hv.c hy, eqGuard, binOp, Op.intDiv, Sem.run_bind, hn], .c _⟩
theorem does_shl {t t' : TypeId} {x y : Operand} {k k' : IntKind} {m n : Int} (ho : o.op = .binOp .shl t x y t') (hx : ev a x = .c (.int k m)) (hy : ev a y = .c (.int k' n)) (hn : 0 ≤ n) (h : K (.c (.int k (k.wrap (m * 2 ^ min n.toNat k.bits)))) H) : Does P o a H K :=
  Does.val (fun c => by simp [ho]) h fun F w act hv hs => ⟨_, by
    simp [execOp, ho, hv.c hx, hv.c hy, eqGuard, binOp, Op.shift, Sem.run_bind, Int.not_lt.2 hn], .c _⟩
theorem does_shr {t t' : TypeId} {x y : Operand} {k k' : IntKind} {m n : Int} (ho : o.op = .binOp .shr t x y t') (hx : ev a x = .c (.int k m)) (hy : ev a y = .c (.int k' n)) (hn : 0 ≤ n) (h : K (.c (.int k (m.fdiv (2 ^ min n.toNat k.bits)))) H) : Does P o a H K :=
  Does.val (fun c => by simp [ho]) h fun F w act hv hs => ⟨_, by
    simp [execOp, ho, hv.c hx, hv.c hy, eqGuard, binOp, Op.shift, Sem.run_bind, Int.not_lt.2 hn], .c _⟩
theorem does_binB {op : BinOp} {t t' : TypeId} {x y : Operand} {p q : Bool} (ho : o.op = .binOp op t x y t') (hu : P.underlying t = some .bool) (hop : op = .eql ∨ op = .neq) (hx : ev a x = .c (.bool p)) (hy : ev a y = .c (.bool q)) (h : K (.c (.bool (if op = .eql then p == q else p != q))) H) : Does P o a H K :=
  Does.val (fun c => by simp [ho]) h fun F w act hv hs => ⟨.bool (if op = .eql then p == q else p != q), by
    have hur : ∀ w : World, (underlying t).run P w = .ok .bool w := fun w => run_underlying hu w
    have he : ∀ w : World, (Op.equal t (.bool p) (.bool q)).run P w = .ok (p == q) w := fun w => by
      rw [show Op.equal t (.bool p) (.bool q) = Op.equalIn (9999 + 1) t (.bool p) (.bool q) from rfl]
      unfold Op.equalIn
      simp [Sem.run_bind, hur]
    have hg : eqGuard op t x y (.bool p) (.bool q) = pure () := by rcases hop with rfl | rfl <;> rfl
    have hb : binOp op t (.bool p) (.bool q) = if op = .eql then (do pure (.bool (← Op.equal t (.bool p) (.bool q)))) else (do pure (.bool (!(← Op.equal t (.bool p) (.bool q))))) := by rcases hop with rfl | rfl <;> rfl
    rw [show execOp act.eval o = (do pure (.value (← (do eqGuard op t x y (.bool p) (.bool q); binOp op t (.bool p) (.bool q))))) by simp [execOp, ho, hv.c hx, hv.c hy], hg, hb]
    rcases hop with rfl | rfl <;> simp [Sem.run_bind, he, bne], V.c _⟩
theorem does_binS {op : BinOp} {t t' : TypeId} {x y : Operand} {p q : ByteArray} (ho : o.op = .binOp op t x y t') (hop : op = .eql ∨ op = .neq) (hx : ev a x = .c (.string p)) (hy : ev a y = .c (.string q)) (h : K (.c (.bool (if op = .eql then p == q else p != q))) H) : Does P o a H K :=
  Does.val (fun c => by simp [ho]) h fun F w act hv hs => ⟨.bool (if op = .eql then p == q else p != q), by
    have hg : eqGuard op t x y (.string p) (.string q) = pure () := by rcases hop with rfl | rfl <;> rfl
    have hb : binOp op t (.string p) (.string q) = pure (.bool (if op = .eql then p == q else p != q)) := by rcases hop with rfl | rfl <;> simp [binOp, Op.stringOp, beq_toListBytes, bne]
    rw [show execOp act.eval o = (do pure (.value (← (do eqGuard op t x y (.string p) (.string q); binOp op t (.string p) (.string q))))) by simp [execOp, ho, hv.c hx, hv.c hy], hg, hb]
    simp [Sem.run_bind], V.c _⟩

theorem does_conv {s d : TypeId} {x : Operand} {j k : IntKind} {n : Int} (ho : o.op = .convert s d x) (hs' : (P.underlying s).isSome = true) (hu : P.underlying d = some (.int k)) (hx : ev a x = .c (.int j n)) (h : K (.c (.int k (k.wrap n))) H) : Does P o a H K :=
  Does.val (fun c => by simp [ho]) h fun F w act hv hs => ⟨_, by
    obtain ⟨ds, hds⟩ := Option.isSome_iff_exists.1 hs'
    have h1 : ∀ w : World, (underlying s).run P w = .ok ds w := fun w => run_underlying hds w
    have h2 : ∀ w : World, (underlying d).run P w = .ok (.int k) w := fun w => run_underlying hu w
    simp [execOp, ho, hv.c hx, convert, Conv.intToInt, Sem.run_bind, h1, h2], .c _⟩

def AV.nn : AV → Bool
  | .p .. | .q .. => true
  | .f (.func _) _ _ => true
  | .c (.func (.func _) _ _) => true
  | _ => false
theorem does_nilCheck {x : Operand} (ho : o.op = .nilCheck x) (hx : (ev a x).nn = true) (h : K (ev a x) H) : Does P o a H K :=
  Does.val (fun c => by simp [ho]) h fun F w act hv hs => ⟨act.eval x, by
    have h1 := hv.ev x
    have : (∃ ad, act.eval x = .pointer (some ad)) ∨ ∃ g xs ys, act.eval x = .func (.func g) xs ys := by
      generalize ev a x = r at h1 hx
      generalize act.eval x = v at h1
      cases h1 <;> simp [AV.nn] at hx
      · cases v <;> (try (simp at hx; done))
        rename_i fn xs ys
        cases fn <;> (try (simp at hx; done))
        exact .inr ⟨_, _, _, rfl⟩
      · exact .inl ⟨_, rfl⟩
      · exact .inl ⟨_, rfl⟩
      · rename_i fn xs ys cs ds _ _ _ _
        cases fn <;> (try (simp at hx; done))
        exact .inr ⟨_, _, _, rfl⟩
    rcases this with ⟨ad, e⟩ | ⟨g, xs, ys, e⟩ <;> simp [execOp, ho, e], hv.ev x⟩
end
end Go.Proofs.Ytlbdpnlmdcajbaa

/- Operations on memory: loads, stores, variables, structs, slices. -/
namespace Go.Proofs.Ytlbdpnlmdcajbaa
open Go.RowKit
set_option linter.unusedVariables false
set_option linter.unusedSimpArgs false
set_option linter.constructorNameAsVariable false

def tS (P : Program) (t : TypeId) : Option Nat := (P.info? t).map (·.size)
def isAggD : TypeDesc → Bool
  | .struct _ | .array .. => true
  | _ => false
def tA (P : Program) (t : TypeId) : Option Bool := (P.underlying t).map isAggD
def tZ (P : Program) (t : TypeId) : Option (List Value) := (P.info? t).bind fun i => i.zero.map (·.cells.toList)
def tF (P : Program) (t : TypeId) (i : Nat) : Option (Nat × TypeId) :=
  match P.underlying t with
  | some (.struct fs) => fs[i]?.map fun f => (f.offset, f.type)
  | _ => none
def tE (P : Program) (t : TypeId) : Option TypeId :=
  match P.underlying t with
  | some (.slice e) => some e
  | _ => none
def tR (P : Program) (t : TypeId) : Option (Nat × TypeId) :=
  match P.underlying t with
  | some (.array n e) => some (n, e)
  | _ => none
theorem tE_eq {P : Program} {t e : TypeId} (h : tE P t = some e) : P.underlying t = some (.slice e) := by
  unfold tE at h; split at h <;> simp at h; subst h; assumption
theorem tR_eq {P : Program} {t e : TypeId} {n : Nat} (h : tR P t = some (n, e)) : P.underlying t = some (.array n e) := by
  unfold tR at h; split at h <;> simp at h; obtain ⟨rfl, rfl⟩ := h; assumption
theorem run_tS {P : Program} {t : TypeId} {k : Nat} (h : tS P t = some k) (w : World) : (sizeOf t).run P w = .ok k w := by
  unfold tS at h
  cases hi : P.info? t with
  | none => simp [hi] at h
  | some i => simp [hi] at h; subst h; simp [sizeOf, typeInfo, hi]
theorem run_tA {P : Program} {t : TypeId} {b : Bool} (h : tA P t = some b) (w : World) : (isAgg t).run P w = .ok b w := by
  unfold tA at h
  cases hi : P.underlying t with
  | none => simp [hi] at h
  | some d =>
    simp [hi] at h; subst h
    simp only [isAgg, Sem.run_bind, run_underlying hi, Result.andThen_ok]
    cases d <;> rfl
theorem run_tZ {P : Program} {t : TypeId} {zs : List Value} (h : tZ P t = some zs) (w : World) : ∃ z, (zeroValue t).run P w = .ok z w ∧ z.cells.toList = zs := by
  unfold tZ at h
  cases hi : P.info? t with
  | none => simp [hi] at h
  | some i =>
    simp [hi] at h
    obtain ⟨z, hz, h⟩ := h
    exact ⟨z, by simp [zeroValue, typeInfo, hi, hz, Sem.run_bind], h⟩

def Reads (F : Mem) (w : World) (b off : Nat) (e : List AV) : Prop := ∀ (k : Nat) (y : AV), e[k]? = some y → ∃ v, w.cell? ⟨b, off + k, none⟩ = some v ∧ V F y v ∧ y.one = true

theorem at2_some {α : Type} {L : List (List α)} {i j : Nat} {y : α} : at2 L i j = some y ↔ ∃ e, L[i]? = some e ∧ e[j]? = some y := by
  unfold at2; cases L[i]? <;> simp

theorem RowOk.reads {F : Mem} {w : World} {n : Nat} {C : Array Value} {ty : TypeId} {sz : Nat} {rows : List (List AV)} (h : RowOk F C sz rows) (hC : w.heap[n]? = some (.cells C ty (0, 0))) (hs : rows.length * sz ≤ C.size) {i : Nat} {e : List AV} (he : rows[i]? = some e) : Reads F w n (i * sz) e := by
  intro k y hy
  have ha : at2 rows i k = some y := at2_some.2 ⟨e, he, hy⟩
  have hi : i < rows.length := (List.getElem?_eq_some_iff.1 he).1
  have hk : k < sz := by
    have h1 := h.len e (List.mem_of_getElem? he)
    have h2 := (List.getElem?_eq_some_iff.1 hy).1
    omega
  have hlt : i * sz + k < C.size := by
    have : (i + 1) * sz ≤ rows.length * sz := Nat.mul_le_mul_right _ hi
    rw [Nat.add_mul] at this; omega
  refine ⟨C.getD (i * sz + k) undef, ?_, h.val i k y ha, h.one i k y ha⟩
  rw [cell_of_row w n _ C ty (0, 0) hC]
  simp [Array.getD, hlt]

theorem Sat.reads {F : Mem} {H : Heap} {w : World} (h : Sat F H w) {n : Nat} {ty : TypeId} {sz cap : Nat} {rows : List (List AV)} (hn : H n = some (.r ty sz cap rows)) {i : Nat} {e : List AV} (he : rows[i]? = some e) : Reads F w n (i * sz) e := by
  obtain ⟨C, h1, h2, h3, h4, h5, h6⟩ := h.blk n _ hn
  exact h6.reads h1 (by rw [h2]; exact Nat.mul_le_mul_right _ h3) he

theorem V.reads {F : Mem} {H : Heap} {w : World} (hs : Sat F H w) {e : List AV} {j : Nat} {v : Value} (h : V F (.q e j) v) : ∃ b o, v = .pointer (some ⟨b, o + j, none⟩) ∧ Reads F w b o e := by
  obtain ⟨b, o, u, rfl, hu⟩ := h.q_inv
  exact ⟨b, o, rfl, fun k y hy => ⟨u k, hs.mem _ _ _ (hu k y hy).2.2, (hu k y hy).2.1, (hu k y hy).1⟩⟩

def prt (ag : Bool) (k : Nat) (e : List AV) (j : Nat) : AV := if ag then .g ((e.drop j).take k) else e.getD j .x

theorem Reads.list {F : Mem} {w : World} {b off : Nat} {e : List AV} (h : Reads F w b off e) (j k : Nat) (hj : j + k ≤ e.length) : ∃ vs : List Value, vs.length = k ∧ Vs F ((e.drop j).take k) vs ∧ (∀ y ∈ (e.drop j).take k, y.one = true) ∧ ∀ m v, vs[m]? = some v → w.cell? ⟨b, off + j + m, none⟩ = some v := by
  induction k with
  | zero => exact ⟨[], rfl, by simpa using Vs.nil F, by simp, by simp⟩
  | succ k ih =>
    obtain ⟨vs, h1, h2, h3, h4⟩ := ih (by omega)
    have hjk : j + k < e.length := by omega
    obtain ⟨v, hv, hV, ho⟩ := h (j + k) e[j + k] (List.getElem?_eq_getElem hjk)
    have e1 : (e.drop j).take (k + 1) = (e.drop j).take k ++ [e[j + k]] := by
      rw [List.take_succ_eq_append_getElem (by simp; omega)]
      simp
    refine ⟨vs ++ [v], by simp [h1], ?_, ?_, ?_⟩
    · rw [e1]; exact h2.append (Vs.cons hV (Vs.nil F))
    · rw [e1]; intro y hy
      rcases List.mem_append.1 hy with hy | hy
      · exact h3 y hy
      · simp at hy; subst hy; exact ho
    · intro m u hu
      by_cases hm : m < vs.length
      · rw [List.getElem?_append_left hm] at hu; exact h4 m u hu
      · rw [List.getElem?_append_right (by omega)] at hu
        have : m - vs.length = 0 := by
          have := (List.getElem?_eq_some_iff.1 hu).1; simp at this; omega
        rw [this] at hu; simp at hu; subst hu
        have : m = k := by omega
        subst this
        rw [← hv, Nat.add_assoc]

theorem addr_add (b o j : Nat) : (⟨b, o, none⟩ : Addr).add j = ⟨b, o + j, none⟩ := Addr.add_lit ..

theorem Reads.load {P : Program} {F : Mem} {w : World} {b off : Nat} {e : List AV} (h : Reads F w b off e) {t : TypeId} {ag : Bool} {k j : Nat} (hA : tA P t = some ag) (hS : tS P t = some k) (hj : j + k ≤ e.length) (hk : 0 < k) :
    ∃ v, (Instr.loadAt t (.pointer (some ⟨b, off + j, none⟩))).run P w = .ok v w ∧ V F (prt ag k e j) v := by
  have hA' := run_tA (P := P) hA
  have hS' := run_tS (P := P) hS
  cases ag with
  | true =>
    obtain ⟨vs, h1, h2, h3, h4⟩ := h.list j k hj
    have hl := run_loadCells_list (P := P) w ⟨b, off + j, none⟩ vs (fun m v hv => by rw [addr_add]; exact h4 m v hv)
    rw [h1] at hl
    refine ⟨.agg vs.toArray, ?_, ?_⟩
    · simp [Instr.loadAt, Instr.sureAddr, loadVar, Sem.run_bind, hA', hS', hl]
    · show V F (.g _) _
      exact V.g_of (by simpa using h2) h3
  | false =>
    have hjl : j < e.length := by omega
    obtain ⟨v, hv, hV, ho⟩ := h j e[j] (List.getElem?_eq_getElem hjl)
    refine ⟨v, ?_, ?_⟩
    · simp [Instr.loadAt, Instr.sureAddr, loadVar, Sem.run_bind, hA', run_load, hv]
    · show V F (e.getD j .x) v
      rw [List.getD_eq_getElem?_getD, List.getElem?_eq_getElem hjl]; exact hV

section
variable {P : Program} {o : Oper} {a : Nat → AV} {H : Heap} {K : AV → Heap → Prop}

theorem does_load {t : TypeId} {x : Operand} {n sz i j : Nat} {ty : TypeId} {cap : Nat} {rows : List (List AV)} {e : List AV} {ag : Bool} {k : Nat} (ho : o.op = .load t x) (hx : ev a x = .p n sz i j) (hH : H n = some (.r ty sz cap rows)) (he : rows[i]? = some e) (hA : tA P t = some ag) (hS : tS P t = some k) (hj : j + k ≤ e.length) (hk : 0 < k) (h : K (prt ag k e j) H) : Does P o a H K :=
  Does.val (fun c => by simp [ho]) h fun F w act hv hs => by
    have h1 := hv.ev x
    rw [hx] at h1
    obtain ⟨v, h2, h3⟩ := (hs.reads hH he).load hA hS hj hk
    exact ⟨v, by simp [execOp, ho, h1.p_inv, Sem.run_bind, h2], h3⟩

theorem does_load_q {t : TypeId} {x : Operand} {j : Nat} {e : List AV} {ag : Bool} {k : Nat} (ho : o.op = .load t x) (hx : ev a x = .q e j) (hA : tA P t = some ag) (hS : tS P t = some k) (hj : j + k ≤ e.length) (hk : 0 < k) (h : K (prt ag k e j) H) : Does P o a H K :=
  Does.val (fun c => by simp [ho]) h fun F w act hv hs => by
    have h1 := hv.ev x
    rw [hx] at h1
    obtain ⟨b, off, e1, hr⟩ := h1.reads hs
    obtain ⟨v, h2, h3⟩ := hr.load hA hS hj hk
    exact ⟨v, by simp [execOp, ho, e1, Sem.run_bind, h2], h3⟩

theorem fieldAt_run {t : TypeId} {f off k : Nat} {ft : TypeId} (hF : tF P t f = some (off, ft)) (hS : tS P ft = some k) (hk : 0 < k) (b oo : Nat) (w : World) : (Instr.fieldAt t (.pointer (some ⟨b, oo, none⟩)) f).run P w = .ok (.pointer (some ⟨b, oo + off, none⟩)) w := by
  unfold tF at hF
  split at hF
  · rename_i fs hu
    simp at hF
    obtain ⟨g, hg, h1, h2⟩ := hF
    subst h1; subst h2
    have hS' := run_tS (P := P) hS
    have hne : k ≠ 0 := by omega
    simp [Instr.fieldAt, Sem.run_bind, run_underlying hu, hg, Instr.sureAddr, fieldPlace, hS', hne, addr_add]
  · cases hF

theorem does_fieldAddr {t : TypeId} {x : Operand} {f n sz i j off k : Nat} {ft : TypeId} (ho : o.op = .fieldAddr t x f) (hx : ev a x = .p n sz i j) (hF : tF P t f = some (off, ft)) (hS : tS P ft = some k) (hk : 0 < k) (h : K (.p n sz i (j + off)) H) : Does P o a H K :=
  Does.val (fun c => by simp [ho]) h fun F w act hv hs => by
    have h1 := hv.ev x
    rw [hx] at h1
    refine ⟨_, by simp [execOp, ho, h1.p_inv, Sem.run_bind, fieldAt_run hF hS hk]; rfl, ?_⟩
    rw [Nat.add_assoc]; exact .p ..
theorem does_fieldAddr_q {t : TypeId} {x : Operand} {f j off k : Nat} {e : List AV} {ft : TypeId} (ho : o.op = .fieldAddr t x f) (hx : ev a x = .q e j) (hF : tF P t f = some (off, ft)) (hS : tS P ft = some k) (hk : 0 < k) (h : K (.q e (j + off)) H) : Does P o a H K :=
  Does.val (fun c => by simp [ho]) h fun F w act hv hs => by
    have h1 := hv.ev x
    rw [hx] at h1
    obtain ⟨b, oo, u, e1, hu⟩ := h1.q_inv
    refine ⟨_, by simp [execOp, ho, e1, Sem.run_bind, fieldAt_run hF hS hk]; rfl, ?_⟩
    rw [Nat.add_assoc]; exact .q e _ b oo u (fun k y hy => (hu k y hy).1) (fun k y hy => (hu k y hy).2.1) (fun k y hy => (hu k y hy).2.2)

theorem part_run {F : Mem} {t : TypeId} {ag : Bool} {k : Nat} (hA : tA P t = some ag) (hS : tS P t = some k) {xs : List AV} {cs : Array Value} (hc : Vs F xs cs.toList) (h1 : ∀ y ∈ xs, y.one = true) (j : Nat) (hj : j + k ≤ xs.length) (hk : 0 < k) (w : World) : ∃ v, (part t cs j).run P w = .ok v w ∧ V F (prt ag k xs j) v := by
  have hA' := run_tA (P := P) hA
  have hS' := run_tS (P := P) hS
  have hl := hc.1
  simp at hl
  cases ag with
  | true =>
    refine ⟨.agg (cs.extract j (j + k)), by simp [part, Sem.run_bind, hA', hS'], ?_⟩
    show V F (.g _) _
    refine V.g_of ⟨by simp; omega, fun i y hy => ?_⟩ (fun y hy => h1 y (List.mem_of_mem_drop (List.mem_of_mem_take hy)))
    rw [List.getElem?_take] at hy
    split at hy
    · rw [List.getElem?_drop] at hy
      have := hc.2 _ y hy
      have e : (cs.extract j (j + k)).toList.getD i undef = cs.toList.getD (j + i) undef := by
        rw [List.getD_eq_getElem?_getD, List.getD_eq_getElem?_getD]
        congr 1
        rw [Array.getElem?_toList, Array.getElem?_toList, Array.getElem?_extract]
        rw [if_pos (by omega)]
      rw [e]; exact this
    · cases hy
  | false =>
    have hjl : j < cs.size := by omega
    refine ⟨cs[j], by simp [part, Sem.run_bind, hA', hjl], ?_⟩
    show V F (xs.getD j .x) _
    have hy : xs[j]? = some xs[j] := List.getElem?_eq_getElem (by omega)
    have := hc.2 j _ hy
    rw [List.getD_eq_getElem?_getD, hy]
    rw [← arr_getD] at this
    simpa [Array.getD, hjl] using this

theorem does_field {t : TypeId} {x : Operand} {f off k : Nat} {ft : TypeId} {ag : Bool} {xs : List AV} (ho : o.op = .field t x f) (hx : ev a x = .g xs) (hF : tF P t f = some (off, ft)) (hA : tA P ft = some ag) (hS : tS P ft = some k) (hk : 0 < k) (hj : off + k ≤ xs.length) (h : K (prt ag k xs off) H) : Does P o a H K :=
  Does.val (fun c => by simp [ho]) h fun F w act hv hs => by
    have h1 := hv.ev x
    rw [hx] at h1
    obtain ⟨cs, e1, hc, ho1⟩ := h1.g_inv
    obtain ⟨v, h2, h3⟩ := part_run hA hS hc ho1 off hj hk w
    refine ⟨v, ?_, h3⟩
    unfold tF at hF
    split at hF
    · rename_i fs hu
      simp at hF
      obtain ⟨g, hg, e2, e3⟩ := hF
      subst e2; subst e3
      simp [execOp, ho, e1, Instr.field, Sem.run_bind, run_underlying hu, hg, asAgg, h2]
    · cases hF

theorem does_index {t : TypeId} {x y : Operand} {n k : Nat} {et : TypeId} {ag : Bool} {xs : List AV} {kd : IntKind} {ix : Int} (ho : o.op = .index t x y) (hx : ev a x = .g xs) (hy : ev a y = .c (.int kd ix)) (hR : tR P t = some (n, et)) (hA : tA P et = some ag) (hS : tS P et = some k) (hk : 0 < k) (hn : xs.length = n * k) (h0 : 0 ≤ ix) (h1 : ix < n) (h : K (prt ag k xs (ix.toNat * k)) H) : Does P o a H K :=
  Does.val (fun c => by simp [ho]) h fun F w act hv hs => by
    have h2 := hv.ev x
    rw [hx] at h2
    obtain ⟨cs, e1, hc, ho1⟩ := h2.g_inv
    have hi : ix.toNat < n := by omega
    have hj : ix.toNat * k + k ≤ xs.length := by
      have : (ix.toNat + 1) * k ≤ n * k := Nat.mul_le_mul_right _ hi
      rw [Nat.add_mul] at this; omega
    obtain ⟨v, h3, h4⟩ := part_run hA hS hc ho1 _ hj hk w
    have hS' := run_tS (P := P) hS
    exact ⟨v, by simp [execOp, ho, e1, hv.c hy, Instr.index, asIntOf, Sem.run_bind, run_underlying (tR_eq hR), h0, h1, hS', h3], h4⟩

theorem does_indexAddr {t : TypeId} {x y : Operand} {n sz i len cap : Nat} {et : TypeId} {kd : IntKind} {ix : Int} (ho : o.op = .indexAddr t x y) (hx : ev a x = .s n sz i len cap) (hy : ev a y = .c (.int kd ix)) (hE : tE P t = some et) (hS : tS P et = some sz) (h0 : 0 ≤ ix) (h1 : ix < len) (h : K (.p n sz (i + ix.toNat) 0) H) : Does P o a H K :=
  Does.val (fun c => by simp [ho]) h fun F w act hv hs => by
    have h2 := hv.ev x
    rw [hx] at h2
    obtain ⟨oo, e1, h3, h4, h5⟩ := h2.s_inv
    have hS' := run_tS (P := P) hS
    have hu := tE_eq hE
    refine ⟨.pointer (some ⟨n, (i + ix.toNat) * sz + 0, none⟩), ?_, .p ..⟩
    have := h3 (.inl (by omega))
    subst this
    simp [execOp, ho, e1, hv.c hy, Instr.indexAt, asIntOf, Sem.run_bind, run_underlying hu, h0, h1, hS', addr_add, Nat.add_mul]

theorem does_indexAddr_l {t : TypeId} {x y : Operand} {sz : Nat} {rows : List (List AV)} {e : List AV} {et : TypeId} {kd : IntKind} {ix : Int} (ho : o.op = .indexAddr t x y) (hx : ev a x = .l sz rows) (hy : ev a y = .c (.int kd ix)) (hE : tE P t = some et) (hS : tS P et = some sz) (h0 : 0 ≤ ix) (he : rows[ix.toNat]? = some e) (h : K (.q e 0) H) : Does P o a H K :=
  Does.val (fun c => by simp [ho]) h fun F w act hv hs => by
    have h2 := hv.ev x
    rw [hx] at h2
    obtain ⟨ad, cap, u, e1, h3, h4, h5, h6, h7, h8⟩ := h2.l_inv
    have hlt : ix.toNat < rows.length := (List.getElem?_eq_some_iff.1 he).1
    have h1 : ix < rows.length := by omega
    have hS' := run_tS (P := P) hS
    have hu := tE_eq hE
    cases ad with
    | none => have := h5 rfl; omega
    | some ad =>
      obtain ⟨b, oo, sp⟩ := ad
      obtain ⟨hsp, h9⟩ := h8 _ rfl (by omega)
      simp only at hsp
      subst hsp
      refine ⟨.pointer (some ⟨b, (oo + ix.toNat * sz) + 0, none⟩), ?_, .q e 0 b _ (u ix.toNat) ?_ ?_ ?_⟩
      · simp [execOp, ho, e1, hv.c hy, Instr.indexAt, asIntOf, Sem.run_bind, run_underlying hu, h0, h1, hS', addr_add]
      · exact fun k y hy => (h7 _ k y (at2_some.2 ⟨e, he, hy⟩)).1
      · exact fun k y hy => (h7 _ k y (at2_some.2 ⟨e, he, hy⟩)).2
      · exact fun k y hy => h9 _ k y (at2_some.2 ⟨e, he, hy⟩)

theorem indexAt_arr {t et : TypeId} {m sz : Nat} (hR : tR P t = some (m, et)) (hS : tS P et = some sz) (kd : IntKind) (ix : Int) (h0 : 0 ≤ ix) (h1 : ix < m) (b oo : Nat) (w : World) : (Instr.indexAt t (.pointer (some ⟨b, oo, none⟩)) (.int kd ix)).run P w = .ok (.pointer (some ⟨b, oo + ix.toNat * sz, none⟩)) w := by
  have hS' := run_tS (P := P) hS
  simp [Instr.indexAt, asIntOf, Sem.run_bind, run_underlying (tR_eq hR), Instr.sureAddr, h0, h1, hS', addr_add]

theorem does_indexAddr_a {t : TypeId} {x y : Operand} {n sz i j k m : Nat} {et : TypeId} {kd : IntKind} {ix : Int} (ho : o.op = .indexAddr t x y) (hx : ev a x = .p n sz i j) (hy : ev a y = .c (.int kd ix)) (hR : tR P t = some (m, et)) (hS : tS P et = some k) (h0 : 0 ≤ ix) (h1 : ix < m) (h : K (.p n sz i (j + ix.toNat * k)) H) : Does P o a H K :=
  Does.val (fun c => by simp [ho]) h fun F w act hv hs => by
    have h2 := hv.ev x
    rw [hx] at h2
    refine ⟨_, by simp [execOp, ho, h2.p_inv, hv.c hy, Sem.run_bind, indexAt_arr hR hS kd ix h0 h1]; rfl, ?_⟩
    rw [Nat.add_assoc]; exact .p ..
theorem does_indexAddr_aq {t : TypeId} {x y : Operand} {e : List AV} {j k m : Nat} {et : TypeId} {kd : IntKind} {ix : Int} (ho : o.op = .indexAddr t x y) (hx : ev a x = .q e j) (hy : ev a y = .c (.int kd ix)) (hR : tR P t = some (m, et)) (hS : tS P et = some k) (h0 : 0 ≤ ix) (h1 : ix < m) (h : K (.q e (j + ix.toNat * k)) H) : Does P o a H K :=
  Does.val (fun c => by simp [ho]) h fun F w act hv hs => by
    have h2 := hv.ev x
    rw [hx] at h2
    obtain ⟨b, oo, u, e1, hu⟩ := h2.q_inv
    refine ⟨_, by simp [execOp, ho, e1, hv.c hy, Sem.run_bind, indexAt_arr hR hS kd ix h0 h1]; rfl, ?_⟩
    rw [Nat.add_assoc]; exact .q e _ b oo u (fun k y hy => (hu k y hy).1) (fun k y hy => (hu k y hy).2.1) (fun k y hy => (hu k y hy).2.2)
end
end Go.Proofs.Ytlbdpnlmdcajbaa

/- Operations that make memory or turn it. -/
namespace Go.Proofs.Ytlbdpnlmdcajbaa
open Go.RowKit
set_option linter.unusedVariables false
set_option linter.unusedSimpArgs false
set_option linter.constructorNameAsVariable false

def AV.cs : AV → Option (List AV)
  | .g xs => some xs
  | .c v => if v.oneCell' then some [.c v] else none
  | .p n sz i j => some [.p n sz i j]
  | .q e j => some [.q e j]
  | .s n sz i len cap => some [.s n sz i len cap]
  | .l sz rows => some [.l sz rows]
  | .f fn xs ys => some [.f fn xs ys]
  | _ => none

theorem AV.cs_ok {F : Mem} {x : AV} {ys : List AV} {v : Value} (h : x.cs = some ys) (hv : V F x v) : Vs F ys v.cells.toList ∧ (∀ y ∈ ys, y.one = true) ∧ ∀ u ∈ v.cells.toList, u.oneCell' = true := by
  have one : ∀ y : AV, y.one = true → V F y v → x.cs = some [y] → ys = [y] → Vs F ys v.cells.toList ∧ (∀ y ∈ ys, y.one = true) ∧ ∀ u ∈ v.cells.toList, u.oneCell' = true := by
    intro y hy hV _ e
    subst e
    have h1 := hV.one hy
    have : v.cells = #[v] := by cases v <;> first | rfl | (simp [Value.oneCell'] at h1)
    rw [this]
    exact ⟨Vs.cons hV (Vs.nil F), by simp [hy], by simp [h1]⟩
  cases x with
  | g xs =>
    simp [AV.cs] at h; subst h
    obtain ⟨cs, rfl, h1, h2⟩ := hv.g_inv
    refine ⟨h1, h2, fun u hu => ?_⟩
    obtain ⟨i, hi, rfl⟩ := List.getElem_of_mem hu
    have hl := h1.1
    have hi' : i < xs.length := by simp [Value.cells] at hi hl ⊢; omega
    have hx : xs[i]? = some xs[i] := List.getElem?_eq_getElem hi'
    have := (h1.2 i _ hx).one (h2 _ (List.mem_of_getElem? hx))
    simp only [Value.cells] at hi this ⊢
    rwa [List.getD_eq_getElem?_getD, List.getElem?_eq_getElem hi] at this
  | c u =>
    simp only [AV.cs] at h
    split at h
    · rename_i ho; simp at h; exact one (.c u) ho hv (by simp [AV.cs, ho]) h.symm
    · cases h
  | x => cases h
  | t xs => cases h
  | _ => simp [AV.cs] at h; exact one _ rfl hv rfl h.symm

def splice (C : Array Value) (o : Nat) (vs : List Value) : Array Value := (C.toList.take o ++ vs ++ C.toList.drop (o + vs.length)).toArray
theorem splice_size {C : Array Value} {o : Nat} {vs : List Value} (h : o + vs.length ≤ C.size) : (splice C o vs).size = C.size := by
  simp [splice]; omega
theorem splice_get {C : Array Value} {o : Nat} {vs : List Value} (h : o + vs.length ≤ C.size) (m : Nat) : (splice C o vs).getD m undef = if o ≤ m ∧ m < o + vs.length then vs.getD (m - o) undef else C.getD m undef := by
  rw [arr_getD, arr_getD, splice, List.getD_eq_getElem?_getD, List.getD_eq_getElem?_getD, List.getD_eq_getElem?_getD]
  have h1 : (C.toList.take o).length = o := by simp; omega
  split
  · rename_i hm
    congr 1
    rw [List.append_assoc, List.getElem?_append_right (by omega), h1, List.getElem?_append_left (by omega)]
  · rename_i hm
    congr 1
    by_cases hmo : m < o
    · rw [List.append_assoc, List.getElem?_append_left (by omega), List.getElem?_take, if_pos hmo]
    · rw [List.getElem?_append_right (by simp; omega), List.getElem?_drop]
      congr 1
      simp; omega

theorem flat_inj {i j i' j' sz : Nat} (hj : j < sz) (hj' : j' < sz) (h : i * sz + j = i' * sz + j') : i = i' ∧ j = j' := by
  have h1 : (i * sz + j) / sz = i := by rw [Nat.add_comm, Nat.add_mul_div_right _ _ (by omega), Nat.div_eq_of_lt hj]; omega
  have h2 : (i' * sz + j') / sz = i' := by rw [Nat.add_comm, Nat.add_mul_div_right _ _ (by omega), Nat.div_eq_of_lt hj']; omega
  have : i = i' := by rw [← h1, ← h2, h]
  subst this
  exact ⟨rfl, by omega⟩

theorem flat_lt {i j n sz : Nat} (hi : i < n) (hj : j < sz) : i * sz + j < n * sz := by
  have : (i + 1) * sz ≤ n * sz := Nat.mul_le_mul_right _ hi
  rw [Nat.add_mul] at this; omega

theorem RowOk.at2 {F : Mem} {C : Array Value} {sz : Nat} {rows : List (List AV)} (h : RowOk F C sz rows) {i j : Nat} {y : AV} (hy : at2 rows i j = some y) : i < rows.length ∧ j < sz := by
  obtain ⟨e, he, hj⟩ := at2_some.1 hy
  have := h.len e (List.mem_of_getElem? he)
  exact ⟨(List.getElem?_eq_some_iff.1 he).1, by rw [← this]; exact (List.getElem?_eq_some_iff.1 hj).1⟩

theorem RowOk.set1 {F : Mem} {C : Array Value} {sz : Nat} {rows : List (List AV)} (h : RowOk F C sz rows) (hs : rows.length * sz ≤ C.size) {i j : Nat} {e ys : List AV} {vs : List Value} (he : rows[i]? = some e) (hv : Vs F ys vs) (h1 : ∀ y ∈ ys, y.one = true) (hj : j + ys.length ≤ e.length) :
    RowOk F (splice C (i * sz + j) vs) sz (rows.set i (e.take j ++ ys ++ e.drop (j + ys.length))) := by
  have hi : i < rows.length := (List.getElem?_eq_some_iff.1 he).1
  have hel : e.length = sz := h.len e (List.mem_of_getElem? he)
  have hvl := hv.1
  have hfit : i * sz + j + vs.length ≤ C.size := by
    have : (i + 1) * sz ≤ rows.length * sz := Nat.mul_le_mul_right _ hi
    rw [Nat.add_mul] at this; omega
  have hnew : (e.take j ++ ys ++ e.drop (j + ys.length)).length = sz := by simp; omega
  have key : ∀ (i' j' : Nat) (y : AV), Go.Proofs.Ytlbdpnlmdcajbaa.at2 (rows.set i (e.take j ++ ys ++ e.drop (j + ys.length))) i' j' = some y →
      (i' = i ∧ j ≤ j' ∧ j' < j + ys.length ∧ ys[j' - j]? = some y) ∨ ((i' ≠ i ∨ j' < j ∨ j + ys.length ≤ j') ∧ Go.Proofs.Ytlbdpnlmdcajbaa.at2 rows i' j' = some y) := by
    intro i' j' y hy
    obtain ⟨e', he', hy'⟩ := at2_some.1 hy
    by_cases hii : i' = i
    · subst hii
      rw [List.getElem?_set_self hi] at he'
      cases he'
      by_cases hj1 : j' < j
      · right; refine ⟨.inr (.inl hj1), at2_some.2 ⟨e, he, ?_⟩⟩
        rw [List.append_assoc, List.getElem?_append_left (by simp; omega), List.getElem?_take, if_pos hj1] at hy'
        exact hy'
      · by_cases hj2 : j' < j + ys.length
        · left; refine ⟨rfl, by omega, hj2, ?_⟩
          rw [List.append_assoc, List.getElem?_append_right (by simp; omega), List.getElem?_append_left (by simp; omega)] at hy'
          have : (e.take j).length = j := by simp; omega
          rwa [this] at hy'
        · right; refine ⟨.inr (.inr (by omega)), at2_some.2 ⟨e, he, ?_⟩⟩
          rw [List.getElem?_append_right (by simp; omega), List.getElem?_drop] at hy'
          rw [← hy']; congr 1; simp; omega
    · right
      rw [List.getElem?_set_ne (Ne.symm hii)] at he'
      exact ⟨.inl hii, at2_some.2 ⟨e', he', hy'⟩⟩
  have hlen : ∀ e' ∈ rows.set i (e.take j ++ ys ++ e.drop (j + ys.length)), e'.length = sz := by
    intro e' he'
    rcases List.mem_or_eq_of_mem_set he' with h2 | h2
    · exact h.len e' h2
    · rw [h2]; exact hnew
  refine ⟨hlen, fun i' j' y hy => ?_, fun i' j' y hy => ?_⟩
  · rcases key i' j' y hy with ⟨_, _, _, h2⟩ | ⟨_, h2⟩
    · exact h1 y (List.mem_of_getElem? h2)
    · exact h.one i' j' y h2
  · rw [splice_get hfit]
    rcases key i' j' y hy with ⟨rfl, h3, h4, h2⟩ | ⟨h3, h2⟩
    · rw [if_pos (by omega)]
      have := hv.2 _ y h2
      rwa [show i' * sz + j' - (i' * sz + j) = j' - j by omega]
    · have hb := h.at2 h2
      rw [if_neg]
      · exact h.val i' j' y h2
      · intro hc
        have hd : i' * sz + j' = i * sz + (i' * sz + j' - i * sz) := by omega
        obtain ⟨e1, e2⟩ := flat_inj hb.2 (by omega) hd
        omega

theorem RowOk.single {F : Mem} {e : List AV} {vs : List Value} (hv : Vs F e vs) (h1 : ∀ y ∈ e, y.one = true) : RowOk F vs.toArray e.length [e] := by
  have key : ∀ (i j : Nat) (y : AV), Go.Proofs.Ytlbdpnlmdcajbaa.at2 [e] i j = some y → i = 0 ∧ e[j]? = some y := by
    intro i j y hy
    obtain ⟨e', he', hy'⟩ := at2_some.1 hy
    cases i with
    | zero => simp at he'; subst he'; exact ⟨rfl, hy'⟩
    | succ i => simp at he'
  refine ⟨by simp, fun i j y hy => h1 y (List.mem_of_getElem? (key i j y hy).2), fun i j y hy => ?_⟩
  obtain ⟨rfl, hy'⟩ := key i j y hy
  have := hv.2 j y hy'
  rw [arr_getD]
  simpa using this

section
variable {P : Program} {o : Oper} {a : Nat → AV} {H : Heap} {K : AV → Heap → Prop}

theorem newVar_does {F : Mem} {w : World} (hs : Sat F H w) (t : TypeId) {e : List AV} {vs : List Value} (hv : Vs F e vs) (h1 : ∀ y ∈ e, y.one = true) (hp : 0 < e.length) :
    Sat F (upd H w.heap.size (.r t e.length 1 [e])) (w.alloc (.cells vs.toArray t)) := by
  refine hs.alloc _ _ ⟨vs.toArray, heap_alloc_new w _, by simp [hv.1], by simp, by simp [maxLen], hp, RowOk.single hv h1⟩

theorem does_box {t : TypeId} {x : Operand} {ys : List AV} (ho : o.op = .box t x) (hx : (ev a x).cs = some ys) (hp : 0 < ys.length) (h : ∀ n, H n = none → K (.p n ys.length 0 0) (upd H n (.r t ys.length 1 [ys]))) : Does P o a H K :=
  Does.ran (fun c => by simp [ho]) fun F w act hv hs => by
    obtain ⟨h1, h2, h3⟩ := AV.cs_ok hx (hv.ev x)
    refine ⟨.pointer (some ⟨w.heap.size, 0, none⟩), w.alloc (.cells (act.eval x).cells t), F, _, .p w.heap.size ys.length 0 0, ?_, ?_, ?_, Ext.alloc H w _ _, h _ (hs.fresh (Nat.le_refl _))⟩
    · simp [execOp, ho, Instr.box, newVar, newRow, Sem.run_bind]
    · simpa using V.p (F := F) w.heap.size ys.length 0 0
    · have := newVar_does hs t h1 h2 hp
      simpa using this

theorem zs_Vs {F : Mem} (zs : List Value) : Vs F (zs.map .c) zs := by
  induction zs with
  | nil => exact Vs.nil F
  | cons z zs ih => exact Vs.cons (.c z) ih

theorem does_alloc {t : TypeId} {zs : List Value} (ho : o.op = .alloc t) (hz : tZ P t = some zs) (h1 : zs.all (·.oneCell') = true) (hp : 0 < zs.length) (h : ∀ n, H n = none → K (.p n zs.length 0 0) (upd H n (.r t zs.length 1 [zs.map .c]))) : Does P o a H K :=
  Does.ran (fun c => by simp [ho]) fun F w act hv hs => by
    obtain ⟨z, h2, h3⟩ := run_tZ hz w
    refine ⟨.pointer (some ⟨w.heap.size, 0, none⟩), w.alloc (.cells z.cells t), F, _, .p w.heap.size zs.length 0 0, ?_, ?_, ?_, Ext.alloc H w _ _, h _ (hs.fresh (Nat.le_refl _))⟩
    · simp [execOp, ho, Instr.alloc, newVar, newRow, Sem.run_bind, h2]
    · simpa using V.p (F := F) w.heap.size zs.length 0 0
    · have := newVar_does hs t (e := zs.map .c) (zs_Vs zs) (fun y hy => by
        obtain ⟨z, hz, rfl⟩ := List.mem_map.1 hy
        exact List.all_eq_true.1 h1 z hz) (by simpa using hp)
      rw [List.length_map] at this
      have e : (w.alloc (.cells zs.toArray t)) = w.alloc (.cells z.cells t) := by rw [← h3]
      rw [← e]; exact this

theorem turn_row {F : Mem} {w : World} (hs : Sat F H w) {n : Nat} {ty : TypeId} {sz cap : Nat} {rows rows' : List (List AV)} {C C' : Array Value} (hn : H n = some (.r ty sz cap rows)) (hC : w.heap[n]? = some (.cells C ty (0, 0))) (hsz : C'.size = cap * sz) (hl : rows'.length ≤ cap) (hm : cap ≤ maxLen) (hp : 0 < sz) (hr : RowOk F C' sz rows') :
    Sat F (upd H n (.r ty sz cap rows')) (w.setRow n C') ∧ Ext F H w F (upd H n (.r ty sz cap rows')) (w.setRow n C') :=
  ⟨hs.turn hn (by simp) (fun m hm _ => setRow_other w n m C' hm) _ ⟨C', setRow_heap w n C C' ty _ hC, hsz, hl, hm, hp, hr⟩,
   Ext.turn hn (by simp) (by simp) (by simp) (by simp) (fun m hm _ => setRow_other w n m C' hm) _⟩

theorem does_store {t : TypeId} {x y : Operand} {n sz i j : Nat} {ty : TypeId} {cap : Nat} {rows : List (List AV)} {e ys : List AV} {k : Nat} (ho : o.op = .store t x y) (hx : ev a x = .p n sz i j) (hH : H n = some (.r ty sz cap rows)) (he : rows[i]? = some e) (hy : (ev a y).cs = some ys) (hS : tS P t = some k) (hk : ys.length = k) (hj : j + k ≤ e.length)
    (h : K .x (upd H n (.r ty sz cap (rows.set i (e.take j ++ ys ++ e.drop (j + k)))))) : Does P o a H K :=
  Does.skip (fun c => by simp [ho]) fun F w act hv hs => by
    have h1 := hv.ev x
    rw [hx] at h1
    obtain ⟨h2, h3, h4⟩ := AV.cs_ok hy (hv.ev y)
    obtain ⟨C, c1, c2, c3, c4, c5, c6⟩ := hs.blk n _ hH
    have hS' := run_tS (P := P) hS
    have hi : i < rows.length := (List.getElem?_eq_some_iff.1 he).1
    have hel : e.length = sz := c6.len e (List.mem_of_getElem? he)
    have hle : rows.length * sz ≤ C.size := by rw [c2]; exact Nat.mul_le_mul_right _ c3
    have hfit : i * sz + j + 0 + (act.eval y).cells.toList.length ≤ C.size := by
      rw [← h2.1, hk]
      have : (i + 1) * sz ≤ rows.length * sz := Nat.mul_le_mul_right _ hi
      rw [Nat.add_mul] at this; omega
    have hst := run_storeCells_at P n (i * sz + j) ty (act.eval y).cells.toList 0 C w c1 hfit h4
    have hC' : (C.toList.take (i * sz + j + 0) ++ (act.eval y).cells.toList ++ C.toList.drop (i * sz + j + 0 + (act.eval y).cells.toList.length)).toArray = splice C (i * sz + j) (act.eval y).cells.toList := rfl
    rw [hC'] at hst
    have hsize : (act.eval y).cells.size = k := by rw [← hk, h2.1]; simp
    have hr := c6.set1 hle he h2 h3 (by rw [hk]; exact hj)
    rw [hk] at hr
    obtain ⟨s1, s2⟩ := turn_row hs hH c1 (by rw [splice_size (by simpa using hfit)]; exact c2) (by rw [List.length_set]; exact c3) c4 c5 hr
    refine ⟨w.setRow n (splice C (i * sz + j) (act.eval y).cells.toList), _, ?_, s1, s2, h⟩
    simp [execOp, ho, h1.p_inv, Instr.storeAt, Instr.sureAddr, storeVar, Sem.run_bind, hS', hsize, hst]
end
end Go.Proofs.Ytlbdpnlmdcajbaa

/- Structs and slices that are built, slices of slices, builtins. -/
namespace Go.Proofs.Ytlbdpnlmdcajbaa
open Go.RowKit
set_option linter.unusedVariables false
set_option linter.unusedSimpArgs false
set_option linter.constructorNameAsVariable false

theorem setIn_toList (C : Array Value) (i : Nat) (v : Value) : (C.setIfInBounds i v).toList = C.toList.set i v := by simp

theorem foldl_splice : ∀ (l : List Value) (k off : Nat) (C : Array Value), off + k + l.length ≤ C.size → (l.zipIdx k).foldl (fun (cs : Array Value) (p : Value × Nat) => cs.setIfInBounds (off + p.2) p.1) C = splice C (off + k) l
  | [], k, off, C, h => by
    apply Array.ext'
    simp [splice]
  | v :: l, k, off, C, h => by
    rw [List.zipIdx_cons, List.foldl_cons, foldl_splice l (k + 1) off _ (by simp at h ⊢; omega)]
    apply Array.ext'
    have hk : off + k < C.toList.length := by simp at h ⊢; omega
    simp only [splice, setIn_toList, List.length_cons]
    apply List.ext_getElem?
    intro i
    have h1 : (C.toList.take (off + k)).length = off + k := by simp; simp at h; omega
    have h2 : ((C.toList.set (off + k) v).take (off + (k + 1))).length = off + k + 1 := by simp; simp at h; omega
    by_cases hi : i < off + k
    · rw [List.append_assoc, List.getElem?_append_left (by omega), List.append_assoc, List.getElem?_append_left (by omega), List.getElem?_take, List.getElem?_take, if_pos (by omega), if_pos hi, List.getElem?_set_ne (by omega)]
    · by_cases he : i = off + k
      · subst he
        rw [List.append_assoc, List.getElem?_append_left (by omega), List.append_assoc, List.getElem?_append_right (by omega), List.getElem?_take, if_pos (by omega), List.getElem?_set_self hk, h1]
        simp
      · by_cases hl : i < off + k + 1 + l.length
        · rw [List.append_assoc, List.getElem?_append_right (by omega), List.getElem?_append_left (by omega), List.append_assoc, List.getElem?_append_right (by omega), List.getElem?_append_left (by simp; omega), h1, h2]
          obtain ⟨d, rfl⟩ : ∃ d, i = off + k + 1 + d := ⟨i - (off + k + 1), by omega⟩
          rw [show off + k + 1 + d - (off + k) = d + 1 by omega, List.getElem?_cons_succ]
          congr 1; omega
        · rw [List.getElem?_append_right (by simp; simp at h; omega), List.getElem?_drop, List.getElem?_append_right (by simp; simp at h; omega), List.getElem?_drop, List.getElem?_set_ne (by simp; simp at h; omega)]
          congr 1
          simp; simp at h; omega

theorem foldl_fill (v : Value) (off : Nat) (C : Array Value) (h : off + v.cells.size ≤ C.size) : v.cells.zipIdx.foldl (fun (cs : Array Value) (p : Value × Nat) => cs.setIfInBounds (off + p.2) p.1) C = splice C off v.cells.toList := by
  rw [← Array.foldl_toList]
  have := foldl_splice v.cells.toList 0 off C (by simpa using h)
  simpa using this

def fillC (place : Nat → Option (Nat × Nat)) (cells : List AV) : List (Nat × AV) → Option (List AV)
  | [] => some cells
  | (i, v) :: rest =>
    match place i, v.cs with
    | some (off, k), some ys => if ys.length = k ∧ off + k ≤ cells.length then fillC place (cells.take off ++ ys ++ cells.drop (off + k)) rest else none
    | _, _ => none

theorem Vs.splice {F : Mem} {cells ys : List AV} {C : Array Value} {vs : List Value} (h : Vs F cells C.toList) (k : Vs F ys vs) {off : Nat} (hf : off + ys.length ≤ cells.length) : Vs F (cells.take off ++ ys ++ cells.drop (off + ys.length)) (splice C off vs).toList := by
  have hl := h.1
  have hk := k.1
  have hf' : off + vs.length ≤ C.size := by simp at hl; omega
  refine ⟨by simp [Go.Proofs.Ytlbdpnlmdcajbaa.splice]; simp at hl; omega, fun i y hy => ?_⟩
  rw [← arr_getD, splice_get hf']
  by_cases h1 : i < off
  · rw [List.append_assoc, List.getElem?_append_left (by simp; omega), List.getElem?_take, if_pos h1] at hy
    rw [if_neg (by omega), arr_getD]; exact h.2 i y hy
  · by_cases h2 : i < off + ys.length
    · rw [List.append_assoc, List.getElem?_append_right (by simp; omega), List.getElem?_append_left (by simp; omega)] at hy
      rw [if_pos (by omega)]
      have := k.2 _ y hy
      rwa [show (cells.take off).length = off by simp; omega] at this
    · rw [List.getElem?_append_right (by simp; omega), List.getElem?_drop] at hy
      rw [if_neg (by omega), arr_getD]
      have := h.2 _ y hy
      rwa [show off + ys.length + (i - (cells.take off ++ ys).length) = i by simp; omega] at this

theorem fill_ok {F : Mem} {a : Nat → AV} {act : Act} (place : Nat → Option (Nat × Nat)) : ∀ (parts : List (Nat × Operand)) (cells : List AV) (C : Array Value) (r : List AV), (∀ p ∈ parts, V F (ev a p.2) (act.eval p.2)) → Vs F cells C.toList → (∀ y ∈ cells, y.one = true) →
    fillC place cells (parts.map fun p => (p.1, ev a p.2)) = some r → ∃ D, Instr.fill place C (parts.map fun p => (p.1, act.eval p.2)) = some D ∧ Vs F r D.toList ∧ ∀ y ∈ r, y.one = true
  | [], cells, C, r, hv, h, h1, e => by simp [fillC] at e; subst e; exact ⟨C, rfl, h, h1⟩
  | (i, x) :: rest, cells, C, r, hv, h, h1, e => by
    simp only [List.map_cons, fillC] at e
    cases hp : place i with
    | none => simp [hp] at e
    | some q =>
      obtain ⟨off, k⟩ := q
      cases hx : (ev a x).cs with
      | none => simp [hp, hx] at e
      | some ys =>
        simp only [hp, hx] at e
        split at e
        · rename_i hc
          obtain ⟨hc1, hc2⟩ := hc
          obtain ⟨g1, g2, g3⟩ := AV.cs_ok hx (hv (i, x) (by simp))
          have hsz : (act.eval x).cells.size = k := by rw [← hc1, g1.1]; simp
          have hCs : cells.length = C.size := by have := h.1; simpa using this
          have hfit : off + (act.eval x).cells.size ≤ C.size := by omega
          obtain ⟨D, d1, d2, d3⟩ := fill_ok place rest _ (splice C off (act.eval x).cells.toList) r (fun p hp => hv p (by simp [hp])) (by
            have := h.splice g1 (off := off) (by omega)
            rwa [hc1] at this) (fun y hy => by
              rcases List.mem_append.1 hy with hy | hy
              · rcases List.mem_append.1 hy with hy | hy
                · exact h1 y (List.mem_of_mem_take hy)
                · exact g2 y hy
              · exact h1 y (List.mem_of_mem_drop hy)) e
          refine ⟨D, ?_, d2, d3⟩
          simp only [List.map_cons, Instr.fill, hp, hsz]
          rw [if_neg (by simp; omega)]
          have hff := foldl_fill (act.eval x) off C hfit
          rw [← d1, ← hff]
        · cases e

def tP (P : Program) (t : TypeId) : Option (List (Nat × Nat)) :=
  match P.underlying t with
  | some (.struct fs) => fs.toList.mapM fun f => (tS P f.type).map fun k => (f.offset, k)
  | _ => none

theorem mapM_places {P : Program} : ∀ (fs : List Field) (r : List (Nat × Nat)), fs.mapM (fun f => (tS P f.type).map fun k => (f.offset, k)) = some r → ∀ w : World, (fs.mapM fun f => (do pure (f.offset, ← sizeOf f.type) : Sem (Nat × Nat))).run P w = .ok r w
  | [], r, h, w => by simp at h; subst h; simp [Sem.run_pure]
  | f :: fs, r, h, w => by
    rw [List.mapM_cons] at h
    cases h1 : tS P f.type with
    | none => simp [h1] at h
    | some k =>
      cases h2 : fs.mapM (fun f => (tS P f.type).map fun k => (f.offset, k)) with
      | none => simp [h1, h2] at h
      | some r' =>
        simp [h1, h2] at h
        subst h
        have ih := mapM_places fs r' h2 w
        have hs := run_tS (P := P) h1
        rw [List.mapM_cons]
        simp only [Sem.run_bind, hs, Result.andThen_ok, Sem.run_pure, ih]

section
variable {P : Program} {o : Oper} {a : Nat → AV} {H : Heap} {K : AV → Heap → Prop}

theorem does_build {t : TypeId} {parts : Array (Nat × Operand)} {pl : List (Nat × Nat)} {zs : List Value} {r : List AV} (ho : o.op = .build t parts) (hp : tP P t = some pl) (hz : tZ P t = some zs) (h1 : zs.all (·.oneCell') = true)
    (hr : fillC (pl[·]?) (zs.map .c) (parts.toList.map fun p => (p.1, ev a p.2)) = some r) (h : K (.g r) H) : Does P o a H K :=
  Does.val (fun c => by simp [ho]) h fun F w act hv hs => by
    unfold tP at hp
    split at hp
    · rename_i fs hu
      obtain ⟨z, z1, z2⟩ := run_tZ hz w
      have hm := mapM_places (P := P) fs.toList pl hp w
      obtain ⟨D, d1, d2, d3⟩ := fill_ok (pl[·]?) parts.toList (zs.map .c) z.cells r (fun p hp => hv.ev p.2 (by simp only [ho, Op.operands, List.toList_toArray]; exact List.mem_map.2 ⟨p, hp, rfl⟩)) (by rw [z2]; exact zs_Vs zs) (fun y hy => by
        obtain ⟨z, hz, rfl⟩ := List.mem_map.1 hy
        exact List.all_eq_true.1 h1 z hz) hr
      refine ⟨.agg D, ?_, V.g_of d2 d3⟩
      have hm' : (fs.mapM fun f => (do pure (f.offset, ← sizeOf f.type) : Sem (Nat × Nat))).run P w = .ok pl.toArray w := by
        rw [Array.mapM_eq_mapM_toList]
        show (do let x ← fs.toList.mapM fun f => (do pure (f.offset, ← sizeOf f.type) : Sem (Nat × Nat)); pure x.toArray : Sem (Array (Nat × Nat))).run P w = _
        simp only [Sem.run_bind, hm, Result.andThen_ok, Sem.run_pure]
      have e : (parts.map fun (i, x) => (i, act.eval x)).toList = parts.toList.map fun p => (p.1, act.eval p.2) := by simp
      rw [show execOp act.eval o = (do pure (.value (← Instr.build t (parts.map fun (i, x) => (i, act.eval x))))) by simp [execOp, ho]]
      simp only [Instr.build, Sem.run_bind, z1, Result.andThen_ok, run_underlying hu, hm', e]
      have : (fun i : Nat => pl.toArray[i]?) = (fun i => pl[i]?) := by funext i; simp
      rw [this, d1]
      simp
    · cases hp

theorem does_build_a {t et : TypeId} {m k : Nat} {parts : Array (Nat × Operand)} {zs : List Value} {r : List AV} (ho : o.op = .build t parts) (hR : tR P t = some (m, et)) (hS : tS P et = some k) (hz : tZ P t = some zs) (h1 : zs.all (·.oneCell') = true)
    (hr : fillC (fun i => some (i * k, k)) (zs.map .c) (parts.toList.map fun p => (p.1, ev a p.2)) = some r) (h : K (.g r) H) : Does P o a H K :=
  Does.val (fun c => by simp [ho]) h fun F w act hv hs => by
    have hu := tR_eq hR
    obtain ⟨z, z1, z2⟩ := run_tZ hz w
    obtain ⟨D, d1, d2, d3⟩ := fill_ok (fun i => some (i * k, k)) parts.toList (zs.map .c) z.cells r (fun p hp => hv.ev p.2 (by simp only [ho, Op.operands, List.toList_toArray]; exact List.mem_map.2 ⟨p, hp, rfl⟩)) (by rw [z2]; exact zs_Vs zs) (fun y hy => by
      obtain ⟨z, hz, rfl⟩ := List.mem_map.1 hy
      exact List.all_eq_true.1 h1 z hz) hr
    refine ⟨.agg D, ?_, V.g_of d2 d3⟩
    have hS' := run_tS (P := P) hS w
    have e : (parts.map fun (i, x) => (i, act.eval x)).toList = parts.toList.map fun p => (p.1, act.eval p.2) := by simp
    rw [show execOp act.eval o = (do pure (.value (← Instr.build t (parts.map fun (i, x) => (i, act.eval x))))) by simp [execOp, ho]]
    simp only [Instr.build, Sem.run_bind, z1, Result.andThen_ok, run_underlying hu, hS', e]
    rw [d1]
    simp

def optI (a : Nat → AV) (d : Nat) : Option Operand → Option Int
  | none => some d
  | some x => match ev a x with | .c (.int _ n) => some n | _ => none

theorem bound_run {x : Value} {k : IntKind} {n : Int} {y : Nat} {code : BoundsCode} (hx : x = .int k n) (h0 : 0 ≤ n) (h1 : n ≤ y) (w : World) : (Instr.sliceBound x y code).run P w = .ok n.toNat w := by
  subst hx
  simp [Instr.sliceBound, asIntOf, Sem.run_bind, h0, h1]

theorem slice_run {t et : TypeId} {sz : Nat} (hE : tE P t = some et) (hS : tS P et = some sz) {F : Mem} {act : Act} {lo hi mx : Option Operand} (hv : ∀ x, x ∈ lo ∨ x ∈ hi ∨ x ∈ mx → V F (ev a x) (act.eval x)) {ad : Option Addr} {len cap : Nat} {l h m : Int}
    (hl : optI a 0 lo = some l) (hh : optI a len hi = some h) (hm : optI a cap mx = some m) (h0 : 0 ≤ l) (h1 : l ≤ h) (h2 : h ≤ m) (h3 : m ≤ cap) (h4 : len ≤ cap) (hmx : mx.isSome = true → hi.isSome = true) (w : World) :
    (Instr.sliceAt t (.slice ad len cap) (lo.map act.eval) (hi.map act.eval) (mx.map act.eval)).run P w = .ok (.slice (if m = l then ad else ad.map (·.add (l.toNat * sz))) (h.toNat - l.toNat) (m.toNat - l.toNat)) w := by
  have hS' := run_tS (P := P) hS
  have hu := tE_eq hE
  have opt : ∀ (x : Operand) (d : Nat) (n : Int), (x ∈ lo ∨ x ∈ hi ∨ x ∈ mx) → optI a d (some x) = some n → ∃ k, act.eval x = .int k n := by
    intro x d n hm h
    simp only [optI] at h
    split at h
    · rename_i k n' hx; cases h
      have := hv x hm; rw [hx] at this
      exact ⟨k, this.c_inv⟩
    · cases h
  have hb : (Instr.sliceBounds true len cap (lo.map act.eval) (hi.map act.eval) (mx.map act.eval)).run P w = .ok (l.toNat, h.toNat, m.toNat) w := by
    cases mx with
    | none =>
      simp [optI] at hm; subst hm
      cases hi with
      | none =>
        simp [optI] at hh; subst hh
        cases lo with
        | none => simp [optI] at hl; subst hl; simp [Instr.sliceBounds, Sem.run_bind]
        | some x =>
          obtain ⟨k, e⟩ := opt x 0 l (by simp) hl
          have := bound_run (P := P) (code := .sliceB) e h0 h1 w
          simp [Instr.sliceBounds, Sem.run_bind, this]
      | some y =>
        obtain ⟨ky, ey⟩ := opt y len h (by simp) hh
        have hyb := bound_run (P := P) (code := .sliceAcap) ey (by omega) h2 w
        cases lo with
        | none => simp [optI] at hl; subst hl; simp [Instr.sliceBounds, Sem.run_bind, hyb]
        | some x =>
          obtain ⟨k, e⟩ := opt x 0 l (by simp) hl
          have := bound_run (P := P) (y := h.toNat) (code := .sliceB) e h0 (by omega) w
          simp [Instr.sliceBounds, Sem.run_bind, this, hyb]
    | some z =>
      obtain ⟨kz, ez⟩ := opt z cap m (by simp) hm
      have hzb := bound_run (P := P) (code := .slice3Acap) ez (by omega) h3 w
      cases hi with
      | none => simp at hmx
      | some y =>
        obtain ⟨ky, ey⟩ := opt y len h (by simp) hh
        have hyb := bound_run (P := P) (y := m.toNat) (code := .slice3B) ey (by omega) (by omega) w
        cases lo with
        | none => simp [optI] at hl; subst hl; simp [Instr.sliceBounds, Sem.run_bind, hyb, hzb]
        | some x =>
          obtain ⟨k, e⟩ := opt x 0 l (by simp) hl
          have := bound_run (P := P) (y := h.toNat) (code := .slice3C) e h0 (by omega) w
          simp [Instr.sliceBounds, Sem.run_bind, this, hyb, hzb]
  simp only [Instr.sliceAt, Sem.run_bind, run_underlying hu, Result.andThen_ok, Instr.slice, hb, hS', Sem.run_pure]
  have : (m.toNat = l.toNat) = (m = l) := by simp; omega
  simp [this]

theorem does_slice {t : TypeId} {x : Operand} {lo hi mx : Option Operand} {n sz i len cap : Nat} {et : TypeId} {l h m : Int} (ho : o.op = .slice t x lo hi mx) (hx : ev a x = .s n sz i len cap) (hE : tE P t = some et) (hS : tS P et = some sz)
    (hl : optI a 0 lo = some l) (hh : optI a len hi = some h) (hm : optI a cap mx = some m) (h0 : 0 ≤ l) (h1 : l ≤ h) (h2 : h ≤ m) (h3 : m ≤ cap) (hmx : mx.isSome = true → hi.isSome = true)
    (hK : K (.s n sz (i + l.toNat) (h.toNat - l.toNat) (m.toNat - l.toNat)) H) : Does P o a H K :=
  Does.val (fun c => by simp [ho]) hK fun F w act hv hs => by
    have h4 := hv.ev x
    rw [hx] at h4
    obtain ⟨oo, e1, h5, h6, h7⟩ := h4.s_inv
    have hr := slice_run hE hS (fun x hx => hv.ev x (by rcases hx with hx | hx | hx <;> simp_all [Op.operands])) (ad := some ⟨n, oo, none⟩) (len := len) (cap := cap) hl hh hm h0 h1 h2 h3 h6 hmx w
    refine ⟨_, by simp only [execOp, ho, e1, Sem.run_bind, hr, Result.andThen_ok, Sem.run_pure]; rfl, ?_⟩
    by_cases hml : m = l
    · rw [if_pos hml]
      refine .s _ _ _ _ _ oo (fun hc => ?_) (by omega) (by omega)
      rcases hc with hc | hc
      · omega
      · have h8 := h5 (.inr (by omega))
        have h9 : i + l.toNat = 0 := hc
        have h10 : i = 0 := by omega
        rw [h9, h8, h10]
    · rw [if_neg hml]
      simp only [Option.map_some, addr_add]
      exact .s _ _ _ _ _ _ (fun hc => by rw [h5 (.inl (by omega)), Nat.add_mul]) (by omega) (by omega)

theorem at2_drop {α : Type} (L : List (List α)) (d i j : Nat) : at2 (L.drop d) i j = at2 L (d + i) j := by simp [at2]
theorem at2_take {α : Type} {L : List (List α)} {d i j : Nat} {y : α} (h : at2 (L.take d) i j = some y) : at2 L i j = some y ∧ i < d := by
  obtain ⟨e, he, hj⟩ := at2_some.1 h
  rw [List.getElem?_take] at he
  split at he
  · exact ⟨at2_some.2 ⟨e, he, hj⟩, by assumption⟩
  · cases he

theorem does_slice_l {t : TypeId} {x : Operand} {lo hi mx : Option Operand} {sz : Nat} {rows : List (List AV)} {et : TypeId} {l h : Int} (ho : o.op = .slice t x lo hi mx) (hx : ev a x = .l sz rows) (hE : tE P t = some et) (hS : tS P et = some sz)
    (hl : optI a 0 lo = some l) (hh : optI a rows.length hi = some h) (hm : mx = none ∨ optI a 0 mx = some h ∧ hi.isSome = true) (h0 : 0 ≤ l) (h1 : l ≤ h) (h2 : h ≤ rows.length)
    (hK : K (.l sz ((rows.drop l.toNat).take (h.toNat - l.toNat))) H) : Does P o a H K :=
  Does.val (fun c => by simp [ho]) hK fun F w act hv hs => by
    have h4 := hv.ev x
    rw [hx] at h4
    obtain ⟨ad, cap, u, e1, h5, h6, h7, h8, h9, h10⟩ := h4.l_inv
    obtain ⟨m, hm', hmh, hmc⟩ : ∃ m : Int, optI a cap mx = some m ∧ h ≤ m ∧ m ≤ cap := by
      rcases hm with rfl | ⟨hm, _⟩
      · exact ⟨cap, rfl, by omega, Int.le_refl _⟩
      · cases mx with
        | none => exact ⟨cap, rfl, by omega, Int.le_refl _⟩
        | some z => exact ⟨h, hm, Int.le_refl _, by omega⟩
    have hr := slice_run hE hS (fun x hx => hv.ev x (by rcases hx with hx | hx | hx <;> simp_all [Op.operands])) (ad := ad) (len := rows.length) (cap := cap) hl hh hm' h0 h1 hmh hmc h5 (fun hx => by rcases hm with rfl | ⟨_, hm⟩ <;> simp_all) w
    have hlen : ((rows.drop l.toNat).take (h.toNat - l.toNat)).length = h.toNat - l.toNat := by simp; omega
    have hat : ∀ (i j : Nat) (y : AV), at2 ((rows.drop l.toNat).take (h.toNat - l.toNat)) i j = some y → at2 rows (l.toNat + i) j = some y := fun i j y hy => by
      have := (at2_take hy).1; rwa [at2_drop] at this
    refine ⟨_, by simp only [execOp, ho, e1, Sem.run_bind, hr, Result.andThen_ok, Sem.run_pure]; rfl, ?_⟩
    refine .l sz _ _ _ _ (fun i j => u (l.toNat + i) j) hlen.symm (by omega) (by omega) ?_ (fun e he => h8 e (List.mem_of_mem_drop (List.mem_of_mem_take he))) (fun i j y hy => (h9 _ j y (hat i j y hy)).1) (fun i j y hy => (h9 _ j y (hat i j y hy)).2) ?_
    · intro hn
      split at hn
      · omega
      · cases ad with
        | none => have := h7 rfl; omega
        | some ad => simp at hn
    · intro ad' had hc
      rw [hlen] at hc
      by_cases hml : m = l
      · omega
      · rw [if_neg hml] at had
        cases ad with
        | none => simp at had
        | some ad =>
          obtain ⟨b, oo, sp⟩ := ad
          obtain ⟨hsp, h11⟩ := h10 _ rfl (by omega)
          simp only at hsp
          subst hsp
          simp only [Option.map_some, Option.some.injEq, addr_add] at had
          subst had
          refine ⟨rfl, fun i j y hy => ?_⟩
          have := h11 _ j y (hat i j y hy)
          rw [← this]
          simp only [Nat.add_mul]
          congr 1; omega

theorem builtin_run {b : Builtin} {xs : Array Operand} {ts : Array TypeId} (ho : o.op = .call { callee := .builtin b, args := xs, argTypes := ts }) (act : Act) :
    ∃ cs, execOp act.eval o = builtin b ts o.type cs (xs.map act.eval) := by
  simp only [execOp, ho, resolve, invoke]
  exact ⟨_, rfl⟩

def lenV : AV → Option Nat
  | .s _ _ _ len _ => some len
  | .l _ rows => some rows.length
  | .c (.slice _ len _) => some len
  | _ => none
theorem does_len {x : Operand} {t et : TypeId} {n : Nat} (ho : o.op = .call { callee := .builtin .len, args := #[x], argTypes := #[t] }) (hE : tE P t = some et) (hx : lenV (ev a x) = some n) (h : K (.c (.int .i64 n)) H) : Does P o a H K :=
  Does.val (fun c => by simp [ho]) h fun F w act hv hs => ⟨.int .i64 n, by
    have hu := tE_eq hE
    have h1 := hv.ev x
    have : ∃ ad cap, act.eval x = .slice ad n cap := by
      generalize ev a x = r at h1 hx
      generalize act.eval x = v at h1
      cases h1 <;> simp [lenV] at hx
      · cases v <;> simp at hx
        subst hx; exact ⟨_, _, rfl⟩
      · subst hx; exact ⟨_, _, rfl⟩
      · subst hx; rename_i h0 _ _ _ _ _ _ _; subst h0; exact ⟨_, _, rfl⟩
    obtain ⟨ad, cap, e⟩ := this
    obtain ⟨cs, ecs⟩ := builtin_run ho act
    rw [ecs]
    simp [builtin, Builtin.len_, e, Sem.run_bind, run_underlying hu, goInt], .c _⟩

theorem does_max {x y : Operand} {ts : Array TypeId} {k k' : IntKind} {m n : Int} (ho : o.op = .call { callee := .builtin .max, args := #[x, y], argTypes := ts }) (hx : ev a x = .c (.int k m)) (hy : ev a y = .c (.int k' n)) (h : K (.c (.int k (if m < n then n else m))) H) : Does P o a H K :=
  Does.val (fun c => by simp [ho]) h fun F w act hv hs => ⟨_, by
    obtain ⟨cs, ecs⟩ := builtin_run ho act
    rw [ecs]
    simp [builtin, Builtin.max_, Builtin.max2, hv.c hx, hv.c hy, Sem.run_bind], .c _⟩
theorem does_min {x y : Operand} {ts : Array TypeId} {k k' : IntKind} {m n : Int} (ho : o.op = .call { callee := .builtin .min, args := #[x, y], argTypes := ts }) (hx : ev a x = .c (.int k m)) (hy : ev a y = .c (.int k' n)) (h : K (.c (.int k (if n < m then n else m))) H) : Does P o a H K :=
  Does.val (fun c => by simp [ho]) h fun F w act hv hs => ⟨_, by
    obtain ⟨cs, ecs⟩ := builtin_run ho act
    rw [ecs]
    simp [builtin, Builtin.min_, Builtin.min2, hv.c hx, hv.c hy, Sem.run_bind], .c _⟩
end
end Go.Proofs.Ytlbdpnlmdcajbaa

/- Slices that are built and grown. -/
namespace Go.Proofs.Ytlbdpnlmdcajbaa
open Go.RowKit
set_option linter.unusedVariables false
set_option linter.unusedSimpArgs false
set_option linter.constructorNameAsVariable false

def del (H : Heap) (n : Nat) : Heap := fun m => if m = n then none else H m
theorem del_same (H : Heap) (n : Nat) : del H n n = none := by simp [del]
theorem del_ne {H : Heap} {n m : Nat} (h : m ≠ n) : del H n m = H m := by simp [del, h]
theorem del_upd_same {H : Heap} {n : Nat} {k : Blk} (h : H n = none) : del (upd H n k) n = H := by
  funext m; unfold del upd; by_cases e : m = n
  · subst e; simp [h]
  · simp [e]
theorem del_upd_ne {H : Heap} {n m : Nat} {k : Blk} (h : n ≠ m) : del (upd H n k) m = upd (del H m) n k := by
  funext i; unfold del upd; by_cases e : i = n
  · subst e; simp [h]
  · simp [e]
theorem del_none {H : Heap} {n : Nat} (h : H n = none) : del H n = H := by
  funext m; unfold del; by_cases e : m = n
  · subst e; simp [h]
  · simp [e]
theorem upd_del (H : Heap) (n : Nat) (k : Blk) : upd (del H n) n k = upd H n k := by
  funext m; unfold del upd; by_cases e : m = n <;> simp [e]
theorem del_le (H : Heap) (n : Nat) : Heap.le (del H n) H := fun m k h => by
  unfold del at h; split at h
  · cases h
  · exact h

def fillR (sz : Nat) (rows : List (List AV)) : List (Nat × AV) → Option (List (List AV))
  | [] => some rows
  | (i, v) :: rest =>
    match v.cs with
    | some ys => if ys.length = sz ∧ i < rows.length then fillR sz (rows.set i ys) rest else none
    | none => none

theorem fillR_ok {F : Mem} {a : Nat → AV} {act : Act} {sz : Nat} : ∀ (parts : List (Nat × Operand)) (rows : List (List AV)) (C : Array Value) (r : List (List AV)), (∀ p ∈ parts, V F (ev a p.2) (act.eval p.2)) → RowOk F C sz rows → C.size = rows.length * sz →
    fillR sz rows (parts.map fun p => (p.1, ev a p.2)) = some r → ∃ D, Instr.fill (fun i => some (i * sz, sz)) C (parts.map fun p => (p.1, act.eval p.2)) = some D ∧ RowOk F D sz r ∧ D.size = C.size ∧ r.length = rows.length
  | [], rows, C, r, hv, h, hs, e => by simp [fillR] at e; subst e; exact ⟨C, rfl, h, rfl, rfl⟩
  | (i, x) :: rest, rows, C, r, hv, h, hs, e => by
    simp only [List.map_cons, fillR] at e
    cases hx : (ev a x).cs with
    | none => simp [hx] at e
    | some ys =>
      simp only [hx] at e
      split at e
      · rename_i hc
        obtain ⟨hc1, hc2⟩ := hc
        obtain ⟨g1, g2, g3⟩ := AV.cs_ok hx (hv (i, x) (by simp))
        have hsz : (act.eval x).cells.size = sz := by rw [← hc1, g1.1]; simp
        have hfit : i * sz + (act.eval x).cells.size ≤ C.size := by
          have : (i + 1) * sz ≤ rows.length * sz := Nat.mul_le_mul_right _ hc2
          rw [Nat.add_mul] at this; omega
        have he : rows[i]? = some rows[i] := List.getElem?_eq_getElem hc2
        have hel : rows[i].length = sz := h.len _ (List.getElem_mem hc2)
        have h2 := h.set1 (by omega) (j := 0) he g1 g2 (by omega)
        have e1 : rows[i].take 0 ++ ys ++ rows[i].drop (0 + ys.length) = ys := by simp [hc1, ← hel]
        rw [e1, Nat.add_zero] at h2
        obtain ⟨D, d1, d2, d3, d4⟩ := fillR_ok rest (rows.set i ys) (splice C (i * sz) (act.eval x).cells.toList) r (fun p hp => hv p (by simp [hp])) h2 (by rw [splice_size (by simpa using hfit), List.length_set]; exact hs) e
        refine ⟨D, ?_, d2, by rw [d3, splice_size (by simpa using hfit)], by rw [d4, List.length_set]⟩
        simp only [List.map_cons, Instr.fill, hsz]
        rw [if_neg (by simp; omega)]
        have hff := foldl_fill (act.eval x) (i * sz) C hfit
        rw [← d1, ← hff]
      · cases e

theorem zeros_get (zs : Array Value) (n i j : Nat) (hi : i < n) (hj : j < zs.size) : ((Array.range (n * zs.size)).map (zs[· % zs.size]!)).getD (i * zs.size + j) undef = zs.getD j undef := by
  have hlt := flat_lt hi hj
  rw [Array.getD_eq_getD_getElem?, Array.getElem?_map, Array.getElem?_range, if_pos hlt]
  simp only [Option.map_some, Option.getD_some]
  rw [Nat.mul_comm, Nat.mul_add_mod, Nat.mod_eq_of_lt hj]
  simp [hj]

theorem zeros_ok {F : Mem} (zs : Array Value) (n : Nat) (h1 : zs.toList.all (·.oneCell') = true) : RowOk F ((Array.range (n * zs.size)).map (zs[· % zs.size]!)) zs.size (List.replicate n (zs.toList.map .c)) := by
  have key : ∀ (i j : Nat) (y : AV), at2 (List.replicate n (zs.toList.map .c)) i j = some y → i < n ∧ ∃ hj : j < zs.size, y = .c zs[j] := by
    intro i j y hy
    obtain ⟨e, he, hj⟩ := at2_some.1 hy
    rw [List.getElem?_replicate] at he
    split at he
    · rename_i hi
      cases he
      rw [List.getElem?_map] at hj
      cases hz : zs.toList[j]? with
      | none => simp [hz] at hj
      | some z =>
        simp [hz] at hj
        have hlt := (List.getElem?_eq_some_iff.1 hz).1
        refine ⟨hi, by simpa using hlt, ?_⟩
        rw [← hj]
        have := (List.getElem?_eq_some_iff.1 hz).2
        simp at this; rw [← this]
    · cases he
  refine ⟨fun e he => by rw [List.eq_of_mem_replicate he]; simp, fun i j y hy => ?_, fun i j y hy => ?_⟩
  · obtain ⟨hi, hj, rfl⟩ := key i j y hy
    exact List.all_eq_true.1 h1 _ (by simp)
  · obtain ⟨hi, hj, rfl⟩ := key i j y hy
    rw [zeros_get zs n i j hi hj]
    simp [Array.getD, hj]
    exact .c _

section
variable {P : Program} {o : Oper} {a : Nat → AV} {H : Heap} {K : AV → Heap → Prop}

theorem does_buildSlice {t et : TypeId} {len : Nat} {parts : Array (Nat × Operand)} {zs : List Value} {sz : Nat} {r : List (List AV)} (ho : o.op = .buildSlice t len parts) (hE : tE P t = some et) (hS : tS P et = some sz) (hz : tZ P et = some zs) (hzl : zs.length = sz) (hp : 0 < sz) (hlen : len * sz ≤ 16777216) (h1 : zs.all (·.oneCell') = true)
    (hr : fillR sz (List.replicate len (zs.map .c)) (parts.toList.map fun p => (p.1, ev a p.2)) = some r) (h : ∀ n, H n = none → K (.s n sz 0 len len) (upd H n (.r et sz len r))) : Does P o a H K :=
  Does.ran (fun c => by simp [ho]) fun F w act hv hs => by
    obtain ⟨z, z1, z2⟩ := run_tZ hz w
    have hu := tE_eq hE
    have hS' := run_tS (P := P) hS
    have hzs : z.cells.size = sz := by rw [← hzl, ← z2]; simp
    have h0 := zeros_ok (F := F) z.cells len (by rw [z2]; exact h1)
    rw [z2, hzs] at h0
    obtain ⟨D, d1, d2, d3, d4⟩ := fillR_ok parts.toList _ _ r (fun p hp => hv.ev p.2 (by simp only [ho, Op.operands, List.toList_toArray]; exact List.mem_map.2 ⟨p, hp, rfl⟩)) h0 (by simp) hr
    have hlen' : len ≤ maxLen := by
      have : len * 1 ≤ len * sz := Nat.mul_le_mul_left _ hp
      simp [maxLen]; omega
    refine ⟨.slice (some ⟨w.heap.size, 0, none⟩) len len, w.alloc (.cells D et), F, _, .s w.heap.size sz 0 len len, ?_, ?_, ?_, Ext.alloc H w _ _, h _ (hs.fresh (Nat.le_refl _))⟩
    · have e : (parts.map fun (i, x) => (i, act.eval x)).toList = parts.toList.map fun p => (p.1, act.eval p.2) := by simp
      rw [show execOp act.eval o = (do pure (.value (← Instr.buildSlice t len (parts.map fun (i, x) => (i, act.eval x))))) by simp [execOp, ho]]
      have hng : ¬ len * sz > 2 ^ 24 := by simp; omega
      by_cases hc : len * sz = 0
      · have e0 : (Array.range (len * sz)).map (z.cells[· % sz]!) = #[] := by rw [hc]; simp
        have e0' : ∀ f : Nat → Value, (Array.range (len * sz)).map f = #[] := fun f => by rw [hc]; simp
        rw [e0] at d1
        simp only [Instr.buildSlice, Sem.run_bind, run_underlying hu, hS', Result.andThen_ok, hng, if_false, e, if_pos hc, Sem.run_pure, e0', d1]
        simp [newRow, Sem.run_bind]
      · simp only [Instr.buildSlice, Sem.run_bind, run_underlying hu, hS', Result.andThen_ok, hng, if_false, e, if_neg hc, Sem.run_pure, z1, hzs, d1]
        simp [newRow, Sem.run_bind]
    · exact .s _ _ _ _ _ _ (fun _ => by simp) (Nat.le_refl _) hlen'
    · refine hs.alloc _ _ ⟨D, heap_alloc_new w _, by rw [d3]; simp, by rw [d4]; simp, hlen', hp, d2⟩

def OwnL0 (H : Heap) (x : AV) (ty : TypeId) (sz : Nat) (rows : List (List AV)) (H0 : Heap) : Prop :=
  (x = .c (.slice none 0 0) ∧ rows = [] ∧ H0 = H) ∨ ∃ n cap, x = .s n sz 0 rows.length cap ∧ H n = some (.r ty sz cap rows) ∧ H0 = del H n
def OwnL (H : Heap) (x : AV) (ty : TypeId) (sz : Nat) (rows : List (List AV)) (H0 : Heap) : Prop :=
  ((∃ ad, x = .c (.slice ad 0 0)) ∧ rows = [] ∧ H0 = H) ∨ ∃ n cap, x = .s n sz 0 rows.length cap ∧ H n = some (.r ty sz cap rows) ∧ H0 = del H n
theorem OwnL0.own {H H0 : Heap} {x : AV} {ty : TypeId} {sz : Nat} {rows : List (List AV)} (h : OwnL0 H x ty sz rows H0) : OwnL H x ty sz rows H0 := by
  rcases h with ⟨h1, h2, h3⟩ | h
  · exact .inl ⟨⟨_, h1⟩, h2, h3⟩
  · exact .inr h
theorem OwnL0.nil (H : Heap) (ty : TypeId) (sz : Nat) : OwnL0 H (.c (.slice none 0 0)) ty sz [] H := .inl ⟨rfl, rfl, rfl⟩
theorem OwnL.nil (H : Heap) (ty : TypeId) (sz : Nat) : OwnL H (.c (.slice none 0 0)) ty sz [] H := .inl ⟨⟨_, rfl⟩, rfl, rfl⟩
theorem OwnL.get {H H0 : Heap} {x : AV} {ty : TypeId} {sz : Nat} {rows : List (List AV)} (h : OwnL H x ty sz rows H0) {m : Nat} {k : Blk} (hm : H0 m = some k) : H m = some k := by
  rcases h with ⟨_, _, rfl⟩ | ⟨n, cap, _, _, rfl⟩
  · exact hm
  · exact del_le H n m k hm

structure Src (F : Mem) (w : World) (v : Value) (sz : Nat) (news : List (List AV)) : Prop where
  ex : ∃ (ad : Option Addr) (c : Nat) (vs : List Value), v = .slice ad news.length c ∧ news.length ≤ c ∧ (ad = none → c = 0) ∧ vs.length = news.length * sz ∧ (∀ u ∈ vs, u.oneCell' = true) ∧
    (∀ a, ad = some a → ∀ j u, vs[j]? = some u → w.cell? (a.add j) = some u) ∧ ∀ (i j : Nat) (y : AV), at2 news i j = some y → y.one = true ∧ V F y (vs.getD (i * sz + j) undef)
  len : ∀ e ∈ news, e.length = sz

theorem flat_vals {F : Mem} {sz : Nat} : ∀ (news : List (List AV)) (u : Nat → Nat → Value), (∀ e ∈ news, e.length = sz) → (∀ (i j : Nat) (y : AV), at2 news i j = some y → y.one = true ∧ V F y (u i j)) →
    ∃ vs : List Value, vs.length = news.length * sz ∧ (∀ x ∈ vs, x.oneCell' = true) ∧ ∀ i j, i < news.length → j < sz → vs[i * sz + j]? = some (u i j)
  | [], u, _, _ => ⟨[], by simp, by simp, fun i j hi => by simp at hi⟩
  | e :: news, u, hl, hv => by
    obtain ⟨vs, h1, h2, h3⟩ := flat_vals news (fun i j => u (i + 1) j) (fun e' he' => hl e' (by simp [he'])) (fun i j y hy => hv (i + 1) j y (by simpa [at2] using hy))
    have he : e.length = sz := hl e (by simp)
    refine ⟨(List.range sz).map (u 0) ++ vs, by simp [h1, Nat.add_mul]; omega, ?_, ?_⟩
    · intro x hx
      rcases List.mem_append.1 hx with hx | hx
      · obtain ⟨j, hj, rfl⟩ := List.mem_map.1 hx
        have hj' : j < e.length := by rw [he]; simpa using hj
        have := hv 0 j e[j] (by simp [at2, List.getElem?_eq_getElem hj'])
        exact this.2.one this.1
      · exact h2 x hx
    · intro i j hi hj
      cases i with
      | zero => rw [Nat.zero_mul, Nat.zero_add, List.getElem?_append_left (by simpa using hj)]; simp [hj]
      | succ i =>
        rw [List.getElem?_append_right (by simp [Nat.add_mul]; omega)]
        have := h3 i j (by simpa using hi) hj
        rw [← this]; congr 1; simp [Nat.add_mul]; omega

theorem Sat.src {F : Mem} {w : World} (hs : Sat F H w) {m sz i len cap : Nat} {ty : TypeId} {cap0 : Nat} {rows : List (List AV)} (hm : H m = some (.r ty sz cap0 rows)) (hl : i + len ≤ rows.length) {v : Value} (hv : V F (.s m sz i len cap) v) : Src F w v sz ((rows.drop i).take len) := by
  obtain ⟨C, c1, c2, c3, c4, c5, c6⟩ := hs.blk m _ hm
  obtain ⟨oo, rfl, h1, h2, h3⟩ := hv.s_inv
  have hlen : ((rows.drop i).take len).length = len := by simp; omega
  have hat : ∀ (i' j : Nat) (y : AV), at2 ((rows.drop i).take len) i' j = some y → at2 rows (i + i') j = some y := fun i' j y hy => by
    have := (at2_take hy).1; rwa [at2_drop] at this
  have hle : ∀ e ∈ (rows.drop i).take len, e.length = sz := fun e he => c6.len e (List.mem_of_mem_drop (List.mem_of_mem_take he))
  obtain ⟨vs, v1, v2, v3⟩ := flat_vals ((rows.drop i).take len) (fun i' j => C.getD ((i + i') * sz + j) undef) hle (fun i' j y hy => ⟨c6.one _ j y (hat i' j y hy), c6.val _ j y (hat i' j y hy)⟩)
  refine ⟨⟨some ⟨m, oo, none⟩, cap, vs, by rw [hlen], by rw [hlen]; exact h2, (fun h => by cases h), v1, v2, ?_, ?_⟩, hle⟩
  · intro a ha j u hu
    cases ha
    have hj : j < len * sz := by have := (List.getElem?_eq_some_iff.1 hu).1; rw [v1, hlen] at this; exact this
    have hq : j / sz < len := Nat.div_lt_of_lt_mul (by rw [Nat.mul_comm]; exact hj)
    have hr : j % sz < sz := Nat.mod_lt _ c5
    have hjj : j = j / sz * sz + j % sz := by rw [Nat.mul_comm]; exact (Nat.div_add_mod j sz).symm
    have := v3 (j / sz) (j % sz) (by rw [hlen]; exact hq) hr
    rw [← hjj, hu] at this
    cases this
    rw [addr_add, cell_of_row w m _ C ty (0, 0) c1, h1 (.inl (Nat.lt_of_lt_of_le (Nat.lt_of_le_of_lt (Nat.zero_le _) hq) h2))]
    have hidx : i * sz + j = (i + j / sz) * sz + j % sz := by rw [Nat.add_mul]; omega
    rw [hidx]
    have : (i + j / sz) * sz + j % sz < C.size := by
      rw [c2]; exact flat_lt (Nat.lt_of_lt_of_le (Nat.add_lt_add_left hq i) (Nat.le_trans hl c3)) hr
    simp [Array.getD, this]
  · intro i' j y hy
    have hb := at2_some.1 hy
    obtain ⟨e, he, hj⟩ := hb
    have hi' : i' < ((rows.drop i).take len).length := (List.getElem?_eq_some_iff.1 he).1
    have hj' : j < sz := by have := hle e (List.mem_of_getElem? he); rw [← this]; exact (List.getElem?_eq_some_iff.1 hj).1
    refine ⟨c6.one _ j y (hat i' j y hy), ?_⟩
    rw [List.getD_eq_getElem?_getD, v3 i' j hi' hj']
    exact c6.val _ j y (hat i' j y hy)

theorem V.src {F : Mem} {w : World} (hs : Sat F H w) {sz : Nat} {rows : List (List AV)} {v : Value} (hp : 0 < sz) (hv : V F (.l sz rows) v) : Src F w v sz rows := by
  obtain ⟨ad, cap, u, rfl, h1, h2, h3, h4, h5, h6⟩ := hv.l_inv
  obtain ⟨vs, v1, v2, v3⟩ := flat_vals rows u h4 h5
  refine ⟨⟨ad, cap, vs, rfl, h1, h3, v1, v2, ?_, ?_⟩, h4⟩
  · intro a ha j x hx
    have hj : j < rows.length * sz := by have := (List.getElem?_eq_some_iff.1 hx).1; rwa [v1] at this
    have hq : j / sz < rows.length := Nat.div_lt_of_lt_mul (by rw [Nat.mul_comm]; exact hj)
    have hr : j % sz < sz := Nat.mod_lt _ hp
    have hjj : j = j / sz * sz + j % sz := by rw [Nat.mul_comm]; exact (Nat.div_add_mod j sz).symm
    have := v3 (j / sz) (j % sz) hq hr
    rw [← hjj, hx] at this
    cases this
    obtain ⟨hsp, h7⟩ := h6 a ha (Nat.lt_of_le_of_lt (Nat.zero_le _) hq)
    obtain ⟨b, oo, sp⟩ := a
    simp only at hsp; subst hsp
    have he : rows[j / sz]? = some rows[j / sz] := List.getElem?_eq_getElem hq
    have hel : rows[j / sz].length = sz := h4 _ (List.getElem_mem hq)
    have hy : at2 rows (j / sz) (j % sz) = some (rows[j / sz][j % sz]'(by omega)) := at2_some.2 ⟨_, he, List.getElem?_eq_getElem (by omega)⟩
    have := hs.mem _ _ _ (h7 _ _ _ hy)
    rw [addr_add, ← this]
    congr 2; simp only; omega
  · intro i j y hy
    obtain ⟨e, he, hj⟩ := at2_some.1 hy
    refine ⟨(h5 i j y hy).1, ?_⟩
    rw [List.getD_eq_getElem?_getD, v3 i j (List.getElem?_eq_some_iff.1 he).1 (by rw [← h4 e (List.mem_of_getElem? he)]; exact (List.getElem?_eq_some_iff.1 hj).1)]
    exact (h5 i j y hy).2
end
end Go.Proofs.Ytlbdpnlmdcajbaa

/- append. -/
namespace Go.Proofs.Ytlbdpnlmdcajbaa
open Go.RowKit
set_option linter.unusedVariables false
set_option linter.unusedSimpArgs false
set_option linter.constructorNameAsVariable false

def tB (P : Program) (t : TypeId) : Option Nat := (P.info? t).map (·.bytes)

theorem rows_app {F : Mem} {sz : Nat} {rows news : List (List AV)} {C : Array Value} {vs : List Value} (h : RowOk F C sz rows) (hC : rows.length * sz ≤ C.size) (hn : ∀ e ∈ news, e.length = sz) (hvl : vs.length = news.length * sz) (hv : ∀ (i j : Nat) (y : AV), at2 news i j = some y → y.one = true ∧ V F y (vs.getD (i * sz + j) undef))
    {D : Array Value} (hD : D.toList.take ((rows.length + news.length) * sz) = C.toList.take (rows.length * sz) ++ vs) : RowOk F D sz (rows ++ news) := by
  have get : ∀ m, m < (rows.length + news.length) * sz → D.getD m undef = (C.toList.take (rows.length * sz) ++ vs).getD m undef := by
    intro m hm
    rw [← hD, arr_getD, List.getD_eq_getElem?_getD, List.getD_eq_getElem?_getD, List.getElem?_take, if_pos hm]
  have hlt : (C.toList.take (rows.length * sz)).length = rows.length * sz := by simp; omega
  have key : ∀ (i j : Nat) (y : AV), at2 (rows ++ news) i j = some y → (at2 rows i j = some y ∧ i < rows.length ∧ j < sz) ∨ (rows.length ≤ i ∧ at2 news (i - rows.length) j = some y ∧ i - rows.length < news.length ∧ j < sz) := by
    intro i j y hy
    obtain ⟨e, he, hj⟩ := at2_some.1 hy
    by_cases hi : i < rows.length
    · rw [List.getElem?_append_left hi] at he
      refine .inl ⟨at2_some.2 ⟨e, he, hj⟩, hi, ?_⟩
      rw [← h.len e (List.mem_of_getElem? he)]; exact (List.getElem?_eq_some_iff.1 hj).1
    · rw [List.getElem?_append_right (by omega)] at he
      refine .inr ⟨by omega, at2_some.2 ⟨e, he, hj⟩, (List.getElem?_eq_some_iff.1 he).1, ?_⟩
      rw [← hn e (List.mem_of_getElem? he)]; exact (List.getElem?_eq_some_iff.1 hj).1
  refine ⟨fun e he => ?_, fun i j y hy => ?_, fun i j y hy => ?_⟩
  · rcases List.mem_append.1 he with he | he
    · exact h.len e he
    · exact hn e he
  · rcases key i j y hy with ⟨h1, _⟩ | ⟨_, h1, _⟩
    · exact h.one i j y h1
    · exact (hv _ j y h1).1
  · rcases key i j y hy with ⟨h1, h2, h3⟩ | ⟨h0, h1, h2, h3⟩
    · have hm := flat_lt h2 h3
      have hm2 : i * sz + j < (rows.length + news.length) * sz := by rw [Nat.add_mul]; omega
      rw [get _ hm2, List.getD_eq_getElem?_getD, List.getElem?_append_left (by omega), List.getElem?_take, if_pos hm, ← List.getD_eq_getElem?_getD, ← arr_getD]
      exact h.val i j y h1
    · obtain ⟨d, rfl⟩ : ∃ d, i = rows.length + d := ⟨i - rows.length, by omega⟩
      rw [show rows.length + d - rows.length = d by omega] at h1 h2
      have hm := flat_lt h2 h3
      have hm2 : (rows.length + d) * sz + j < (rows.length + news.length) * sz := flat_lt (by omega) h3
      rw [get _ hm2, List.getD_eq_getElem?_getD, List.getElem?_append_right (by rw [hlt, Nat.add_mul]; omega), hlt, ← List.getD_eq_getElem?_getD, show (rows.length + d) * sz + j - rows.length * sz = d * sz + j by rw [Nat.add_mul]; omega]
      exact (hv d j y h1).2

theorem append_ok0 {P : Program} {F : Mem} {H H0 : Heap} {w : World} (hs : Sat F H w) {t ty : TypeId} {rt : TypeId} {sz by' : Nat} {zs : List Value} (hE : tE P t = some ty) (hS : tS P ty = some sz) (hB : tB P ty = some by') (hz : tZ P ty = some zs) (hzl : zs.length = sz) (hp : 0 < sz)
    {x : AV} {v : Value} {rows : List (List AV)} (hown : OwnL0 H x ty sz rows H0) (hv : V F x v) {vx : Value} {news : List (List AV)} (hsrc : Src F w vx sz news)
    (h63 : rows.length + news.length ≤ maxLen) (hbytes : (rows.length + news.length) * by' ≤ 140737488355328) :
    ∃ v' w' x' H', (Builtin.append_ #[t, t] rt #[v, vx]).run P w = .ok v' w' ∧ V F x' v' ∧ OwnL0 H' x' ty sz (rows ++ news) H0 ∧ Sat F H' w' ∧ Ext F H w F H' w' := by
  have hu := tE_eq hE
  obtain ⟨i, hi, hi1, hi2⟩ : ∃ i, P.info? ty = some i ∧ i.size = sz ∧ i.bytes = by' := by
    unfold tS at hS; unfold tB at hB
    cases hi : P.info? ty with
    | none => simp [hi] at hS
    | some i => simp [hi] at hS hB; exact ⟨i, rfl, hS, hB⟩
  obtain ⟨z, hzz, hzc⟩ : ∃ z, i.zero = some z ∧ z.cells.size = sz := by
    unfold tZ at hz
    simp [hi] at hz
    obtain ⟨z, hz1, hz2⟩ := hz
    exact ⟨z, hz1, by rw [← hzl, ← hz2]; simp⟩
  obtain ⟨ad, c, vs, rfl, s1, s2, s3, s4, s5, s6⟩ := hsrc.ex
  -- what is owned
  obtain ⟨C, hrow, hC, how⟩ : ∃ C : Array Value, RowOk F C sz rows ∧ rows.length * sz ≤ C.size ∧ w.ownsRow 0 ty sz v rows.length (C.toList.take (rows.length * sz)) := by
    rcases hown with ⟨rfl, rfl, rfl⟩ | ⟨n, cap, rfl, hn, rfl⟩
    · exact ⟨#[], ⟨by simp, fun i j y hy => by simp [at2] at hy, fun i j y hy => by simp [at2] at hy⟩, by simp, by simp, .inl ⟨hv.c_inv, rfl⟩⟩
    · obtain ⟨C, c1, c2, c3, c4, c5, c6⟩ := hs.blk n _ hn
      obtain ⟨oo, rfl, g1, g2, g3⟩ := hv.s_inv
      have hle : rows.length * sz ≤ C.size := by rw [c2]; exact Nat.mul_le_mul_right _ c3
      have := g1 (.inr rfl)
      rw [Nat.zero_mul] at this; subst this
      exact ⟨C, c6, hle, by simp; omega, .inr ⟨n, cap, C, rfl, Nat.zero_le _, c1, c3, c4, c2, rfl⟩⟩
  have hblk : ∀ n, v.ownBlock = some n → ∃ cap, x = .s n sz 0 rows.length cap ∧ H n = some (.r ty sz cap rows) ∧ H0 = del H n := by
    intro n hn
    rcases hown with ⟨rfl, _⟩ | ⟨m, cap, rfl, hm, rfl⟩
    · rw [hv.c_inv] at hn; cases hn
    · obtain ⟨oo, rfl, _⟩ := hv.s_inv
      cases hn
      exact ⟨cap, rfl, hm, rfl⟩
  obtain ⟨v', w', hr, how', hg, hnil, hat⟩ : ∃ v' w', (Builtin.append_ #[t, t] rt #[v, .slice ad news.length c]).run P w = .ok v' w' ∧ w'.ownsRow 0 ty sz v' (rows.length + news.length) (C.toList.take (rows.length * sz) ++ vs) ∧ w.grownBy w' v.ownBlock ∧
      (v' = .slice none 0 0 ↔ v = .slice none 0 0 ∧ news.length = 0) ∧ (v'.ownBlock = v.ownBlock ∨ v'.ownBlock = some w.heap.size) := by
    cases ad with
    | some ad =>
      obtain ⟨v', w', r1, r2, r3, r4, r5⟩ := run_append_own_at (P := P) w 0 t rt ty i z sz by' hu hi hzz hi1 hi2 hzc hp v rows.length _ how ad news.length c vs s3 (s5 ad rfl) s4 h63 hbytes (Nat.zero_le _)
      exact ⟨v', w', r1, r2, r3, r4, r5⟩
    | none =>
      have hc0 := s2 rfl
      have hn0 : news = [] := List.eq_nil_of_length_eq_zero (by omega)
      subst hn0
      subst hc0
      have hvs : vs = [] := List.eq_nil_of_length_eq_zero (by simpa using s3)
      subst hvs
      have hrun := run_append_owned_none (P := P) w 0 t rt ty i sz hu hi v rows.length _ how
      exact ⟨v, w, by simpa using hrun, by simpa using how, World.grownBy.refl _ _, by simp, .inl rfl⟩
  have hnv : ∀ n, v'.ownBlock = some n → n < w'.heap.size := fun n hn => (World.ownsRow.lt how' n hn).2
  rcases how'.2 with ⟨rfl, h0⟩ | ⟨g, cap', cur, rfl, -, hcur, hcap, hmax, hcsz, htake⟩
  · -- nothing there, nothing appended
    have hr0 : rows = [] := List.eq_nil_of_length_eq_zero (by omega)
    have hn0 : news = [] := List.eq_nil_of_length_eq_zero (by omega)
    subst hr0; subst hn0
    obtain ⟨rfl, _⟩ := hnil.1 rfl
    have hx : x = .c (.slice none 0 0) ∧ H0 = H := by
      rcases hown with ⟨rfl, _, rfl⟩ | ⟨n, cap, rfl, _⟩
      · exact ⟨rfl, rfl⟩
      · obtain ⟨oo, e, _⟩ := hv.s_inv; cases e
    obtain ⟨rfl, rfl⟩ := hx
    refine ⟨_, w', _, H0, hr, .c _, OwnL0.nil _ _ _, ?_, ?_⟩
    · refine ⟨fun b o' u hb => ?_, hs.off, fun n k hn => (hs.blk n k hn).heap (hg.block n (hs.lt hn) (by simp [Value.ownBlock]))⟩
      have := hs.mem b o' u hb
      rw [← this]; exact World.cell?_of_block (hg.block b (cell_lt this) (by simp [Value.ownBlock]))
    · exact ⟨hg.os, hg.tape, hg.output, hg.size, fun n hn _ => hg.block n hn (by simp [Value.ownBlock]), fun n k h => .inl (by rw [h]; simp), Mem.le.refl F, fun _ _ _ h => .inl h⟩
  · have hrow' := rows_app hrow hC hsrc.len s3 s6 htake
    have hg' : v.ownBlock = some g ∨ g = w.heap.size := by
      rcases hat with h | h
      · exact .inl (by rw [← h]; rfl)
      · right; simpa [Value.ownBlock] using h
    have hH0 : H0 g = none ∧ ∀ m k, H0 m = some k → H m = some k ∧ v.ownBlock ≠ some m := by
      rcases hown with ⟨rfl, rfl, rfl⟩ | ⟨n, cap, rfl, hn, rfl⟩
      · have e := hv.c_inv
        subst e
        rcases hg' with h | h
        · cases h
        · exact ⟨hs.fresh (by omega), fun m k hm => ⟨hm, by simp [Value.ownBlock]⟩⟩
      · obtain ⟨oo, e, _⟩ := hv.s_inv
        subst e
        refine ⟨?_, fun m k hm => ⟨del_le _ _ m k hm, fun e => ?_⟩⟩
        · rcases hg' with h | h
          · simp [Value.ownBlock] at h; subst h; exact del_same _ _
          · have := hs.lt hn
            rw [del_ne (by omega)]; exact hs.fresh (by omega)
        · simp [Value.ownBlock] at e; subst e; rw [del_same] at hm; cases hm
    have hnb : ∀ m, m < w.heap.size → H m = none → w'.heap[m]? = w.heap[m]? := fun m hm hH => hg.block m hm (fun e => by
      obtain ⟨cap, _, h2, _⟩ := hblk m e.symm
      rw [hH] at h2; cases h2)
    refine ⟨_, w', .s g sz 0 (rows ++ news).length cap', upd H0 g (.r ty sz cap' (rows ++ news)), hr, ?_, .inr ⟨g, cap', rfl, upd_same _ _ _, (del_upd_same hH0.1).symm⟩, ?_, ?_⟩
    · rw [List.length_append]
      exact .s _ _ _ _ _ _ (fun _ => by simp) hcap hmax
    · refine ⟨fun b o' u hb => ?_, fun b o' u k hb hk => ?_, fun n k hn => ?_⟩
      · have h1 := hs.mem b o' u hb
        have hHb : H b = none := by
          cases hk : H b with
          | none => rfl
          | some k => exact (hs.off b o' u k hb hk).elim
        rw [← h1]; exact World.cell?_of_block (hnb b (cell_lt h1) hHb)
      · by_cases e : b = g
        · subst e
          rcases hg' with h | h
          · obtain ⟨cap, _, h2, _⟩ := hblk b h
            exact hs.off b o' u _ hb h2
          · have := hs.memlt hb; omega
        · rw [upd_ne e] at hk
          exact hs.off b o' u k hb (hH0.2 b k hk).1
      · by_cases e : n = g
        · subst e
          rw [upd_same] at hn
          cases hn
          exact ⟨cur, hcur, hcsz, by rw [List.length_append]; exact hcap, hmax, hp, hrow'⟩
        · rw [upd_ne e] at hn
          obtain ⟨h1, h2⟩ := hH0.2 n k hn
          exact (hs.blk n k h1).heap (hg.block n (hs.lt h1) (Ne.symm h2))
    · refine ⟨hg.os, hg.tape, hg.output, hg.size, hnb, fun n k hn => ?_, Mem.le.refl F, fun _ _ _ h => .inl h⟩
      by_cases e : n = g
      · subst e
        rcases hg' with h | h
        · obtain ⟨cap, _, h2, _⟩ := hblk n h
          left; rw [h2]; simp
        · right; omega
      · rw [upd_ne e] at hn
        left; rw [(hH0.2 n k hn).1]; simp

theorem append_base0 {P : Program} {w : World} {t ty e : TypeId} {i : TypeInfo} {a : Addr} {x : Value} (ht : P.underlying t = some (.slice e)) (hi : P.info? e = some i) {ad : Option Addr} {n c : Nat} (hx : x = .slice ad n c) (hn : 0 < n) (h63 : n ≤ maxLen) (h48 : n * i.bytes ≤ 140737488355328) :
    (Builtin.append_ #[t, t] ty #[.slice (some a) 0 0, x]).run P w = (Builtin.append_ #[t, t] ty #[.slice none 0 0, x]).run P w := by
  subst hx
  have h1 : n ≠ 0 := by omega
  have h48' : ¬ (281474976710656 < Builtin.nextslicecap n 0 * i.bytes) := by rw [nextslicecap_zero hn]; omega
  simp [Builtin.append_, run_underlying ht, sizeOf, typeInfo, zeroValue, hi, Builtin.lenOf, h1, h48', Builtin.firstCells, loadCells, loadCellsFrom]
theorem append_ok {P : Program} {F : Mem} {H H0 : Heap} {w : World} (hs : Sat F H w) {t ty : TypeId} {rt : TypeId} {sz by' : Nat} {zs : List Value} (hE : tE P t = some ty) (hS : tS P ty = some sz) (hB : tB P ty = some by') (hz : tZ P ty = some zs) (hzl : zs.length = sz) (hp : 0 < sz)
    {x : AV} {v : Value} {rows : List (List AV)} (hown : OwnL H x ty sz rows H0) (hv : V F x v) {vx : Value} {news : List (List AV)} (hsrc : Src F w vx sz news)
    (h63 : rows.length + news.length ≤ maxLen) (hbytes : (rows.length + news.length) * by' ≤ 140737488355328) :
    ∃ v' w' x' H', (Builtin.append_ #[t, t] rt #[v, vx]).run P w = .ok v' w' ∧ V F x' v' ∧ OwnL H' x' ty sz (rows ++ news) H0 ∧ Sat F H' w' ∧ Ext F H w F H' w' := by
  have go : OwnL0 H x ty sz rows H0 → ∃ v' w' x' H', (Builtin.append_ #[t, t] rt #[v, vx]).run P w = .ok v' w' ∧ V F x' v' ∧ OwnL H' x' ty sz (rows ++ news) H0 ∧ Sat F H' w' ∧ Ext F H w F H' w' := fun h0 => by
    obtain ⟨v', w', x', H', h1, h2, h3, h4⟩ := append_ok0 (rt := rt) hs hE hS hB hz hzl hp h0 hv hsrc h63 hbytes
    exact ⟨v', w', x', H', h1, h2, h3.own, h4⟩
  rcases hown with ⟨⟨ad, rfl⟩, rfl, rfl⟩ | h
  · cases ad with
    | none => exact go (.inl ⟨rfl, rfl, rfl⟩)
    | some a =>
      cases hv.c_inv
      obtain ⟨i, hi, hi2⟩ : ∃ i, P.info? ty = some i ∧ i.bytes = by' := by
        unfold tB at hB
        cases hi : P.info? ty with
        | none => simp [hi] at hB
        | some i => simp [hi] at hB; exact ⟨i, rfl, hB⟩
      obtain ⟨ad2, c, vs, rfl, -⟩ := hsrc.ex
      by_cases hn : news = []
      · subst hn
        refine ⟨.slice (some a) 0 0, w, .c (.slice (some a) 0 0), H0, ?_, .c _, .inl ⟨⟨_, rfl⟩, rfl, rfl⟩, hs, Ext.refl _ _ _⟩
        simp [Builtin.append_, run_underlying (tE_eq hE), sizeOf, typeInfo, hi, Builtin.lenOf, Builtin.firstCells, loadCells, loadCellsFrom, storeCells]
        try (cases ad2 <;> simp [loadCells, loadCellsFrom, storeCells])
      · have hn0 : 0 < news.length := List.length_pos_iff.2 hn
        obtain ⟨v', w', x', H', h1, h2, h3, h4⟩ := append_ok0 (rt := rt) (v := .slice none 0 0) hs hE hS hB hz hzl hp (OwnL0.nil H0 ty sz) (.c _) hsrc h63 hbytes
        refine ⟨v', w', x', H', ?_, h2, h3.own, h4⟩
        rw [append_base0 (tE_eq hE) hi rfl hn0]
        · exact h1
        · simpa using h63
        · rw [hi2]; simpa using hbytes
  · exact go (.inr h)

section
variable {P : Program} {o : Oper} {a : Nat → AV} {H : Heap} {K : AV → Heap → Prop}

theorem does_append_l {x y : Operand} {t ty : TypeId} {sz by' : Nat} {zs : List Value} {rows news : List (List AV)} {H0 : Heap} (ho : o.op = .call { callee := .builtin .append, args := #[x, y], argTypes := #[t, t] })
    (hE : tE P t = some ty) (hS : tS P ty = some sz) (hB : tB P ty = some by') (hz : tZ P ty = some zs) (hzl : zs.length = sz) (hp : 0 < sz) (hown : OwnL H (ev a x) ty sz rows H0) (hy : ev a y = .l sz news)
    (h63 : rows.length + news.length ≤ maxLen) (hbytes : (rows.length + news.length) * by' ≤ 140737488355328) (h : ∀ x' H', OwnL H' x' ty sz (rows ++ news) H0 → K x' H') : Does P o a H K :=
  Does.ran (fun c => by simp [ho]) fun F w act hv hs => by
    have hvy := hv.ev y
    rw [hy] at hvy
    obtain ⟨v', w', x', H', r1, r2, r3, r4, r5⟩ := append_ok (rt := o.type) hs hE hS hB hz hzl hp hown (hv.ev x) (V.src hs hp hvy) h63 hbytes
    obtain ⟨cs, ecs⟩ := builtin_run ho act
    refine ⟨v', w', F, H', x', ?_, r2, r4, r5, h x' H' r3⟩
    rw [ecs]
    simp [builtin, Sem.run_bind, r1]

theorem does_append_s {x y : Operand} {t ty : TypeId} {sz by' : Nat} {zs : List Value} {rows rowsm : List (List AV)} {H0 : Heap} {m i len cap cap0 : Nat} {tm : TypeId} (ho : o.op = .call { callee := .builtin .append, args := #[x, y], argTypes := #[t, t] })
    (hE : tE P t = some ty) (hS : tS P ty = some sz) (hB : tB P ty = some by') (hz : tZ P ty = some zs) (hzl : zs.length = sz) (hp : 0 < sz) (hown : OwnL H (ev a x) ty sz rows H0) (hy : ev a y = .s m sz i len cap) (hm : H0 m = some (.r tm sz cap0 rowsm)) (hl : i + len ≤ rowsm.length)
    (h63 : rows.length + len ≤ maxLen) (hbytes : (rows.length + len) * by' ≤ 140737488355328) (h : ∀ x' H', OwnL H' x' ty sz (rows ++ (rowsm.drop i).take len) (del H0 m) → K x' H') : Does P o a H K :=
  Does.ran (fun c => by simp [ho]) fun F w act hv hs => by
    have hvy := hv.ev y
    rw [hy] at hvy
    have hsrc := hs.src (hown.get hm) hl hvy
    have hlen : ((rowsm.drop i).take len).length = len := by simp; omega
    obtain ⟨v', w', x', H', r1, r2, r3, r4, r5⟩ := append_ok (rt := o.type) hs hE hS hB hz hzl hp hown (hv.ev x) hsrc (by rw [hlen]; exact h63) (by rw [hlen]; exact hbytes)
    obtain ⟨cs, ecs⟩ := builtin_run ho act
    have hold : OwnL (del H' m) x' ty sz (rows ++ (rowsm.drop i).take len) (del H0 m) := by
      rcases r3 with ⟨e1, e2, rfl⟩ | ⟨n, cap', e1, e2, rfl⟩
      · exact .inl ⟨e1, e2, rfl⟩
      · have hne : n ≠ m := by rintro rfl; rw [del_same] at hm; cases hm
        refine .inr ⟨n, cap', e1, by rw [del_ne hne]; exact e2, ?_⟩
        funext q; simp only [del]; split <;> split <;> rfl
    refine ⟨v', w', F, del H' m, x', ?_, r2, r4.less (del_le _ _), ?_, h x' _ hold⟩
    · rw [ecs]; simp [builtin, Sem.run_bind, r1]
    · exact ⟨r5.os, r5.tape, r5.output, r5.size, r5.block, fun n k hn => r5.new n k (del_le _ _ n k hn), r5.le, r5.frz⟩
end
end Go.Proofs.Ytlbdpnlmdcajbaa

/- What an operation yields, reckoned; regions in the order of the text. -/
namespace Go.Proofs.Ytlbdpnlmdcajbaa
open Go.RowKit
set_option linter.unusedVariables false
set_option linter.unusedSimpArgs false
set_option linter.constructorNameAsVariable false

def by1 (n : Int) : List AV := [.c (.int .u8 n)]
theorem by1_len (n : Int) : (by1 n).length = 1 := rfl
section
variable {P : Program} {o : Oper} {a : Nat → AV} {H : Heap} {K : AV → Heap → Prop}
theorem src_by1 {F : Mem} {w : World} {v : Value} {xs : List Int} (h : Src F w v 1 (xs.map by1)) : ∃ ad c, v = .slice ad xs.length c ∧ (ad = none → xs = []) ∧ ∀ b, ad = some b → ∀ j n, xs[j]? = some n → w.cell? (b.add j) = some (.int .u8 n) := by
  obtain ⟨ad, c, vs, e1, h1, h2, h3, h4, h5, h6⟩ := h.ex
  rw [List.length_map] at e1 h1 h3
  refine ⟨ad, c, e1, fun hn => ?_, fun b hb j n hj => ?_⟩
  · have := h2 hn; exact List.eq_nil_of_length_eq_zero (by omega)
  · have hy : at2 (xs.map by1) j 0 = some (.c (.int .u8 n)) := by simp [at2, hj, by1]
    have := (h6 j 0 _ hy).2.c_inv
    have hjl := (List.getElem?_eq_some_iff.1 hj).1
    rw [Nat.mul_one, Nat.add_zero, List.getD_eq_getElem?_getD, List.getElem?_eq_getElem (by omega)] at this
    refine h5 b hb j _ ?_
    rw [List.getElem?_eq_getElem (by omega)]
    simpa using this
theorem run_b2s {w : World} {s d e : TypeId} {ad : Option Addr} {c : Nat} {xs : List Int} (hs : P.underlying s = some (.slice e)) (he : P.underlying e = some (.int .u8)) (hd : P.underlying d = some .string) (h0 : ad = none → xs = [])
    (h1 : ∀ b, ad = some b → ∀ j n, xs[j]? = some n → w.cell? (b.add j) = some (.int .u8 n)) : (convert s d (.slice ad xs.length c)).run P w = .ok (.string (strOfNums xs)) w := by
  cases ad with
  | none =>
    rw [run_convert_bytes_nil w s e hs he _ _ d hd, h0 rfl]
    rfl
  | some b =>
    have hl : (loadCells b xs.length).run P w = .ok (xs.map (Value.int .u8)).toArray w := by
      have := run_loadCells_list (P := P) w b (xs.map (Value.int .u8)) (fun j v hj => by
        rw [List.getElem?_map] at hj
        cases hx : xs[j]? with
        | none => rw [hx] at hj; cases hj
        | some n => rw [hx] at hj; cases hj; exact h1 b rfl j n hx)
      simpa using this
    rw [run_convert_bytes_string w s d e _ _ c hs he hd, run_bytesToString w b _ c xs hl, foldl_push_bytes]
    simp [strOfNums, ByteArray.empty, ByteArray.emptyWithCapacity]
    rfl
theorem does_b2s {s d e : TypeId} {x : Operand} {xs : List Int} (ho : o.op = .convert s d x) (hx : ev a x = .l 1 (xs.map by1)) (hs : P.underlying s = some (.slice e)) (he : P.underlying e = some (.int .u8)) (hd : P.underlying d = some .string)
    (h : K (.c (.string (strOfNums xs))) H) : Does P o a H K :=
  Does.val (fun c => by simp [ho]) h fun F w act hv hsat => ⟨_, by
    have h1 := hv.ev x
    rw [hx] at h1
    obtain ⟨ad, c, e1, e2, e3⟩ := src_by1 (h1.src hsat (by decide))
    simp [execOp, ho, e1, Sem.run_bind, run_b2s hs he hd e2 e3], .c _⟩
end
def u8Of : List (List AV) → Option (List Int)
  | [] => some []
  | [.c (.int .u8 n)] :: l => (u8Of l).map (n :: ·)
  | _ => none
theorem u8Of_by1 : ∀ l : List Int, u8Of (l.map by1) = some l
  | [] => rfl
  | n :: l => by simp [u8Of, by1, u8Of_by1 l] <;> exact u8Of_by1 l
theorem u8Of_eq : ∀ {rows : List (List AV)} {l : List Int}, u8Of rows = some l → rows = l.map by1
  | [], l, h => by cases h; rfl
  | r :: rows, l, h => by
    unfold u8Of at h
    split at h
    · rename_i e; cases e
    · rename_i n l' e
      obtain ⟨rfl, rfl⟩ := List.cons.inj e
      obtain ⟨l2, h2, rfl⟩ := Option.map_eq_some_iff.1 h
      rw [u8Of_eq h2]; rfl
    · cases h
def cnvV (P : Program) (s d : TypeId) (x : AV) : Option AV :=
  match x with
  | .c (.int _ n) => match P.underlying s, P.underlying d with | some _, some (.int k) => some (.c (.int k (k.wrap n))) | _, _ => none
  | .l 1 rows => match P.underlying s, P.underlying d with
    | some (.slice e), some .string => match P.underlying e with
      | some (.int .u8) => (u8Of rows).map fun xs => .c (.string (strOfNums xs))
      | _ => none
    | _, _ => none
  | _ => none
theorem cnvV_ok {P : Program} {o : Oper} {a : Nat → AV} {H : Heap} {K : AV → Heap → Prop} {s d : TypeId} {x : Operand} {r : AV} (ho : o.op = .convert s d x) (h : cnvV P s d (ev a x) = some r) (hK : K r H) : Does P o a H K := by
  unfold cnvV at h
  split at h
  · rename_i k n hx
    split at h
    · rename_i ds k' hs' hd
      cases h; exact does_conv ho (by rw [hs']; rfl) hd hx hK
    · cases h
  · rename_i rows hx
    split at h
    · rename_i e hs hd
      split at h
      · rename_i he
        obtain ⟨xs, h2, rfl⟩ := Option.map_eq_some_iff.1 h
        rw [u8Of_eq h2] at hx
        exact does_b2s ho hx hs he hd hK
      · cases h
    · cases h
  · cases h
def valsOf : List AV → Option (List Value)
  | [] => some []
  | .c v :: xs => (valsOf xs).map (v :: ·)
  | _ :: _ => none
theorem valsOf_map {xs : List AV} {us : List Value} (h : valsOf xs = some us) : xs = us.map .c := by
  induction xs generalizing us with
  | nil => simp [valsOf] at h; subst h; rfl
  | cons x xs ih =>
    cases x <;> simp [valsOf] at h
    obtain ⟨us', h1, rfl⟩ := h
    rw [ih h1]; rfl

def binV (P : Program) (op : BinOp) (t : TypeId) (x y : AV) : Option AV :=
  match x, y with
  | .c (.int k m), .c (.int k' n) =>
    if k = k' then
      match op with
      | .quo => if n ≠ 0 then some (.c (.int k (k.wrap (m.tdiv n)))) else none
      | .rem => if n ≠ 0 then some (.c (.int k (m.tmod n))) else none
      | .shl => if 0 ≤ n then some (.c (.int k (k.wrap (m * 2 ^ min n.toNat k.bits)))) else none
      | .shr => if 0 ≤ n then some (.c (.int k (m.fdiv (2 ^ min n.toNat k.bits)))) else none
      | _ => (binI op k m n).map .c
    else
      match op with
      | .shl => if 0 ≤ n then some (.c (.int k (k.wrap (m * 2 ^ min n.toNat k.bits)))) else none
      | .shr => if 0 ≤ n then some (.c (.int k (m.fdiv (2 ^ min n.toNat k.bits)))) else none
      | _ => none
  | .c (.bool p), .c (.bool q) =>
    match op, P.underlying t with
    | .eql, some .bool => some (.c (.bool (p == q)))
    | .neq, some .bool => some (.c (.bool (p != q)))
    | _, _ => none
  | .c (.string p), .c (.string q) =>
    match op with
    | .eql => some (.c (.bool (p == q)))
    | .neq => some (.c (.bool (p != q)))
    | _ => none
  | _, _ => none

def ldV (P : Program) (H : Heap) (t : TypeId) (x : AV) : Option AV :=
  match x with
  | .p n sz i j =>
    match H n with
    | some (.r _ sz' _ rows) =>
      match rows[i]?, tA P t, tS P t with
      | some e, some ag, some k => if sz' = sz ∧ j + k ≤ e.length ∧ 0 < k then some (prt ag k e j) else none
      | _, _, _ => none
    | _ => none
  | .q e j =>
    match tA P t, tS P t with
    | some ag, some k => if j + k ≤ e.length ∧ 0 < k then some (prt ag k e j) else none
    | _, _ => none
  | _ => none

def fldA (P : Program) (t : TypeId) (f : Nat) (x : AV) : Option AV :=
  match tF P t f with
  | some (off, ft) =>
    match tS P ft with
    | some k => if 0 < k then (match x with | .p n sz i j => some (.p n sz i (j + off)) | .q e j => some (.q e (j + off)) | _ => none) else none
    | none => none
  | none => none

def fldV (P : Program) (t : TypeId) (f : Nat) (x : AV) : Option AV :=
  match x, tF P t f with
  | .g xs, some (off, ft) =>
    match tA P ft, tS P ft with
    | some ag, some k => if 0 < k ∧ off + k ≤ xs.length then some (prt ag k xs off) else none
    | _, _ => none
  | _, _ => none

def idxA (P : Program) (t : TypeId) (x y : AV) : Option AV :=
  match y with
  | .c (.int _ ix) =>
    if 0 ≤ ix then
      match x, tE P t, tR P t with
      | .s n sz i len _, some et, _ => if tS P et = some sz ∧ ix < len then some (.p n sz (i + ix.toNat) 0) else none
      | .l sz rows, some et, _ => if tS P et = some sz then rows[ix.toNat]?.map (.q · 0) else none
      | .p n sz i j, _, some (m, et) => if ix < m then (tS P et).map fun k => .p n sz i (j + ix.toNat * k) else none
      | .q e j, _, some (m, et) => if ix < m then (tS P et).map fun k => .q e (j + ix.toNat * k) else none
      | _, _, _ => none
    else none
  | _ => none

def idxV (P : Program) (t : TypeId) (x y : AV) : Option AV :=
  match x, y, tR P t with
  | .g xs, .c (.int _ ix), some (n, et) =>
    match tA P et, tS P et with
    | some ag, some k => if 0 < k ∧ xs.length = n * k ∧ 0 ≤ ix ∧ ix < n then some (prt ag k xs (ix.toNat * k)) else none
    | _, _ => none
  | _, _, _ => none

def slcV (P : Program) (t : TypeId) (a : Nat → AV) (x : AV) (lo hi mx : Option Operand) : Option AV :=
  match x, tE P t with
  | .s n sz i len cap, some et =>
    match optI a 0 lo, optI a len hi, optI a cap mx with
    | some l, some h, some m => if tS P et = some sz ∧ 0 ≤ l ∧ l ≤ h ∧ h ≤ m ∧ m ≤ cap ∧ (mx.isSome = true → hi.isSome = true) then some (.s n sz (i + l.toNat) (h.toNat - l.toNat) (m.toNat - l.toNat)) else none
    | _, _, _ => none
  | .l sz rows, some et =>
    match optI a 0 lo, optI a rows.length hi with
    | some l, some h => if tS P et = some sz ∧ (mx = none ∨ optI a 0 mx = some h ∧ hi.isSome = true ∧ 0 < h) ∧ 0 ≤ l ∧ l ≤ h ∧ h ≤ rows.length then some (.l sz ((rows.drop l.toNat).take (h.toNat - l.toNat))) else none
    | _, _ => none
  | _, _ => none

def bldV (P : Program) (t : TypeId) (ps : List (Nat × AV)) : Option AV :=
  match tP P t, tZ P t with
  | some pl, some zs => if zs.all (·.oneCell') = true then (fillC (pl[·]?) (zs.map .c) ps).map .g else none
  | none, some zs => match (tR P t).bind fun p => tS P p.2 with
    | some k => if zs.all (·.oneCell') = true then (fillC (fun i => some (i * k, k)) (zs.map .c) ps).map .g else none
    | none => none
  | _, _ => none

def biV (P : Program) (b : Builtin) (ts : List TypeId) (xs : List AV) : Option AV :=
  match b, ts, xs with
  | .len, [t], [x] => (tE P t).bind fun _ => (lenV x).map fun (n : Nat) => AV.c (.int .i64 (n : Int))
  | .max, _, [.c (.int k m), .c (.int _ n)] => some (.c (.int k (if m < n then n else m)))
  | .min, _, [.c (.int k m), .c (.int _ n)] => some (.c (.int k (if n < m then n else m)))
  | _, _, _ => none

def Ent (P : Program) (f : FuncId) : Prop := ∀ (args : Array Value) (w : World), (callFunc f args).run P w = .ok (.enter f args) w

def ACall (P : Program) (f : FuncId) (args : List AV) (H : Heap) (K : AV → Heap → Prop) : Prop :=
  Ent P f ∧ ∀ (F : Mem) (w : World) (cs : List Value), Vs F args cs → Sat F H w →
    Calls P f cs.toArray w fun e w' => ∃ v F' H' r, e = .returned v ∧ V F' r v ∧ Sat F' H' w' ∧ Ext F H w F' H' w' ∧ K r H'

theorem ACall.mono {P : Program} {f : FuncId} {args : List AV} {H : Heap} {K K' : AV → Heap → Prop} (h : ACall P f args H K) (hk : ∀ r H', K r H' → K' r H') : ACall P f args H K' :=
  ⟨h.1, fun F w cs hv hs => (h.2 F w cs hv hs).mono fun e w' ⟨v, F', H', r, e1, e2, e3, e4, e5⟩ => ⟨v, F', H', r, e1, e2, e3, e4, hk _ _ e5⟩⟩

def join (A B : Heap) : Heap := fun n => (A n).or (B n)
def Apart (A B : Heap) : Prop := ∀ n, A n = none ∨ B n = none
theorem join_left {A B : Heap} {n : Nat} {k : Blk} (h : A n = some k) : join A B n = some k := by simp [join, h]
theorem join_right {A B : Heap} {n : Nat} (h : A n = none) : join A B n = B n := by simp [join, h]
theorem le_join_right {A B : Heap} (h : Apart A B) : Heap.le B (join A B) := fun n k hk => by
  rcases h n with h | h
  · rw [join_right h, hk]
  · rw [h] at hk; cases hk
theorem le_join_left (A B : Heap) : Heap.le A (join A B) := fun n k hk => join_left hk
theorem join_none (A : Heap) : join A (fun _ => none) = A := by funext n; cases h : A n <;> simp [join, h]

theorem beside {A B B' : Heap} {F F' : Mem} {w w' : World} (hap : Apart A B) (hs : Sat F (join A B) w) (hs' : Sat F' B' w') (he : Ext F B w F' B' w') :
    Apart A B' ∧ Sat F' (join A B') w' ∧ Ext F (join A B) w F' (join A B') w' := by
  have hA : ∀ n k, A n = some k → B n = none ∧ n < w.heap.size := fun n k hn => by
    rcases hap n with h | h
    · rw [h] at hn; cases hn
    · exact ⟨h, hs.lt (join_left hn)⟩
  have hap' : Apart A B' := fun n => by
    cases hn : A n with
    | none => exact .inl rfl
    | some k =>
      obtain ⟨h1, h2⟩ := hA n k hn
      right
      cases hb : B' n with
      | none => rfl
      | some k' =>
        rcases he.new n k' hb with h3 | h3
        · exact absurd h1 h3
        · omega
  refine ⟨hap', ⟨hs'.mem, fun b o v k hF hk => ?_, fun n k hn => ?_⟩, ⟨he.os, he.tape, he.output, he.size, fun n hn hj => ?_, fun n k hn => ?_, he.le, fun b o v hF => ?_⟩⟩
  · cases hb : A b with
    | none => rw [join_right hb] at hk; exact hs'.off b o v k hF hk
    | some k' =>
      obtain ⟨h1, h2⟩ := hA b k' hb
      rcases he.frz b o v hF with h3 | h3 | h3
      · exact hs.off b o v k' h3 (join_left hb)
      · exact h3 h1
      · omega
  · cases hb : A n with
    | none => rw [join_right hb] at hn; exact hs'.blk n k hn
    | some k' =>
      rw [join_left hb] at hn; cases hn
      obtain ⟨h1, h2⟩ := hA n k hb
      exact ((hs.blk n k (join_left hb)).mono he.le).heap (he.block n h2 h1)
  · have : B n = none := by
      cases hb : A n with
      | none => rwa [join_right hb] at hj
      | some k => rw [join_left hb] at hj; cases hj
    exact he.block n hn this
  · cases hb : A n with
    | none =>
      rw [join_right hb] at hn
      rcases he.new n k hn with h3 | h3
      · left; rw [join_right hb]; exact h3
      · exact .inr h3
    | some k' => left; rw [join_left hb]; simp
  · rcases he.frz b o v hF with h3 | h3 | h3
    · exact .inl h3
    · right; left
      cases hb : A b with
      | none => rw [join_right hb]; exact h3
      | some k => rw [join_left hb]; simp
    · exact .inr (.inr h3)

theorem ACall.frame {P : Program} {f : FuncId} {args : List AV} {A B : Heap} {K : AV → Heap → Prop} (hap : Apart A B) (h : ACall P f args B K) : ACall P f args (join A B) (fun r H' => ∃ B', H' = join A B' ∧ Apart A B' ∧ K r B') :=
  ⟨h.1, fun F w cs hv hs => (h.2 F w cs hv (hs.less (le_join_right hap))).mono fun e w' ⟨v, F', H', r, e1, e2, e3, e4, e5⟩ => by
    obtain ⟨g1, g2, g3⟩ := beside hap hs e3 e4
    exact ⟨v, F', _, r, e1, e2, g2, g3, H', rfl, g1, e5⟩⟩

theorem ACall.less {P : Program} {f : FuncId} {args : List AV} {H : Heap} {K : AV → Heap → Prop} (h : ACall P f args H fun r H' => ∃ H2, Heap.le H2 H' ∧ K r H2) : ACall P f args H K :=
  ⟨h.1, fun F w cs hv hs => (h.2 F w cs hv hs).mono fun e w' ⟨v, F', H', r, e1, e2, e3, e4, H2, hl, e5⟩ =>
    ⟨v, F', H2, r, e1, e2, e3.less hl, ⟨e4.os, e4.tape, e4.output, e4.size, e4.block, fun n k hn => e4.new n k (hl n k hn), e4.le, e4.frz⟩, e5⟩⟩

theorem ACall.pure {P : Program} {f : FuncId} {args : List AV} {r : AV} (h : ACall P f args (fun _ => none) (fun r' _ => r' = r)) (H : Heap) {K : AV → Heap → Prop} (hK : K r H) : ACall P f args H K := by
  have := ACall.frame (A := H) (B := fun _ => none) (fun n => .inr rfl) h
  rw [join_none] at this
  refine (this.mono ?_).less (K := K)
  rintro r' H' ⟨B', rfl, hap, rfl⟩
  exact ⟨H, le_join_left _ _, hK⟩

structure Env (P : Program) where
  eq : TypeId → List Value → List Value → Option Bool
  eq_ok : ∀ t us vs b, eq t us vs = some b → P.eqGuardType P.depth t = false ∧ ∀ w : World, (Op.equalIn 10000 t (.agg us.toArray) (.agg vs.toArray)).run P w = .ok b w
  cl : FuncId → List AV → Option AV
  cl_ok : ∀ f args r, cl f args = some r → ACall P f args (fun _ => none) (fun r' _ => r' = r)

def eqV {P : Program} (E : Env P) (op : BinOp) (t : TypeId) (x y : AV) : Option AV :=
  match x, y with
  | .g xs, .g ys =>
    match valsOf xs, valsOf ys with
    | some us, some vs =>
      match op with
      | .eql => (E.eq t us vs).map fun b => .c (.bool b)
      | .neq => (E.eq t us vs).map fun b => .c (.bool !b)
      | _ => none
    | _, _ => none
  | _, _ => binV P op t x y

def pureF {P : Program} (E : Env P) (H : Heap) (o : Oper) (a : Nat → AV) : Option AV :=
  match o.op with
  | .move x | .assign x => some (ev a x)
  | .pick c x y => match ev a c with | .c (.bool b) => some (if b then ev a x else ev a y) | _ => none
  | .makeFunc fn xs ys => some (.f fn (xs.toList.map (ev a)) (ys.toList.map (ev a)))
  | .extract x i => match ev a x with | .t xs => xs[i]? | _ => none
  | .unOp op _ x => match ev a x with | .c v => (unV op v).map .c | _ => none
  | .binOp op t x y _ => eqV E op t (ev a x) (ev a y)
  | .convert s d x => cnvV P s d (ev a x)
  | .nilCheck x => if (ev a x).nn = true then some (ev a x) else none
  | .fieldAddr t x f => fldA P t f (ev a x)
  | .field t x f => fldV P t f (ev a x)
  | .indexAddr t x y => idxA P t (ev a x) (ev a y)
  | .index t x y => idxV P t (ev a x) (ev a y)
  | .slice t x lo hi mx => slcV P t a (ev a x) lo hi mx
  | .load t x => ldV P H t (ev a x)
  | .build t ps => bldV P t (ps.toList.map fun p => (p.1, ev a p.2))
  | .call { callee := .builtin b, args := xs, argTypes := ts } => biV P b ts.toList (xs.toList.map (ev a))
  | .call { callee := .value (.func f), args := xs, argTypes := _ } => E.cl f (xs.toList.map (ev a))
  | _ => none
end Go.Proofs.Ytlbdpnlmdcajbaa

/- What is reckoned is what an operation yields. -/
namespace Go.Proofs.Ytlbdpnlmdcajbaa
open Go.RowKit
set_option linter.unusedVariables false
set_option linter.unusedSimpArgs false
set_option linter.constructorNameAsVariable false

section
variable {P : Program} {o : Oper} {a : Nat → AV} {H : Heap} {K : AV → Heap → Prop}

theorem binV_ok {op : BinOp} {t t' : TypeId} {x y : Operand} {r : AV} (ho : o.op = .binOp op t x y t') (h : binV P op t (ev a x) (ev a y) = some r) (hK : K r H) : Does P o a H K := by
  unfold binV at h
  split at h
  · rename_i k m k' n hx hy
    split at h
    · rename_i hk; subst hk
      split at h
      · split at h
        · rename_i hn; cases h; exact does_quo ho hx hy hn hK
        · cases h
      · split at h
        · rename_i hn; cases h; exact does_rem ho hx hy hn hK
        · cases h
      · split at h
        · rename_i hn; cases h; exact does_shl ho hx hy hn hK
        · cases h
      · split at h
        · rename_i hn; cases h; exact does_shr ho hx hy hn hK
        · cases h
      · obtain ⟨v, hv, rfl⟩ := Option.map_eq_some_iff.1 h
        exact does_binI ho hx hy hv hK
    · split at h
      · split at h
        · rename_i hn; cases h; exact does_shl ho hx hy hn hK
        · cases h
      · split at h
        · rename_i hn; cases h; exact does_shr ho hx hy hn hK
        · cases h
      · cases h
  · rename_i p q hx hy
    split at h
    · rename_i hu; cases h; exact does_binB ho hu (.inl rfl) hx hy (by simpa using hK)
    · rename_i hu; cases h; exact does_binB ho hu (.inr rfl) hx hy (by simpa using hK)
    · cases h
  · rename_i p q hx hy
    split at h
    · cases h; exact does_binS ho (.inl rfl) hx hy (by simpa using hK)
    · cases h; exact does_binS ho (.inr rfl) hx hy (by simpa using hK)
    · cases h
  · cases h

theorem eqG_ok {E : Env P} {op : BinOp} {t t' : TypeId} {x y : Operand} {us vs : List Value} {b : Bool} (ho : o.op = .binOp op t x y t') (hop : op = .eql ∨ op = .neq) (hx : ev a x = .g (us.map .c)) (hy : ev a y = .g (vs.map .c)) (he : E.eq t us vs = some b) (hK : K (.c (.bool (if op = .eql then b else !b))) H) : Does P o a H K :=
  Does.val (fun c => by simp [ho]) hK fun F w act hv hs => ⟨.bool (if op = .eql then b else !b), by
    have agg : ∀ (z : Operand) (zs : List Value), z = x ∨ z = y → ev a z = .g (zs.map .c) → act.eval z = .agg zs.toArray := by
      intro z zs hzm hz
      have h1 := hv.ev z (by rcases hzm with rfl | rfl <;> simp [ho, Op.operands])
      rw [hz] at h1
      obtain ⟨cs, e1, e2, _⟩ := h1.g_inv
      rw [e1]
      congr 1
      apply Array.ext'
      rw [List.toList_toArray]
      apply List.ext_getElem?
      intro i
      have hl := e2.1
      simp only [List.length_map] at hl
      by_cases hi : i < zs.length
      · have := e2.2 i (.c zs[i]) (by simp [hi])
        have := this.c_inv
        rw [List.getElem?_eq_getElem hi, ← this, List.getD_eq_getElem?_getD, List.getElem?_eq_getElem (by omega)]
        rfl
      · rw [List.getElem?_eq_none (by omega), List.getElem?_eq_none (by simpa using hi)]
    obtain ⟨g1, g2⟩ := E.eq_ok t us vs b he
    have ex := agg x us (.inl rfl) hx
    have ey := agg y vs (.inr rfl) hy
    have hg := run_eqGuard_agg (P := P) w op t x y us.toArray vs.toArray g1
    rw [show execOp act.eval o = (do pure (.value (← (do eqGuard op t x y (.agg us.toArray) (.agg vs.toArray); binOp op t (.agg us.toArray) (.agg vs.toArray))))) by simp [execOp, ho, ex, ey]]
    rcases hop with rfl | rfl
    · have := run_eql_struct (P := P) w t us.toArray vs.toArray
      rw [g2 w] at this
      simp [Sem.run_bind, hg, this, Result.andThen]
    · have := run_neq_struct (P := P) w t us.toArray vs.toArray
      rw [g2 w] at this
      simp [Sem.run_bind, hg, this, Result.andThen], V.c _⟩

theorem eqV_ok {E : Env P} {op : BinOp} {t t' : TypeId} {x y : Operand} {r : AV} (ho : o.op = .binOp op t x y t') (h : eqV E op t (ev a x) (ev a y) = some r) (hK : K r H) : Does P o a H K := by
  unfold eqV at h
  split at h
  · rename_i xs ys hx hy
    split at h
    · rename_i us vs hu hv
      rw [valsOf_map hu] at hx
      rw [valsOf_map hv] at hy
      split at h
      · obtain ⟨b, hb, rfl⟩ := Option.map_eq_some_iff.1 h
        exact eqG_ok ho (.inl rfl) hx hy hb (by simpa using hK)
      · obtain ⟨b, hb, rfl⟩ := Option.map_eq_some_iff.1 h
        exact eqG_ok ho (.inr rfl) hx hy hb (by simpa using hK)
      · cases h
    · cases h
  · exact binV_ok ho h hK

theorem does_call {c : Operand} {f : FuncId} {xs : Array Operand} {ts : Array TypeId} (ho : o.op = .call { callee := .value c, args := xs, argTypes := ts }) (hc : ev a c = .c (.func (.func f) #[] #[])) (h : ACall P f (xs.toList.map (ev a)) H K) : Does P o a H K :=
  Does.enters (fun c => by simp [ho]) fun F w act hv hs => by
    have hcs : Vs F (xs.toList.map (ev a)) (xs.map act.eval).toList := evs_ok fun x hx => hv.ev x (by simp only [ho, Op.operands, Call.operands, Array.toList_append]; exact List.mem_append_right _ hx)
    refine ⟨f, xs.map act.eval, ?_, ?_⟩
    · simp only [execOp, ho, resolve, hv.c hc, Deferred.ofValue]
      simp [Sem.run_bind, invoke, h.1 _ _]
    · have := h.2 F w _ hcs hs
      rw [Array.toArray_toList] at this
      exact this

theorem does_call_f {c : Operand} {f : FuncId} {fs cap : List AV} {xs : Array Operand} {ts : Array TypeId} (ho : o.op = .call { callee := .value c, args := xs, argTypes := ts }) (hc : ev a c = .f (.func f) fs cap) (h : ACall P f (fs ++ xs.toList.map (ev a) ++ cap) H K) : Does P o a H K :=
  Does.enters (fun c => by simp [ho]) fun F w act hv hs => by
    have hcs : Vs F (xs.toList.map (ev a)) (xs.map act.eval).toList := evs_ok fun x hx => hv.ev x (by simp only [ho, Op.operands, Call.operands, Array.toList_append]; exact List.mem_append_right _ hx)
    have h1 := hv.ev c
    rw [hc] at h1
    obtain ⟨gs, ds, e1, e2, e3⟩ := h1.f_inv
    refine ⟨f, gs ++ xs.map act.eval ++ ds, ?_, ?_⟩
    · simp only [execOp, ho, resolve, e1, Deferred.ofValue]
      simp [Sem.run_bind, invoke, h.1 _ _]
    · have := h.2 F w _ ((e2.append hcs).append e3) hs
      have e : (gs.toList ++ (xs.map act.eval).toList ++ ds.toList).toArray = gs ++ xs.map act.eval ++ ds := by apply Array.ext'; simp
      rw [e] at this
      exact this

theorem pureF_ok (E : Env P) {r : AV} (h : pureF E H o a = some r) (hK : K r H) : Does P o a H K := by
  unfold pureF at h
  split at h
  · cases h; exact does_move (by assumption) hK
  · cases h; exact does_assign (by assumption) hK
  · rename_i c x y ho
    split at h
    · rename_i b hc; cases h; exact does_pick ho hc hK
    · cases h
  · cases h; exact does_makeFunc (by assumption) hK
  · rename_i x i ho
    split at h
    · rename_i xs hx; exact does_extract ho hx h hK
    · cases h
  · rename_i op t x ho
    split at h
    · rename_i v hx
      obtain ⟨u, hu, rfl⟩ := Option.map_eq_some_iff.1 h
      exact does_unOp ho hx hu hK
    · cases h
  · rename_i op t x y t' ho
    exact eqV_ok ho h hK
  · rename_i s d x ho
    exact cnvV_ok ho h hK
  · rename_i x ho
    split at h
    · rename_i hx; cases h; exact does_nilCheck ho hx hK
    · cases h
  · rename_i t x f ho
    unfold fldA at h
    split at h
    · rename_i off ft hF
      split at h
      · rename_i k hS
        split at h
        · rename_i hk
          split at h
          · rename_i hx; cases h; exact does_fieldAddr ho hx hF hS hk hK
          · rename_i hx; cases h; exact does_fieldAddr_q ho hx hF hS hk hK
          · cases h
        · cases h
      · cases h
    · cases h
  · rename_i t x f ho
    unfold fldV at h
    split at h
    · rename_i xs off ft hx hF
      split at h
      · rename_i ag k hA hS
        split at h
        · rename_i hk; cases h; exact does_field ho hx hF hA hS hk.1 hk.2 hK
        · cases h
      · cases h
    · cases h
  · rename_i t x y ho
    unfold idxA at h
    split at h
    · rename_i kd ix hy
      split at h
      · rename_i h0
        split at h
        · rename_i hx hE
          split at h
          · rename_i hc; cases h; exact does_indexAddr ho hx hy hE hc.1 h0 hc.2 hK
          · cases h
        · rename_i hx hE
          split at h
          · rename_i hc
            obtain ⟨e, he, rfl⟩ := Option.map_eq_some_iff.1 h
            exact does_indexAddr_l ho hx hy hE hc h0 he hK
          · cases h
        · rename_i hx hR
          split at h
          · rename_i hc
            obtain ⟨k, hS, rfl⟩ := Option.map_eq_some_iff.1 h
            exact does_indexAddr_a ho hx hy hR hS h0 hc hK
          · cases h
        · rename_i hx hR
          split at h
          · rename_i hc
            obtain ⟨k, hS, rfl⟩ := Option.map_eq_some_iff.1 h
            exact does_indexAddr_aq ho hx hy hR hS h0 hc hK
          · cases h
        · cases h
      · cases h
    · cases h
  · rename_i t x y ho
    unfold idxV at h
    split at h
    · rename_i xs kd ix n et hx hy hR
      split at h
      · rename_i ag k hA hS
        split at h
        · rename_i hc; cases h; exact does_index ho hx hy hR hA hS hc.1 hc.2.1 hc.2.2.1 hc.2.2.2 hK
        · cases h
      · cases h
    · cases h
  · rename_i t x lo hi mx ho
    unfold slcV at h
    split at h
    · rename_i n sz i len cap et hx hE
      split at h
      · rename_i l h' m hl hh hm
        split at h
        · rename_i hc; obtain ⟨c1, c2, c3, c4, c5, c6⟩ := hc
          cases h; exact does_slice ho hx hE c1 hl hh hm c2 c3 c4 c5 c6 hK
        · cases h
      · cases h
    · rename_i sz rows et hx hE
      split at h
      · rename_i l h' hl hh
        split at h
        · rename_i hc; obtain ⟨c1, c2, c3, c4, c5⟩ := hc
          cases h; exact does_slice_l ho hx hE c1 hl hh (c2.imp id fun q => ⟨q.1, q.2.1⟩) c3 c4 c5 hK
        · cases h
      · cases h
    · cases h
  · rename_i t x ho
    unfold ldV at h
    split at h
    · rename_i n sz i j hx
      split at h
      · rename_i ty sz' cap rows hH
        split at h
        · rename_i e ag k he hA hS
          split at h
          · rename_i hc; obtain ⟨rfl, c2, c3⟩ := hc
            cases h; exact does_load ho hx hH he hA hS c2 c3 hK
          · cases h
        · cases h
      · cases h
    · rename_i e j hx
      split at h
      · rename_i ag k hA hS
        split at h
        · rename_i hc; cases h; exact does_load_q ho hx hA hS hc.1 hc.2 hK
        · cases h
      · cases h
    · cases h
  · rename_i t ps ho
    unfold bldV at h
    split at h
    · rename_i pl zs hp hz
      split at h
      · rename_i h1
        obtain ⟨r', hr, rfl⟩ := Option.map_eq_some_iff.1 h
        exact does_build ho hp hz h1 hr hK
      · cases h
    · rename_i zs hp hz
      split at h
      · rename_i k hk
        obtain ⟨q, hq1, hq2⟩ := Option.bind_eq_some_iff.1 hk
        obtain ⟨m, et⟩ := q
        split at h
        · rename_i h1
          obtain ⟨r', hr, rfl⟩ := Option.map_eq_some_iff.1 h
          exact does_build_a ho hq1 hq2 hz h1 hr hK
        · cases h
      · cases h
    · cases h
  · rename_i b xs ts ho
    unfold biV at h
    split at h
    · rename_i t x ht hx
      have hts : ts = #[t] := by apply Array.ext'; simpa using ht
      subst hts
      obtain ⟨x', hx1, hx2⟩ : ∃ x', xs = #[x'] ∧ ev a x' = x := by
        cases hl : xs.toList with
        | nil => simp [hl] at hx
        | cons y ys =>
          simp [hl] at hx
          exact ⟨y, by apply Array.ext'; simp [hl, hx.2], hx.1⟩
      subst hx1
      cases hE : tE P t with
      | none => simp [hE] at h
      | some et =>
        rw [hE, Option.bind_some] at h
        obtain ⟨n, hn, rfl⟩ := Option.map_eq_some_iff.1 h
        exact does_len ho hE (by rw [hx2]; exact hn) hK
    · rename_i k m k' n hx
      cases h
      obtain ⟨x', y', rfl, e1, e2⟩ : ∃ x' y', xs = #[x', y'] ∧ ev a x' = .c (.int k m) ∧ ev a y' = .c (.int k' n) := by
        cases hl : xs.toList with
        | nil => simp [hl] at hx
        | cons y ys =>
          cases ys with
          | nil => simp [hl] at hx
          | cons z zs => simp [hl] at hx; exact ⟨y, z, by apply Array.ext'; simp [hl, hx.2.2], hx.1, hx.2.1⟩
      exact does_max ho e1 e2 hK
    · rename_i k m k' n hx
      cases h
      obtain ⟨x', y', rfl, e1, e2⟩ : ∃ x' y', xs = #[x', y'] ∧ ev a x' = .c (.int k m) ∧ ev a y' = .c (.int k' n) := by
        cases hl : xs.toList with
        | nil => simp [hl] at hx
        | cons y ys =>
          cases ys with
          | nil => simp [hl] at hx
          | cons z zs => simp [hl] at hx; exact ⟨y, z, by apply Array.ext'; simp [hl, hx.2.2], hx.1, hx.2.1⟩
      exact does_min ho e1 e2 hK
    · cases h
  · rename_i f xs ts ho
    exact does_call ho rfl ((E.cl_ok _ _ _ h).pure H hK)
  · cases h
end
end Go.Proofs.Ytlbdpnlmdcajbaa

/- Frames; regions in the order of the text; code. -/
namespace Go.Proofs.Ytlbdpnlmdcajbaa
open Go.RowKit
set_option linter.unusedVariables false
set_option linter.unusedSimpArgs false
set_option linter.constructorNameAsVariable false

def put (a : Nat → AV) (dst : Option Nat) (r : AV) : Nat → AV :=
  match dst with
  | some d => fun t => if t = d then r else a t
  | none => a
theorem put_some (a : Nat → AV) (d : Nat) (r : AV) (t : Nat) : put a (some d) r t = if t = d then r else a t := rfl
theorem put_none (a : Nat → AV) (r : AV) : put a none r = a := rfl

def mark (D : Nat) : Deferred := { target := .collected D, args := #[] }

structure Bk where
  lo : Nat
  ro : Option Nat

structure Rel (F : Mem) (B : Bk) (N : Nat) (a : Nat → AV) (H : Heap) (act : Act) (w : World) : Prop where
  dfr : ∃ Ds : List Nat, act.defers = Ds.map mark ∧ Ds.Nodup ∧ ∀ D ∈ Ds, w.heap[D]? = some (.deferred (some [])) ∧ H D = none ∧ B.lo ≤ D
  low : B.lo ≤ w.heap.size
  rnd : ∀ l, B.ro = some l → (∃ r, w.heap[l]? = some (.loop r)) ∧ H l = none
  size : act.tmps.size = N
  vf : Va F a act
  sat : Sat F H w

theorem lt_of_get {w : World} {D : Nat} {o : Obj} (h : w.heap[D]? = some o) : D < w.heap.size := (Array.getElem?_eq_some_iff.1 h).1

theorem Rel.step {F F' : Mem} {B : Bk} {N : Nat} {a : Nat → AV} {H H' : Heap} {act : Act} {w w' : World} {dst : Option Nat} {v : Value} {r : AV} (h : Rel F B N a H act w) (hd : ∀ d, dst = some d → d < N) (hv : V F' r v) (hs : Sat F' H' w') (he : Ext F H w F' H' w') : Rel F' B N (put a dst r) H' (act.put dst v) w' := by
  obtain ⟨⟨Ds, d1, d2, d3⟩, hlow, hrnd, hsz, hvf, hsat⟩ := h
  refine ⟨⟨Ds, by cases dst <;> exact d1, d2, fun D hD => ?_⟩, Nat.le_trans hlow he.size, fun l hl => ?_, by cases dst <;> simp [Act.put, hsz], fun t => ?_, hs⟩
  · obtain ⟨g1, g2, g3⟩ := d3 D hD
    refine ⟨(he.block D (lt_of_get g1) g2).trans g1, ?_, g3⟩
    cases hk : H' D with
    | none => rfl
    | some k =>
      rcases he.new D k hk with h1 | h1
      · exact absurd g2 h1
      · have := lt_of_get g1; omega
  · obtain ⟨⟨r, g1⟩, g2⟩ := hrnd l hl
    refine ⟨⟨r, (he.block l (lt_of_get g1) g2).trans g1⟩, ?_⟩
    cases hk : H' l with
    | none => rfl
    | some k =>
      rcases he.new l k hk with h1 | h1
      · exact absurd g2 h1
      · have := lt_of_get g1; omega
  · cases dst with
    | none => exact (hvf t).mono he.le
    | some d =>
      have hlt := hd d rfl
      rw [put_some]
      split
      · rename_i e; subst e
        simp [Act.put, Array.getD, hsz, hlt]; exact hv
      · rename_i e
        have : (act.put (some d) v).tmps.getD t undef = act.tmps.getD t undef := by
          simp [Act.put, Array.getD_eq_getD_getElem?, Array.getElem?_setIfInBounds_ne (Ne.symm e)]
        rw [this]; exact (hvf t).mono he.le

def gv (ops : Array Oper) (a : Nat → AV) (j : Nat) : Option Bool :=
  ((ops[j]?).bind (·.dst)).bind fun d => match a d with | .c (.bool b) => some b | _ => none

theorem gv_ok {F : Mem} {a : Nat → AV} {act : Act} (hv : Va F a act) {ops : Array Oper} {j : Nat} {b : Bool} (h : gv ops a j = some b) : yielded ops act.tmps j = some b := by
  unfold gv at h
  unfold yielded
  cases hd : (ops[j]?).bind (·.dst) with
  | none => simp [hd] at h
  | some d =>
    rw [hd, Option.bind_some] at h
    split at h
    · rename_i b' ha
      cases h
      have h1 := hv d
      rw [ha] at h1
      have h2 := h1.c_inv
      have h3 : act.tmps[d]? = some (.bool b) := by
        rw [Array.getD_eq_getD_getElem?] at h2
        cases h4 : act.tmps[d]? with
        | none => rw [h4] at h2; cases h2
        | some u => rw [h4] at h2; simpa using h2
      simp [h3]
    · cases h

def gu (ops : Array Oper) (a : Nat → AV) (j : Nat) : Bool :=
  match (ops[j]?).bind (·.dst) with
  | some d => match a d with | .t [] => true | _ => false
  | none => false
theorem gu_ok {F : Mem} {a : Nat → AV} {act : Act} (hv : Va F a act) {ops : Array Oper} {j : Nat} (h : gu ops a j = true) : yielded ops act.tmps j = none := by
  unfold gu at h
  unfold yielded
  cases hd : (ops[j]?).bind (·.dst) with
  | none => simp
  | some d =>
    rw [hd] at h
    simp only at h
    split at h
    · rename_i ha
      have h1 := hv d
      rw [ha] at h1
      obtain ⟨cs, h2, h3⟩ := h1.t_inv
      simp only [Option.bind_some]
      rw [Array.getD_eq_getD_getElem?] at h2
      cases h4 : act.tmps[d]? with
      | none => rfl
      | some u =>
        rw [h4] at h2
        simp only [Option.getD_some] at h2
        subst h2
        rfl
    · cases h

def EO {P : Program} (E : Env P) (o : Oper) (a : Nat → AV) (H : Heap) (K : AV → Heap → Prop) : Prop :=
  match o.op with
  | .alloc t =>
    match tZ P t with
    | some zs => zs.all (·.oneCell') = true ∧ 0 < zs.length ∧ ∀ n, H n = none → K (.p n zs.length 0 0) (upd H n (.r t zs.length 1 [zs.map .c]))
    | none => False
  | .box t x =>
    match (ev a x).cs with
    | some ys => 0 < ys.length ∧ ∀ n, H n = none → K (.p n ys.length 0 0) (upd H n (.r t ys.length 1 [ys]))
    | none => False
  | .buildSlice t len parts =>
    match tE P t with
    | some et =>
      match tS P et, tZ P et with
      | some sz, some zs => (zs.length = sz ∧ 0 < sz ∧ len * sz ≤ 16777216 ∧ zs.all (·.oneCell') = true) ∧
        match fillR sz (List.replicate len (zs.map .c)) (parts.toList.map fun p => (p.1, ev a p.2)) with
        | some r => ∀ n, H n = none → K (.s n sz 0 len len) (upd H n (.r et sz len r))
        | none => False
      | _, _ => False
    | none => False
  | .store t x y =>
    match ev a x with
    | .p n sz i j =>
      match H n with
      | some (.r ty sz' cap rows) =>
        match rows[i]?, (ev a y).cs with
        | some e, some ys => (sz' = sz ∧ tS P t = some ys.length ∧ j + ys.length ≤ e.length) ∧ K .x (upd H n (.r ty sz' cap (rows.set i (e.take j ++ ys ++ e.drop (j + ys.length)))))
        | _, _ => False
      | _ => False
    | _ => False
  | _ =>
    match pureF E H o a with
    | some r => K r H
    | none => Does P o a H K

theorem EO_ok {P : Program} (E : Env P) {o : Oper} {a : Nat → AV} {H : Heap} {K : AV → Heap → Prop} (h : EO E o a H K) : Does P o a H K := by
  unfold EO at h
  split at h
  · split at h
    · rename_i zs hz; exact does_alloc (by assumption) hz h.1 h.2.1 h.2.2
    · exact h.elim
  · split at h
    · rename_i ys hx; exact does_box (by assumption) hx h.1 h.2
    · exact h.elim
  · split at h
    · rename_i et hE
      split at h
      · rename_i sz zs hS hz
        obtain ⟨⟨h1, h2, h3, h4⟩, h⟩ := h
        split at h
        · rename_i r hr; exact does_buildSlice (by assumption) hE hS hz h1 h2 h3 h4 hr h
        · exact h.elim
      · exact h.elim
    · exact h.elim
  · split at h
    · rename_i n sz i j hx
      split at h
      · rename_i ty sz' cap rows hH
        split at h
        · rename_i e ys he hy
          obtain ⟨⟨rfl, h2, h3⟩, h⟩ := h
          exact does_store (by assumption) hx hH he hy h2 rfl h3 h
        · exact h.elim
      · exact h.elim
    · exact h.elim
  · split at h
    · rename_i hp; exact pureF_ok E hp h
    · exact h

theorem EO_mono {P : Program} (E : Env P) {o : Oper} {a : Nat → AV} {H : Heap} {K K' : AV → Heap → Prop} (hk : ∀ r H', K r H' → K' r H') (h : EO E o a H K) : EO E o a H K' := by
  unfold EO at h ⊢
  split at h
  · split at h
    · exact ⟨h.1, h.2.1, fun n hn => hk _ _ (h.2.2 n hn)⟩
    · exact h
  · split at h
    · exact ⟨h.1, fun n hn => hk _ _ (h.2 n hn)⟩
    · exact h
  · split at h
    · split at h
      · refine ⟨h.1, ?_⟩
        have h := h.2
        split at h
        · exact fun n hn => hk _ _ (h n hn)
        · exact h
      · exact h
    · exact h
  · split at h
    · split at h
      · split at h
        · exact ⟨h.1, hk _ _ h.2⟩
        · exact h
      · exact h
    · exact h
  · split at h
    · exact hk _ _ h
    · exact h.mono hk

def dok (N : Nat) : Option Nat → Bool
  | some d => decide (d < N)
  | none => true

def ER {P : Program} (E : Env P) (N : Nat) (ops : Array Oper) : List Oper → (Nat → AV) → Heap → ((Nat → AV) → Heap → Prop) → Prop
  | [], a, H, K => K a H
  | o :: os, a, H, K =>
    dok N o.dst = true ∧
    match o.guard with
    | none => EO E o a H (fun r H' => ER E N ops os (put a o.dst r) H' K)
    | some (j, want) =>
      match gv ops a j with
      | some b => (b = want → EO E o a H (fun r H' => ER E N ops os (put a o.dst r) H' K)) ∧ (b = !want → ER E N ops os (put a o.dst (.t [])) H K)
      | none => gu ops a j = true ∧ ER E N ops os (put a o.dst (.t [])) H K

theorem wpIn_Q {P : Program} {o : Oper} {Fe : Fence} {n : Nat} {act : Act} {w : World} {K K' : Act → World → Prop} {Q : Exit → Act → World → Prop} (hk : ∀ a w, K a w → K' a w) (h : o.wpIn Fe n P act w K (fun _ _ _ => False)) : o.wpIn Fe n P act w K' Q := by
  obtain ⟨h1, h2⟩ := h
  refine ⟨h1, ?_⟩
  generalize (o.semAt Fe.round act.eval).run P w = r at h2 ⊢
  cases r with
  | halt x w' => cases x <;> simp only [Oper.uponIn] at h2
  | ok x w' =>
    cases x with
    | value v => exact hk _ _ h2
    | skip => exact hk _ _ h2
    | defer d => exact hk _ _ h2
    | enter f args => exact ⟨h2.1, h2.2.mono fun e w' he => (by cases e <;> first | exact hk _ _ he | exact he.elim | (obtain ⟨_, _, x⟩ := he; exact x.elim))⟩
    | row f args => exact ⟨h2.1, h2.2.mono fun e w' he => hk _ _ he⟩
    | round l f tmps as body => exact ⟨h2.1, h2.2.mono fun e w' he => (by cases e <;> first | exact hk _ _ he | exact he.elim | (obtain ⟨_, _, x⟩ := he; exact x.elim))⟩
    | _ => simp only [Oper.uponIn] at h2

def Goes (F : Mem) (H : Heap) (w : World) (B : Bk) (N : Nat) (K : (Nat → AV) → Heap → Prop) (act' : Act) (w' : World) : Prop := ∃ F' a' H', Rel F' B N a' H' act' w' ∧ Ext F H w F' H' w' ∧ K a' H'

theorem ER_ok {P : Program} (E : Env P) {B : Bk} {N : Nat} {ops : Array Oper} {Fe : Fence} {n : Nat} (hF : Wide Fe) {K : (Nat → AV) → Heap → Prop} {F : Mem} {H : Heap} {w : World} {Q : Exit → Act → World → Prop} (hQ : ∀ a w', Goes F H w B N K a w' → Q .normal a w') :
    ∀ (l : List Oper) (a : Nat → AV) (F1 : Mem) (H1 : Heap) (w1 : World) (act : Act), ER E N ops l a H1 K → Rel F1 B N a H1 act w1 → Ext F H w F1 H1 w1 → wpListIn Fe n P ops Q l act w1
  | [], a, F1, H1, w1, act, h, hr, he => hQ _ _ ⟨F1, a, H1, hr, he, h⟩
  | o :: os, a, F1, H1, w1, act, h, hr, he => by
    obtain ⟨hd, h⟩ := h
    have hd' : ∀ d, o.dst = some d → d < N := fun d e => by rw [e] at hd; simpa [dok] using hd
    have go : EO E o a H1 (fun r H' => ER E N ops os (put a o.dst r) H' K) → o.wpIn Fe n P act w1 (wpListIn Fe n P ops Q os) Q := fun hE => by
      refine wpIn_Q ?_ (EO_ok E hE Fe n hF F1 w1 act (hr.vf.vf o) hr.sat)
      rintro act' w' ⟨v, F', H', r, rfl, h1, h2, h3, h4⟩
      exact ER_ok E hF hQ os _ F' H' w' _ h4 (hr.step hd' h1 h2 h3) (he.trans h3)
    have skip : ER E N ops os (put a o.dst (.t [])) H1 K → wpListIn Fe n P ops Q os (act.put o.dst undef) w1 := fun hE =>
      ER_ok E hF hQ os _ F1 H1 w1 _ hE (hr.step hd' (V.t_of (cs := #[]) (Vs.nil F1)) hr.sat (Ext.refl _ _ _)) he
    have habout : ∀ f, o.about P w1 act.eval = some f → Fe.fn f := fun f _ => hF.fn f
    split at h
    · rename_i hg
      refine wpListIn_plain hg ?_
      intro K' hK'
      exact Oper.wpIn_mono hK' (go h)
    · rename_i j want hg
      split at h
      · rename_i b hb
        have hy := gv_ok hr.vf hb
        have hw : Region.wanted o (yielded ops act.tmps) = (b == want) := by
          simp [Region.wanted, hg, hy]
        unfold wpListIn
        by_cases e : b = want
        · rw [if_pos (by rw [hw]; simp [e])]
          exact go (h.1 e)
        · rw [if_neg (by rw [hw]; simp [e])]
          exact ⟨habout, skip (h.2 (by cases b <;> cases want <;> simp_all))⟩
      · obtain ⟨hu, h⟩ := h
        have hw : Region.wanted o (yielded ops act.tmps) = false := by
          simp [Region.wanted, hg, gu_ok hr.vf hu]
        unfold wpListIn
        rw [if_neg (by rw [hw]; simp)]
        exact ⟨habout, skip h⟩
end Go.Proofs.Ytlbdpnlmdcajbaa
