/- General lemmas, over whatever program: slices that read as lists, slices that a call owns, and the walk's laws for append in that form. -/
import Derived.WalkKit
import Derived.WalkLawsBesides
import Derived.WalkSpells
import Derived.BigQuiet
import Derived.Deep.QuietTactic
import Derived.Handy
import Derived.Lib.Hide
import Derived.Deep.RegionHeld3
import Derived.Deep.DeepMust
import Derived.Deep.DeepCutAuto
namespace Go.Proofs.Ytipblkdekppbfaa
open Go.RowKit

/-- How an element lies in cells. -/
structure Enc (α : Type) where
  f : α → List Value
  sz : Nat
  e : TypeId
  bytes : Nat
  len : ∀ x, (f x).length = sz
  one : ∀ x, ∀ u ∈ f x, u.oneCell' = true
  pos : 0 < sz

def Enc.ok {α : Type} (E : Enc α) (P : Program) : Prop :=
  ∃ i z, P.info? E.e = some i ∧ i.zero = some z ∧ i.size = E.sz ∧ i.bytes = E.bytes ∧ z.cells.size = E.sz

theorem Enc.ok_of {α : Type} {E : Enc α} {P : Program} {z : Value} (h : (P.info? E.e).map (fun i => (i.zero, i.size, i.bytes)) = some (some z, E.sz, E.bytes)) (hz : z.cells.size = E.sz) : E.ok P := by
  obtain ⟨i, h1, h2, h3, h4⟩ := info_parts h
  exact ⟨i, z, h1, h2, h3, h4, hz⟩

theorem Enc.flat_len {α : Type} (E : Enc α) (l : List α) : (l.flatMap E.f).length = l.length * E.sz := by
  induction l with
  | nil => simp
  | cons x l ih => simp [List.flatMap_cons, E.len, ih, Nat.add_mul]; omega

theorem Enc.flat_get {α : Type} (E : Enc α) : ∀ (l : List α) (i : Nat) (h : i < l.length) (j : Nat), j < E.sz → (l.flatMap E.f)[i * E.sz + j]? = (E.f l[i])[j]?
  | x :: l, 0, _, j, hj => by
    simp only [List.flatMap_cons, Nat.zero_mul, Nat.zero_add, List.getElem_cons_zero]
    rw [List.getElem?_append_left (by rw [E.len]; exact hj)]
  | x :: l, i + 1, h, j, hj => by
    simp only [List.flatMap_cons, List.getElem_cons_succ]
    rw [List.getElem?_append_right (by rw [E.len, Nat.add_mul]; omega), E.len]
    rw [show (i + 1) * E.sz + j - E.sz = i * E.sz + j by rw [Nat.add_mul]; omega]
    exact Enc.flat_get E l i (by simpa using h) j hj

/-- A slice reads as the list l in the world w. -/
structure Sl {α : Type} (E : Enc α) (w : World) (v : Value) (l : List α) : Prop where
  ex : ∃ a cap, v = .slice a l.length cap ∧ l.length ≤ cap ∧ cap ≤ maxLen ∧ (a = none → cap = 0) ∧
    ∀ x, a = some x → 0 < cap → x.spot = none ∧ x.block < w.heap.size ∧ ∀ i (h : i < l.length) j u, (E.f l[i])[j]? = some u → w.cell? ⟨x.block, x.off + i * E.sz + j, none⟩ = some u

theorem Sl.below {α : Type} {E : Enc α} {w w' : World} {v : Value} {l : List α} {B : Nat} (h : Sl E w v l) (hb : Below B w w') (hB : w.heap.size ≤ B) : Sl E w' v l := by
  obtain ⟨a, cap, rfl, h1, h2, h3, h4⟩ := h.ex
  refine ⟨a, cap, rfl, h1, h2, h3, fun x hx hc0 => ?_⟩
  obtain ⟨p, q, r⟩ := h4 x hx hc0
  exact ⟨p, Nat.lt_of_lt_of_le q hb.size, fun i hi j u hu => by rw [hb.cell (by show x.block < B; omega)]; exact r i hi j u hu⟩

theorem Sl.le {α : Type} {E : Enc α} {w w' : World} {v : Value} {l : List α} (h : Sl E w v l) (hb : Below w.heap.size w w') : Sl E w' v l := h.below hb (Nat.le_refl _)

theorem Sl.nil {α : Type} (E : Enc α) (w : World) : Sl E w (.slice none 0 0) ([] : List α) :=
  ⟨none, 0, rfl, Nat.le_refl _, by simp [maxLen], fun _ => rfl, fun x hx => by cases hx⟩

/-- A slice that the call owns, with the list l in it. -/
def Own {α : Type} (E : Enc α) (w : World) (base : Nat) (v : Value) (l : List α) : Prop := w.ownsRow base E.e E.sz v l.length (l.flatMap E.f)

theorem Own.nil {α : Type} (E : Enc α) (w : World) (base : Nat) : Own E w base (.slice none 0 0) ([] : List α) := World.ownsRow_nil _ _ _ _

theorem Own.sl {α : Type} {E : Enc α} {w : World} {base : Nat} {v : Value} {l : List α} (h : Own E w base v l) : Sl E w v l := by
  have h' := h
  obtain ⟨h1, ⟨rfl, h2⟩ | ⟨g, cap, cur, rfl, hb, hg, hn, hm, hs, ht⟩⟩ := h'
  · obtain rfl := List.eq_nil_of_length_eq_zero h2
    exact Sl.nil E w
  · refine ⟨some ⟨g, 0, none⟩, cap, rfl, hn, hm, (fun hx => by cases hx), fun x hx _ => ?_⟩
    obtain rfl := Option.some.inj hx
    refine ⟨rfl, (Array.getElem?_eq_some_iff.1 hg).1, fun i hi j u hu => ?_⟩
    have hj : j < E.sz := by
      have := (List.getElem?_eq_some_iff.1 hu).1
      rwa [E.len] at this
    have hq := World.ownsRow.cells h (g := g) rfl (i * E.sz + j) u (by rw [E.flat_get l i hi j hj]; exact hu)
    rw [Addr.add_lit] at hq
    simpa [Nat.add_assoc] using hq

theorem Own.lt {α : Type} {E : Enc α} {w : World} {base : Nat} {v : Value} {l : List α} (h : Own E w base v l) : ∀ k, v.ownBlock = some k → base ≤ k ∧ k < w.heap.size := World.ownsRow.lt h

theorem Own.mono {α : Type} {E : Enc α} {w : World} {base base' : Nat} {v : Value} {l : List α} (h : Own E w base v l) (hb : base' ≤ base) : Own E w base' v l := by
  obtain ⟨h1, h2 | ⟨g, cap, cur, hv, hg, r⟩⟩ := h
  · exact ⟨h1, .inl h2⟩
  · exact ⟨h1, .inr ⟨g, cap, cur, hv, by omega, r⟩⟩

/-- What is owned stays owned while nothing below the heap's size turns. -/
theorem Own.le {α : Type} {E : Enc α} {w w' : World} {base : Nat} {v : Value} {l : List α} (h : Own E w base v l) (hb : Below w.heap.size w w') : Own E w' base v l := by
  obtain ⟨h1, h2 | ⟨g, cap, cur, hv, hg, hh, r⟩⟩ := h
  · exact ⟨h1, .inl h2⟩
  · exact ⟨h1, .inr ⟨g, cap, cur, hv, hg, by rw [hb.block g (Array.getElem?_eq_some_iff.1 hh).1]; exact hh, r⟩⟩

theorem Own.grown {α : Type} {E : Enc α} {w w' : World} {base : Nat} {v : Value} {l : List α} {row : Option Nat} (h : Own E w base v l) (hg : w.grownBy w' row) (hne : v.ownBlock = none ∨ v.ownBlock ≠ row) : Own E w' base v l := World.ownsRow.kept h hg hne

/-- A slice literal. -/
theorem Own.made {α : Type} (E : Enc α) (w : World) (l : List α) (C : Array Value) (hC : C = (l.flatMap E.f).toArray) (hl : l.length ≤ maxLen) (base : Nat) (hb : base ≤ w.heap.size) (n : Nat) (hn : n = l.length) :
    Own E (w.alloc (.cells C E.e)) base (.slice (some ⟨w.heap.size, 0, none⟩) n n) l := by
  subst hC
  subst hn
  have := World.ownsRow_lit (base := base) (e := E.e) (size := E.sz) w (l.flatMap E.f).toArray l.length hb hl (by simp [E.flat_len])
  simpa [Own] using this

/-- two steps, one behind the other -/
theorem bt {a b c : World} (h : Below a.heap.size a b) (k : Below b.heap.size b c) : Below a.heap.size a c := h.trans (k.mono h.size)

theorem below_alloc (w : World) (o : Obj) : Below w.heap.size w (w.alloc o) := (Below.refl _ _).alloc (Nat.le_refl _) _

section
variable {P : Program} {ops : Array Oper} {rest : List Oper} {o : Oper} {a : Act} {Q : Exit → Act → World → Prop} {α : Type}

/-- An operation whose guard says yes is as one with none. -/
theorem wpl_guard {w : World} (hw : Region.wanted o (yielded ops a.tmps) = true) (h : wpList P ops Q ({ o with guard := none } :: rest) a w) : wpList P ops Q (o :: rest) a w := by
  have e : ∀ (W : World), (execOp a.eval { o with guard := none }) = execOp a.eval o := fun _ => by cases o; rfl
  unfold wpList at h ⊢
  rw [if_pos hw]
  rw [if_pos (by simp [Region.wanted])] at h
  simpa [Oper.wp, Oper.asks, e w, Oper.upon] using h

/-- 'append(s, x)', s the call's own, one element, which lies in a block that has just been made. -/
theorem wpl_app1 {w : World} {C : Array Value} {ce : TypeId} {base : Nat} {v : Value} {l : List α} {E : Enc α} (hE : E.ok P) (hown : Own E w base v l) (x : α) (hC : C = (E.f x).toArray)
    (hgd : o.guard = none) {s y : Operand} {t : TypeId} (ho : o.op = .call { callee := .builtin .append, args := #[s, y], argTypes := #[t, t] })
    (ht : P.underlying t = some (.slice E.e)) (hs : a.eval s = v) (hx : a.eval y = .slice (some ⟨w.heap.size, 0, none⟩) 1 1)
    (h63 : l.length + 1 ≤ maxLen) (hbytes : (l.length + 1) * E.bytes ≤ 140737488355328) (hbase : base ≤ w.heap.size)
    (h : ∀ v' w', Own E w' base v' (l ++ [x]) → Below base w w' → w.grownBy w' v.ownBlock → wpList P ops Q rest (a.put o.dst v') w') :
    wpList P ops Q (o :: rest) a (w.alloc (.cells C ce)) := by
  obtain ⟨i, z, hi, hz, hs1, hs2, hzs⟩ := hE
  subst hC
  have hcell : ∀ j u, (E.f x)[j]? = some u → (w.alloc (.cells (E.f x).toArray ce)).cell? ((⟨w.heap.size, 0, none⟩ : Addr).add j) = some u := by
    intro j u hu
    rw [Addr.add_lit, cell_of_row _ w.heap.size (0 + j) _ ce (0, 0) (heap_alloc_new w _)]
    simpa using hu
  refine wpList_append_own (w.alloc _) hgd s y t ho base E.e i z E.sz E.bytes ht hi hz hs1 hs2 hzs E.pos v l.length (l.flatMap E.f) hs (World.ownsRow.alloc hown _)
    ⟨w.heap.size, 0, none⟩ 1 1 (E.f x) hx (by rw [E.len, Nat.one_mul]) hcell (E.one x) h63 hbytes (by simp; omega) ?_
  intro v' w' ho' hg _
  have hlt : ∀ k, v.ownBlock = some k → base ≤ k := fun k hk => (Own.lt hown k hk).1
  refine h v' w' ?_ ?_ ?_
  · show w'.ownsRow base E.e E.sz v' (l ++ [x]).length ((l ++ [x]).flatMap E.f)
    simpa [List.flatMap_append] using ho'
  · exact ((Below.refl base w).alloc hbase _).grown hg (by simp; omega) hlt
  · exact ⟨hg.os, hg.tape, hg.output, Nat.le_trans (by simp) hg.size, fun k hk hne => by rw [hg.block k (by simp; omega) hne, Below.heap_alloc w _ k hk]⟩

/-- 'append(s, x...)', s the call's own, x whatever slice. -/
theorem wpl_app {w : World} {base : Nat} {v vx : Value} {l m : List α} {E : Enc α} (hE : E.ok P) (hown : Own E w base v l) (hm : Sl E w vx m)
    (hgd : o.guard = none) {s y : Operand} {t : TypeId} (ho : o.op = .call { callee := .builtin .append, args := #[s, y], argTypes := #[t, t] })
    (ht : P.underlying t = some (.slice E.e)) (hs : a.eval s = v) (hx : a.eval y = vx)
    (h63 : l.length + m.length ≤ maxLen) (hbytes : (l.length + m.length) * E.bytes ≤ 140737488355328) (hbase : base ≤ w.heap.size)
    (h : ∀ v' w', Own E w' base v' (l ++ m) → Below base w w' → w.grownBy w' v.ownBlock → wpList P ops Q rest (a.put o.dst v') w') :
    wpList P ops Q (o :: rest) a w := by
  obtain ⟨i, z, hi, hz, hs1, hs2, hzs⟩ := hE
  obtain ⟨ad, cap, rfl, h1, h2, h3, h4⟩ := hm.ex
  have hlt : ∀ k, v.ownBlock = some k → base ≤ k := fun k hk => (Own.lt hown k hk).1
  cases ad with
  | none =>
    have hc0 := h3 rfl
    have hm0 : m = [] := List.eq_nil_of_length_eq_zero (by omega)
    subst hm0
    refine wpList_plain hgd fun K hK' => ?_
    have hrun := run_append_owned_none (P := P) w base t o.type E.e i E.sz ht hi v l.length (l.flatMap E.f) hown
    unfold Oper.wp
    subst hc0
    simp only [List.length_nil] at hx hrun ⊢
    simp [execOp, ho, resolve, invoke, builtin, hs, hx, hrun, Result.andThen]
    exact hK' _ _ (h v w (by simpa using hown) (Below.refl _ _) (World.grownBy.refl _ _))
  | some ad =>
    have hcell' : ∀ j u, (m.flatMap E.f)[j]? = some u → w.cell? (ad.add j) = some u := by
      intro j u hu
      have hj : j < m.length * E.sz := by rw [← E.flat_len]; exact (List.getElem?_eq_some_iff.1 hu).1
      have hq : j / E.sz < m.length := Nat.div_lt_of_lt_mul (by rw [Nat.mul_comm]; exact hj)
      obtain ⟨hsp, hbl, hcell⟩ := h4 ad rfl (Nat.lt_of_lt_of_le (Nat.lt_of_le_of_lt (Nat.zero_le _) hq) h1)
      obtain ⟨b, off, sp⟩ := ad
      simp only at hsp hbl hcell
      subst hsp
      have hr : j % E.sz < E.sz := Nat.mod_lt _ E.pos
      have hjj : j = j / E.sz * E.sz + j % E.sz := by rw [Nat.mul_comm]; exact (Nat.div_add_mod j E.sz).symm
      rw [hjj, E.flat_get m _ hq _ hr] at hu
      have := hcell _ hq _ _ hu
      rw [Addr.add_lit, hjj, ← Nat.add_assoc]
      exact this
    refine wpList_append_own w hgd s y t ho base E.e i z E.sz E.bytes ht hi hz hs1 hs2 hzs E.pos v l.length (l.flatMap E.f) hs hown
      ad m.length cap (m.flatMap E.f) hx (E.flat_len m) hcell' (by intro u hu; obtain ⟨x, _, hx⟩ := List.mem_flatMap.1 hu; exact E.one x u hx) h63 hbytes hbase ?_
    intro v' w' ho' hg _
    refine h v' w' ?_ ?_ hg
    · show w'.ownsRow base E.e E.sz v' (l ++ m).length ((l ++ m).flatMap E.f)
      simpa [List.flatMap_append] using ho'
    · exact (Below.refl base w).grown hg hbase hlt
end

/-! bytes -/
def encB (e : TypeId) : Enc UInt8 := { f := fun u => [.int .u8 (u.toNat : Int)], sz := 1, e := e, bytes := 1, len := fun _ => rfl, one := by intro x u hu; simp at hu; subst hu; rfl, pos := by omega }

theorem Sl.byte {w : World} {v : Value} {l : List UInt8} {e : TypeId} (h : Sl (encB e) w v l) : ∃ a cap, v = .slice a l.length cap ∧ l.length ≤ cap ∧ cap ≤ maxLen ∧ (a = none → l = []) ∧
    (∀ k, k < l.length → ∃ b off, a = some ⟨b, off, none⟩ ∧ b < w.heap.size ∧ ∀ i (h : i < l.length), w.cell? ⟨b, off + i, none⟩ = some (.int .u8 (l[i].toNat : Int))) := by
  obtain ⟨a, cap, rfl, h1, h2, h3, h4⟩ := h.ex
  refine ⟨a, cap, rfl, h1, h2, fun ha => List.eq_nil_of_length_eq_zero (by have := h3 ha; omega), fun k hk => ?_⟩
  cases a with
  | none => have := h3 rfl; omega
  | some x =>
    obtain ⟨p, q, r⟩ := h4 x rfl (by omega)
    obtain ⟨b, off, sp⟩ := x
    simp only at p q r
    subst p
    refine ⟨b, off, rfl, q, fun i hi => ?_⟩
    have := r i hi 0 (.int .u8 (l[i].toNat : Int)) rfl
    simpa [encB] using this

/-- 'string(b)' of a slice that reads as l. -/
theorem Sl.conv {P : Program} {w : World} {v : Value} {l : List UInt8} {e src dst : TypeId} (h : Sl (encB e) w v l) (hs : P.underlying src = some (.slice e)) (he : P.underlying e = some (.int .u8)) (hd : P.underlying dst = some .string) :
    (convert src dst v).run P w = .ok (.string ⟨l.toArray⟩) w := by
  obtain ⟨a, cap, rfl, h1, h2, h3, h4⟩ := h.byte
  cases l with
  | nil =>
    obtain ⟨a', cap', hv, _, _, h3', h4'⟩ := h.ex
    cases a with
    | none => exact run_convert_bytes_nil w src e hs he _ _ dst hd
    | some x =>
      have hl : (loadCells x 0).run P w = .ok #[] w := by
        have := run_loadCells_list (P := P) w x [] (fun j v hj => by simp at hj)
        simpa using this
      rw [List.length_nil, run_convert_bytes_string w src dst e _ 0 cap hs he hd, run_bytesToString w _ 0 cap [] (by simpa using hl), foldl_push_bytes]
      rfl
  | cons c l =>
    obtain ⟨b, off, rfl, _, hc⟩ := h4 0 (by simp)
    have := run_convert_bytes_arg (P := P) w src e hs he b off (c :: l).length cap ((c :: l).map fun u => (u.toNat : Int)) (by simp) (by
      intro i hi
      rw [hc i hi]
      have : ((c :: l).map fun u => (u.toNat : Int)).getD i 0 = ((c :: l)[i].toNat : Int) := by
        rw [List.getD_eq_getElem?_getD, List.getElem?_map, List.getElem?_eq_getElem hi]; rfl
      rw [this]) dst hd
    have e1 : strOfNums ((c :: l).map fun u => (u.toNat : Int)) = ⟨(c :: l).toArray⟩ := by
      apply ByteArray.ext
      apply Array.ext'
      rw [strOfNums_data]
      rw [List.map_map]
      have : ((fun n : Int => UInt8.ofNat n.toNat) ∘ fun u : UInt8 => (u.toNat : Int)) = id := by funext u; simp
      rw [this]; simp
    rw [this, e1]

theorem beq_bytes (a b : List UInt8) : ((⟨a.toArray⟩ : ByteArray) == ⟨b.toArray⟩) = decide (a = b) := by
  show (a.toArray == b.toArray) = _
  by_cases h : a = b
  · subst h; simp
  · simp [h]

theorem and255_u64 (x : Int) (h0 : 0 ≤ x) (h1 : x ≤ 18446744073709551615) : bits BinOp.and IntKind.u64 x 255 = x % 256 := by
  have h := bits_and_u64_nat x.toNat 255 (by omega) (by omega)
  rw [show (255 : Nat) = 2 ^ 8 - 1 from rfl, Nat.and_two_pow_sub_one_eq_mod, Int.toNat_of_nonneg h0] at h
  have h2 : ((x.toNat % 2 ^ 8 : Nat) : Int) = x % 256 := by omega
  exact h.trans h2

theorem or_u64 (x y : Int) (i : Nat) (hx0 : 0 ≤ x) (hx : x % 2 ^ i = 0) (hx1 : x < 18446744073709551616) (hy0 : 0 ≤ y) (hy : y < 2 ^ i) (hi : i ≤ 64) : bits BinOp.or IntKind.u64 x y = x + y :=
  bits_join .u64 64 (by decide) (fun n h0 h1 => by rw [IntKind.wrap_u64]; omega) i x y hx0 hx hx1 hy0 hy (Int.lt_of_lt_of_le hy (by
    have : (2 : Nat) ^ i ≤ 2 ^ 64 := Nat.pow_le_pow_right (by decide) hi
    exact_mod_cast this))

/-- 's[n:]' -/
theorem Sl.slice_lo {α : Type} {E : Enc α} {P : Program} (hE : E.ok P) {t : TypeId} (ht : P.underlying t = some (.slice E.e)) {w : World} {a : Option Addr} {len cap : Nat} {l : List α} (h : Sl E w (.slice a len cap) l) (k : IntKind) (n : Int) (h0 : 0 ≤ n) (h1 : n ≤ l.length) :
    ∃ A C, (∀ wx, (Instr.slice t (.slice a len cap) (some (.int k n)) none none).run P wx = .ok (.slice A (l.length - n.toNat) C) wx) ∧ Sl E w (.slice A (l.length - n.toNat) C) (l.drop n.toNat) ∧ (∀ x, A = some x → ∃ y, a = some y ∧ x.block = y.block ∧ (n.toNat < l.length → x.off = y.off + n.toNat * E.sz)) := by
  obtain ⟨a', cap', hv, g1, g2, g3, g4⟩ := h.ex
  simp only [Value.slice.injEq] at hv
  obtain ⟨rfl, rfl, rfl⟩ := hv
  obtain ⟨i, z, hi, hz, hs1, hs2, hzs⟩ := hE
  obtain ⟨m, rfl⟩ := Int.eq_ofNat_of_zero_le h0
  have hm : m ≤ l.length := by omega
  have hte : P.elem t = E.e := by simp [Program.elem, ht]
  have hsz : ∀ wx, (sizeOf (P.elem t)).run P wx = .ok E.sz wx := fun wx => by rw [hte]; simp [sizeOf, typeInfo, hi, hs1]
  refine ⟨if cap = m then a else a.map (·.add (m * E.sz)), cap - m, fun wx => ?_, ⟨_, _, by rw [List.length_drop], by rw [List.length_drop]; omega, by omega, ?_, ?_⟩, ?_⟩
  · rw [run_slice_l wx t a l.length cap (by rw [hte]; exact ht) k (m : Int) h0 h1, hsz]
    simp [Result.andThen, sliced]
  · intro hA
    by_cases hc : cap = m
    · omega
    · rw [if_neg hc] at hA
      cases a with
      | none => have := g3 rfl; omega
      | some x => simp at hA
  · intro x hx hc0
    by_cases hc : cap = m
    · rw [if_pos hc] at hx
      obtain ⟨p, q, r⟩ := g4 x hx (by omega)
      refine ⟨p, q, fun i hi => ?_⟩
      rw [List.length_drop] at hi; omega
    · rw [if_neg hc] at hx
      cases a with
      | none => simp at hx
      | some y =>
        obtain ⟨b, o, sp⟩ := y
        obtain ⟨p, q, r⟩ := g4 _ rfl (by omega)
        simp only at p q r
        subst p
        simp only [Option.map_some, Option.some.injEq, Addr.add_lit] at hx
        subst hx
        refine ⟨rfl, q, fun i hi j u hu => ?_⟩
        rw [List.length_drop] at hi
        rw [List.getElem_drop] at hu
        have := r (m + i) (by omega) j u hu
        rw [← this]
        congr 2
        show o + m * E.sz + i * E.sz + j = _
        rw [Nat.add_mul]; omega
  · intro x hx
    by_cases hc : cap = m
    · rw [if_pos hc] at hx
      exact ⟨x, hx, rfl, fun h => by simp only [Int.toNat_natCast] at h; omega⟩
    · rw [if_neg hc] at hx
      cases a with
      | none => simp at hx
      | some y =>
        obtain ⟨b, o, sp⟩ := y
        obtain ⟨p, q, r⟩ := g4 _ rfl (by omega)
        simp only at p
        subst p
        simp only [Option.map_some, Option.some.injEq, Addr.add_lit] at hx
        subst hx
        exact ⟨_, rfl, rfl, fun _ => rfl⟩

theorem Sl.take {α : Type} {E : Enc α} {w : World} {a : Option Addr} {len cap : Nat} {l : List α} (h : Sl E w (.slice a len cap) l) (n c : Nat) (hn : n ≤ l.length) (hc : n ≤ c) (hc2 : c ≤ cap) : Sl E w (.slice a n c) (l.take n) := by
  obtain ⟨a', cap', hv, g1, g2, g3, g4⟩ := h.ex
  simp only [Value.slice.injEq] at hv
  obtain ⟨rfl, rfl, rfl⟩ := hv
  refine ⟨a, c, by rw [List.length_take, Nat.min_eq_left hn], by rw [List.length_take]; omega, by omega, fun ha => by have := g3 ha; omega, fun x hx hc0 => ?_⟩
  obtain ⟨p, q, r⟩ := g4 x hx (by omega)
  refine ⟨p, q, fun i hi j u hu => ?_⟩
  rw [List.length_take] at hi
  rw [List.getElem_take] at hu
  exact r i (by omega) j u hu

/-- 's[:n]' -/
theorem Sl.slice_hi {α : Type} {E : Enc α} {P : Program} (hE : E.ok P) {t : TypeId} (ht : P.underlying t = some (.slice E.e)) {w : World} {a : Option Addr} {len cap : Nat} {l : List α} (h : Sl E w (.slice a len cap) l) (k : IntKind) (n : Int) (h0 : 0 ≤ n) (h1 : n ≤ l.length) :
    (∀ wx, (Instr.slice t (.slice a len cap) none (some (.int k n)) none).run P wx = .ok (.slice a n.toNat cap) wx) ∧ Sl E w (.slice a n.toNat cap) (l.take n.toNat) := by
  obtain ⟨a', cap', hv, g1, g2, g3, g4⟩ := h.ex
  simp only [Value.slice.injEq] at hv
  obtain ⟨rfl, rfl, rfl⟩ := hv
  refine ⟨fun wx => ?_, h.take n.toNat cap (by omega) (by omega) (Nat.le_refl _)⟩
  obtain ⟨i, z, hi, hz, hs1, hs2, hzs⟩ := hE
  have hte : P.elem t = E.e := by simp [Program.elem, ht]
  have hsz : ∀ wx, (sizeOf (P.elem t)).run P wx = .ok E.sz wx := fun wx => by rw [hte]; simp [sizeOf, typeInfo, hi, hs1]
  rw [run_slice_h wx t a l.length cap (by rw [hte]; exact ht) k n h0 (by omega), hsz]
  cases a <;> simp [Result.andThen, sliced, Addr.add]

/-- 's[:n:m]' -/
theorem Sl.slice_him {α : Type} {E : Enc α} {P : Program} (hE : E.ok P) {t : TypeId} (ht : P.underlying t = some (.slice E.e)) {w : World} {a : Option Addr} {len cap : Nat} {l : List α} (h : Sl E w (.slice a len cap) l) (k k' : IntKind) (n m : Int) (h0 : 0 ≤ n) (h1 : n ≤ l.length) (h2 : n ≤ m) (h3 : m ≤ cap) :
    (∀ wx, (Instr.slice t (.slice a len cap) none (some (.int k n)) (some (.int k' m))).run P wx = .ok (.slice a n.toNat m.toNat) wx) ∧ Sl E w (.slice a n.toNat m.toNat) (l.take n.toNat) := by
  obtain ⟨a', cap', hv, g1, g2, g3, g4⟩ := h.ex
  simp only [Value.slice.injEq] at hv
  obtain ⟨rfl, rfl, rfl⟩ := hv
  refine ⟨fun wx => ?_, h.take n.toNat m.toNat (by omega) (by omega) (by omega)⟩
  obtain ⟨i, z, hi, hz, hs1, hs2, hzs⟩ := hE
  have hte : P.elem t = E.e := by simp [Program.elem, ht]
  have hsz : ∀ wx, (sizeOf (P.elem t)).run P wx = .ok E.sz wx := fun wx => by rw [hte]; simp [sizeOf, typeInfo, hi, hs1]
  rw [run_slice_hm wx t a l.length cap (by rw [hte]; exact ht) k k' n m h0 h2 h3, hsz]
  cases a <;> simp [Result.andThen, sliced, Addr.add]

/-- What is read stays as it was where another block alone is written. -/
theorem Sl.grown {α : Type} {E : Enc α} {w w' : World} {v : Value} {l : List α} {row : Option Nat} (h : Sl E w v l) (hg : w.grownBy w' row) (hne : v.ownBlock = none ∨ v.ownBlock ≠ row) : Sl E w' v l := by
  obtain ⟨a, cap, rfl, h1, h2, h3, h4⟩ := h.ex
  refine ⟨a, cap, rfl, h1, h2, h3, fun x hx hc0 => ?_⟩
  subst hx
  obtain ⟨p, q, r⟩ := h4 x rfl hc0
  have hb : w'.heap[x.block]? = w.heap[x.block]? := hg.block _ q (by simpa [Value.ownBlock] using hne)
  exact ⟨p, Nat.lt_of_lt_of_le q hg.size, fun i hi j u hu => by rw [World.cell?_of_block (by exact hb)]; exact r i hi j u hu⟩

theorem grown_below {B : Nat} {w w' : World} {row : Option Nat} (hg : w.grownBy w' row) (hB : B ≤ w.heap.size) (hr : ∀ k, row = some k → B ≤ k) : Below B w w' := (Below.refl B w).grown hg hB hr

theorem grown_trans {a b c : World} {row : Option Nat} (h : a.grownBy b row) (k : b.grownBy c row) : a.grownBy c row :=
  ⟨k.os.trans h.os, k.tape.trans h.tape, k.output.trans h.output, Nat.le_trans h.size k.size, fun i hi hne => (k.block i (Nat.lt_of_lt_of_le hi h.size) hne).trans (h.block i hi hne)⟩

theorem grown_of_below {a b : World} (h : Below a.heap.size a b) (row : Option Nat) : a.grownBy b row := ⟨h.os, h.tape, h.output, h.size, fun k hk _ => h.block k hk⟩

/-- a store below what is read -/
theorem grown_setCell (w : World) (b i : Nat) (v : Value) : w.grownBy (w.setCell ⟨b, i, none⟩ v) (some b) :=
  ⟨rfl, rfl, rfl, by simp, fun k hk hne => by rw [Below.heap_setCell]; intro e; apply hne; rw [e]⟩

theorem grown_drew {w w' : World} {row : Option Nat} (h : w.grownBy w' row) : w.grownBy w'.drew row := ⟨h.os, h.tape, h.output, h.size, h.block⟩

theorem grown_trans_new {a b c : World} {row row' : Option Nat} (h : a.grownBy b row) (k : b.grownBy c row') (hr : ∀ k, row' = some k → a.heap.size ≤ k) : a.grownBy c row :=
  ⟨k.os.trans h.os, k.tape.trans h.tape, k.output.trans h.output, Nat.le_trans h.size k.size, fun i hi hne => (k.block i (Nat.lt_of_lt_of_le hi h.size) (fun e => by have := hr i e.symm; omega)).trans (h.block i hi hne)⟩

theorem alloc2 (w : World) (X Y : Obj) : ((w.alloc X).alloc Y).heap[w.heap.size]? = some X ∧ ((w.alloc X).alloc Y).heap[w.heap.size + 1]? = some Y ∧ Below w.heap.size w ((w.alloc X).alloc Y) :=
  ⟨heap_alloc2_old _ _ _, heap_alloc2_new _ _ _, (below_alloc w _).alloc (by simp) _⟩

theorem alloc3 (w : World) (X Y Z : Obj) : (((w.alloc X).alloc Y).alloc Z).heap[w.heap.size]? = some X ∧ (((w.alloc X).alloc Y).alloc Z).heap[w.heap.size + 1]? = some Y ∧ (((w.alloc X).alloc Y).alloc Z).heap[w.heap.size + 1 + 1]? = some Z ∧ Below w.heap.size w (((w.alloc X).alloc Y).alloc Z) := by
  refine ⟨?_, ?_, ?_, ((below_alloc w _).alloc (by simp) _).alloc (by simp; omega) _⟩
  · rw [Below.heap_alloc _ _ _ (by simp; omega), Below.heap_alloc _ _ _ (by simp)]; exact heap_alloc_new w X
  · rw [Below.heap_alloc _ _ _ (by simp)]
    have := heap_alloc_new (w.alloc X) Y
    simpa using this
  · have := heap_alloc_new ((w.alloc X).alloc Y) Z
    simpa using this

theorem ne_of_kind {w : World} {b b' : Nat} {c c' : Array Value} {t t' : TypeId} (h : w.heap[b]? = some (.cells c t (0, 0))) (h' : w.heap[b']? = some (.cells c' t' (0, 0))) (ht : t ≠ t') : b ≠ b' := by
  rintro rfl
  rw [h] at h'
  simp only [Option.some.injEq, Obj.cells.injEq] at h'
  exact ht h'.2.1

theorem snocRec {α : Type} {p : List α → Prop} (nil : p []) (snoc : ∀ l a, p l → p (l ++ [a])) (l : List α) : p l := by
  have : ∀ n (l : List α), l.length = n → p l := by
    intro n
    induction n with
    | zero => intro l h; rw [List.eq_nil_of_length_eq_zero h]; exact nil
    | succ n ih =>
      intro l h
      rcases List.eq_nil_or_concat l with rfl | ⟨m, c, rfl⟩
      · exact nil
      · rw [List.concat_eq_append] at h ⊢
        exact snoc m c (ih m (by simpa using h))
  exact this _ l rfl

/-- What a block that is known whole tells the walk. -/
theorem blk {w : World} {b : Nat} {cs : Array Value} {t : TypeId} (h : w.heap[b]? = some (.cells cs t (0, 0))) : (∀ j, w.cell? ⟨b, j, none⟩ = cs[j]?) ∧ (∀ j, w.frozen? ⟨b, j, none⟩ = false) :=
  ⟨fun j => cell_of_row w b j cs t _ h, fun j => frozen_of_row w b j cs t h⟩

theorem blk2 {w : World} {b : Nat} {x y : Value} {t : TypeId} (h : w.heap[b]? = some (.cells #[x, y] t (0, 0))) : w.cell? ⟨b, 0, none⟩ = some x ∧ w.cell? ⟨b, 1, none⟩ = some y ∧ (∀ j, w.frozen? ⟨b, j, none⟩ = false) :=
  ⟨cell_of_row w b 0 _ _ _ h, cell_of_row w b 1 _ _ _ h, fun j => frozen_of_row w b j _ _ h⟩

theorem blk_below {w w' : World} {B b : Nat} {o : Obj} (h : w.heap[b]? = some o) (hb : Below B w w') (hB : b < B) : w'.heap[b]? = some o := (hb.block b hB).trans h

theorem blk_le {w w' : World} {b : Nat} {o : Obj} (h : w.heap[b]? = some o) (hb : Below w.heap.size w w') : w'.heap[b]? = some o := blk_below h hb (lt_of_block h)

theorem blk_set {w : World} {b i : Nat} {cs : Array Value} {t : TypeId} (h : w.heap[b]? = some (.cells cs t (0, 0))) (v : Value) : (w.setCell ⟨b, i, none⟩ v).heap[b]? = some (.cells (cs.setIfInBounds i v) t (0, 0)) := heap_setCell_same w b i cs t v h

/-- A store of what is there already. -/
theorem setCell_same {w : World} {b : Nat} {v : Value} {t : TypeId} (h : w.heap[b]? = some (.cells #[v] t (0, 0))) : w.setCell ⟨b, 0, none⟩ v = w := by
  have : (w.setCell ⟨b, 0, none⟩ v).heap = w.heap := by
    apply Array.ext_getElem?
    intro i
    by_cases hi : i = b
    · subst hi
      rw [heap_setCell_same w i 0 #[v] t v h, h]; rfl
    · rw [Below.heap_setCell _ _ _ _ hi]
  have e : w.setCell ⟨b, 0, none⟩ v = { w with heap := (w.setCell ⟨b, 0, none⟩ v).heap } := rfl
  rw [e, this]

theorem take_snoc {α : Type} (l : List α) (k : Nat) (h : k < l.length) : l.take (k + 1) = l.take k ++ [l[k]] := List.take_succ_eq_append_getElem h

end Go.Proofs.Ytipblkdekppbfaa
