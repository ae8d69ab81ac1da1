/- The words for abstract values and memory (39 to 47). -/
import Derived.Test.YtlbdpnlmdcajbaaMC
import Derived.Maps.RangeRun
import Derived.Lib.Overlaps
import Derived.Lib.AppendZerosOnto
import Derived.Laws.Bits64b
/- Halves; where a row's beginning ends. -/
namespace Go.Proofs.Ytlbdpnlmdcajbaa
open Go.RowKit
set_option linter.all false

theorem Flat.t {xs : List AV} (h : ∀ x ∈ xs, Flat x) : Flat (.t xs) := fun F F' v hv => by
  obtain ⟨cs, rfl, h1, h2⟩ := hv.t_inv
  exact V.t_of ⟨h1, fun i y hy => h y (List.mem_of_getElem? hy) F F' _ (h2 i y hy)⟩
theorem Flat.two (u v : Value) : Flat (.t [.c u, .c v]) := Flat.t (by intro x hx; simp at hx; rcases hx with rfl | rfl <;> exact Flat.c _)
theorem binV_shr1 {P : Program} {t : TypeId} {k k' : IntKind} {m : Int} : binV P .shr t (.c (.int k m)) (.c (.int k' 1)) = some (.c (.int k (m.fdiv 2))) := by
  unfold binV
  have : min 1 k.bits = 1 := by cases k <;> rfl
  by_cases h : k = k' <;> simp [h, this] <;> (subst h; simp [this])
theorem fdiv2 (a b : Nat) : ((a : Int) + b).fdiv 2 = (((a + b) / 2 : Nat) : Int) := by
  rw [Int.fdiv_eq_ediv_of_nonneg _ (by decide)]; omega
attribute [push_cast] binV_shr1
def lbd {α : Type} (p : α → Bool) (l : List α) : Nat := (l.takeWhile p).length
theorem lbd_le {α : Type} (p : α → Bool) : ∀ l : List α, lbd p l ≤ l.length
  | [] => by simp [lbd]
  | x :: l => by
    have := lbd_le p l
    unfold lbd at this ⊢
    by_cases h : p x = true
    · simp [List.takeWhile_cons, h]; exact this
    · simp [List.takeWhile_cons, h]
theorem lbd_cons {α : Type} (p : α → Bool) (x : α) (l : List α) : lbd p (x :: l) = if p x = true then lbd p l + 1 else 0 := by
  unfold lbd; by_cases h : p x = true <;> simp [List.takeWhile_cons, h]
theorem lbd_lt {α : Type} {p : α → Bool} : ∀ {l : List α} {i : Nat} {x : α}, i < lbd p l → l[i]? = some x → p x = true
  | [], i, x, h, hx => by simp at hx
  | y :: l, i, x, h, hx => by
    rw [lbd_cons] at h
    by_cases c : p y = true
    · rw [if_pos c] at h
      cases i with
      | zero => simp at hx; subst hx; exact c
      | succ i => simp at hx; exact lbd_lt (by omega) hx
    · rw [if_neg c] at h; omega
theorem lbd_at {α : Type} {p : α → Bool} : ∀ {l : List α} {x : α}, l[lbd p l]? = some x → p x = false
  | [], x, hx => by simp at hx
  | y :: l, x, hx => by
    rw [lbd_cons] at hx
    by_cases c : p y = true
    · rw [if_pos c] at hx; simp at hx; exact lbd_at hx
    · rw [if_neg c] at hx; simp at hx; subst hx; simpa using c
theorem lbd_dn {α : Type} {p : α → Bool} {l : List α} {h : Nat} {x : α} (hx : l[h]? = some x) (hp : p x = false) : lbd p l ≤ h := by
  rcases Nat.lt_or_ge h (lbd p l) with c | c
  · rw [lbd_lt c hx] at hp; cases hp
  · exact c
theorem lbd_up {α : Type} {p : α → Bool} {l : List α} {h : Nat} {x : α} (hx : l[h]? = some x) (hp : ∀ i y, i ≤ h → l[i]? = some y → p y = true) : h < lbd p l := by
  rcases Nat.lt_or_ge h (lbd p l) with c | c
  · exact c
  · have hl := (List.getElem?_eq_some_iff.1 hx).1
    have h1 : l[lbd p l]? = some l[lbd p l] := List.getElem?_eq_getElem (by omega)
    have := lbd_at h1
    rw [hp _ _ c h1] at this; cases this
def bsF {α : Type} (c : α → Int) (l : List α) : Bool := match l[lbd (fun x => decide (c x < 0)) l]? with | some x => decide (c x = 0) | none => false
theorem bsF_some {α : Type} {c : α → Int} {l : List α} {i : Nat} {x : α} (hi : i = lbd (fun x => decide (c x < 0)) l) (hx : l[i]? = some x) : bsF c l = decide (c x = 0) := by
  subst hi; unfold bsF; rw [hx]
theorem bsF_none {α : Type} {c : α → Int} {l : List α} {i : Nat} (hi : i = lbd (fun x => decide (c x < 0)) l) (hx : l[i]? = none) : bsF c l = false := by
  subst hi; unfold bsF; rw [hx]
end Go.Proofs.Ytlbdpnlmdcajbaa

/- What is known of a block is forgotten in part. -/
namespace Go.Proofs.Ytlbdpnlmdcajbaa
open Go.RowKit
set_option linter.all false

section
variable {P : Program} {N : Nat} {a : Nat → AV} {Q : Post}
theorem Ext.iffn {F F' : Mem} {H H2 H' : Heap} {w w' : World} (h : Ext F H2 w F' H' w') (hd : ∀ n, H n = none ↔ H2 n = none) : Ext F H w F' H' w' :=
  ⟨h.os, h.tape, h.output, h.size, fun n hn hH => h.block n hn ((hd n).1 hH), fun n k hk => by
    rcases h.new n k hk with g | g
    · exact .inl (fun e => g ((hd n).1 e))
    · exact .inr g, h.le, fun b o v hv => by
    rcases h.frz b o v hv with g | g | g
    · exact .inl g
    · exact .inr (.inl (fun e => g ((hd b).1 e)))
    · exact .inr (.inr g)⟩
theorem AW_sub {c : Code} {H H2 : Heap} (hs : ∀ F w, Sat F H w → Sat F H2 w) (hd : ∀ n, H n = none ↔ H2 n = none) (h : AW P N c a H2 Q) : AW P N c a H Q := fun Fe n hF B F w act hr => by
  have hr2 : Rel F ⟨B, Fe.round⟩ N a H2 act w := by
    obtain ⟨⟨Ds, d1, d2, d3⟩, g1, g2, g3, g4, g5⟩ := hr
    exact ⟨⟨Ds, d1, d2, fun D hD => ⟨(d3 D hD).1, (hd D).1 (d3 D hD).2.1, (d3 D hD).2.2⟩⟩, g1, fun l e => ⟨(g2 l e).1, (hd l).1 (g2 l e).2⟩, g3, g4, hs F w g5⟩
  refine wpIn_mono (h Fe n hF B F w act hr2) ?_
  rintro e act' w' ⟨F', a', H', h1, h2, h3⟩
  exact ⟨F', a', H', h1, h2.iffn hd, h3⟩
theorem AW_shrink {c : Code} {H : Heap} {n : Nat} {ty : TypeId} {sz cap : Nat} {rows : List (List AV)} (i : Nat) (h : AW P N c a (upd H n (.r ty sz cap (rows.take i))) Q) : AW P N c a (upd H n (.r ty sz cap rows)) Q := by
  refine AW_sub (fun F w hs => ?_) (fun m => ?_) h
  · refine ⟨hs.mem, fun b o v k hF hk => ?_, fun m k hk => ?_⟩
    · by_cases e : b = n
      · subst e; exact hs.off b o v _ hF (upd_same _ _ _)
      · rw [upd_ne e] at hk; exact hs.off b o v k hF (by rw [upd_ne e]; exact hk)
    · by_cases e : m = n
      · subst e
        rw [upd_same] at hk; cases hk
        obtain ⟨C, c1, c2, c3, c4, c5, c6⟩ := hs.blk m _ (upd_same _ _ _)
        exact ⟨C, c1, c2, by simp; omega, c4, c5, c6.take i⟩
      · rw [upd_ne e] at hk; exact hs.blk m k (by rw [upd_ne e]; exact hk)
  · by_cases e : m = n
    · subst e; simp [upd_same]
    · rw [upd_ne e, upd_ne e]
end
theorem binV_xor {P : Program} {t : TypeId} {k : IntKind} {m n : Int} : binV P .xor t (.c (.int k m)) (.c (.int k n)) = some (.c (.int k (bits .xor k m n))) := by unfold binV; simp [binI]
attribute [push_cast] binV_xor
theorem take_set_lt {α : Type} {R : List α} {i : Nat} {v : α} (h : i < R.length) : (R.set i v).take (i + 1) = R.take i ++ [v] := by
  apply List.ext_getElem?
  intro m
  rw [List.getElem?_take]
  by_cases c1 : m < i
  · rw [if_pos (by omega), List.getElem?_set_ne (by omega), List.getElem?_append_left (by simp; omega), List.getElem?_take, if_pos c1]
  · by_cases c2 : m = i
    · subst c2
      rw [if_pos (by omega), List.getElem?_set_self h, List.getElem?_append_right (by simp; omega)]
      have : m - (R.take m).length = 0 := by simp; omega
      rw [this]; rfl
    · rw [if_neg (by omega), List.getElem?_append_right (by simp; omega)]
      have : 1 ≤ m - (R.take i).length := by simp; omega
      rw [List.getElem?_eq_none (by simp; omega)]
structure DR {α : Type} (enc : α → List AV) (l : List α) (keep : α → Bool) (j : Nat) (R : List (List AV)) : Prop where
  n : R.length = l.length
  t : R.take ((l.take j).filter keep).length = ((l.take j).filter keep).map enc
  b : ∀ m, j ≤ m → R[m]? = (l.map enc)[m]?
  w : ∀ e ∈ R, ∃ x, e = enc x
theorem DR.le {α : Type} (l : List α) (keep : α → Bool) (j : Nat) : ((l.take j).filter keep).length ≤ j := Nat.le_trans (List.length_filter_le _ _) (by simp; omega)
theorem DR.step_no {α : Type} {enc : α → List AV} {l : List α} {keep : α → Bool} {j : Nat} {R : List (List AV)} {x : α} (h : DR enc l keep j R) (hx : l[j]? = some x) (hk : keep x = false) : DR enc l keep (j + 1) R := by
  have e : (l.take (j + 1)).filter keep = (l.take j).filter keep := by rw [take_snoc hx, List.filter_append]; simp [hk]
  exact ⟨h.n, by rw [e]; exact h.t, fun m hm => h.b m (by omega), h.w⟩
theorem DR.step_yes {α : Type} {enc : α → List AV} {l : List α} {keep : α → Bool} {j : Nat} {R : List (List AV)} {x : α} (h : DR enc l keep j R) (hx : l[j]? = some x) (hk : keep x = true) : DR enc l keep (j + 1) (R.set ((l.take j).filter keep).length (enc x)) ∧ ((l.take (j + 1)).filter keep).length = ((l.take j).filter keep).length + 1 := by
  have e : (l.take (j + 1)).filter keep = (l.take j).filter keep ++ [x] := by rw [take_snoc hx, List.filter_append]; simp [hk]
  have hj := (List.getElem?_eq_some_iff.1 hx).1
  have hle := DR.le l keep j
  refine ⟨⟨by simp [h.n], ?_, fun m hm => ?_, fun r hr => by
    rcases List.mem_or_eq_of_mem_set hr with hr | rfl
    · exact h.w r hr
    · exact ⟨x, rfl⟩⟩, by rw [e]; simp⟩
  · rw [e, List.length_append, List.length_singleton, take_set_lt (by rw [h.n]; omega), h.t]; simp
  · rw [List.getElem?_set_ne (by omega)]; exact h.b m (by omega)
theorem DR.start {α : Type} {enc : α → List AV} {l : List α} {keep : α → Bool} {i : Nat} (ha : ∀ j y, j < i → l[j]? = some y → keep y = true) {x : α} (hx : l[i]? = some x) (hk : keep x = false) : DR enc l keep (i + 1) (l.map enc) ∧ ((l.take (i + 1)).filter keep).length = i := by
  have hi := (List.getElem?_eq_some_iff.1 hx).1
  have e0 : (l.take i).filter keep = l.take i := List.filter_eq_self.2 (fun y hy => by
    obtain ⟨j, hj⟩ := List.getElem?_of_mem hy
    rw [List.getElem?_take] at hj
    split at hj
    · exact ha j y (by assumption) hj
    · cases hj)
  have e : (l.take (i + 1)).filter keep = l.take i := by rw [take_snoc hx, List.filter_append, e0]; simp [hk]
  have h1 : ((l.take (i + 1)).filter keep).length = i := by rw [e]; simp; omega
  exact ⟨⟨by simp, by rw [h1, e]; simp, fun m _ => rfl, fun r hr => by obtain ⟨x, _, rfl⟩ := List.mem_map.1 hr; exact ⟨x, rfl⟩⟩, h1⟩
theorem idxS_cases {α : Type} (p : α → Bool) (l : List α) : (idxS p l = -1 ∧ ∀ x ∈ l, p x = false) ∨ ∃ (i : Nat) (x : α), idxS p l = (i : Int) ∧ l[i]? = some x ∧ p x = true ∧ ∀ j y, j < i → l[j]? = some y → p y = false := by
  unfold idxS
  cases h : l.findIdx? p with
  | none => exact .inl ⟨rfl, fun x hx => by have := List.findIdx?_eq_none_iff.1 h x hx; simpa using this⟩
  | some i =>
    obtain ⟨hi, h1, h2⟩ := List.findIdx?_eq_some_iff_getElem.1 h
    refine .inr ⟨i, l[i], rfl, List.getElem?_eq_getElem hi, h1, fun j y hj hy => ?_⟩
    obtain ⟨q1, q2⟩ := List.getElem?_eq_some_iff.1 hy
    have := h2 j hj
    rw [q2] at this; simpa using this
end Go.Proofs.Ytlbdpnlmdcajbaa

/- Ranges over a map. -/
namespace Go.Proofs.Ytlbdpnlmdcajbaa
open Go.RowKit
set_option linter.all false

section
variable {α : Type} [DecidableEq α]
end

section
variable {P : Program} {o : Oper} {a : Nat → AV} {H : Heap} {K : AV → Heap → Prop} {α : Type} [DecidableEq α] {enc : α → Value}
end
end Go.Proofs.Ytlbdpnlmdcajbaa

/- What a block of one row is known to hold, said in other words. -/
namespace Go.Proofs.Ytlbdpnlmdcajbaa
open Go.RowKit
set_option linter.all false

section
variable {P : Program} {N : Nat} {a : Nat → AV} {Q : Post}
end
end Go.Proofs.Ytlbdpnlmdcajbaa

/- A function that gives a slice of its own among other things, called with what the caller owns. -/
namespace Go.Proofs.Ytlbdpnlmdcajbaa
open Go.RowKit
set_option linter.all false

theorem Flat.s (n sz i len cap : Nat) : Flat (.s n sz i len cap) := fun F F' v h => by
  obtain ⟨o, rfl, g1, g2, g3⟩ := h.s_inv
  exact .s _ _ _ _ _ _ g1 g2 g3
theorem Flats.vs {F F' : Mem} : ∀ {xs : List AV} {vs : List Value}, (∀ y ∈ xs, Flat y) → Vs F xs vs → Vs F' xs vs
  | [], vs, _, h => by rw [h.nil_inv]; exact Vs.nil _
  | x :: xs, vs, hf, h => by
    obtain ⟨v, vs', rfl, h1, h2⟩ := h.cons_inv
    exact Vs.cons (hf x (by simp) _ _ _ h1) (Flats.vs (fun y hy => hf y (by simp [hy])) h2)
theorem Flat.g {xs : List AV} (h : ∀ y ∈ xs, Flat y) : Flat (.g xs) := fun F F' v hv => by
  cases hv with
  | g xs cs h1 h2 h3 =>
    have hs : Vs F xs cs.toList := ⟨by simpa using h1, fun i y hy => by rw [← arr_getD]; exact h3 i y hy⟩
    have hs' := Flats.vs (F' := F') h hs
    exact .g xs cs h1 h2 (fun i y hy => by rw [arr_getD]; exact hs'.2 i y hy)
theorem OwnL.flat {H H0 : Heap} {x : AV} {ty : TypeId} {sz : Nat} {rows : List (List AV)} (h : OwnL H x ty sz rows H0) : Flat x := by
  rcases h with ⟨⟨ad, rfl⟩, -, -⟩ | ⟨n, cap, rfl, -, -⟩
  · exact Flat.c _
  · exact Flat.s _ _ _ _ _
end Go.Proofs.Ytlbdpnlmdcajbaa

/- Copies between rows of one's own; the capacity; slices that do not overlap; zero cells behind a beginning. -/
namespace Go.Proofs.Ytlbdpnlmdcajbaa
open Go.RowKit
set_option linter.all false

section
variable {P : Program} {o : Oper} {a : Nat → AV} {H : Heap} {K : AV → Heap → Prop}
theorem does_capS {x : Operand} {t et : TypeId} {n sz i len cap : Nat} (ho : o.op = .call { callee := .builtin .cap, args := #[x], argTypes := #[t] }) (hx : ev a x = .s n sz i len cap) (hE : tE P t = some et) (hK : K (.c (.int .i64 cap)) H) : Does P o a H K :=
  Does.val (fun c => by simp [ho]) hK fun F w act hv hs => by
    obtain ⟨cs, ecs⟩ := builtin_run ho act
    have hvx := hv.ev x
    rw [hx] at hvx
    obtain ⟨oo, ex, g1, g2, g3⟩ := hvx.s_inv
    exact ⟨.int .i64 cap, by rw [ecs]; simp [builtin, Builtin.cap_, ex, run_underlying (tE_eq hE)]; rfl, .c _⟩
theorem rowCopy {F : Mem} {C : Array Value} {sz i : Nat} {rows new : List (List AV)} {vs : List Value} (h : RowOk F C sz rows) (hi : i ≤ rows.length) (hl : ∀ e ∈ new, e.length = sz) (hv : vs.length = new.length * sz)
    (hn : ∀ i j y, at2 new i j = some y → y.one = true ∧ V F y (vs.getD (i * sz + j) undef)) (hfit : i * sz + vs.length ≤ C.size) : RowOk F (splice C (i * sz) vs) sz (rows.take i ++ new ++ rows.drop (i + new.length)) := by
  have ht : (rows.take i).length = i := by simp; omega
  have key : ∀ i' j y, at2 (rows.take i ++ new ++ rows.drop (i + new.length)) i' j = some y → (i' < i ∧ at2 rows i' j = some y) ∨ (i ≤ i' ∧ i' < i + new.length ∧ at2 new (i' - i) j = some y) ∨ (i + new.length ≤ i' ∧ at2 rows i' j = some y) := fun i' j y hy => by
    obtain ⟨e, he, hj⟩ := at2_some.1 hy
    by_cases c1 : i' < i
    · rw [List.append_assoc, List.getElem?_append_left (by omega), List.getElem?_take, if_pos c1] at he
      exact .inl ⟨c1, at2_some.2 ⟨e, he, hj⟩⟩
    by_cases c2 : i' < i + new.length
    · rw [List.append_assoc, List.getElem?_append_right (by omega), ht, List.getElem?_append_left (by omega)] at he
      exact .inr (.inl ⟨by omega, c2, at2_some.2 ⟨e, he, hj⟩⟩)
    · rw [List.getElem?_append_right (by rw [List.length_append, ht]; omega), List.length_append, ht, List.getElem?_drop] at he
      have : i + new.length + (i' - (i + new.length)) = i' := by omega
      rw [this] at he
      exact .inr (.inr ⟨by omega, at2_some.2 ⟨e, he, hj⟩⟩)
  refine ⟨fun e he => ?_, fun i' j y hy => ?_, fun i' j y hy => ?_⟩
  · rcases List.mem_append.1 he with he | he
    · rcases List.mem_append.1 he with he | he
      · exact h.len e (List.mem_of_mem_take he)
      · exact hl e he
    · exact h.len e (List.mem_of_mem_drop he)
  · rcases key i' j y hy with ⟨-, g⟩ | ⟨-, -, g⟩ | ⟨-, g⟩
    · exact h.one i' j y g
    · exact (hn _ j y g).1
    · exact h.one i' j y g
  · rw [splice_get hfit]
    rcases key i' j y hy with ⟨c, g⟩ | ⟨c, c2, g⟩ | ⟨c, g⟩
    · have hb := flat_lt c (h.at2 g).2
      rw [if_neg (by omega)]
      exact h.val i' j y g
    · have hjl : j < sz := by
        obtain ⟨e, he, hj⟩ := at2_some.1 g
        have := hl e (List.mem_of_getElem? he)
        rw [← this]; exact (List.getElem?_eq_some_iff.1 hj).1
      have hb := flat_lt (n := new.length) (i := i' - i) (j := j) (sz := sz) (by omega) hjl
      have e1 : i' * sz + j = i * sz + ((i' - i) * sz + j) := by
        have : i' = i + (i' - i) := by omega
        conv => lhs; rw [this, Nat.add_mul]
        omega
      rw [if_pos (by rw [e1, hv]; omega), e1, Nat.add_sub_cancel_left]
      exact (hn _ j y g).2
    · have h5 : (i + new.length) * sz ≤ i' * sz := Nat.mul_le_mul_right _ c
      rw [Nat.add_mul] at h5
      rw [if_neg (by rw [hv]; omega)]
      exact h.val i' j y g
theorem does_copyB {x y : Operand} {t t' ty ty' : TypeId} {n m sz i dl dcap j sl scap cap cap' k : Nat} {rows rows' : List (List AV)} (ho : o.op = .call { callee := .builtin .copy, args := #[x, y], argTypes := #[t, t'] })
    (hx : ev a x = .s n sz i dl dcap) (hy : ev a y = .s m sz j sl scap) (hH : H n = some (.r ty sz cap rows)) (hH' : H m = some (.r ty' sz cap' rows')) (hE : tE P t = some ty) (hS : tS P ty = some sz)
    (hk : k = Nat.min sl dl) (h1 : i ≤ rows.length) (h2 : i + k ≤ cap) (h3 : j + k ≤ rows'.length)
    (h : K (.c (.int .i64 k)) (upd H n (.r ty sz cap (rows.take i ++ (rows'.drop j).take k ++ rows.drop (i + k))))) : Does P o a H K :=
  Does.ran (fun c => by simp [ho]) fun F w act hv hs => by
    have hvx := hv.ev x
    rw [hx] at hvx
    have hvy := hv.ev y
    rw [hy] at hvy
    obtain ⟨ox, ex, gx1, gx2, gx3⟩ := hvx.s_inv
    obtain ⟨oy, ey, gy1, gy2, gy3⟩ := hvy.s_inv
    obtain ⟨C, c1, c2, c3, c4, c5, c6⟩ := hs.blk n _ hH
    obtain ⟨cs, ecs⟩ := builtin_run ho act
    obtain ⟨info, hi1, hi2⟩ : ∃ info, P.info? ty = some info ∧ info.size = sz := by
      unfold tS at hS
      cases hq : P.info? ty with
      | none => rw [hq] at hS; cases hS
      | some q => rw [hq] at hS; exact ⟨q, rfl, by simpa using hS⟩
    have hksl : k ≤ sl := by rw [hk]; exact Nat.min_le_left _ _
    have hkdl : k ≤ dl := by rw [hk]; exact Nat.min_le_right _ _
    have hvk : V F (.s m sz j k scap) (.slice (some ⟨m, oy, none⟩) k scap) := .s _ _ _ _ _ oy gy1 (by omega) gy3
    have hsrc := hs.src hH' h3 hvk
    have hlen : ((rows'.drop j).take k).length = k := by simp; omega
    obtain ⟨ad, c, vs, e1, s1, s2, s3, s4, s5, s6⟩ := hsrc.ex
    rw [hlen] at e1 s1 s3
    cases e1
    have hld := run_firstCells_some (P := P) w sz k ⟨m, oy, none⟩ sl scap vs s3 (s5 _ rfl)
    by_cases hk0 : k = 0
    · have hvs : vs = [] := List.eq_nil_of_length_eq_zero (by rw [s3, hk0]; simp)
      have hsame : upd H n (.r ty sz cap (rows.take i ++ (rows'.drop j).take k ++ rows.drop (i + k))) = H := by
        rw [hk0]; simp only [List.take_zero, List.append_nil, Nat.add_zero, List.take_append_drop]; exact upd_self hH
      rw [hsame] at h
      refine ⟨.int .i64 k, w, F, H, .c (.int .i64 k), ?_, .c _, hs, Ext.refl _ _ _, h⟩
      rw [ecs]
      subst hvs
      simp [builtin, ex, ey, Builtin.copy_, Sem.run_bind, run_underlying (tE_eq hE), Builtin.lenOf, sizeOf, typeInfo, hi1, hi2, ← hk, hld, storeCells, goInt]
    · have h0 := gx1 (.inl (by omega)); subst h0
      have hfit : i * sz + 0 + vs.length ≤ C.size := by rw [s3, c2, Nat.add_zero, ← Nat.add_mul]; exact Nat.mul_le_mul_right _ h2
      have hst := run_storeCells_at P n (i * sz) ty vs 0 C w c1 hfit s4
      obtain ⟨D, hD⟩ : ∃ D : Array Value, D = (C.toList.take (i * sz + 0) ++ vs ++ C.toList.drop (i * sz + 0 + vs.length)).toArray := ⟨_, rfl⟩
      rw [← hD] at hst
      have hDs : D = splice C (i * sz) vs := hD
      have hrow := rowCopy c6 h1 hsrc.len (by rw [hlen]; exact s3) s6 (by simpa using hfit)
      rw [hlen, ← hDs] at hrow
      obtain ⟨t1, t2⟩ := turn_row hs hH c1 (by rw [hDs, splice_size (by simpa using hfit)]; exact c2) (by simp only [List.length_append, List.length_take, List.length_drop, hlen]; omega) c4 c5 hrow
      refine ⟨.int .i64 k, w.setRow n D, F, _, .c (.int .i64 k), ?_, .c _, t1, t2, h⟩
      rw [ecs]
      simp [builtin, ex, ey, Builtin.copy_, Sem.run_bind, run_underlying (tE_eq hE), Builtin.lenOf, sizeOf, typeInfo, hi1, hi2, ← hk, hld, hst, goInt]
theorem does_appZS {x y : Operand} {t tn e : TypeId} {kn kq : IntKind} {sz by' n i c cap k : Nat} {zs : List Value} {rows : List (List AV)} (ho : o.op = .call { callee := .builtin .append, args := #[x, y], argTypes := #[t, tn] }) (hx : ev a x = .s n sz 0 i c) (hy : ev a y = .c (.int kq k))
    (hH : H n = some (.r e sz cap rows)) (hi : i ≤ rows.length) (hg : c < i + k)
    (htn : P.underlying tn = some (.int kn)) (hE : tE P t = some e) (hS : tS P e = some sz) (hB : tB P e = some by') (hz : tZ P e = some zs) (hzl : zs.length = sz) (hp : 0 < sz) (hk : 0 < k) (h63 : i + k ≤ maxLen) (hbytes : (i + k) * by' ≤ 140737488355328)
    (h : ∀ m G, H m = none → i + k ≤ G → G ≤ maxLen → K (.s m sz 0 (i + k) G) (upd H m (.r e sz G (rows.take i)))) : Does P o a H K :=
  Does.ran (fun c => by simp [ho]) fun F w act hv hs => by
    have hvx := hv.ev x
    rw [hx] at hvx
    obtain ⟨ox, ex, gx1, gx2, gx3⟩ := hvx.s_inv
    obtain ⟨q, hi0, hi1, hi2⟩ : ∃ q, P.info? e = some q ∧ q.size = sz ∧ q.bytes = by' := by
      unfold tS at hS; unfold tB at hB
      cases hq : P.info? e with
      | none => simp [hq] at hS
      | some q => simp [hq] at hS hB; exact ⟨q, rfl, hS, hB⟩
    obtain ⟨z, hzz, hzc⟩ : ∃ z, q.zero = some z ∧ z.cells.size = sz := by
      unfold tZ at hz
      simp [hi0] at hz
      obtain ⟨z, hz1, hz2⟩ := hz
      exact ⟨z, hz1, by rw [← hzl, ← hz2]; simp⟩
    have hsrc := hs.drew.src hH (i := 0) (by omega) hvx
    rw [List.drop_zero] at hsrc
    have hlen : (rows.take i).length = i := by simp; omega
    obtain ⟨ad, c', vs, e1, s1, s2, s3, s4, s5, s6⟩ := hsrc.ex
    rw [ex, hlen] at e1
    rw [hlen] at s1 s3
    cases e1
    have hold : (Builtin.firstCells q.size i (.slice (some ⟨n, ox, none⟩) i c)).run P w.drew = .ok vs.toArray w.drew := by
      rw [hi1]; exact run_firstCells_some (P := P) w.drew sz i ⟨n, ox, none⟩ i c vs s3 (s5 _ rfl)
    have hfit : Builtin.nextslicecap (i + k) c * q.bytes ≤ 281474976710656 := by rw [hi2]; exact growslice_fits hg hbytes
    have hkb : k * by' ≤ 140737488355328 := Nat.le_trans (Nat.mul_le_mul_right _ (by omega)) hbytes
    have hr := Lib.run_append_grow_zeros w t tn o.type e q z kq kn (tE_eq hE) htn hi0 hzz (some ⟨n, ox, none⟩) i c vs hold k hk (by rw [hi1]; exact hp) hg (by unfold maxLen at h63; omega) (by rw [hi2]; omega) hfit
    have hG1 := grownCap_ge w (i + k) c e
    have hG2 := grownCap_le_maxLen w (i + k) c e (by omega)
    obtain ⟨G, hG⟩ : ∃ G, grownCap w (i + k) c e = G := ⟨_, rfl⟩
    rw [hG] at hr hG1 hG2
    obtain ⟨Z, hZ⟩ : ∃ Z, Builtin.zeroCells z.cells k ++ Builtin.zeroCells z.cells (G - (i + k)) = Z := ⟨_, rfl⟩
    rw [Array.append_assoc, hZ] at hr
    have hsz : (vs.toArray ++ Z).size = G * sz := by
      rw [← hZ]
      simp only [Array.size_append, List.size_toArray, size_zeroCells, hzc, s3, ← Nat.add_mul]
      congr 1; omega
    obtain ⟨cs, ecs⟩ := builtin_run ho act
    refine ⟨.slice (some ⟨w.heap.size, 0, none⟩) (i + k) G, w.drew.alloc (.cells (vs.toArray ++ Z) e), F, upd H w.heap.size (.r e sz G (rows.take i)), .s w.heap.size sz 0 (i + k) G, ?_, .s _ _ _ _ _ 0 (fun _ => by simp) hG1 hG2, ?_, ?_, h _ _ (hs.fresh (Nat.le_refl _)) hG1 hG2⟩
    · rw [ecs]; simp [builtin, Sem.run_bind, ex, hv.c hy, hr]
    · refine hs.drew.alloc _ _ ⟨vs.toArray ++ Z, heap_alloc_new w.drew _, hsz, by rw [hlen]; omega, hG2, hp, hsrc.len, fun i' j y hy => (s6 i' j y hy).1, fun i' j y hy => ?_⟩
      have hat := at2_some.1 hy
      obtain ⟨e', he', hj'⟩ := hat
      have hil := (List.getElem?_eq_some_iff.1 he').1
      have hjl : j < sz := by rw [← hsrc.len e' (List.mem_of_getElem? he')]; exact (List.getElem?_eq_some_iff.1 hj').1
      have hb := flat_lt hil hjl
      rw [hlen] at hb
      have : (vs.toArray ++ Z).getD (i' * sz + j) undef = vs.getD (i' * sz + j) undef := by
        rw [arr_getD, List.getD_eq_getElem?_getD, List.getD_eq_getElem?_getD, Array.toList_append, List.getElem?_append_left (by simpa using (by omega : i' * sz + j < vs.length))]
      rw [this]
      exact (s6 i' j y hy).2
    · exact (Ext.drew F H w).trans (Ext.alloc H w.drew _ _)
theorem does_overlaps {f : FuncId} {fn : Func} {t tr et ty ty' : TypeId} {x y : Operand} {ts : Array TypeId} {n m sz sz' i j la ca lb cb cap cap' : Nat} {rows rows' : List (List AV)} (ho : o.op = .call { callee := .value (.func f), args := #[x, y], argTypes := ts })
    (hf : P.funcs[f]? = some fn) (hname : (fn.name == "runtime.NumGoroutine") = false) (hb : fn.body.isNone = true) (hfn : Extern.findNext fn = none) (hfe : Extern.find fn = some (Extern.SlicesOverlaps.overlaps #[t, t] #[tr]))
    (hx : ev a x = .s n sz i la ca) (hy : ev a y = .s m sz' j lb cb) (hH : H n = some (.r ty sz cap rows)) (hH' : H m = some (.r ty' sz' cap' rows')) (hne : n ≠ m) (hpos : 0 < rows'.length) (hE : tE P t = some et) (hS : tS P et = some sz)
    (h : K (.c (.bool false)) H) : Does P o a H K :=
  Does.val (fun c => by simp [ho]) h fun F w act hv hs => by
    have hvx := hv.ev x
    rw [hx] at hvx
    have hvy := hv.ev y
    rw [hy] at hvy
    obtain ⟨ox, ex, gx1, gx2, gx3⟩ := hvx.s_inv
    obtain ⟨oy, ey, gy1, gy2, gy3⟩ := hvy.s_inv
    obtain ⟨C, c1, c2, c3, c4, c5, c6⟩ := hs.blk n _ hH
    obtain ⟨D, d1, d2, d3, d4, d5, d6⟩ := hs.blk m _ hH'
    have hsz : ∀ w, (Go.sizeOf et).run P w = .ok sz w := fun w => by
      unfold tS at hS
      cases hq : P.info? et with
      | none => rw [hq] at hS; cases hS
      | some q =>
        rw [hq] at hS
        have : q.size = sz := by simpa using hS
        simp [sizeOf, typeInfo, hq, this, Sem.run_bind]
    have hD0 : D.size ≠ 0 := by
      rw [d2]
      have : 0 < cap' * sz' := Nat.mul_pos (by omega) d5
      omega
    have hrun := Lib.run_overlaps_apart (P := P) w t tr et (tE_eq hE) sz hsz ⟨n, ox, none⟩ ⟨m, oy, none⟩ la ca lb cb hne ty ty' C.size D.size (by simp [World.shape?, c1]) (by simp [World.shape?, d1]) hD0 (by simp [World.frozen?, c1]) (by simp [World.frozen?, c1])
    have hcf := run_callFunc_extern hf hname hb hfn hfe #[.slice (some ⟨n, ox, none⟩) la ca, .slice (some ⟨m, oy, none⟩) lb cb] w
    rw [hrun] at hcf
    refine ⟨.bool false, ?_, .c _⟩
    have hfv : act.eval (.func f) = .func (.func f) #[] #[] := rfl
    simp only [execOp, ho, resolve, hfv, Deferred.ofValue]
    simp [Sem.run_bind, invoke, ex, ey, hcf, Result.andThen]
end
end Go.Proofs.Ytlbdpnlmdcajbaa

/- Numbers as bytes, the highest first: plain facts. -/
namespace Go.Proofs.Ytlbdpnlmdcajbaa
open Go.RowKit
set_option linter.all false

end Go.Proofs.Ytlbdpnlmdcajbaa

/- A function whose results lean on nothing, called with what the caller owns. -/
namespace Go.Proofs.Ytlbdpnlmdcajbaa
open Go.RowKit
set_option linter.all false

def FlatH (G : Heap) : Prop := ∀ n b, G n = some b → ∃ ty sz cap rows, b = .r ty sz cap rows ∧ FlatR rows
theorem FlatH.none : FlatH (fun _ => none) := fun n b h => by cases h
theorem OwnL.flatH {G G0 : Heap} {x : AV} {ty : TypeId} {sz : Nat} {rows : List (List AV)} (h : OwnL G x ty sz rows G0) (hr : FlatR rows) (h0 : FlatH G0) : FlatH G := fun n b hb => by
  rcases h with ⟨-, -, rfl⟩ | ⟨m, cap, -, hm, rfl⟩
  · exact h0 n b hb
  · by_cases e : n = m
    · subst e; rw [hm] at hb; cases hb; exact ⟨_, _, _, _, rfl, hr⟩
    · exact h0 n b (by rw [del_ne e]; exact hb)
theorem ACall.lendG {P : Program} {f : FuncId} {args args' : List AV} {H : Heap} {K : AV → Heap → Prop} (hK : ∀ r G, K r G → Flat r ∧ FlatH G) (hl : Lents H args args') (h : ACall P f args' (fun _ => none) K) : ACall P f args H fun r' H' => ∃ G, H' = join H G ∧ Apart H G ∧ K r' G := by
  refine ⟨h.1, fun F w cs hv hs => (h.2 (F0 w) w cs (Lents.ok hs hl hv) ⟨fun b o v hb => hb, fun b o v k _ hk => (by cases hk), fun n k hk => (by cases hk)⟩).mono ?_⟩
  rintro e w' ⟨v, F', G, r', rfl, h1, h2, h3, h4⟩
  obtain ⟨hfl, hG⟩ := hK _ _ h4
  have hmem : ∀ b o u, F b o = some u → w'.cell? ⟨b, o, none⟩ = some u := fun b o u hb => by
    have := hs.mem b o u hb
    rw [← this]
    exact World.cell?_of_block (h3.block b (cell_lt this) rfl)
  have hold : ∀ n k, H n = some k → BlkOk F w' n k := fun n k hk => (hs.blk n k hk).heap (h3.block n (hs.lt hk) rfl)
  have hnew : ∀ n b, G n = some b → w.heap.size ≤ n := fun n b hb => by
    rcases h3.new n _ hb with h | h
    · exact absurd rfl h
    · exact h
  have hap : Apart H G := fun n => by
    cases hg : G n with
    | none => exact .inr rfl
    | some b => exact .inl (hs.fresh (hnew n b hg))
  refine ⟨v, F, join H G, r', rfl, hfl F' F v h1, ⟨hmem, fun b o u k hb hk => ?_, fun m k hm => ?_⟩, ?_, G, rfl, hap, h4⟩
  · cases hH : H b with
    | some k0 => exact hs.off b o u k0 hb hH
    | none => rw [join_right hH] at hk; have := hs.memlt hb; have := hnew b k hk; omega
  · cases hH : H m with
    | some k0 => rw [join_left hH] at hm; cases hm; exact hold _ _ hH
    | none =>
      rw [join_right hH] at hm
      obtain ⟨ty, sz, cap, rows, rfl, hr⟩ := hG m k hm
      obtain ⟨C, c1, c2, c3, c4, c5, c6⟩ := h2.blk m _ hm
      exact ⟨C, c1, c2, c3, c4, c5, ⟨c6.len, c6.one, fun i j y hy => hr i j y hy _ _ _ (c6.val i j y hy)⟩⟩
  · refine ⟨h3.os, h3.tape, h3.output, h3.size, fun m hm _ => h3.block m hm rfl, fun m k hm => ?_, Mem.le.refl F, fun b o u hu => .inl hu⟩
    cases hH : H m with
    | some k0 => left; simp
    | none => rw [join_right hH] at hm; exact .inr (hnew m k hm)
theorem AW_atB {P : Program} {N : Nat} {a : Nat → AV} {H : Heap} {Q : Post} {id id2 : Nat} {ops : Array Oper} {dr : Bool} {c y : Code} (h : Stop (AW P N (.seq (.seq (.region id ops dr) (.block id2 c)) y) a H Q)) : AW P N (.seq (.seq (.region id ops dr) (.block id2 c)) y) a H Q := h.go
theorem ACall.monoP {P : Program} {f : FuncId} {args : List AV} {H : Heap} {v : AV} {K : AV → Heap → Prop} (h : ACall P f args H fun r H' => r = v ∧ H' = H) (k : K v H) : ACall P f args H K := h.mono fun _ _ e => by rw [e.1, e.2]; exact k
theorem tTT (h : true = true) : True := trivial
theorem tFF (h : false = false) : True := trivial
end Go.Proofs.Ytlbdpnlmdcajbaa

/- Memory of one's own, several levels deep. -/
namespace Go.Proofs.Ytlbdpnlmdcajbaa
open Go.RowKit
set_option linter.all false

abbrev HR := Heap → Heap → Prop
abbrev emp : Heap := fun _ => none
theorem join_assoc (A B C : Heap) : join A (join B C) = join (join A B) C := by
  funext n; simp only [join]; cases A n <;> rfl
theorem Apart.symm {A B : Heap} (h : Apart A B) : Apart B A := fun n => (h n).symm
theorem join_comm {A B : Heap} (h : Apart A B) : join A B = join B A := by
  funext n; rcases h n with g | g <;> simp [join, g]
theorem apart_join {A B C : Heap} : Apart A (join B C) ↔ Apart A B ∧ Apart A C := by
  constructor
  · intro h
    refine ⟨fun n => ?_, fun n => ?_⟩ <;> rcases h n with g | g
    · exact .inl g
    · exact .inr (join_none_iff.1 g).1
    · exact .inl g
    · exact .inr (join_none_iff.1 g).2
  · rintro ⟨h, k⟩ n
    rcases h n with g | g
    · exact .inl g
    · rcases k n with g2 | g2
      · exact .inl g2
      · exact .inr (join_none_iff.2 ⟨g, g2⟩)
theorem apart_join_l {A B C : Heap} : Apart (join A B) C ↔ Apart A C ∧ Apart B C :=
  ⟨fun h => let g := apart_join.1 h.symm; ⟨g.1.symm, g.2.symm⟩, fun h => (apart_join.2 ⟨h.1.symm, h.2.symm⟩).symm⟩
theorem apart_emp (A : Heap) : Apart A emp := fun _ => .inr rfl
structure Loc (R : HR) : Prop where
  dec : ∀ {H H0 : Heap}, R H H0 → ∃ A, R A emp ∧ Apart A H0 ∧ H = join A H0
  inc : ∀ {A H0 : Heap}, R A emp → Apart A H0 → R (join A H0) H0
def cmp2 (R S : HR) : HR := fun H H0 => ∃ H1, R H H1 ∧ S H1 H0
theorem Loc.eq : Loc (fun H H0 => H0 = H) := ⟨fun h => ⟨emp, rfl, Apart.emp _, by rw [h, join_emp]⟩, fun h _ => by rw [← h, join_emp]⟩
theorem Loc.no : Loc (fun _ _ => False) := ⟨fun h => h.elim, fun h _ => h.elim⟩
theorem Loc.comp {R S : HR} (hR : Loc R) (hS : Loc S) : Loc (cmp2 R S) := by
  constructor
  · rintro H H0 ⟨H1, h1, h2⟩
    obtain ⟨A, a1, a2, rfl⟩ := hR.dec h1
    obtain ⟨B, b1, b2, rfl⟩ := hS.dec h2
    obtain ⟨c1, c2⟩ := apart_join.1 a2
    exact ⟨join A B, ⟨B, hR.inc a1 c1, b1⟩, apart_join_l.2 ⟨c2, b2⟩, join_assoc _ _ _⟩
  · rintro A H0 ⟨H1, h1, h2⟩ hap
    obtain ⟨B, a1, a2, rfl⟩ := hR.dec h1
    obtain ⟨c1, c2⟩ := apart_join_l.1 hap
    exact ⟨join H1 H0, by rw [← join_assoc]; exact hR.inc a1 (apart_join.2 ⟨a2, c1⟩), hS.inc h2 c2⟩
theorem Loc.exi {α : Type} {R : α → HR} (h : ∀ y, Loc (R y)) : Loc (fun H H0 => ∃ y, R y H H0) :=
  ⟨fun ⟨y, hy⟩ => let ⟨A, a1, a2⟩ := (h y).dec hy; ⟨A, ⟨y, a1⟩, a2⟩, fun ⟨y, hy⟩ ha => ⟨y, (h y).inc hy ha⟩⟩
theorem Loc.and {p : Prop} {R : HR} (h : Loc R) : Loc (fun H H0 => p ∧ R H H0) :=
  ⟨fun ⟨hp, hy⟩ => let ⟨A, a1, a2⟩ := h.dec hy; ⟨A, ⟨hp, a1⟩, a2⟩, fun ⟨hp, hy⟩ ha => ⟨hp, h.inc hy ha⟩⟩
theorem Loc.own (x : AV) (ty : TypeId) (sz : Nat) (rows : List (List AV)) : Loc (fun H H0 => OwnL H x ty sz rows H0) := by
  constructor
  · intro H H0 h
    rcases h.split with ⟨ad, rfl, rfl, rfl⟩ | ⟨m, cap, rfl, rfl, hm⟩
    · exact ⟨emp, OwnL.none', Apart.emp _, (join_emp _).symm⟩
    · exact ⟨upd emp m (.r ty sz cap rows), OwnL.at rfl rfl, (Apart.emp _).upd _ hm, by rw [← upd_join, join_emp]⟩
  · intro A H0 h ha
    rcases h.split with ⟨ad, rfl, rfl, rfl⟩ | ⟨m, cap, rfl, rfl, -⟩
    · rw [join_emp]; exact OwnL.none'
    · have hm : H0 m = none := ha.right (upd_same _ _ _)
      rw [← upd_join, join_emp]
      exact OwnL.at rfl hm
section
variable {R S : HR}
theorem Loc.get (hR : Loc R) {H H0 : Heap} (h : R H H0) {m : Nat} {b : Blk} (hm : H0 m = some b) : H m = some b := by
  obtain ⟨A, -, a2, rfl⟩ := hR.dec h
  rcases a2 m with g | g
  · rw [join_right g]; exact hm
  · rw [hm] at g; cases g
theorem Loc.le (hR : Loc R) {H H0 : Heap} (h : R H H0) : Heap.le H0 H := fun m b hm => hR.get h hm
theorem Loc.old (hR : Loc R) {H H0 : Heap} (h : R H H0) {m : Nat} (hm : H m = none) : H0 m = none := by
  obtain ⟨A, -, -, rfl⟩ := hR.dec h
  exact (join_none_iff.1 hm).2
theorem join_upd_r {A B : Heap} {m : Nat} (h : A m = none) (k : Blk) : upd (join A B) m k = join A (upd B m k) := by
  funext q
  simp only [upd, join]
  by_cases e : q = m
  · subst e; simp [h]
  · simp [e]
theorem Loc.turn (hR : Loc R) {H H0 : Heap} (h : R H H0) {m : Nat} {b0 : Blk} (hm : H0 m = some b0) (b : Blk) : R (upd H m b) (upd H0 m b) := by
  obtain ⟨A, a1, a2, rfl⟩ := hR.dec h
  have g : A m = none := by
    rcases a2 m with g | g
    · exact g
    · rw [hm] at g; cases g
  rw [join_upd_r g]
  exact hR.inc a1 (a2.symm.upd _ g).symm
theorem Loc.new (hR : Loc R) {H H0 : Heap} (h : R H H0) {m : Nat} (hm : H m = none) (b : Blk) : R (upd H m b) (upd H0 m b) := by
  obtain ⟨A, a1, a2, rfl⟩ := hR.dec h
  have g := (join_none_iff.1 hm).1
  rw [join_upd_r g]
  exact hR.inc a1 (a2.symm.upd _ g).symm
theorem Loc.dele (hR : Loc R) {H H0 : Heap} (h : R H H0) {m : Nat} {b : Blk} (hm : H0 m = some b) : R (del H m) (del H0 m) := by
  obtain ⟨A, a1, a2, rfl⟩ := hR.dec h
  have g : A m = none := by
    rcases a2 m with g | g
    · exact g
    · rw [hm] at g; cases g
  have e : del (join A H0) m = join A (del H0 m) := by
    funext q
    simp only [del, join]
    by_cases e : q = m
    · subst e; simp [g]
    · simp [e]
  rw [e]
  refine hR.inc a1 fun q => ?_
  rcases a2 q with g | g
  · exact .inl g
  · right; simp only [del]; split
    · rfl
    · exact g
theorem Loc.cut (hR : Loc R) {H H0 K : Heap} (h : R H H0) (hk : Heap.le K H0) : ∃ H', Heap.le H' H ∧ R H' K := by
  obtain ⟨A, a1, a2, rfl⟩ := hR.dec h
  have a3 : Apart A K := fun q => by
    rcases a2 q with g | g
    · exact .inl g
    · right
      cases hq : K q with
      | none => rfl
      | some b => rw [hk q b hq] at g; cases g
  exact ⟨join A K, Heap.le_join (Heap.le_refl _) hk a2, hR.inc a1 a3⟩
theorem Loc.swap (hR : Loc R) (hS : Loc S) {H H1 H2 : Heap} (h : R H H1) (k : S H1 H2) : ∃ H3, S H H3 ∧ R H3 H2 := by
  obtain ⟨A, a1, a2, rfl⟩ := hR.dec h
  obtain ⟨B, b1, b2, rfl⟩ := hS.dec k
  obtain ⟨c1, c2⟩ := apart_join.1 a2
  refine ⟨join A H2, ?_, hR.inc a1 c2⟩
  have e : join A (join B H2) = join B (join A H2) := by rw [join_assoc, join_assoc, join_comm c1]
  rw [e]
  exact hS.inc b1 (apart_join.2 ⟨c1.symm, b2⟩)
theorem Loc.unjoin (hR : Loc R) {H K F : Heap} (h : R H (join K F)) (ha : Apart K F) : ∃ H', H = join H' F ∧ Apart H' F ∧ R H' K := by
  obtain ⟨A, a1, a2, rfl⟩ := hR.dec h
  obtain ⟨c1, c2⟩ := apart_join.1 a2
  exact ⟨join A K, join_assoc _ _ _, apart_join_l.2 ⟨c2, ha⟩, hR.inc a1 c1⟩
theorem Loc.frame (hR : Loc R) {H K F : Heap} (h : R H K) (ha : Apart H F) : R (join H F) (join K F) := by
  obtain ⟨A, a1, a2, rfl⟩ := hR.dec h
  obtain ⟨c1, c2⟩ := apart_join_l.1 ha
  rw [← join_assoc]
  exact hR.inc a1 (apart_join.2 ⟨a2, c1⟩)
end
section
variable {α : Type}
def Chain (R : AV → α → HR) : List (AV × α) → HR
  | [] => fun H H0 => H0 = H
  | p :: L => cmp2 (R p.1 p.2) (Chain R L)
variable {R : AV → α → HR}
theorem Loc.chain (hR : ∀ y a, Loc (R y a)) : ∀ L : List (AV × α), Loc (Chain R L)
  | [] => Loc.eq
  | p :: L => (hR p.1 p.2).comp (Loc.chain hR L)
theorem Chain.pick (hR : ∀ y a, Loc (R y a)) : ∀ {L : List (AV × α)} {H H0 : Heap} {k : Nat} {y : AV} {a : α}, Chain R L H H0 → L[k]? = some (y, a) → ∃ H1, R y a H H1 ∧ Chain R (L.eraseIdx k) H1 H0
  | [], H, H0, k, y, a, _, hr => by cases k <;> cases hr
  | p :: L, H, H0, 0, y, a, ⟨H1, h1, h2⟩, hr => by
    simp only [List.getElem?_cons_zero, Option.some.injEq] at hr
    subst hr; exact ⟨H1, h1, h2⟩
  | p :: L, H, H0, k + 1, y, a, ⟨H1, h1, h2⟩, hr => by
    simp only [List.getElem?_cons_succ] at hr
    obtain ⟨H2, g1, g2⟩ := Chain.pick hR h2 hr
    obtain ⟨H3, f1, f2⟩ := (hR p.1 p.2).swap (hR y a) h1 g1
    exact ⟨H3, f1, H2, f2, g2⟩
theorem Chain.put (hR : ∀ y a, Loc (R y a)) : ∀ {L : List (AV × α)} {H H0 H1 : Heap} {k : Nat} {y : AV} {a : α}, R y a H H1 → Chain R (L.eraseIdx k) H1 H0 → k < L.length → Chain R (L.set k (y, a)) H H0
  | [], _, _, _, k, y, a, _, _, hr => by simp at hr
  | p :: L, H, H0, H1, 0, y, a, h1, h2, hr => ⟨H1, h1, h2⟩
  | p :: L, H, H0, H1, k + 1, y, a, h1, ⟨H2, h2, h3⟩, hr => by
    obtain ⟨H3, f1, f2⟩ := (hR y a).swap (hR p.1 p.2) h1 h2
    exact ⟨H3, f1, Chain.put hR f2 h3 (by simpa using hr)⟩
theorem Chain.snoc (hR : ∀ y a, Loc (R y a)) : ∀ {L : List (AV × α)} {H H0 H1 : Heap} {y : AV} {a : α}, R y a H H1 → Chain R L H1 H0 → Chain R (L ++ [(y, a)]) H H0
  | [], H, H0, H1, y, a, h1, h2 => by cases h2; exact ⟨_, h1, rfl⟩
  | p :: L, H, H0, H1, y, a, h1, ⟨H2, h2, h3⟩ => by
    obtain ⟨H3, f1, f2⟩ := (hR y a).swap (hR p.1 p.2) h1 h2
    exact ⟨H3, f1, Chain.snoc hR f2 h3⟩
theorem Chain.ins (hR : ∀ y a, Loc (R y a)) : ∀ {L : List (AV × α)} {H H0 H1 : Heap} {k : Nat} {y : AV} {a : α}, R y a H H1 → Chain R L H1 H0 → Chain R (L.take k ++ [(y, a)] ++ L.drop k) H H0
  | L, H, H0, H1, 0, y, a, h1, h2 => ⟨H1, h1, h2⟩
  | [], H, H0, H1, k + 1, y, a, h1, h2 => ⟨H1, h1, h2⟩
  | p :: L, H, H0, H1, k + 1, y, a, h1, ⟨H2, h2, h3⟩ => by
    obtain ⟨H3, f1, f2⟩ := (hR y a).swap (hR p.1 p.2) h1 h2
    exact ⟨H3, f1, Chain.ins hR f2 h3⟩
theorem Chain.parts (hR : ∀ y a, Loc (R y a)) : ∀ {L M : List (AV × α)} {H H0 : Heap}, Chain R (L ++ M) H H0 → ∃ H1, Chain R L H H1 ∧ Chain R M H1 H0
  | [], M, H, H0, h => ⟨H, rfl, h⟩
  | p :: L, M, H, H0, ⟨H2, h1, h2⟩ => let ⟨H1, g1, g2⟩ := Chain.parts hR h2; ⟨H1, ⟨H2, h1, g1⟩, g2⟩
theorem Chain.sub (hR : ∀ y a, Loc (R y a)) (keep : AV × α → Bool) : ∀ {L : List (AV × α)} {H H0 : Heap}, Chain R L H H0 → ∃ H', Heap.le H' H ∧ Chain R (L.filter keep) H' H0
  | [], H, H0, h => ⟨H, Heap.le_refl _, h⟩
  | p :: L, H, H0, ⟨H1, h1, h2⟩ => by
    obtain ⟨H', g1, g3⟩ := Chain.sub hR keep h2
    cases hk : keep p
    · exact ⟨H', Heap.le_trans g1 ((hR p.1 p.2).le h1), by simpa [hk] using g3⟩
    · obtain ⟨H2, f1, f2⟩ := (hR p.1 p.2).cut h1 g1
      exact ⟨H2, f1, by simp only [List.filter_cons, hk, if_true]; exact ⟨H', f2, g3⟩⟩
end
structure Enc1 {α : Type} (enc : AV × α → List AV) (sz : Nat) where
  pre : α → List Value
  eq : ∀ p, enc p = (pre p.2).map .c ++ [p.1]
  one : ∀ a, ∀ v ∈ pre a, v.oneCell' = true
  len : ∀ a, (pre a).length + 1 = sz
def OwnSl {α : Type} (ty : TypeId) (sz : Nat) (enc : AV × α → List AV) (R : AV → α → HR) (x : AV) (l : List α) : HR := fun H H0 => ∃ L : List (AV × α), L.map Prod.snd = l ∧ cmp2 (fun H H1 => OwnL H x ty sz (L.map enc) H1) (Chain R L) H H0
theorem Loc.sl {α : Type} {ty : TypeId} {sz : Nat} {enc : AV × α → List AV} {R : AV → α → HR} (hR : ∀ y a, Loc (R y a)) (x : AV) (l : List α) : Loc (OwnSl ty sz enc R x l) := Loc.exi fun L => Loc.and ((Loc.own x ty sz (L.map enc)).comp (Loc.chain hR L))
section
variable {α : Type} {ty : TypeId} {sz : Nat} {enc : AV × α → List AV} {R : AV → α → HR} {x : AV} {l : List α} {H H0 : Heap}
theorem Enc1.elen (E : Enc1 enc sz) (p : AV × α) : (enc p).length = sz := by rw [E.eq]; simp [E.len]
theorem Enc1.cell (E : Enc1 enc sz) {y z : AV} {a : α} {j : Nat} {v : AV} (h : (enc (z, a))[j]? = some v) : (v = z ∧ (enc (y, a))[j]? = some y) ∨ ((enc (y, a))[j]? = some v ∧ ∃ u, v = .c u ∧ u.oneCell' = true) := by
  rw [E.eq] at h ⊢
  simp only at h ⊢
  by_cases hj : j < (E.pre a).length
  · rw [List.getElem?_append_left (by simpa using hj)] at h ⊢
    refine .inr ⟨h, ?_⟩
    rw [List.getElem?_map] at h
    obtain ⟨u, hu, rfl⟩ := Option.map_eq_some_iff.1 h
    exact ⟨u, rfl, E.one a u (List.mem_of_getElem? hu)⟩
  · rw [List.getElem?_append_right (by simpa using hj)] at h ⊢
    left
    cases hk : j - ((E.pre a).map AV.c).length with
    | zero => rw [hk] at h; simp at h; exact ⟨h.symm, rfl⟩
    | succ k => rw [hk] at h; simp at h
theorem OwnSl.cs (h : OwnSl ty sz enc R x l H H0) : x.cs = some [x] := let ⟨_, _, _, h1, _⟩ := h; h1.cs
theorem OwnSl.one (h : OwnSl ty sz enc R x l H H0) : x.one = true := let ⟨_, _, _, h1, _⟩ := h; h1.one
theorem OwnSl.len (h : OwnSl ty sz enc R x l H H0) : lenV x = some l.length := let ⟨L, e, _, h1, h2⟩ := h; by rw [h1.len, ← e]; simp
theorem OwnSl.nil {ad : Option Addr} : OwnSl ty sz enc R (.c (.slice ad 0 0)) [] H H := ⟨[], rfl, H, OwnL.none', rfl⟩
theorem Chain.lent (E : Enc1 enc sz) (hR : ∀ y a, Loc (R y a)) {val : α → AV} (hv : ∀ a, (val a).one = true) (hl : ∀ y a H H0, R y a H H0 → Lent H y (val a)) : ∀ {L : List (AV × α)} {H H0 : Heap}, Chain R L H H0 → ∀ (i j : Nat) (v : AV), at2 (L.map fun p => enc (val p.2, p.2)) i j = some v → v.one = true ∧ ∃ x, at2 (L.map enc) i j = some x ∧ Lent H x v
  | [], _, _, _, i, j, v, hy => by simp [at2] at hy
  | (y, a) :: L, H, H0, ⟨H1, h1, h2⟩, i, j, v, hy => by
    cases i with
    | zero =>
      rcases E.cell (y := y) (show (enc (val a, a))[j]? = some v by simpa [at2] using hy) with ⟨rfl, g⟩ | ⟨g, u, rfl, hu⟩
      · exact ⟨hv a, y, by simpa [at2] using g, hl _ _ _ _ h1⟩
      · exact ⟨hu, _, by simpa [at2] using g, Lent.refl _ _⟩
    | succ i =>
      obtain ⟨g1, x, g2, g3⟩ := Chain.lent E hR hv hl h2 i j v (by simpa [at2] using hy)
      exact ⟨g1, x, by simpa [at2] using g2, g3.mono ((hR y a).le h1)⟩
theorem OwnSl.lent (E : Enc1 enc sz) (hR : ∀ y a, Loc (R y a)) {val : α → AV} (hv : ∀ a, (val a).one = true) (hl : ∀ y a H H0, R y a H H0 → Lent H y (val a)) (h : OwnSl ty sz enc R x l H H0) : Lent H x (.l sz (l.map fun a => enc (val a, a))) := by
  obtain ⟨L, rfl, H1, h1, h2⟩ := h
  have hle := (Loc.own x ty sz (L.map enc)).le h1
  rw [List.map_map]
  rcases h1 with ⟨⟨ad, rfl⟩, e, rfl⟩ | ⟨n, cap, rfl, h3, rfl⟩
  · have : L = [] := List.map_eq_nil_iff.1 e
    subst this
    exact fun F w v hsat hv => (Imp.nil_l (F := F) (F' := F0 w) sz) v hv
  · have := Lent.s2 (cap := cap) h3 (rows' := L.map fun p => enc (val p.2, p.2)) (by simp) (fun e he => by obtain ⟨a, _, rfl⟩ := List.mem_map.1 he; exact E.elen _) (fun i j y hy => let ⟨g1, x, g2, g3⟩ := Chain.lent E hR hv hl h2 i j y hy; ⟨g1, x, g2, g3.mono hle⟩) (k := (L.map enc).length) (Nat.le_refl _)
    rwa [List.take_of_length_le (by simp)] at this
theorem Chain.flat (E : Enc1 enc sz) (hf : ∀ y a H H0, R y a H H0 → Flat y ∧ (FlatH H0 → FlatH H)) : ∀ {L : List (AV × α)} {H H0 : Heap}, Chain R L H H0 → FlatR (L.map enc) ∧ (FlatH H0 → FlatH H)
  | [], H, H0, h => ⟨fun i j y hy => by simp [at2] at hy, by cases h; exact id⟩
  | (y, a) :: L, H, H0, ⟨H1, h1, h2⟩ => by
    obtain ⟨g1, g2⟩ := hf _ _ _ _ h1
    obtain ⟨f1, f2⟩ := Chain.flat E hf h2
    refine ⟨fun i j v hv => ?_, fun k => g2 (f2 k)⟩
    cases i with
    | zero =>
      rcases E.cell (y := y) (show (enc (y, a))[j]? = some v by simpa [at2] using hv) with ⟨rfl, g⟩ | ⟨g, u, rfl, hu⟩
      · exact g1
      · exact Flat.c u
    | succ i => exact f1 i j v (by simpa [at2] using hv)
theorem OwnSl.flat (E : Enc1 enc sz) (hf : ∀ y a H H0, R y a H H0 → Flat y ∧ (FlatH H0 → FlatH H)) (h : OwnSl ty sz enc R x l H H0) : Flat x ∧ (FlatH H0 → FlatH H) := by
  obtain ⟨L, e, H1, h1, h2⟩ := h
  obtain ⟨f1, f2⟩ := Chain.flat E hf h2
  exact ⟨h1.flat, fun k => h1.flatH f1 (f2 k)⟩
end
def WP (Q : Mem → Mem → Prop) (H H' : Heap) : Prop :=
  ∀ (F : Mem) (w : World), Sat F H w → ∃ F', F.le F' ∧ Q F F' ∧ Sat F' H' w ∧ (∀ b o u, F' b o = some u → F b o = some u ∨ H b ≠ none) ∧ ∀ n k, H' n = some k → H n ≠ none
theorem WP.refl (H : Heap) : WP (fun F F' => F = F') H H := fun F w hs => ⟨F, .refl F, rfl, hs, fun _ _ _ h => .inl h, fun n k h => by rw [h]; simp⟩
theorem WP.mono {Q Q' : Mem → Mem → Prop} {H H' : Heap} (h : WP Q H H') (hq : ∀ F F', F.le F' → Q F F' → Q' F F') : WP Q' H H' := fun F w hs =>
  let ⟨F', h1, h2, h3⟩ := h F w hs; ⟨F', h1, hq F F' h1 h2, h3⟩
theorem WP.seq {Q Q' : Mem → Mem → Prop} {H H1 H2 : Heap} (h : WP Q H H1) (k : WP Q' H1 H2) : WP (fun F F' => ∃ F1, F.le F1 ∧ F1.le F' ∧ Q F F1 ∧ Q' F1 F') H H2 := fun F w hs => by
  obtain ⟨F1, a1, a2, a3, a4, a5⟩ := h F w hs
  obtain ⟨F2, b1, b2, b3, b4, b5⟩ := k F1 w a3
  refine ⟨F2, a1.trans b1, ⟨F1, a1, b1, a2, b2⟩, b3, fun b o u hu => ?_, fun n k hk => ?_⟩
  · rcases b4 b o u hu with g | g
    · exact a4 b o u g
    · cases hH : H1 b with
      | none => exact absurd hH g
      | some k0 => exact .inr (a5 b k0 hH)
  · cases hH : H1 n with
    | none => exact absurd hH (b5 n k hk)
    | some k0 => exact a5 n k0 hH
theorem WP.less {Q : Mem → Mem → Prop} {H H1 H2 : Heap} (h : WP Q H H1) (hl : Heap.le H2 H1) : WP Q H H2 := fun F w hs =>
  let ⟨F', h1, h2, h3, h4, h5⟩ := h F w hs; ⟨F', h1, h2, h3.less hl, h4, fun n k hk => h5 n k (hl n k hk)⟩
theorem WP.weak {Q : Mem → Mem → Prop} {H H' : Heap} {r r' : AV} (h : WP Q H H') (hr : ∀ F F' : Mem, F.le F' → Q F F' → Imp F F' r r') : Weak r H r' H' := fun F w v hv hs =>
  let ⟨F', h1, h2, h3⟩ := h F w hs; ⟨F', h1, hr F F' h1 h2 v hv, h3⟩
theorem Imp.trans {F F1 F2 : Mem} {x y z : AV} (h : Imp F F1 x y) (k : Imp F1 F2 y z) : Imp F F2 x z := fun v hv => k v (h v hv)
theorem Imp.up {F F1 F2 : Mem} {x y : AV} (h : Imp F F1 x y) (k : F1.le F2) : Imp F F2 x y := fun v hv => (h v hv).mono k
theorem Imp.down {F F1 F2 : Mem} {x y : AV} (k : F.le F1) (h : Imp F1 F2 x y) : Imp F F2 x y := fun v hv => h v (hv.mono k)
theorem Imps.up {F F1 F2 : Mem} {x y : List AV} (h : Imps F F1 x y) (k : F1.le F2) : Imps F F2 x y := ⟨h.1, fun i a b ha hb => ⟨(h.2 i a b ha hb).1.up k, (h.2 i a b ha hb).2⟩⟩
theorem Imps.down {F F1 F2 : Mem} {x y : List AV} (k : F.le F1) (h : Imps F1 F2 x y) : Imps F F2 x y := ⟨h.1, fun i a b ha hb => ⟨(h.2 i a b ha hb).1.down k, (h.2 i a b ha hb).2⟩⟩
theorem OwnL.wp {H H0 : Heap} {x : AV} {ty : TypeId} {sz : Nat} {rows : List (List AV)} (h : OwnL H x ty sz rows H0) : WP (fun F F' => Imp F F' x (.l sz rows) ∧ (∀ e ∈ rows, e.length = sz) ∧ ∀ (i j : Nat) (y : AV), at2 rows i j = some y → y.one = true) H H0 := by
  rcases h with ⟨⟨ad, rfl⟩, rfl, rfl⟩ | ⟨n, cap, rfl, hn, rfl⟩
  · exact (WP.refl _).mono fun F F' hF _ => ⟨Imp.nil_l sz, by simp, fun i j y hy => by simp [at2] at hy⟩
  · intro F w hs
    obtain ⟨C, c1, c2, c3, c4, c5, c6⟩ := hs.blk n _ hn
    have hle : rows.length * sz ≤ C.size := by rw [c2]; exact Nat.mul_le_mul_right _ c3
    obtain ⟨F', hF'⟩ : ∃ F' : Mem, F' = fun b o => if b = n then (if o < rows.length * sz then C[o]? else Option.none) else F b o := ⟨_, rfl⟩
    have hFn : ∀ o, F n o = Option.none := fun o => by
      cases h : F n o with
      | none => rfl
      | some u => exact (hs.off n o u _ h hn).elim
    have hFF : F.le F' := fun b o u hu => by
      rw [hF']
      by_cases e : b = n
      · subst e; rw [hFn] at hu; cases hu
      · simp [e, hu]
    have hrr : ∀ i j y, at2 rows i j = some y → y.one = true ∧ V F' y (C.getD (i * sz + j) undef) ∧ F' n (i * sz + j) = some (C.getD (i * sz + j) undef) := fun i j y hy => by
      refine ⟨c6.one i j y hy, (c6.val i j y hy).mono hFF, ?_⟩
      obtain ⟨b1, b2⟩ := c6.at2 hy
      have hlt := flat_lt b1 b2
      have : i * sz + j < C.size := by omega
      rw [hF']; simp [hlt, this, Array.getD]
    refine ⟨F', hFF, ⟨fun v hv => ?_, c6.len, c6.one⟩, ⟨fun b o u hu => ?_, fun b o u k hu hk => ?_, fun m k hk => ?_⟩, fun b o u hu => ?_, fun m k hk => ?_⟩
    · have h := hv.frz (n := n) hFF c6.len hrr
      rwa [frz_s rfl] at h
    · rw [hF'] at hu
      by_cases e : b = n
      · subst e
        simp only [if_true] at hu
        split at hu
        · rw [cell_of_row w b _ C ty (0, 0) c1]; exact hu
        · cases hu
      · simp only [e, if_false] at hu; exact hs.mem b o u hu
    · rw [hF'] at hu
      by_cases e : b = n
      · rw [e, del_same] at hk; cases hk
      · simp only [e, if_false] at hu
        rw [del_ne e] at hk
        exact hs.off b o u k hu hk
    · by_cases e : m = n
      · rw [e, del_same] at hk; cases hk
      · rw [del_ne e] at hk
        exact (hs.blk m k hk).mono hFF
    · rw [hF'] at hu
      by_cases e : b = n
      · right; rw [e, hn]; simp
      · simp only [e, if_false] at hu; exact .inl hu
    · by_cases e : m = n
      · rw [e, del_same] at hk; cases hk
      · rw [del_ne e] at hk; rw [hk]; simp
def RowsI (F F' : Mem) (rs rs' : List (List AV)) : Prop := rs.length = rs'.length ∧ ∀ (i : Nat) (r r' : List AV), rs[i]? = some r → rs'[i]? = some r' → Imps F F' r r'
section
variable {α : Type} {ty : TypeId} {sz : Nat} {enc : AV × α → List AV} {R : AV → α → HR} {x : AV} {l : List α} {H H0 : Heap}
theorem Enc1.imps (E : Enc1 enc sz) {F F' : Mem} (hF : F.le F') {y z : AV} {a : α} (h : Imp F F' y z) (ho : z.one = true) : Imps F F' (enc (y, a)) (enc (z, a)) := by
  refine ⟨by rw [E.elen, E.elen], fun i u v hu hv => ?_⟩
  rcases E.cell (y := y) hv with ⟨rfl, g⟩ | ⟨g, w, rfl, hw⟩
  · rw [hu] at g; cases g; exact ⟨h, fun _ => ho⟩
  · rw [hu] at g; cases g; exact ⟨Imp.refl hF _, id⟩
theorem Chain.wp (E : Enc1 enc sz) {val : α → AV} (hv : ∀ a, (val a).one = true) (hw : ∀ y a H H0, R y a H H0 → WP (fun F F' => Imp F F' y (val a)) H H0) : ∀ {L : List (AV × α)} {H H0 : Heap}, Chain R L H H0 → WP (fun F F' => RowsI F F' (L.map enc) (L.map fun p => enc (val p.2, p.2))) H H0
  | [], H, H0, h => by cases h; exact (WP.refl _).mono fun F F' _ _ => ⟨rfl, fun i r r' hr => by simp at hr⟩
  | (y, a) :: L, H, H0, ⟨H1, h1, h2⟩ => by
    refine ((hw _ _ _ _ h1).seq (Chain.wp E hv hw h2)).mono fun F F' hF => ?_
    rintro ⟨F1, f1, f2, g1, g2, g3⟩
    refine ⟨by simp, fun i r0 r' hr hr' => ?_⟩
    cases i with
    | zero =>
      simp only [List.getElem?_cons_zero, Option.some.injEq, List.map_cons] at hr hr'
      subst hr hr'; exact E.imps (f1.trans f2) (g1.up f2) (hv a)
    | succ i =>
      simp only [List.getElem?_cons_succ, List.map_cons] at hr hr'
      exact (g3 i r0 r' hr hr').down f1
theorem OwnSl.wp (E : Enc1 enc sz) {val : α → AV} (hv : ∀ a, (val a).one = true) (hw : ∀ y a H H0, R y a H H0 → WP (fun F F' => Imp F F' y (val a)) H H0) (h : OwnSl ty sz enc R x l H H0) : WP (fun F F' => Imp F F' x (.l sz (l.map fun a => enc (val a, a)))) H H0 := by
  obtain ⟨L, rfl, H1, h1, h2⟩ := h
  refine (h1.wp.seq (Chain.wp E hv hw h2)).mono fun F F' hF => ?_
  rintro ⟨F1, f1, f2, ⟨g1, g3, g4⟩, g2⟩
  rw [List.map_map]
  refine g1.trans (Imp.l f2 (by simp) (fun e he => by obtain ⟨a, _, rfl⟩ := List.mem_map.1 he; exact E.elen _) fun i j y hy => ?_)
  obtain ⟨r', hr', hy'⟩ := at2_some.1 hy
  have hi : i < (L.map enc).length := by have := (List.getElem?_eq_some_iff.1 hr').1; simpa using this
  have hr : (L.map enc)[i]? = some (L.map enc)[i] := List.getElem?_eq_getElem hi
  have him := g2.2 i _ _ hr hr'
  have hj : j < ((L.map enc)[i]).length := by have := (List.getElem?_eq_some_iff.1 hy').1; have := him.1; omega
  have hx : ((L.map enc)[i])[j]? = some ((L.map enc)[i])[j] := List.getElem?_eq_getElem hj
  have h3 := him.2 j _ _ hx hy'
  have h4 : at2 (L.map enc) i j = some ((L.map enc)[i])[j] := at2_some.2 ⟨_, hr, hx⟩
  exact ⟨h3.2 (g4 i j _ h4), _, h4, h3.1⟩
end
end Go.Proofs.Ytlbdpnlmdcajbaa
