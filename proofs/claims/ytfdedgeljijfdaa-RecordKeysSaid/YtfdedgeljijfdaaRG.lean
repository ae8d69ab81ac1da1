/- Walks: the row of bytes. -/
import Derived.Test.YtfdedgeljijfdaaRF
namespace Go.Proofs.Ytfdedgeljijfdaa
open Go.RowKit
open Nat renaming reduceEqDiff → nA, reduceLT → nB, reduceLeDiff → nC, reduceAdd → nD, reduceMul → nE, reduceSub → nF, reduceBEq → nG
open Int renaming reduceToNat → iA, reduceLT → iB, reduceLE → iC, reduceEq → iD
open Bool renaming and_eq_true → bA, or_eq_true → bB, or_eq_false_iff → bC, and_eq_false_iff → bD, not_eq_true' → bE, not_eq_false' → bF, not_true → bG, not_false → bH
set_option linter.all false
set_option maxHeartbeats 4000000
attribute [local irreducible] AW Does ACall tE tS tB tZ

def rdS (kind : Int) (l : List Int) (e w : Int) : El × List Int × Int × Int :=
  if kind = 1 then (⟨0, (rcS l e w).1, (rcS l e w).2.1, (rcS l e w).2.2.1, 0⟩, (rcS l e w).2.2.2.1, (rcS l e w).2.2.2.2.1, (rcS l e w).2.2.2.2.2)
  else if kind = 2 then (⟨0, 0, 0, 0, gvX 8 l e⟩, gvL 8 l e, gvE 8 l e, needW w (gvE 8 l e) (numOk (gvX 8 l e)))
  else (⟨0, 0, 0, 0, 0⟩, l, e, w)
def there (k : Int) : Bool := decide (k = 1) || decide (k = 2) || decide (k = 3)
def decL : Nat → List Int → Int → Int → List El → List El × List Int × Int × Int
  | 0, l, e, w, out => (out, l, e, w)
  | n + 1, l, e, w, out =>
    if needW w (gvE 1 l e) (there (gvX 1 l e)) = 0 then
      decL n (rdS (gvX 1 l e) (gvL 1 l e) (gvE 1 l e) 0).2.1 (rdS (gvX 1 l e) (gvL 1 l e) (gvE 1 l e) 0).2.2.1 (needW (rdS (gvX 1 l e) (gvL 1 l e) (gvE 1 l e) 0).2.2.2 (rdS (gvX 1 l e) (gvL 1 l e) (gvE 1 l e) 0).2.2.1 true) (out ++ [{ (rdS (gvX 1 l e) (gvL 1 l e) (gvE 1 l e) 0).1 with kind := gvX 1 l e }])
    else (out, gvL 1 l e, gvE 1 l e, needW w (gvE 1 l e) (there (gvX 1 l e)))
def decR (b : List Int) : List El × Int :=
  if 200 < gvX 1 b 0 then ([], 3) else
  let R := decL (gvX 1 b 0).toNat (gvL 1 b 0) (gvE 1 b 0) (needW 0 (gvE 1 b 0) true) []
  if needW R.2.2.2 R.2.2.1 (decide (R.2.1.length = 0)) = 0 then (R.1, 0) else ([], needW R.2.2.2 R.2.2.1 (decide (R.2.1.length = 0)))
def lkV {α : Type} (x : Option (ME α)) : AV := match x with | some e => .t [e.y, .c (.bool true)] | none => .t [.x, .c (.bool false)]
section
variable {P : Program} {o : Oper} {a : Nat → AV} {H : Heap} {K : AV → Heap → Prop} {α : Type} [DecidableEq α] {enc : α → Value}
theorem does_lookupG {t kt et : TypeId} {m x : Operand} {n : Nat} {l : List (ME α)} {c : Nat} {M : Mem} {k : α} {y : AV} {b : Bool} (KK : KeyK P kt enc) (ho : o.op = .lookup t m x true) (hm : ev a m = .c (.map (some n))) (hH : H n = some (bm enc l c M)) (hW : MW M l)
    (ht : P.underlying t = some (.map kt et)) {z : Value} (hz : ∀ w, (zeroValue et).run P w = .ok z w) (hk : IsK (ev a x) (enc k))
    (hr : lkV (mget k l) = .t [y, .c (.bool b)]) (h : K (.t [y, .c (.bool b)]) H) : Does P o a H K :=
  does_lookup KK ho hm hH hW ht (zA := .x) hz (fun _ => .x _) hk (by
    cases hg : mget k l with
    | none =>
      rw [hg] at hr
      have hr2 : AV.t [.x, .c (.bool false)] = .t [y, .c (.bool b)] := hr
      show K (.t [.x, .c (.bool false)]) H
      rw [hr2]; exact h
    | some e =>
      rw [hg] at hr
      have hr2 : AV.t [e.y, .c (.bool true)] = .t [y, .c (.bool b)] := hr
      show K (.t [e.y, .c (.bool true)]) H
      rw [hr2]; exact h)
theorem does_mapUpdateP {t kt et : TypeId} {m x z : Operand} {n : Nat} {l : List (ME α)} {c : Nat} {M : Mem} {k : α} {y : AV} (KK : KeyK P kt enc) (ho : o.op = .mapUpdate t m x z ∨ o.op = .insert t m x z) (hm : ev a m = .c (.map (some n))) (hH : H n = some (bm enc l c M))
    (ht : P.underlying t = some (.map kt et)) (hk : IsK (ev a x) (enc k)) (hy : ev a z = y)
    (h : ∀ v M', M.le M' → V M' y v → K .x (upd H n (bm enc (mput k v y c l) (mclk k l c) M'))) : Does P o a H K := by
  subst hy
  exact does_mapUpdate KK ho hm hH ht hk h
end
theorem info_fn : ((Try.prog.info? 62).bind (·.zero)).isSome = true := by kernel_rfl
theorem zero_fn : ∃ z, ∀ w : World, (zeroValue 62).run Try.prog w = .ok z w := by
  have h := info_fn
  cases hi : Try.prog.info? 62 with
  | none => rw [hi] at h; cases h
  | some i =>
    rw [hi] at h
    cases h2 : i.zero with
    | none => simp [h2] at h
    | some z => exact ⟨z, fun w => by simp [zeroValue, typeInfo, hi, h2, Sem.run_bind]⟩
abbrev kI (n : Int) : Value := .int .i64 n
theorem kkI : KeyK Try.prog 3 kI := KeyK.int tU3
abbrev fnV (f q : Nat) : AV := .f (.func f) [.p q 2 0 0] []
def rdM (q : Nat) (u1 u2 u3 : Value) : List (ME Int) := [⟨1, u1, fnV 30 q, 0⟩, ⟨2, u2, fnV 31 q, 1⟩, ⟨3, u3, fnV 32 q, 2⟩]
theorem own_st {B H1 : Heap} {m q : Nat} {l : List Int} {e w : Int} {v : AV} {ty sz : Nat} {rows : List (List AV)} (hmq : m ≠ q) (h : OwnL (st B m q l e w) v ty sz rows (st H1 m q l e w)) (l2 : List Int) (e2 w2 : Int) : OwnL (st B m q l2 e2 w2) v ty sz rows (st H1 m q l2 e2 w2) := by
  have h2 := (h.turn (st_m hmq l e w) (rdE l2 e2)).turn (by rw [st_um hmq]; exact st_q _ _ _ _ _ _) (rwB m w2)
  rw [st_um hmq, st_uq, st_um hmq, st_uq] at h2
  exact h2
theorem rd_call (kind : Int) (hk : there kind = true) (l : List Int) (ho : octs l) (hll : l.length ≤ 1000000) (m q : Nat) (hmq : m ≠ q) (u1 u2 u3 : Value) :
    ∃ f u c, mget kind (rdM q u1 u2 u3) = some ⟨kind, u, fnV f q, c⟩ ∧ ∀ G, ACall Try.prog f [.p q 2 0 0] (st G m q l 0 0) fun r H' => r = .g (El.av (rdS kind l 0 0).1) ∧ H' = st G m q (rdS kind l 0 0).2.1 (rdS kind l 0 0).2.2.1 (rdS kind l 0 0).2.2.2 := by
  simp only [there, Bool.or_eq_true, decide_eq_true_eq] at hk
  rcases hk with (rfl | rfl) | rfl
  · exact ⟨_, _, _, rfl, fun G => by simpa [rdS] using record_g l ho 0 0 hll m q hmq G⟩
  · exact ⟨_, _, _, rfl, fun G => by simpa [rdS] using barrier_g l ho 0 0 hll m q hmq G⟩
  · exact ⟨_, _, _, rfl, fun G => by simpa [rdS] using end_g q (st G m q l 0 0)⟩
theorem rd_look (kind : Int) (q : Nat) (u1 u2 u3 : Value) : ∃ y, lkV (mget kind (rdM q u1 u2 u3)) = .t [y, .c (.bool (there kind))] ∧ (∀ f u c, mget kind (rdM q u1 u2 u3) = some ⟨kind, u, fnV f q, c⟩ → y = fnV f q) := by
  by_cases h1 : kind = 1
  · subst h1; exact ⟨_, rfl, fun f u c h => by cases h; rfl⟩
  by_cases h2 : kind = 2
  · subst h2; exact ⟨_, rfl, fun f u c h => by cases h; rfl⟩
  by_cases h3 : kind = 3
  · subst h3; exact ⟨_, rfl, fun f u c h => by cases h; rfl⟩
  have h : mget kind (rdM q u1 u2 u3) = none := by
    rw [mget_none_iff]
    simp only [rdM, List.map_cons, List.map_nil, List.mem_cons, List.not_mem_nil, or_false]
    omega
  rw [h]
  exact ⟨.x, by simp [lkV, there, h1, h2, h3], fun f u c h => by cases h⟩
theorem needW_0 {w e : Int} {ok : Bool} (h : needW w e ok = 0) : w = 0 ∧ e = 0 ∧ ok = true := by
  unfold needW at h
  split at h
  · split at h
    · split at h
      · exact ⟨by assumption, by assumption, by assumption⟩
      · cases h
    · cases h
  · contradiction
theorem rdS_good (kind : Int) {l : List Int} (ho : octs l) : octs (rdS kind l 0 0).2.1 ∧ (rdS kind l 0 0).2.1.length ≤ l.length := by
  unfold rdS
  split
  · exact ⟨gvL_octs (gvL_octs (gvL_octs ho)), Nat.le_trans (gvL_len _ _ _) (Nat.le_trans (gvL_len _ _ _) (gvL_len _ _ _))⟩
  · split
    · exact ⟨gvL_octs ho, gvL_len _ _ _⟩
    · exact ⟨ho, Nat.le_refl _⟩
end Go.Proofs.Ytfdedgeljijfdaa
