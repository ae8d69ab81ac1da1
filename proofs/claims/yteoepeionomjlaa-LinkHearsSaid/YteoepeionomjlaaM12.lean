/- Rules by which all is reckoned. -/
import Derived.Test.YteoepeionomjlaaM11
import Derived.Shelf.Abstract
namespace Go.Proofs.Yteoepeionomjlaa
open Go.RowKit
set_option linter.unusedVariables false
set_option linter.unusedSimpArgs false
set_option linter.constructorNameAsVariable false

theorem Ent_of {P : Program} {f : FuncId} {fn : Func} {c : Code} (hf : P.funcs[f]? = some fn) (hname : (fn.name == "runtime.NumGoroutine") = false) (hb : fn.body = some c) : Ent P f := Go.Proofs.enters_of hf hname hb

section
variable {P : Program} {t : TypeId} {k : IntKind} {m n : Int}
theorem binV_add : binV P .add t (.c (.int k m)) (.c (.int k n)) = some (.c (.int k (k.wrap (m + n)))) := by unfold binV; simp [binI]
theorem binV_sub : binV P .sub t (.c (.int k m)) (.c (.int k n)) = some (.c (.int k (k.wrap (m - n)))) := by unfold binV; simp [binI]
theorem binV_mul : binV P .mul t (.c (.int k m)) (.c (.int k n)) = some (.c (.int k (k.wrap (m * n)))) := by unfold binV; simp [binI]
theorem binV_and : binV P .and t (.c (.int k m)) (.c (.int k n)) = some (.c (.int k (bits .and k m n))) := by unfold binV; simp [binI]
theorem binV_or : binV P .or t (.c (.int k m)) (.c (.int k n)) = some (.c (.int k (bits .or k m n))) := by unfold binV; simp [binI]
theorem binV_eql : binV P .eql t (.c (.int k m)) (.c (.int k n)) = some (.c (.bool (decide (m = n)))) := by unfold binV; simp [binI]
theorem binV_neq : binV P .neq t (.c (.int k m)) (.c (.int k n)) = some (.c (.bool (!decide (m = n)))) := by unfold binV; simp [binI]
theorem binV_lss : binV P .lss t (.c (.int k m)) (.c (.int k n)) = some (.c (.bool (decide (m < n)))) := by unfold binV; simp [binI]
theorem binV_leq : binV P .leq t (.c (.int k m)) (.c (.int k n)) = some (.c (.bool (decide (m ≤ n)))) := by unfold binV; simp [binI]
theorem binV_gtr : binV P .gtr t (.c (.int k m)) (.c (.int k n)) = some (.c (.bool (decide (n < m)))) := by unfold binV; simp [binI]
theorem binV_geq : binV P .geq t (.c (.int k m)) (.c (.int k n)) = some (.c (.bool (decide (n ≤ m)))) := by unfold binV; simp [binI]
theorem binV_quo : binV P .quo t (.c (.int k m)) (.c (.int k n)) = if n ≠ 0 then some (.c (.int k (k.wrap (m.tdiv n)))) else none := by unfold binV; simp
theorem binV_rem : binV P .rem t (.c (.int k m)) (.c (.int k n)) = if n ≠ 0 then some (.c (.int k (m.tmod n))) else none := by unfold binV; simp
theorem binV_beq {p q : Bool} (h : P.underlying t = some .bool) : binV P .eql t (.c (.bool p)) (.c (.bool q)) = some (.c (.bool (p == q))) := by unfold binV; simp [h]
theorem binV_bne {p q : Bool} (h : P.underlying t = some .bool) : binV P .neq t (.c (.bool p)) (.c (.bool q)) = some (.c (.bool (p != q))) := by unfold binV; simp [h]
theorem eqV_c {E : Env P} {op : BinOp} {u v : Value} : eqV E op t (.c u) (.c v) = binV P op t (.c u) (.c v) := rfl
theorem eqV_g {E : Env P} {op : BinOp} {xs ys : List AV} : eqV E op t (.g xs) (.g ys) = match valsOf xs, valsOf ys with
    | some us, some vs =>
      match op with
      | .eql => (E.eq t us vs).map fun b => .c (.bool b)
      | .neq => (E.eq t us vs).map fun b => .c (.bool !b)
      | _ => none
    | _, _ => none := rfl
end

theorem wrap_i64 {x : Int} (h0 : -9223372036854775808 ≤ x) (h1 : x ≤ 9223372036854775807) : IntKind.i64.wrap x = x := by
  simp only [IntKind.wrap, IntKind.bits, IntKind.signed]
  rcases Int.lt_or_le x 0 with h | h
  · have : x % (2 ^ 64) = x + 2 ^ 64 := by omega
    simp [this]; omega
  · have : x % (2 ^ 64) = x := by omega
    simp [this]; omega
theorem wrap_u64 {x : Int} (h0 : 0 ≤ x) (h1 : x ≤ 18446744073709551615) : IntKind.u64.wrap x = x := by
  simp only [IntKind.wrap, IntKind.bits, IntKind.signed]
  simp; omega
theorem wrap_u32 {x : Int} (h0 : 0 ≤ x) (h1 : x ≤ 4294967295) : IntKind.u32.wrap x = x := by
  simp only [IntKind.wrap, IntKind.bits, IntKind.signed]
  simp; omega
theorem wrap_u16 {x : Int} (h0 : 0 ≤ x) (h1 : x ≤ 65535) : IntKind.u16.wrap x = x := by
  simp only [IntKind.wrap, IntKind.bits, IntKind.signed]
  simp; omega
theorem wrap_u8 {x : Int} (h0 : 0 ≤ x) (h1 : x ≤ 255) : IntKind.u8.wrap x = x := by
  simp only [IntKind.wrap, IntKind.bits, IntKind.signed]
  simp; omega

theorem upd_get (H : Heap) (n m : Nat) (k : Blk) : upd H n k m = if m = n then some k else H m := rfl
theorem upd_none2 {H : Heap} {n m : Nat} {k : Blk} : upd H n k m = none ↔ (m ≠ n ∧ n ≠ m) ∧ H m = none := by
  rw [upd_none]; exact ⟨fun h => ⟨⟨h.1, Ne.symm h.1⟩, h.2⟩, fun h => ⟨h.1.1, h.2⟩⟩
theorem evN {P : Program} {E : Env P} {N : Nat} {a : Nat → AV} {H : Heap} : True := trivial

section
variable {P : Program} {E : Env P} {N : Nat} {ops : Array Oper} {a : Nat → AV} {H : Heap} {K : (Nat → AV) → Heap → Prop}
theorem ER_nil : ER E N ops [] a H K = K a H := propext ⟨fun h => h, fun h => h⟩
/-- what follows an operation, under one name -/
def CT {P : Program} (E : Env P) (N : Nat) (ops : Array Oper) (os : List Oper) (a : Nat → AV) (d : Option Nat) (K : (Nat → AV) → Heap → Prop) : AV → Heap → Prop := fun r H' => ER E N ops os (put a d r) H' K
theorem CT_app {d : Option Nat} {os : List Oper} {r : AV} {H' : Heap} : CT E N ops os a d K r H' = ER E N ops os (put a d r) H' K := propext ⟨fun h => h, fun h => h⟩
theorem ER_none {d : Option Nat} {op : Op} {ty : TypeId} {ps : String} {af : Array Edge} {os : List Oper} :
    ER E N ops ({ dst := d, op := op, type := ty, pos := ps, after := af, guard := none } :: os) a H K = (dok N d = true ∧ EO E { dst := d, op := op, type := ty, pos := ps, after := af, guard := none } a H (CT E N ops os a d K)) := propext ⟨fun h => h, fun h => h⟩
/-- an operation with a guard: two ways -/
theorem ER_guard {d : Option Nat} {op : Op} {ty : TypeId} {ps : String} {af : Array Edge} {os : List Oper} {j : Nat} {want b : Bool} (hb : gv ops a j = some b)
    (h1 : b = want → dok N d = true ∧ EO E { dst := d, op := op, type := ty, pos := ps, after := af, guard := some (j, want) } a H (CT E N ops os a d K))
    (h2 : b = !want → dok N d = true ∧ ER E N ops os (put a d (.t [])) H K) :
    ER E N ops ({ dst := d, op := op, type := ty, pos := ps, after := af, guard := some (j, want) } :: os) a H K := by
  have hd : dok N d = true := by
    by_cases e : b = want
    · exact (h1 e).1
    · exact (h2 (by cases b <;> cases want <;> simp_all)).1
  refine ⟨hd, ?_⟩
  simp only [hb]
  exact ⟨fun e => (h1 e).2, fun e => (h2 e).2⟩
end

/-- what comes next, under one name -/
structure Kn (P : Program) (N : Nat) (y : Code) (Q : Post) (K : (Nat → AV) → Heap → Prop) : Prop where
  at_ : ∀ a H, AW P N y a H Q → K a H
theorem Kn.go {P : Program} {N : Nat} {y : Code} {Q : Post} {K : (Nat → AV) → Heap → Prop} {a : Nat → AV} {H : Heap} (h : Kn P N y Q K) (k : AW P N y a H Q) : K a H := h.at_ a H k
theorem AW_seq_kn {P : Program} {N : Nat} {x y : Code} {Q : Post} {a : Nat → AV} {H : Heap} (h : ∀ K : (Nat → AV) → Heap → Prop, Kn P N y Q K → AW P N x a H (thenA K Q)) : AW P N (.seq x y) a H Q :=
  AW_seq_k fun K hK => h K ⟨hK⟩

theorem ite_cbool (b p q : Bool) : (if b = true then AV.c (.bool p) else AV.c (.bool q)) = .c (.bool (if b = true then p else q)) := by cases b <;> rfl
theorem ite_cbool' (c : Prop) [Decidable c] (p q : Bool) : (if c then AV.c (.bool p) else AV.c (.bool q)) = .c (.bool (if c then p else q)) := by split <;> rfl
end Go.Proofs.Yteoepeionomjlaa
