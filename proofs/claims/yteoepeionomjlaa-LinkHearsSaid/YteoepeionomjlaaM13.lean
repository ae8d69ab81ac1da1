/- Regions that draw their order. -/
import Derived.Test.YteoepeionomjlaaM12
import Derived.OrdersIn
namespace Go.Proofs.Yteoepeionomjlaa
open Go.RowKit
set_option linter.unusedVariables false
set_option linter.unusedSimpArgs false
set_option linter.constructorNameAsVariable false

inductive Cl where
  | pure | make | gen
  deriving DecidableEq

def clsO (pc : FuncId → Bool) : Op → Cl
  | .alloc _ | .box .. | .buildSlice .. => .make
  | .call { callee := .builtin .len, .. } | .call { callee := .builtin .max, .. } | .call { callee := .builtin .min, .. } => .pure
  | .call { callee := .value (.func f), .. } => if pc f then .pure else .gen
  | .move _ | .assign _ | .pick .. | .makeFunc .. | .extract .. | .unOp .. | .binOp .. | .convert .. | .nilCheck _ | .fieldAddr .. | .field .. | .indexAddr .. | .index .. | .slice .. | .load .. | .build .. => .pure
  | _ => .gen
def cls (pc : FuncId → Bool) (o : Oper) : Cl :=
  match clsO pc o.op, o.guard with
  | .make, some _ => .gen
  | c, _ => c

def isLoad : Op → Bool
  | .load .. => true
  | _ => false

def stepV {P : Program} (E : Env P) (ops : Array Oper) (o : Oper) (a : Nat → AV) (H : Heap) : Option AV :=
  match o.guard with
  | none => pureF E H o a
  | some (j, w) => match gv ops a j with
    | some b => if b = w then pureF E H o a else some .x
    | none => none

def mkV {P : Program} (E : Env P) (o : Oper) (a : Nat → AV) : Option (Nat → AV × Blk) :=
  match o.op with
  | .alloc t =>
    match tZ P t with
    | some zs => if zs.all (·.oneCell') = true ∧ 0 < zs.length then some fun n => (.p n zs.length 0 0, .r t zs.length 1 [zs.map .c]) else none
    | none => none
  | .box t x =>
    match (ev a x).cs with
    | some ys => if 0 < ys.length then some fun n => (.p n ys.length 0 0, .r t ys.length 1 [ys]) else none
    | none => none
  | .buildSlice t len parts =>
    match tE P t with
    | some et =>
      match tS P et, tZ P et with
      | some sz, some zs => if zs.length = sz ∧ 0 < sz ∧ len * sz ≤ 16777216 ∧ zs.all (·.oneCell') = true then
          (fillR sz (List.replicate len (zs.map .c)) (parts.toList.map fun p => (p.1, ev a p.2))).map fun r n => (.s n sz 0 len len, .r et sz len r) else none
      | _, _ => none
    | none => none
  | _ => none

def GT {P : Program} (E : Env P) (ops : Array Oper) (o : Oper) (a : Nat → AV) (H : Heap) (K : AV → Heap → Prop) : Prop :=
  match o.guard with
  | none => EO E o a H K
  | some (j, w) => match gv ops a j with
    | some b => (b = w → EO E o a H K) ∧ (b = !w → K .x H)
    | none => False

abbrev En := Nat × Bool × List Nat

def isMkO : Op → Bool
  | .alloc _ | .box .. | .buildSlice .. => true
  | _ => false
/-- what makes memory, and may come ahead of a call, can be made -/
def premk {P : Program} (E : Env P) (N : Nat) (ops : Array Oper) (a : Nat → AV) : List Nat → Prop
  | [] => True
  | m :: us => (match ops[m]? with
    | some o => (isMkO o.op = true → dok N o.dst = true ∧ (mkV E o a).isSome = true)
    | none => True) ∧ premk E N ops a us

/-- the operations one behind the other, those that turn nothing first -/
def LR {P : Program} (E : Env P) (N : Nat) (ops : Array Oper) (pc : FuncId → Bool) : List En → (Nat → AV) → Heap → List (Nat × (Heap → Prop)) → ((Nat → AV) → Heap → Prop) → Prop
  | [], a, H, M, K => K a H
  | (i, rc, us) :: l, a, H, M, K =>
    match ops[i]? with
    | none => False
    | some o => dok N o.dst = true ∧
      match cls pc o with
      | .pure => match stepV E ops o a H with
        | some r => LR E N ops pc l (put a o.dst r) H (if rc = true then (i, fun H' => stepV E ops o a H' = some r) :: M else M) K
        | none => False
      | .make => match mkV E o a with
        | some g => ∀ n, H n = none → LR E N ops pc l (put a o.dst (g n).1) (upd H n (g n).2) M K
        | none => False
      | .gen => premk E N ops a us ∧ GT E ops o a H (fun r H' => (∀ e ∈ M, e.1 ∈ us → e.2 H') ∧ LR E N ops pc l (put a o.dst r) H' M K)

/-! ### only the operands count -/
section congr
variable {P : Program} {E : Env P} {o : Oper} {a a' : Nat → AV} {H : Heap}

theorem evs_congr {zs : Array Operand} (h : ∀ x ∈ zs.toList, ev a x = ev a' x) : zs.toList.map (ev a) = zs.toList.map (ev a') := List.map_congr_left h
theorem parts_congr {ps : Array (Nat × Operand)} (h : ∀ p ∈ ps.toList, ev a p.2 = ev a' p.2) : (ps.toList.map fun p => (p.1, ev a p.2)) = ps.toList.map fun p => (p.1, ev a' p.2) := List.map_congr_left fun p hp => by rw [h p hp]

theorem pureF_congr (h : ∀ x ∈ o.op.operands.toList, ev a x = ev a' x) : pureF E H o a = pureF E H o a' := by
  unfold pureF
  split <;> rename_i ho <;> try rw [ho] at h
  case h_4 => 
    simp only [Op.operands, Array.toList_append, List.mem_append] at h
    rw [evs_congr fun x hx => h x (.inl hx), evs_congr fun x hx => h x (.inr hx)]
  case h_14 =>
    rename_i t x lo hi mx
    have hx : ev a x = ev a' x := h x (by simp [Op.operands])
    have hop : ∀ (d : Nat) (y : Option Operand), (y = lo ∨ y = hi ∨ y = mx) → optI a d y = optI a' d y := by
      intro d y hy
      cases y with
      | none => rfl
      | some y =>
        have : ev a y = ev a' y := h y (by rcases hy with hy | hy | hy <;> simp [Op.operands, ← hy])
        simp only [optI, this]
    simp only [slcV, hx, hop _ lo (.inl rfl), hop _ hi (.inr (.inl rfl)), hop _ mx (.inr (.inr rfl))]
  case h_16 =>
    rename_i t ps
    rw [parts_congr fun p hp => h p.2 (by simp only [Op.operands, List.toList_toArray]; exact List.mem_map.2 ⟨p, hp, rfl⟩)]
  case h_17 =>
    rename_i b xs ts
    rw [evs_congr fun x hx => h x (by simp only [Op.operands, Call.operands, Array.toList_append]; exact List.mem_append_right _ hx)]
  case h_18 =>
    rename_i f xs ts
    rw [evs_congr fun x hx => h x (by simp only [Op.operands, Call.operands, Array.toList_append]; exact List.mem_append_right _ hx)]
  all_goals (first | rfl | (simp only [Op.operands, List.toList_toArray, List.mem_cons, List.not_mem_nil, or_false, forall_eq_or_imp, forall_eq] at h; simp only [h]))
end congr
end Go.Proofs.Yteoepeionomjlaa
