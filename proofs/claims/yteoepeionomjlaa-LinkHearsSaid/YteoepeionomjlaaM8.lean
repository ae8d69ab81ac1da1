/- What an operation yields, reckoned; regions in the order of the text. -/
import Derived.Test.YteoepeionomjlaaM7
import Derived.OrdersIn
import Derived.Laws.StructEq
namespace Go.Proofs.Yteoepeionomjlaa
open Go.RowKit
set_option linter.unusedVariables false
set_option linter.unusedSimpArgs false
set_option linter.constructorNameAsVariable false

/-! ### the values of operations that turn no memory -/
def valsOf : List AV → Option (List Value)
  | [] => some []
  | .c v :: xs => (valsOf xs).map (v :: ·)
  | _ :: _ => none
theorem valsOf_map {xs : List AV} {us : List Value} (h : valsOf xs = some us) : xs = us.map .c := by
  induction xs generalizing us with
  | nil => simp [valsOf] at h; subst h; rfl
  | cons x xs ih =>
    cases x <;> simp [valsOf] at h
    obtain ⟨us', h1, rfl⟩ := h
    rw [ih h1]; rfl

def binV (P : Program) (op : BinOp) (t : TypeId) (x y : AV) : Option AV :=
  match x, y with
  | .c (.int k m), .c (.int k' n) =>
    if k = k' then
      match op with
      | .quo => if n ≠ 0 then some (.c (.int k (k.wrap (m.tdiv n)))) else none
      | .rem => if n ≠ 0 then some (.c (.int k (m.tmod n))) else none
      | .shl => if 0 ≤ n then some (.c (.int k (k.wrap (m * 2 ^ min n.toNat k.bits)))) else none
      | .shr => if 0 ≤ n then some (.c (.int k (m.fdiv (2 ^ min n.toNat k.bits)))) else none
      | _ => (binI op k m n).map .c
    else
      match op with
      | .shl => if 0 ≤ n then some (.c (.int k (k.wrap (m * 2 ^ min n.toNat k.bits)))) else none
      | .shr => if 0 ≤ n then some (.c (.int k (m.fdiv (2 ^ min n.toNat k.bits)))) else none
      | _ => none
  | .c (.bool p), .c (.bool q) =>
    match op, P.underlying t with
    | .eql, some .bool => some (.c (.bool (p == q)))
    | .neq, some .bool => some (.c (.bool (p != q)))
    | _, _ => none
  | .c (.string p), .c (.string q) =>
    match op with
    | .eql => some (.c (.bool (p == q)))
    | .neq => some (.c (.bool (p != q)))
    | _ => none
  | _, _ => none

def ldV (P : Program) (H : Heap) (t : TypeId) (x : AV) : Option AV :=
  match x with
  | .p n sz i j =>
    match H n with
    | some (.r _ sz' _ rows) =>
      match rows[i]?, tA P t, tS P t with
      | some e, some ag, some k => if sz' = sz ∧ j + k ≤ e.length ∧ 0 < k then some (prt ag k e j) else none
      | _, _, _ => none
    | _ => none
  | .q e j =>
    match tA P t, tS P t with
    | some ag, some k => if j + k ≤ e.length ∧ 0 < k then some (prt ag k e j) else none
    | _, _ => none
  | _ => none

def fldA (P : Program) (t : TypeId) (f : Nat) (x : AV) : Option AV :=
  match tF P t f with
  | some (off, ft) =>
    match tS P ft with
    | some k => if 0 < k then (match x with | .p n sz i j => some (.p n sz i (j + off)) | .q e j => some (.q e (j + off)) | _ => none) else none
    | none => none
  | none => none

def fldV (P : Program) (t : TypeId) (f : Nat) (x : AV) : Option AV :=
  match x, tF P t f with
  | .g xs, some (off, ft) =>
    match tA P ft, tS P ft with
    | some ag, some k => if 0 < k ∧ off + k ≤ xs.length then some (prt ag k xs off) else none
    | _, _ => none
  | _, _ => none

def idxA (P : Program) (t : TypeId) (x y : AV) : Option AV :=
  match y with
  | .c (.int _ ix) =>
    if 0 ≤ ix then
      match x, tE P t, tR P t with
      | .s n sz i len _, some et, _ => if tS P et = some sz ∧ ix < len then some (.p n sz (i + ix.toNat) 0) else none
      | .l sz rows, some et, _ => if tS P et = some sz then rows[ix.toNat]?.map (.q · 0) else none
      | .p n sz i j, _, some (m, et) => if ix < m then (tS P et).map fun k => .p n sz i (j + ix.toNat * k) else none
      | .q e j, _, some (m, et) => if ix < m then (tS P et).map fun k => .q e (j + ix.toNat * k) else none
      | _, _, _ => none
    else none
  | _ => none

def idxV (P : Program) (t : TypeId) (x y : AV) : Option AV :=
  match x, y, tR P t with
  | .g xs, .c (.int _ ix), some (n, et) =>
    match tA P et, tS P et with
    | some ag, some k => if 0 < k ∧ xs.length = n * k ∧ 0 ≤ ix ∧ ix < n then some (prt ag k xs (ix.toNat * k)) else none
    | _, _ => none
  | _, _, _ => none

def slcV (P : Program) (t : TypeId) (a : Nat → AV) (x : AV) (lo hi mx : Option Operand) : Option AV :=
  match x, tE P t with
  | .s n sz i len cap, some et =>
    match optI a 0 lo, optI a len hi, optI a cap mx with
    | some l, some h, some m => if tS P et = some sz ∧ 0 ≤ l ∧ l ≤ h ∧ h ≤ m ∧ m ≤ cap ∧ (mx.isSome = true → hi.isSome = true) then some (.s n sz (i + l.toNat) (h.toNat - l.toNat) (m.toNat - l.toNat)) else none
    | _, _, _ => none
  | .l sz rows, some et =>
    match optI a 0 lo, optI a rows.length hi with
    | some l, some h => if tS P et = some sz ∧ (mx = none ∨ optI a 0 mx = some h ∧ hi.isSome = true ∧ 0 < h) ∧ 0 ≤ l ∧ l ≤ h ∧ h ≤ rows.length then some (.l sz ((rows.drop l.toNat).take (h.toNat - l.toNat))) else none
    | _, _ => none
  | _, _ => none

def bldV (P : Program) (t : TypeId) (ps : List (Nat × AV)) : Option AV :=
  match tP P t, tZ P t with
  | some pl, some zs => if zs.all (·.oneCell') = true then (fillC (pl[·]?) (zs.map .c) ps).map .g else none
  | none, some zs => match (tR P t).bind fun p => tS P p.2 with
    | some k => if zs.all (·.oneCell') = true then (fillC (fun i => some (i * k, k)) (zs.map .c) ps).map .g else none
    | none => none
  | _, _ => none

def biV (P : Program) (b : Builtin) (ts : List TypeId) (xs : List AV) : Option AV :=
  match b, ts, xs with
  | .len, [t], [x] => (tE P t).bind fun _ => (lenV x).map fun (n : Nat) => AV.c (.int .i64 (n : Int))
  | .max, _, [.c (.int k m), .c (.int _ n)] => some (.c (.int k (if m < n then n else m)))
  | .min, _, [.c (.int k m), .c (.int _ n)] => some (.c (.int k (if n < m then n else m)))
  | _, _, _ => none

/-! ### calls -/
def Ent (P : Program) (f : FuncId) : Prop := ∀ (args : Array Value) (w : World), (callFunc f args).run P w = .ok (.enter f args) w

def ACall (P : Program) (f : FuncId) (args : List AV) (H : Heap) (K : AV → Heap → Prop) : Prop :=
  Ent P f ∧ ∀ (F : Mem) (w : World) (cs : List Value), Vs F args cs → Sat F H w →
    Calls P f cs.toArray w fun e w' => ∃ v F' H' r, e = .returned v ∧ V F' r v ∧ Sat F' H' w' ∧ Ext F H w F' H' w' ∧ K r H'

theorem ACall.mono {P : Program} {f : FuncId} {args : List AV} {H : Heap} {K K' : AV → Heap → Prop} (h : ACall P f args H K) (hk : ∀ r H', K r H' → K' r H') : ACall P f args H K' :=
  ⟨h.1, fun F w cs hv hs => (h.2 F w cs hv hs).mono fun e w' ⟨v, F', H', r, e1, e2, e3, e4, e5⟩ => ⟨v, F', H', r, e1, e2, e3, e4, hk _ _ e5⟩⟩

/-- two memories side by side -/
def join (A B : Heap) : Heap := fun n => (A n).or (B n)
def Apart (A B : Heap) : Prop := ∀ n, A n = none ∨ B n = none
theorem join_left {A B : Heap} {n : Nat} {k : Blk} (h : A n = some k) : join A B n = some k := by simp [join, h]
theorem join_right {A B : Heap} {n : Nat} (h : A n = none) : join A B n = B n := by simp [join, h]
theorem le_join_right {A B : Heap} (h : Apart A B) : Heap.le B (join A B) := fun n k hk => by
  rcases h n with h | h
  · rw [join_right h, hk]
  · rw [h] at hk; cases hk
theorem le_join_left (A B : Heap) : Heap.le A (join A B) := fun n k hk => join_left hk
theorem join_none (A : Heap) : join A (fun _ => none) = A := by funext n; cases h : A n <;> simp [join, h]

/-- What stands beside stays. -/
theorem beside {A B B' : Heap} {F F' : Mem} {w w' : World} (hap : Apart A B) (hs : Sat F (join A B) w) (hs' : Sat F' B' w') (he : Ext F B w F' B' w') :
    Apart A B' ∧ Sat F' (join A B') w' ∧ Ext F (join A B) w F' (join A B') w' := by
  have hA : ∀ n k, A n = some k → B n = none ∧ n < w.heap.size := fun n k hn => by
    rcases hap n with h | h
    · rw [h] at hn; cases hn
    · exact ⟨h, hs.lt (join_left hn)⟩
  have hap' : Apart A B' := fun n => by
    cases hn : A n with
    | none => exact .inl rfl
    | some k =>
      obtain ⟨h1, h2⟩ := hA n k hn
      right
      cases hb : B' n with
      | none => rfl
      | some k' =>
        rcases he.new n k' hb with h3 | h3
        · exact absurd h1 h3
        · omega
  refine ⟨hap', ⟨hs'.mem, fun b o v k hF hk => ?_, fun n k hn => ?_⟩, ⟨he.os, he.tape, he.output, he.size, fun n hn hj => ?_, fun n k hn => ?_, he.le, fun b o v hF => ?_⟩⟩
  · cases hb : A b with
    | none => rw [join_right hb] at hk; exact hs'.off b o v k hF hk
    | some k' =>
      obtain ⟨h1, h2⟩ := hA b k' hb
      rcases he.frz b o v hF with h3 | h3 | h3
      · exact hs.off b o v k' h3 (join_left hb)
      · exact h3 h1
      · omega
  · cases hb : A n with
    | none => rw [join_right hb] at hn; exact hs'.blk n k hn
    | some k' =>
      rw [join_left hb] at hn; cases hn
      obtain ⟨h1, h2⟩ := hA n k hb
      exact ((hs.blk n k (join_left hb)).mono he.le).heap (he.block n h2 h1)
  · have : B n = none := by
      cases hb : A n with
      | none => rwa [join_right hb] at hj
      | some k => rw [join_left hb] at hj; cases hj
    exact he.block n hn this
  · cases hb : A n with
    | none =>
      rw [join_right hb] at hn
      rcases he.new n k hn with h3 | h3
      · left; rw [join_right hb]; exact h3
      · exact .inr h3
    | some k' => left; rw [join_left hb]; simp
  · rcases he.frz b o v hF with h3 | h3 | h3
    · exact .inl h3
    · right; left
      cases hb : A b with
      | none => rw [join_right hb]; exact h3
      | some k => rw [join_left hb]; simp
    · exact .inr (.inr h3)

theorem ACall.frame {P : Program} {f : FuncId} {args : List AV} {A B : Heap} {K : AV → Heap → Prop} (hap : Apart A B) (h : ACall P f args B K) : ACall P f args (join A B) (fun r H' => ∃ B', H' = join A B' ∧ Apart A B' ∧ K r B') :=
  ⟨h.1, fun F w cs hv hs => (h.2 F w cs hv (hs.less (le_join_right hap))).mono fun e w' ⟨v, F', H', r, e1, e2, e3, e4, e5⟩ => by
    obtain ⟨g1, g2, g3⟩ := beside hap hs e3 e4
    exact ⟨v, F', _, r, e1, e2, g2, g3, H', rfl, g1, e5⟩⟩

theorem ACall.less {P : Program} {f : FuncId} {args : List AV} {H : Heap} {K : AV → Heap → Prop} (h : ACall P f args H fun r H' => ∃ H2, Heap.le H2 H' ∧ K r H2) : ACall P f args H K :=
  ⟨h.1, fun F w cs hv hs => (h.2 F w cs hv hs).mono fun e w' ⟨v, F', H', r, e1, e2, e3, e4, H2, hl, e5⟩ =>
    ⟨v, F', H2, r, e1, e2, e3.less hl, ⟨e4.os, e4.tape, e4.output, e4.size, e4.block, fun n k hn => e4.new n k (hl n k hn), e4.le, e4.frz⟩, e5⟩⟩

/-- a function that only reckons -/
theorem ACall.pure {P : Program} {f : FuncId} {args : List AV} {r : AV} (h : ACall P f args (fun _ => none) (fun r' _ => r' = r)) (H : Heap) {K : AV → Heap → Prop} (hK : K r H) : ACall P f args H K := by
  have := ACall.frame (A := H) (B := fun _ => none) (fun n => .inr rfl) h
  rw [join_none] at this
  refine (this.mono ?_).less (K := K)
  rintro r' H' ⟨B', rfl, hap, rfl⟩
  exact ⟨H, le_join_left _ _, hK⟩

/-- What is known of a program: equality of structs, functions that only reckon. -/
structure Env (P : Program) where
  eq : TypeId → List Value → List Value → Option Bool
  eq_ok : ∀ t us vs b, eq t us vs = some b → P.eqGuardType P.depth t = false ∧ ∀ w : World, (Op.equalIn 10000 t (.agg us.toArray) (.agg vs.toArray)).run P w = .ok b w
  cl : FuncId → List AV → Option AV
  cl_ok : ∀ f args r, cl f args = some r → ACall P f args (fun _ => none) (fun r' _ => r' = r)

def eqV {P : Program} (E : Env P) (op : BinOp) (t : TypeId) (x y : AV) : Option AV :=
  match x, y with
  | .g xs, .g ys =>
    match valsOf xs, valsOf ys with
    | some us, some vs =>
      match op with
      | .eql => (E.eq t us vs).map fun b => .c (.bool b)
      | .neq => (E.eq t us vs).map fun b => .c (.bool !b)
      | _ => none
    | _, _ => none
  | _, _ => binV P op t x y

def pureF {P : Program} (E : Env P) (H : Heap) (o : Oper) (a : Nat → AV) : Option AV :=
  match o.op with
  | .move x | .assign x => some (ev a x)
  | .pick c x y => match ev a c with | .c (.bool b) => some (if b then ev a x else ev a y) | _ => none
  | .makeFunc fn xs ys => some (.f fn (xs.toList.map (ev a)) (ys.toList.map (ev a)))
  | .extract x i => match ev a x with | .t xs => xs[i]? | _ => none
  | .unOp op _ x => match ev a x with | .c v => (unV op v).map .c | _ => none
  | .binOp op t x y _ => eqV E op t (ev a x) (ev a y)
  | .convert s d x => match ev a x, P.underlying s, P.underlying d with | .c (.int _ n), some _, some (.int k) => some (.c (.int k (k.wrap n))) | _, _, _ => none
  | .nilCheck x => if (ev a x).nn = true then some (ev a x) else none
  | .fieldAddr t x f => fldA P t f (ev a x)
  | .field t x f => fldV P t f (ev a x)
  | .indexAddr t x y => idxA P t (ev a x) (ev a y)
  | .index t x y => idxV P t (ev a x) (ev a y)
  | .slice t x lo hi mx => slcV P t a (ev a x) lo hi mx
  | .load t x => ldV P H t (ev a x)
  | .build t ps => bldV P t (ps.toList.map fun p => (p.1, ev a p.2))
  | .call { callee := .builtin b, args := xs, argTypes := ts } => biV P b ts.toList (xs.toList.map (ev a))
  | .call { callee := .value (.func f), args := xs, argTypes := _ } => E.cl f (xs.toList.map (ev a))
  | _ => none
end Go.Proofs.Yteoepeionomjlaa
