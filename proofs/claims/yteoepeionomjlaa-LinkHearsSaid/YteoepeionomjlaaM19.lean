/- Frames by slots; loops, cuts and contracts with them. -/
import Derived.Test.YteoepeionomjlaaM18
namespace Go.Proofs.Yteoepeionomjlaa
open Go.RowKit
set_option linter.all false

def frm : List (Nat × AV) → Nat → AV
  | [] => fun _ => .x
  | (s, v) :: L => put (frm L) (some s) v
theorem frm_cons (s : Nat) (v : AV) (L : List (Nat × AV)) (t : Nat) : frm ((s, v) :: L) t = if t = s then v else frm L t := rfl
theorem frm_nil (t : Nat) : frm [] t = .x := rfl

/-- these slots hold these values -/
def Sl (a : Nat → AV) : List (Nat × AV) → Prop
  | [] => True
  | (s, v) :: L => a s = v ∧ Sl a L
theorem frm_sub {a : Nat → AV} : ∀ {L : List (Nat × AV)}, Sl a L → ∀ t, frm L t = a t ∨ frm L t = .x
  | [], _, t => .inr rfl
  | (s, v) :: L, h, t => by
    rw [frm_cons]
    split
    · rename_i e; subst e; exact .inl h.1.symm
    · exact frm_sub h.2 t

section
variable {P : Program} {N : Nat} {a : Nat → AV} {H : Heap} {Q : Post}

theorem Rel.havoc {F : Mem} {B : Bk} {act : Act} {w : World} {a2 : Nat → AV} (hr : Rel F B N a H act w) (hl : ∀ t, a2 t = a t ∨ a2 t = .x) : Rel F B N a2 H act w :=
  ⟨hr.dfr, hr.low, hr.rnd, hr.size, fun t => by
    rcases hl t with e | e
    · rw [e]; exact hr.vf t
    · rw [e]; exact .x _, hr.sat⟩
theorem Rel.less {F : Mem} {B : Bk} {act : Act} {w : World} {H2 : Heap} (hr : Rel F B N a H act w) (hl : Heap.le H2 H) : Rel F B N a H2 act w := by
  have hn : ∀ m, H m = none → H2 m = none := fun m hm => by
    cases hk : H2 m with
    | none => rfl
    | some k => rw [hl m k hk] at hm; cases hm
  obtain ⟨Ds, d1, d2, d3⟩ := hr.dfr
  exact ⟨⟨Ds, d1, d2, fun D hD => ⟨(d3 D hD).1, hn D (d3 D hD).2.1, (d3 D hD).2.2⟩⟩, hr.low, fun l hl => ⟨(hr.rnd l hl).1, hn l (hr.rnd l hl).2⟩, hr.size, hr.vf, hr.sat.less hl⟩

theorem AW_cut {c : Code} {H2 : Heap} (L : List (Nat × AV)) (hs : Sl a L) (hl : Heap.le H2 H) (h : AW P N c (frm L) H2 Q) : AW P N c a H Q := AW_less hl (AW_havoc (frm_sub hs) h)

/-- a loop: s what turns, fr the slots, hp the memory -/
theorem AW_loopS {σ : Type} {c : Code} (inv : σ → Prop) (fr : σ → List (Nat × AV)) (hp : σ → Heap) (μ : σ → Nat) (s0 : σ) (h0 : inv s0) (hf : Sl a (fr s0)) (hH : Heap.le (hp s0) H)
    (round : ∀ s, inv s → AW P N c (frm (fr s)) (hp s) (thenA (fun a' H' => ∃ s', inv s' ∧ Sl a' (fr s') ∧ Heap.le (hp s') H' ∧ μ s' < μ s) Q)) : AW P N (.loop c) a H Q := by
  refine AW_cut (fr s0) hf hH ?_
  intro Fe n hF B F w act hr
  refine wpIn_loop_ghost (σ := Mem × σ) (fun s act' w' => inv s.2 ∧ Rel s.1 ⟨B, Fe.round⟩ N (frm (fr s.2)) (hp s.2) act' w' ∧ Ext F (hp s0) w s.1 (hp s.2) w') (fun s => μ s.2) (s := (F, s0)) ⟨h0, hr, Ext.refl _ _ _⟩ ?_
  rintro ⟨F1, s1⟩ act1 w1 ⟨i1, r1, e1⟩
  refine wpIn_mono (round s1 i1 Fe n hF B F1 w1 act1 r1) ?_
  rintro e act' w' ⟨F', a', H', h1, h2, h3⟩
  cases e with
  | normal =>
    obtain ⟨s', g1, g2, g3, g4⟩ := h3
    exact ⟨(F', s'), ⟨g1, (h1.havoc (frm_sub g2)).less g3, (e1.trans h2).less g3⟩, g4⟩
  | _ => exact ⟨F', a', H', h1, e1.trans h2, h3⟩

/-- a cut in a sequence -/
theorem AW_seqS {σ : Type} {x y : Code} (inv : σ → Prop) (fr : σ → List (Nat × AV)) (hp : σ → Heap)
    (hx : AW P N x a H (thenA (fun a' H' => ∃ s, inv s ∧ Sl a' (fr s) ∧ Heap.le (hp s) H') Q)) (hy : ∀ s, inv s → AW P N y (frm (fr s)) (hp s) Q) : AW P N (.seq x y) a H Q :=
  AW_seq (hx.mono fun e a' H' h => by
    cases e with
    | normal => obtain ⟨s, h1, h2, h3⟩ := h; exact AW_cut _ h2 h3 (hy s h1)
    | _ => exact h)

theorem ACall_of' {f : FuncId} {fn : Func} {c : Code} {args : List AV} {R : AV → Heap → Prop} (hf : P.funcs[f]? = some fn) (hb : fn.body = some c) (hen : Ent P f) (hl : args.length ≤ fn.ntmps)
    (h : AW P fn.ntmps c (ini args) H (retQ P fn.results.toList fun r H' => ∃ r2 H2, Weak r H' r2 H2 ∧ R r2 H2)) : ACall P f args H R :=
  (ACall_of hf hb hen hl h).weak
end

theorem Heap.le_new {B H : Heap} {n : Nat} {k : Blk} (h : Heap.le B H) (hn : B n = none) : Heap.le B (upd H n k) := fun m x hm => by
  rw [upd_ne (by rintro rfl; rw [hn] at hm; cases hm)]; exact h m x hm
theorem Heap.le_put {B H : Heap} {n : Nat} {k : Blk} (h : Heap.le B H) (hn : H n = some k) : Heap.le (upd B n k) H := fun m x hm => by
  by_cases e : m = n
  · subst e; rw [upd_same] at hm; cases hm; exact hn
  · rw [upd_ne e] at hm; exact h m x hm
theorem Heap.le_join {A B A' B' : Heap} (h : Heap.le A A') (k : Heap.le B B') (hap : Apart A' B') : Heap.le (join A B) (join A' B') := fun m x hm => by
  unfold join at hm ⊢
  cases hA : A m with
  | some y => rw [hA] at hm; rw [h m y hA]; exact hm
  | none =>
    rw [hA] at hm
    simp only [Option.none_or] at hm
    have := k m x hm
    rcases hap m with g | g
    · rw [g, this]; rfl
    · rw [g] at this; cases this
theorem Heap.le_emp (H : Heap) : Heap.le (fun _ => none) H := fun m x hm => by cases hm

theorem decide_u8 {x : Int} (h : (Lit.int .u8 x).wf = true) : 0 ≤ x ∧ x ≤ 255 := bounds_u8 h
theorem bnd_u16 {x : Int} (h : (Lit.int .u16 x).wf = true) : 0 ≤ x ∧ x ≤ 65535 := bounds_u16 h
theorem bnd_u32 {x : Int} (h : (Lit.int .u32 x).wf = true) : 0 ≤ x ∧ x ≤ 4294967295 := bounds_u32 h
theorem bnd_u64 {x : Int} (h : (Lit.int .u64 x).wf = true) : 0 ≤ x ∧ x ≤ 18446744073709551615 := bounds_u64 h
theorem bnd_i64 {x : Int} (h : (Lit.int .i64 x).wf = true) : -9223372036854775808 ≤ x ∧ x ≤ 9223372036854775807 := bounds_i64 h

/-- a function that only reckons, in whatever memory -/
def Pure (P : Program) (f : FuncId) (args : List AV) (r : AV) : Prop := ∀ H, ACall P f args H fun r' H' => r' = r ∧ H' = H
theorem Pure.cl {P : Program} {f : FuncId} {args : List AV} {r : AV} (h : Pure P f args r) : ACall P f args (fun _ => none) fun r' _ => r' = r := (h _).mono fun _ _ h => h.1
section
variable {P : Program} {E : Env P} {N : Nat} {ops : Array Oper} {a : Nat → AV} {H : Heap} {K : AV → Heap → Prop} {d : Option Nat} {ty : TypeId} {ps : String} {af : Array Edge} {g : Option (Nat × Bool)}
def opt (P : Program) (o : Oper) (a : Nat → AV) (H : Heap) (K : AV → Heap → Prop) (r : Option AV) : Prop := match r with | some r => K r H | none => Does P o a H K
theorem opt_some {o : Oper} {r : AV} : opt P o a H K (some r) = K r H := propext ⟨fun h => h, fun h => h⟩
theorem opt_none {o : Oper} : opt P o a H K none = Does P o a H K := propext ⟨fun h => h, fun h => h⟩
theorem pF_move {x : Operand} : pureF E H { dst := d, op := .move x, type := ty, pos := ps, after := af, guard := g } a = (some (ev a x)) := Eq.trans (Eq.refl _) (Eq.refl _)
theorem EO_move {x : Operand} : EO E { dst := d, op := .move x, type := ty, pos := ps, after := af, guard := g } a H K = K (ev a x) H := propext ⟨fun h => h, fun h => h⟩
theorem pF_assign {x : Operand} : pureF E H { dst := d, op := .assign x, type := ty, pos := ps, after := af, guard := g } a = (some (ev a x)) := Eq.trans (Eq.refl _) (Eq.refl _)
theorem EO_assign {x : Operand} : EO E { dst := d, op := .assign x, type := ty, pos := ps, after := af, guard := g } a H K = K (ev a x) H := propext ⟨fun h => h, fun h => h⟩
theorem pF_pick {c x y : Operand} : pureF E H { dst := d, op := .pick c x y, type := ty, pos := ps, after := af, guard := g } a = (match ev a c with | .c (.bool b) => some (if b then ev a x else ev a y) | _ => none) := Eq.trans (Eq.refl _) (Eq.refl _)
theorem EO_pick {c x y : Operand} : EO E { dst := d, op := .pick c x y, type := ty, pos := ps, after := af, guard := g } a H K = opt P { dst := d, op := .pick c x y, type := ty, pos := ps, after := af, guard := g } a H K (match ev a c with | .c (.bool b) => some (if b then ev a x else ev a y) | _ => none) := propext ⟨fun h => h, fun h => h⟩
theorem pF_makeFunc {fn : Fn} {xs ys : Array Operand} : pureF E H { dst := d, op := .makeFunc fn xs ys, type := ty, pos := ps, after := af, guard := g } a = (some (.f fn (xs.toList.map (ev a)) (ys.toList.map (ev a)))) := Eq.trans (Eq.refl _) (Eq.refl _)
theorem EO_makeFunc {fn : Fn} {xs ys : Array Operand} : EO E { dst := d, op := .makeFunc fn xs ys, type := ty, pos := ps, after := af, guard := g } a H K = K (.f fn (xs.toList.map (ev a)) (ys.toList.map (ev a))) H := propext ⟨fun h => h, fun h => h⟩
theorem pF_extract {x : Operand} {i : Nat} : pureF E H { dst := d, op := .extract x i, type := ty, pos := ps, after := af, guard := g } a = (match ev a x with | .t xs => xs[i]? | _ => none) := Eq.trans (Eq.refl _) (Eq.refl _)
theorem EO_extract {x : Operand} {i : Nat} : EO E { dst := d, op := .extract x i, type := ty, pos := ps, after := af, guard := g } a H K = opt P { dst := d, op := .extract x i, type := ty, pos := ps, after := af, guard := g } a H K (match ev a x with | .t xs => xs[i]? | _ => none) := propext ⟨fun h => h, fun h => h⟩
theorem pF_unOp {u : UnOp} {t : TypeId} {x : Operand} : pureF E H { dst := d, op := .unOp u t x, type := ty, pos := ps, after := af, guard := g } a = (match ev a x with | .c v => (unV u v).map .c | _ => none) := Eq.trans (Eq.refl _) (Eq.refl _)
theorem EO_unOp {u : UnOp} {t : TypeId} {x : Operand} : EO E { dst := d, op := .unOp u t x, type := ty, pos := ps, after := af, guard := g } a H K = opt P { dst := d, op := .unOp u t x, type := ty, pos := ps, after := af, guard := g } a H K (match ev a x with | .c v => (unV u v).map .c | _ => none) := propext ⟨fun h => h, fun h => h⟩
theorem pF_binOp {b : BinOp} {t t2 : TypeId} {x y : Operand} : pureF E H { dst := d, op := .binOp b t x y t2, type := ty, pos := ps, after := af, guard := g } a = (eqV E b t (ev a x) (ev a y)) := Eq.trans (Eq.refl _) (Eq.refl _)
theorem EO_binOp {b : BinOp} {t t2 : TypeId} {x y : Operand} : EO E { dst := d, op := .binOp b t x y t2, type := ty, pos := ps, after := af, guard := g } a H K = opt P { dst := d, op := .binOp b t x y t2, type := ty, pos := ps, after := af, guard := g } a H K (eqV E b t (ev a x) (ev a y)) := propext ⟨fun h => h, fun h => h⟩
theorem pF_convert {s t : TypeId} {x : Operand} : pureF E H { dst := d, op := .convert s t x, type := ty, pos := ps, after := af, guard := g } a = (match ev a x, P.underlying s, P.underlying t with | .c (.int _ n), some _, some (.int k) => some (.c (.int k (k.wrap n))) | _, _, _ => none) := Eq.trans (Eq.refl _) (Eq.refl _)
theorem EO_convert {s t : TypeId} {x : Operand} : EO E { dst := d, op := .convert s t x, type := ty, pos := ps, after := af, guard := g } a H K = opt P { dst := d, op := .convert s t x, type := ty, pos := ps, after := af, guard := g } a H K (match ev a x, P.underlying s, P.underlying t with | .c (.int _ n), some _, some (.int k) => some (.c (.int k (k.wrap n))) | _, _, _ => none) := propext ⟨fun h => h, fun h => h⟩
theorem pF_nilCheck {x : Operand} : pureF E H { dst := d, op := .nilCheck x, type := ty, pos := ps, after := af, guard := g } a = (if (ev a x).nn = true then some (ev a x) else none) := Eq.trans (Eq.refl _) (Eq.refl _)
theorem EO_nilCheck {x : Operand} : EO E { dst := d, op := .nilCheck x, type := ty, pos := ps, after := af, guard := g } a H K = opt P { dst := d, op := .nilCheck x, type := ty, pos := ps, after := af, guard := g } a H K (if (ev a x).nn = true then some (ev a x) else none) := propext ⟨fun h => h, fun h => h⟩
theorem pF_fieldAddr {t : TypeId} {x : Operand} {f : Nat} : pureF E H { dst := d, op := .fieldAddr t x f, type := ty, pos := ps, after := af, guard := g } a = (fldA P t f (ev a x)) := Eq.trans (Eq.refl _) (Eq.refl _)
theorem EO_fieldAddr {t : TypeId} {x : Operand} {f : Nat} : EO E { dst := d, op := .fieldAddr t x f, type := ty, pos := ps, after := af, guard := g } a H K = opt P { dst := d, op := .fieldAddr t x f, type := ty, pos := ps, after := af, guard := g } a H K (fldA P t f (ev a x)) := propext ⟨fun h => h, fun h => h⟩
theorem pF_field {t : TypeId} {x : Operand} {f : Nat} : pureF E H { dst := d, op := .field t x f, type := ty, pos := ps, after := af, guard := g } a = (fldV P t f (ev a x)) := Eq.trans (Eq.refl _) (Eq.refl _)
theorem EO_field {t : TypeId} {x : Operand} {f : Nat} : EO E { dst := d, op := .field t x f, type := ty, pos := ps, after := af, guard := g } a H K = opt P { dst := d, op := .field t x f, type := ty, pos := ps, after := af, guard := g } a H K (fldV P t f (ev a x)) := propext ⟨fun h => h, fun h => h⟩
theorem pF_indexAddr {t : TypeId} {x y : Operand} : pureF E H { dst := d, op := .indexAddr t x y, type := ty, pos := ps, after := af, guard := g } a = (idxA P t (ev a x) (ev a y)) := Eq.trans (Eq.refl _) (Eq.refl _)
theorem EO_indexAddr {t : TypeId} {x y : Operand} : EO E { dst := d, op := .indexAddr t x y, type := ty, pos := ps, after := af, guard := g } a H K = opt P { dst := d, op := .indexAddr t x y, type := ty, pos := ps, after := af, guard := g } a H K (idxA P t (ev a x) (ev a y)) := propext ⟨fun h => h, fun h => h⟩
theorem pF_index {t : TypeId} {x y : Operand} : pureF E H { dst := d, op := .index t x y, type := ty, pos := ps, after := af, guard := g } a = (idxV P t (ev a x) (ev a y)) := Eq.trans (Eq.refl _) (Eq.refl _)
theorem EO_index {t : TypeId} {x y : Operand} : EO E { dst := d, op := .index t x y, type := ty, pos := ps, after := af, guard := g } a H K = opt P { dst := d, op := .index t x y, type := ty, pos := ps, after := af, guard := g } a H K (idxV P t (ev a x) (ev a y)) := propext ⟨fun h => h, fun h => h⟩
theorem pF_slice {t : TypeId} {x : Operand} {lo hi mx : Option Operand} : pureF E H { dst := d, op := .slice t x lo hi mx, type := ty, pos := ps, after := af, guard := g } a = (slcV P t a (ev a x) lo hi mx) := Eq.trans (Eq.refl _) (Eq.refl _)
theorem EO_slice {t : TypeId} {x : Operand} {lo hi mx : Option Operand} : EO E { dst := d, op := .slice t x lo hi mx, type := ty, pos := ps, after := af, guard := g } a H K = opt P { dst := d, op := .slice t x lo hi mx, type := ty, pos := ps, after := af, guard := g } a H K (slcV P t a (ev a x) lo hi mx) := propext ⟨fun h => h, fun h => h⟩
theorem pF_load {t : TypeId} {x : Operand} : pureF E H { dst := d, op := .load t x, type := ty, pos := ps, after := af, guard := g } a = (ldV P H t (ev a x)) := Eq.trans (Eq.refl _) (Eq.refl _)
theorem EO_load {t : TypeId} {x : Operand} : EO E { dst := d, op := .load t x, type := ty, pos := ps, after := af, guard := g } a H K = opt P { dst := d, op := .load t x, type := ty, pos := ps, after := af, guard := g } a H K (ldV P H t (ev a x)) := propext ⟨fun h => h, fun h => h⟩
theorem pF_build {t : TypeId} {q : Array (Nat × Operand)} : pureF E H { dst := d, op := .build t q, type := ty, pos := ps, after := af, guard := g } a = (bldV P t (q.toList.map fun p => (p.1, ev a p.2))) := Eq.trans (Eq.refl _) (Eq.refl _)
theorem EO_build {t : TypeId} {q : Array (Nat × Operand)} : EO E { dst := d, op := .build t q, type := ty, pos := ps, after := af, guard := g } a H K = opt P { dst := d, op := .build t q, type := ty, pos := ps, after := af, guard := g } a H K (bldV P t (q.toList.map fun p => (p.1, ev a p.2))) := propext ⟨fun h => h, fun h => h⟩
theorem pF_builtin {b : Builtin} {xs : Array Operand} {ts : Array TypeId} : pureF E H { dst := d, op := .call { callee := .builtin b, args := xs, argTypes := ts }, type := ty, pos := ps, after := af, guard := g } a = (biV P b ts.toList (xs.toList.map (ev a))) := Eq.trans (Eq.refl _) (Eq.refl _)
theorem EO_builtin {b : Builtin} {xs : Array Operand} {ts : Array TypeId} : EO E { dst := d, op := .call { callee := .builtin b, args := xs, argTypes := ts }, type := ty, pos := ps, after := af, guard := g } a H K = opt P { dst := d, op := .call { callee := .builtin b, args := xs, argTypes := ts }, type := ty, pos := ps, after := af, guard := g } a H K (biV P b ts.toList (xs.toList.map (ev a))) := propext ⟨fun h => h, fun h => h⟩
theorem pF_callf {f : FuncId} {xs : Array Operand} {ts : Array TypeId} : pureF E H { dst := d, op := .call { callee := .value (.func f), args := xs, argTypes := ts }, type := ty, pos := ps, after := af, guard := g } a = (E.cl f (xs.toList.map (ev a))) := Eq.trans (Eq.refl _) (Eq.refl _)
theorem EO_callf {f : FuncId} {xs : Array Operand} {ts : Array TypeId} : EO E { dst := d, op := .call { callee := .value (.func f), args := xs, argTypes := ts }, type := ty, pos := ps, after := af, guard := g } a H K = opt P { dst := d, op := .call { callee := .value (.func f), args := xs, argTypes := ts }, type := ty, pos := ps, after := af, guard := g } a H K (E.cl f (xs.toList.map (ev a))) := propext ⟨fun h => h, fun h => h⟩
theorem pF_callt {z : Nat} {xs : Array Operand} {ts : Array TypeId} : pureF E H { dst := d, op := .call { callee := .value (.tmp z), args := xs, argTypes := ts }, type := ty, pos := ps, after := af, guard := g } a = (none) := Eq.trans (Eq.refl _) (Eq.refl _)
theorem EO_callt {z : Nat} {xs : Array Operand} {ts : Array TypeId} : EO E { dst := d, op := .call { callee := .value (.tmp z), args := xs, argTypes := ts }, type := ty, pos := ps, after := af, guard := g } a H K = Does P { dst := d, op := .call { callee := .value (.tmp z), args := xs, argTypes := ts }, type := ty, pos := ps, after := af, guard := g } a H K := propext ⟨fun h => h, fun h => h⟩
theorem EO_alloc {t : TypeId} : EO E { dst := d, op := .alloc t, type := ty, pos := ps, after := af, guard := g } a H K = (match tZ P t with
    | some zs => zs.all (·.oneCell') = true ∧ 0 < zs.length ∧ ∀ n, H n = none → K (.p n zs.length 0 0) (upd H n (.r t zs.length 1 [zs.map .c]))
    | none => False) := propext ⟨fun h => h, fun h => h⟩
theorem EO_box {t : TypeId} {x : Operand} : EO E { dst := d, op := .box t x, type := ty, pos := ps, after := af, guard := g } a H K = (match (ev a x).cs with
    | some ys => 0 < ys.length ∧ ∀ n, H n = none → K (.p n ys.length 0 0) (upd H n (.r t ys.length 1 [ys]))
    | none => False) := propext ⟨fun h => h, fun h => h⟩
theorem EO_buildSlice {t : TypeId} {len : Nat} {parts : Array (Nat × Operand)} : EO E { dst := d, op := .buildSlice t len parts, type := ty, pos := ps, after := af, guard := g } a H K = (match tE P t with
    | some et =>
      match tS P et, tZ P et with
      | some sz, some zs => (zs.length = sz ∧ 0 < sz ∧ len * sz ≤ 16777216 ∧ zs.all (·.oneCell') = true) ∧
        match fillR sz (List.replicate len (zs.map .c)) (parts.toList.map fun p => (p.1, ev a p.2)) with
        | some r => ∀ n, H n = none → K (.s n sz 0 len len) (upd H n (.r et sz len r))
        | none => False
      | _, _ => False
    | none => False) := propext ⟨fun h => h, fun h => h⟩
theorem EO_store {t : TypeId} {x y : Operand} : EO E { dst := d, op := .store t x y, type := ty, pos := ps, after := af, guard := g } a H K = (match ev a x with
    | .p n sz i j =>
      match H n with
      | some (.r ty sz' cap rows) =>
        match rows[i]?, (ev a y).cs with
        | some e, some ys => (sz' = sz ∧ tS P t = some ys.length ∧ j + ys.length ≤ e.length) ∧ K .x (upd H n (.r ty sz' cap (rows.set i (e.take j ++ ys ++ e.drop (j + ys.length)))))
        | _, _ => False
      | _ => False
    | _ => False) := propext ⟨fun h => h, fun h => h⟩
theorem stepV_none {op : Op} : stepV E ops { dst := d, op := op, type := ty, pos := ps, after := af, guard := none } a H = pureF E H { dst := d, op := op, type := ty, pos := ps, after := af, guard := none } a := Eq.trans (Eq.refl _) (Eq.refl _)
theorem stepV_guard {op : Op} {j : Nat} {w : Bool} : stepV E ops { dst := d, op := op, type := ty, pos := ps, after := af, guard := some (j, w) } a H = (match gv ops a j with
    | some b => if b = w then pureF E H { dst := d, op := op, type := ty, pos := ps, after := af, guard := some (j, w) } a else some .x
    | none => none) := Eq.trans (Eq.refl _) (Eq.refl _)
def CL {P : Program} (E : Env P) (N : Nat) (ops : Array Oper) (pc : FuncId → Bool) (us : List Nat) (l : List En) (a : Nat → AV) (d : Option Nat) (M : List (Nat × (Heap → Prop))) (K : (Nat → AV) → Heap → Prop) : AV → Heap → Prop := fun r H' => (∀ e ∈ M, e.1 ∈ us → e.2 H') ∧ LR E N ops pc l (put a d r) H' M K
theorem CL_app {pc : FuncId → Bool} {us : List Nat} {l : List En} {M : List (Nat × (Heap → Prop))} {K : (Nat → AV) → Heap → Prop} {r : AV} {H' : Heap} : CL E N ops pc us l a d M K r H' = ((∀ e ∈ M, e.1 ∈ us → e.2 H') ∧ LR E N ops pc l (put a d r) H' M K) := propext ⟨fun h => h, fun h => h⟩
theorem LR_nil {pc : FuncId → Bool} {M : List (Nat × (Heap → Prop))} {K : (Nat → AV) → Heap → Prop} : LR E N ops pc [] a H M K = K a H := propext ⟨fun h => h, fun h => h⟩
theorem LR_cons {pc : FuncId → Bool} {i : Nat} {rc : Bool} {us : List Nat} {l : List En} {M : List (Nat × (Heap → Prop))} {K : (Nat → AV) → Heap → Prop} : LR E N ops pc ((i, rc, us) :: l) a H M K = (match ops[i]? with
    | none => False
    | some o => dok N o.dst = true ∧
      match cls pc o with
      | .pure => match stepV E ops o a H with
        | some r => LR E N ops pc l (put a o.dst r) H (if rc = true then (i, fun H' => stepV E ops o a H' = some r) :: M else M) K
        | none => False
      | .make => match mkV E o a with
        | some g => ∀ n, H n = none → LR E N ops pc l (put a o.dst (g n).1) (upd H n (g n).2) M K
        | none => False
      | .gen => premk E N ops a us ∧ GT E ops o a H (CL E N ops pc us l a o.dst M K)) := propext ⟨fun h => h, fun h => h⟩
end
theorem hle_upd_l {B H : Heap} {n : Nat} {k : Blk} (hB : B n = none) : Heap.le (upd B n k) H = (H n = some k ∧ Heap.le B H) :=
  propext ⟨fun h => ⟨h n k (upd_same _ _ _), fun m x hm => h m x (by rw [upd_ne (by rintro rfl; rw [hB] at hm; cases hm)]; exact hm)⟩, fun h => Heap.le_put h.2 h.1⟩
theorem hle_upd_r {B H : Heap} {n : Nat} {k : Blk} (hB : B n = none) : Heap.le B (upd H n k) = Heap.le B H :=
  propext ⟨fun h m x hm => by have := h m x hm; rwa [upd_ne (by rintro rfl; rw [hB] at hm; cases hm)] at this, fun h => Heap.le_new h hB⟩
theorem hle_del_r {B H : Heap} {n : Nat} (hB : B n = none) : Heap.le B (del H n) = Heap.le B H :=
  propext ⟨fun h m x hm => del_le H n m x (h m x hm), fun h m x hm => by rw [del_ne (by rintro rfl; rw [hB] at hm; cases hm)]; exact h m x hm⟩
theorem hle_refl (H : Heap) : Heap.le H H = True := propext ⟨fun _ => trivial, fun _ => Heap.le_refl H⟩
theorem hle_emp (H : Heap) : Heap.le (fun _ => none) H = True := propext ⟨fun _ => trivial, fun _ => Heap.le_emp H⟩
theorem cs_g (xs : List AV) : (AV.g xs).cs = some xs := rfl
theorem cs_c (v : Value) : (AV.c v).cs = if v.oneCell' then some [.c v] else none := rfl
theorem cs_p (n sz i j : Nat) : (AV.p n sz i j).cs = some [.p n sz i j] := rfl
theorem cs_q (e : List AV) (j : Nat) : (AV.q e j).cs = some [.q e j] := rfl
theorem cs_s (n sz i len cap : Nat) : (AV.s n sz i len cap).cs = some [.s n sz i len cap] := rfl
theorem cs_l (sz : Nat) (rows : List (List AV)) : (AV.l sz rows).cs = some [.l sz rows] := rfl
theorem cs_f (fn : Fn) (xs ys : List AV) : (AV.f fn xs ys).cs = some [.f fn xs ys] := rfl
theorem lenV_l (sz : Nat) (rows : List (List AV)) : lenV (.l sz rows) = some rows.length := rfl
theorem lenV_s (n sz i len cap : Nat) : lenV (.s n sz i len cap) = some len := rfl
theorem lenV_c (ad : Option Addr) (len cap : Nat) : lenV (.c (.slice ad len cap)) = some len := rfl
/-! the words by which all is reckoned -/
attribute [push_cast] opt_some opt_none stepV_none stepV_guard LR_nil LR_cons pF_move EO_move pF_assign EO_assign pF_pick EO_pick pF_makeFunc EO_makeFunc pF_extract EO_extract pF_unOp EO_unOp pF_binOp EO_binOp pF_convert EO_convert pF_nilCheck EO_nilCheck pF_fieldAddr EO_fieldAddr pF_field EO_field pF_indexAddr EO_indexAddr pF_index EO_index pF_slice EO_slice pF_load EO_load pF_build EO_build pF_builtin EO_builtin pF_callf EO_callf pF_callt EO_callt EO_alloc EO_box EO_buildSlice EO_store
attribute [push_cast] premk isMkO true_implies Bool.false_eq_true false_implies Option.isSome_some Option.isSome_map
attribute [push_cast] CT_app CL_app hle_upd_l hle_upd_r hle_del_r hle_refl hle_emp upd_upd
attribute [push_cast] ER_nil ER_none cls clsO isLoad mkV GT ev dok put_some put_none frm_cons frm_nil Sl putAll thenA blkA roundQ retQ resL resV oneV ini gv eqV_c eqV_g valsOf binV_add binV_sub binV_mul binV_and binV_or binV_eql binV_neq binV_lss binV_leq binV_gtr binV_geq binV_quo binV_rem binV_beq binV_bne unV ldV fldA fldV idxA idxV slcV optI bldV fillC fillR biV lenV_l lenV_s lenV_c prt cs_g cs_c cs_p cs_q cs_s cs_l cs_f AV.nn Value.oneCell' upd_same upd_get upd_none2 upd_join join_upd_get join_none_iff ite_cbool ite_cbool'
attribute [push_cast] List.getD_eq_getElem?_getD List.getElem?_cons_zero List.getElem?_cons_succ List.getElem?_nil Option.getD_some Option.getD_none Option.bind_some Option.bind_none Option.map_some Option.map_none List.getElem?_toArray List.map_cons List.map_nil List.toList_toArray decide_true decide_false true_and and_true Bool.not_true Bool.not_false Bool.true_eq_false Bool.false_eq_true if_true if_false ite_self Nat.add_zero Nat.zero_add List.length_cons List.length_nil forall_const imp_self implies_true ne_eq not_true_eq_false not_false_eq_true Bool.decide_eq_true Bool.not_eq_true' Bool.not_eq_false' List.drop_zero List.drop_succ_cons List.drop_nil List.take_zero List.take_succ_cons List.take_nil List.set_cons_zero List.set_cons_succ List.nil_append List.cons_append List.all_cons List.all_nil Bool.and_true Bool.true_and Bool.and_self forall_eq_or_imp forall_eq List.mem_cons List.not_mem_nil or_false false_or Nat.le_refl Nat.lt_irrefl List.replicate_succ List.replicate_zero false_implies Nat.one_pos Nat.zero_lt_one Nat.le_add_left List.contains_cons List.contains_nil Bool.or_false Bool.or_true Bool.false_or Bool.true_or Nat.one_ne_zero Nat.zero_ne_one Nat.mul_one Nat.one_mul Nat.mul_zero Nat.zero_mul and_self List.append_nil List.getElem?_set_self eq_self or_true true_or or_self Nat.zero_le List.replicate
end Go.Proofs.Yteoepeionomjlaa
