/- What each operation does to abstract values and memory. -/
import Derived.CallsIn
import Derived.TacticsIn
import Derived.ChangeKeysEq
import Derived.Test.YteoepeionomjlaaM1
namespace Go.Proofs.Yteoepeionomjlaa
open Go.RowKit
set_option linter.unusedVariables false
set_option linter.unusedSimpArgs false
set_option linter.constructorNameAsVariable false

/-- The fences under which all is said: the wide one, in a round or not. -/
def Wide (Fe : Fence) : Prop := Fe = Fence.wide ∨ ∃ l, Fe = Fence.wide.inRound l
theorem Wide.fn {Fe : Fence} (h : Wide Fe) (f : FuncId) : Fe.fn f := by rcases h with rfl | ⟨l, rfl⟩ <;> trivial
theorem Wide.depth {Fe : Fence} (h : Wide Fe) : Fe.depth = none := by rcases h with rfl | ⟨l, rfl⟩ <;> rfl
theorem Wide.calls {Fe : Fence} (h : Wide Fe) {n : Nat} {P : Program} {f : FuncId} {args : Array Value} {w : World} {R : Ending → World → Prop} (hc : Calls P f args w R) : CallsIn Fe n P f args w R := by
  rcases h with rfl | ⟨l, rfl⟩
  · exact callsIn_wide.2 hc
  · exact (callsIn_wide (n := n)).2 hc

def ev (a : Nat → AV) : Operand → AV
  | .tmp t => a t
  | .const v => .c v
  | .global g => .c (.pointer (some ⟨g, 0, none⟩))
  | .func f => .c (.func (.func f) #[] #[])

def Va (F : Mem) (a : Nat → AV) (act : Act) : Prop := ∀ t, V F (a t) (act.tmps.getD t undef)
theorem Va.ev {F : Mem} {a : Nat → AV} {act : Act} (h : Va F a act) (x : Operand) : V F (ev a x) (act.eval x) := by
  cases x with
  | tmp t => exact h t
  | const v => exact .c v
  | global g => exact .c _
  | func f => exact .c _
theorem Va.mono {F F' : Mem} (hF : F.le F') {a : Nat → AV} {act : Act} (h : Va F a act) : Va F' a act := fun t => (h t).mono hF
theorem Va.c {F : Mem} {a : Nat → AV} {act : Act} (h : Va F a act) {x : Operand} {v : Value} (hx : Go.Proofs.Yteoepeionomjlaa.ev a x = .c v) : act.eval x = v := by
  have := h.ev x; rw [hx] at this; exact this.c_inv

/-- the operands of an operation are as they are known -/
def Vf (F : Mem) (a : Nat → AV) (act : Act) (o : Oper) : Prop := ∀ x ∈ o.op.operands.toList, V F (ev a x) (act.eval x)
theorem Vf.ev {F : Mem} {a : Nat → AV} {act : Act} {o : Oper} (h : Vf F a act o) (x : Operand) (hx : x ∈ o.op.operands.toList := by simp [Op.operands, Call.operands, *]) : V F (ev a x) (act.eval x) := h x hx
theorem Vf.c {F : Mem} {a : Nat → AV} {act : Act} {o : Oper} (h : Vf F a act o) {x : Operand} {v : Value} (hx : Go.Proofs.Yteoepeionomjlaa.ev a x = .c v) (hm : x ∈ o.op.operands.toList := by simp [Op.operands, Call.operands, *]) : act.eval x = v := by
  have := h x hm; rw [hx] at this; exact this.c_inv
theorem Va.vf {F : Mem} {a : Nat → AV} {act : Act} (h : Va F a act) (o : Oper) : Vf F a act o := fun x _ => h.ev x

/-- What an operation does. -/
def Does (P : Program) (o : Oper) (a : Nat → AV) (H : Heap) (K : AV → Heap → Prop) : Prop :=
  ∀ (Fe : Fence) (n : Nat), Wide Fe → ∀ (F : Mem) (w : World) (act : Act), Vf F a act o → Sat F H w →
    o.wpIn Fe n P act w (fun act' w' => ∃ v F' H' r, act' = act.put o.dst v ∧ V F' r v ∧ Sat F' H' w' ∧ Ext F H w F' H' w' ∧ K r H') (fun _ _ _ => False)

section
variable {P : Program} {o : Oper} {a : Nat → AV} {H : Heap} {K : AV → Heap → Prop}

theorem Does.mono {K' : AV → Heap → Prop} (h : Does P o a H K) (hk : ∀ r H', K r H' → K' r H') : Does P o a H K' := by
  intro Fe n hF F w act hv hs
  obtain ⟨h1, h2⟩ := h Fe n hF F w act hv hs
  refine ⟨h1, ?_⟩
  generalize (o.semAt Fe.round act.eval).run P w = r at h2 ⊢
  have key : ∀ (act' : Act) (w' : World), (∃ v F' H' r, act' = act.put o.dst v ∧ V F' r v ∧ Sat F' H' w' ∧ Ext F H w F' H' w' ∧ K r H') → ∃ v F' H' r, act' = act.put o.dst v ∧ V F' r v ∧ Sat F' H' w' ∧ Ext F H w F' H' w' ∧ K' r H' :=
    fun act' w' ⟨v, F', H', r, e1, e2, e3, e4, e5⟩ => ⟨v, F', H', r, e1, e2, e3, e4, hk _ _ e5⟩
  cases r with
  | halt x w' => cases x <;> simp only [Oper.uponIn] at h2
  | ok x w' =>
    cases x with
    | value v => exact key _ _ h2
    | skip => exact key _ _ h2
    | defer d => exact key _ _ h2
    | enter f args => exact ⟨h2.1, h2.2.mono fun e w' he => (by cases e <;> first | exact key _ _ he | exact he)⟩
    | row f args => exact ⟨h2.1, h2.2.mono fun e w' he => key _ _ he⟩
    | round l f tmps as body => exact ⟨h2.1, h2.2.mono fun e w' he => (by cases e <;> first | exact key _ _ he | exact he)⟩
    | _ => simp only [Oper.uponIn] at h2

/-- An operation that yields a value. -/
theorem Does.ran (hd : ∀ c, o.op ≠ .defer c)
    (h : ∀ (F : Mem) (w : World) (act : Act), Vf F a act o → Sat F H w → ∃ v w' F' H' r, (execOp act.eval o).run P w = .ok (.value v) w' ∧ V F' r v ∧ Sat F' H' w' ∧ Ext F H w F' H' w' ∧ K r H') : Does P o a H K := by
  intro Fe n hF F w act hv hs
  refine ⟨fun f _ => hF.fn f, ?_⟩
  rw [Oper.semAt_eq _ _ _ hd]
  obtain ⟨v, w', F', H', r, e1, e2, e3, e4, e5⟩ := h F w act hv hs
  rw [e1]
  exact ⟨v, F', H', r, rfl, e2, e3, e4, e5⟩

theorem Does.val (hd : ∀ c, o.op ≠ .defer c) {r : AV} (hK : K r H)
    (h : ∀ (F : Mem) (w : World) (act : Act), Vf F a act o → Sat F H w → ∃ v, (execOp act.eval o).run P w = .ok (.value v) w ∧ V F r v) : Does P o a H K :=
  Does.ran hd fun F w act hv hs => let ⟨v, e, hr⟩ := h F w act hv hs; ⟨v, w, F, H, r, e, hr, hs, Ext.refl F H w, hK⟩

theorem Does.skip (hd : ∀ c, o.op ≠ .defer c)
    (h : ∀ (F : Mem) (w : World) (act : Act), Vf F a act o → Sat F H w → ∃ w' H', (execOp act.eval o).run P w = .ok .skip w' ∧ Sat F H' w' ∧ Ext F H w F H' w' ∧ K .x H') : Does P o a H K := by
  intro Fe n hF F w act hv hs
  refine ⟨fun f _ => hF.fn f, ?_⟩
  rw [Oper.semAt_eq _ _ _ hd]
  obtain ⟨w', H', e1, e3, e4, e5⟩ := h F w act hv hs
  rw [e1]
  exact ⟨undef, F, H', .x, rfl, .x _, e3, e4, e5⟩

/-- a function is called -/
theorem Does.enters (hd : ∀ c, o.op ≠ .defer c)
    (h : ∀ (F : Mem) (w : World) (act : Act), Vf F a act o → Sat F H w → ∃ f args, (execOp act.eval o).run P w = .ok (.enter f args) w ∧
      Calls P f args w fun e w' => ∃ v F' H' r, e = .returned v ∧ V F' r v ∧ Sat F' H' w' ∧ Ext F H w F' H' w' ∧ K r H') : Does P o a H K := by
  intro Fe n hF F w act hv hs
  refine ⟨fun f _ => hF.fn f, ?_⟩
  rw [Oper.semAt_eq _ _ _ hd]
  obtain ⟨f, args, e1, e2⟩ := h F w act hv hs
  rw [e1]
  refine ⟨fun hx => (by rw [hF.depth] at hx; cases hx), hF.calls (e2.mono ?_)⟩
  rintro e w' ⟨v, F', H', r, rfl, e3⟩
  exact ⟨v, F', H', r, rfl, e3⟩


theorem evs_ok {F : Mem} {a : Nat → AV} {act : Act} {zs : Array Operand} (h : ∀ x ∈ zs.toList, V F (ev a x) (act.eval x)) : Vs F (zs.toList.map (ev a)) (zs.map act.eval).toList := by
  rw [Array.toList_map]
  generalize zs.toList = l at h
  induction l with
  | nil => exact Vs.nil F
  | cons z zs ih => exact Vs.cons (h z (by simp)) (ih fun x hx => h x (by simp [hx]))

/-! ### operations that only reckon -/
theorem does_move {x : Operand} (ho : o.op = .move x) (h : K (ev a x) H) : Does P o a H K :=
  Does.val (fun c => by simp [ho]) h fun F w act hv hs => ⟨_, by simp [execOp, ho], hv.ev x⟩
theorem does_assign {x : Operand} (ho : o.op = .assign x) (h : K (ev a x) H) : Does P o a H K :=
  Does.val (fun c => by simp [ho]) h fun F w act hv hs => ⟨_, by simp [execOp, ho], hv.ev x⟩
theorem does_pick {c x y : Operand} {b : Bool} (ho : o.op = .pick c x y) (hc : ev a c = .c (.bool b)) (h : K (if b then ev a x else ev a y) H) : Does P o a H K :=
  Does.val (fun c => by simp [ho]) h fun F w act hv hs => ⟨if b then act.eval x else act.eval y, by
    simp [execOp, ho, hv.c hc, asBool, Sem.run_bind], (by
      cases b
      · exact hv.ev y
      · exact hv.ev x)⟩
theorem does_makeFunc {fn : Fn} {xs ys : Array Operand} (ho : o.op = .makeFunc fn xs ys) (h : K (.f fn (xs.toList.map (ev a)) (ys.toList.map (ev a))) H) : Does P o a H K :=
  Does.val (fun c => by simp [ho]) h fun F w act hv hs => ⟨_, by simp [execOp, ho, Instr.makeFunc]; rfl, by
    exact V.f_of (evs_ok fun x hx => hv.ev x) (evs_ok fun x hx => hv.ev x)⟩
theorem does_extract {x : Operand} {i : Nat} {xs : List AV} {y : AV} (ho : o.op = .extract x i) (hx : ev a x = .t xs) (hy : xs[i]? = some y) (h : K y H) : Does P o a H K :=
  Does.val (fun c => by simp [ho]) h fun F w act hv hs => by
    have := hv.ev x
    rw [hx] at this
    obtain ⟨cs, e, hcs⟩ := this.t_inv
    have hi : i < cs.size := by
      have h1 := hcs.1
      have h2 := (List.getElem?_eq_some_iff.1 hy).1
      simp at h1; omega
    refine ⟨cs[i], by simp [execOp, ho, e, Instr.extract, hi], ?_⟩
    have := hcs.2 i y hy
    rw [← arr_getD] at this
    simpa [Array.getD, hi] using this

def unV (op : UnOp) : Value → Option Value
  | .bool b => if op = .not then some (.bool !b) else none
  | .int k n => if op = .neg then some (.int k (k.wrap (0 - n))) else none
  | _ => none
theorem does_unOp {op : UnOp} {t : TypeId} {x : Operand} {v r : Value} (ho : o.op = .unOp op t x) (hx : ev a x = .c v) (hr : unV op v = some r) (h : K (.c r) H) : Does P o a H K :=
  Does.val (fun c => by simp [ho]) h fun F w act hv hs => ⟨r, by
    rw [show execOp act.eval o = (do pure (.value (← Op.unary op v))) by simp [execOp, ho, hv.c hx]]
    unfold unV at hr
    split at hr
    · split at hr
      · rename_i h1; subst h1; cases hr; simp [Op.unary, Sem.run_bind]
      · simp at hr
    · split at hr
      · rename_i h1; subst h1; cases hr; simp [Op.unary, Op.intArith, Sem.run_bind]
      · simp at hr
    · simp at hr, V.c r⟩

/-- binary operations on whole numbers, truth values, strings -/
def binI (op : BinOp) (k : IntKind) (x y : Int) : Option Value :=
  match op with
  | .add => some (.int k (k.wrap (x + y)))
  | .sub => some (.int k (k.wrap (x - y)))
  | .mul => some (.int k (k.wrap (x * y)))
  | .and | .or | .xor => some (.int k (bits op k x y))
  | .eql => some (.bool (decide (x = y)))
  | .neq => some (.bool (!decide (x = y)))
  | .lss => some (.bool (decide (x < y)))
  | .leq => some (.bool (decide (x ≤ y)))
  | .gtr => some (.bool (decide (y < x)))
  | .geq => some (.bool (decide (y ≤ x)))
  | _ => none

theorem int_beq (m n : Int) : (m == n) = decide (m = n) := by by_cases h : m = n <;> simp [h]
theorem int_bne (m n : Int) : (m != n) = !decide (m = n) := by by_cases h : m = n <;> simp [h]
theorem does_binI {op : BinOp} {t t' : TypeId} {x y : Operand} {k : IntKind} {m n : Int} {r : Value} (ho : o.op = .binOp op t x y t') (hx : ev a x = .c (.int k m)) (hy : ev a y = .c (.int k n)) (hr : binI op k m n = some r) (h : K (.c r) H) : Does P o a H K :=
  Does.val (fun c => by simp [ho]) h fun F w act hv hs => ⟨r, by
    have e1 := hv.c hx
    have e2 := hv.c hy
    cases op <;> simp only [binI, Option.some.injEq, reduceCtorEq] at hr <;> subst hr <;>
      simp [execOp, ho, e1, e2, eqGuard, binOp, Op.intArith, Op.intCmp, Op.intBits, Sem.run_bind, bits, int_beq, int_bne], V.c _⟩
theorem does_quo {t t' : TypeId} {x y : Operand} {k : IntKind} {m n : Int} (ho : o.op = .binOp .quo t x y t') (hx : ev a x = .c (.int k m)) (hy : ev a y = .c (.int k n)) (hn : n ≠ 0) (h : K (.c (.int k (k.wrap (m.tdiv n)))) H) : Does P o a H K :=
  Does.val (fun c => by simp [ho]) h fun F w act hv hs => ⟨_, by
    simp [execOp, ho, hv.c hx, hv.c hy, eqGuard, binOp, Op.intDiv, Sem.run_bind, hn], .c _⟩
theorem does_rem {t t' : TypeId} {x y : Operand} {k : IntKind} {m n : Int} (ho : o.op = .binOp .rem t x y t') (hx : ev a x = .c (.int k m)) (hy : ev a y = .c (.int k n)) (hn : n ≠ 0) (h : K (.c (.int k (m.tmod n))) H) : Does P o a H K :=
  Does.val (fun c => by simp [ho]) h fun F w act hv hs => ⟨_, by
    simp [execOp, ho, hv.c hx, hv.c hy, eqGuard, binOp, Op.intDiv, Sem.run_bind, hn], .c _⟩
theorem does_shl {t t' : TypeId} {x y : Operand} {k k' : IntKind} {m n : Int} (ho : o.op = .binOp .shl t x y t') (hx : ev a x = .c (.int k m)) (hy : ev a y = .c (.int k' n)) (hn : 0 ≤ n) (h : K (.c (.int k (k.wrap (m * 2 ^ min n.toNat k.bits)))) H) : Does P o a H K :=
  Does.val (fun c => by simp [ho]) h fun F w act hv hs => ⟨_, by
    simp [execOp, ho, hv.c hx, hv.c hy, eqGuard, binOp, Op.shift, Sem.run_bind, Int.not_lt.2 hn], .c _⟩
theorem does_shr {t t' : TypeId} {x y : Operand} {k k' : IntKind} {m n : Int} (ho : o.op = .binOp .shr t x y t') (hx : ev a x = .c (.int k m)) (hy : ev a y = .c (.int k' n)) (hn : 0 ≤ n) (h : K (.c (.int k (m.fdiv (2 ^ min n.toNat k.bits)))) H) : Does P o a H K :=
  Does.val (fun c => by simp [ho]) h fun F w act hv hs => ⟨_, by
    simp [execOp, ho, hv.c hx, hv.c hy, eqGuard, binOp, Op.shift, Sem.run_bind, Int.not_lt.2 hn], .c _⟩
theorem does_binB {op : BinOp} {t t' : TypeId} {x y : Operand} {p q : Bool} (ho : o.op = .binOp op t x y t') (hu : P.underlying t = some .bool) (hop : op = .eql ∨ op = .neq) (hx : ev a x = .c (.bool p)) (hy : ev a y = .c (.bool q)) (h : K (.c (.bool (if op = .eql then p == q else p != q))) H) : Does P o a H K :=
  Does.val (fun c => by simp [ho]) h fun F w act hv hs => ⟨.bool (if op = .eql then p == q else p != q), by
    have hur : ∀ w : World, (underlying t).run P w = .ok .bool w := fun w => run_underlying hu w
    have he : ∀ w : World, (Op.equal t (.bool p) (.bool q)).run P w = .ok (p == q) w := fun w => by
      rw [show Op.equal t (.bool p) (.bool q) = Op.equalIn (9999 + 1) t (.bool p) (.bool q) from rfl]
      unfold Op.equalIn
      simp [Sem.run_bind, hur]
    have hg : eqGuard op t x y (.bool p) (.bool q) = pure () := by rcases hop with rfl | rfl <;> rfl
    have hb : binOp op t (.bool p) (.bool q) = if op = .eql then (do pure (.bool (← Op.equal t (.bool p) (.bool q)))) else (do pure (.bool (!(← Op.equal t (.bool p) (.bool q))))) := by rcases hop with rfl | rfl <;> rfl
    rw [show execOp act.eval o = (do pure (.value (← (do eqGuard op t x y (.bool p) (.bool q); binOp op t (.bool p) (.bool q))))) by simp [execOp, ho, hv.c hx, hv.c hy], hg, hb]
    rcases hop with rfl | rfl <;> simp [Sem.run_bind, he, bne], V.c _⟩
theorem does_binS {op : BinOp} {t t' : TypeId} {x y : Operand} {p q : ByteArray} (ho : o.op = .binOp op t x y t') (hop : op = .eql ∨ op = .neq) (hx : ev a x = .c (.string p)) (hy : ev a y = .c (.string q)) (h : K (.c (.bool (if op = .eql then p == q else p != q))) H) : Does P o a H K :=
  Does.val (fun c => by simp [ho]) h fun F w act hv hs => ⟨.bool (if op = .eql then p == q else p != q), by
    have hg : eqGuard op t x y (.string p) (.string q) = pure () := by rcases hop with rfl | rfl <;> rfl
    have hb : binOp op t (.string p) (.string q) = pure (.bool (if op = .eql then p == q else p != q)) := by rcases hop with rfl | rfl <;> simp [binOp, Op.stringOp, beq_toListBytes, bne]
    rw [show execOp act.eval o = (do pure (.value (← (do eqGuard op t x y (.string p) (.string q); binOp op t (.string p) (.string q))))) by simp [execOp, ho, hv.c hx, hv.c hy], hg, hb]
    simp [Sem.run_bind], V.c _⟩

theorem does_conv {s d : TypeId} {x : Operand} {j k : IntKind} {n : Int} (ho : o.op = .convert s d x) (hs' : (P.underlying s).isSome = true) (hu : P.underlying d = some (.int k)) (hx : ev a x = .c (.int j n)) (h : K (.c (.int k (k.wrap n))) H) : Does P o a H K :=
  Does.val (fun c => by simp [ho]) h fun F w act hv hs => ⟨_, by
    obtain ⟨ds, hds⟩ := Option.isSome_iff_exists.1 hs'
    have h1 : ∀ w : World, (underlying s).run P w = .ok ds w := fun w => run_underlying hds w
    have h2 : ∀ w : World, (underlying d).run P w = .ok (.int k) w := fun w => run_underlying hu w
    simp [execOp, ho, hv.c hx, convert, Conv.intToInt, Sem.run_bind, h1, h2], .c _⟩

def AV.nn : AV → Bool
  | .p .. | .q .. => true
  | .f (.func _) _ _ => true
  | .c (.func (.func _) _ _) => true
  | _ => false
theorem does_nilCheck {x : Operand} (ho : o.op = .nilCheck x) (hx : (ev a x).nn = true) (h : K (ev a x) H) : Does P o a H K :=
  Does.val (fun c => by simp [ho]) h fun F w act hv hs => ⟨act.eval x, by
    have h1 := hv.ev x
    have : (∃ ad, act.eval x = .pointer (some ad)) ∨ ∃ g xs ys, act.eval x = .func (.func g) xs ys := by
      generalize ev a x = r at h1 hx
      generalize act.eval x = v at h1
      cases h1 <;> simp [AV.nn] at hx
      · cases v <;> (try (simp at hx; done))
        rename_i fn xs ys
        cases fn <;> (try (simp at hx; done))
        exact .inr ⟨_, _, _, rfl⟩
      · exact .inl ⟨_, rfl⟩
      · exact .inl ⟨_, rfl⟩
      · rename_i fn xs ys cs ds _ _ _ _
        cases fn <;> (try (simp at hx; done))
        exact .inr ⟨_, _, _, rfl⟩
    rcases this with ⟨ad, e⟩ | ⟨g, xs, ys, e⟩ <;> simp [execOp, ho, e], hv.ev x⟩
end
end Go.Proofs.Yteoepeionomjlaa
