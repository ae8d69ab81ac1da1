/- General, over whatever program: a range over a function whose iterator may turn cells of its own. Conditions: as each theorem states them. -/
import Derived.RangeFuncNested
import Derived.RangeFuncBound
import Derived.RangeFuncCalls
import Derived.RangeFuncLeaves
import Derived.Shelf.Abstract
import Derived.Shelf.RegionOpen
import Derived.OwnWalkIn
import Derived.TacticsInMore
import Derived.LoopNIn
import Derived.LoopIn
import Derived.Test.YtipblkdekppbfaaL
namespace Go.Proofs.Ytipblkdekppbfaa
open Go.RowKit Go.Shelf
set_option linter.unusedVariables false

/-- What an iterator's own steps may turn: blocks of R, and what is made. -/
structure Turn (R : Nat → Obj → Prop) (A B : World) : Prop where
  os : B.os = A.os
  tape : B.tape = A.tape
  output : B.output = A.output
  size : A.heap.size ≤ B.heap.size
  same : ∀ k o, A.heap[k]? = some o → ¬ R k o → B.heap[k]? = some o

/-- The loop's own books beside: what is no cells and lies from n0 on. -/
structure Book (R : Nat → Obj → Prop) (n0 : Nat) (A B : World) : Prop where
  os : B.os = A.os
  tape : B.tape = A.tape
  output : B.output = A.output
  size : A.heap.size ≤ B.heap.size
  same : ∀ k o, A.heap[k]? = some o → ¬ R k o → (k < n0 ∨ o.isCells = true) → B.heap[k]? = some o

theorem Turn.book {R : Nat → Obj → Prop} {A B : World} (h : Turn R A B) (n0 : Nat) : Book R n0 A B := ⟨h.os, h.tape, h.output, h.size, fun k o hk hr _ => h.same k o hk hr⟩
theorem Turn.refl (R : Nat → Obj → Prop) (A : World) : Turn R A A := ⟨rfl, rfl, rfl, Nat.le_refl _, fun _ _ h _ => h⟩
theorem Turn.trans {R : Nat → Obj → Prop} {A B C : World} (h : Turn R A B) (k : Turn R B C) : Turn R A C :=
  ⟨k.os.trans h.os, k.tape.trans h.tape, k.output.trans h.output, Nat.le_trans h.size k.size, fun i o hi hr => k.same i o (h.same i o hi hr) hr⟩
theorem Turn.of_below {R : Nat → Obj → Prop} {A B : World} (h : Below A.heap.size A B) : Turn R A B :=
  ⟨h.os, h.tape, h.output, h.size, fun k o hk _ => (h.block k (lt_of_block hk)).trans hk⟩
theorem Turn.of_grown {R : Nat → Obj → Prop} {A B : World} {row : Option Nat} (h : A.grownBy B row) (hr : ∀ k o, row = some k → A.heap[k]? = some o → R k o) : Turn R A B :=
  ⟨h.os, h.tape, h.output, h.size, fun k o hk hn => (h.block k (lt_of_block hk) (fun e => hn (hr k o e.symm hk))).trans hk⟩
theorem Turn.set {R : Nat → Obj → Prop} {B : World} {p : Addr} (hp : ∀ o, B.heap[p.block]? = some o → R p.block o) (v : Value) : Turn R B (B.setCell p v) :=
  ⟨rfl, rfl, rfl, by simp, fun k o hk hn => by
    rw [Below.heap_setCell _ _ _ _ (by intro e; subst e; exact hn (hp o hk))]; exact hk⟩
theorem Turn.alloc {R : Nat → Obj → Prop} {A B : World} (h : Turn R A B) (o : Obj) : Turn R A (B.alloc o) :=
  h.trans (.of_below (below_alloc B o))
theorem Turn.drew {R : Nat → Obj → Prop} {A B : World} (h : Turn R A B) : Turn R A B.drew := ⟨h.os, h.tape, h.output, h.size, h.same⟩
theorem Turn.mono {R R' : Nat → Obj → Prop} {A B : World} (h : Turn R A B) (hR : ∀ k o, R k o → R' k o) : Turn R' A B := ⟨h.os, h.tape, h.output, h.size, fun k o hk hn => h.same k o hk (fun e => hn (hR k o e))⟩
theorem Turn.below {R : Nat → Obj → Prop} {A B : World} (h : Turn R A B) {n : Nat} (hn : n ≤ A.heap.size) (hR : ∀ k o, R k o → n ≤ k) : Below n A B :=
  ⟨h.os, h.tape, h.output, h.size, fun k hk => by
    have hk' : k < A.heap.size := by omega
    rw [Array.getElem?_eq_getElem hk']
    exact h.same k _ (Array.getElem?_eq_getElem hk') (fun e => by have := hR k _ e; omega)⟩

theorem Book.cells {R : Nat → Obj → Prop} {n0 : Nat} {A B : World} (h : Book R n0 A B) {b : Nat} {cs : Array Value} {t : TypeId} {fz : Nat × Nat} (hb : A.heap[b]? = some (.cells cs t fz)) (hR : ¬ R b (.cells cs t fz)) : B.heap[b]? = some (.cells cs t fz) := h.same b _ hb hR (.inr rfl)
theorem Book.put {R : Nat → Obj → Prop} {n0 : Nat} {A : World} {l : Nat} {o o' : Obj} (hl : A.heap[l]? = some o) (ho : o.isCells = false) (hn : n0 ≤ l) : Book R n0 A (A.putObj l o') :=
  ⟨rfl, rfl, rfl, by simp, fun k x hk _ hx => by
    by_cases e : k = l
    · subst e
      rw [hl] at hk
      obtain rfl := Option.some.inj hk
      rcases hx with hx | hx
      · omega
      · rw [ho] at hx; cases hx
    · exact (World.putObj_heap_other e).trans hk⟩
theorem Book.alloc {R : Nat → Obj → Prop} {n0 : Nat} (A : World) (o : Obj) : Book R n0 A (A.alloc o) := (Turn.of_below (below_alloc A o)).book n0

theorem Turn.book' {R : Nat → Obj → Prop} {n0 : Nat} {w A B : World} (h : Turn R w A) (k : Book R n0 A B) (hn : w.heap.size ≤ n0) : Turn R w B :=
  ⟨k.os.trans h.os, k.tape.trans h.tape, k.output.trans h.output, Nat.le_trans h.size k.size, fun i o hi hr => k.same i o (h.same i o hi hr) hr (.inl (by have := lt_of_block hi; omega))⟩
theorem Own.book {α : Type} {E : Enc α} {R : Nat → Obj → Prop} {n0 base : Nat} {A B : World} {v : Value} {l : List α} (h : Own E A base v l) (k : Book R n0 A B) (hR : ∀ i o, R i o → i < base) : Own E B base v l := by
  obtain ⟨h1, h2 | ⟨g, cap, cur, hv, hg, hh, r⟩⟩ := h
  · exact ⟨h1, .inl h2⟩
  · exact ⟨h1, .inr ⟨g, cap, cur, hv, hg, k.cells hh (fun e => by have := hR g _ e; omega), r⟩⟩
theorem Own.turn {α : Type} {E : Enc α} {R : Nat → Obj → Prop} {base : Nat} {A B : World} {v : Value} {l : List α} (h : Own E A base v l) (k : Turn R A B) (hR : ∀ i o, R i o → i < base) : Own E B base v l := h.book (k.book 0) hR
/-- the block that a slice owns is of its elements' type -/
theorem Own.kind {α : Type} {E : Enc α} {base : Nat} {W : World} {v : Value} {l : List α} (h : Own E W base v l) {k : Nat} {o : Obj} (hk : v.ownBlock = some k) (ho : W.heap[k]? = some o) : base ≤ k ∧ ∃ cs, o = .cells cs E.e (0, 0) := by
  obtain ⟨_, ⟨rfl, _⟩ | ⟨g, cap, cur, rfl, hg, hh, _⟩⟩ := h
  · cases hk
  · simp only [Value.ownBlock, Option.some.injEq] at hk
    subst hk
    rw [hh] at ho
    exact ⟨hg, cur, (Option.some.inj ho).symm⟩
theorem keeps_grown {α : Type} {E : Enc α} {n0 base : Nat} {W W' : World} {v : Value} {l : List α} (h : Own E W base v l) (hg : W.grownBy W' v.ownBlock) : KeepsFrom n0 W W' :=
  ⟨hg.size, fun k o _ hk ho => (hg.block k (lt_of_block hk) (fun e => by
    obtain ⟨_, cs, rfl⟩ := h.kind e.symm hk
    cases ho)).trans hk⟩
theorem keeps_below {n0 : Nat} {W W' : World} (h : Below W.heap.size W W') : KeepsFrom n0 W W' := ⟨h.size, fun k o _ hk _ => (h.block k (lt_of_block hk)).trans hk⟩
theorem keeps_set {n0 b : Nat} {W : World} {cs : Array Value} {t : TypeId} {fz : Nat × Nat} (hb : W.heap[b]? = some (.cells cs t fz)) (i : Nat) (v : Value) : KeepsFrom n0 W (W.setCell ⟨b, i, none⟩ v) :=
  ⟨by simp, fun k o _ hk ho => by
    rw [Below.heap_setCell _ _ _ _ (by
      intro e
      have e' : k = b := e
      rw [e', hb] at hk
      obtain rfl := Option.some.inj hk
      cases ho)]
    exact hk⟩

/-- An iterator: it tells encs x one by one; between two rounds it turns cells of R alone, and the rounds cells of C; S: what has come when it is over, Sp: when it was stopped. -/
def Iter {α : Type} (P : Program) (g : Nat) (lb : Array Value) (encs : α → Array Value) (R C : Nat → Obj → Prop) (S Sp : List α → World → Prop) (N : Nat) (w : World) : Prop :=
  ∀ (l : Nat) (J Jx : List α → World → Prop) (W : World), Below w.heap.size w W → (∀ s A B, J s A → Turn R A B → J s B) → (∀ s A B, Jx s A → Turn R A B → Jx s B) →
    (∀ pre x W1, J pre W1 → pre.length < N → YieldAt Fence.wide 6 P l (encs x) W1 fun e W' =>
      (e = .returned (.bool true) ∧ J (pre ++ [x]) W' ∧ Turn C W1 W') ∨ (e = .returned (.bool false) ∧ Jx (pre ++ [x]) W' ∧ Turn C W1 W')) →
    J [] W →
    CallsIn Fence.wide 7 P g (#[.func (.yield l) #[] #[]] ++ lb) W fun e W' => (∃ v, e = .returned v) ∧ ((∃ xs, S xs W' ∧ J xs W') ∨ (∃ pre, Sp pre W' ∧ Jx pre W'))

/-- how a round's body may be left -/
def LoopPost {α : Type} (n0 : Nat) (C : Nat → Obj → Prop) (I : List α → World → Prop) (Ix : Code → List α → World → Prop) (xs : List α) (W : World) : Exit → Act → World → Prop
  | .normal, _, W' => KeepsFrom n0 W W' ∧ Turn C W W' ∧ I xs W'
  | .ret, _, W' => KeepsFrom n0 W W' ∧ Turn C W W' ∧ Ix .ret xs W'
  | .exit id, _, W' => KeepsFrom n0 W W' ∧ Turn C W W' ∧ Ix (.exit id) xs W'
  | .goto t, _, W' => KeepsFrom n0 W W' ∧ Turn C W W' ∧ Ix (.goto t) xs W'
  | .panic _, _, _ => False
  | .outgrown, _, _ => False

theorem put_turn {C : Nat → Obj → Prop} {W : World} {l : Nat} {o : Obj} (o' : Obj) (hk : W.heap[l]? = some o) (hl : C l o) : Turn C W (W.putObj l o') :=
  ⟨rfl, rfl, rfl, by simp, fun k x hx hn => (World.putObj_heap_other (by rintro rfl; rw [hk] at hx; obtain rfl := Option.some.inj hx; exact hn hl)).trans hx⟩

theorem range_law {α : Type} {P : Program} {g : Operand} {ps : Array Tmp} {assign body : Code} {Q : Exit → Act → World → Prop} {a : Act} {w : World} {gf : Nat} {lb : Array Value}
    (hg : a.eval g = .func (.func gf) #[] lb) (eg : Enters P gf) {encs : α → Array Value} {R C : Nat → Obj → Prop} {S Sp : List α → World → Prop} {N : Nat}
    (hit : Iter P gf lb encs R C S Sp N w) (hR : ∀ k o, R k o → k < w.heap.size) (hC : ∀ k o, w.heap.size ≤ k → o.isCells = false → C k o) (hps : ∀ x, (encs x).size = ps.size)
    (hS : ∀ xs A B, S xs A → Turn C A B → S xs B) (hSp : ∀ xs A B, Sp xs A → Turn C A B → Sp xs B)
    (I : List α → World → Prop) (Ix : Code → List α → World → Prop) (hI : ∀ s A B, I s A → Book R w.heap.size A B → I s B) (hIx : ∀ c s A B, Ix c s A → Book R w.heap.size A B → Ix c s B) (h0 : I [] w)
    (Ax : α → Act → World → Prop) (hAx : ∀ x a' A B, Ax x a' A → Book R w.heap.size A B → Ax x a' B)
    (hassign : ∀ (l : Nat) (pre : List α) (x : α) (W : World) (K : Act → World → Prop), I pre W → (∀ a' W', KeepsFrom w.heap.size W W' → Turn C W W' → I pre W' → Ax x a' W' → K a' W') →
      assign.wpIn (Fence.wide.inRound l) 6 P (Exit.then K (fun _ _ _ => False)) { tmps := (ps.zip (encs x)).foldl (fun t (p, v) => t.setIfInBounds p v) a.tmps, defers := [] } W)
    (hbody : ∀ (l : Nat) (pre : List α) (x : α) (a' : Act) (W : World), I pre W → Ax x a' W → pre.length < N → w.heap.size < W.heap.size → body.wpIn (Fence.wide.inRound l) 6 P (LoopPost w.heap.size C I Ix (pre ++ [x]) W) a' W)
    (hdone : ∀ (D : Nat) (xs : List α) (W : World), w.heap.size ≤ D → S xs W → I xs W → W.heap[D]? = some (.deferred (some [])) → Q .normal { a with defers := { target := .collected D, args := #[] } :: a.defers } W)
    (hstop : ∀ (D : Nat) (c : Code) (pre : List α) (W : World), w.heap.size ≤ D → Sp pre W → Ix c pre W → W.heap[D]? = some (.deferred (some [])) → c.wpIn Fence.wide 8 P Q { a with defers := { target := .collected D, args := #[] } :: a.defers } W) :
    (Code.rangeFunc g ps assign body).wpIn Fence.wide 8 P Q a w := by
  refine wpIn_rangeFunc ?_
  intro fn hfn
  obtain ⟨D, hD⟩ : ∃ D, w.heap.size = D := ⟨_, rfl⟩
  obtain ⟨rec, hrec⟩ : ∃ rec : LoopState → Option Code → Loop, rec = fun st pe => { state := st, pending := pe, fn, tmps := a.tmps, params := ps, assign, body, defers := D } := ⟨_, rfl⟩
  obtain ⟨W1, hW1⟩ : ∃ W1, (w.alloc (.deferred (some []))).alloc (.loop (rec .ready none)) = W1 := ⟨_, rfl⟩
  have hL1 : W1.heap[D + 1]? = some (.loop (rec .ready none)) := by
    rw [← hW1, ← hD]; have := World.alloc_heap_new (w.alloc (.deferred (some []))) (.loop (rec .ready none)); rwa [World.size_alloc] at this
  have hK1 : W1.heap[D]? = some (.deferred (some [])) := by
    rw [← hW1, ← hD]; exact (Below.heap_alloc _ _ _ (by simp)).trans (World.alloc_heap_new w _)
  have hI1 : I [] W1 := by rw [← hW1]; exact hI _ _ _ (hI _ _ _ h0 (Book.alloc _ _)) (Book.alloc _ _)
  have hb1 : Below w.heap.size w W1 := by rw [← hW1]; exact (below_alloc w _).alloc (by simp) _
  have hlD : ∀ o, ¬ R D o := fun o h => by have := hR D o h; omega
  have hlL : ∀ o, ¬ R (D + 1) o := fun o h => by have := hR _ o h; omega
  refine ⟨D + 1, [{ target := .collected D, args := #[] }], W1, { target := .fn (.func gf) lb, args := #[.func (.yield (D + 1)) #[] #[]] }, W1, gf,
    #[.func (.yield (D + 1)) #[] #[]] ++ lb, W1, ?_, ?_, fun _ _ => trivial, ?_, fun h => by simp [Fence.wide] at h, ?_⟩
  · rw [← hW1, hrec, ← hD]; exact run_enterLoop_outer _ _ _ _ _
  · simp only [resolve, hg]
    simp [go_sem]
  · simp [invoke, go_sem, eg _ _]
  · refine (hit (D + 1)
      (fun pre W => I pre W ∧ W.heap[D + 1]? = some (.loop (rec .ready none)) ∧ W.heap[D]? = some (.deferred (some [])))
      (fun pre W => ∃ c, Ix c pre W ∧ W.heap[D + 1]? = some (.loop (rec .done (some c))) ∧ W.heap[D]? = some (.deferred (some [])))
      W1 hb1
      (fun s A B ⟨h1, h2, h3⟩ ht => ⟨hI s A B h1 (ht.book _), ht.same _ _ h2 (hlL _), ht.same _ _ h3 (hlD _)⟩)
      (fun s A B ⟨c, h1, h2, h3⟩ ht => ⟨c, hIx c s A B h1 (ht.book _), ht.same _ _ h2 (hlL _), ht.same _ _ h3 (hlD _)⟩)
      ?_ ⟨hI1, hL1, hK1⟩).mono ?_
    · rintro pre x W ⟨hi, hl, hk⟩ hlen
      have hy := run_yield (P := P) (args := encs x) hl (by rw [hrec]; exact hps x)
      rw [hrec] at hy
      refine ⟨fn, _, assign, body, hy, roundIn_of_wpIn hfn (hassign _ pre x W _ hi ?_)⟩
      clear hy
      intro a' Wa hkf hba hia hax
      have hl' := hkf.same _ _ (by omega) hl rfl
      have hk' := hkf.same _ _ (by omega) hk rfl
      have hlt : D + 1 < Wa.heap.size := lt_of_block hl'
      refine ⟨_, run_beginRound hl' (by rw [hrec]), ?_⟩
      have hl2 : (Wa.putObj (D + 1) (.loop { rec .ready none with state := .busy })).heap[D + 1]? = some (.loop { rec .ready none with state := .busy }) := World.putObj_heap_same hlt
      have hk2 : (Wa.putObj (D + 1) (.loop { rec .ready none with state := .busy })).heap[D]? = some (.deferred (some [])) := (World.putObj_heap_other (by omega)).trans hk'
      have hw2 : Turn C Wa (Wa.putObj (D + 1) (.loop { rec .ready none with state := .busy })) := put_turn _ hl' (hC _ _ (by omega) rfl)
      have hbk : Book R w.heap.size Wa (Wa.putObj (D + 1) (.loop { rec .ready none with state := .busy })) := Book.put hl' rfl (by omega)
      refine wpIn_mono (hbody _ pre x a' _ (hI _ _ _ hia hbk) (hAx _ _ _ _ hax hbk) hlen (by simp; omega)) ?_
      have fin : ∀ (jump : Option Code) (W3 : World), KeepsFrom w.heap.size (Wa.putObj (D + 1) (.loop { rec .ready none with state := .busy })) W3 →
          (Instr.endRound (D + 1) jump).run P W3 = .ok (.bool jump.isNone) (W3.putObj (D + 1) (.loop (rec (if jump.isNone then .ready else .done) jump))) ∧
          W3.heap[D + 1]? = some (.loop { rec .ready none with state := .busy }) ∧
          (W3.putObj (D + 1) (.loop (rec (if jump.isNone then .ready else .done) jump))).heap[D + 1]? = some (.loop (rec (if jump.isNone then .ready else .done) jump)) ∧
          (W3.putObj (D + 1) (.loop (rec (if jump.isNone then .ready else .done) jump))).heap[D]? = some (.deferred (some [])) := fun jump W3 hk3 => by
        have hl3 := hk3.same _ _ (by omega) hl2 rfl
        have := run_endRound (P := P) jump hl3
        rw [hrec] at this ⊢
        exact ⟨this, by rw [hrec] at hl3; exact hl3, World.putObj_heap_same (lt_of_block hl3), (World.putObj_heap_other (by omega)).trans (hk3.same _ _ (by omega) hk2 rfl)⟩
      have stop : ∀ (c : Code) (W3 : World), KeepsFrom w.heap.size (Wa.putObj (D + 1) (.loop { rec .ready none with state := .busy })) W3 ∧ Turn C (Wa.putObj (D + 1) (.loop { rec .ready none with state := .busy })) W3 ∧ Ix c (pre ++ [x]) W3 →
          ∃ v w', (Instr.endRound (D + 1) (some c)).run P W3 = .ok v w' ∧ ((Ending.returned v = .returned (.bool true) ∧ (I (pre ++ [x]) w' ∧ w'.heap[D + 1]? = some (.loop (rec .ready none)) ∧ w'.heap[D]? = some (.deferred (some []))) ∧ Turn C W w') ∨
            (Ending.returned v = .returned (.bool false) ∧ (∃ c, Ix c (pre ++ [x]) w' ∧ w'.heap[D + 1]? = some (.loop (rec .done (some c))) ∧ w'.heap[D]? = some (.deferred (some []))) ∧ Turn C W w')) := fun c W3 ⟨hk3, hb3, hi3⟩ => by
        obtain ⟨hr, hl3, hl4, hk4⟩ := fin (some c) W3 hk3
        exact ⟨_, _, hr, .inr ⟨rfl, ⟨c, hIx _ _ _ _ hi3 (Book.put hl3 rfl (by omega)), hl4, hk4⟩, ((hba.trans hw2).trans hb3).trans (put_turn _ hl3 (hC _ _ (by omega) rfl))⟩⟩
      rintro e a3 W3 hp
      cases e with
      | normal =>
        obtain ⟨hk3, hb3, hi3⟩ := hp
        obtain ⟨hr, hl3, hl4, hk4⟩ := fin none W3 hk3
        exact ⟨_, _, hr, .inl ⟨rfl, ⟨hI _ _ _ hi3 (Book.put hl3 rfl (by omega)), hl4, hk4⟩, ((hba.trans hw2).trans hb3).trans (put_turn _ hl3 (hC _ _ (by omega) rfl))⟩⟩
      | ret => exact stop .ret W3 hp
      | exit id => exact stop (.exit id) W3 hp
      | goto t => exact stop (.goto t) W3 hp
      | panic ch => exact hp.elim
      | outgrown => exact hp.elim
    · rintro e W2 ⟨⟨v, rfl⟩, (⟨xs, hS', hi, hl, hk⟩ | ⟨pre, hSp', c, hi, hl, hk⟩)⟩
      · exact ⟨none, _, by have := run_endLoop (P := P) hl (by rw [hrec]; simp); rw [hrec] at this; exact this,
          hdone D xs _ (by omega) (hS _ _ _ hS' (put_turn _ hl (hC _ _ (by omega) rfl))) (hI _ _ _ hi (Book.put hl rfl (by omega))) ((World.putObj_heap_other (by omega)).trans hk)⟩
      · exact ⟨some c, _, by have := run_endLoop (P := P) hl (by rw [hrec]; simp); rw [hrec] at this; exact this,
          hstop D c pre _ (by omega) (hSp _ _ _ hSp' (put_turn _ hl (hC _ _ (by omega) rfl))) (hIx c _ _ _ hi (Book.put hl rfl (by omega))) ((World.putObj_heap_other (by omega)).trans hk)⟩

section
variable {P : Program} {ops : Array Oper} {rest : List Oper} {o : Oper} {a : Act} {Q : Exit → Act → World → Prop} {α : Type}
/-- 'append(s, x)', s the call's own, one element, which lies in a block that has just been made. -/
theorem wplIn_app1 {F : Fence} {n : Nat} {w : World} {C : Array Value} {ce : TypeId} {base : Nat} {v : Value} {l : List α} {E : Enc α} (hE : E.ok P) (hown : Own E w base v l) (x : α) (hC : C = (E.f x).toArray)
    (hgd : o.guard = none) {s y : Operand} {t : TypeId} (ho : o.op = .call { callee := .builtin .append, args := #[s, y], argTypes := #[t, t] })
    (ht : P.underlying t = some (.slice E.e)) (hs : a.eval s = v) (hx : a.eval y = .slice (some ⟨w.heap.size, 0, none⟩) 1 1)
    (h63 : l.length + 1 ≤ maxLen) (hbytes : (l.length + 1) * E.bytes ≤ 140737488355328) (hbase : base ≤ w.heap.size)
    (h : ∀ v' w', Own E w' base v' (l ++ [x]) → Below base w w' → w.grownBy w' v.ownBlock → wpListIn F n P ops Q rest (a.put o.dst v') w') :
    wpListIn F n P ops Q (o :: rest) a (w.alloc (.cells C ce)) := by
  obtain ⟨i, z, hi, hz, hs1, hs2, hzs⟩ := hE
  subst hC
  have hcell : ∀ j u, (E.f x)[j]? = some u → (w.alloc (.cells (E.f x).toArray ce)).cell? ((⟨w.heap.size, 0, none⟩ : Addr).add j) = some u := by
    intro j u hu
    rw [Addr.add_lit, cell_of_row _ w.heap.size (0 + j) _ ce (0, 0) (heap_alloc_new w _)]
    simpa using hu
  refine wpListIn_append_own (w.alloc _) hgd s y t ho base E.e i z E.sz E.bytes ht hi hz hs1 hs2 hzs E.pos v l.length (l.flatMap E.f) hs (World.ownsRow.alloc hown _)
    ⟨w.heap.size, 0, none⟩ 1 1 (E.f x) hx (by rw [E.len, Nat.one_mul]) hcell (E.one x) h63 hbytes (by simp; omega) ?_
  intro v' w' ho' hg _
  have hlt : ∀ k, v.ownBlock = some k → base ≤ k := fun k hk => (Own.lt hown k hk).1
  refine h v' w' ?_ ?_ ?_
  · show w'.ownsRow base E.e E.sz v' (l ++ [x]).length ((l ++ [x]).flatMap E.f)
    simpa [List.flatMap_append] using ho'
  · exact ((Below.refl base w).alloc hbase _).grown hg (by simp; omega) hlt
  · exact ⟨hg.os, hg.tape, hg.output, Nat.le_trans (by simp) hg.size, fun k hk hne => by rw [hg.block k (by simp; omega) hne, Below.heap_alloc w _ k hk]⟩

end

end Go.Proofs.Ytipblkdekppbfaa
