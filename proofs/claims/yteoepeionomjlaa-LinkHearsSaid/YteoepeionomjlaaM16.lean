/- Rounds: calls of yield, iterators, ranges over functions. -/
import Derived.Test.YteoepeionomjlaaM15
import Derived.RangeFuncNested
namespace Go.Proofs.Yteoepeionomjlaa
open Go.RowKit
set_option linter.all false

/-! ### a block that is no cells, beside -/
section
variable {F F' : Mem} {H H' : Heap} {w w' : World}

theorem Ext.over {l : Nat} {k k' : Blk} (h : Ext F H w F' H' w') : Ext F (upd H l k) w F' (upd H' l k') w' :=
  ⟨h.os, h.tape, h.output, h.size, fun n hn hH => h.block n hn (upd_none.1 hH).2, fun n x hx => by
    by_cases e : n = l
    · subst e; left; rw [upd_same]; simp
    · rw [upd_ne e] at hx
      rcases h.new n x hx with g | g
      · left; rw [upd_ne e]; exact g
      · exact .inr g, h.le, fun b o v hv => by
    rcases h.frz b o v hv with g | g | g
    · exact .inl g
    · right; left
      by_cases e : b = l
      · subst e; rw [upd_same]; simp
      · rw [upd_ne e]; exact g
    · exact .inr (.inr g)⟩

theorem Ext.put {l : Nat} {k k' : Blk} (o : Obj) : Ext F (upd H l k) w F (upd H l k') (w.putObj l o) :=
  ⟨rfl, rfl, rfl, by simp, fun n hn hH => World.putObj_heap_other (upd_none.1 hH).1, fun n x hx => by
    left
    by_cases e : n = l
    · subst e; rw [upd_same]; simp
    · rw [upd_ne e] at hx ⊢; rw [hx]; simp, Mem.le.refl F, fun b o v hv => .inl hv⟩

theorem Sat.off_loop (h : Sat F H w) {l : Nat} {r : Loop} (hl : w.heap[l]? = some (.loop r)) : ∀ o v, F l o = some v → False := fun o v hF => by
  have := h.mem l o v hF
  simp [World.cell?, hl] at this

theorem Sat.putm (h : Sat F H w) {l : Nat} {r : Loop} (hl : w.heap[l]? = some (.loop r)) (hn : H l = none) (o : Obj) : Sat F H (w.putObj l o) :=
  ⟨fun b o' v hb => by
    have := h.mem b o' v hb
    rw [← this]
    exact World.cell?_of_block (World.putObj_heap_other (by rintro rfl; exact h.off_loop hl o' v hb)), h.off, fun n k hk => (h.blk n k hk).heap (World.putObj_heap_other (by rintro rfl; rw [hn] at hk; cases hk))⟩

theorem Sat.updm (h : Sat F H w) {l : Nat} {o : Obj} (hl : w.heap[l]? = some o) (ho : o.isCells = false) (hn : H l = none) {M : Mem} (hM : M.le F) : Sat F (upd H l (.m o M)) w :=
  ⟨h.mem, fun b o' v k hF hk => by
    by_cases e : b = l
    · subst e
      have := h.mem b o' v hF
      cases o <;> simp [World.cell?, hl] at this
      cases ho
    · rw [upd_ne e] at hk; exact h.off b o' v k hF hk, fun n k hk => by
    by_cases e : n = l
    · subst e; rw [upd_same] at hk; cases hk; exact ⟨hl, hM⟩
    · rw [upd_ne e] at hk; exact h.blk n k hk⟩

theorem le_upd_new {H : Heap} {n : Nat} {k : Blk} (h : H n = none) : Heap.le H (upd H n k) := fun m x hm => by
  rw [upd_ne (by rintro rfl; rw [h] at hm; cases hm)]; exact hm
theorem Heap.le_refl (H : Heap) : Heap.le H H := fun _ _ h => h
theorem Heap.le_trans {A B C : Heap} (h : Heap.le A B) (k : Heap.le B C) : Heap.le A C := fun n x hx => k n x (h n x hx)
theorem Ext.less {H2 : Heap} (h : Ext F H w F' H' w') (hl : Heap.le H2 H') : Ext F H w F' H2 w' :=
  ⟨h.os, h.tape, h.output, h.size, h.block, fun n k hn => h.new n k (hl n k hn), h.le, h.frz⟩
theorem upd_join (A B : Heap) (n : Nat) (k : Blk) : upd (join A B) n k = join (upd A n k) B := by
  funext m; unfold upd join; by_cases e : m = n <;> simp [e]
theorem join_upd_get (A B : Heap) (n m : Nat) (k : Blk) : join (upd A n k) B m = if m = n then some k else join A B m := by
  rw [← upd_join]; rfl
theorem join_emp (B : Heap) : join (fun _ => none) B = B := by funext m; simp [join]
theorem join_none_iff {A B : Heap} {n : Nat} : join A B n = none ↔ A n = none ∧ B n = none := by
  unfold join; cases A n <;> simp
theorem Apart.emp (B : Heap) : Apart (fun _ => none) B := fun _ => .inl rfl
theorem Apart.upd {A B : Heap} (h : Apart A B) {n : Nat} (k : Blk) (hB : B n = none) : Apart (upd A n k) B := fun m => by
  by_cases e : m = n
  · subst e; exact .inr hB
  · rw [upd_ne e]; exact h m
end

/-! ### yield -/
def AYield (P : Program) (l : Nat) (args : List AV) (H : Heap) (K : Bool → Heap → Prop) : Prop :=
  ∀ (F : Mem) (w : World) (cs : List Value), Vs F args cs → Sat F H w →
    YieldAt Fence.wide 6 P l cs.toArray w fun e w' => ∃ b F' H', e = .returned (.bool b) ∧ Sat F' H' w' ∧ Ext F H w F' H' w' ∧ K b H'

theorem AYield.mono {P : Program} {l : Nat} {args : List AV} {H : Heap} {K K' : Bool → Heap → Prop} (h : AYield P l args H K) (hk : ∀ b H', K b H' → K' b H') : AYield P l args H K' :=
  fun F w cs hv hs => let ⟨fn, t, asg, bd, h1, h2⟩ := h F w cs hv hs
    ⟨fn, t, asg, bd, h1, h2.mono fun e w' ⟨b, F', H', e1, e2, e3, e4⟩ => ⟨b, F', H', e1, e2, e3, hk _ _ e4⟩⟩

theorem AYield.frame {P : Program} {l : Nat} {args : List AV} {A B : Heap} {K : Bool → Heap → Prop} (hap : Apart A B) (h : AYield P l args B K) : AYield P l args (join A B) (fun b H' => ∃ B', H' = join A B' ∧ Apart A B' ∧ K b B') :=
  fun F w cs hv hs => let ⟨fn, t, asg, bd, h1, h2⟩ := h F w cs hv (hs.less (le_join_right hap))
    ⟨fn, t, asg, bd, h1, h2.mono fun e w' ⟨b, F', H', e1, e2, e3, e4⟩ => by
      obtain ⟨g1, g2, g3⟩ := beside hap hs e2 e3
      exact ⟨b, F', _, e1, g2, g3, H', rfl, g1, e4⟩⟩

theorem RoundIn.to_wide {Fe : Fence} {n m : Nat} {P : Program} {l : Nat} {f : FuncId} {tmps : Array Value} {asg bd : Code} {w : World} {R : Ending → World → Prop} (hF : Wide Fe) (h : RoundIn Fence.wide m P l f tmps asg bd w R) : RoundIn Fe n P l f tmps asg bd w R := by
  rcases hF with rfl | ⟨l', rfl⟩
  · exact ⟨trivial, fun c cs _ => h.2 c cs (fun d hx => by cases hx)⟩
  · exact ⟨trivial, fun c cs _ => h.2 c cs (fun d hx => by cases hx)⟩

section
variable {P : Program} {o : Oper} {a : Nat → AV} {H : Heap} {K : AV → Heap → Prop}
theorem does_yield {c : Operand} {l : Nat} {xs : Array Operand} {ts : Array TypeId} (ho : o.op = .call { callee := .value c, args := xs, argTypes := ts }) (hc : ev a c = .c (.func (.yield l) #[] #[]))
    (h : AYield P l (xs.toList.map (ev a)) H (fun b H' => K (.c (.bool b)) H')) : Does P o a H K := by
  intro Fe n hF F w act hv hs
  have hcs : Vs F (xs.toList.map (ev a)) (xs.map act.eval).toList := evs_ok fun x hx => hv.ev x (by simp only [ho, Op.operands, Call.operands, Array.toList_append]; exact List.mem_append_right _ hx)
  obtain ⟨fn, t, asg, bd, h1, h2⟩ := h F w _ hcs hs
  rw [Array.toArray_toList] at h1
  refine ⟨fun f _ => hF.fn f, ?_⟩
  rw [Oper.semAt_eq _ _ _ (fun c => by simp [ho])]
  have e : (execOp act.eval o).run P w = .ok (.round l fn t asg bd) w := by
    simp only [execOp, ho, resolve, hv.c hc, Deferred.ofValue]
    simp [Sem.run_bind, invoke, h1]
  rw [e]
  refine ⟨fun hx => (by rw [hF.depth] at hx; cases hx), RoundIn.to_wide hF (h2.mono ?_)⟩
  rintro e w' ⟨b, F', H', rfl, g1, g2, g3⟩
  exact ⟨.bool b, F', H', .c (.bool b), rfl, .c _, g1, g2, g3⟩
end

/-! ### iterators -/
/-- An iterator: it tells xs one by one; its own memory is A; S: what that is when it is over, Sp: when it was stopped. -/
def AIter (P : Program) (gf : FuncId) (caps : List AV) (xs : List (List AV)) (A : Heap) (S Sp : Heap → Prop) : Prop :=
  Ent P gf ∧ ∀ (l : Nat) (J : Nat → Heap → Prop) (Jx : Heap → Prop),
    (∀ k (h : k < xs.length) B, J k B → AYield P l xs[k] B (fun b B' => (b = true ∧ J (k + 1) B') ∨ (b = false ∧ Jx B'))) →
    ∀ B, Apart A B → J 0 B → ACall P gf (.c (.func (.yield l) #[] #[]) :: caps) (join A B) fun _ H' => ∃ A' B', H' = join A' B' ∧ Apart A' B' ∧ ((S A' ∧ J xs.length B') ∨ (Sp A' ∧ Jx B'))

/-- the slots of a round's variables -/
def putAll (a : Nat → AV) : List Nat → List AV → Nat → AV
  | p :: ps, v :: vs => putAll (put a (some p) v) ps vs
  | _, _ => a

theorem putAll_ok {F : Mem} {N : Nat} : ∀ (ps : List Nat) (vs : List AV) (cs : List Value) (a : Nat → AV) (t : Array Value), t.size = N → (∀ p ∈ ps, p < N) → Vs F vs cs → (∀ s, V F (a s) (t.getD s undef)) →
    ((ps.zip cs).foldl (fun t (p, v) => t.setIfInBounds p v) t).size = N ∧ ∀ s, V F (putAll a ps vs s) (((ps.zip cs).foldl (fun t (p, v) => t.setIfInBounds p v) t).getD s undef)
  | [], vs, cs, a, t, hs, hp, hv, ha => ⟨hs, by simpa only [putAll, List.zip_nil_left, List.foldl_nil] using ha⟩
  | p :: ps, [], cs, a, t, hs, hp, hv, ha => by
    rw [hv.nil_inv]; exact ⟨hs, by simpa only [putAll, List.zip_nil_right, List.foldl_nil] using ha⟩
  | p :: ps, v :: vs, cs, a, t, hs, hp, hv, ha => by
    obtain ⟨c, cs', rfl, h1, h2⟩ := hv.cons_inv
    simp only [List.zip_cons_cons, List.foldl_cons, putAll]
    refine putAll_ok ps vs cs' _ _ (by simp [hs]) (fun q hq => hp q (by simp [hq])) h2 (fun s => ?_)
    rw [put_some]
    split
    · rename_i e; subst e
      have := hp s (by simp)
      simp [Array.getD, hs, this]; exact h1
    · rename_i e
      have : (t.setIfInBounds p c).getD s undef = t.getD s undef := by
        simp [Array.getD_eq_getD_getElem?, Array.getElem?_setIfInBounds_ne (Ne.symm e)]
      rw [this]; exact ha s

/-- how a round's body is left -/
def roundQ (I : Heap → Prop) (Ix : Exit → Heap → Prop) : Post
  | .normal, _, H => I H
  | .ret, _, H => Ix .ret H
  | .exit id, _, H => Ix (.exit id) H
  | _, _, _ => False

theorem AW_range {P : Program} {N : Nat} {a : Nat → AV} {H : Heap} {Q : Post} {g : Operand} {ps : Array Tmp} {assign body : Code} {gf : FuncId} {caps : List AV} {xs : List (List AV)} {A B : Heap} {S Sp : Heap → Prop}
    (hg : ev a g = .f (.func gf) [] caps) (hit : AIter P gf caps xs A S Sp) (hap : Apart A B) (hH : Heap.le (join A B) H) (hps : ∀ x ∈ xs, x.length = ps.size) (hpN : ∀ p ∈ ps.toList, p < N)
    (I : Nat → Heap → Prop) (Ix : Exit → Heap → Prop) (h0 : I 0 B)
    (round : ∀ k (h : k < xs.length) B1, I k B1 → AW P N assign (putAll a ps.toList xs[k]) B1 (thenA (fun a1 B2 => AW P N body a1 B2 (roundQ (I (k + 1)) Ix)) (fun _ _ _ => False)))
    (done : ∀ A' B', Apart A' B' → S A' → I xs.length B' → Q .normal a (join A' B'))
    (stop : ∀ e A' B', Apart A' B' → Sp A' → Ix e B' → Q e a (join A' B')) : AW P N (.rangeFunc g ps assign body) a H Q := by
  intro Fe n hF lo F w act hr
  refine wpIn_rangeFunc ?_
  intro fn hfn
  -- the record and the mark
  obtain ⟨l, mk, dD, W1, hent, hsz, hll, hrec, hold, hos, htp, hou, hmk⟩ : ∃ (l : Nat) (mk : List Deferred) (dD : Nat) (W1 : World),
      (Instr.enterLoop fn act.tmps ps assign body Fe.round).run P w = .ok (l, mk) W1 ∧ w.heap.size ≤ W1.heap.size ∧ w.heap.size ≤ l ∧
      W1.heap[l]? = some (.loop { state := .ready, pending := none, fn, tmps := act.tmps, params := ps, assign, body, defers := dD }) ∧ (∀ k, k < w.heap.size → W1.heap[k]? = w.heap[k]?) ∧ W1.os = w.os ∧ W1.tape = w.tape ∧ W1.output = w.output ∧
      (mk = [] ∨ ∃ D, mk = [mark D] ∧ w.heap.size ≤ D ∧ D ≠ l ∧ W1.heap[D]? = some (.deferred (some []))) := by
    rcases hF with rfl | ⟨l0, rfl⟩
    · refine ⟨_, _, w.heap.size, _, run_enterLoop_outer fn act.tmps ps assign body, by simp; omega, by omega, ?_, ?_, rfl, rfl, rfl, .inr ⟨w.heap.size, rfl, Nat.le_refl _, by omega, ?_⟩⟩
      · have := World.alloc_heap_new (w.alloc (.deferred (some []))) (.loop { state := .ready, pending := none, fn, tmps := act.tmps, params := ps, assign, body, defers := w.heap.size }); rwa [World.size_alloc] at this
      · intro k hk
        exact (Below.heap_alloc _ _ _ (by simp; omega)).trans (Below.heap_alloc w _ k hk)
      · exact (Below.heap_alloc _ _ _ (by simp)).trans (World.alloc_heap_new w _)
    · obtain ⟨⟨r0, hl0⟩, _⟩ := hr.rnd l0 rfl
      exact ⟨_, _, _, _, run_enterLoop_inner hl0 fn act.tmps ps assign body, by simp, Nat.le_refl _, World.alloc_heap_new w _, fun k hk => Below.heap_alloc w _ k hk, rfl, rfl, rfl, .inl rfl⟩
  obtain ⟨rec, hrc⟩ : ∃ rec : LoopState → Option Code → Loop, rec = fun st pe => { state := st, pending := pe, fn, tmps := act.tmps, params := ps, assign, body, defers := dD } := ⟨_, rfl⟩
  have hrec1 : W1.heap[l]? = some (.loop (rec .ready none)) := by rw [hrc]; exact hrec
  clear hrec
  have hgv := hr.vf.ev g
  rw [hg] at hgv
  obtain ⟨cs, ds, hgl, hcs, hds⟩ := hgv.f_inv
  obtain rfl : cs = #[] := by
    have := hcs.nil_inv
    exact Array.toList_eq_nil_iff.1 this
  have hHl : ∀ k, w.heap.size ≤ k → H k = none := fun k hk => hr.sat.fresh hk
  have hjn : ∀ k, H k = none → A k = none ∧ B k = none := fun k hk => by
    refine join_none_iff.1 ?_
    cases hx : join A B k with
    | none => rfl
    | some y => rw [hH k y hx] at hk; cases hk
  obtain ⟨hAl, hBl⟩ := hjn l (hHl l hll)
  have sat0 : Sat F (join A B) W1 := by
    have h1 := hr.sat.less hH
    refine ⟨fun b o v hb => ?_, h1.off, fun m k hk => (h1.blk m k hk).heap (hold m (h1.lt hk))⟩
    have := h1.mem b o v hb
    rw [← this]; exact World.cell?_of_block (hold b (cell_lt this))
  obtain ⟨kR, hkR⟩ : ∃ kR : Blk, kR = .m (.loop (rec .ready none)) F := ⟨_, rfl⟩
  have sat1 : Sat F (join A (upd B l kR)) W1 := by
    have := sat0.updm hrec1 rfl (join_none_iff.2 ⟨hAl, hBl⟩) (Mem.le.refl F)
    rw [← hkR] at this
    have e : upd (join A B) l kR = join A (upd B l kR) := by
      funext m; unfold upd join
      by_cases em : m = l
      · subst em; simp [hAl]
      · simp [em]
    rwa [e] at this
  have hap1 : Apart A (upd B l kR) := fun m => by
    by_cases em : m = l
    · subst em; exact .inl hAl
    · rw [upd_ne em]; exact hap m
  have code : ∀ e : Exit, (∃ c, (e = .ret ∧ c = Code.ret) ∨ (∃ id, e = .exit id ∧ c = Code.exit id)) → True := fun _ _ => trivial
  refine ⟨l, mk, W1, { target := .fn (.func gf) ds, args := #[.func (.yield l) #[] #[]] }, W1, gf, #[.func (.yield l) #[] #[]] ++ ds, W1, hent, ?_, fun _ _ => hF.fn _, ?_, fun hx => (by rw [hF.depth] at hx; cases hx), ?_⟩
  · simp only [resolve, hgl]
    simp [go_sem]
  · simp [invoke, go_sem, hit.1 _ _]
  -- the iterator
  obtain ⟨J, hJ⟩ : ∃ J : Nat → Heap → Prop, J = fun k B' => ∃ B0, B' = upd B0 l kR ∧ B0 l = none ∧ I k B0 := ⟨_, rfl⟩
  obtain ⟨Jx, hJx⟩ : ∃ Jx : Heap → Prop, Jx = fun B' => ∃ B0 c e, B' = upd B0 l (.m (.loop (rec .done (some c))) F) ∧ B0 l = none ∧ ((e = Exit.ret ∧ c = Code.ret) ∨ ∃ id, e = Exit.exit id ∧ c = Code.exit id) ∧ Ix e B0 := ⟨_, rfl⟩
  have rounds : ∀ k (h : k < xs.length) B', J k B' → AYield P l xs[k] B' (fun b B' => (b = true ∧ J (k + 1) B') ∨ (b = false ∧ Jx B')) := by
    intro k hk B' hB'
    rw [hJ] at hB'
    obtain ⟨B0, rfl, hB0, hI⟩ := hB'
    intro F1 w1 vs hvs hs1
    have hb := hs1.blk l kR (upd_same _ _ _)
    rw [hkR] at hb
    obtain ⟨hl1, hFF⟩ := hb
    have hlen : vs.toArray.size = (rec .ready none).params.size := by
      have h1 := hvs.1
      have h2 := hps _ (List.getElem_mem hk)
      rw [hrc]; simp; omega
    have hy := run_yield (P := P) (args := vs.toArray) hl1 hlen
    refine ⟨_, _, _, _, hy, roundIn_of_wpIn trivial ?_⟩
    have hsB : Sat F1 B0 w1 := hs1.less (le_upd_new hB0)
    obtain ⟨p1, p2⟩ := putAll_ok (F := F1) (N := N) ps.toList xs[k] vs a act.tmps hr.size hpN hvs (fun s => (hr.vf s).mono hFF)
    have efold : ((rec .ready none).params.zip vs.toArray).foldl (fun tmps (x : Tmp × Value) => tmps.setIfInBounds x.1 x.2) (rec .ready none).tmps = (ps.toList.zip vs).foldl (fun t (x : Nat × Value) => t.setIfInBounds x.1 x.2) act.tmps := by
      rw [hrc]; rw [← Array.foldl_toList]; simp [Array.toList_zip]
    have r1 : Rel F1 ⟨0, (Fence.wide.inRound l).round⟩ N (putAll a ps.toList xs[k]) B0 { tmps := ((rec .ready none).params.zip vs.toArray).foldl (fun tmps (t, x) => tmps.setIfInBounds t x) (rec .ready none).tmps, defers := [] } w1 :=
      ⟨⟨[], rfl, by simp, by simp⟩, Nat.zero_le _, fun l' hl' => by cases hl'; exact ⟨⟨_, hl1⟩, hB0⟩, by rw [← p1, ← efold], fun s => by
        have := p2 s
        rw [← efold] at this
        exact this, hsB⟩
    have hfi : ∀ (q : Loop) , (rec .ready none).assign = assign := fun _ => by rw [hrc]
    have hA1 := round k hk B0 hI (Fence.wide.inRound l) 6 (.inr ⟨l, rfl⟩) 0 F1 w1 _ r1
    rw [show (rec .ready none).assign = assign by rw [hrc], show (rec .ready none).body = body by rw [hrc]]
    refine wpIn_mono hA1 ?_
    rintro e a1 wa ⟨F2, av, B1, q1, q2, q3⟩
    cases e with
    | normal =>
      have hla : wa.heap[l]? = some (.loop (rec .ready none)) := (q2.block l (lt_of_get hl1) hB0).trans hl1
      have hB1 : B1 l = none := (q1.rnd l rfl).2
      refine ⟨_, run_beginRound hla (by rw [hrc]), ?_⟩
      have hlb : (wa.putObj l (.loop { rec .ready none with state := .busy })).heap[l]? = some (.loop { rec .ready none with state := .busy }) := World.putObj_heap_same (lt_of_get hla)
      have r2 : Rel F2 ⟨0, (Fence.wide.inRound l).round⟩ N av B1 a1 (wa.putObj l (.loop { rec .ready none with state := .busy })) := by
        obtain ⟨⟨Ds, d1, d2, d3⟩, z2, z3, z4, z5, z6⟩ := q1
        refine ⟨⟨Ds, d1, d2, fun D hD => ?_⟩, by simp, fun l' hl' => by cases hl'; exact ⟨⟨_, hlb⟩, hB1⟩, z4, z5, z6.putm hla hB1 _⟩
        obtain ⟨g1, g2, g3⟩ := d3 D hD
        exact ⟨(World.putObj_heap_other (by rintro rfl; rw [hla] at g1; cases g1)).trans g1, g2, g3⟩
      refine wpIn_mono (q3 (Fence.wide.inRound l) 6 (.inr ⟨l, rfl⟩) 0 F2 _ _ r2) ?_
      rintro e2 a2 w3 ⟨F3, av3, B3, s1, s2, s3⟩
      have hl3 : w3.heap[l]? = some (.loop { rec .ready none with state := .busy }) := (s2.block l (lt_of_get hlb) hB1).trans hlb
      have hB3 : B3 l = none := (s1.rnd l rfl).2
      have hF3 : F.le F3 := (hFF.trans q2.le).trans s2.le
      have fin : ∀ (jump : Option Code), ∃ w4, (Instr.endRound l jump).run P w3 = .ok (.bool jump.isNone) w4 ∧
          Sat F3 (upd B3 l (.m (.loop (rec (if jump.isNone then .ready else .done) jump)) F)) w4 ∧ Ext F1 (upd B0 l kR) w1 F3 (upd B3 l (.m (.loop (rec (if jump.isNone then .ready else .done) jump)) F)) w4 := fun jump => by
        have hend := run_endRound (P := P) jump hl3
        have erec : ({ { rec .ready none with state := .busy } with state := if jump.isNone then .ready else .done, pending := jump } : Loop) = rec (if jump.isNone then .ready else .done) jump := by rw [hrc]
        rw [erec] at hend
        refine ⟨_, hend, (s1.sat.putm hl3 hB3 _).updm (World.putObj_heap_same (lt_of_get hl3)) rfl hB3 hF3, ?_⟩
        exact ((q2.over (l := l) (k := kR) (k' := kR)).trans (Ext.put (k := kR) (k' := kR) _)).trans ((s2.over (l := l) (k := kR) (k' := kR)).trans (Ext.put (k := kR) _))
      have stp : ∀ (e : Exit) (c : Code), ((e = Exit.ret ∧ c = Code.ret) ∨ ∃ id, e = Exit.exit id ∧ c = Code.exit id) → Ix e B3 → ∃ v w', (Instr.endRound l (some c)).run P w3 = .ok v w' ∧
          ∃ b F' H', Ending.returned v = .returned (.bool b) ∧ Sat F' H' w' ∧ Ext F1 (upd B0 l kR) w1 F' H' w' ∧ ((b = true ∧ J (k + 1) H') ∨ (b = false ∧ Jx H')) := fun e c hec hix => by
        obtain ⟨w4, f1, f2, f3⟩ := fin (some c)
        exact ⟨_, w4, f1, false, F3, _, rfl, f2, f3, .inr ⟨rfl, by rw [hJx]; exact ⟨B3, c, e, rfl, hB3, hec, hix⟩⟩⟩
      cases e2 with
      | normal =>
        obtain ⟨w4, f1, f2, f3⟩ := fin none
        refine ⟨_, w4, f1, true, F3, _, rfl, f2, f3, .inl ⟨rfl, ?_⟩⟩
        rw [hJ]
        exact ⟨B3, by rw [hkR]; rfl, hB3, s3⟩
      | ret => exact stp .ret .ret (.inl ⟨rfl, rfl⟩) s3
      | exit id => exact stp (.exit id) (.exit id) (.inr ⟨id, rfl, rfl⟩) s3
      | _ => exact s3.elim
    | _ => exact q3.elim
  have hcall := hit.2 l J Jx rounds (upd B l kR) hap1 (by rw [hJ]; exact ⟨B, rfl, hBl, h0⟩)
  have hvs : Vs F (.c (.func (.yield l) #[] #[]) :: caps) (.func (.yield l) #[] #[] :: ds.toList) := Vs.cons (.c _) hds
  have hc := hcall.2 F W1 _ hvs sat1
  rw [show (Value.func (.yield l) #[] #[] :: ds.toList).toArray = #[.func (.yield l) #[] #[]] ++ ds by apply Array.ext'; simp] at hc
  refine (hF.calls hc).mono ?_
  rintro e w3 ⟨v, F', H', r, rfl, v1, v2, v3, A', B', rfl, v4, v5⟩
  have hold3 : ∀ m, m < w.heap.size → H m = none → w3.heap[m]? = w.heap[m]? := fun m hm hHm => by
    refine (v3.block m (by omega) ?_).trans (hold m hm)
    obtain ⟨g1, g2⟩ := hjn m hHm
    exact join_none_iff.2 ⟨g1, by rw [upd_ne (by omega)]; exact g2⟩
  have goOn : ∀ (B0 : Heap) (lr : Loop) (M : Mem), B' = upd B0 l (.m (.loop lr) M) → B0 l = none → lr.state ≠ .busy → ∃ w4, (Instr.endLoop l).run P w3 = .ok lr.pending w4 ∧ Apart A' B0 ∧
      Rel F' ⟨lo, Fe.round⟩ N a (join A' B0) { act with defers := mk ++ act.defers } w4 ∧ Ext F H w F' (join A' B0) w4 := by
    rintro B0 lr M rfl hB0 hst
    have hA' : A' l = none := by
      rcases v4 l with g | g
      · exact g
      · rw [upd_same] at g; cases g
    have hl3 : w3.heap[l]? = some (.loop lr) := (v2.blk l (.m (.loop lr) M) (by unfold join; rw [hA', upd_same]; rfl)).1
    have hle : Heap.le (join A' B0) (join A' (upd B0 l (.m (.loop lr) M))) := fun m x hx => by
      unfold join at hx ⊢
      cases hm : A' m with
      | some y => rw [hm] at hx; exact hx
      | none =>
        rw [hm] at hx
        simp only [Option.none_or] at hx ⊢
        rw [upd_ne (by rintro rfl; rw [hB0] at hx; cases hx)]; exact hx
    have hjl : join A' B0 l = none := join_none_iff.2 ⟨hA', hB0⟩
    have hap0 : Apart A' B0 := fun m => by
      rcases v4 m with g | g
      · exact .inl g
      · exact .inr (upd_none.1 g).2
    have hs4 := (v2.less hle).putm hl3 hjl (.loop { lr with state := .exhausted })
    have hnew : ∀ m x, join A' B0 m = some x → H m ≠ none ∨ w.heap.size ≤ m := fun m x hx => by
      rcases v3.new m x (hle m x hx) with g | g
      · cases hHm : H m with
        | some y => left; simp
        | none =>
          exfalso
          obtain ⟨g1, g2⟩ := hjn m hHm
          refine g (join_none_iff.2 ⟨g1, ?_⟩)
          rw [upd_ne (by rintro rfl; rw [hjl] at hx; cases hx)]; exact g2
      · right; omega
    have hext : Ext F H w F' (join A' B0) (w3.putObj l (.loop { lr with state := .exhausted })) := by
      refine ⟨v3.os.trans hos, v3.tape.trans htp, v3.output.trans hou, by have := v3.size; simp; omega, fun m hm hHm => ?_, hnew, v3.le, fun b o v hv => ?_⟩
      · exact (World.putObj_heap_other (by omega)).trans (hold3 m hm hHm)
      · rcases v3.frz b o v hv with g | g | g
        · exact .inl g
        · by_cases hbl : b = l
          · subst hbl; exact .inr (.inr hll)
          · right; left
            intro hHb
            obtain ⟨g1, g2⟩ := hjn b hHb
            exact g (join_none_iff.2 ⟨g1, by rw [upd_ne hbl]; exact g2⟩)
        · right; right; omega
    refine ⟨_, run_endLoop hl3 hst, hap0, ?_, hext⟩
    obtain ⟨⟨Ds, d1, d2, d3⟩, z2, z3, z4, z5, z6⟩ := hr
    have hnone : ∀ m, m < w.heap.size → H m = none → join A' B0 m = none := fun m hm hHm => by
      cases hx : join A' B0 m with
      | none => rfl
      | some x =>
        rcases hnew m x hx with g | g
        · exact absurd hHm g
        · omega
    have old : ∀ D ∈ Ds, (w3.putObj l (.loop { lr with state := .exhausted })).heap[D]? = some (.deferred (some [])) ∧ join A' B0 D = none ∧ lo ≤ D := fun D hD => by
      obtain ⟨g1, g2, g3⟩ := d3 D hD
      have hlt := lt_of_get g1
      exact ⟨(World.putObj_heap_other (by omega)).trans ((hold3 D hlt g2).trans g1), hnone D hlt g2, g3⟩
    refine ⟨?_, Nat.le_trans z2 hext.size, fun l' hl' => ?_, z4, fun s => (z5 s).mono v3.le, hs4⟩
    · rcases hmk with rfl | ⟨D, rfl, m1, m2, m3⟩
      · exact ⟨Ds, by simpa using d1, d2, old⟩
      · have hDn : join A (upd B l kR) D = none := by
          obtain ⟨g1, g2⟩ := hjn D (hHl D m1)
          exact join_none_iff.2 ⟨g1, by rw [upd_ne m2]; exact g2⟩
        have hD3 : w3.heap[D]? = some (.deferred (some [])) := (v3.block D (lt_of_get m3) hDn).trans m3
        have hDj : join A' B0 D = none := by
          cases hx : join A' B0 D with
          | none => rfl
          | some x =>
            rcases v3.new D x (hle D x hx) with g | g
            · exact absurd hDn g
            · have := lt_of_get m3; omega
        refine ⟨D :: Ds, by simp [d1], List.nodup_cons.2 ⟨fun hm => ?_, d2⟩, fun D' hD' => ?_⟩
        · have := lt_of_get (d3 D hm).1; omega
        · rcases List.mem_cons.1 hD' with rfl | hD'
          · exact ⟨(World.putObj_heap_other m2).trans hD3, hDj, Nat.le_trans z2 m1⟩
          · exact old D' hD'
    · obtain ⟨⟨r, g1⟩, g2⟩ := z3 l' hl'
      have hlt := lt_of_get g1
      exact ⟨⟨r, (World.putObj_heap_other (by omega)).trans ((hold3 l' hlt g2).trans g1)⟩, hnone l' hlt g2⟩
  rcases v5 with ⟨u1, u2⟩ | ⟨u1, u2⟩
  · rw [hJ] at u2
    obtain ⟨B0, e0, hB0, hI⟩ := u2
    rw [hkR] at e0
    obtain ⟨w4, g1, g2, g3, g4⟩ := goOn B0 _ F e0 hB0 (by rw [hrc]; simp)
    refine ⟨none, w4, by rw [g1, hrc], ?_⟩
    exact ⟨F', a, _, g3, g4, done A' B0 g2 u1 hI⟩
  · rw [hJx] at u2
    obtain ⟨B0, c, e, e0, hB0, hec, hix⟩ := u2
    obtain ⟨w4, g1, g2, g3, g4⟩ := goOn B0 _ F e0 hB0 (by rw [hrc]; simp)
    refine ⟨some c, w4, by rw [g1, hrc], ?_⟩
    have hq := stop e A' B0 g2 u1 hix
    rcases hec with ⟨rfl, rfl⟩ | ⟨id, rfl, rfl⟩
    · exact wpIn_ret ⟨F', a, _, g3, g4, hq⟩
    · exact wpIn_exit ⟨F', a, _, g3, g4, hq⟩
end Go.Proofs.Yteoepeionomjlaa
