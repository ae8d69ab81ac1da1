/- Code: sequences, tests, blocks, loops; a function's contract from its body. -/
import Derived.Test.YteoepeionomjlaaM10
import Derived.RangeFuncRecord
namespace Go.Proofs.Yteoepeionomjlaa
open Go.RowKit
set_option linter.unusedVariables false
set_option linter.unusedSimpArgs false
set_option linter.constructorNameAsVariable false

abbrev Post := Exit → (Nat → AV) → Heap → Prop

/-- What a piece of code comes to. -/
def AW (P : Program) (N : Nat) (c : Code) (a : Nat → AV) (H : Heap) (Q : Post) : Prop :=
  ∀ (Fe : Fence) (n : Nat), Wide Fe → ∀ (lo : Nat) (F : Mem) (w : World) (act : Act), Rel F ⟨lo, Fe.round⟩ N a H act w →
    c.wpIn Fe n P (fun e act' w' => ∃ F' a' H', Rel F' ⟨lo, Fe.round⟩ N a' H' act' w' ∧ Ext F H w F' H' w' ∧ Q e a' H') act w

section
variable {P : Program} {N : Nat} {a : Nat → AV} {H : Heap} {Q : Post}

theorem AW.mono {c : Code} {Q' : Post} (h : AW P N c a H Q) (hq : ∀ e a H, Q e a H → Q' e a H) : AW P N c a H Q' :=
  fun Fe n hF B F w act hr => wpIn_mono (h Fe n hF B F w act hr) fun e a' w' ⟨F', b, H', h1, h2, h3⟩ => ⟨F', b, H', h1, h2, hq _ _ _ h3⟩

theorem AW_skip (h : Q .normal a H) : AW P N .skip a H Q := fun Fe n hF B F w act hr => wpIn_skip ⟨F, a, H, hr, Ext.refl _ _ _, h⟩
theorem AW_ret (h : Q .ret a H) : AW P N .ret a H Q := fun Fe n hF B F w act hr => wpIn_ret ⟨F, a, H, hr, Ext.refl _ _ _, h⟩
theorem AW_exit {id : Nat} (h : Q (.exit id) a H) : AW P N (.exit id) a H Q := fun Fe n hF B F w act hr => wpIn_exit ⟨F, a, H, hr, Ext.refl _ _ _, h⟩

def thenA (K : (Nat → AV) → Heap → Prop) (Q : Post) : Post
  | .normal, a, H => K a H
  | e, a, H => Q e a H

theorem AW_seq {x y : Code} (h : AW P N x a H (thenA (fun a' H' => AW P N y a' H' Q) Q)) : AW P N (.seq x y) a H Q :=
  fun Fe n hF B F w act hr => wpIn_seq (wpIn_mono (h Fe n hF B F w act hr) fun e act' w' ⟨F', a', H', h1, h2, h3⟩ => by
    cases e with
    | normal => exact wpIn_mono (h3 Fe n hF B F' w' act' h1) fun e2 act2 w2 ⟨F2, a2, H2, g1, g2, g3⟩ => ⟨F2, a2, H2, g1, h2.trans g2, g3⟩
    | _ => exact ⟨F', a', H', h1, h2, h3⟩)

theorem AW_seq_k {x y : Code} (h : ∀ K : (Nat → AV) → Heap → Prop, (∀ a H, AW P N y a H Q → K a H) → AW P N x a H (thenA K Q)) : AW P N (.seq x y) a H Q :=
  AW_seq (h _ fun _ _ h => h)

theorem AW_cond {c : Operand} {x y : Code} {b : Bool} (hc : ev a c = .c (.bool b)) (ht : b = true → AW P N x a H Q) (hf : b = false → AW P N y a H Q) : AW P N (.cond c x y) a H Q :=
  fun Fe n hF B F w act hr => wpIn_cond_split (hr.vf.c hc) (fun e => ht e Fe n hF B F w act hr) (fun e => hf e Fe n hF B F w act hr)

def blkA (id : Nat) (Q : Post) : Post
  | .exit i, a, H => if i = id then Q .normal a H else Q (.exit i) a H
  | e, a, H => Q e a H

theorem AW_block {id : Nat} {c : Code} (h : AW P N c a H (blkA id Q)) : AW P N (.block id c) a H Q :=
  fun Fe n hF B F w act hr => wpIn_block (wpIn_mono (h Fe n hF B F w act hr) fun e act' w' ⟨F', a', H', h1, h2, h3⟩ => by
    cases e with
    | exit i =>
      simp only [Exit.inBlock]
      simp only [blkA] at h3
      split
      · rename_i e; rw [if_pos e] at h3; exact ⟨F', a', H', h1, h2, h3⟩
      · rename_i e; rw [if_neg e] at h3; exact ⟨F', a', H', h1, h2, h3⟩
    | _ => exact ⟨F', a', H', h1, h2, h3⟩)

theorem AW_region (E : Env P) {id : Nat} {ops : List Oper} (h : ER E N ops.toArray ops a H (fun a' H' => Q .normal a' H')) : AW P N (.region id ops.toArray false) a H Q :=
  fun Fe n hF B F w act hr => wpIn_region_lit (ER_ok E hF (fun act' w' ⟨F', a', H', h1, h2, h3⟩ => ⟨F', a', H', h1, h2, h3⟩) ops a F H w act h hr (Ext.refl _ _ _))

theorem wpIn_loop_ghost {σ : Type} {Fe : Fence} {n : Nat} {c : Code} {Qr : Exit → Act → World → Prop} (I : σ → Act → World → Prop) (μ : σ → Nat) {s : σ} {act : Act} {w : World} (h0 : I s act w)
    (round : ∀ s act w, I s act w → c.wpIn Fe n P (Exit.then (fun a' w' => ∃ s', I s' a' w' ∧ μ s' < μ s) Qr) act w) : (Code.loop c).wpIn Fe n P Qr act w := by
  classical
  have least : ∀ (p : Nat → Prop) (k : Nat), p k → ∃ m, p m ∧ ∀ j, p j → m ≤ j := by
    intro p k
    induction k using Nat.strongRecOn with
    | _ k ih =>
      intro hk
      by_cases hlt : ∃ j, j < k ∧ p j
      · obtain ⟨j, h1, h2⟩ := hlt
        exact ih j h1 h2
      · exact ⟨k, hk, fun j hj => Nat.le_of_not_lt fun h => hlt ⟨j, h, hj⟩⟩
  have ex : ∀ act w, (∃ s, I s act w) → ∃ m, (∃ s, I s act w ∧ μ s = m) ∧ ∀ j, (∃ s, I s act w ∧ μ s = j) → m ≤ j := fun act w ⟨s, h⟩ => least _ (μ s) ⟨s, h, rfl⟩
  refine wpIn_loop (fun act w => ∃ s, I s act w) (fun act w => if h : ∃ s, I s act w then Classical.choose (ex act w h) else 0) ⟨s, h0⟩ ?_
  intro act w hI
  obtain ⟨⟨s1, h1, h2⟩, hmin⟩ := Classical.choose_spec (ex act w hI)
  refine wpIn_mono (round s1 act w h1) ?_
  intro e a' w' hq
  cases e with
  | normal =>
    obtain ⟨s', h3, h4⟩ := hq
    have hI' : ∃ s, I s a' w' := ⟨s', h3⟩
    refine ⟨hI', ?_⟩
    show (if h : ∃ s, I s a' w' then Classical.choose (ex a' w' h) else 0) < (if h : ∃ s, I s act w then Classical.choose (ex act w h) else 0)
    rw [dif_pos hI, dif_pos hI', ← h2]
    exact Nat.lt_of_le_of_lt ((Classical.choose_spec (ex a' w' hI')).2 _ ⟨s', h3, rfl⟩) h4
  | _ => exact hq

theorem AW_loop {c : Code} (I : (Nat → AV) → Heap → Prop) (μ : (Nat → AV) → Heap → Nat) (h0 : I a H)
    (round : ∀ a H, I a H → AW P N c a H (thenA (fun a' H' => I a' H' ∧ μ a' H' < μ a H) Q)) : AW P N (.loop c) a H Q := by
  intro Fe n hF B F w act hr
  refine wpIn_loop_ghost (σ := Mem × (Nat → AV) × Heap) (fun s act' w' => Rel s.1 ⟨B, Fe.round⟩ N s.2.1 s.2.2 act' w' ∧ Ext F H w s.1 s.2.2 w' ∧ I s.2.1 s.2.2) (fun s => μ s.2.1 s.2.2) (s := (F, a, H)) ⟨hr, Ext.refl _ _ _, h0⟩ ?_
  rintro ⟨F1, a1, H1⟩ act1 w1 ⟨r1, e1, i1⟩
  refine wpIn_mono (round a1 H1 i1 Fe n hF B F1 w1 act1 r1) ?_
  rintro e act' w' ⟨F', a', H', h1, h2, h3⟩
  cases e with
  | normal => exact ⟨(F', a', H'), ⟨h1, e1.trans h2, h3.1⟩, h3.2⟩
  | _ => exact ⟨F', a', H', h1, e1.trans h2, h3⟩

theorem AW_less {c : Code} {H2 : Heap} (hl : Heap.le H2 H) (h : AW P N c a H2 Q) : AW P N c a H Q := by
  intro Fe n hF B F w act hr
  have hn : ∀ m, H m = none → H2 m = none := fun m hm => by
    cases hk : H2 m with
    | none => rfl
    | some k => rw [hl m k hk] at hm; cases hm
  obtain ⟨Ds, d1, d2, d3⟩ := hr.dfr
  refine wpIn_mono (h Fe n hF B F w act ⟨⟨Ds, d1, d2, fun D hD => ⟨(d3 D hD).1, hn D (d3 D hD).2.1, (d3 D hD).2.2⟩⟩, hr.low, fun l hl => ⟨(hr.rnd l hl).1, hn l (hr.rnd l hl).2⟩, hr.size, hr.vf, hr.sat.less hl⟩) ?_
  rintro e act' w' ⟨F', a', H', h1, h2, h3⟩
  refine ⟨F', a', H', h1, ⟨h2.os, h2.tape, h2.output, h2.size, fun m hm hH => h2.block m hm (hn m hH), fun m k hk => ?_, h2.le, fun b o v hv => ?_⟩, h3⟩
  · rcases h2.new m k hk with g | g
    · left; intro e; exact g (hn m e)
    · exact .inr g
  · rcases h2.frz b o v hv with g | g | g
    · exact .inl g
    · right; left; intro e; exact g (hn b e)
    · exact .inr (.inr g)

/-- slots are forgotten -/
theorem AW_havoc {c : Code} {a2 : Nat → AV} (hl : ∀ t, a2 t = a t ∨ a2 t = .x) (h : AW P N c a2 H Q) : AW P N c a H Q :=
  fun Fe n hF B F w act hr => h Fe n hF B F w act ⟨hr.dfr, hr.low, hr.rnd, hr.size, fun t => by
    rcases hl t with e | e
    · rw [e]; exact hr.vf t
    · rw [e]; exact .x _, hr.sat⟩

/-! results -/
def resV (P : Program) (a : Nat → AV) (H : Heap) : ResultVar → Option AV
  | .tmp t => some (a t)
  | .cell t ty => ldV P H ty (a t)
def resL (P : Program) (a : Nat → AV) (H : Heap) : List ResultVar → Option (List AV)
  | [] => some []
  | r :: rs => match resV P a H r, resL P a H rs with | some x, some xs => some (x :: xs) | _, _ => none
def oneV : List AV → AV
  | [x] => x
  | xs => .t xs

theorem ldV_ok {F : Mem} {w : World} (hs : Sat F H w) {t : TypeId} {x r : AV} {v : Value} (hv : V F x v) (h : ldV P H t x = some r) : ∃ ad u, v = .pointer (some ad) ∧ (loadVar t ad).run P w = .ok u w ∧ V F r u := by
  have key : ∀ (ad : Addr) (u : Value), (Instr.loadAt t (.pointer (some ad))).run P w = .ok u w → (loadVar t ad).run P w = .ok u w := fun ad u h => by
    simpa [Instr.loadAt, Instr.sureAddr, Sem.run_bind] using h
  unfold ldV at h
  split at h
  · rename_i n sz i j
    split at h
    · rename_i ty sz' cap rows hH
      split at h
      · rename_i e ag k he hA hS
        split at h
        · rename_i hc; obtain ⟨rfl, c2, c3⟩ := hc
          cases h
          obtain ⟨u, h2, h3⟩ := (hs.reads hH he).load (P := P) hA hS c2 c3
          exact ⟨_, u, hv.p_inv, key _ _ h2, h3⟩
        · cases h
      · cases h
    · cases h
  · rename_i e j
    split at h
    · rename_i ag k hA hS
      split at h
      · rename_i hc
        cases h
        obtain ⟨b, off, e1, hr⟩ := hv.reads hs
        obtain ⟨u, h2, h3⟩ := hr.load (P := P) hA hS hc.1 hc.2
        exact ⟨_, u, e1, key _ _ h2, h3⟩
      · cases h
    · cases h
  · cases h

def resS (tmps : Array Value) : ResultVar → Sem Value
  | .tmp t => pure (tmps.getD t undef)
  | .cell a t => do loadVar t (← asAddr (tmps.getD a undef))

theorem resL_ok {F : Mem} {w : World} {act : Act} (hs : Sat F H w) (hv : Va F a act) : ∀ (rs : List ResultVar) (xs : List AV), resL P a H rs = some xs →
    ∃ vs, (rs.mapM (resS act.tmps)).run P w = .ok vs w ∧ Vs F xs vs
  | [], xs, h => by simp [resL] at h; subst h; exact ⟨[], by simp [Sem.run_pure], Vs.nil F⟩
  | r :: rs, xs, h => by
    simp only [resL] at h
    split at h
    · rename_i x ys h1 h2
      cases h
      obtain ⟨vs, g1, g2⟩ := resL_ok hs hv rs ys h2
      cases r with
      | tmp t =>
        simp [resV] at h1; subst h1
        refine ⟨act.tmps.getD t undef :: vs, ?_, Vs.cons (hv t) g2⟩
        rw [List.mapM_cons]
        simp only [resS, Sem.run_bind, Sem.run_pure, Result.andThen_ok, g1]
      | cell t ty =>
        simp only [resV] at h1
        obtain ⟨ad, u, e1, e2, e3⟩ := ldV_ok hs (hv t) h1
        refine ⟨u :: vs, ?_, Vs.cons e3 g2⟩
        rw [List.mapM_cons]
        simp only [resS, e1, asAddr, Sem.run_bind, Sem.run_pure, Result.andThen_ok, e2, g1]
    · cases h

theorem results_ok {F : Mem} {w : World} {act : Act} (hs : Sat F H w) (hv : Va F a act) {fn : Func} {xs : List AV} (h : resL P a H fn.results.toList = some xs) : ∃ v, (results fn act.tmps).run P w = .ok v w ∧ V F (oneV xs) v := by
  obtain ⟨vs, h1, h2⟩ := resL_ok hs hv _ _ h
  have hm : (fn.results.mapM (resS act.tmps)).run P w = .ok vs.toArray w := by
    rw [Array.mapM_eq_mapM_toList]
    show (do let x ← fn.results.toList.mapM _; pure x.toArray : Sem (Array Value)).run P w = _
    simp only [Sem.run_bind, h1, Result.andThen_ok, Sem.run_pure]
  refine ⟨if h : vs.toArray.size = 1 then vs.toArray[0] else .tuple vs.toArray, ?_, ?_⟩
  · have e : results fn act.tmps = (do let vs ← fn.results.mapM (resS act.tmps); pure (if h : vs.size = 1 then vs[0] else .tuple vs)) := by
      unfold results
      congr 1
    rw [e, Sem.run_bind, hm]
    simp only [Result.andThen_ok, Sem.run_pure]
  · match xs, vs, h2 with
    | [], vs, h2 => rw [h2.nil_inv]; exact V.t_of (by simpa using Vs.nil F)
    | [x], vs, h2 =>
      obtain ⟨v, vs', rfl, g1, g2⟩ := h2.cons_inv
      rw [g2.nil_inv]
      simpa [oneV] using g1
    | x :: y :: xs, vs, h2 =>
      have : ¬ vs.toArray.size = 1 := by have := h2.1; simp at this ⊢; omega
      rw [dif_neg this]
      exact V.t_of (by simpa using h2)

def retQ (P : Program) (rs : List ResultVar) (R : AV → Heap → Prop) : Post := fun e a H =>
  (e = .normal ∨ e = .ret) ∧ match resL P a H rs with | some xs => R (oneV xs) H | none => False

def ini (args : List AV) : Nat → AV := fun t => args.getD t .x

/-- the marks of loops are taken off -/
theorem leaves_marks {fn : Func} {tmps : Array Value} {R : Ending → World → Prop} {Fe : Fence} {n : Nat} : ∀ (Ds : List Nat) (w : World), Ds.Nodup → (∀ D ∈ Ds, w.heap[D]? = some (.deferred (some []))) →
    (∀ w', w'.os = w.os → w'.tape = w.tape → w'.output = w.output → w'.heap.size = w.heap.size → (∀ k, k ∉ Ds → w'.heap[k]? = w.heap[k]?) → ∃ v, (results fn tmps).run P w' = .ok v w' ∧ R (.returned v) w') →
    LeavesInM Fe n P fn tmps R (Ds.map mark) .returning w
  | [], w, _, _, h => by
    obtain ⟨v, h1, h2⟩ := h w rfl rfl rfl rfl (fun _ _ => rfl)
    exact ⟨v, h1, h2⟩
  | D :: Ds, w, hn, hD, h => by
    have h1 := run_takeDeferred (P := P) (hD D (by simp))
    rw [List.nodup_cons] at hn
    refine ⟨by simp, .inl ⟨D, _, rfl, h1, ?_⟩⟩
    refine leaves_marks Ds _ hn.2 (fun D' hD' => ?_) ?_
    · have hne : D' ≠ D := by rintro rfl; exact hn.1 hD'
      exact (World.putObj_heap_other hne).trans (hD D' (by simp [hD']))
    · intro w' e1 e2 e3 e4 e5
      refine h w' e1 e2 e3 (by rw [e4]; simp) (fun k hk => ?_)
      simp only [List.mem_cons, not_or] at hk
      rw [e5 k hk.2]
      exact World.putObj_heap_other hk.1

theorem ACall_of {f : FuncId} {fn : Func} {c : Code} {args : List AV} {R : AV → Heap → Prop} (hf : P.funcs[f]? = some fn) (hb : fn.body = some c) (hen : Ent P f) (hl : args.length ≤ fn.ntmps)
    (h : AW P fn.ntmps c (ini args) H (retQ P fn.results.toList R)) : ACall P f args H R := by
  refine ⟨hen, fun F w cs hv hs => ?_⟩
  refine callsIn_wide.1 (callsIn_of_wp_marks (n := 8) hf hb trivial ?_)
  have hsz : (cs.toArray ++ Array.replicate (fn.ntmps - cs.toArray.size) undef).size = fn.ntmps := by
    have := hv.1; simp; omega
  have hr : Rel F ⟨w.heap.size, Fence.wide.round⟩ fn.ntmps (ini args) H { tmps := cs.toArray ++ Array.replicate (fn.ntmps - cs.toArray.size) undef, defers := [] } w := by
    refine ⟨⟨[], rfl, by simp, by simp⟩, Nat.le_refl _, fun l hl => (by cases hl), hsz, fun t => ?_, hs⟩
    unfold ini
    by_cases ht : t < args.length
    · have h1 := hv.2 t args[t] (List.getElem?_eq_getElem ht)
      have hl := hv.1
      have : (cs.toArray ++ Array.replicate (fn.ntmps - cs.toArray.size) undef).getD t undef = cs.getD t undef := by
        rw [arr_getD, List.getD_eq_getElem?_getD, List.getD_eq_getElem?_getD]
        simp only [Array.toList_append, List.toList_toArray]
        rw [List.getElem?_append_left (by omega)]
      rw [this, List.getD_eq_getElem?_getD, List.getElem?_eq_getElem ht]
      exact h1
    · rw [List.getD_eq_getElem?_getD, List.getElem?_eq_none (by omega)]
      exact .x _
  refine wpIn_mono (h Fence.wide 8 (.inl rfl) _ F w _ hr) ?_
  rintro e act' w' ⟨F', a', H', h1, h2, h3, h4⟩
  split at h4
  case h_2 => exact h4.elim
  rename_i xs hxs
  have fin : LeavesInM Fence.wide 8 P fn act'.tmps (fun e w' => ∃ v F' H' r, e = .returned v ∧ V F' r v ∧ Sat F' H' w' ∧ Ext F H w F' H' w' ∧ R r H') act'.defers .returning w' := by
    obtain ⟨Ds, d1, d2, d3⟩ := h1.dfr
    rw [d1]
    refine leaves_marks Ds w' d2 (fun D hD => (d3 D hD).1) ?_
    intro w2 e1 e2 e3 e4 e5
    have hcell : ∀ b o v, w'.cell? ⟨b, o, none⟩ = some v → b ∉ Ds := fun b o v hc hb => by
      have := (d3 b hb).1
      simp [World.cell?, this] at hc
    have hs2 : Sat F' H' w2 := ⟨fun b o v hb => by
        have := h1.sat.mem b o v hb
        rw [← this]; exact World.cell?_of_block (e5 b (hcell b o v this)),
      h1.sat.off, fun m k hm => (h1.sat.blk m k hm).heap (e5 m (fun hD => by rw [(d3 m hD).2.1] at hm; cases hm))⟩
    obtain ⟨v, g1, g2⟩ := results_ok (fn := fn) hs2 h1.vf hxs
    refine ⟨v, g1, v, F', H', _, rfl, g2, hs2, ⟨e1.trans h2.os, e2.trans h2.tape, e3.trans h2.output, by rw [e4]; exact h2.size, fun m hm hH => ?_, h2.new, h2.le, h2.frz⟩, h4⟩
    by_cases hD : m ∈ Ds
    · have : w.heap.size ≤ m := (d3 m hD).2.2
      omega
    · rw [e5 m hD]; exact h2.block m hm hH
  rcases h3 with rfl | rfl
  · exact fin
  · exact fin
end
end Go.Proofs.Yteoepeionomjlaa
