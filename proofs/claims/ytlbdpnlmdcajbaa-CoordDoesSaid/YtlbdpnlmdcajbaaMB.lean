/- The words for abstract values and memory (11 to 19). -/
import Derived.Test.YtlbdpnlmdcajbaaMA
import Derived.RangeFuncRecord
import Derived.Shelf.Abstract
import Derived.OrdersIn
import Derived.RangeFuncNested
import Derived.ProofKit
import Derived.OpenShut
import Derived.ShutString
import Derived.ChangeOld
/- Code: sequences, tests, blocks, loops; a function's contract from its body. -/
namespace Go.Proofs.Ytlbdpnlmdcajbaa
open Go.RowKit
set_option linter.unusedVariables false
set_option linter.unusedSimpArgs false
set_option linter.constructorNameAsVariable false

abbrev Post := Exit → (Nat → AV) → Heap → Prop

def AW (P : Program) (N : Nat) (c : Code) (a : Nat → AV) (H : Heap) (Q : Post) : Prop :=
  ∀ (Fe : Fence) (n : Nat), Wide Fe → ∀ (lo : Nat) (F : Mem) (w : World) (act : Act), Rel F ⟨lo, Fe.round⟩ N a H act w →
    c.wpIn Fe n P (fun e act' w' => ∃ F' a' H', Rel F' ⟨lo, Fe.round⟩ N a' H' act' w' ∧ Ext F H w F' H' w' ∧ Q e a' H') act w

section
variable {P : Program} {N : Nat} {a : Nat → AV} {H : Heap} {Q : Post}

theorem AW.mono {c : Code} {Q' : Post} (h : AW P N c a H Q) (hq : ∀ e a H, Q e a H → Q' e a H) : AW P N c a H Q' :=
  fun Fe n hF B F w act hr => wpIn_mono (h Fe n hF B F w act hr) fun e a' w' ⟨F', b, H', h1, h2, h3⟩ => ⟨F', b, H', h1, h2, hq _ _ _ h3⟩

theorem AW_skip (h : Q .normal a H) : AW P N .skip a H Q := fun Fe n hF B F w act hr => wpIn_skip ⟨F, a, H, hr, Ext.refl _ _ _, h⟩
theorem AW_ret (h : Q .ret a H) : AW P N .ret a H Q := fun Fe n hF B F w act hr => wpIn_ret ⟨F, a, H, hr, Ext.refl _ _ _, h⟩
theorem AW_exit {id : Nat} (h : Q (.exit id) a H) : AW P N (.exit id) a H Q := fun Fe n hF B F w act hr => wpIn_exit ⟨F, a, H, hr, Ext.refl _ _ _, h⟩

def thenA (K : (Nat → AV) → Heap → Prop) (Q : Post) : Post
  | .normal, a, H => K a H
  | e, a, H => Q e a H

theorem AW_seq {x y : Code} (h : AW P N x a H (thenA (fun a' H' => AW P N y a' H' Q) Q)) : AW P N (.seq x y) a H Q :=
  fun Fe n hF B F w act hr => wpIn_seq (wpIn_mono (h Fe n hF B F w act hr) fun e act' w' ⟨F', a', H', h1, h2, h3⟩ => by
    cases e with
    | normal => exact wpIn_mono (h3 Fe n hF B F' w' act' h1) fun e2 act2 w2 ⟨F2, a2, H2, g1, g2, g3⟩ => ⟨F2, a2, H2, g1, h2.trans g2, g3⟩
    | _ => exact ⟨F', a', H', h1, h2, h3⟩)

theorem AW_seq_k {x y : Code} (h : ∀ K : (Nat → AV) → Heap → Prop, (∀ a H, AW P N y a H Q → K a H) → AW P N x a H (thenA K Q)) : AW P N (.seq x y) a H Q :=
  AW_seq (h _ fun _ _ h => h)

theorem AW_cond {c : Operand} {x y : Code} {b : Bool} (hc : ev a c = .c (.bool b)) (ht : b = true → AW P N x a H Q) (hf : b = false → AW P N y a H Q) : AW P N (.cond c x y) a H Q :=
  fun Fe n hF B F w act hr => wpIn_cond_split (hr.vf.c hc) (fun e => ht e Fe n hF B F w act hr) (fun e => hf e Fe n hF B F w act hr)

def blkA (id : Nat) (Q : Post) : Post
  | .exit i, a, H => if i = id then Q .normal a H else Q (.exit i) a H
  | e, a, H => Q e a H

theorem AW_block {id : Nat} {c : Code} (h : AW P N c a H (blkA id Q)) : AW P N (.block id c) a H Q :=
  fun Fe n hF B F w act hr => wpIn_block (wpIn_mono (h Fe n hF B F w act hr) fun e act' w' ⟨F', a', H', h1, h2, h3⟩ => by
    cases e with
    | exit i =>
      simp only [Exit.inBlock]
      simp only [blkA] at h3
      split
      · rename_i e; rw [if_pos e] at h3; exact ⟨F', a', H', h1, h2, h3⟩
      · rename_i e; rw [if_neg e] at h3; exact ⟨F', a', H', h1, h2, h3⟩
    | _ => exact ⟨F', a', H', h1, h2, h3⟩)

theorem AW_region (E : Env P) {id : Nat} {ops : List Oper} (h : ER E N ops.toArray ops a H (fun a' H' => Q .normal a' H')) : AW P N (.region id ops.toArray false) a H Q :=
  fun Fe n hF B F w act hr => wpIn_region_lit (ER_ok E hF (fun act' w' ⟨F', a', H', h1, h2, h3⟩ => ⟨F', a', H', h1, h2, h3⟩) ops a F H w act h hr (Ext.refl _ _ _))

theorem wpIn_loop_ghost {σ : Type} {Fe : Fence} {n : Nat} {c : Code} {Qr : Exit → Act → World → Prop} (I : σ → Act → World → Prop) (μ : σ → Nat) {s : σ} {act : Act} {w : World} (h0 : I s act w)
    (round : ∀ s act w, I s act w → c.wpIn Fe n P (Exit.then (fun a' w' => ∃ s', I s' a' w' ∧ μ s' < μ s) Qr) act w) : (Code.loop c).wpIn Fe n P Qr act w := by
  classical
  have least : ∀ (p : Nat → Prop) (k : Nat), p k → ∃ m, p m ∧ ∀ j, p j → m ≤ j := by
    intro p k
    induction k using Nat.strongRecOn with
    | _ k ih =>
      intro hk
      by_cases hlt : ∃ j, j < k ∧ p j
      · obtain ⟨j, h1, h2⟩ := hlt
        exact ih j h1 h2
      · exact ⟨k, hk, fun j hj => Nat.le_of_not_lt fun h => hlt ⟨j, h, hj⟩⟩
  have ex : ∀ act w, (∃ s, I s act w) → ∃ m, (∃ s, I s act w ∧ μ s = m) ∧ ∀ j, (∃ s, I s act w ∧ μ s = j) → m ≤ j := fun act w ⟨s, h⟩ => least _ (μ s) ⟨s, h, rfl⟩
  refine wpIn_loop (fun act w => ∃ s, I s act w) (fun act w => if h : ∃ s, I s act w then Classical.choose (ex act w h) else 0) ⟨s, h0⟩ ?_
  intro act w hI
  obtain ⟨⟨s1, h1, h2⟩, hmin⟩ := Classical.choose_spec (ex act w hI)
  refine wpIn_mono (round s1 act w h1) ?_
  intro e a' w' hq
  cases e with
  | normal =>
    obtain ⟨s', h3, h4⟩ := hq
    have hI' : ∃ s, I s a' w' := ⟨s', h3⟩
    refine ⟨hI', ?_⟩
    show (if h : ∃ s, I s a' w' then Classical.choose (ex a' w' h) else 0) < (if h : ∃ s, I s act w then Classical.choose (ex act w h) else 0)
    rw [dif_pos hI, dif_pos hI', ← h2]
    exact Nat.lt_of_le_of_lt ((Classical.choose_spec (ex a' w' hI')).2 _ ⟨s', h3, rfl⟩) h4
  | _ => exact hq

theorem AW_less {c : Code} {H2 : Heap} (hl : Heap.le H2 H) (h : AW P N c a H2 Q) : AW P N c a H Q := by
  intro Fe n hF B F w act hr
  have hn : ∀ m, H m = none → H2 m = none := fun m hm => by
    cases hk : H2 m with
    | none => rfl
    | some k => rw [hl m k hk] at hm; cases hm
  obtain ⟨Ds, d1, d2, d3⟩ := hr.dfr
  refine wpIn_mono (h Fe n hF B F w act ⟨⟨Ds, d1, d2, fun D hD => ⟨(d3 D hD).1, hn D (d3 D hD).2.1, (d3 D hD).2.2⟩⟩, hr.low, fun l hl => ⟨(hr.rnd l hl).1, hn l (hr.rnd l hl).2⟩, hr.size, hr.vf, hr.sat.less hl⟩) ?_
  rintro e act' w' ⟨F', a', H', h1, h2, h3⟩
  refine ⟨F', a', H', h1, ⟨h2.os, h2.tape, h2.output, h2.size, fun m hm hH => h2.block m hm (hn m hH), fun m k hk => ?_, h2.le, fun b o v hv => ?_⟩, h3⟩
  · rcases h2.new m k hk with g | g
    · left; intro e; exact g (hn m e)
    · exact .inr g
  · rcases h2.frz b o v hv with g | g | g
    · exact .inl g
    · right; left; intro e; exact g (hn b e)
    · exact .inr (.inr g)

theorem AW_havoc {c : Code} {a2 : Nat → AV} (hl : ∀ t, a2 t = a t ∨ a2 t = .x) (h : AW P N c a2 H Q) : AW P N c a H Q :=
  fun Fe n hF B F w act hr => h Fe n hF B F w act ⟨hr.dfr, hr.low, hr.rnd, hr.size, fun t => by
    rcases hl t with e | e
    · rw [e]; exact hr.vf t
    · rw [e]; exact .x _, hr.sat⟩

def resV (P : Program) (a : Nat → AV) (H : Heap) : ResultVar → Option AV
  | .tmp t => some (a t)
  | .cell t ty => ldV P H ty (a t)
def resL (P : Program) (a : Nat → AV) (H : Heap) : List ResultVar → Option (List AV)
  | [] => some []
  | r :: rs => match resV P a H r, resL P a H rs with | some x, some xs => some (x :: xs) | _, _ => none
def oneV : List AV → AV
  | [x] => x
  | xs => .t xs

theorem ldV_ok {F : Mem} {w : World} (hs : Sat F H w) {t : TypeId} {x r : AV} {v : Value} (hv : V F x v) (h : ldV P H t x = some r) : ∃ ad u, v = .pointer (some ad) ∧ (loadVar t ad).run P w = .ok u w ∧ V F r u := by
  have key : ∀ (ad : Addr) (u : Value), (Instr.loadAt t (.pointer (some ad))).run P w = .ok u w → (loadVar t ad).run P w = .ok u w := fun ad u h => by
    simpa [Instr.loadAt, Instr.sureAddr, Sem.run_bind] using h
  unfold ldV at h
  split at h
  · rename_i n sz i j
    split at h
    · rename_i ty sz' cap rows hH
      split at h
      · rename_i e ag k he hA hS
        split at h
        · rename_i hc; obtain ⟨rfl, c2, c3⟩ := hc
          cases h
          obtain ⟨u, h2, h3⟩ := (hs.reads hH he).load (P := P) hA hS c2 c3
          exact ⟨_, u, hv.p_inv, key _ _ h2, h3⟩
        · cases h
      · cases h
    · cases h
  · rename_i e j
    split at h
    · rename_i ag k hA hS
      split at h
      · rename_i hc
        cases h
        obtain ⟨b, off, e1, hr⟩ := hv.reads hs
        obtain ⟨u, h2, h3⟩ := hr.load (P := P) hA hS hc.1 hc.2
        exact ⟨_, u, e1, key _ _ h2, h3⟩
      · cases h
    · cases h
  · cases h

def resS (tmps : Array Value) : ResultVar → Sem Value
  | .tmp t => pure (tmps.getD t undef)
  | .cell a t => do loadVar t (← asAddr (tmps.getD a undef))

theorem resL_ok {F : Mem} {w : World} {act : Act} (hs : Sat F H w) (hv : Va F a act) : ∀ (rs : List ResultVar) (xs : List AV), resL P a H rs = some xs →
    ∃ vs, (rs.mapM (resS act.tmps)).run P w = .ok vs w ∧ Vs F xs vs
  | [], xs, h => by simp [resL] at h; subst h; exact ⟨[], by simp [Sem.run_pure], Vs.nil F⟩
  | r :: rs, xs, h => by
    simp only [resL] at h
    split at h
    · rename_i x ys h1 h2
      cases h
      obtain ⟨vs, g1, g2⟩ := resL_ok hs hv rs ys h2
      cases r with
      | tmp t =>
        simp [resV] at h1; subst h1
        refine ⟨act.tmps.getD t undef :: vs, ?_, Vs.cons (hv t) g2⟩
        rw [List.mapM_cons]
        simp only [resS, Sem.run_bind, Sem.run_pure, Result.andThen_ok, g1]
      | cell t ty =>
        simp only [resV] at h1
        obtain ⟨ad, u, e1, e2, e3⟩ := ldV_ok hs (hv t) h1
        refine ⟨u :: vs, ?_, Vs.cons e3 g2⟩
        rw [List.mapM_cons]
        simp only [resS, e1, asAddr, Sem.run_bind, Sem.run_pure, Result.andThen_ok, e2, g1]
    · cases h

theorem results_ok {F : Mem} {w : World} {act : Act} (hs : Sat F H w) (hv : Va F a act) {fn : Func} {xs : List AV} (h : resL P a H fn.results.toList = some xs) : ∃ v, (results fn act.tmps).run P w = .ok v w ∧ V F (oneV xs) v := by
  obtain ⟨vs, h1, h2⟩ := resL_ok hs hv _ _ h
  have hm : (fn.results.mapM (resS act.tmps)).run P w = .ok vs.toArray w := by
    rw [Array.mapM_eq_mapM_toList]
    show (do let x ← fn.results.toList.mapM _; pure x.toArray : Sem (Array Value)).run P w = _
    simp only [Sem.run_bind, h1, Result.andThen_ok, Sem.run_pure]
  refine ⟨if h : vs.toArray.size = 1 then vs.toArray[0] else .tuple vs.toArray, ?_, ?_⟩
  · have e : results fn act.tmps = (do let vs ← fn.results.mapM (resS act.tmps); pure (if h : vs.size = 1 then vs[0] else .tuple vs)) := by
      unfold results
      congr 1
    rw [e, Sem.run_bind, hm]
    simp only [Result.andThen_ok, Sem.run_pure]
  · match xs, vs, h2 with
    | [], vs, h2 => rw [h2.nil_inv]; exact V.t_of (by simpa using Vs.nil F)
    | [x], vs, h2 =>
      obtain ⟨v, vs', rfl, g1, g2⟩ := h2.cons_inv
      rw [g2.nil_inv]
      simpa [oneV] using g1
    | x :: y :: xs, vs, h2 =>
      have : ¬ vs.toArray.size = 1 := by have := h2.1; simp at this ⊢; omega
      rw [dif_neg this]
      exact V.t_of (by simpa using h2)

def retQ (P : Program) (rs : List ResultVar) (R : AV → Heap → Prop) : Post := fun e a H =>
  (e = .normal ∨ e = .ret) ∧ match resL P a H rs with | some xs => R (oneV xs) H | none => False

def ini (args : List AV) : Nat → AV := fun t => args.getD t .x

theorem leaves_marks {fn : Func} {tmps : Array Value} {R : Ending → World → Prop} {Fe : Fence} {n : Nat} : ∀ (Ds : List Nat) (w : World), Ds.Nodup → (∀ D ∈ Ds, w.heap[D]? = some (.deferred (some []))) →
    (∀ w', w'.os = w.os → w'.tape = w.tape → w'.output = w.output → w'.heap.size = w.heap.size → (∀ k, k ∉ Ds → w'.heap[k]? = w.heap[k]?) → ∃ v, (results fn tmps).run P w' = .ok v w' ∧ R (.returned v) w') →
    LeavesInM Fe n P fn tmps R (Ds.map mark) .returning w
  | [], w, _, _, h => by
    obtain ⟨v, h1, h2⟩ := h w rfl rfl rfl rfl (fun _ _ => rfl)
    exact ⟨v, h1, h2⟩
  | D :: Ds, w, hn, hD, h => by
    have h1 := run_takeDeferred (P := P) (hD D (by simp))
    rw [List.nodup_cons] at hn
    refine ⟨by simp, .inl ⟨D, _, rfl, h1, ?_⟩⟩
    refine leaves_marks Ds _ hn.2 (fun D' hD' => ?_) ?_
    · have hne : D' ≠ D := by rintro rfl; exact hn.1 hD'
      exact (World.putObj_heap_other hne).trans (hD D' (by simp [hD']))
    · intro w' e1 e2 e3 e4 e5
      refine h w' e1 e2 e3 (by rw [e4]; simp) (fun k hk => ?_)
      simp only [List.mem_cons, not_or] at hk
      rw [e5 k hk.2]
      exact World.putObj_heap_other hk.1

theorem ACall_of {f : FuncId} {fn : Func} {c : Code} {args : List AV} {R : AV → Heap → Prop} (hf : P.funcs[f]? = some fn) (hb : fn.body = some c) (hen : Ent P f) (hl : args.length ≤ fn.ntmps)
    (h : AW P fn.ntmps c (ini args) H (retQ P fn.results.toList R)) : ACall P f args H R := by
  refine ⟨hen, fun F w cs hv hs => ?_⟩
  refine callsIn_wide.1 (callsIn_of_wp_marks (n := 8) hf hb trivial ?_)
  have hsz : (cs.toArray ++ Array.replicate (fn.ntmps - cs.toArray.size) undef).size = fn.ntmps := by
    have := hv.1; simp; omega
  have hr : Rel F ⟨w.heap.size, Fence.wide.round⟩ fn.ntmps (ini args) H { tmps := cs.toArray ++ Array.replicate (fn.ntmps - cs.toArray.size) undef, defers := [] } w := by
    refine ⟨⟨[], rfl, by simp, by simp⟩, Nat.le_refl _, fun l hl => (by cases hl), hsz, fun t => ?_, hs⟩
    unfold ini
    by_cases ht : t < args.length
    · have h1 := hv.2 t args[t] (List.getElem?_eq_getElem ht)
      have hl := hv.1
      have : (cs.toArray ++ Array.replicate (fn.ntmps - cs.toArray.size) undef).getD t undef = cs.getD t undef := by
        rw [arr_getD, List.getD_eq_getElem?_getD, List.getD_eq_getElem?_getD]
        simp only [Array.toList_append, List.toList_toArray]
        rw [List.getElem?_append_left (by omega)]
      rw [this, List.getD_eq_getElem?_getD, List.getElem?_eq_getElem ht]
      exact h1
    · rw [List.getD_eq_getElem?_getD, List.getElem?_eq_none (by omega)]
      exact .x _
  refine wpIn_mono (h Fence.wide 8 (.inl rfl) _ F w _ hr) ?_
  rintro e act' w' ⟨F', a', H', h1, h2, h3, h4⟩
  split at h4
  case h_2 => exact h4.elim
  rename_i xs hxs
  have fin : LeavesInM Fence.wide 8 P fn act'.tmps (fun e w' => ∃ v F' H' r, e = .returned v ∧ V F' r v ∧ Sat F' H' w' ∧ Ext F H w F' H' w' ∧ R r H') act'.defers .returning w' := by
    obtain ⟨Ds, d1, d2, d3⟩ := h1.dfr
    rw [d1]
    refine leaves_marks Ds w' d2 (fun D hD => (d3 D hD).1) ?_
    intro w2 e1 e2 e3 e4 e5
    have hcell : ∀ b o v, w'.cell? ⟨b, o, none⟩ = some v → b ∉ Ds := fun b o v hc hb => by
      have := (d3 b hb).1
      simp [World.cell?, this] at hc
    have hs2 : Sat F' H' w2 := ⟨fun b o v hb => by
        have := h1.sat.mem b o v hb
        rw [← this]; exact World.cell?_of_block (e5 b (hcell b o v this)),
      h1.sat.off, fun m k hm => (h1.sat.blk m k hm).heap (e5 m (fun hD => by rw [(d3 m hD).2.1] at hm; cases hm))⟩
    obtain ⟨v, g1, g2⟩ := results_ok (fn := fn) hs2 h1.vf hxs
    refine ⟨v, g1, v, F', H', _, rfl, g2, hs2, ⟨e1.trans h2.os, e2.trans h2.tape, e3.trans h2.output, by rw [e4]; exact h2.size, fun m hm hH => ?_, h2.new, h2.le, h2.frz⟩, h4⟩
    by_cases hD : m ∈ Ds
    · have : w.heap.size ≤ m := (d3 m hD).2.2
      omega
    · rw [e5 m hD]; exact h2.block m hm hH
  rcases h3 with rfl | rfl
  · exact fin
  · exact fin
end
end Go.Proofs.Ytlbdpnlmdcajbaa

/- Rules by which all is reckoned. -/
namespace Go.Proofs.Ytlbdpnlmdcajbaa
open Go.RowKit
set_option linter.unusedVariables false
set_option linter.unusedSimpArgs false
set_option linter.constructorNameAsVariable false

theorem Ent_of {P : Program} {f : FuncId} {fn : Func} {c : Code} (hf : P.funcs[f]? = some fn) (hname : (fn.name == "runtime.NumGoroutine") = false) (hb : fn.body = some c) : Ent P f := Go.Proofs.enters_of hf hname hb

section
variable {P : Program} {t : TypeId} {k : IntKind} {m n : Int}
theorem binV_add : binV P .add t (.c (.int k m)) (.c (.int k n)) = some (.c (.int k (k.wrap (m + n)))) := by unfold binV; simp [binI]
theorem binV_sub : binV P .sub t (.c (.int k m)) (.c (.int k n)) = some (.c (.int k (k.wrap (m - n)))) := by unfold binV; simp [binI]
theorem binV_mul : binV P .mul t (.c (.int k m)) (.c (.int k n)) = some (.c (.int k (k.wrap (m * n)))) := by unfold binV; simp [binI]
theorem binV_and : binV P .and t (.c (.int k m)) (.c (.int k n)) = some (.c (.int k (bits .and k m n))) := by unfold binV; simp [binI]
theorem binV_or : binV P .or t (.c (.int k m)) (.c (.int k n)) = some (.c (.int k (bits .or k m n))) := by unfold binV; simp [binI]
theorem binV_eql : binV P .eql t (.c (.int k m)) (.c (.int k n)) = some (.c (.bool (decide (m = n)))) := by unfold binV; simp [binI]
theorem binV_neq : binV P .neq t (.c (.int k m)) (.c (.int k n)) = some (.c (.bool (!decide (m = n)))) := by unfold binV; simp [binI]
theorem binV_lss : binV P .lss t (.c (.int k m)) (.c (.int k n)) = some (.c (.bool (decide (m < n)))) := by unfold binV; simp [binI]
theorem binV_leq : binV P .leq t (.c (.int k m)) (.c (.int k n)) = some (.c (.bool (decide (m ≤ n)))) := by unfold binV; simp [binI]
theorem binV_gtr : binV P .gtr t (.c (.int k m)) (.c (.int k n)) = some (.c (.bool (decide (n < m)))) := by unfold binV; simp [binI]
theorem binV_geq : binV P .geq t (.c (.int k m)) (.c (.int k n)) = some (.c (.bool (decide (n ≤ m)))) := by unfold binV; simp [binI]
theorem binV_quo : binV P .quo t (.c (.int k m)) (.c (.int k n)) = if n ≠ 0 then some (.c (.int k (k.wrap (m.tdiv n)))) else none := by unfold binV; simp
theorem binV_rem : binV P .rem t (.c (.int k m)) (.c (.int k n)) = if n ≠ 0 then some (.c (.int k (m.tmod n))) else none := by unfold binV; simp
theorem binV_beq {p q : Bool} (h : P.underlying t = some .bool) : binV P .eql t (.c (.bool p)) (.c (.bool q)) = some (.c (.bool (p == q))) := by unfold binV; simp [h]
theorem binV_bne {p q : Bool} (h : P.underlying t = some .bool) : binV P .neq t (.c (.bool p)) (.c (.bool q)) = some (.c (.bool (p != q))) := by unfold binV; simp [h]
theorem eqV_c {E : Env P} {op : BinOp} {u v : Value} : eqV E op t (.c u) (.c v) = binV P op t (.c u) (.c v) := rfl
theorem eqV_g {E : Env P} {op : BinOp} {xs ys : List AV} : eqV E op t (.g xs) (.g ys) = match valsOf xs, valsOf ys with
    | some us, some vs =>
      match op with
      | .eql => (E.eq t us vs).map fun b => .c (.bool b)
      | .neq => (E.eq t us vs).map fun b => .c (.bool !b)
      | _ => none
    | _, _ => none := rfl
end

theorem wrap_i64 {x : Int} (h0 : -9223372036854775808 ≤ x) (h1 : x ≤ 9223372036854775807) : IntKind.i64.wrap x = x := by
  simp only [IntKind.wrap, IntKind.bits, IntKind.signed]
  rcases Int.lt_or_le x 0 with h | h
  · have : x % (2 ^ 64) = x + 2 ^ 64 := by omega
    simp [this]; omega
  · have : x % (2 ^ 64) = x := by omega
    simp [this]; omega
theorem wrap_u64 {x : Int} (h0 : 0 ≤ x) (h1 : x ≤ 18446744073709551615) : IntKind.u64.wrap x = x := by
  simp only [IntKind.wrap, IntKind.bits, IntKind.signed]
  simp; omega
theorem upd_get (H : Heap) (n m : Nat) (k : Blk) : upd H n k m = if m = n then some k else H m := rfl
theorem upd_none2 {H : Heap} {n m : Nat} {k : Blk} : upd H n k m = none ↔ (m ≠ n ∧ n ≠ m) ∧ H m = none := by
  rw [upd_none]; exact ⟨fun h => ⟨⟨h.1, Ne.symm h.1⟩, h.2⟩, fun h => ⟨h.1.1, h.2⟩⟩
section
variable {P : Program} {E : Env P} {N : Nat} {ops : Array Oper} {a : Nat → AV} {H : Heap} {K : (Nat → AV) → Heap → Prop}
theorem ER_nil : ER E N ops [] a H K = K a H := propext ⟨fun h => h, fun h => h⟩
def CT {P : Program} (E : Env P) (N : Nat) (ops : Array Oper) (os : List Oper) (a : Nat → AV) (d : Option Nat) (K : (Nat → AV) → Heap → Prop) : AV → Heap → Prop := fun r H' => ER E N ops os (put a d r) H' K
theorem CT_app {d : Option Nat} {os : List Oper} {r : AV} {H' : Heap} : CT E N ops os a d K r H' = ER E N ops os (put a d r) H' K := propext ⟨fun h => h, fun h => h⟩
theorem ER_none {d : Option Nat} {op : Op} {ty : TypeId} {ps : String} {af : Array Edge} {os : List Oper} :
    ER E N ops ({ dst := d, op := op, type := ty, pos := ps, after := af, guard := none } :: os) a H K = (dok N d = true ∧ EO E { dst := d, op := op, type := ty, pos := ps, after := af, guard := none } a H (CT E N ops os a d K)) := propext ⟨fun h => h, fun h => h⟩
theorem ER_guard {d : Option Nat} {op : Op} {ty : TypeId} {ps : String} {af : Array Edge} {os : List Oper} {j : Nat} {want b : Bool} (hb : gv ops a j = some b)
    (h1 : b = want → dok N d = true ∧ EO E { dst := d, op := op, type := ty, pos := ps, after := af, guard := some (j, want) } a H (CT E N ops os a d K))
    (h2 : b = !want → dok N d = true ∧ ER E N ops os (put a d (.t [])) H K) :
    ER E N ops ({ dst := d, op := op, type := ty, pos := ps, after := af, guard := some (j, want) } :: os) a H K := by
  have hd : dok N d = true := by
    by_cases e : b = want
    · exact (h1 e).1
    · exact (h2 (by cases b <;> cases want <;> simp_all)).1
  refine ⟨hd, ?_⟩
  simp only [hb]
  exact ⟨fun e => (h1 e).2, fun e => (h2 e).2⟩
end

structure Kn (P : Program) (N : Nat) (y : Code) (Q : Post) (K : (Nat → AV) → Heap → Prop) : Prop where
  at_ : ∀ a H, AW P N y a H Q → K a H
theorem Kn.go {P : Program} {N : Nat} {y : Code} {Q : Post} {K : (Nat → AV) → Heap → Prop} {a : Nat → AV} {H : Heap} (h : Kn P N y Q K) (k : AW P N y a H Q) : K a H := h.at_ a H k
theorem AW_seq_kn {P : Program} {N : Nat} {x y : Code} {Q : Post} {a : Nat → AV} {H : Heap} (h : ∀ K : (Nat → AV) → Heap → Prop, Kn P N y Q K → AW P N x a H (thenA K Q)) : AW P N (.seq x y) a H Q :=
  AW_seq_k fun K hK => h K ⟨hK⟩

theorem ite_cbool (b p q : Bool) : (if b = true then AV.c (.bool p) else AV.c (.bool q)) = .c (.bool (if b = true then p else q)) := by cases b <;> rfl
theorem ite_cbool' (c : Prop) [Decidable c] (p q : Bool) : (if c then AV.c (.bool p) else AV.c (.bool q)) = .c (.bool (if c then p else q)) := by split <;> rfl
end Go.Proofs.Ytlbdpnlmdcajbaa

/- Regions that draw their order. -/
namespace Go.Proofs.Ytlbdpnlmdcajbaa
open Go.RowKit
set_option linter.unusedVariables false
set_option linter.unusedSimpArgs false
set_option linter.constructorNameAsVariable false

inductive Cl where
  | pure | make | gen
  deriving DecidableEq

def clsO (pc : FuncId → Bool) : Op → Cl
  | .alloc _ | .box .. | .buildSlice .. => .make
  | .call { callee := .builtin .len, .. } => if pc 1000003 then .gen else .pure
  | .call { callee := .builtin .max, .. } | .call { callee := .builtin .min, .. } => .pure
  | .call { callee := .value (.func f), .. } => if pc f then .pure else .gen
  | .move _ | .assign _ | .pick .. | .makeFunc .. | .extract .. | .unOp .. | .binOp .. | .convert .. | .nilCheck _ | .fieldAddr .. | .field .. | .indexAddr .. | .index .. | .slice .. | .load .. | .build .. => .pure
  | _ => .gen
def cls (pc : FuncId → Bool) (o : Oper) : Cl :=
  match clsO pc o.op, o.guard with
  | .make, some _ => .gen
  | c, _ => c

def isLoad : Op → Bool
  | .load .. => true
  | _ => false

def stepV {P : Program} (E : Env P) (ops : Array Oper) (o : Oper) (a : Nat → AV) (H : Heap) : Option AV :=
  match o.guard with
  | none => pureF E H o a
  | some (j, w) => match gv ops a j with
    | some b => if b = w then pureF E H o a else some (.t [])
    | none => if gu ops a j = true then some (.t []) else none

def mkV {P : Program} (E : Env P) (o : Oper) (a : Nat → AV) : Option (Nat → AV × Blk) :=
  match o.op with
  | .alloc t =>
    match tZ P t with
    | some zs => if zs.all (·.oneCell') = true ∧ 0 < zs.length then some fun n => (.p n zs.length 0 0, .r t zs.length 1 [zs.map .c]) else none
    | none => none
  | .box t x =>
    match (ev a x).cs with
    | some ys => if 0 < ys.length then some fun n => (.p n ys.length 0 0, .r t ys.length 1 [ys]) else none
    | none => none
  | .buildSlice t len parts =>
    match tE P t with
    | some et =>
      match tS P et, tZ P et with
      | some sz, some zs => if zs.length = sz ∧ 0 < sz ∧ len * sz ≤ 16777216 ∧ zs.all (·.oneCell') = true then
          (fillR sz (List.replicate len (zs.map .c)) (parts.toList.map fun p => (p.1, ev a p.2))).map fun r n => (.s n sz 0 len len, .r et sz len r) else none
      | _, _ => none
    | none => none
  | _ => none

def GT {P : Program} (E : Env P) (ops : Array Oper) (o : Oper) (a : Nat → AV) (H : Heap) (K : AV → Heap → Prop) : Prop :=
  match o.guard with
  | none => EO E o a H K
  | some (j, w) => match gv ops a j with
    | some b => (b = w → EO E o a H K) ∧ (b = !w → K (.t []) H)
    | none => gu ops a j = true ∧ K (.t []) H

abbrev En := Nat × Bool × List Nat

def isMkO : Op → Bool
  | .alloc _ | .box .. | .buildSlice .. => true
  | _ => false
def premk {P : Program} (E : Env P) (N : Nat) (ops : Array Oper) (a : Nat → AV) : List Nat → Prop
  | [] => True
  | m :: us => (match ops[m]? with
    | some o => (isMkO o.op = true → dok N o.dst = true ∧ (mkV E o a).isSome = true)
    | none => True) ∧ premk E N ops a us

def LR {P : Program} (E : Env P) (N : Nat) (ops : Array Oper) (pc : FuncId → Bool) : List En → (Nat → AV) → Heap → List (Nat × (Heap → Prop)) → ((Nat → AV) → Heap → Prop) → Prop
  | [], a, H, M, K => K a H
  | (i, rc, us) :: l, a, H, M, K =>
    match ops[i]? with
    | none => False
    | some o => dok N o.dst = true ∧
      match cls pc o with
      | .pure => match stepV E ops o a H with
        | some r => LR E N ops pc l (put a o.dst r) H (if rc = true then (i, fun H' => stepV E ops o a H' = some r) :: M else M) K
        | none => False
      | .make => match mkV E o a with
        | some g => ∀ n, H n = none → LR E N ops pc l (put a o.dst (g n).1) (upd H n (g n).2) M K
        | none => False
      | .gen => premk E N ops a us ∧ GT E ops o a H (fun r H' => (∀ e ∈ M, e.1 ∈ us → e.2 H') ∧ LR E N ops pc l (put a o.dst r) H' M K)

section congr
variable {P : Program} {E : Env P} {o : Oper} {a a' : Nat → AV} {H : Heap}

theorem evs_congr {zs : Array Operand} (h : ∀ x ∈ zs.toList, ev a x = ev a' x) : zs.toList.map (ev a) = zs.toList.map (ev a') := List.map_congr_left h
theorem parts_congr {ps : Array (Nat × Operand)} (h : ∀ p ∈ ps.toList, ev a p.2 = ev a' p.2) : (ps.toList.map fun p => (p.1, ev a p.2)) = ps.toList.map fun p => (p.1, ev a' p.2) := List.map_congr_left fun p hp => by rw [h p hp]

theorem pureF_congr (h : ∀ x ∈ o.op.operands.toList, ev a x = ev a' x) : pureF E H o a = pureF E H o a' := by
  unfold pureF
  split <;> rename_i ho <;> try rw [ho] at h
  case h_4 => 
    simp only [Op.operands, Array.toList_append, List.mem_append] at h
    rw [evs_congr fun x hx => h x (.inl hx), evs_congr fun x hx => h x (.inr hx)]
  case h_14 =>
    rename_i t x lo hi mx
    have hx : ev a x = ev a' x := h x (by simp [Op.operands])
    have hop : ∀ (d : Nat) (y : Option Operand), (y = lo ∨ y = hi ∨ y = mx) → optI a d y = optI a' d y := by
      intro d y hy
      cases y with
      | none => rfl
      | some y =>
        have : ev a y = ev a' y := h y (by rcases hy with hy | hy | hy <;> simp [Op.operands, ← hy])
        simp only [optI, this]
    simp only [slcV, hx, hop _ lo (.inl rfl), hop _ hi (.inr (.inl rfl)), hop _ mx (.inr (.inr rfl))]
  case h_16 =>
    rename_i t ps
    rw [parts_congr fun p hp => h p.2 (by simp only [Op.operands, List.toList_toArray]; exact List.mem_map.2 ⟨p, hp, rfl⟩)]
  case h_17 =>
    rename_i b xs ts
    rw [evs_congr fun x hx => h x (by simp only [Op.operands, Call.operands, Array.toList_append]; exact List.mem_append_right _ hx)]
  case h_18 =>
    rename_i f xs ts
    rw [evs_congr fun x hx => h x (by simp only [Op.operands, Call.operands, Array.toList_append]; exact List.mem_append_right _ hx)]
  all_goals (first | rfl | (simp only [Op.operands, List.toList_toArray, List.mem_cons, List.not_mem_nil, or_false, forall_eq_or_imp, forall_eq] at h; simp only [h]))
end congr
end Go.Proofs.Ytlbdpnlmdcajbaa

/- Regions that draw their order: any order comes to the same. -/
namespace Go.Proofs.Ytlbdpnlmdcajbaa
open Go.RowKit
set_option linter.unusedVariables false
set_option linter.unusedSimpArgs false
set_option linter.constructorNameAsVariable false

section congr
variable {P : Program} {E : Env P} {o : Oper} {a a' : Nat → AV} {H : Heap} {ops : Array Oper}

theorem Does_congr {K : AV → Heap → Prop} (h : ∀ x ∈ o.op.operands.toList, ev a x = ev a' x) (hd : Does P o a H K) : Does P o a' H K :=
  fun Fe n hF F w act hv hs => hd Fe n hF F w act (fun x hx => by rw [h x hx]; exact hv x hx) hs

theorem mkV_congr (h : ∀ x ∈ o.op.operands.toList, ev a x = ev a' x) : mkV E o a = mkV E o a' := by
  unfold mkV
  split <;> rename_i ho <;> try rw [ho] at h
  case h_2 => rename_i t x; simp only [h x (by simp [Op.operands])]
  case h_3 =>
    rename_i t len ps
    rw [parts_congr fun p hp => h p.2 (by simp only [Op.operands, List.toList_toArray]; exact List.mem_map.2 ⟨p, hp, rfl⟩)]
  all_goals rfl

theorem EO_congr {K : AV → Heap → Prop} (h : ∀ x ∈ o.op.operands.toList, ev a x = ev a' x) (hd : EO E o a H K) : EO E o a' H K := by
  have hp := pureF_congr (E := E) (H := H) h
  have hD := Does_congr (P := P) (H := H) (K := K) h
  unfold EO at hd ⊢
  split at hd <;> rename_i ho <;> try rw [ho] at h
  case h_1 => exact hd
  case h_2 => rename_i t x; rw [← h x (by simp [Op.operands])]; exact hd
  case h_3 =>
    rename_i t len ps
    rw [← parts_congr fun p hp => h p.2 (by simp only [Op.operands, List.toList_toArray]; exact List.mem_map.2 ⟨p, hp, rfl⟩)]; exact hd
  case h_4 => rename_i t x y; rw [← h x (by simp [Op.operands]), ← h y (by simp [Op.operands])]; exact hd
  case h_5 =>
    rw [← hp]
    split at hd
    · exact hd
    · exact hD hd

def Same (ops : Array Oper) (o : Oper) (a a' : Nat → AV) : Prop := ∀ t, t ∈ o.looksAt ops → a t = a' t
theorem Same.ev (h : Same ops o a a') : ∀ x ∈ o.op.operands.toList, Go.Proofs.Ytlbdpnlmdcajbaa.ev a x = Go.Proofs.Ytlbdpnlmdcajbaa.ev a' x := by
  intro x hx
  cases x with
  | tmp t => exact h t (List.mem_append_left _ (List.mem_filterMap.2 ⟨.tmp t, hx, rfl⟩))
  | _ => rfl
theorem Same.gv (h : Same ops o a a') {j : Nat} {w : Bool} (hg : o.guard = some (j, w)) : Go.Proofs.Ytlbdpnlmdcajbaa.gv ops a j = Go.Proofs.Ytlbdpnlmdcajbaa.gv ops a' j := by
  unfold Go.Proofs.Ytlbdpnlmdcajbaa.gv
  cases hd : (ops[j]?).bind (·.dst) with
  | none => rfl
  | some d =>
    have : a d = a' d := h d (List.mem_append_right _ (by rw [hg]; simp [hd]))
    simp only [Option.bind_some, this]
theorem Same.gu (h : Same ops o a a') {j : Nat} {w : Bool} (hg : o.guard = some (j, w)) : Go.Proofs.Ytlbdpnlmdcajbaa.gu ops a j = Go.Proofs.Ytlbdpnlmdcajbaa.gu ops a' j := by
  unfold Go.Proofs.Ytlbdpnlmdcajbaa.gu
  cases hd : (ops[j]?).bind (·.dst) with
  | none => rfl
  | some d =>
    have : a d = a' d := h d (List.mem_append_right _ (by rw [hg]; simp [hd]))
    simp only [this]
theorem Same.symm (h : Same ops o a a') : Same ops o a' a := fun t ht => (h t ht).symm
theorem Same.put (a : Nat → AV) {dst : Option Nat} {r : AV} (h : ∀ d, dst = some d → d ∉ o.looksAt ops) : Same ops o (put a dst r) a := fun t ht => by
  cases dst with
  | none => rfl
  | some d => rw [put_some, if_neg]; rintro rfl; exact h t rfl ht

theorem stepV_same (h : Same ops o a a') : stepV E ops o a H = stepV E ops o a' H := by
  unfold stepV
  split
  · exact pureF_congr h.ev
  · rename_i j w hg
    rw [h.gv hg, h.gu hg, pureF_congr h.ev]
theorem GT_same {K : AV → Heap → Prop} (h : Same ops o a a') (hd : GT E ops o a H K) : GT E ops o a' H K := by
  unfold GT at hd ⊢
  split at hd
  · exact EO_congr h.ev hd
  · rename_i j w hg
    rw [← h.gv hg, ← h.gu hg]
    split at hd
    · exact ⟨fun e => EO_congr h.ev (hd.1 e), hd.2⟩
    · exact hd

theorem GT_mono {K K' : AV → Heap → Prop} (hk : ∀ r H', K r H' → K' r H') (hd : GT E ops o a H K) : GT E ops o a H K' := by
  unfold GT at hd ⊢
  split at hd
  · exact EO_mono E hk hd
  · split at hd
    · exact ⟨fun e => EO_mono E hk (hd.1 e), fun e => hk _ _ (hd.2 e)⟩
    · exact ⟨hd.1, hk _ _ hd.2⟩

theorem pureF_heap {H' : Heap} (h : isLoad o.op = false) : pureF E H o a = pureF E H' o a := by
  unfold pureF
  split <;> first | rfl | (rename_i ho; rw [ho] at h; cases h)
theorem stepV_heap {H' : Heap} (h : isLoad o.op = false) : stepV E ops o a H = stepV E ops o a H' := by
  unfold stepV; split <;> simp only [pureF_heap (E := E) (a := a) (H := H) (H' := H') h]
theorem pureF_upd {n : Nat} {k : Blk} {r : AV} (hn : H n = none) (h : pureF E H o a = some r) : pureF E (upd H n k) o a = some r := by
  cases hl : isLoad o.op with
  | false => rw [pureF_heap (H' := H) hl]; exact h
  | true =>
    unfold pureF at h ⊢
    cases ho : o.op <;> rw [ho] at hl <;> first | cases hl | skip
    rename_i t x
    simp only [ho] at h ⊢
    unfold ldV at h ⊢
    split at h
    · rename_i m sz i j hx
      split at h
      · rename_i ty sz' cap rows hm
        have hne : m ≠ n := by rintro rfl; rw [hn] at hm; cases hm
        rw [upd_ne hne, hm]; exact h
      · cases h
    · exact h
    · cases h
theorem stepV_upd {n : Nat} {k : Blk} {r : AV} (hn : H n = none) (h : stepV E ops o a H = some r) : stepV E ops o a (upd H n k) = some r := by
  unfold stepV at h ⊢
  split at h
  · exact pureF_upd hn h
  · split at h
    · split at h
      · rename_i e; rw [if_pos e]; exact pureF_upd hn h
      · rename_i e; rw [if_neg e]; exact h
    · exact h
end congr

def Fin (H : Heap) : Prop := ∃ B, ∀ n, B ≤ n → H n = none
theorem Fin.upd {H : Heap} (h : Fin H) (n : Nat) (k : Blk) : Fin (upd H n k) := by
  obtain ⟨B, hB⟩ := h
  refine ⟨B + n + 1, fun m hm => ?_⟩
  rw [upd_ne (by omega)]; exact hB m (by omega)
theorem Fin.fresh {H : Heap} (h : Fin H) : ∃ n, H n = none := let ⟨B, hB⟩ := h; ⟨B, hB B (Nat.le_refl B)⟩
theorem Sat.fin {F : Mem} {H : Heap} {w : World} (h : Sat F H w) : Fin H := ⟨w.heap.size, fun n hn => h.fresh hn⟩

theorem put_comm (a : Nat → AV) {x y : Option Nat} (v u : AV) (h : ∀ d, x = some d → y ≠ some d) : put (put a x v) y u = put (put a y u) x v := by
  cases x with
  | none => rfl
  | some d =>
    cases y with
    | none => rfl
    | some e =>
      have hne : d ≠ e := fun he => h d rfl (he ▸ rfl)
      funext t
      simp only [put_some]
      by_cases h1 : t = e
      · subst h1; simp [Ne.symm hne]
      · simp [h1]

section
variable {P : Program} {E : Env P} {N : Nat} {ops : Array Oper} {pc : FuncId → Bool} {K : (Nat → AV) → Heap → Prop}

theorem Does_upd {o : Oper} {a : Nat → AV} {H : Heap} {C : AV → Heap → Prop} {n : Nat} {k : Blk} (hn : H n = none) (h : Does P o a H C) :
    Does P o a (upd H n k) (fun r H'' => ∃ H', H'' = upd H' n k ∧ H' n = none ∧ Fin H' ∧ C r H') := by
  have hjoin : ∀ G : Heap, G n = none → join (upd (fun _ => none) n k) G = upd G n k := fun G hG => by
    funext m; unfold join upd; by_cases e : m = n <;> simp [e]
  intro Fe q hF F w act hv hs
  refine wpIn_Q ?_ (h Fe q hF F w act hv (hs.less (fun m x hm => by rw [upd_ne (by rintro rfl; rw [hn] at hm; cases hm)]; exact hm)))
  rintro act' w' ⟨v, F', H', r, h1, h2, h3, h4, h5⟩
  have hap : Apart (upd (fun _ => none) n k) H := fun m => by
    by_cases e : m = n
    · subst e; exact .inr hn
    · left; rw [upd_ne e]
  obtain ⟨g1, g2, g3⟩ := beside hap (by rw [hjoin H hn]; exact hs) h3 h4
  have hn' : H' n = none := by
    rcases g1 n with g | g
    · rw [upd_same] at g; cases g
    · exact g
  rw [hjoin H' hn'] at g2 g3
  rw [hjoin H hn] at g3
  exact ⟨v, F', _, r, h1, h2, g2, g3, H', rfl, hn', h3.fin, h5⟩
def isCallF : Op → Bool
  | .call { callee := .value _, .. } => true
  | .call { callee := .builtin .append, .. } => true
  | .store .. => true
  | _ => false
theorem EO_updS {o : Oper} {a : Nat → AV} {H : Heap} {C : AV → Heap → Prop} {n : Nat} {k : Blk} {t : TypeId} {x y : Operand} (ho : o.op = .store t x y) (hn : H n = none) (hf : Fin H) (h : EO E o a H C) :
    EO E o a (upd H n k) (fun r H'' => ∃ H', H'' = upd H' n k ∧ H' n = none ∧ Fin H' ∧ C r H') := by
  unfold EO at h ⊢
  simp only [ho] at h ⊢
  split at h
  · rename_i m sz i j hx
    split at h
    · rename_i ty sz' cap rows hm
      have hne : m ≠ n := by rintro rfl; rw [hn] at hm; cases hm
      rw [upd_ne hne, hm]
      simp only
      split at h
      · rename_i e ys he hy
        refine ⟨h.1, _, upd_comm (Ne.symm hne), ?_, hf.upd _ _, h.2⟩
        rw [upd_ne (Ne.symm hne)]; exact hn
      · exact h.elim
    · exact h.elim
  · exact h.elim
theorem EO_upd {o : Oper} {a : Nat → AV} {H : Heap} {C : AV → Heap → Prop} {n : Nat} {k : Blk} (hc : isCallF o.op = true) (hn : H n = none) (hf : Fin H) (h : EO E o a H C) :
    EO E o a (upd H n k) (fun r H'' => ∃ H', H'' = upd H' n k ∧ H' n = none ∧ Fin H' ∧ C r H') := by
  by_cases hst : ∃ t x y, o.op = .store t x y
  · obtain ⟨t, x, y, ho⟩ := hst
    exact EO_updS ho hn hf h
  have hl : isLoad o.op = false := by
    unfold isCallF at hc
    split at hc
    · rename_i ho; rw [ho]; rfl
    · rename_i ho; rw [ho]; rfl
    · rename_i ho; exact (hst ⟨_, _, _, ho⟩).elim
    · cases hc
  have hp : pureF E (upd H n k) o a = pureF E H o a := pureF_heap hl
  have hEO : ∀ (G : Heap) (D : AV → Heap → Prop), EO E o a G D = (match pureF E G o a with | some r => D r G | none => Does P o a G D) := fun G D => by
    unfold EO
    unfold isCallF at hc
    split at hc
    · rename_i ho; simp only [ho]; cases pureF E G o a <;> rfl
    · rename_i ho; simp only [ho]; cases pureF E G o a <;> rfl
    · rename_i ho; exact (hst ⟨_, _, _, ho⟩).elim
    · cases hc
  rw [hEO] at h ⊢
  rw [hp]
  split at h
  · rename_i r hr
    exact ⟨H, rfl, hn, hf, h⟩
  · exact Does_upd hn h
theorem clsO_make {op : Op} (h : clsO pc op = .make) : isMkO op = true := by
  unfold clsO at h
  split at h <;> first | rfl | (cases h; done) | (split at h <;> cases h)
theorem cls_make {o : Oper} (h : cls pc o = .make) : isMkO o.op = true := by
  unfold cls at h
  cases h1 : clsO pc o.op with
  | make => exact clsO_make h1
  | pure => rw [h1] at h; cases o.guard <;> cases h
  | gen => rw [h1] at h; cases o.guard <;> cases h
theorem premk_cons {N : Nat} {a : Nat → AV} {u : Nat} {us : List Nat} (h : premk E N ops a (u :: us)) : (∀ o, ops[u]? = some o → isMkO o.op = true → dok N o.dst = true ∧ (mkV E o a).isSome = true) ∧ premk E N ops a us := by
  unfold premk at h
  refine ⟨fun o ho => ?_, h.2⟩
  have h1 := h.1
  rw [ho] at h1
  exact h1
theorem premk_mem {N : Nat} {a : Nat → AV} {us : List Nat} {m : Nat} {o : Oper} (h : premk E N ops a us) (hm : m ∈ us) (ho : ops[m]? = some o) (hc : isMkO o.op = true) : dok N o.dst = true ∧ (mkV E o a).isSome = true := by
  induction us with
  | nil => cases hm
  | cons u us ih =>
    have hh := premk_cons h
    rcases List.mem_cons.1 hm with e | hm
    · subst e; exact hh.1 o ho hc
    · exact ih hh.2 hm
theorem premk_put {N : Nat} {a : Nat → AV} {d : Option Nat} {v : AV} : ∀ {us : List Nat}, (∀ m ∈ us, ∀ o, ops[m]? = some o → ∀ e, d = some e → e ∉ o.looksAt ops) → premk E N ops a us → premk E N ops (put a d v) us
  | [], _, _ => trivial
  | m :: us, hd, h => by
    refine ⟨?_, premk_put (fun q hq => hd q (by simp [hq])) h.2⟩
    have h1 := h.1
    split at h1
    · rename_i o ho
      have hs : Same ops o (put a d v) a := Same.put a (hd m (by simp) o ho)
      rw [mkV_congr hs.ev]; exact h1
    · trivial

theorem LR_less : ∀ (l : List En) (a : Nat → AV) (H : Heap) (M M' : List (Nat × (Heap → Prop))), (∀ e ∈ M', e ∈ M) → LR E N ops pc l a H M K → LR E N ops pc l a H M' K
  | [], a, H, M, M', hM, h => h
  | (i, rc, us) :: l, a, H, M, M', hM, h => by
    simp only [LR] at h ⊢
    split at h
    · exact h.elim
    · rename_i o ho
      refine ⟨h.1, ?_⟩
      have h := h.2
      split at h
      · split at h
        · refine LR_less l _ _ _ _ ?_ h
          split
          · intro e he
            rcases List.mem_cons.1 he with he | he
            · exact List.mem_cons.2 (.inl he)
            · exact List.mem_cons.2 (.inr (hM e he))
          · exact hM
        · exact h
      · split at h
        · exact fun n hn => LR_less l _ _ _ _ hM (h n hn)
        · exact h
      · exact ⟨h.1, GT_mono (fun r H' hh => ⟨fun e he => hh.1 e (hM e he), LR_less l _ _ _ _ hM hh.2⟩) h.2⟩

def EX (E : Env P) (ops : Array Oper) (pc : FuncId → Bool) (o : Oper) (a : Nat → AV) (H : Heap) (C : AV → Heap → Prop) : Prop :=
  match cls pc o with
  | .pure => ∃ r, stepV E ops o a H = some r ∧ C r H
  | .make => ∃ g, mkV E o a = some g ∧ ∀ n, H n = none → C (g n).1 (upd H n (g n).2)
  | .gen => GT E ops o a H C

def okPair (ops : Array Oper) (pc : FuncId → Bool) (ej ei : En) : Bool :=
  match ops[ej.1]?, ops[ei.1]? with
  | some oj, some oi =>
    oj.apart ops oi &&
    (match cls pc oj, cls pc oi with
     | .pure, .pure => true
     | .pure, .make => true
     | .pure, .gen => !isLoad oj.op || (ej.2.1 && ei.2.2.contains ej.1)
     | .make, .make => true
     | .gen, .make => isCallF oj.op && oj.guard.isNone && ej.2.2.contains ei.1 && ej.2.2.all fun m => match ops[m]? with
       | some om => (match oi.dst with | some d => !(om.looksAt ops).contains d | none => true)
       | none => true
     | _, _ => false)
  | _, _ => false

theorem front {i : Nat} {rc : Bool} {us : List Nat} {oi : Oper} {post : List En} (hi : ops[i]? = some oi) : ∀ (pre : List En) (a : Nat → AV) (H : Heap) (M : List (Nat × (Heap → Prop))), (∀ e ∈ pre, okPair ops pc e (i, rc, us) = true) → Fin H → (∀ e ∈ M, ∀ (G : Heap) n k, G n = none → e.2 G → e.2 (upd G n k)) →
    LR E N ops pc (pre ++ (i, rc, us) :: post) a H M K → dok N oi.dst = true ∧ EX E ops pc oi a H (fun r H' => (cls pc oi = .gen → ∀ e ∈ M, e.1 ∈ us → e.2 H') ∧ LR E N ops pc (pre ++ post) (put a oi.dst r) H' M K)
  | [], a, H, M, _, _, _, h => by
    simp only [List.nil_append, LR, hi] at h ⊢
    refine ⟨h.1, ?_⟩
    have h := h.2
    unfold EX
    cases hc : cls pc oi with
    | pure =>
      rw [hc] at h
      simp only at h ⊢
      split at h
      · rename_i r hr
        refine ⟨r, hr, (fun e => by cases e), LR_less _ _ _ _ _ ?_ h⟩
        intro e he; split
        · exact List.mem_cons.2 (.inr he)
        · exact he
      · exact h.elim
    | make =>
      rw [hc] at h
      simp only at h ⊢
      split at h
      · rename_i g hg; exact ⟨g, hg, fun n hn => ⟨(fun e => by cases e), h n hn⟩⟩
      · exact h.elim
    | gen =>
      rw [hc] at h
      exact GT_mono (fun r H' hh => ⟨fun _ => hh.1, hh.2⟩) h.2
  | (j, rj, uj) :: pre, a, H, M, hok, hfin, hMu, h => by
    have hj := hok (j, rj, uj) (by simp)
    have hok' : ∀ e ∈ pre, okPair ops pc e (i, rc, us) = true := fun e he => hok e (by simp [he])
    rw [List.cons_append] at h
    simp only [LR] at h
    split at h
    · exact h.elim
    · rename_i oj hoj
      unfold okPair at hj
      simp only [hoj, hi, Bool.and_eq_true] at hj
      obtain ⟨hap, hcl⟩ := hj
      obtain ⟨g1, g2, g3⟩ := Oper.apart_spec hap
      obtain ⟨hdj, h⟩ := h
      -- what oi looks at is not what oj writes
      have si : ∀ r, Same ops oi (put a oj.dst r) a := fun r => Same.put a g1
      have sj : ∀ r, Same ops oj (put a oi.dst r) a := fun r => Same.put a g3
      have pcm : ∀ r u, put (put a oj.dst r) oi.dst u = put (put a oi.dst u) oj.dst r := fun r u => put_comm a r u g2
      cases hcj : cls pc oj with
      | gen =>
        cases hci : cls pc oi with
        | pure => rw [hcj, hci] at hcl; simp at hcl
        | gen => rw [hcj, hci] at hcl; simp at hcl
        | make =>
          rw [hcj, hci] at hcl
          rw [hcj] at h
          simp only [Bool.and_eq_true, List.all_eq_true, List.contains_iff_mem] at hcl h
          obtain ⟨⟨⟨c1, c2⟩, c3⟩, c4⟩ := hcl
          obtain ⟨hpm, hgt⟩ := h
          obtain ⟨hdi, hms⟩ := premk_mem hpm c3 hi (cls_make hci)
          obtain ⟨g, hg⟩ := Option.isSome_iff_exists.1 hms
          have hgn : oj.guard = none := by simpa using c2
          refine ⟨hdi, ?_⟩
          unfold EX
          rw [hci]
          refine ⟨g, hg, fun n hn => ⟨(fun e => by cases e), ?_⟩⟩
          rw [List.cons_append]
          simp only [LR, hoj, hcj]
          refine ⟨hdj, premk_put (fun m hm o ho e he => ?_) hpm, ?_⟩
          · have := c4 m hm
            rw [ho, he] at this
            simpa using this
          · refine GT_same (sj _).symm ?_
            unfold GT at hgt ⊢
            rw [hgn] at hgt ⊢
            simp only at hgt ⊢
            refine EO_mono E ?_ (EO_upd c1 hn hfin hgt)
            rintro r H'' ⟨H', rfl, hn', hf', hm, hl⟩
            refine ⟨fun e he hu => hMu e he H' n _ hn' (hm e he hu), ?_⟩
            obtain ⟨_, ih⟩ := front hi pre _ _ _ hok' hf' hMu hl
            unfold EX at ih
            rw [hci] at ih
            obtain ⟨gi, e1, e2⟩ := ih
            rw [mkV_congr (si r).ev, hg] at e1
            cases e1
            have := (e2 n hn').2
            rw [← pcm]
            exact this
      | pure =>
        rw [hcj] at h hcl
        simp only at h
        split at h
        case h_2 => exact h.elim
        rename_i r hr
        obtain ⟨hdi, ih⟩ := front hi pre _ _ _ hok' hfin (by
          intro e he
          split at he
          · rcases List.mem_cons.1 he with rfl | he
            · exact fun G n k hG hs => stepV_upd hG hs
            · exact hMu e he
          · exact hMu e he) h
        refine ⟨hdi, ?_⟩
        unfold EX at ih ⊢
        have again : ∀ (u : AV) (H' : Heap), stepV E ops oj a H' = some r → LR E N ops pc (pre ++ post) (put (put a oj.dst r) oi.dst u) H' (if rj = true then (j, fun H' => stepV E ops oj a H' = some r) :: M else M) K →
            LR E N ops pc ((j, rj, uj) :: pre ++ post) (put a oi.dst u) H' M K := fun u H' hs hl => by
          rw [List.cons_append]
          simp only [LR, hoj, hcj]
          refine ⟨hdj, ?_⟩
          have e1 : stepV E ops oj (put a oi.dst u) H' = some r := by rw [stepV_same (sj u)]; exact hs
          rw [e1]
          show LR E N ops pc (pre ++ post) (put (put a oi.dst u) oj.dst r) H' _ K
          rw [← pcm]
          have e2 : ∀ H', stepV E ops oj (put a oi.dst u) H' = stepV E ops oj a H' := fun H' => stepV_same (sj u)
          simp only [e2]
          exact hl
        cases hci : cls pc oi with
        | pure =>
          rw [hci] at ih
          simp only at ih ⊢
          obtain ⟨u, hu, hl⟩ := ih
          exact ⟨u, by rw [← stepV_same (si r)]; exact hu, (fun e => by cases e), again u H hr hl.2⟩
        | make =>
          rw [hci] at ih
          simp only at ih ⊢
          obtain ⟨g, hg, hl⟩ := ih
          exact ⟨g, by rw [← mkV_congr (si r).ev]; exact hg, fun n hn => ⟨(fun e => by cases e), again _ _ (stepV_upd hn hr) (hl n hn).2⟩⟩
        | gen =>
          rw [hci] at ih hcl
          simp only at ih ⊢
          refine GT_mono ?_ (GT_same (si r) ih)
          rintro u H' ⟨hm, hl⟩
          have hm := hm trivial
          refine ⟨fun _ e he => hm e (by split <;> simp [he]), again u H' ?_ hl⟩
          cases hld : isLoad oj.op with
          | false => rw [stepV_heap (H' := H) hld]; exact hr
          | true =>
            simp only [hld, Bool.not_true, Bool.false_or, Bool.and_eq_true, List.contains_iff_mem] at hcl
            exact hm (j, fun H' => stepV E ops oj a H' = some r) (by rw [if_pos hcl.1]; simp) hcl.2
      | make =>
        rw [hcj] at h hcl
        simp only at h
        split at h
        case h_2 => exact h.elim
        rename_i g hg
        cases hci : cls pc oi with
        | pure => rw [hci] at hcl; simp at hcl
        | gen => rw [hci] at hcl; simp at hcl
        | make =>
          have step := fun n hn => front hi pre _ _ _ hok' (hfin.upd n (g n).2) hMu (h n hn)
          obtain ⟨n0, hn0⟩ := hfin.fresh
          refine ⟨(step n0 hn0).1, ?_⟩
          have hmk : ∀ n, H n = none → ∃ gi, mkV E oi a = some gi ∧ ∀ m, upd H n (g n).2 m = none → LR E N ops pc (pre ++ post) (put (put a oj.dst (g n).1) oi.dst (gi m).1) (upd (upd H n (g n).2) m (gi m).2) M K := fun n hn => by
            have := (step n hn).2
            unfold EX at this
            rw [hci] at this
            obtain ⟨gi, e1, e2⟩ := this
            exact ⟨gi, by rw [← mkV_congr (si _).ev]; exact e1, fun m hm => (e2 m hm).2⟩
          obtain ⟨gi, hgi, _⟩ := hmk n0 hn0
          unfold EX
          rw [hci]
          refine ⟨gi, hgi, fun m hm => ⟨(fun e => by cases e), ?_⟩⟩
          rw [List.cons_append]
          simp only [LR, hoj, hcj]
          refine ⟨hdj, ?_⟩
          rw [mkV_congr (sj _).ev, hg]
          intro n hn
          obtain ⟨hnm, hn'⟩ := upd_none.1 hn
          obtain ⟨gi', e1, e2⟩ := hmk n hn'
          rw [hgi] at e1; cases e1
          have := e2 m (upd_none.2 ⟨Ne.symm hnm, hm⟩)
          rw [← pcm, upd_comm (Ne.symm hnm)]
          exact this
end
end Go.Proofs.Ytlbdpnlmdcajbaa

/- Regions that draw their order: the rule. -/
namespace Go.Proofs.Ytlbdpnlmdcajbaa
open Go.RowKit
set_option linter.unusedVariables false
set_option linter.unusedSimpArgs false
set_option linter.constructorNameAsVariable false

theorem mkV_ok {P : Program} {E : Env P} {o : Oper} {a : Nat → AV} {H : Heap} {K : AV → Heap → Prop} {g : Nat → AV × Blk} (h : mkV E o a = some g) (hk : ∀ n, H n = none → K (g n).1 (upd H n (g n).2)) : Does P o a H K := by
  unfold mkV at h
  split at h
  · split at h
    · rename_i zs hz
      split at h
      · rename_i hc; cases h; exact does_alloc (by assumption) hz hc.1 hc.2 hk
      · cases h
    · cases h
  · split at h
    · rename_i ys hx
      split at h
      · rename_i hc; cases h; exact does_box (by assumption) hx hc hk
      · cases h
    · cases h
  · split at h
    · rename_i et hE
      split at h
      · rename_i sz zs hS hz
        split at h
        · rename_i hc
          obtain ⟨h1, h2, h3, h4⟩ := hc
          obtain ⟨r, hr, rfl⟩ := Option.map_eq_some_iff.1 h
          exact does_buildSlice (by assumption) hE hS hz h1 h2 h3 h4 hr hk
        · cases h
      · cases h
    · cases h
  · cases h

section
variable {P : Program} {E : Env P} {B : Bk} {N : Nat} {ops : Array Oper} {pc : FuncId → Bool} {K : (Nat → AV) → Heap → Prop} {Fe : Fence} {n : Nat} {Q : Exit → Act → World → Prop}

theorem EX_run (hF : Wide Fe) {i : Nat} {o : Oper} (ho : ops[i]? = some o) {a : Nat → AV} {H : Heap} {C : AV → Heap → Prop} {F1 : Mem} {act : Act} {w : World} {Kr : Act → World → Prop} (h : EX E ops pc o a H C) (hr : Rel F1 B N a H act w)
    (hk : ∀ F' r v H' w', V F' r v → Sat F' H' w' → Ext F1 H w F' H' w' → C r H' → Kr (act.put o.dst v) w') : wpOpIn Fe n P ops Q i Kr act w := by
  have habout : ∀ f, o.about P w act.eval = some f → Fe.fn f := fun f _ => hF.fn f
  have run : Does P o a H C → o.wpIn Fe n P act w Kr Q := fun hd => by
    refine wpIn_Q ?_ (hd Fe n hF F1 w act (hr.vf.vf o) hr.sat)
    rintro act' w' ⟨v, F', H', r, rfl, h1, h2, h3, h4⟩
    exact hk F' r v H' w' h1 h2 h3 h4
  have skip : C (.t []) H → Kr (act.put o.dst undef) w := fun hc => hk F1 (.t []) undef H w (V.t_of (cs := #[]) (Vs.nil F1)) hr.sat (Ext.refl _ _ _) hc
  have unmet : ∀ (j : Nat) (wnt : Bool), o.guard = some (j, wnt) → gu ops a j = true → C (.t []) H → wpOpIn Fe n P ops Q i Kr act w := fun j wnt hg hu hc => by
    have hw : Region.wanted o (yielded ops act.tmps) = false := by
      simp [Region.wanted, hg, gu_ok hr.vf hu]
    unfold wpOpIn
    simp only [ho]
    rw [if_neg (by rw [hw]; simp)]
    exact ⟨habout, skip hc⟩
  have guarded : ∀ (j : Nat) (wnt b : Bool), o.guard = some (j, wnt) → gv ops a j = some b → (b = wnt → Does P o a H C) → (b ≠ wnt → C (.t []) H) → wpOpIn Fe n P ops Q i Kr act w := fun j wnt b hg hb h1 h2 => by
    have hw : Region.wanted o (yielded ops act.tmps) = (b == wnt) := by
      simp [Region.wanted, hg, gv_ok hr.vf hb]
    unfold wpOpIn
    simp only [ho]
    by_cases e : b = wnt
    · rw [if_pos (by rw [hw]; simp [e])]; exact run (h1 e)
    · rw [if_neg (by rw [hw]; simp [e])]; exact ⟨habout, skip (h2 e)⟩
  have plain : o.guard = none → Does P o a H C → wpOpIn Fe n P ops Q i Kr act w := fun hg hd => by
    unfold wpOpIn
    simp only [ho]
    rw [if_pos (by simp [Region.wanted, hg])]
    exact run hd
  unfold EX at h
  cases hc : cls pc o with
  | pure =>
    rw [hc] at h
    obtain ⟨r, hs, hC⟩ := h
    unfold stepV at hs
    split at hs
    · rename_i hg; exact plain hg (pureF_ok E hs hC)
    · rename_i j wnt hg
      split at hs
      · rename_i b hb
        refine guarded j wnt b hg hb (fun e => ?_) (fun e => ?_)
        · rw [if_pos e] at hs; exact pureF_ok E hs hC
        · rw [if_neg e] at hs; cases hs; exact hC
      · split at hs
        · rename_i hu; cases hs; exact unmet j wnt hg hu hC
        · cases hs
  | make =>
    rw [hc] at h
    obtain ⟨g, hg, hC⟩ := h
    have : o.guard = none := by
      unfold cls at hc
      cases h1 : clsO pc o.op <;> cases hgd : o.guard <;> simp [h1, hgd] at hc ⊢
    exact plain this (mkV_ok hg hC)
  | gen =>
    rw [hc] at h
    simp only at h
    unfold GT at h
    split at h
    · rename_i hg; exact plain hg (EO_ok E h)
    · rename_i j wnt hg
      split at h
      · rename_i b hb
        exact guarded j wnt b hg hb (fun e => EO_ok E (h.1 e)) (fun e => h.2 (by cases b <;> cases wnt <;> simp_all))
      · exact unmet j wnt hg h.1 h.2

def dir (ops : Array Oper) (i : Nat) : List Nat :=
  match ops[i]? with
  | some o => (o.after.toList.filter (Region.binds .any)).map (·.on)
  | none => []
def pw (ops : Array Oper) (pc : FuncId → Bool) (A : List (List Nat)) : List En → Bool
  | [] => true
  | e :: l => l.all (fun e' => (A.getD e'.1 []).contains e.1 || okPair ops pc e e') && pw ops pc A l
def chk (ops : Array Oper) (pc : FuncId → Bool) (L : List En) (A : List (List Nat)) : Bool :=
  (List.range ops.size).all (fun i => (L.map (·.1)).contains i && (dir ops i).all (· < i) && (A.getD i []).all fun j => (dir ops i).contains j || (dir ops i).any fun d => (A.getD d []).contains j) &&
  (L.map (·.1)).all (· < ops.size) && decide (L.length = ops.size) && decide ((L.map (·.1)).Nodup) && pw ops pc A L

theorem pw_split {A : List (List Nat)} {e : En} {post : List En} : ∀ (pre : List En), pw ops pc A (pre ++ e :: post) = true → (∀ x ∈ pre, (A.getD e.1 []).contains x.1 = true ∨ okPair ops pc x e = true) ∧ pw ops pc A (pre ++ post) = true
  | [], h => by simp only [List.nil_append, pw, Bool.and_eq_true] at h ⊢; exact ⟨by simp, h.2⟩
  | x :: pre, h => by
    simp only [List.cons_append, pw, Bool.and_eq_true, List.all_eq_true] at h ⊢
    obtain ⟨h1, h2⟩ := h
    obtain ⟨g1, g2⟩ := pw_split pre h2
    refine ⟨fun y hy => ?_, fun y hy => ?_, g2⟩
    · rcases List.mem_cons.1 hy with rfl | hy
      · have := h1 e (by simp)
        rwa [Bool.or_eq_true] at this
      · exact g1 y hy
    · refine h1 y ?_
      rcases List.mem_append.1 hy with hy | hy
      · exact List.mem_append.2 (.inl hy)
      · exact List.mem_append.2 (.inr (List.mem_cons.2 (.inr hy)))

theorem run_any (hF : Wide Fe) {A : List (List Nat)} (hdir : ∀ i, i < ops.size → ∀ d ∈ dir ops i, d < i) (hA : ∀ i, i < ops.size → ∀ j ∈ A.getD i [], j ∈ dir ops i ∨ ∃ d ∈ dir ops i, j ∈ A.getD d [])
    {F : Mem} {H0 : Heap} {w0 : World} (hQ : ∀ act w, Goes F H0 w0 B N K act w → Q .normal act w) :
    ∀ (fuel : Nat) (L : List En) (listed : Array Bool) (a : Nat → AV) (H : Heap) (act : Act) (w : World) (F1 : Mem), L.length ≤ fuel → listed.size = ops.size → pw ops pc A L = true → (∀ i, i < ops.size → (listed.getD i true = false ↔ i ∈ L.map (·.1))) → (∀ e ∈ L, e.1 < ops.size) → (L.map (·.1)).Nodup →
      (∀ k, k < ops.size → listed.getD k true = true → ∀ j ∈ A.getD k [], listed.getD j true = true) →
      LR E N ops pc L a H [] K → Rel F1 B N a H act w → Ext F H0 w0 F1 H w → wpAnyIn Fe n P .any ops Q fuel listed act w := by
  have none_left : ∀ (L : List En) (listed : Array Bool), listed.size = ops.size → (∀ i, i < ops.size → (listed.getD i true = false ↔ i ∈ L.map (·.1))) → (∀ e ∈ L, e.1 < ops.size) → (L = [] → Region.ready .any ops listed = []) ∧ (Region.ready .any ops listed = [] → L = []) := by
    intro L listed hsize hm hlt
    constructor
    · rintro rfl
      cases hr : Region.ready .any ops listed with
      | nil => rfl
      | cons i rs =>
        have : i ∈ Region.ready .any ops listed := by rw [hr]; simp
        obtain ⟨h1, o, ho, _⟩ := mem_ready.1 this
        have := (hm i (Array.getElem?_eq_some_iff.1 ho).1).1 h1
        simp at this
    · intro hr
      cases L with
      | nil => rfl
      | cons e L =>
        exfalso
        -- the least one that is left is ready
        have least : ∃ m, m ∈ (e :: L).map (·.1) ∧ ∀ k ∈ (e :: L).map (·.1), m ≤ k := by
          generalize hX : (e :: L).map (·.1) = X
          have hne : X ≠ [] := by rw [← hX]; simp
          clear hX hr hm hlt
          induction X with
          | nil => exact absurd rfl hne
          | cons x X ih =>
            by_cases hX : X = []
            · subst hX; exact ⟨x, by simp, by simp⟩
            · obtain ⟨m, h1, h2⟩ := ih hX
              by_cases hxm : x ≤ m
              · exact ⟨x, by simp, fun k hk => by
                  rcases List.mem_cons.1 hk with rfl | hk
                  · exact Nat.le_refl _
                  · exact Nat.le_trans hxm (h2 k hk)⟩
              · exact ⟨m, by simp [h1], fun k hk => by
                  rcases List.mem_cons.1 hk with rfl | hk
                  · omega
                  · exact h2 k hk⟩
        obtain ⟨m, hm1, hm2⟩ := least
        have hms : m < ops.size := by
          obtain ⟨x, hx, rfl⟩ := List.mem_map.1 hm1
          exact hlt x hx
        have : m ∈ Region.ready .any ops listed := by
          refine mem_ready.2 ⟨(hm m hms).2 hm1, ops[m], Array.getElem?_eq_getElem hms, fun ed hed hb => ?_⟩
          have hd : ed.on ∈ dir ops m := by
            unfold dir; rw [Array.getElem?_eq_getElem hms]
            exact List.mem_map.2 ⟨ed, List.mem_filter.2 ⟨Array.mem_toList_iff.2 hed, hb⟩, rfl⟩
          have hlt' := hdir m hms _ hd
          cases hl : listed.getD ed.on true with
          | true =>
            have h0 := hl
            have hsz : ed.on < ops.size := by omega
            cases hl2 : listed.getD ed.on false with
            | true => rfl
            | false =>
              exfalso
              rw [Array.getD_eq_getD_getElem?] at hl hl2
              cases hx : listed[ed.on]? with
              | some b => rw [hx] at hl hl2; simp at hl hl2; rw [hl] at hl2; cases hl2
              | none =>
                have := Array.getElem?_eq_none_iff.1 hx
                omega
          | false =>
            exfalso
            have := (hm ed.on (by omega)).1 hl
            have := hm2 _ this
            omega
        rw [hr] at this; cases this
  intro fuel
  induction fuel with
  | zero =>
    intro L listed a H act w F1 hlen hsize hpw hm hlt hnd hcl h hr he
    have : L = [] := List.eq_nil_of_length_eq_zero (by omega)
    subst this
    exact ⟨(none_left [] listed hsize hm hlt).1 rfl, hQ _ _ ⟨F1, a, H, hr, he, h⟩⟩
  | succ fuel ih =>
    intro L listed a H act w F1 hlen hsize hpw hm hlt hnd hcl h hr he
    refine ⟨fun hrd => ?_, fun i hi => ?_⟩
    · have := (none_left L listed hsize hm hlt).2 hrd
      subst this
      exact hQ _ _ ⟨F1, a, H, hr, he, h⟩
    · obtain ⟨hun, oi, hoi, hdeps⟩ := mem_ready.1 hi
      have his : i < ops.size := (Array.getElem?_eq_some_iff.1 hoi).1
      obtain ⟨⟨i', rc, us⟩, hmem, rfl⟩ := List.mem_map.1 ((hm i his).1 hun)
      obtain ⟨pre, post, rfl⟩ := List.append_of_mem hmem
      obtain ⟨hpair, hpw'⟩ := pw_split pre hpw
      simp only at hun hoi hdeps his
      have hget : ∀ k, k < ops.size → listed.getD k true = listed.getD k false := fun k hk => by
        rw [Array.getD_eq_getD_getElem?, Array.getD_eq_getD_getElem?, Array.getElem?_eq_getElem (by omega)]; rfl
      have hdl : ∀ d ∈ dir ops i', listed.getD d true = true := fun d hd => by
        have hd2 := hd
        unfold dir at hd
        rw [hoi] at hd
        obtain ⟨ed, hed, rfl⟩ := List.mem_map.1 hd
        obtain ⟨h1, h2⟩ := List.mem_filter.1 hed
        have h3 := hdir i' his _ hd2
        rw [hget _ (by omega)]
        exact hdeps ed (Array.mem_toList_iff.1 h1) h2
      have hanc : ∀ j ∈ A.getD i' [], listed.getD j true = true := fun j hj => by
        rcases hA i' his j hj with h1 | ⟨d, h1, h2⟩
        · exact hdl j h1
        · have h3 := hdir i' his d h1
          exact hcl d (by omega) (hdl d h1) j h2
      have hok : ∀ e ∈ pre, okPair ops pc e (i', rc, us) = true := fun e hep => by
        rcases hpair e hep with h1 | h1
        · exfalso
          have h2 := hanc e.1 (by simpa using h1)
          have h3 := hlt e (by simp [hep])
          have h4 := (hm e.1 h3).2 (List.mem_map.2 ⟨e, by simp [hep], rfl⟩)
          rw [h2] at h4; cases h4
        · exact h1
      obtain ⟨hdok, hex⟩ := front hoi pre a H [] hok hr.sat.fin (by simp) h
      refine EX_run hF hoi hex hr ?_
      rintro F' r v H' w' h1 h2 h3 ⟨_, h4⟩
      have hdok' : ∀ d, oi.dst = some d → d < N := fun d e => by rw [e] at hdok; simpa [dok] using hdok
      have hset : ∀ k, k < ops.size → (listed.setIfInBounds i' true).getD k true = if k = i' then true else listed.getD k true := fun k hk => by
        rw [Array.getD_eq_getD_getElem?, Array.getD_eq_getD_getElem?]
        by_cases e : k = i'
        · subst e; simp [hsize, his]
        · rw [if_neg e, Array.getElem?_setIfInBounds_ne (Ne.symm e)]
      have hnd' : i' ∉ (pre ++ post).map (·.1) ∧ ((pre ++ post).map (·.1)).Nodup := by
        rw [List.map_append, List.map_cons] at hnd
        rw [List.map_append]
        have hp : (pre.map (·.1) ++ (i', rc, us).1 :: post.map (·.1)).Perm ((i', rc, us).1 :: (pre.map (·.1) ++ post.map (·.1))) := List.perm_middle
        have := hp.nodup_iff.1 hnd
        rw [List.nodup_cons] at this
        exact this
      refine ih (pre ++ post) _ _ H' _ w' F' (by simp at hlen ⊢; omega) (by simp [hsize]) hpw' (fun k hk => ?_) (fun e he' => hlt e ?_) hnd'.2 (fun k hk hkl j hj => ?_) h4 (hr.step hdok' h1 h2 h3) (he.trans h3)
      · rw [hset k hk]
        by_cases e : k = i'
        · subst e; simp only [if_true]
          exact ⟨fun h => (by cases h), fun h => absurd h hnd'.1⟩
        · rw [if_neg e, hm k hk]
          simp only [List.map_append, List.map_cons, List.mem_append, List.mem_cons, e, false_or]
      · rcases List.mem_append.1 he' with h5 | h5
        · exact List.mem_append.2 (.inl h5)
        · exact List.mem_append.2 (.inr (List.mem_cons.2 (.inr h5)))
      · have keep : listed.getD j true = true → (listed.setIfInBounds i' true).getD j true = true := fun hl => by
          by_cases hjs : j < ops.size
          · rw [hset j hjs]; split
            · rfl
            · exact hl
          · rw [Array.getD_eq_getD_getElem?, Array.getElem?_eq_none (by simp; omega)]; rfl
        rw [hset k hk] at hkl
        by_cases e : k = i'
        · subst e; exact keep (hanc j hj)
        · rw [if_neg e] at hkl; exact keep (hcl k hk hkl j hj)

theorem AW_region_draw (E : Env P) (pc : FuncId → Bool) (L : List En) (A : List (List Nat)) (hmix : P.follows .mixedOrders = true) {id : Nat} (hc : chk ops pc L A = true) {a : Nat → AV} {H : Heap} {Q : Post}
    (h : LR E N ops pc L a H [] (fun a' H' => Q .normal a' H')) : AW P N (.region id ops true) a H Q := by
  intro Fe n hF B F w act hr
  unfold chk at hc
  simp only [Bool.and_eq_true, List.all_eq_true, List.mem_range, decide_eq_true_eq, Bool.or_eq_true, List.any_eq_true, List.contains_iff_mem] at hc
  obtain ⟨⟨⟨⟨h1, h2⟩, h3⟩, h5⟩, h4⟩ := hc
  have hr' : Rel F ⟨B, Fe.round⟩ N a H act w.drew := ⟨hr.dfr, hr.low, hr.rnd, hr.size, hr.vf, hr.sat.drew⟩
  refine wpIn_region_any hmix (run_any (E := E) (pc := pc) (A := A) (K := fun a' H' => Q .normal a' H') hF (fun i hi => (h1 i hi).1.2) (fun i hi j hj => (h1 i hi).2 j hj) (F := F) (H0 := H) (w0 := w) ?_ ops.size L _ a H act w.drew F (by omega) (by simp) h4 ?_ (fun e he => h2 e.1 (List.mem_map.2 ⟨e, he, rfl⟩)) ?_ ?_ h hr' (Ext.drew F H w))
  · rintro act' w' ⟨F', a', H', g1, g2, g3⟩
    exact ⟨F', a', H', g1, g2, g3⟩
  · intro i hi
    have : (Array.replicate ops.size false).getD i true = false := by simp [Array.getD, hi]
    rw [this]
    exact ⟨fun _ => (h1 i hi).1.1, fun _ => rfl⟩
  · exact h5
  · intro k hk hl
    have : (Array.replicate ops.size false).getD k true = false := by simp [Array.getD, hk]
    rw [this] at hl; cases hl
end
end Go.Proofs.Ytlbdpnlmdcajbaa

/- Rounds: calls of yield, iterators, ranges over functions. -/
namespace Go.Proofs.Ytlbdpnlmdcajbaa
open Go.RowKit
set_option linter.all false

section
variable {F F' : Mem} {H H' : Heap} {w w' : World}

theorem Ext.over {l : Nat} {k k' : Blk} (h : Ext F H w F' H' w') : Ext F (upd H l k) w F' (upd H' l k') w' :=
  ⟨h.os, h.tape, h.output, h.size, fun n hn hH => h.block n hn (upd_none.1 hH).2, fun n x hx => by
    by_cases e : n = l
    · subst e; left; rw [upd_same]; simp
    · rw [upd_ne e] at hx
      rcases h.new n x hx with g | g
      · left; rw [upd_ne e]; exact g
      · exact .inr g, h.le, fun b o v hv => by
    rcases h.frz b o v hv with g | g | g
    · exact .inl g
    · right; left
      by_cases e : b = l
      · subst e; rw [upd_same]; simp
      · rw [upd_ne e]; exact g
    · exact .inr (.inr g)⟩

theorem Ext.put {l : Nat} {k k' : Blk} (o : Obj) : Ext F (upd H l k) w F (upd H l k') (w.putObj l o) :=
  ⟨rfl, rfl, rfl, by simp, fun n hn hH => World.putObj_heap_other (upd_none.1 hH).1, fun n x hx => by
    left
    by_cases e : n = l
    · subst e; rw [upd_same]; simp
    · rw [upd_ne e] at hx ⊢; rw [hx]; simp, Mem.le.refl F, fun b o v hv => .inl hv⟩

theorem Sat.off_loop (h : Sat F H w) {l : Nat} {r : Loop} (hl : w.heap[l]? = some (.loop r)) : ∀ o v, F l o = some v → False := fun o v hF => by
  have := h.mem l o v hF
  simp [World.cell?, hl] at this

theorem Sat.putm (h : Sat F H w) {l : Nat} {r : Loop} (hl : w.heap[l]? = some (.loop r)) (hn : H l = none) (o : Obj) : Sat F H (w.putObj l o) :=
  ⟨fun b o' v hb => by
    have := h.mem b o' v hb
    rw [← this]
    exact World.cell?_of_block (World.putObj_heap_other (by rintro rfl; exact h.off_loop hl o' v hb)), h.off, fun n k hk => (h.blk n k hk).heap (World.putObj_heap_other (by rintro rfl; rw [hn] at hk; cases hk))⟩

theorem Sat.updm (h : Sat F H w) {l : Nat} {o : Obj} (hl : w.heap[l]? = some o) (ho : o.isCells = false) (hn : H l = none) {M : Mem} (hM : M.le F) : Sat F (upd H l (.m o M)) w :=
  ⟨h.mem, fun b o' v k hF hk => by
    by_cases e : b = l
    · subst e
      have := h.mem b o' v hF
      cases o <;> simp [World.cell?, hl] at this
      cases ho
    · rw [upd_ne e] at hk; exact h.off b o' v k hF hk, fun n k hk => by
    by_cases e : n = l
    · subst e; rw [upd_same] at hk; cases hk; exact ⟨hl, hM⟩
    · rw [upd_ne e] at hk; exact h.blk n k hk⟩

theorem le_upd_new {H : Heap} {n : Nat} {k : Blk} (h : H n = none) : Heap.le H (upd H n k) := fun m x hm => by
  rw [upd_ne (by rintro rfl; rw [h] at hm; cases hm)]; exact hm
theorem Heap.le_refl (H : Heap) : Heap.le H H := fun _ _ h => h
theorem Heap.le_trans {A B C : Heap} (h : Heap.le A B) (k : Heap.le B C) : Heap.le A C := fun n x hx => k n x (h n x hx)
theorem Ext.less {H2 : Heap} (h : Ext F H w F' H' w') (hl : Heap.le H2 H') : Ext F H w F' H2 w' :=
  ⟨h.os, h.tape, h.output, h.size, h.block, fun n k hn => h.new n k (hl n k hn), h.le, h.frz⟩
theorem upd_join (A B : Heap) (n : Nat) (k : Blk) : upd (join A B) n k = join (upd A n k) B := by
  funext m; unfold upd join; by_cases e : m = n <;> simp [e]
theorem join_upd_get (A B : Heap) (n m : Nat) (k : Blk) : join (upd A n k) B m = if m = n then some k else join A B m := by
  rw [← upd_join]; rfl
theorem join_emp (B : Heap) : join (fun _ => none) B = B := by funext m; simp [join]
theorem join_none_iff {A B : Heap} {n : Nat} : join A B n = none ↔ A n = none ∧ B n = none := by
  unfold join; cases A n <;> simp
theorem Apart.emp (B : Heap) : Apart (fun _ => none) B := fun _ => .inl rfl
theorem Apart.upd {A B : Heap} (h : Apart A B) {n : Nat} (k : Blk) (hB : B n = none) : Apart (upd A n k) B := fun m => by
  by_cases e : m = n
  · subst e; exact .inr hB
  · rw [upd_ne e]; exact h m
end

def AYield (P : Program) (l : Nat) (args : List AV) (H : Heap) (K : Bool → Heap → Prop) : Prop :=
  ∀ (F : Mem) (w : World) (cs : List Value), Vs F args cs → Sat F H w →
    YieldAt Fence.wide 6 P l cs.toArray w fun e w' => ∃ b F' H', e = .returned (.bool b) ∧ Sat F' H' w' ∧ Ext F H w F' H' w' ∧ K b H'

theorem AYield.mono {P : Program} {l : Nat} {args : List AV} {H : Heap} {K K' : Bool → Heap → Prop} (h : AYield P l args H K) (hk : ∀ b H', K b H' → K' b H') : AYield P l args H K' :=
  fun F w cs hv hs => let ⟨fn, t, asg, bd, h1, h2⟩ := h F w cs hv hs
    ⟨fn, t, asg, bd, h1, h2.mono fun e w' ⟨b, F', H', e1, e2, e3, e4⟩ => ⟨b, F', H', e1, e2, e3, hk _ _ e4⟩⟩

theorem AYield.frame {P : Program} {l : Nat} {args : List AV} {A B : Heap} {K : Bool → Heap → Prop} (hap : Apart A B) (h : AYield P l args B K) : AYield P l args (join A B) (fun b H' => ∃ B', H' = join A B' ∧ Apart A B' ∧ K b B') :=
  fun F w cs hv hs => let ⟨fn, t, asg, bd, h1, h2⟩ := h F w cs hv (hs.less (le_join_right hap))
    ⟨fn, t, asg, bd, h1, h2.mono fun e w' ⟨b, F', H', e1, e2, e3, e4⟩ => by
      obtain ⟨g1, g2, g3⟩ := beside hap hs e2 e3
      exact ⟨b, F', _, e1, g2, g3, H', rfl, g1, e4⟩⟩

theorem RoundIn.to_wide {Fe : Fence} {n m : Nat} {P : Program} {l : Nat} {f : FuncId} {tmps : Array Value} {asg bd : Code} {w : World} {R : Ending → World → Prop} (hF : Wide Fe) (h : RoundIn Fence.wide m P l f tmps asg bd w R) : RoundIn Fe n P l f tmps asg bd w R := by
  rcases hF with rfl | ⟨l', rfl⟩
  · exact ⟨trivial, fun c cs _ => h.2 c cs (fun d hx => by cases hx)⟩
  · exact ⟨trivial, fun c cs _ => h.2 c cs (fun d hx => by cases hx)⟩

section
variable {P : Program} {o : Oper} {a : Nat → AV} {H : Heap} {K : AV → Heap → Prop}
theorem does_yield {c : Operand} {l : Nat} {xs : Array Operand} {ts : Array TypeId} (ho : o.op = .call { callee := .value c, args := xs, argTypes := ts }) (hc : ev a c = .c (.func (.yield l) #[] #[]))
    (h : AYield P l (xs.toList.map (ev a)) H (fun b H' => K (.c (.bool b)) H')) : Does P o a H K := by
  intro Fe n hF F w act hv hs
  have hcs : Vs F (xs.toList.map (ev a)) (xs.map act.eval).toList := evs_ok fun x hx => hv.ev x (by simp only [ho, Op.operands, Call.operands, Array.toList_append]; exact List.mem_append_right _ hx)
  obtain ⟨fn, t, asg, bd, h1, h2⟩ := h F w _ hcs hs
  rw [Array.toArray_toList] at h1
  refine ⟨fun f _ => hF.fn f, ?_⟩
  rw [Oper.semAt_eq _ _ _ (fun c => by simp [ho])]
  have e : (execOp act.eval o).run P w = .ok (.round l fn t asg bd) w := by
    simp only [execOp, ho, resolve, hv.c hc, Deferred.ofValue]
    simp [Sem.run_bind, invoke, h1]
  rw [e]
  refine ⟨fun hx => (by rw [hF.depth] at hx; cases hx), RoundIn.to_wide hF (h2.mono ?_)⟩
  rintro e w' ⟨b, F', H', rfl, g1, g2, g3⟩
  exact ⟨.bool b, F', H', .c (.bool b), rfl, .c _, g1, g2, g3⟩
end

def AIter (P : Program) (gf : FuncId) (caps : List AV) (xs : List (List AV)) (A : Heap) (S Sp : Heap → Prop) : Prop :=
  Ent P gf ∧ ∀ (l : Nat) (J : Nat → Heap → Prop) (Jx : Heap → Prop),
    (∀ k (h : k < xs.length) B, J k B → AYield P l xs[k] B (fun b B' => (b = true ∧ J (k + 1) B') ∨ (b = false ∧ Jx B'))) →
    ∀ B, Apart A B → J 0 B → ACall P gf (.c (.func (.yield l) #[] #[]) :: caps) (join A B) fun _ H' => ∃ A' B', H' = join A' B' ∧ Apart A' B' ∧ ((S A' ∧ J xs.length B') ∨ (Sp A' ∧ Jx B'))

def putAll (a : Nat → AV) : List Nat → List AV → Nat → AV
  | p :: ps, v :: vs => putAll (put a (some p) v) ps vs
  | _, _ => a

theorem putAll_ok {F : Mem} {N : Nat} : ∀ (ps : List Nat) (vs : List AV) (cs : List Value) (a : Nat → AV) (t : Array Value), t.size = N → (∀ p ∈ ps, p < N) → Vs F vs cs → (∀ s, V F (a s) (t.getD s undef)) →
    ((ps.zip cs).foldl (fun t (p, v) => t.setIfInBounds p v) t).size = N ∧ ∀ s, V F (putAll a ps vs s) (((ps.zip cs).foldl (fun t (p, v) => t.setIfInBounds p v) t).getD s undef)
  | [], vs, cs, a, t, hs, hp, hv, ha => ⟨hs, by simpa only [putAll, List.zip_nil_left, List.foldl_nil] using ha⟩
  | p :: ps, [], cs, a, t, hs, hp, hv, ha => by
    rw [hv.nil_inv]; exact ⟨hs, by simpa only [putAll, List.zip_nil_right, List.foldl_nil] using ha⟩
  | p :: ps, v :: vs, cs, a, t, hs, hp, hv, ha => by
    obtain ⟨c, cs', rfl, h1, h2⟩ := hv.cons_inv
    simp only [List.zip_cons_cons, List.foldl_cons, putAll]
    refine putAll_ok ps vs cs' _ _ (by simp [hs]) (fun q hq => hp q (by simp [hq])) h2 (fun s => ?_)
    rw [put_some]
    split
    · rename_i e; subst e
      have := hp s (by simp)
      simp [Array.getD, hs, this]; exact h1
    · rename_i e
      have : (t.setIfInBounds p c).getD s undef = t.getD s undef := by
        simp [Array.getD_eq_getD_getElem?, Array.getElem?_setIfInBounds_ne (Ne.symm e)]
      rw [this]; exact ha s

def roundQ (I : Heap → Prop) (Ix : Exit → Heap → Prop) : Post
  | .normal, _, H => I H
  | .ret, _, H => Ix .ret H
  | .exit id, _, H => Ix (.exit id) H
  | _, _, _ => False

theorem AW_range {P : Program} {N : Nat} {a : Nat → AV} {H : Heap} {Q : Post} {g : Operand} {ps : Array Tmp} {assign body : Code} {gf : FuncId} {caps : List AV} {xs : List (List AV)} {A B : Heap} {S Sp : Heap → Prop}
    (hg : ev a g = .f (.func gf) [] caps) (hit : AIter P gf caps xs A S Sp) (hap : Apart A B) (hH : Heap.le (join A B) H) (hps : ∀ x ∈ xs, x.length = ps.size) (hpN : ∀ p ∈ ps.toList, p < N)
    (I : Nat → Heap → Prop) (Ix : Exit → Heap → Prop) (h0 : I 0 B)
    (round : ∀ k (h : k < xs.length) B1, I k B1 → AW P N assign (putAll a ps.toList xs[k]) B1 (thenA (fun a1 B2 => AW P N body a1 B2 (roundQ (I (k + 1)) Ix)) (fun _ _ _ => False)))
    (done : ∀ A' B', Apart A' B' → S A' → I xs.length B' → Q .normal a (join A' B'))
    (stop : ∀ e A' B', Apart A' B' → Sp A' → Ix e B' → Q e a (join A' B')) : AW P N (.rangeFunc g ps assign body) a H Q := by
  intro Fe n hF lo F w act hr
  refine wpIn_rangeFunc ?_
  intro fn hfn
  -- the record and the mark
  obtain ⟨l, mk, dD, W1, hent, hsz, hll, hrec, hold, hos, htp, hou, hmk⟩ : ∃ (l : Nat) (mk : List Deferred) (dD : Nat) (W1 : World),
      (Instr.enterLoop fn act.tmps ps assign body Fe.round).run P w = .ok (l, mk) W1 ∧ w.heap.size ≤ W1.heap.size ∧ w.heap.size ≤ l ∧
      W1.heap[l]? = some (.loop { state := .ready, pending := none, fn, tmps := act.tmps, params := ps, assign, body, defers := dD }) ∧ (∀ k, k < w.heap.size → W1.heap[k]? = w.heap[k]?) ∧ W1.os = w.os ∧ W1.tape = w.tape ∧ W1.output = w.output ∧
      (mk = [] ∨ ∃ D, mk = [mark D] ∧ w.heap.size ≤ D ∧ D ≠ l ∧ W1.heap[D]? = some (.deferred (some []))) := by
    rcases hF with rfl | ⟨l0, rfl⟩
    · refine ⟨_, _, w.heap.size, _, run_enterLoop_outer fn act.tmps ps assign body, by simp; omega, by omega, ?_, ?_, rfl, rfl, rfl, .inr ⟨w.heap.size, rfl, Nat.le_refl _, by omega, ?_⟩⟩
      · have := World.alloc_heap_new (w.alloc (.deferred (some []))) (.loop { state := .ready, pending := none, fn, tmps := act.tmps, params := ps, assign, body, defers := w.heap.size }); rwa [World.size_alloc] at this
      · intro k hk
        exact (Below.heap_alloc _ _ _ (by simp; omega)).trans (Below.heap_alloc w _ k hk)
      · exact (Below.heap_alloc _ _ _ (by simp)).trans (World.alloc_heap_new w _)
    · obtain ⟨⟨r0, hl0⟩, _⟩ := hr.rnd l0 rfl
      exact ⟨_, _, _, _, run_enterLoop_inner hl0 fn act.tmps ps assign body, by simp, Nat.le_refl _, World.alloc_heap_new w _, fun k hk => Below.heap_alloc w _ k hk, rfl, rfl, rfl, .inl rfl⟩
  obtain ⟨rec, hrc⟩ : ∃ rec : LoopState → Option Code → Loop, rec = fun st pe => { state := st, pending := pe, fn, tmps := act.tmps, params := ps, assign, body, defers := dD } := ⟨_, rfl⟩
  have hrec1 : W1.heap[l]? = some (.loop (rec .ready none)) := by rw [hrc]; exact hrec
  clear hrec
  have hgv := hr.vf.ev g
  rw [hg] at hgv
  obtain ⟨cs, ds, hgl, hcs, hds⟩ := hgv.f_inv
  obtain rfl : cs = #[] := by
    have := hcs.nil_inv
    exact Array.toList_eq_nil_iff.1 this
  have hHl : ∀ k, w.heap.size ≤ k → H k = none := fun k hk => hr.sat.fresh hk
  have hjn : ∀ k, H k = none → A k = none ∧ B k = none := fun k hk => by
    refine join_none_iff.1 ?_
    cases hx : join A B k with
    | none => rfl
    | some y => rw [hH k y hx] at hk; cases hk
  obtain ⟨hAl, hBl⟩ := hjn l (hHl l hll)
  have sat0 : Sat F (join A B) W1 := by
    have h1 := hr.sat.less hH
    refine ⟨fun b o v hb => ?_, h1.off, fun m k hk => (h1.blk m k hk).heap (hold m (h1.lt hk))⟩
    have := h1.mem b o v hb
    rw [← this]; exact World.cell?_of_block (hold b (cell_lt this))
  obtain ⟨kR, hkR⟩ : ∃ kR : Blk, kR = .m (.loop (rec .ready none)) F := ⟨_, rfl⟩
  have sat1 : Sat F (join A (upd B l kR)) W1 := by
    have := sat0.updm hrec1 rfl (join_none_iff.2 ⟨hAl, hBl⟩) (Mem.le.refl F)
    rw [← hkR] at this
    have e : upd (join A B) l kR = join A (upd B l kR) := by
      funext m; unfold upd join
      by_cases em : m = l
      · subst em; simp [hAl]
      · simp [em]
    rwa [e] at this
  have hap1 : Apart A (upd B l kR) := fun m => by
    by_cases em : m = l
    · subst em; exact .inl hAl
    · rw [upd_ne em]; exact hap m
  have code : ∀ e : Exit, (∃ c, (e = .ret ∧ c = Code.ret) ∨ (∃ id, e = .exit id ∧ c = Code.exit id)) → True := fun _ _ => trivial
  refine ⟨l, mk, W1, { target := .fn (.func gf) ds, args := #[.func (.yield l) #[] #[]] }, W1, gf, #[.func (.yield l) #[] #[]] ++ ds, W1, hent, ?_, fun _ _ => hF.fn _, ?_, fun hx => (by rw [hF.depth] at hx; cases hx), ?_⟩
  · simp only [resolve, hgl]
    simp [go_sem]
  · simp [invoke, go_sem, hit.1 _ _]
  -- the iterator
  obtain ⟨J, hJ⟩ : ∃ J : Nat → Heap → Prop, J = fun k B' => ∃ B0, B' = upd B0 l kR ∧ B0 l = none ∧ I k B0 := ⟨_, rfl⟩
  obtain ⟨Jx, hJx⟩ : ∃ Jx : Heap → Prop, Jx = fun B' => ∃ B0 c e, B' = upd B0 l (.m (.loop (rec .done (some c))) F) ∧ B0 l = none ∧ ((e = Exit.ret ∧ c = Code.ret) ∨ ∃ id, e = Exit.exit id ∧ c = Code.exit id) ∧ Ix e B0 := ⟨_, rfl⟩
  have rounds : ∀ k (h : k < xs.length) B', J k B' → AYield P l xs[k] B' (fun b B' => (b = true ∧ J (k + 1) B') ∨ (b = false ∧ Jx B')) := by
    intro k hk B' hB'
    rw [hJ] at hB'
    obtain ⟨B0, rfl, hB0, hI⟩ := hB'
    intro F1 w1 vs hvs hs1
    have hb := hs1.blk l kR (upd_same _ _ _)
    rw [hkR] at hb
    obtain ⟨hl1, hFF⟩ := hb
    have hlen : vs.toArray.size = (rec .ready none).params.size := by
      have h1 := hvs.1
      have h2 := hps _ (List.getElem_mem hk)
      rw [hrc]; simp; omega
    have hy := run_yield (P := P) (args := vs.toArray) hl1 hlen
    refine ⟨_, _, _, _, hy, roundIn_of_wpIn trivial ?_⟩
    have hsB : Sat F1 B0 w1 := hs1.less (le_upd_new hB0)
    obtain ⟨p1, p2⟩ := putAll_ok (F := F1) (N := N) ps.toList xs[k] vs a act.tmps hr.size hpN hvs (fun s => (hr.vf s).mono hFF)
    have efold : ((rec .ready none).params.zip vs.toArray).foldl (fun tmps (x : Tmp × Value) => tmps.setIfInBounds x.1 x.2) (rec .ready none).tmps = (ps.toList.zip vs).foldl (fun t (x : Nat × Value) => t.setIfInBounds x.1 x.2) act.tmps := by
      rw [hrc]; rw [← Array.foldl_toList]; simp [Array.toList_zip]
    have r1 : Rel F1 ⟨0, (Fence.wide.inRound l).round⟩ N (putAll a ps.toList xs[k]) B0 { tmps := ((rec .ready none).params.zip vs.toArray).foldl (fun tmps (t, x) => tmps.setIfInBounds t x) (rec .ready none).tmps, defers := [] } w1 :=
      ⟨⟨[], rfl, by simp, by simp⟩, Nat.zero_le _, fun l' hl' => by cases hl'; exact ⟨⟨_, hl1⟩, hB0⟩, by rw [← p1, ← efold], fun s => by
        have := p2 s
        rw [← efold] at this
        exact this, hsB⟩
    have hfi : ∀ (q : Loop) , (rec .ready none).assign = assign := fun _ => by rw [hrc]
    have hA1 := round k hk B0 hI (Fence.wide.inRound l) 6 (.inr ⟨l, rfl⟩) 0 F1 w1 _ r1
    rw [show (rec .ready none).assign = assign by rw [hrc], show (rec .ready none).body = body by rw [hrc]]
    refine wpIn_mono hA1 ?_
    rintro e a1 wa ⟨F2, av, B1, q1, q2, q3⟩
    cases e with
    | normal =>
      have hla : wa.heap[l]? = some (.loop (rec .ready none)) := (q2.block l (lt_of_get hl1) hB0).trans hl1
      have hB1 : B1 l = none := (q1.rnd l rfl).2
      refine ⟨_, run_beginRound hla (by rw [hrc]), ?_⟩
      have hlb : (wa.putObj l (.loop { rec .ready none with state := .busy })).heap[l]? = some (.loop { rec .ready none with state := .busy }) := World.putObj_heap_same (lt_of_get hla)
      have r2 : Rel F2 ⟨0, (Fence.wide.inRound l).round⟩ N av B1 a1 (wa.putObj l (.loop { rec .ready none with state := .busy })) := by
        obtain ⟨⟨Ds, d1, d2, d3⟩, z2, z3, z4, z5, z6⟩ := q1
        refine ⟨⟨Ds, d1, d2, fun D hD => ?_⟩, by simp, fun l' hl' => by cases hl'; exact ⟨⟨_, hlb⟩, hB1⟩, z4, z5, z6.putm hla hB1 _⟩
        obtain ⟨g1, g2, g3⟩ := d3 D hD
        exact ⟨(World.putObj_heap_other (by rintro rfl; rw [hla] at g1; cases g1)).trans g1, g2, g3⟩
      refine wpIn_mono (q3 (Fence.wide.inRound l) 6 (.inr ⟨l, rfl⟩) 0 F2 _ _ r2) ?_
      rintro e2 a2 w3 ⟨F3, av3, B3, s1, s2, s3⟩
      have hl3 : w3.heap[l]? = some (.loop { rec .ready none with state := .busy }) := (s2.block l (lt_of_get hlb) hB1).trans hlb
      have hB3 : B3 l = none := (s1.rnd l rfl).2
      have hF3 : F.le F3 := (hFF.trans q2.le).trans s2.le
      have fin : ∀ (jump : Option Code), ∃ w4, (Instr.endRound l jump).run P w3 = .ok (.bool jump.isNone) w4 ∧
          Sat F3 (upd B3 l (.m (.loop (rec (if jump.isNone then .ready else .done) jump)) F)) w4 ∧ Ext F1 (upd B0 l kR) w1 F3 (upd B3 l (.m (.loop (rec (if jump.isNone then .ready else .done) jump)) F)) w4 := fun jump => by
        have hend := run_endRound (P := P) jump hl3
        have erec : ({ { rec .ready none with state := .busy } with state := if jump.isNone then .ready else .done, pending := jump } : Loop) = rec (if jump.isNone then .ready else .done) jump := by rw [hrc]
        rw [erec] at hend
        refine ⟨_, hend, (s1.sat.putm hl3 hB3 _).updm (World.putObj_heap_same (lt_of_get hl3)) rfl hB3 hF3, ?_⟩
        exact ((q2.over (l := l) (k := kR) (k' := kR)).trans (Ext.put (k := kR) (k' := kR) _)).trans ((s2.over (l := l) (k := kR) (k' := kR)).trans (Ext.put (k := kR) _))
      have stp : ∀ (e : Exit) (c : Code), ((e = Exit.ret ∧ c = Code.ret) ∨ ∃ id, e = Exit.exit id ∧ c = Code.exit id) → Ix e B3 → ∃ v w', (Instr.endRound l (some c)).run P w3 = .ok v w' ∧
          ∃ b F' H', Ending.returned v = .returned (.bool b) ∧ Sat F' H' w' ∧ Ext F1 (upd B0 l kR) w1 F' H' w' ∧ ((b = true ∧ J (k + 1) H') ∨ (b = false ∧ Jx H')) := fun e c hec hix => by
        obtain ⟨w4, f1, f2, f3⟩ := fin (some c)
        exact ⟨_, w4, f1, false, F3, _, rfl, f2, f3, .inr ⟨rfl, by rw [hJx]; exact ⟨B3, c, e, rfl, hB3, hec, hix⟩⟩⟩
      cases e2 with
      | normal =>
        obtain ⟨w4, f1, f2, f3⟩ := fin none
        refine ⟨_, w4, f1, true, F3, _, rfl, f2, f3, .inl ⟨rfl, ?_⟩⟩
        rw [hJ]
        exact ⟨B3, by rw [hkR]; rfl, hB3, s3⟩
      | ret => exact stp .ret .ret (.inl ⟨rfl, rfl⟩) s3
      | exit id => exact stp (.exit id) (.exit id) (.inr ⟨id, rfl, rfl⟩) s3
      | _ => exact s3.elim
    | _ => exact q3.elim
  have hcall := hit.2 l J Jx rounds (upd B l kR) hap1 (by rw [hJ]; exact ⟨B, rfl, hBl, h0⟩)
  have hvs : Vs F (.c (.func (.yield l) #[] #[]) :: caps) (.func (.yield l) #[] #[] :: ds.toList) := Vs.cons (.c _) hds
  have hc := hcall.2 F W1 _ hvs sat1
  rw [show (Value.func (.yield l) #[] #[] :: ds.toList).toArray = #[.func (.yield l) #[] #[]] ++ ds by apply Array.ext'; simp] at hc
  refine (hF.calls hc).mono ?_
  rintro e w3 ⟨v, F', H', r, rfl, v1, v2, v3, A', B', rfl, v4, v5⟩
  have hold3 : ∀ m, m < w.heap.size → H m = none → w3.heap[m]? = w.heap[m]? := fun m hm hHm => by
    refine (v3.block m (by omega) ?_).trans (hold m hm)
    obtain ⟨g1, g2⟩ := hjn m hHm
    exact join_none_iff.2 ⟨g1, by rw [upd_ne (by omega)]; exact g2⟩
  have goOn : ∀ (B0 : Heap) (lr : Loop) (M : Mem), B' = upd B0 l (.m (.loop lr) M) → B0 l = none → lr.state ≠ .busy → ∃ w4, (Instr.endLoop l).run P w3 = .ok lr.pending w4 ∧ Apart A' B0 ∧
      Rel F' ⟨lo, Fe.round⟩ N a (join A' B0) { act with defers := mk ++ act.defers } w4 ∧ Ext F H w F' (join A' B0) w4 := by
    rintro B0 lr M rfl hB0 hst
    have hA' : A' l = none := by
      rcases v4 l with g | g
      · exact g
      · rw [upd_same] at g; cases g
    have hl3 : w3.heap[l]? = some (.loop lr) := (v2.blk l (.m (.loop lr) M) (by unfold join; rw [hA', upd_same]; rfl)).1
    have hle : Heap.le (join A' B0) (join A' (upd B0 l (.m (.loop lr) M))) := fun m x hx => by
      unfold join at hx ⊢
      cases hm : A' m with
      | some y => rw [hm] at hx; exact hx
      | none =>
        rw [hm] at hx
        simp only [Option.none_or] at hx ⊢
        rw [upd_ne (by rintro rfl; rw [hB0] at hx; cases hx)]; exact hx
    have hjl : join A' B0 l = none := join_none_iff.2 ⟨hA', hB0⟩
    have hap0 : Apart A' B0 := fun m => by
      rcases v4 m with g | g
      · exact .inl g
      · exact .inr (upd_none.1 g).2
    have hs4 := (v2.less hle).putm hl3 hjl (.loop { lr with state := .exhausted })
    have hnew : ∀ m x, join A' B0 m = some x → H m ≠ none ∨ w.heap.size ≤ m := fun m x hx => by
      rcases v3.new m x (hle m x hx) with g | g
      · cases hHm : H m with
        | some y => left; simp
        | none =>
          exfalso
          obtain ⟨g1, g2⟩ := hjn m hHm
          refine g (join_none_iff.2 ⟨g1, ?_⟩)
          rw [upd_ne (by rintro rfl; rw [hjl] at hx; cases hx)]; exact g2
      · right; omega
    have hext : Ext F H w F' (join A' B0) (w3.putObj l (.loop { lr with state := .exhausted })) := by
      refine ⟨v3.os.trans hos, v3.tape.trans htp, v3.output.trans hou, by have := v3.size; simp; omega, fun m hm hHm => ?_, hnew, v3.le, fun b o v hv => ?_⟩
      · exact (World.putObj_heap_other (by omega)).trans (hold3 m hm hHm)
      · rcases v3.frz b o v hv with g | g | g
        · exact .inl g
        · by_cases hbl : b = l
          · subst hbl; exact .inr (.inr hll)
          · right; left
            intro hHb
            obtain ⟨g1, g2⟩ := hjn b hHb
            exact g (join_none_iff.2 ⟨g1, by rw [upd_ne hbl]; exact g2⟩)
        · right; right; omega
    refine ⟨_, run_endLoop hl3 hst, hap0, ?_, hext⟩
    obtain ⟨⟨Ds, d1, d2, d3⟩, z2, z3, z4, z5, z6⟩ := hr
    have hnone : ∀ m, m < w.heap.size → H m = none → join A' B0 m = none := fun m hm hHm => by
      cases hx : join A' B0 m with
      | none => rfl
      | some x =>
        rcases hnew m x hx with g | g
        · exact absurd hHm g
        · omega
    have old : ∀ D ∈ Ds, (w3.putObj l (.loop { lr with state := .exhausted })).heap[D]? = some (.deferred (some [])) ∧ join A' B0 D = none ∧ lo ≤ D := fun D hD => by
      obtain ⟨g1, g2, g3⟩ := d3 D hD
      have hlt := lt_of_get g1
      exact ⟨(World.putObj_heap_other (by omega)).trans ((hold3 D hlt g2).trans g1), hnone D hlt g2, g3⟩
    refine ⟨?_, Nat.le_trans z2 hext.size, fun l' hl' => ?_, z4, fun s => (z5 s).mono v3.le, hs4⟩
    · rcases hmk with rfl | ⟨D, rfl, m1, m2, m3⟩
      · exact ⟨Ds, by simpa using d1, d2, old⟩
      · have hDn : join A (upd B l kR) D = none := by
          obtain ⟨g1, g2⟩ := hjn D (hHl D m1)
          exact join_none_iff.2 ⟨g1, by rw [upd_ne m2]; exact g2⟩
        have hD3 : w3.heap[D]? = some (.deferred (some [])) := (v3.block D (lt_of_get m3) hDn).trans m3
        have hDj : join A' B0 D = none := by
          cases hx : join A' B0 D with
          | none => rfl
          | some x =>
            rcases v3.new D x (hle D x hx) with g | g
            · exact absurd hDn g
            · have := lt_of_get m3; omega
        refine ⟨D :: Ds, by simp [d1], List.nodup_cons.2 ⟨fun hm => ?_, d2⟩, fun D' hD' => ?_⟩
        · have := lt_of_get (d3 D hm).1; omega
        · rcases List.mem_cons.1 hD' with rfl | hD'
          · exact ⟨(World.putObj_heap_other m2).trans hD3, hDj, Nat.le_trans z2 m1⟩
          · exact old D' hD'
    · obtain ⟨⟨r, g1⟩, g2⟩ := z3 l' hl'
      have hlt := lt_of_get g1
      exact ⟨⟨r, (World.putObj_heap_other (by omega)).trans ((hold3 l' hlt g2).trans g1)⟩, hnone l' hlt g2⟩
  rcases v5 with ⟨u1, u2⟩ | ⟨u1, u2⟩
  · rw [hJ] at u2
    obtain ⟨B0, e0, hB0, hI⟩ := u2
    rw [hkR] at e0
    obtain ⟨w4, g1, g2, g3, g4⟩ := goOn B0 _ F e0 hB0 (by rw [hrc]; simp)
    refine ⟨none, w4, by rw [g1, hrc], ?_⟩
    exact ⟨F', a, _, g3, g4, done A' B0 g2 u1 hI⟩
  · rw [hJx] at u2
    obtain ⟨B0, c, e, e0, hB0, hec, hix⟩ := u2
    obtain ⟨w4, g1, g2, g3, g4⟩ := goOn B0 _ F e0 hB0 (by rw [hrc]; simp)
    refine ⟨some c, w4, by rw [g1, hrc], ?_⟩
    have hq := stop e A' B0 g2 u1 hix
    rcases hec with ⟨rfl, rfl⟩ | ⟨id, rfl, rfl⟩
    · exact wpIn_ret ⟨F', a, _, g3, g4, hq⟩
    · exact wpIn_exit ⟨F', a, _, g3, g4, hq⟩
end Go.Proofs.Ytlbdpnlmdcajbaa

/- What is written no more, frozen; contracts made weaker; a law out of a contract. -/
namespace Go.Proofs.Ytlbdpnlmdcajbaa
open Go.RowKit
set_option linter.all false

mutual
def frz (n sz : Nat) (rows : List (List AV)) : AV → AV
  | .p m sz' i j => if m = n ∧ sz' = sz then (match rows[i]? with | some e => .q e j | none => .p m sz' i j) else .p m sz' i j
  | .s m sz' i len cap => if m = n ∧ sz' = sz ∧ i + len ≤ rows.length then .l sz ((rows.drop i).take len) else .s m sz' i len cap
  | .q e j => .q (frzL n sz rows e) j
  | .l sz' rs => .l sz' (frzR n sz rows rs)
  | .g xs => .g (frzL n sz rows xs)
  | .t xs => .t (frzL n sz rows xs)
  | .f fn xs ys => .f fn (frzL n sz rows xs) (frzL n sz rows ys)
  | .x => .x
  | .c v => .c v
def frzL (n sz : Nat) (rows : List (List AV)) : List AV → List AV
  | [] => []
  | y :: ys => frz n sz rows y :: frzL n sz rows ys
def frzR (n sz : Nat) (rows : List (List AV)) : List (List AV) → List (List AV)
  | [] => []
  | y :: ys => frzL n sz rows y :: frzR n sz rows ys
end

theorem frzL_map (n sz : Nat) (rows : List (List AV)) : ∀ l, frzL n sz rows l = l.map (frz n sz rows)
  | [] => by simp [frzL]
  | y :: ys => by simp [frzL, frzL_map n sz rows ys]
theorem frzR_map (n sz : Nat) (rows : List (List AV)) : ∀ l, frzR n sz rows l = l.map (frzL n sz rows)
  | [] => by simp [frzR]
  | y :: ys => by simp [frzR, frzR_map n sz rows ys]
theorem frzL_none {n sz : Nat} {rows : List (List AV)} {α : Type} {f : α → AV} (h : ∀ x, frz n sz rows (f x) = f x) (l : List α) : frzL n sz rows (l.map f) = l.map f := by
  rw [frzL_map]; simp [h]
theorem frz_one {n sz : Nat} {rows : List (List AV)} (y : AV) : (frz n sz rows y).one = y.one := by
  cases y <;> simp only [frz]
  · split
    · split <;> rfl
    · rfl
  · rfl
  · split <;> rfl
  · rfl
  · rfl
  · rfl
  · rfl

theorem at2_frzR {n sz : Nat} {rows l : List (List AV)} {i j : Nat} {y : AV} (h : at2 (frzR n sz rows l) i j = some y) : ∃ z, at2 l i j = some z ∧ y = frz n sz rows z := by
  obtain ⟨e, he, hj⟩ := at2_some.1 h
  rw [frzR_map, List.getElem?_map] at he
  cases h1 : l[i]? with
  | none => rw [h1] at he; cases he
  | some e' =>
    rw [h1] at he
    simp only [Option.map_some, Option.some.injEq] at he
    subst he
    rw [frzL_map, List.getElem?_map] at hj
    cases h2 : e'[j]? with
    | none => rw [h2] at hj; cases hj
    | some z =>
      rw [h2] at hj
      simp only [Option.map_some, Option.some.injEq] at hj
      exact ⟨z, at2_some.2 ⟨e', h1, h2⟩, hj.symm⟩
theorem get_frzL {n sz : Nat} {rows : List (List AV)} {l : List AV} {i : Nat} {y : AV} (h : (frzL n sz rows l)[i]? = some y) : ∃ z, l[i]? = some z ∧ y = frz n sz rows z := by
  rw [frzL_map, List.getElem?_map] at h
  cases h1 : l[i]? with
  | none => rw [h1] at h; cases h
  | some z => rw [h1] at h; simp only [Option.map_some, Option.some.injEq] at h; exact ⟨z, rfl, h.symm⟩
theorem len_frzL {n sz : Nat} {rows : List (List AV)} (l : List AV) : (frzL n sz rows l).length = l.length := by rw [frzL_map]; simp
theorem len_frzR {n sz : Nat} {rows : List (List AV)} (l : List (List AV)) : (frzR n sz rows l).length = l.length := by rw [frzR_map]; simp

theorem V.frz {F F' : Mem} (hF : F.le F') {n sz : Nat} {rows : List (List AV)} {u : Nat → Nat → Value} (hl : ∀ e ∈ rows, e.length = sz) (hr : ∀ i j y, at2 rows i j = some y → y.one = true ∧ V F' y (u i j) ∧ F' n (i * sz + j) = some (u i j)) :
    ∀ {y : AV} {v : Value}, V F y v → V F' (Go.Proofs.Ytlbdpnlmdcajbaa.frz n sz rows y) v := by
  intro y v h
  induction h with
  | x v => simp only [Go.Proofs.Ytlbdpnlmdcajbaa.frz]; exact .x v
  | c v => simp only [Go.Proofs.Ytlbdpnlmdcajbaa.frz]; exact .c v
  | p m sz' i j =>
    simp only [Go.Proofs.Ytlbdpnlmdcajbaa.frz]
    split
    · rename_i hm; obtain ⟨rfl, rfl⟩ := hm
      split
      · rename_i e he
        exact .q e j m (i * sz') (fun k => u i k) (fun k y hy => (hr i k y (at2_some.2 ⟨e, he, hy⟩)).1) (fun k y hy => (hr i k y (at2_some.2 ⟨e, he, hy⟩)).2.1) (fun k y hy => (hr i k y (at2_some.2 ⟨e, he, hy⟩)).2.2)
      · exact .p ..
    · exact .p ..
  | q e j b o u' h1 h2 h3 ih =>
    simp only [Go.Proofs.Ytlbdpnlmdcajbaa.frz]
    refine .q _ j b o u' (fun k y hy => ?_) (fun k y hy => ?_) (fun k y hy => ?_)
    · obtain ⟨z, hz, rfl⟩ := get_frzL hy; rw [frz_one]; exact h1 k z hz
    · obtain ⟨z, hz, rfl⟩ := get_frzL hy; exact ih k z hz
    · obtain ⟨z, hz, rfl⟩ := get_frzL hy; exact hF _ _ _ (h3 k z hz)
  | s m sz' i len cap o h1 h2 h3 =>
    simp only [Go.Proofs.Ytlbdpnlmdcajbaa.frz]
    split
    · rename_i hm; obtain ⟨rfl, rfl, hle⟩ := hm
      have hlen : ((rows.drop i).take len).length = len := by simp; omega
      have hat : ∀ (i' j : Nat) (y : AV), at2 ((rows.drop i).take len) i' j = some y → at2 rows (i + i') j = some y := fun i' j y hy => by
        have := (at2_take hy).1; rwa [at2_drop] at this
      refine .l sz' _ _ len cap (fun a b => u (i + a) b) hlen.symm (by omega) h3 (fun h => by cases h) (fun e he => hl e (List.mem_of_mem_drop (List.mem_of_mem_take he))) (fun a b y hy => (hr _ b y (hat a b y hy)).1) (fun a b y hy => (hr _ b y (hat a b y hy)).2.1) ?_
      intro ad had hc
      cases had
      rw [hlen] at hc
      refine ⟨rfl, fun a b y hy => ?_⟩
      rw [h1 (.inl (by omega))]
      have := (hr _ b y (hat a b y hy)).2.2
      rw [← this]; congr 1; rw [Nat.add_mul]
    · exact .s _ _ _ _ _ o h1 h2 h3
  | l sz' rs a len cap u' h0 h1 h2 h3 h4 h5 h6 h7 ih =>
    simp only [Go.Proofs.Ytlbdpnlmdcajbaa.frz]
    refine .l sz' _ a len cap u' (by rw [len_frzR]; exact h0) h1 h2 h3 (fun e he => ?_) (fun i j y hy => ?_) (fun i j y hy => ?_) (fun ad ha hc => ?_)
    · rw [frzR_map] at he
      obtain ⟨e', he', rfl⟩ := List.mem_map.1 he
      rw [len_frzL]; exact h4 e' he'
    · obtain ⟨z, hz, rfl⟩ := at2_frzR hy; rw [frz_one]; exact h5 i j z hz
    · obtain ⟨z, hz, rfl⟩ := at2_frzR hy; exact ih i j z hz
    · rw [len_frzR] at hc
      obtain ⟨g1, g2⟩ := h7 ad ha hc
      exact ⟨g1, fun i j y hy => by obtain ⟨z, hz, rfl⟩ := at2_frzR hy; exact hF _ _ _ (g2 i j z hz)⟩
  | g xs cs h1 h2 h3 ih =>
    simp only [Go.Proofs.Ytlbdpnlmdcajbaa.frz]
    exact .g _ cs (by rw [len_frzL]; exact h1) (fun i y hy => by obtain ⟨z, hz, rfl⟩ := get_frzL hy; rw [frz_one]; exact h2 i z hz) (fun i y hy => by obtain ⟨z, hz, rfl⟩ := get_frzL hy; exact ih i z hz)
  | t xs cs h1 h3 ih =>
    simp only [Go.Proofs.Ytlbdpnlmdcajbaa.frz]
    exact .t _ cs (by rw [len_frzL]; exact h1) (fun i y hy => by obtain ⟨z, hz, rfl⟩ := get_frzL hy; exact ih i z hz)
  | f fn xs ys cs ds h1 h2 h3 h4 ih1 ih2 =>
    simp only [Go.Proofs.Ytlbdpnlmdcajbaa.frz]
    exact .f fn _ _ cs ds (by rw [len_frzL]; exact h1) (by rw [len_frzL]; exact h2) (fun i y hy => by obtain ⟨z, hz, rfl⟩ := get_frzL hy; exact ih1 i z hz) (fun i y hy => by obtain ⟨z, hz, rfl⟩ := get_frzL hy; exact ih2 i z hz)

def frzB (n sz : Nat) (rows : List (List AV)) : Blk → Blk
  | .r ty sz' cap rs => .r ty sz' cap (frzR n sz rows rs)
  | .m o M => .m o M
def frzH (n sz : Nat) (rows : List (List AV)) (H : Heap) : Heap := fun m => if m = n then none else (H m).map (frzB n sz rows)

def Weak (r : AV) (H : Heap) (r' : AV) (H' : Heap) : Prop :=
  ∀ (F : Mem) (w : World) (v : Value), V F r v → Sat F H w → ∃ F', F.le F' ∧ V F' r' v ∧ Sat F' H' w ∧ (∀ b o u, F' b o = some u → F b o = some u ∨ H b ≠ none) ∧ ∀ n k, H' n = some k → H n ≠ none

theorem Weak.refl (r : AV) (H : Heap) : Weak r H r H := fun F w v hv hs => ⟨F, .refl F, hv, hs, fun _ _ _ h => .inl h, fun n k h => by rw [h]; simp⟩
theorem Weak.trans {r r1 r2 : AV} {H H1 H2 : Heap} (h : Weak r H r1 H1) (k : Weak r1 H1 r2 H2) : Weak r H r2 H2 := fun F w v hv hs => by
  obtain ⟨F1, a1, a2, a3, a4, a5⟩ := h F w v hv hs
  obtain ⟨F2, b1, b2, b3, b4, b5⟩ := k F1 w v a2 a3
  refine ⟨F2, a1.trans b1, b2, b3, fun b o u hu => ?_, fun n x hx => ?_⟩
  · rcases b4 b o u hu with g | g
    · exact a4 b o u g
    · right
      cases hk : H1 b with
      | none => exact absurd hk g
      | some y => exact a5 b y hk
  · cases hk : H1 n with
    | none => exact absurd hk (b5 n x hx)
    | some y => exact a5 n y hk
theorem Weak.less {r : AV} {H H' : Heap} (h : Heap.le H' H) : Weak r H r H' := fun F w v hv hs => ⟨F, .refl F, hv, hs.less h, fun _ _ _ h => .inl h, fun n k hk => by rw [h n k hk]; simp⟩

theorem Weak.frz {r : AV} {H : Heap} (n : Nat) {ty : TypeId} {sz cap : Nat} {rows : List (List AV)} (hn : H n = some (.r ty sz cap rows)) : Weak r H (frz n sz rows r) (frzH n sz rows H) := by
  intro F w v hv hs
  obtain ⟨C, c1, c2, c3, c4, c5, c6⟩ := hs.blk n _ hn
  have hle : rows.length * sz ≤ C.size := by rw [c2]; exact Nat.mul_le_mul_right _ c3
  obtain ⟨F', hF'⟩ : ∃ F' : Mem, F' = fun b o => if b = n then (if o < rows.length * sz then C[o]? else none) else F b o := ⟨_, rfl⟩
  have hFn : ∀ o, F n o = none := fun o => by
    cases h : F n o with
    | none => rfl
    | some u => exact (hs.off n o u _ h hn).elim
  have hFF : F.le F' := fun b o u hu => by
    rw [hF']
    by_cases e : b = n
    · subst e; rw [hFn] at hu; cases hu
    · simp [e, hu]
  have hr : ∀ i j y, at2 rows i j = some y → y.one = true ∧ V F' y (C.getD (i * sz + j) undef) ∧ F' n (i * sz + j) = some (C.getD (i * sz + j) undef) := fun i j y hy => by
    refine ⟨c6.one i j y hy, (c6.val i j y hy).mono hFF, ?_⟩
    obtain ⟨b1, b2⟩ := c6.at2 hy
    have hlt := flat_lt b1 b2
    have : i * sz + j < C.size := by omega
    rw [hF']; simp [hlt, this, Array.getD]
  refine ⟨F', hFF, hv.frz hFF c6.len hr, ⟨fun b o u hu => ?_, fun b o u k hu hk => ?_, fun m k hk => ?_⟩, fun b o u hu => ?_, fun m k hk => ?_⟩
  · rw [hF'] at hu
    by_cases e : b = n
    · subst e
      simp only [if_true] at hu
      split at hu
      · rw [cell_of_row w b _ C ty (0, 0) c1]; exact hu
      · cases hu
    · simp only [e, if_false] at hu; exact hs.mem b o u hu
  · rw [hF'] at hu
    unfold frzH at hk
    by_cases e : b = n
    · simp [e] at hk
    · simp only [e, if_false] at hu hk
      cases hH : H b with
      | none => rw [hH] at hk; cases hk
      | some k' => exact hs.off b o u k' hu hH
  · unfold frzH at hk
    split at hk
    · cases hk
    · cases hH : H m with
      | none => rw [hH] at hk; cases hk
      | some k' =>
        rw [hH] at hk
        simp only [Option.map_some, Option.some.injEq] at hk
        subst hk
        have hb := hs.blk m k' hH
        cases k' with
        | m o M => exact ⟨hb.1, hb.2.trans hFF⟩
        | r ty' sz' cap' rs =>
          obtain ⟨C', d1, d2, d3, d4, d5, d6⟩ := hb
          refine ⟨C', d1, d2, by rw [len_frzR]; exact d3, d4, d5, fun e he => ?_, fun i j y hy => ?_, fun i j y hy => ?_⟩
          · rw [frzR_map] at he
            obtain ⟨e', he', rfl⟩ := List.mem_map.1 he
            rw [len_frzL]; exact d6.len e' he'
          · obtain ⟨z, hz, rfl⟩ := at2_frzR hy; rw [frz_one]; exact d6.one i j z hz
          · obtain ⟨z, hz, rfl⟩ := at2_frzR hy; exact (d6.val i j z hz).frz hFF c6.len hr
  · rw [hF'] at hu
    by_cases e : b = n
    · right; rw [e, hn]; simp
    · simp only [e, if_false] at hu; exact .inl hu
  · unfold frzH at hk
    split at hk
    · cases hk
    · cases hH : H m with
      | none => rw [hH] at hk; cases hk
      | some k' => simp

theorem ACall.weak {P : Program} {f : FuncId} {args : List AV} {H : Heap} {K : AV → Heap → Prop} (h : ACall P f args H fun r H' => ∃ r2 H2, Weak r H' r2 H2 ∧ K r2 H2) : ACall P f args H K :=
  ⟨h.1, fun F w cs hv hs => (h.2 F w cs hv hs).mono fun e w' ⟨v, F', H', r, e1, e2, e3, e4, r2, H2, hw, hk⟩ => by
    obtain ⟨F2, a1, a2, a3, a4, a5⟩ := hw F' w' v e2 e3
    refine ⟨v, F2, H2, r2, e1, a2, a3, ⟨e4.os, e4.tape, e4.output, e4.size, e4.block, fun n k hn => ?_, e4.le.trans a1, fun b o u hu => ?_⟩, hk⟩
    · cases hk' : H' n with
      | none => exact absurd hk' (a5 n k hn)
      | some y => exact e4.new n y hk'
    · rcases a4 b o u hu with g | g
      · exact e4.frz b o u g
      · cases hk' : H' b with
        | none => exact absurd hk' g
        | some y => exact .inr (e4.new b y hk')⟩

theorem ACall.pre {P : Program} {f : FuncId} {args : List AV} {H H2 : Heap} {K : AV → Heap → Prop} (hl : Heap.le H2 H) (h : ACall P f args H2 K) : ACall P f args H K := by
  refine ⟨h.1, fun F w cs hv hs => (h.2 F w cs hv (hs.less hl)).mono fun e w' ⟨v, F', H', r, e1, e2, e3, e4, hk⟩ => ⟨v, F', H', r, e1, e2, e3, ?_, hk⟩⟩
  have hn : ∀ m, H m = none → H2 m = none := fun m hm => by
    cases hk : H2 m with
    | none => rfl
    | some k => rw [hl m k hk] at hm; cases hm
  refine ⟨e4.os, e4.tape, e4.output, e4.size, fun m hm hH => e4.block m hm (hn m hH), fun m k hk => ?_, e4.le, fun b o v hv => ?_⟩
  · rcases e4.new m k hk with g | g
    · left; intro e; exact g (hn m e)
    · exact .inr g
  · rcases e4.frz b o v hv with g | g | g
    · exact .inl g
    · right; left; intro e; exact g (hn b e)
    · exact .inr (.inr g)

def F0 (W : World) : Mem := fun b o => W.cell? ⟨b, o, none⟩
theorem law_of {P : Program} {f : FuncId} {args : List AV} (h : ACall P f args (fun _ => none) fun r _ => r = .c (.bool true)) (W : World) (cs : Array Value) (hv : Vs (F0 W) args cs.toList) :
    Calls P f cs W fun e w' => e = .returned (.bool true) ∧ Below W.heap.size W w' := by
  have := h.2 (F0 W) W cs.toList hv ⟨fun b o v h => h, fun b o v k _ hk => (by cases hk), fun n k hk => (by cases hk)⟩
  rw [Array.toArray_toList] at this
  refine this.mono ?_
  rintro e w' ⟨v, F', H', r, rfl, h1, h2, h3, rfl⟩
  exact ⟨by rw [h1.c_inv], h3.below fun _ => rfl⟩
end Go.Proofs.Ytlbdpnlmdcajbaa

/- What a law is handed, read as abstract values. -/
namespace Go.Proofs.Ytlbdpnlmdcajbaa
open Go.RowKit
set_option linter.all false

def ShpL (S : TypeId → List AV → Prop) : List TypeId → List AV → Prop
  | [], row => row = []
  | t :: ts, row => ∃ p rest, row = p ++ rest ∧ S t p ∧ ShpL S ts rest

def Shp (P : Program) : Nat → TypeId → List AV → Prop
  | 0, _, _ => False
  | n + 1, t, row =>
    match P.underlying t with
    | some .bool => ∃ b : Bool, row = [.c (.bool b)]
    | some (.int k) => ∃ x, row = [.c (.int k x)] ∧ (Lit.int k x).wf = true
    | some .string => ∃ s : ByteArray, row = [.c (.string s)] ∧ s.size ≤ maxLen
    | some (.slice e) => ∃ rows : List (List AV), row = [.l (P.cellsOf e) rows] ∧ rows.length ≤ maxLen ∧ ∀ r ∈ rows, Shp P n e r
    | some (.struct fs) => ShpL (Shp P n) (fs.toList.map (·.type)) row
    | some (.array m e) => ShpL (Shp P n) (List.replicate m e) row
    | _ => False

def laidFrom (P : Program) : List Field → Nat → Option Nat
  | [], off => some off
  | f :: fs, off => if f.offset = off then laidFrom P fs (off + P.cellsOf f.type) else none

def okT (P : Program) : Nat → TypeId → Bool
  | 0, _ => false
  | n + 1, t =>
    match P.underlying t with
    | some .bool | some (.int _) | some .string => P.cellsOf t == 1
    | some (.slice e) => P.cellsOf t == 1 && decide (0 < P.cellsOf e) && okT P n e
    | some (.struct fs) => laidFrom P fs.toList 0 == some (P.cellsOf t) && fs.toList.all fun f => okT P n f.type
    | some (.array m e) => P.cellsOf t == m * P.cellsOf e && okT P n e
    | _ => false

def Okr (F : Mem) (row : List AV) (cs : List Value) : Prop := Vs F row cs ∧ ∀ y ∈ row, y.one = true

theorem Okr.one {F : Mem} {y : AV} {v : Value} (h : V F y v) (ho : y.one = true) : Okr F [y] [v] := ⟨Vs.cons h (Vs.nil F), by simp [ho]⟩
theorem Okr.append {F : Mem} {r1 r2 : List AV} {c1 c2 : List Value} (h : Okr F r1 c1) (k : Okr F r2 c2) : Okr F (r1 ++ r2) (c1 ++ c2) :=
  ⟨h.1.append k.1, fun y hy => by exact (List.mem_append.1 hy).elim (h.2 y) (k.2 y)⟩

theorem cells_get {w : World} {base : Nat} {a : Addr} {n : Nat} {cs : List Value} (h : w.cells? base a n = some cs) : cs.length = n ∧ ∀ j u, cs[j]? = some u → w.cell? (a.add j) = some u := by
  unfold World.cells? at h
  split at h
  · have key : ∀ (l : List Nat) (cs : List Value), l.mapM (fun i => w.cell? (a.add i)) = some cs → cs.length = l.length ∧ ∀ (j : Nat) (u : Value), cs[j]? = some u → ∃ i : Nat, l[j]? = some i ∧ w.cell? (a.add i) = some u := by
      intro l
      induction l with
      | nil => intro cs h; simp at h; subst h; simp
      | cons i l ih =>
        intro cs h
        simp only [List.mapM_cons, Option.bind_eq_bind, Option.bind_eq_some_iff] at h
        obtain ⟨v, hv, vs, hvs, hcs⟩ := h
        simp only [Option.pure_def, Option.some.injEq] at hcs
        subst hcs
        obtain ⟨h1, h2⟩ := ih vs hvs
        refine ⟨by simp [h1], fun j u hu => ?_⟩
        cases j with
        | zero => simp at hu; subst hu; exact ⟨i, rfl, hv⟩
        | succ j => simpa using h2 j u (by simpa using hu)
    obtain ⟨h1, h2⟩ := key _ _ h
    refine ⟨by simpa using h1, fun j u hu => ?_⟩
    obtain ⟨i, hi, hc⟩ := h2 j u hu
    obtain ⟨_, rfl⟩ : j < n ∧ j = i := by
      have := (List.getElem?_eq_some_iff.1 hi)
      obtain ⟨hj, he⟩ := this
      simp at hj he
      exact ⟨hj, he⟩
    exact hc
  · cases h

theorem shp_parts {P : Program} {F : Mem} {S : TypeId → List AV → Prop} {cs : List Value} : ∀ (fs : List Field) (off tot : Nat), laidFrom P fs off = some tot → cs.length = tot →
    (∀ f ∈ fs, ∃ row, Okr F row ((cs.drop f.offset).take (P.cellsOf f.type)) ∧ S f.type row) → ∃ row, Okr F row (cs.drop off) ∧ ShpL S (fs.map (·.type)) row
  | [], off, tot, h, hl, hp => by
    simp only [laidFrom, Option.some.injEq] at h
    refine ⟨[], ⟨?_, by simp⟩, rfl⟩
    rw [List.drop_eq_nil_of_le (by omega)]; exact Vs.nil F
  | f :: fs, off, tot, h, hl, hp => by
    simp only [laidFrom] at h
    split at h
    · rename_i e
      obtain ⟨p, p1, p2⟩ := hp f (by simp)
      obtain ⟨rest, r1, r2⟩ := shp_parts fs _ tot h hl (fun g hg => hp g (by simp [hg]))
      refine ⟨p ++ rest, ?_, p, rest, rfl, p2, r2⟩
      rw [e] at p1
      have := p1.append r1
      rwa [← List.drop_drop, List.take_append_drop] at this
    · cases h

theorem shp_array {F : Mem} {S : TypeId → List AV → Prop} {e : TypeId} {k : Nat} {cs : List Value} : ∀ (m i : Nat), cs.length = (i + m) * k →
    (∀ j, j < i + m → ∃ row, Okr F row ((cs.drop (j * k)).take k) ∧ S e row) → ∃ row, Okr F row (cs.drop (i * k)) ∧ ShpL S (List.replicate m e) row
  | 0, i, hl, hp => by
    refine ⟨[], ⟨?_, by simp⟩, rfl⟩
    rw [List.drop_eq_nil_of_le (by rw [hl]; simp)]; exact Vs.nil F
  | m + 1, i, hl, hp => by
    obtain ⟨p, p1, p2⟩ := hp i (by omega)
    obtain ⟨rest, r1, r2⟩ := shp_array m (i + 1) (by rw [hl]; congr 1; omega) (fun j hj => hp j (by omega))
    refine ⟨p ++ rest, ?_, p, rest, rfl, p2, r2⟩
    have := p1.append r1
    rwa [Nat.add_mul, Nat.one_mul, ← List.drop_drop, List.take_append_drop] at this

theorem shp_of {P : Program} {H : Type} {enc : TypeId × Value → H} {w : World} {base : Nat} {spare : Nat → Bool} {held : Bool} : ∀ (n : Nat) (t : TypeId), okT P n t = true → ∀ (fuel : Nat) (cs : List Value) (x : DataW H × List MemPlace),
    DataW.trod enc P w base spare held fuel t cs = some x → ∃ row, Okr (F0 w) row cs ∧ Shp P n t row := by
  intro n
  induction n with
  | zero => intro t h; cases h
  | succ n ih =>
    intro t hok fuel cs x h
    unfold okT at hok
    unfold Shp
    split at hok
    · rename_i ht
      obtain ⟨b, rfl, _⟩ := DataW.trod_bool ht h
      exact ⟨_, Okr.one (.c _) rfl, ⟨b, rfl⟩⟩
    · rename_i k ht
      obtain ⟨z, rfl, _, hw⟩ := DataW.trod_int ht h
      exact ⟨_, Okr.one (.c _) rfl, ⟨z, rfl, hw⟩⟩
    · rename_i ht
      obtain ⟨s, rfl, _, hw⟩ := DataW.trod_string ht h
      exact ⟨_, Okr.one (.c _) rfl, ⟨s, rfl, hw⟩⟩
    · rename_i e ht
      simp only [Bool.and_eq_true, decide_eq_true_eq] at hok
      obtain ⟨⟨h1, hpos⟩, he⟩ := hok
      rcases DataW.trod_slice ht h with ⟨rfl, _⟩ | ⟨a, len, cap, elems, rest, m, rfl, rfl, _, _, hlc, hm, hl, hel, _, _⟩
      · refine ⟨[.l (P.cellsOf e) []], Okr.one (.l _ [] none 0 0 (fun _ _ => undef) rfl (Nat.le_refl _) (Nat.zero_le _) (fun _ => rfl) (by simp) (fun i j y hy => by simp [at2] at hy) (fun i j y hy => by simp [at2] at hy) (fun ad h => by cases h)) rfl, [], rfl, by simp, by simp⟩
      · have hrow : ∀ i, i < len → ∃ row cs, w.cells? base (a.add (i * P.cellsOf e)) (P.cellsOf e) = some cs ∧ Okr (F0 w) row cs ∧ Shp P n e row := fun i hi => by
          have h2 := hel i hi
          rw [List.getElem?_eq_getElem (by omega), Option.bind_eq_some_iff] at h2
          obtain ⟨cs, hcs, hy⟩ := h2
          obtain ⟨row, r1, r2⟩ := ih e he _ _ _ hy
          exact ⟨row, cs, hcs, r1, r2⟩
        have pick : ∃ (rw_ : Nat → List AV) (cs_ : Nat → List Value), ∀ i, i < len → w.cells? base (a.add (i * P.cellsOf e)) (P.cellsOf e) = some (cs_ i) ∧ Okr (F0 w) (rw_ i) (cs_ i) ∧ Shp P n e (rw_ i) := by
          classical
          refine ⟨fun i => if hi : i < len then Classical.choose (hrow i hi) else [], fun i => if hi : i < len then Classical.choose (Classical.choose_spec (hrow i hi)) else [], fun i hi => ?_⟩
          simp only [dif_pos hi]
          exact Classical.choose_spec (Classical.choose_spec (hrow i hi))
        obtain ⟨rw_, cs_, hpk⟩ := pick
        have hat : ∀ (i j : Nat) (y : AV), at2 ((List.range len).map rw_) i j = some y → i < len ∧ (rw_ i)[j]? = some y := fun i j y hy => by
          obtain ⟨r, hr, hj⟩ := at2_some.1 hy
          rw [List.getElem?_map] at hr
          cases h3 : (List.range len)[i]? with
          | none => rw [h3] at hr; cases hr
          | some i' =>
            rw [h3] at hr
            simp only [Option.map_some, Option.some.injEq] at hr
            have := List.getElem?_eq_some_iff.1 h3
            obtain ⟨g1, g2⟩ := this
            simp at g1 g2
            subst g2; subst hr
            exact ⟨g1, hj⟩
        have hlen : ∀ i, i < len → (rw_ i).length = P.cellsOf e := fun i hi => by
          obtain ⟨g1, g2, _⟩ := hpk i hi
          rw [g2.1.1]; exact (cells_get g1).1
        refine ⟨[.l (P.cellsOf e) ((List.range len).map rw_)], Okr.one (.l _ _ (some a) len cap (fun i j => (cs_ i).getD j undef) (by simp) hlc hm (fun h => by cases h) ?_ ?_ ?_ ?_) rfl, _, rfl, by simp; omega, ?_⟩
        · intro r hr
          obtain ⟨i, hi, rfl⟩ := List.mem_map.1 hr
          exact hlen i (by simpa using hi)
        · intro i j y hy
          obtain ⟨hi, hj⟩ := hat i j y hy
          exact (hpk i hi).2.1.2 y (List.mem_of_getElem? hj)
        · intro i j y hy
          obtain ⟨hi, hj⟩ := hat i j y hy
          exact (hpk i hi).2.1.1.2 j y hj
        · intro ad had hpos'
          cases had
          have key : ∀ i j u, i < len → (cs_ i)[j]? = some u → w.cell? ((a.add (i * P.cellsOf e)).add j) = some u := fun i j u hi hu => (cells_get (hpk i hi).1).2 j u hu
          have h0 : 0 < len := by simpa using hpos'
          have hsp : a.spot = none := by
            have g1 := (cells_get (hpk 0 h0).1).1
            have g2 := key 0 0 _ h0 (List.getElem?_eq_getElem (by omega))
            rw [Nat.zero_mul] at g2
            simp only [Addr.add, if_true] at g2
            cases hs : a.spot with
            | none => rfl
            | some s =>
              unfold World.cell? at g2
              split at g2
              · rw [hs] at g2; cases g2
              · cases g2
          obtain ⟨b, o, sp⟩ := a
          simp only at hsp; subst hsp
          refine ⟨rfl, fun i j y hy => ?_⟩
          obtain ⟨hi, hj⟩ := hat i j y hy
          have hjl : j < (cs_ i).length := by
            rw [← (hpk i hi).2.1.1.1]; exact (List.getElem?_eq_some_iff.1 hj).1
          have := key i j _ hi (List.getElem?_eq_getElem hjl)
          rw [Addr.add_lit, Addr.add_lit] at this
          show w.cell? _ = _
          rw [this]
          simp [List.getD_eq_getElem?_getD, hjl]
        · intro r hr
          obtain ⟨i, hi, rfl⟩ := List.mem_map.1 hr
          exact (hpk i (by simpa using hi)).2.2
    · rename_i fs ht
      simp only [Bool.and_eq_true, beq_iff_eq, List.all_eq_true] at hok
      obtain ⟨h1, h2⟩ := hok
      obtain ⟨xs, m, rfl, rfl, hcl, hxl, hf⟩ := DataW.trod_struct ht h
      have := shp_parts (F := F0 w) (S := Shp P n) fs.toList 0 _ h1 hcl (fun f hfm => by
        obtain ⟨i, hi⟩ := List.getElem?_of_mem hfm
        rw [Array.getElem?_toList] at hi
        have hi2 : i < fs.size := (Array.getElem?_eq_some_iff.1 hi).1
        have g := hf i f hi
        rw [List.getElem?_eq_getElem (by omega)] at g
        exact ih f.type (h2 f hfm) _ _ _ g)
      simpa using this
    · rename_i k e ht
      simp only [Bool.and_eq_true, beq_iff_eq] at hok
      obtain ⟨h1, h2⟩ := hok
      obtain ⟨xs, m, rfl, rfl, hcl, hxl, hf⟩ := DataW.trod_array ht h
      have := shp_array (F := F0 w) (S := Shp P n) (e := e) (k := P.cellsOf e) (cs := cs) k 0 (by rw [hcl, h1]; simp) (fun j hj => by
        have hj' : j < k := by omega
        have g := hf j hj'
        rw [List.getElem?_eq_getElem (by omega)] at g
        exact ih e h2 _ _ _ g)
      simpa using this
    · cases hok

theorem open_one {P : Program} {H : Type} {enc : TypeId × Value → H} {w : World} {r : Reach} {base base0 : Nat} {spare : Nat → Bool} {held : Bool} (n : Nat) {t : TypeId} {v : Value} {d : DataW H} {p : List MemPlace} (hok : okT P n t = true) (ha : tA P t = some false)
    (hv : Value.okWide P w r base0 t v) (h : DataW.Trod enc P w base spare held t v d p) : ∃ y, V (F0 w) y v ∧ Shp P n t [y] := by
  obtain ⟨fuel, hf⟩ := h
  obtain ⟨row, h1, h2⟩ := shp_of n t hok fuel _ _ hf
  have hc : v.cells.toList = [v] := by
    cases v with
    | agg cs =>
      exfalso
      unfold tA at ha
      unfold Value.okWide at hv
      cases hu : P.underlying t with
      | none => rw [hu] at ha; cases ha
      | some ds =>
        rw [hu] at ha hv
        cases n with
        | zero => cases hok
        | succ n =>
          unfold okT at hok
          rw [hu] at hok
          cases ds <;> simp [isAggD] at ha hok <;> simp [Cell.okWide, Cell.ok, hu] at hv
    | _ => rfl
  rw [hc] at h1
  have hl := h1.1.1
  match row, hl with
  | [y], _ =>
    obtain ⟨v', vs', e, g1, _⟩ := h1.1.cons_inv
    cases e
    exact ⟨y, g1, h2⟩

theorem open_agg {P : Program} {H : Type} {enc : TypeId × Value → H} {w : World} {r : Reach} {base base0 : Nat} {spare : Nat → Bool} {held : Bool} (n : Nat) {t : TypeId} {v : Value} {d : DataW H} {p : List MemPlace} (hok : okT P n t = true) (ha : tA P t = some true)
    (hv : Value.okWide P w r base0 t v) (h : DataW.Trod enc P w base spare held t v d p) : ∃ row, V (F0 w) (.g row) v ∧ Shp P n t row := by
  obtain ⟨fuel, hf⟩ := h
  obtain ⟨row, h1, h2⟩ := shp_of n t hok fuel _ _ hf
  have hc : ∃ cs, v = .agg cs := by
    unfold tA at ha
    unfold Value.okWide at hv
    cases hu : P.underlying t with
    | none => rw [hu] at ha; cases ha
    | some ds =>
      rw [hu] at ha hv
      cases ds <;> simp [isAggD] at ha
      · obtain ⟨cs, rfl, _⟩ := hv; exact ⟨cs, rfl⟩
      · obtain ⟨cs, rfl, _⟩ := hv; exact ⟨cs, rfl⟩
  obtain ⟨cs, rfl⟩ := hc
  exact ⟨row, V.g_of h1.1 h1.2, h2⟩

theorem rows_of {α : Type} {f : α → List AV} {good : α → Prop} {R : List AV → Prop} (hR : ∀ r, R r → ∃ x, r = f x ∧ good x) : ∀ rows : List (List AV), (∀ r ∈ rows, R r) → ∃ l : List α, rows = l.map f ∧ ∀ x ∈ l, good x
  | [], _ => ⟨[], rfl, by simp⟩
  | r :: rows, h => by
    obtain ⟨x, rfl, hx⟩ := hR r (h r (by simp))
    obtain ⟨l, rfl, hl⟩ := rows_of hR rows (fun r hr => h r (by simp [hr]))
    exact ⟨x :: l, rfl, by simp only [List.mem_cons, forall_eq_or_imp]; exact ⟨hx, hl⟩⟩
end Go.Proofs.Ytlbdpnlmdcajbaa

/- Frames by slots; loops, cuts and contracts with them. -/
namespace Go.Proofs.Ytlbdpnlmdcajbaa
open Go.RowKit
set_option linter.all false

def frm : List (Nat × AV) → Nat → AV
  | [] => fun _ => .x
  | (s, v) :: L => put (frm L) (some s) v
theorem frm_cons (s : Nat) (v : AV) (L : List (Nat × AV)) (t : Nat) : frm ((s, v) :: L) t = if t = s then v else frm L t := rfl
theorem frm_nil (t : Nat) : frm [] t = .x := rfl

def Sl (a : Nat → AV) : List (Nat × AV) → Prop
  | [] => True
  | (s, v) :: L => a s = v ∧ Sl a L
theorem frm_sub {a : Nat → AV} : ∀ {L : List (Nat × AV)}, Sl a L → ∀ t, frm L t = a t ∨ frm L t = .x
  | [], _, t => .inr rfl
  | (s, v) :: L, h, t => by
    rw [frm_cons]
    split
    · rename_i e; subst e; exact .inl h.1.symm
    · exact frm_sub h.2 t

section
variable {P : Program} {N : Nat} {a : Nat → AV} {H : Heap} {Q : Post}

theorem Rel.havoc {F : Mem} {B : Bk} {act : Act} {w : World} {a2 : Nat → AV} (hr : Rel F B N a H act w) (hl : ∀ t, a2 t = a t ∨ a2 t = .x) : Rel F B N a2 H act w :=
  ⟨hr.dfr, hr.low, hr.rnd, hr.size, fun t => by
    rcases hl t with e | e
    · rw [e]; exact hr.vf t
    · rw [e]; exact .x _, hr.sat⟩
theorem Rel.less {F : Mem} {B : Bk} {act : Act} {w : World} {H2 : Heap} (hr : Rel F B N a H act w) (hl : Heap.le H2 H) : Rel F B N a H2 act w := by
  have hn : ∀ m, H m = none → H2 m = none := fun m hm => by
    cases hk : H2 m with
    | none => rfl
    | some k => rw [hl m k hk] at hm; cases hm
  obtain ⟨Ds, d1, d2, d3⟩ := hr.dfr
  exact ⟨⟨Ds, d1, d2, fun D hD => ⟨(d3 D hD).1, hn D (d3 D hD).2.1, (d3 D hD).2.2⟩⟩, hr.low, fun l hl => ⟨(hr.rnd l hl).1, hn l (hr.rnd l hl).2⟩, hr.size, hr.vf, hr.sat.less hl⟩

theorem AW_cut {c : Code} {H2 : Heap} (L : List (Nat × AV)) (hs : Sl a L) (hl : Heap.le H2 H) (h : AW P N c (frm L) H2 Q) : AW P N c a H Q := AW_less hl (AW_havoc (frm_sub hs) h)

theorem AW_loopS {σ : Type} {c : Code} (inv : σ → Prop) (fr : σ → List (Nat × AV)) (hp : σ → Heap) (μ : σ → Nat) (s0 : σ) (h0 : inv s0) (hf : Sl a (fr s0)) (hH : Heap.le (hp s0) H)
    (round : ∀ s, inv s → AW P N c (frm (fr s)) (hp s) (thenA (fun a' H' => ∃ s', inv s' ∧ Sl a' (fr s') ∧ Heap.le (hp s') H' ∧ μ s' < μ s) Q)) : AW P N (.loop c) a H Q := by
  refine AW_cut (fr s0) hf hH ?_
  intro Fe n hF B F w act hr
  refine wpIn_loop_ghost (σ := Mem × σ) (fun s act' w' => inv s.2 ∧ Rel s.1 ⟨B, Fe.round⟩ N (frm (fr s.2)) (hp s.2) act' w' ∧ Ext F (hp s0) w s.1 (hp s.2) w') (fun s => μ s.2) (s := (F, s0)) ⟨h0, hr, Ext.refl _ _ _⟩ ?_
  rintro ⟨F1, s1⟩ act1 w1 ⟨i1, r1, e1⟩
  refine wpIn_mono (round s1 i1 Fe n hF B F1 w1 act1 r1) ?_
  rintro e act' w' ⟨F', a', H', h1, h2, h3⟩
  cases e with
  | normal =>
    obtain ⟨s', g1, g2, g3, g4⟩ := h3
    exact ⟨(F', s'), ⟨g1, (h1.havoc (frm_sub g2)).less g3, (e1.trans h2).less g3⟩, g4⟩
  | _ => exact ⟨F', a', H', h1, e1.trans h2, h3⟩

theorem AW_seqS {σ : Type} {x y : Code} (inv : σ → Prop) (fr : σ → List (Nat × AV)) (hp : σ → Heap)
    (hx : AW P N x a H (thenA (fun a' H' => ∃ s, inv s ∧ Sl a' (fr s) ∧ Heap.le (hp s) H') Q)) (hy : ∀ s, inv s → AW P N y (frm (fr s)) (hp s) Q) : AW P N (.seq x y) a H Q :=
  AW_seq (hx.mono fun e a' H' h => by
    cases e with
    | normal => obtain ⟨s, h1, h2, h3⟩ := h; exact AW_cut _ h2 h3 (hy s h1)
    | _ => exact h)

theorem ACall_of' {f : FuncId} {fn : Func} {c : Code} {args : List AV} {R : AV → Heap → Prop} (hf : P.funcs[f]? = some fn) (hb : fn.body = some c) (hen : Ent P f) (hl : args.length ≤ fn.ntmps)
    (h : AW P fn.ntmps c (ini args) H (retQ P fn.results.toList fun r H' => ∃ r2 H2, Weak r H' r2 H2 ∧ R r2 H2)) : ACall P f args H R :=
  (ACall_of hf hb hen hl h).weak
end

theorem Heap.le_new {B H : Heap} {n : Nat} {k : Blk} (h : Heap.le B H) (hn : B n = none) : Heap.le B (upd H n k) := fun m x hm => by
  rw [upd_ne (by rintro rfl; rw [hn] at hm; cases hm)]; exact h m x hm
theorem Heap.le_put {B H : Heap} {n : Nat} {k : Blk} (h : Heap.le B H) (hn : H n = some k) : Heap.le (upd B n k) H := fun m x hm => by
  by_cases e : m = n
  · subst e; rw [upd_same] at hm; cases hm; exact hn
  · rw [upd_ne e] at hm; exact h m x hm
theorem Heap.le_join {A B A' B' : Heap} (h : Heap.le A A') (k : Heap.le B B') (hap : Apart A' B') : Heap.le (join A B) (join A' B') := fun m x hm => by
  unfold join at hm ⊢
  cases hA : A m with
  | some y => rw [hA] at hm; rw [h m y hA]; exact hm
  | none =>
    rw [hA] at hm
    simp only [Option.none_or] at hm
    have := k m x hm
    rcases hap m with g | g
    · rw [g, this]; rfl
    · rw [g] at this; cases this
theorem Heap.le_emp (H : Heap) : Heap.le (fun _ => none) H := fun m x hm => by cases hm

theorem bnd_i64 {x : Int} (h : (Lit.int .i64 x).wf = true) : -9223372036854775808 ≤ x ∧ x ≤ 9223372036854775807 := bounds_i64 h

def Pure (P : Program) (f : FuncId) (args : List AV) (r : AV) : Prop := ∀ H, ACall P f args H fun r' H' => r' = r ∧ H' = H
theorem Pure.cl {P : Program} {f : FuncId} {args : List AV} {r : AV} (h : Pure P f args r) : ACall P f args (fun _ => none) fun r' _ => r' = r := (h _).mono fun _ _ h => h.1
section
variable {P : Program} {E : Env P} {N : Nat} {ops : Array Oper} {a : Nat → AV} {H : Heap} {K : AV → Heap → Prop} {d : Option Nat} {ty : TypeId} {ps : String} {af : Array Edge} {g : Option (Nat × Bool)}
def opt (P : Program) (o : Oper) (a : Nat → AV) (H : Heap) (K : AV → Heap → Prop) (r : Option AV) : Prop := match r with | some r => K r H | none => Does P o a H K
theorem opt_some {o : Oper} {r : AV} : opt P o a H K (some r) = K r H := propext ⟨fun h => h, fun h => h⟩
theorem opt_none {o : Oper} : opt P o a H K none = Does P o a H K := propext ⟨fun h => h, fun h => h⟩
theorem pF_move {x : Operand} : pureF E H { dst := d, op := .move x, type := ty, pos := ps, after := af, guard := g } a = (some (ev a x)) := Eq.trans (Eq.refl _) (Eq.refl _)
theorem EO_move {x : Operand} : EO E { dst := d, op := .move x, type := ty, pos := ps, after := af, guard := g } a H K = K (ev a x) H := propext ⟨fun h => h, fun h => h⟩
theorem pF_assign {x : Operand} : pureF E H { dst := d, op := .assign x, type := ty, pos := ps, after := af, guard := g } a = (some (ev a x)) := Eq.trans (Eq.refl _) (Eq.refl _)
theorem EO_assign {x : Operand} : EO E { dst := d, op := .assign x, type := ty, pos := ps, after := af, guard := g } a H K = K (ev a x) H := propext ⟨fun h => h, fun h => h⟩
theorem pF_pick {c x y : Operand} : pureF E H { dst := d, op := .pick c x y, type := ty, pos := ps, after := af, guard := g } a = (match ev a c with | .c (.bool b) => some (if b then ev a x else ev a y) | _ => none) := Eq.trans (Eq.refl _) (Eq.refl _)
theorem EO_pick {c x y : Operand} : EO E { dst := d, op := .pick c x y, type := ty, pos := ps, after := af, guard := g } a H K = opt P { dst := d, op := .pick c x y, type := ty, pos := ps, after := af, guard := g } a H K (match ev a c with | .c (.bool b) => some (if b then ev a x else ev a y) | _ => none) := propext ⟨fun h => h, fun h => h⟩
theorem pF_makeFunc {fn : Fn} {xs ys : Array Operand} : pureF E H { dst := d, op := .makeFunc fn xs ys, type := ty, pos := ps, after := af, guard := g } a = (some (.f fn (xs.toList.map (ev a)) (ys.toList.map (ev a)))) := Eq.trans (Eq.refl _) (Eq.refl _)
theorem EO_makeFunc {fn : Fn} {xs ys : Array Operand} : EO E { dst := d, op := .makeFunc fn xs ys, type := ty, pos := ps, after := af, guard := g } a H K = K (.f fn (xs.toList.map (ev a)) (ys.toList.map (ev a))) H := propext ⟨fun h => h, fun h => h⟩
theorem pF_extract {x : Operand} {i : Nat} : pureF E H { dst := d, op := .extract x i, type := ty, pos := ps, after := af, guard := g } a = (match ev a x with | .t xs => xs[i]? | _ => none) := Eq.trans (Eq.refl _) (Eq.refl _)
theorem EO_extract {x : Operand} {i : Nat} : EO E { dst := d, op := .extract x i, type := ty, pos := ps, after := af, guard := g } a H K = opt P { dst := d, op := .extract x i, type := ty, pos := ps, after := af, guard := g } a H K (match ev a x with | .t xs => xs[i]? | _ => none) := propext ⟨fun h => h, fun h => h⟩
theorem pF_unOp {u : UnOp} {t : TypeId} {x : Operand} : pureF E H { dst := d, op := .unOp u t x, type := ty, pos := ps, after := af, guard := g } a = (match ev a x with | .c v => (unV u v).map .c | _ => none) := Eq.trans (Eq.refl _) (Eq.refl _)
theorem EO_unOp {u : UnOp} {t : TypeId} {x : Operand} : EO E { dst := d, op := .unOp u t x, type := ty, pos := ps, after := af, guard := g } a H K = opt P { dst := d, op := .unOp u t x, type := ty, pos := ps, after := af, guard := g } a H K (match ev a x with | .c v => (unV u v).map .c | _ => none) := propext ⟨fun h => h, fun h => h⟩
theorem pF_binOp {b : BinOp} {t t2 : TypeId} {x y : Operand} : pureF E H { dst := d, op := .binOp b t x y t2, type := ty, pos := ps, after := af, guard := g } a = (eqV E b t (ev a x) (ev a y)) := Eq.trans (Eq.refl _) (Eq.refl _)
theorem EO_binOp {b : BinOp} {t t2 : TypeId} {x y : Operand} : EO E { dst := d, op := .binOp b t x y t2, type := ty, pos := ps, after := af, guard := g } a H K = opt P { dst := d, op := .binOp b t x y t2, type := ty, pos := ps, after := af, guard := g } a H K (eqV E b t (ev a x) (ev a y)) := propext ⟨fun h => h, fun h => h⟩
theorem pF_convert {s t : TypeId} {x : Operand} : pureF E H { dst := d, op := .convert s t x, type := ty, pos := ps, after := af, guard := g } a = (cnvV P s t (ev a x)) := Eq.trans (Eq.refl _) (Eq.refl _)
theorem EO_convert {s t : TypeId} {x : Operand} : EO E { dst := d, op := .convert s t x, type := ty, pos := ps, after := af, guard := g } a H K = opt P { dst := d, op := .convert s t x, type := ty, pos := ps, after := af, guard := g } a H K (cnvV P s t (ev a x)) := propext ⟨fun h => h, fun h => h⟩
theorem pF_nilCheck {x : Operand} : pureF E H { dst := d, op := .nilCheck x, type := ty, pos := ps, after := af, guard := g } a = (if (ev a x).nn = true then some (ev a x) else none) := Eq.trans (Eq.refl _) (Eq.refl _)
theorem EO_nilCheck {x : Operand} : EO E { dst := d, op := .nilCheck x, type := ty, pos := ps, after := af, guard := g } a H K = opt P { dst := d, op := .nilCheck x, type := ty, pos := ps, after := af, guard := g } a H K (if (ev a x).nn = true then some (ev a x) else none) := propext ⟨fun h => h, fun h => h⟩
theorem pF_fieldAddr {t : TypeId} {x : Operand} {f : Nat} : pureF E H { dst := d, op := .fieldAddr t x f, type := ty, pos := ps, after := af, guard := g } a = (fldA P t f (ev a x)) := Eq.trans (Eq.refl _) (Eq.refl _)
theorem EO_fieldAddr {t : TypeId} {x : Operand} {f : Nat} : EO E { dst := d, op := .fieldAddr t x f, type := ty, pos := ps, after := af, guard := g } a H K = opt P { dst := d, op := .fieldAddr t x f, type := ty, pos := ps, after := af, guard := g } a H K (fldA P t f (ev a x)) := propext ⟨fun h => h, fun h => h⟩
theorem pF_field {t : TypeId} {x : Operand} {f : Nat} : pureF E H { dst := d, op := .field t x f, type := ty, pos := ps, after := af, guard := g } a = (fldV P t f (ev a x)) := Eq.trans (Eq.refl _) (Eq.refl _)
theorem EO_field {t : TypeId} {x : Operand} {f : Nat} : EO E { dst := d, op := .field t x f, type := ty, pos := ps, after := af, guard := g } a H K = opt P { dst := d, op := .field t x f, type := ty, pos := ps, after := af, guard := g } a H K (fldV P t f (ev a x)) := propext ⟨fun h => h, fun h => h⟩
theorem pF_indexAddr {t : TypeId} {x y : Operand} : pureF E H { dst := d, op := .indexAddr t x y, type := ty, pos := ps, after := af, guard := g } a = (idxA P t (ev a x) (ev a y)) := Eq.trans (Eq.refl _) (Eq.refl _)
theorem EO_indexAddr {t : TypeId} {x y : Operand} : EO E { dst := d, op := .indexAddr t x y, type := ty, pos := ps, after := af, guard := g } a H K = opt P { dst := d, op := .indexAddr t x y, type := ty, pos := ps, after := af, guard := g } a H K (idxA P t (ev a x) (ev a y)) := propext ⟨fun h => h, fun h => h⟩
theorem pF_index {t : TypeId} {x y : Operand} : pureF E H { dst := d, op := .index t x y, type := ty, pos := ps, after := af, guard := g } a = (idxV P t (ev a x) (ev a y)) := Eq.trans (Eq.refl _) (Eq.refl _)
theorem EO_index {t : TypeId} {x y : Operand} : EO E { dst := d, op := .index t x y, type := ty, pos := ps, after := af, guard := g } a H K = opt P { dst := d, op := .index t x y, type := ty, pos := ps, after := af, guard := g } a H K (idxV P t (ev a x) (ev a y)) := propext ⟨fun h => h, fun h => h⟩
theorem pF_slice {t : TypeId} {x : Operand} {lo hi mx : Option Operand} : pureF E H { dst := d, op := .slice t x lo hi mx, type := ty, pos := ps, after := af, guard := g } a = (slcV P t a (ev a x) lo hi mx) := Eq.trans (Eq.refl _) (Eq.refl _)
theorem EO_slice {t : TypeId} {x : Operand} {lo hi mx : Option Operand} : EO E { dst := d, op := .slice t x lo hi mx, type := ty, pos := ps, after := af, guard := g } a H K = opt P { dst := d, op := .slice t x lo hi mx, type := ty, pos := ps, after := af, guard := g } a H K (slcV P t a (ev a x) lo hi mx) := propext ⟨fun h => h, fun h => h⟩
theorem pF_load {t : TypeId} {x : Operand} : pureF E H { dst := d, op := .load t x, type := ty, pos := ps, after := af, guard := g } a = (ldV P H t (ev a x)) := Eq.trans (Eq.refl _) (Eq.refl _)
theorem EO_load {t : TypeId} {x : Operand} : EO E { dst := d, op := .load t x, type := ty, pos := ps, after := af, guard := g } a H K = opt P { dst := d, op := .load t x, type := ty, pos := ps, after := af, guard := g } a H K (ldV P H t (ev a x)) := propext ⟨fun h => h, fun h => h⟩
theorem pF_build {t : TypeId} {q : Array (Nat × Operand)} : pureF E H { dst := d, op := .build t q, type := ty, pos := ps, after := af, guard := g } a = (bldV P t (q.toList.map fun p => (p.1, ev a p.2))) := Eq.trans (Eq.refl _) (Eq.refl _)
theorem EO_build {t : TypeId} {q : Array (Nat × Operand)} : EO E { dst := d, op := .build t q, type := ty, pos := ps, after := af, guard := g } a H K = opt P { dst := d, op := .build t q, type := ty, pos := ps, after := af, guard := g } a H K (bldV P t (q.toList.map fun p => (p.1, ev a p.2))) := propext ⟨fun h => h, fun h => h⟩
theorem pF_builtin {b : Builtin} {xs : Array Operand} {ts : Array TypeId} : pureF E H { dst := d, op := .call { callee := .builtin b, args := xs, argTypes := ts }, type := ty, pos := ps, after := af, guard := g } a = (biV P b ts.toList (xs.toList.map (ev a))) := Eq.trans (Eq.refl _) (Eq.refl _)
theorem EO_builtin {b : Builtin} {xs : Array Operand} {ts : Array TypeId} : EO E { dst := d, op := .call { callee := .builtin b, args := xs, argTypes := ts }, type := ty, pos := ps, after := af, guard := g } a H K = opt P { dst := d, op := .call { callee := .builtin b, args := xs, argTypes := ts }, type := ty, pos := ps, after := af, guard := g } a H K (biV P b ts.toList (xs.toList.map (ev a))) := propext ⟨fun h => h, fun h => h⟩
theorem pF_callf {f : FuncId} {xs : Array Operand} {ts : Array TypeId} : pureF E H { dst := d, op := .call { callee := .value (.func f), args := xs, argTypes := ts }, type := ty, pos := ps, after := af, guard := g } a = (E.cl f (xs.toList.map (ev a))) := Eq.trans (Eq.refl _) (Eq.refl _)
theorem EO_callf {f : FuncId} {xs : Array Operand} {ts : Array TypeId} : EO E { dst := d, op := .call { callee := .value (.func f), args := xs, argTypes := ts }, type := ty, pos := ps, after := af, guard := g } a H K = opt P { dst := d, op := .call { callee := .value (.func f), args := xs, argTypes := ts }, type := ty, pos := ps, after := af, guard := g } a H K (E.cl f (xs.toList.map (ev a))) := propext ⟨fun h => h, fun h => h⟩
theorem pF_callt {z : Nat} {xs : Array Operand} {ts : Array TypeId} : pureF E H { dst := d, op := .call { callee := .value (.tmp z), args := xs, argTypes := ts }, type := ty, pos := ps, after := af, guard := g } a = (none) := Eq.trans (Eq.refl _) (Eq.refl _)
theorem EO_callt {z : Nat} {xs : Array Operand} {ts : Array TypeId} : EO E { dst := d, op := .call { callee := .value (.tmp z), args := xs, argTypes := ts }, type := ty, pos := ps, after := af, guard := g } a H K = Does P { dst := d, op := .call { callee := .value (.tmp z), args := xs, argTypes := ts }, type := ty, pos := ps, after := af, guard := g } a H K := propext ⟨fun h => h, fun h => h⟩
theorem EO_alloc {t : TypeId} : EO E { dst := d, op := .alloc t, type := ty, pos := ps, after := af, guard := g } a H K = (match tZ P t with
    | some zs => zs.all (·.oneCell') = true ∧ 0 < zs.length ∧ ∀ n, H n = none → K (.p n zs.length 0 0) (upd H n (.r t zs.length 1 [zs.map .c]))
    | none => False) := propext ⟨fun h => h, fun h => h⟩
theorem EO_box {t : TypeId} {x : Operand} : EO E { dst := d, op := .box t x, type := ty, pos := ps, after := af, guard := g } a H K = (match (ev a x).cs with
    | some ys => 0 < ys.length ∧ ∀ n, H n = none → K (.p n ys.length 0 0) (upd H n (.r t ys.length 1 [ys]))
    | none => False) := propext ⟨fun h => h, fun h => h⟩
theorem EO_buildSlice {t : TypeId} {len : Nat} {parts : Array (Nat × Operand)} : EO E { dst := d, op := .buildSlice t len parts, type := ty, pos := ps, after := af, guard := g } a H K = (match tE P t with
    | some et =>
      match tS P et, tZ P et with
      | some sz, some zs => (zs.length = sz ∧ 0 < sz ∧ len * sz ≤ 16777216 ∧ zs.all (·.oneCell') = true) ∧
        match fillR sz (List.replicate len (zs.map .c)) (parts.toList.map fun p => (p.1, ev a p.2)) with
        | some r => ∀ n, H n = none → K (.s n sz 0 len len) (upd H n (.r et sz len r))
        | none => False
      | _, _ => False
    | none => False) := propext ⟨fun h => h, fun h => h⟩
theorem EO_store {t : TypeId} {x y : Operand} : EO E { dst := d, op := .store t x y, type := ty, pos := ps, after := af, guard := g } a H K = (match ev a x with
    | .p n sz i j =>
      match H n with
      | some (.r ty sz' cap rows) =>
        match rows[i]?, (ev a y).cs with
        | some e, some ys => (sz' = sz ∧ tS P t = some ys.length ∧ j + ys.length ≤ e.length) ∧ K .x (upd H n (.r ty sz' cap (rows.set i (e.take j ++ ys ++ e.drop (j + ys.length)))))
        | _, _ => False
      | _ => False
    | _ => False) := propext ⟨fun h => h, fun h => h⟩
theorem stepV_none {op : Op} : stepV E ops { dst := d, op := op, type := ty, pos := ps, after := af, guard := none } a H = pureF E H { dst := d, op := op, type := ty, pos := ps, after := af, guard := none } a := Eq.trans (Eq.refl _) (Eq.refl _)
theorem stepV_guard {op : Op} {j : Nat} {w : Bool} : stepV E ops { dst := d, op := op, type := ty, pos := ps, after := af, guard := some (j, w) } a H = (match gv ops a j with
    | some b => if b = w then pureF E H { dst := d, op := op, type := ty, pos := ps, after := af, guard := some (j, w) } a else some (.t [])
    | none => if gu ops a j = true then some (.t []) else none) := Eq.trans (Eq.refl _) (Eq.refl _)
def CL {P : Program} (E : Env P) (N : Nat) (ops : Array Oper) (pc : FuncId → Bool) (us : List Nat) (l : List En) (a : Nat → AV) (d : Option Nat) (M : List (Nat × (Heap → Prop))) (K : (Nat → AV) → Heap → Prop) : AV → Heap → Prop := fun r H' => (∀ e ∈ M, e.1 ∈ us → e.2 H') ∧ LR E N ops pc l (put a d r) H' M K
theorem CL_app {pc : FuncId → Bool} {us : List Nat} {l : List En} {M : List (Nat × (Heap → Prop))} {K : (Nat → AV) → Heap → Prop} {r : AV} {H' : Heap} : CL E N ops pc us l a d M K r H' = ((∀ e ∈ M, e.1 ∈ us → e.2 H') ∧ LR E N ops pc l (put a d r) H' M K) := propext ⟨fun h => h, fun h => h⟩
theorem LR_nil {pc : FuncId → Bool} {M : List (Nat × (Heap → Prop))} {K : (Nat → AV) → Heap → Prop} : LR E N ops pc [] a H M K = K a H := propext ⟨fun h => h, fun h => h⟩
theorem LR_cons {pc : FuncId → Bool} {i : Nat} {rc : Bool} {us : List Nat} {l : List En} {M : List (Nat × (Heap → Prop))} {K : (Nat → AV) → Heap → Prop} : LR E N ops pc ((i, rc, us) :: l) a H M K = (match ops[i]? with
    | none => False
    | some o => dok N o.dst = true ∧
      match cls pc o with
      | .pure => match stepV E ops o a H with
        | some r => LR E N ops pc l (put a o.dst r) H (if rc = true then (i, fun H' => stepV E ops o a H' = some r) :: M else M) K
        | none => False
      | .make => match mkV E o a with
        | some g => ∀ n, H n = none → LR E N ops pc l (put a o.dst (g n).1) (upd H n (g n).2) M K
        | none => False
      | .gen => premk E N ops a us ∧ GT E ops o a H (CL E N ops pc us l a o.dst M K)) := propext ⟨fun h => h, fun h => h⟩
end
theorem hle_upd_l {B H : Heap} {n : Nat} {k : Blk} (hB : B n = none) : Heap.le (upd B n k) H = (H n = some k ∧ Heap.le B H) :=
  propext ⟨fun h => ⟨h n k (upd_same _ _ _), fun m x hm => h m x (by rw [upd_ne (by rintro rfl; rw [hB] at hm; cases hm)]; exact hm)⟩, fun h => Heap.le_put h.2 h.1⟩
theorem hle_upd_r {B H : Heap} {n : Nat} {k : Blk} (hB : B n = none) : Heap.le B (upd H n k) = Heap.le B H :=
  propext ⟨fun h m x hm => by have := h m x hm; rwa [upd_ne (by rintro rfl; rw [hB] at hm; cases hm)] at this, fun h => Heap.le_new h hB⟩
theorem hle_del_r {B H : Heap} {n : Nat} (hB : B n = none) : Heap.le B (del H n) = Heap.le B H :=
  propext ⟨fun h m x hm => del_le H n m x (h m x hm), fun h m x hm => by rw [del_ne (by rintro rfl; rw [hB] at hm; cases hm)]; exact h m x hm⟩
theorem hle_refl (H : Heap) : Heap.le H H = True := propext ⟨fun _ => trivial, fun _ => Heap.le_refl H⟩
theorem hle_emp (H : Heap) : Heap.le (fun _ => none) H = True := propext ⟨fun _ => trivial, fun _ => Heap.le_emp H⟩
theorem cs_g (xs : List AV) : (AV.g xs).cs = some xs := rfl
theorem cs_c (v : Value) : (AV.c v).cs = if v.oneCell' then some [.c v] else none := rfl
theorem cs_p (n sz i j : Nat) : (AV.p n sz i j).cs = some [.p n sz i j] := rfl
theorem cs_q (e : List AV) (j : Nat) : (AV.q e j).cs = some [.q e j] := rfl
theorem cs_s (n sz i len cap : Nat) : (AV.s n sz i len cap).cs = some [.s n sz i len cap] := rfl
theorem cs_l (sz : Nat) (rows : List (List AV)) : (AV.l sz rows).cs = some [.l sz rows] := rfl
theorem cs_f (fn : Fn) (xs ys : List AV) : (AV.f fn xs ys).cs = some [.f fn xs ys] := rfl
theorem lenV_l (sz : Nat) (rows : List (List AV)) : lenV (.l sz rows) = some rows.length := rfl
theorem lenV_s (n sz i len cap : Nat) : lenV (.s n sz i len cap) = some len := rfl
theorem lenV_c (ad : Option Addr) (len cap : Nat) : lenV (.c (.slice ad len cap)) = some len := rfl
attribute [push_cast] cnvV u8Of_by1 opt_some opt_none stepV_none stepV_guard LR_nil LR_cons pF_move EO_move pF_assign EO_assign pF_pick EO_pick pF_makeFunc EO_makeFunc pF_extract EO_extract pF_unOp EO_unOp pF_binOp EO_binOp pF_convert EO_convert pF_nilCheck EO_nilCheck pF_fieldAddr EO_fieldAddr pF_field EO_field pF_indexAddr EO_indexAddr pF_index EO_index pF_slice EO_slice pF_load EO_load pF_build EO_build pF_builtin EO_builtin pF_callf EO_callf pF_callt EO_callt EO_alloc EO_box EO_buildSlice EO_store
attribute [push_cast] premk isMkO true_implies Bool.false_eq_true false_implies Option.isSome_some Option.isSome_map
attribute [push_cast] CT_app CL_app hle_upd_l hle_upd_r hle_del_r hle_refl hle_emp upd_upd
attribute [push_cast] ER_nil ER_none cls clsO isLoad mkV GT ev dok put_some put_none frm_cons frm_nil Sl putAll thenA blkA roundQ retQ resL resV oneV ini gv eqV_c eqV_g valsOf binV_add binV_sub binV_mul binV_and binV_or binV_eql binV_neq binV_lss binV_leq binV_gtr binV_geq binV_quo binV_rem binV_beq binV_bne unV ldV fldA fldV idxA idxV slcV optI bldV fillC fillR biV lenV_l lenV_s lenV_c prt cs_g cs_c cs_p cs_q cs_s cs_l cs_f AV.nn Value.oneCell' upd_same upd_get upd_none2 upd_join join_upd_get join_none_iff ite_cbool ite_cbool'
attribute [push_cast] List.getD_eq_getElem?_getD List.getElem?_cons_zero List.getElem?_cons_succ List.getElem?_nil Option.getD_some Option.getD_none Option.bind_some Option.bind_none Option.map_some Option.map_none List.getElem?_toArray List.map_cons List.map_nil List.toList_toArray decide_true decide_false true_and and_true Bool.not_true Bool.not_false Bool.true_eq_false Bool.false_eq_true if_true if_false ite_self Nat.add_zero Nat.zero_add List.length_cons List.length_nil forall_const imp_self implies_true ne_eq not_true_eq_false not_false_eq_true Bool.decide_eq_true Bool.not_eq_true' Bool.not_eq_false' List.drop_zero List.drop_succ_cons List.drop_nil List.take_zero List.take_succ_cons List.take_nil List.set_cons_zero List.set_cons_succ List.nil_append List.cons_append List.all_cons List.all_nil Bool.and_true Bool.true_and Bool.and_self forall_eq_or_imp forall_eq List.mem_cons List.not_mem_nil or_false false_or Nat.le_refl Nat.lt_irrefl List.replicate_succ List.replicate_zero false_implies Nat.one_pos Nat.zero_lt_one Nat.le_add_left List.contains_cons List.contains_nil Bool.or_false Bool.or_true Bool.false_or Bool.true_or Nat.one_ne_zero Nat.zero_ne_one Nat.mul_one Nat.one_mul Nat.mul_zero Nat.zero_mul and_self List.append_nil List.getElem?_set_self eq_self or_true true_or or_self Nat.zero_le List.replicate
end Go.Proofs.Ytlbdpnlmdcajbaa
