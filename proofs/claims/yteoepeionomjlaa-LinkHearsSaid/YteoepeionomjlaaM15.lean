/- Regions that draw their order: the rule. -/
import Derived.Test.YteoepeionomjlaaM14
namespace Go.Proofs.Yteoepeionomjlaa
open Go.RowKit
set_option linter.unusedVariables false
set_option linter.unusedSimpArgs false
set_option linter.constructorNameAsVariable false

theorem mkV_ok {P : Program} {E : Env P} {o : Oper} {a : Nat → AV} {H : Heap} {K : AV → Heap → Prop} {g : Nat → AV × Blk} (h : mkV E o a = some g) (hk : ∀ n, H n = none → K (g n).1 (upd H n (g n).2)) : Does P o a H K := by
  unfold mkV at h
  split at h
  · split at h
    · rename_i zs hz
      split at h
      · rename_i hc; cases h; exact does_alloc (by assumption) hz hc.1 hc.2 hk
      · cases h
    · cases h
  · split at h
    · rename_i ys hx
      split at h
      · rename_i hc; cases h; exact does_box (by assumption) hx hc hk
      · cases h
    · cases h
  · split at h
    · rename_i et hE
      split at h
      · rename_i sz zs hS hz
        split at h
        · rename_i hc
          obtain ⟨h1, h2, h3, h4⟩ := hc
          obtain ⟨r, hr, rfl⟩ := Option.map_eq_some_iff.1 h
          exact does_buildSlice (by assumption) hE hS hz h1 h2 h3 h4 hr hk
        · cases h
      · cases h
    · cases h
  · cases h

section
variable {P : Program} {E : Env P} {B : Bk} {N : Nat} {ops : Array Oper} {pc : FuncId → Bool} {K : (Nat → AV) → Heap → Prop} {Fe : Fence} {n : Nat} {Q : Exit → Act → World → Prop}

theorem EX_run (hF : Wide Fe) {i : Nat} {o : Oper} (ho : ops[i]? = some o) {a : Nat → AV} {H : Heap} {C : AV → Heap → Prop} {F1 : Mem} {act : Act} {w : World} {Kr : Act → World → Prop} (h : EX E ops pc o a H C) (hr : Rel F1 B N a H act w)
    (hk : ∀ F' r v H' w', V F' r v → Sat F' H' w' → Ext F1 H w F' H' w' → C r H' → Kr (act.put o.dst v) w') : wpOpIn Fe n P ops Q i Kr act w := by
  have habout : ∀ f, o.about P w act.eval = some f → Fe.fn f := fun f _ => hF.fn f
  have run : Does P o a H C → o.wpIn Fe n P act w Kr Q := fun hd => by
    refine wpIn_Q ?_ (hd Fe n hF F1 w act (hr.vf.vf o) hr.sat)
    rintro act' w' ⟨v, F', H', r, rfl, h1, h2, h3, h4⟩
    exact hk F' r v H' w' h1 h2 h3 h4
  have skip : C .x H → Kr (act.put o.dst undef) w := fun hc => hk F1 .x undef H w (.x _) hr.sat (Ext.refl _ _ _) hc
  have guarded : ∀ (j : Nat) (wnt b : Bool), o.guard = some (j, wnt) → gv ops a j = some b → (b = wnt → Does P o a H C) → (b ≠ wnt → C .x H) → wpOpIn Fe n P ops Q i Kr act w := fun j wnt b hg hb h1 h2 => by
    have hw : Region.wanted o (yielded ops act.tmps) = (b == wnt) := by
      simp [Region.wanted, hg, gv_ok hr.vf hb]
    unfold wpOpIn
    simp only [ho]
    by_cases e : b = wnt
    · rw [if_pos (by rw [hw]; simp [e])]; exact run (h1 e)
    · rw [if_neg (by rw [hw]; simp [e])]; exact ⟨habout, skip (h2 e)⟩
  have plain : o.guard = none → Does P o a H C → wpOpIn Fe n P ops Q i Kr act w := fun hg hd => by
    unfold wpOpIn
    simp only [ho]
    rw [if_pos (by simp [Region.wanted, hg])]
    exact run hd
  unfold EX at h
  cases hc : cls pc o with
  | pure =>
    rw [hc] at h
    obtain ⟨r, hs, hC⟩ := h
    unfold stepV at hs
    split at hs
    · rename_i hg; exact plain hg (pureF_ok E hs hC)
    · rename_i j wnt hg
      split at hs
      · rename_i b hb
        refine guarded j wnt b hg hb (fun e => ?_) (fun e => ?_)
        · rw [if_pos e] at hs; exact pureF_ok E hs hC
        · rw [if_neg e] at hs; cases hs; exact hC
      · cases hs
  | make =>
    rw [hc] at h
    obtain ⟨g, hg, hC⟩ := h
    have : o.guard = none := by
      unfold cls at hc
      cases h1 : clsO pc o.op <;> cases hgd : o.guard <;> simp [h1, hgd] at hc ⊢
    exact plain this (mkV_ok hg hC)
  | gen =>
    rw [hc] at h
    simp only at h
    unfold GT at h
    split at h
    · rename_i hg; exact plain hg (EO_ok E h)
    · rename_i j wnt hg
      split at h
      · rename_i b hb
        exact guarded j wnt b hg hb (fun e => EO_ok E (h.1 e)) (fun e => h.2 (by cases b <;> cases wnt <;> simp_all))
      · exact h.elim

/-! the check -/
def dir (ops : Array Oper) (i : Nat) : List Nat :=
  match ops[i]? with
  | some o => (o.after.toList.filter (Region.binds .any)).map (·.on)
  | none => []
def pw (ops : Array Oper) (pc : FuncId → Bool) (A : List (List Nat)) : List En → Bool
  | [] => true
  | e :: l => l.all (fun e' => (A.getD e'.1 []).contains e.1 || okPair ops pc e e') && pw ops pc A l
def chk (ops : Array Oper) (pc : FuncId → Bool) (L : List En) (A : List (List Nat)) : Bool :=
  (List.range ops.size).all (fun i => (L.map (·.1)).contains i && (dir ops i).all (· < i) && (A.getD i []).all fun j => (dir ops i).contains j || (dir ops i).any fun d => (A.getD d []).contains j) &&
  (L.map (·.1)).all (· < ops.size) && decide (L.length = ops.size) && decide ((L.map (·.1)).Nodup) && pw ops pc A L

theorem pw_split {A : List (List Nat)} {e : En} {post : List En} : ∀ (pre : List En), pw ops pc A (pre ++ e :: post) = true → (∀ x ∈ pre, (A.getD e.1 []).contains x.1 = true ∨ okPair ops pc x e = true) ∧ pw ops pc A (pre ++ post) = true
  | [], h => by simp only [List.nil_append, pw, Bool.and_eq_true] at h ⊢; exact ⟨by simp, h.2⟩
  | x :: pre, h => by
    simp only [List.cons_append, pw, Bool.and_eq_true, List.all_eq_true] at h ⊢
    obtain ⟨h1, h2⟩ := h
    obtain ⟨g1, g2⟩ := pw_split pre h2
    refine ⟨fun y hy => ?_, fun y hy => ?_, g2⟩
    · rcases List.mem_cons.1 hy with rfl | hy
      · have := h1 e (by simp)
        rwa [Bool.or_eq_true] at this
      · exact g1 y hy
    · refine h1 y ?_
      rcases List.mem_append.1 hy with hy | hy
      · exact List.mem_append.2 (.inl hy)
      · exact List.mem_append.2 (.inr (List.mem_cons.2 (.inr hy)))

theorem run_any (hF : Wide Fe) {A : List (List Nat)} (hdir : ∀ i, i < ops.size → ∀ d ∈ dir ops i, d < i) (hA : ∀ i, i < ops.size → ∀ j ∈ A.getD i [], j ∈ dir ops i ∨ ∃ d ∈ dir ops i, j ∈ A.getD d [])
    {F : Mem} {H0 : Heap} {w0 : World} (hQ : ∀ act w, Goes F H0 w0 B N K act w → Q .normal act w) :
    ∀ (fuel : Nat) (L : List En) (listed : Array Bool) (a : Nat → AV) (H : Heap) (act : Act) (w : World) (F1 : Mem), L.length ≤ fuel → listed.size = ops.size → pw ops pc A L = true → (∀ i, i < ops.size → (listed.getD i true = false ↔ i ∈ L.map (·.1))) → (∀ e ∈ L, e.1 < ops.size) → (L.map (·.1)).Nodup →
      (∀ k, k < ops.size → listed.getD k true = true → ∀ j ∈ A.getD k [], listed.getD j true = true) →
      LR E N ops pc L a H [] K → Rel F1 B N a H act w → Ext F H0 w0 F1 H w → wpAnyIn Fe n P .any ops Q fuel listed act w := by
  have none_left : ∀ (L : List En) (listed : Array Bool), listed.size = ops.size → (∀ i, i < ops.size → (listed.getD i true = false ↔ i ∈ L.map (·.1))) → (∀ e ∈ L, e.1 < ops.size) → (L = [] → Region.ready .any ops listed = []) ∧ (Region.ready .any ops listed = [] → L = []) := by
    intro L listed hsize hm hlt
    constructor
    · rintro rfl
      cases hr : Region.ready .any ops listed with
      | nil => rfl
      | cons i rs =>
        have : i ∈ Region.ready .any ops listed := by rw [hr]; simp
        obtain ⟨h1, o, ho, _⟩ := mem_ready.1 this
        have := (hm i (Array.getElem?_eq_some_iff.1 ho).1).1 h1
        simp at this
    · intro hr
      cases L with
      | nil => rfl
      | cons e L =>
        exfalso
        -- the least one that is left is ready
        have least : ∃ m, m ∈ (e :: L).map (·.1) ∧ ∀ k ∈ (e :: L).map (·.1), m ≤ k := by
          generalize hX : (e :: L).map (·.1) = X
          have hne : X ≠ [] := by rw [← hX]; simp
          clear hX hr hm hlt
          induction X with
          | nil => exact absurd rfl hne
          | cons x X ih =>
            by_cases hX : X = []
            · subst hX; exact ⟨x, by simp, by simp⟩
            · obtain ⟨m, h1, h2⟩ := ih hX
              by_cases hxm : x ≤ m
              · exact ⟨x, by simp, fun k hk => by
                  rcases List.mem_cons.1 hk with rfl | hk
                  · exact Nat.le_refl _
                  · exact Nat.le_trans hxm (h2 k hk)⟩
              · exact ⟨m, by simp [h1], fun k hk => by
                  rcases List.mem_cons.1 hk with rfl | hk
                  · omega
                  · exact h2 k hk⟩
        obtain ⟨m, hm1, hm2⟩ := least
        have hms : m < ops.size := by
          obtain ⟨x, hx, rfl⟩ := List.mem_map.1 hm1
          exact hlt x hx
        have : m ∈ Region.ready .any ops listed := by
          refine mem_ready.2 ⟨(hm m hms).2 hm1, ops[m], Array.getElem?_eq_getElem hms, fun ed hed hb => ?_⟩
          have hd : ed.on ∈ dir ops m := by
            unfold dir; rw [Array.getElem?_eq_getElem hms]
            exact List.mem_map.2 ⟨ed, List.mem_filter.2 ⟨Array.mem_toList_iff.2 hed, hb⟩, rfl⟩
          have hlt' := hdir m hms _ hd
          cases hl : listed.getD ed.on true with
          | true =>
            have h0 := hl
            have hsz : ed.on < ops.size := by omega
            cases hl2 : listed.getD ed.on false with
            | true => rfl
            | false =>
              exfalso
              rw [Array.getD_eq_getD_getElem?] at hl hl2
              cases hx : listed[ed.on]? with
              | some b => rw [hx] at hl hl2; simp at hl hl2; rw [hl] at hl2; cases hl2
              | none =>
                have := Array.getElem?_eq_none_iff.1 hx
                omega
          | false =>
            exfalso
            have := (hm ed.on (by omega)).1 hl
            have := hm2 _ this
            omega
        rw [hr] at this; cases this
  intro fuel
  induction fuel with
  | zero =>
    intro L listed a H act w F1 hlen hsize hpw hm hlt hnd hcl h hr he
    have : L = [] := List.eq_nil_of_length_eq_zero (by omega)
    subst this
    exact ⟨(none_left [] listed hsize hm hlt).1 rfl, hQ _ _ ⟨F1, a, H, hr, he, h⟩⟩
  | succ fuel ih =>
    intro L listed a H act w F1 hlen hsize hpw hm hlt hnd hcl h hr he
    refine ⟨fun hrd => ?_, fun i hi => ?_⟩
    · have := (none_left L listed hsize hm hlt).2 hrd
      subst this
      exact hQ _ _ ⟨F1, a, H, hr, he, h⟩
    · obtain ⟨hun, oi, hoi, hdeps⟩ := mem_ready.1 hi
      have his : i < ops.size := (Array.getElem?_eq_some_iff.1 hoi).1
      obtain ⟨⟨i', rc, us⟩, hmem, rfl⟩ := List.mem_map.1 ((hm i his).1 hun)
      obtain ⟨pre, post, rfl⟩ := List.append_of_mem hmem
      obtain ⟨hpair, hpw'⟩ := pw_split pre hpw
      simp only at hun hoi hdeps his
      have hget : ∀ k, k < ops.size → listed.getD k true = listed.getD k false := fun k hk => by
        rw [Array.getD_eq_getD_getElem?, Array.getD_eq_getD_getElem?, Array.getElem?_eq_getElem (by omega)]; rfl
      have hdl : ∀ d ∈ dir ops i', listed.getD d true = true := fun d hd => by
        have hd2 := hd
        unfold dir at hd
        rw [hoi] at hd
        obtain ⟨ed, hed, rfl⟩ := List.mem_map.1 hd
        obtain ⟨h1, h2⟩ := List.mem_filter.1 hed
        have h3 := hdir i' his _ hd2
        rw [hget _ (by omega)]
        exact hdeps ed (Array.mem_toList_iff.1 h1) h2
      have hanc : ∀ j ∈ A.getD i' [], listed.getD j true = true := fun j hj => by
        rcases hA i' his j hj with h1 | ⟨d, h1, h2⟩
        · exact hdl j h1
        · have h3 := hdir i' his d h1
          exact hcl d (by omega) (hdl d h1) j h2
      have hok : ∀ e ∈ pre, okPair ops pc e (i', rc, us) = true := fun e hep => by
        rcases hpair e hep with h1 | h1
        · exfalso
          have h2 := hanc e.1 (by simpa using h1)
          have h3 := hlt e (by simp [hep])
          have h4 := (hm e.1 h3).2 (List.mem_map.2 ⟨e, by simp [hep], rfl⟩)
          rw [h2] at h4; cases h4
        · exact h1
      obtain ⟨hdok, hex⟩ := front hoi pre a H [] hok hr.sat.fin (by simp) h
      refine EX_run hF hoi hex hr ?_
      rintro F' r v H' w' h1 h2 h3 ⟨_, h4⟩
      have hdok' : ∀ d, oi.dst = some d → d < N := fun d e => by rw [e] at hdok; simpa [dok] using hdok
      have hset : ∀ k, k < ops.size → (listed.setIfInBounds i' true).getD k true = if k = i' then true else listed.getD k true := fun k hk => by
        rw [Array.getD_eq_getD_getElem?, Array.getD_eq_getD_getElem?]
        by_cases e : k = i'
        · subst e; simp [hsize, his]
        · rw [if_neg e, Array.getElem?_setIfInBounds_ne (Ne.symm e)]
      have hnd' : i' ∉ (pre ++ post).map (·.1) ∧ ((pre ++ post).map (·.1)).Nodup := by
        rw [List.map_append, List.map_cons] at hnd
        rw [List.map_append]
        have hp : (pre.map (·.1) ++ (i', rc, us).1 :: post.map (·.1)).Perm ((i', rc, us).1 :: (pre.map (·.1) ++ post.map (·.1))) := List.perm_middle
        have := hp.nodup_iff.1 hnd
        rw [List.nodup_cons] at this
        exact this
      refine ih (pre ++ post) _ _ H' _ w' F' (by simp at hlen ⊢; omega) (by simp [hsize]) hpw' (fun k hk => ?_) (fun e he' => hlt e ?_) hnd'.2 (fun k hk hkl j hj => ?_) h4 (hr.step hdok' h1 h2 h3) (he.trans h3)
      · rw [hset k hk]
        by_cases e : k = i'
        · subst e; simp only [if_true]
          exact ⟨fun h => (by cases h), fun h => absurd h hnd'.1⟩
        · rw [if_neg e, hm k hk]
          simp only [List.map_append, List.map_cons, List.mem_append, List.mem_cons, e, false_or]
      · rcases List.mem_append.1 he' with h5 | h5
        · exact List.mem_append.2 (.inl h5)
        · exact List.mem_append.2 (.inr (List.mem_cons.2 (.inr h5)))
      · have keep : listed.getD j true = true → (listed.setIfInBounds i' true).getD j true = true := fun hl => by
          by_cases hjs : j < ops.size
          · rw [hset j hjs]; split
            · rfl
            · exact hl
          · rw [Array.getD_eq_getD_getElem?, Array.getElem?_eq_none (by simp; omega)]; rfl
        rw [hset k hk] at hkl
        by_cases e : k = i'
        · subst e; exact keep (hanc j hj)
        · rw [if_neg e] at hkl; exact keep (hcl k hk hkl j hj)

theorem AW_region_draw (E : Env P) (pc : FuncId → Bool) (L : List En) (A : List (List Nat)) (hmix : P.follows .mixedOrders = true) {id : Nat} (hc : chk ops pc L A = true) {a : Nat → AV} {H : Heap} {Q : Post}
    (h : LR E N ops pc L a H [] (fun a' H' => Q .normal a' H')) : AW P N (.region id ops true) a H Q := by
  intro Fe n hF B F w act hr
  unfold chk at hc
  simp only [Bool.and_eq_true, List.all_eq_true, List.mem_range, decide_eq_true_eq, Bool.or_eq_true, List.any_eq_true, List.contains_iff_mem] at hc
  obtain ⟨⟨⟨⟨h1, h2⟩, h3⟩, h5⟩, h4⟩ := hc
  have hr' : Rel F ⟨B, Fe.round⟩ N a H act w.drew := ⟨hr.dfr, hr.low, hr.rnd, hr.size, hr.vf, hr.sat.drew⟩
  refine wpIn_region_any hmix (run_any (E := E) (pc := pc) (A := A) (K := fun a' H' => Q .normal a' H') hF (fun i hi => (h1 i hi).1.2) (fun i hi j hj => (h1 i hi).2 j hj) (F := F) (H0 := H) (w0 := w) ?_ ops.size L _ a H act w.drew F (by omega) (by simp) h4 ?_ (fun e he => h2 e.1 (List.mem_map.2 ⟨e, he, rfl⟩)) ?_ ?_ h hr' (Ext.drew F H w))
  · rintro act' w' ⟨F', a', H', g1, g2, g3⟩
    exact ⟨F', a', H', g1, g2, g3⟩
  · intro i hi
    have : (Array.replicate ops.size false).getD i true = false := by simp [Array.getD, hi]
    rw [this]
    exact ⟨fun _ => (h1 i hi).1.1, fun _ => rfl⟩
  · exact h5
  · intro k hk hl
    have : (Array.replicate ops.size false).getD k true = false := by simp [Array.getD, hk]
    rw [this] at hl; cases hl
end
end Go.Proofs.Yteoepeionomjlaa
