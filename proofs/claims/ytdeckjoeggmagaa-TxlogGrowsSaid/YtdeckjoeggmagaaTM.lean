/- A map's entry that is looked up and stored to; maps whose values own rows. -/
import Derived.Test.YtdeckjoeggmagaaMK
import Derived.Test.YtdeckjoeggmagaaMD
namespace Go.Proofs.Ytdeckjoeggmagaa
open Go.RowKit
open Nat renaming reduceEqDiff → nA, reduceLT → nB, reduceLeDiff → nC, reduceAdd → nD, reduceMul → nE, reduceSub → nF, reduceBEq → nG
open Int renaming reduceToNat → iA, reduceLT → iB, reduceLE → iC, reduceEq → iD
open Bool renaming and_eq_true → bA, or_eq_true → bB, or_eq_false_iff → bC, and_eq_false_iff → bD, not_eq_true' → bE, not_eq_false' → bF, not_true → bG, not_false → bH
set_option linter.all false
set_option maxHeartbeats 4000000
attribute [local irreducible] AW Does ACall tE tS tB tZ

section
variable {P : Program} {o : Oper} {a : Nat → AV} {H : Heap} {K : AV → Heap → Prop} {α : Type} [DecidableEq α] {enc : α → Value}
/-- stamps are told apart, and lie ahead of the clock -/
def Bst (l : List (ME α)) (c : Nat) : Prop := (l.map ME.b).Nodup ∧ ∀ e ∈ l, e.b < c
theorem Bst.nil (c : Nat) : Bst ([] : List (ME α)) c := ⟨List.Pairwise.nil, fun e h => by cases h⟩
theorem set_b : ∀ {l : List (ME α)} {n : Nat} {e : ME α} (k : α) (v : Value) (y : AV), l[n]? = some e → (l.set n ⟨k, v, y, e.b⟩).map ME.b = l.map ME.b
  | [], n, e, k, v, y, h => by simp at h
  | x :: l, 0, e, k, v, y, h => by simp at h; subst h; rfl
  | x :: l, n + 1, e, k, v, y, h => by
    simp only [List.getElem?_cons_succ] at h
    simp only [List.set_cons_succ, List.map_cons, set_b k v y h]
theorem mfi_get {k : α} {l : List (ME α)} : (mfi k l 0 = none ∧ mget k l = none) ∨ ∃ n e, mfi k l 0 = some (n, e.v) ∧ l[n]? = some e ∧ mget k l = some e ∧ e.k = k ∧ ∀ v' y' c', mput k v' y' c' l = l.set n ⟨k, v', y', e.b⟩ := by
  cases hf : mfi k l 0 with
  | none => exact .inl ⟨rfl, mfi_none hf⟩
  | some p =>
    obtain ⟨j, v⟩ := p
    obtain ⟨n, e, h1, h2, h3, h4, h5, h6, -⟩ := mfi_some hf
    rw [Nat.zero_add] at h1
    subst h1 h5
    exact .inr ⟨j, e, rfl, h2, h3, h4, h6⟩
theorem Bst.put {l : List (ME α)} {c : Nat} (h : Bst l c) (k : α) (v : Value) (y : AV) : Bst (mput k v y c l) (mclk k l c) := by
  obtain ⟨h1, h2⟩ := h
  rcases mfi_get (k := k) (l := l) with ⟨-, g⟩ | ⟨n, e, -, g1, g2, -, g4⟩
  · rw [mput_none g]
    have hc : mclk k l c = c + 1 := by unfold mclk; rw [g]; rfl
    rw [hc]
    refine ⟨?_, fun e he => ?_⟩
    · rw [List.map_append, List.nodup_append]
      refine ⟨h1, by simp, fun a ha b hb => ?_⟩
      simp only [List.map_cons, List.map_nil, List.mem_singleton] at hb
      obtain ⟨x, hx, rfl⟩ := List.mem_map.1 ha
      have := h2 x hx
      omega
    · rcases List.mem_append.1 he with he | he
      · have := h2 e he; omega
      · simp only [List.mem_singleton] at he; subst he; exact Nat.lt_succ_self c
  · rw [g4]
    have hc : mclk k l c = c := by unfold mclk; rw [g2]; rfl
    rw [hc]
    refine ⟨by rw [set_b _ _ _ g1]; exact h1, fun e' he' => ?_⟩
    rcases List.mem_or_eq_of_mem_set he' with he' | rfl
    · exact h2 e' he'
    · exact h2 e (List.mem_of_getElem? g1)
/-- the entries once a key has one -/
def ment (k : α) (z : Value) (zA : AV) (c : Nat) (l : List (ME α)) : List (ME α) := if (mget k l).isSome then l else l ++ [⟨k, z, zA, c⟩]
theorem MW.ent {M : Mem} {l : List (ME α)} (h : MW M l) {k : α} {z : Value} {zA : AV} {c : Nat} (hz : V M zA z) : MW M (ment k z zA c l) := by
  unfold ment
  split
  · exact h
  · intro e he
    rcases List.mem_append.1 he with he | he
    · exact h e he
    · simp only [List.mem_singleton] at he; subst he; exact hz
theorem does_mapEntry {t kt et : TypeId} {m x : Operand} {n : Nat} {l : List (ME α)} {c : Nat} {M : Mem} {k : α} (KK : KeyK P kt enc) (ho : o.op = .mapEntry t m x) (hm : ev a m = .c (.map (some n))) (hH : H n = some (bm enc l c M)) (hW : MW M l)
    (ht : P.underlying t = some (.map kt et)) {z : Value} {zA : AV} (hz : ∀ w, (zeroValue et).run P w = .ok z w) (hzA : ∀ F, V F zA z) (hk : IsK (ev a x) (enc k))
    (h : K (.t [((mget k l).map ME.y).getD zA, .c (.int .i64 (((mget k l).map ME.b).getD c : Nat))]) (upd H n (bm enc (ment k z zA c l) (mclk k l c) M))) : Does P o a H K :=
  Does.ran (fun c => by simp [ho]) fun F w act hv hs => by
    obtain ⟨b1, b2⟩ : w.heap[n]? = some (.map (ents enc l) c) ∧ M.le F := hs.blk n _ hH
    have hx : act.eval x = enc k := hk F _ (hv.ev x (by simp [ho, Op.operands]))
    have hmm : act.eval m = .map (some n) := hv.c hm (by simp [ho, Op.operands])
    obtain ⟨s1, s2⟩ := upd_map (enc := enc) hs hH b1 (ment k z zA c l) (mclk k l c) b2
    rcases mfi_get (k := k) (l := l) with ⟨f1, g⟩ | ⟨j, e, f1, g1, g2, g3, g4⟩
    · have e1 : ment k z zA c l = l ++ [⟨k, z, zA, c⟩] := by unfold ment; rw [g]; rfl
      have e2 : mclk k l c = c + 1 := by unfold mclk; rw [g]; rfl
      rw [g, e1, e2] at h
      rw [e1, e2] at s1 s2
      refine ⟨.tuple #[z, .int .i64 c], _, F, _, _, ?_, V.t_of (Vs.cons (hzA F) (Vs.cons (.c _) (Vs.nil F))), s1, s2, h⟩
      simp only [execOp, ho, hx, hmm, Instr.mapEntry, Sem.run_bind, run_underlying ht, Result.andThen, MapKept.run_getObj_map b1, KK.check, KK.find, f1, hz, MapKept.run_setObj_map _ b1]
      rw [ents_push enc l k z zA c]
      rfl
    · have e1 : ment k z zA c l = l := by unfold ment; rw [g2]; rfl
      have e2 : mclk k l c = c := by unfold mclk; rw [g2]; rfl
      rw [g2, e1, e2] at h
      rw [e1, e2] at s1 s2
      have hk2 : ((((ents enc l)[j]?).map (·.key)).getD (enc k)) = enc k := by simp [ents, g1, g3]
      have hb2 : (((ents enc l)[j]?).map (fun x => (x.born : Int))).getD 0 = (e.b : Int) := by simp [ents, g1]
      have hmod : (ents enc l).modify j (fun e => { e with key := enc k }) = ents enc l := by
        have := ents_set enc l j e g1 e.v e.y (enc k) (by rw [g3])
        have h2 : (ents enc l).modify j (fun x => { x with key := enc k, val := e.v }) = (ents enc l).modify j (fun e => { e with key := enc k }) := by
          apply Array.ext'
          rw [Array.toList_modify, Array.toList_modify]
          have hj : (ents enc l).toList[j]? = some ⟨enc e.k, e.v, e.b⟩ := by unfold ents; rw [List.toList_toArray, List.getElem?_map, g1]; rfl
          rw [ChangeMaps.modify_eq_set _ _ _ _ hj, ChangeMaps.modify_eq_set _ _ _ _ hj]
        rw [h2] at this
        rw [this]
        have he : (⟨e.k, e.v, e.y, e.b⟩ : ME α) = e := rfl
        rw [he]
        congr 1
        apply List.ext_getElem?
        intro q
        rw [List.getElem?_set]
        split
        · rename_i eq; subst eq; rw [g1]; simp [(List.getElem?_eq_some_iff.1 g1).1]
        · rfl
      refine ⟨.tuple #[e.v, .int .i64 e.b], _, F, _, _, ?_, V.t_of (Vs.cons ((hW e (List.mem_of_getElem? g1)).mono b2) (Vs.cons (.c _) (Vs.nil F))), s1, s2, h⟩
      simp only [execOp, ho, hx, hmm, Instr.mapEntry, Sem.run_bind, run_underlying ht, Result.andThen, MapKept.run_getObj_map b1, KK.check, KK.find, f1, hk2, KK.stays, MapKept.run_setObj_map _ b1]
      rw [hmod, hb2]
      rfl
theorem findIdx_b : ∀ {l : List (ME α)}, (l.map ME.b).Nodup → ∀ {j : Nat} {e : ME α}, l[j]? = some e → (l.map fun e => (⟨enc e.k, e.v, e.b⟩ : MapEntry)).findIdx? (fun x => ((x.born : Nat) : Int) == ((e.b : Nat) : Int)) = some j
  | [], _, j, e, h => by simp at h
  | x :: l, hn, j, e, h => by
    simp only [List.map_cons, List.nodup_cons] at hn
    cases j with
    | zero =>
      simp only [List.getElem?_cons_zero, Option.some.injEq] at h
      subst h
      simp [List.findIdx?_cons]
    | succ j =>
      simp only [List.getElem?_cons_succ] at h
      have hne : x.b ≠ e.b := fun e1 => hn.1 (List.mem_map.2 ⟨e, List.mem_of_getElem? h, e1.symm⟩)
      have hb : (((x.b : Nat) : Int) == ((e.b : Nat) : Int)) = false := by
        simp only [beq_eq_false_iff_ne, ne_eq, Int.natCast_inj]
        exact hne
      rw [List.map_cons, List.findIdx?_cons]
      simp only [hb, findIdx_b hn.2 h]
      rfl
theorem does_entryStore {t : TypeId} {m s x : Operand} {n : Nat} {l : List (ME α)} {c : Nat} {M : Mem} {k : α} {z : Value} {zA : AV} (hB : Bst l c) (ho : o.op = .entryStore t m s x) (hm : ev a m = .c (.map (some n)))
    (hst : ev a s = .c (.int .i64 (((mget k l).map ME.b).getD c : Nat))) (hH : H n = some (bm enc (ment k z zA c l) (mclk k l c) M))
    (h : ∀ v M', M.le M' → V M' (ev a x) v → K .x (upd H n (bm enc (mput k v (ev a x) c l) (mclk k l c) M'))) : Does P o a H K :=
  Does.skip (fun c => by simp [ho]) fun F w act hv hs => by
    obtain ⟨b1, b2⟩ : w.heap[n]? = some (.map (ents enc (ment k z zA c l)) (mclk k l c)) ∧ M.le F := hs.blk n _ hH
    have hz := hv.ev x (by simp [ho, Op.operands])
    have hmm : act.eval m = .map (some n) := hv.c hm (by simp [ho, Op.operands])
    have hss : act.eval s = .int .i64 (((mget k l).map ME.b).getD c : Nat) := hv.c hst (by simp [ho, Op.operands])
    obtain ⟨s1, s2⟩ := upd_map (enc := enc) hs hH b1 (mput k (act.eval x) (ev a x) c l) (mclk k l c) (Mem.le.refl F)
    refine ⟨_, _, ?_, s1, s2, h _ F b2 hz⟩
    have hB2 := hB.put k z zA
    rcases mfi_get (k := k) (l := l) with ⟨f1, g⟩ | ⟨j, e, f1, g1, g2, g3, g4⟩
    · have e1 : ment k z zA c l = l ++ [⟨k, z, zA, c⟩] := by unfold ment; rw [g]; rfl
      have e2 : mclk k l c = c + 1 := by unfold mclk; rw [g]; rfl
      rw [mput_none g] at hB2
      rw [mput_none g]
      rw [g] at hss
      rw [e1, e2] at b1
      rw [e2]
      have hlast : (l ++ [(⟨k, z, zA, c⟩ : ME α)])[l.length]? = some ⟨k, z, zA, c⟩ := by simp
      have hidx := findIdx_b (enc := enc) hB2.1 hlast
      have hix : (ents enc (l ++ [⟨k, z, zA, c⟩])).findIdx? (fun x => ((x.born : Nat) : Int) == ((c : Nat) : Int)) = some l.length := by
        have e3 : (ents enc (l ++ [⟨k, z, zA, c⟩])).findIdx? (fun x => ((x.born : Nat) : Int) == ((c : Nat) : Int)) = (ents enc (l ++ [⟨k, z, zA, c⟩])).toList.findIdx? (fun x => ((x.born : Nat) : Int) == ((c : Nat) : Int)) := by
          generalize ents enc (l ++ [⟨k, z, zA, c⟩]) = X
          cases X; simp
        rw [e3]
        unfold ents
        rw [List.toList_toArray]
        exact hidx
      have hmod : (ents enc (l ++ [⟨k, z, zA, c⟩])).modify l.length (fun e => { e with val := act.eval x }) = ents enc (l ++ [⟨k, act.eval x, ev a x, c⟩]) := by
        apply Array.ext'
        have hj : (ents enc (l ++ [⟨k, z, zA, c⟩])).toList[l.length]? = some ⟨enc k, z, c⟩ := by unfold ents; rw [List.toList_toArray, List.getElem?_map, hlast]; rfl
        rw [Array.toList_modify, ChangeMaps.modify_eq_set _ _ _ _ hj]
        unfold ents
        rw [List.toList_toArray, List.toList_toArray]
        simp
      have hgd : (((none : Option (ME α)).map ME.b).getD c : Nat) = c := rfl
      rw [hgd] at hss
      simp only [execOp, ho, hss, hmm, Instr.entryStore, Sem.run_bind, Result.andThen, MapKept.run_getObj_map b1, asInt, asIntOf, Sem.run_pure, hix, MapKept.run_setObj_map _ b1]
      rw [hmod]
    · have e1 : ment k z zA c l = l := by unfold ment; rw [g2]; rfl
      have e2 : mclk k l c = c := by unfold mclk; rw [g2]; rfl
      rw [g4]
      rw [g2] at hss
      rw [e1, e2] at b1
      rw [e2]
      have hidx := findIdx_b (enc := enc) hB.1 g1
      have hix : (ents enc l).findIdx? (fun x => ((x.born : Nat) : Int) == ((e.b : Nat) : Int)) = some j := by
        have e3 : (ents enc l).findIdx? (fun x => ((x.born : Nat) : Int) == ((e.b : Nat) : Int)) = (ents enc l).toList.findIdx? (fun x => ((x.born : Nat) : Int) == ((e.b : Nat) : Int)) := by
          generalize ents enc l = X
          cases X; simp
        rw [e3]
        unfold ents
        rw [List.toList_toArray]
        exact hidx
      have hmod : (ents enc l).modify j (fun e => { e with val := act.eval x }) = ents enc (l.set j ⟨k, act.eval x, ev a x, e.b⟩) := by
        have := ents_set enc l j e g1 (act.eval x) (ev a x) (enc k) (by rw [g3])
        rw [g3] at this
        rw [← this]
        apply Array.ext'
        have hj : (ents enc l).toList[j]? = some ⟨enc e.k, e.v, e.b⟩ := by unfold ents; rw [List.toList_toArray, List.getElem?_map, g1]; rfl
        rw [Array.toList_modify, Array.toList_modify, ChangeMaps.modify_eq_set _ _ _ _ hj, ChangeMaps.modify_eq_set _ _ _ _ hj, g3]
      have hgd : (((some e : Option (ME α)).map ME.b).getD c : Nat) = e.b := rfl
      rw [hgd] at hss
      simp only [execOp, ho, hss, hmm, Instr.entryStore, Sem.run_bind, Result.andThen, MapKept.run_getObj_map b1, asInt, asIntOf, Sem.run_pure, hix, MapKept.run_setObj_map _ b1]
      rw [hmod]
/-- append of a row that is owned beside -/
theorem does_appO {x y : Operand} {t ty tm : TypeId} {sz by' : Nat} {zs : List Value} {rows news : List (List AV)} {H0 H1 : Heap} {x0 y0 : AV} (ho : o.op = .call { callee := .builtin .append, args := #[x, y], argTypes := #[t, t] })
    (hx : ev a x = x0) (hy : ev a y = y0) (hown : OwnL H x0 ty sz rows H0) (hyo : OwnL H0 y0 tm sz news H1) (hE : tE P t = some ty) (hS : tS P ty = some sz) (hB : tB P ty = some by') (hz : tZ P ty = some zs) (hzl : zs.length = sz) (hp : 0 < sz)
    (h63 : rows.length + news.length ≤ maxLen) (hbytes : (rows.length + news.length) * by' ≤ 140737488355328) (h : ∀ x' H', OwnL H' x' ty sz (rows ++ news) H0 → K x' H') : Does P o a H K :=
  Does.ran (fun c => by simp [ho]) fun F w act hv hs => by
    subst hx hy
    have hvy := hv.ev y
    have hsrc : Src F w (act.eval y) sz news := by
      rcases hyo with ⟨⟨ad, e1⟩, rfl, -⟩ | ⟨m, cap, e1, e2, -⟩
      · rw [e1] at hvy
        have := hvy.c_inv
        rw [this]
        exact V.src hs hp (show V F (.l sz []) (.slice ad 0 0) from (Imp.nil_l (F := F) (F' := F) sz) _ (.c _))
      · rw [e1] at hvy
        have := hs.src (hown.get e2) (i := 0) (len := news.length) (by omega) hvy
        simpa using this
    obtain ⟨v', w', x', H', r1, r2, r3, r4, r5⟩ := append_ok (rt := o.type) hs hE hS hB hz hzl hp hown (hv.ev x) hsrc h63 hbytes
    obtain ⟨cs, ecs⟩ := builtin_run ho act
    refine ⟨v', w', F, H', x', ?_, r2, r4, r5, h x' H' r3⟩
    rw [ecs]
    simp [builtin, Sem.run_bind, r1]
end
/-! maps whose values own rows -/
section
variable {α : Type} [DecidableEq α] {β : Type} {R : AV → β → HR}
def getP (k : α) : List (ME α) → List (AV × β) → Option (AV × β)
  | e :: es, p :: L => if k = e.k then some p else getP k es L
  | _, _ => none
def putP (k : α) (q : AV × β) : List (ME α) → List (AV × β) → List (AV × β)
  | e :: es, p :: L => if k = e.k then q :: L else p :: putP k q es L
  | _, _ => [q]
theorem mget_getP {k : α} : ∀ {l : List (ME α)} {L : List (AV × β)}, l.map ME.y = L.map Prod.fst → (mget k l).map ME.y = (getP k l L).map Prod.fst
  | [], L, h => by
    cases L with
    | nil => rfl
    | cons p L => simp at h
  | e :: l, L, h => by
    cases L with
    | nil => simp at h
    | cons p L =>
      simp only [List.map_cons, List.cons.injEq] at h
      unfold mget getP
      by_cases c : k = e.k
      · rw [if_pos c, if_pos c]; simp [h.1]
      · rw [if_neg c, if_neg c]; exact mget_getP h.2
theorem mput_putP {k : α} {v : Value} {q : AV × β} {c : Nat} : ∀ {l : List (ME α)} {L : List (AV × β)}, l.map ME.y = L.map Prod.fst → (mput k v q.1 c l).map ME.y = (putP k q l L).map Prod.fst
  | [], L, h => by
    cases L with
    | nil => rfl
    | cons p L => simp at h
  | e :: l, L, h => by
    cases L with
    | nil => simp at h
    | cons p L =>
      simp only [List.map_cons, List.cons.injEq] at h
      unfold mput putP
      by_cases c : k = e.k
      · rw [if_pos c, if_pos c]; simp [h.2]
      · rw [if_neg c, if_neg c]; simp [h.1, mput_putP h.2]
theorem getP_put {k k' : α} {v : Value} {y : AV} {q : AV × β} {c : Nat} : ∀ {l : List (ME α)} {L : List (AV × β)}, l.length = L.length → getP k' (mput k v y c l) (putP k q l L) = if k' = k then some q else getP k' l L
  | [], L, h => by
    cases L with
    | nil => unfold mput putP getP; by_cases e : k' = k <;> simp [e, getP]
    | cons p L => simp at h
  | e :: l, L, h => by
    cases L with
    | nil => simp at h
    | cons p L =>
      simp only [List.length_cons, Nat.add_right_cancel_iff] at h
      unfold mput putP
      by_cases c : k = e.k
      · rw [if_pos c, if_pos c]
        unfold getP
        by_cases d : k' = e.k
        · have : k' = k := d.trans c.symm
          simp [d, this, ← c]
        · have : ¬ k' = k := fun x => d (x.trans c)
          simp [d, this]
      · rw [if_neg c, if_neg c]
        unfold getP
        by_cases d : k' = e.k
        · have : ¬ e.k = k := fun x => c x.symm
          simp [d, this]
        · simp only [if_neg d]; exact getP_put h
theorem putP_len {k : α} {v : Value} {y : AV} {q : AV × β} {c : Nat} : ∀ {l : List (ME α)} {L : List (AV × β)}, l.length = L.length → (mput k v y c l).length = (putP k q l L).length
  | [], L, h => by
    cases L with
    | nil => rfl
    | cons p L => simp at h
  | e :: l, L, h => by
    cases L with
    | nil => simp at h
    | cons p L =>
      simp only [List.length_cons, Nat.add_right_cancel_iff] at h
      unfold mput putP
      by_cases c : k = e.k
      · rw [if_pos c, if_pos c]; simp [h]
      · rw [if_neg c, if_neg c]; simp only [List.length_cons, Nat.add_right_cancel_iff]; exact putP_len h
/-- one value is taken out; whatever is put in its place -/
theorem Chain.pickP (hR : ∀ y b, Loc (R y b)) {k : α} {d : AV × β} (hd : ∀ H, R d.1 d.2 H H) : ∀ {l : List (ME α)} {L : List (AV × β)}, l.length = L.length → ∃ S : HR, Loc S ∧ (∀ H H0, Chain R L H H0 → ∃ H1, R ((getP k l L).getD d).1 ((getP k l L).getD d).2 H H1 ∧ S H1 H0) ∧
    ∀ q H H1 H0, R q.1 q.2 H H1 → S H1 H0 → Chain R (putP k q l L) H H0
  | [], L, hl => by
    cases L with
    | cons p L => simp at hl
    | nil =>
      refine ⟨fun H H0 => H0 = H, Loc.eq, fun H H0 h => ⟨H, hd _, h⟩, fun q H H1 H0 h1 h2 => ?_⟩
      subst h2
      exact ⟨_, h1, rfl⟩
  | e :: l, L, hl => by
    cases L with
    | nil => simp at hl
    | cons p L =>
      unfold getP putP
      by_cases c : k = e.k
      · refine ⟨Chain R L, Loc.chain hR L, fun H H0 h => ?_, fun q H H1 H0 h1 h2 => ?_⟩
        · rw [if_pos c]; exact h
        · rw [if_pos c]; exact ⟨H1, h1, h2⟩
      · obtain ⟨S, s1, s2, s3⟩ := Chain.pickP hR (k := k) hd (l := l) (L := L) (by simpa using hl)
        refine ⟨cmp2 (R p.1 p.2) S, (hR _ _).comp s1, fun H H0 h => ?_, fun q H H1 H0 h1 h2 => ?_⟩
        · obtain ⟨H2, h1, h2⟩ := h
          rw [if_neg c]
          obtain ⟨H3, g1, g2⟩ := s2 _ _ h2
          obtain ⟨H4, f1, f2⟩ := (hR p.1 p.2).swap (hR _ _) h1 g1
          exact ⟨H4, f1, H3, f2, g2⟩
        · rw [if_neg c]
          obtain ⟨H2, g1, g2⟩ := h2
          obtain ⟨H3, f1, f2⟩ := (hR q.1 q.2).swap (hR p.1 p.2) h1 g1
          exact ⟨H3, f1, s3 q _ _ _ f2 g2⟩
end
section
variable {P : Program} {o : Oper} {a : Nat → AV} {H : Heap} {K : AV → Heap → Prop} {α : Type} [DecidableEq α] {enc : α → Value}
theorem does_mapEntryV {t kt et : TypeId} {m x : Operand} {n : Nat} {l : List (ME α)} {c : Nat} {M : Mem} {k : α} {r : AV} {st : Nat} {b' : Blk} (KK : KeyK P kt enc) (ho : o.op = .mapEntry t m x) (hm : ev a m = .c (.map (some n))) (hH : H n = some (bm enc l c M)) (hW : MW M l)
    (ht : P.underlying t = some (.map kt et)) {z : Value} {zA : AV} (hz : ∀ w, (zeroValue et).run P w = .ok z w) (hzA : ∀ F, V F zA z) (hk : IsK (ev a x) (enc k)) (hr : ((mget k l).map ME.y).getD zA = r) (hs : ((mget k l).map ME.b).getD c = st) (hb : bm enc (ment k z zA c l) (mclk k l c) M = b')
    (h : K (.t [r, .c (.int .i64 (st : Nat))]) (upd H n b')) : Does P o a H K :=
  does_mapEntry KK ho hm hH hW ht hz hzA hk (by rw [hr, hs, hb]; exact h)
theorem does_entryStoreV {t : TypeId} {m s x : Operand} {n : Nat} {l : List (ME α)} {c : Nat} {M : Mem} {k : α} {z : Value} {zA : AV} {st : Nat} {b' : Blk} (hB : Bst l c) (ho : o.op = .entryStore t m s x) (hm : ev a m = .c (.map (some n)))
    (hst : ev a s = .c (.int .i64 (st : Nat))) (hs : ((mget k l).map ME.b).getD c = st) (hb : bm enc (ment k z zA c l) (mclk k l c) M = b') (hH : H n = some b')
    (h : ∀ v M', M.le M' → V M' (ev a x) v → K .x (upd H n (bm enc (mput k v (ev a x) c l) (mclk k l c) M'))) : Does P o a H K :=
  does_entryStore (k := k) (z := z) (zA := zA) hB ho hm (by rw [hs]; exact hst) (by rw [hb]; exact hH) h
end
/-! names that hold rows of records -/
def RM (y : AV) (a : List Rec) : HR := fun H H0 => OwnL H y 36 3 (a.map Rec.av) H0
theorem RM_loc (y : AV) (a : List Rec) : Loc (RM y a) := Loc.own _ _ _ _
structure MapI (lo : List (ME Nm)) (ck : Nat) (M : Mem) (L : List (AV × List Rec)) (W : Nm → List Rec) : Prop where
  y : lo.map ME.y = L.map Prod.fst
  w : ∀ v, ((getP v lo L).map Prod.snd).getD [] = W v
  mw : MW M lo
  b : Bst lo ck
theorem MapI.nil (ck : Nat) (M : Mem) : MapI [] ck M [] (fun _ => []) := ⟨rfl, fun v => rfl, MW.nil _, Bst.nil _⟩
theorem MapI.len {lo : List (ME Nm)} {ck : Nat} {M : Mem} {L : List (AV × List Rec)} {W : Nm → List Rec} (h : MapI lo ck M L W) : lo.length = L.length := by
  have := congrArg List.length h.y
  simpa using this
theorem MapI.get {lo : List (ME Nm)} {ck : Nat} {M : Mem} {L : List (AV × List Rec)} {W : Nm → List Rec} (h : MapI lo ck M L W) (v : Nm) : ∃ (y0 : AV) (S : HR), ((mget v lo).map ME.y).getD (.c (.slice none 0 0)) = y0 ∧ Loc S ∧
    (∀ H H0, Chain RM L H H0 → ∃ H1, RM y0 (W v) H H1 ∧ S H1 H0) ∧ ∀ (q : AV × List Rec) H H1 H0, RM q.1 q.2 H H1 → S H1 H0 → Chain RM (putP v q lo L) H H0 := by
  obtain ⟨S, s1, s2, s3⟩ := Chain.pickP RM_loc (k := v) (d := (.c (.slice none 0 0), ([] : List Rec))) (fun H => OwnL.nil _ _ _) h.len
  refine ⟨_, S, rfl, s1, fun H H0 hc => ?_, s3⟩
  have e1 := mget_getP (k := v) h.y
  have e2 := h.w v
  obtain ⟨H1, h1, h2⟩ := s2 H H0 hc
  refine ⟨H1, ?_, h2⟩
  rw [e1, ← e2]
  cases hg : getP v lo L with
  | none => rw [hg] at h1; exact h1
  | some p => rw [hg] at h1; exact h1
end Go.Proofs.Ytdeckjoeggmagaa
