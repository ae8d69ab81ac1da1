/- Regions that draw their order: any order comes to the same. -/
import Derived.Test.YteoepeionomjlaaM13
namespace Go.Proofs.Yteoepeionomjlaa
open Go.RowKit
set_option linter.unusedVariables false
set_option linter.unusedSimpArgs false
set_option linter.constructorNameAsVariable false

section congr
variable {P : Program} {E : Env P} {o : Oper} {a a' : Nat → AV} {H : Heap} {ops : Array Oper}

theorem Does_congr {K : AV → Heap → Prop} (h : ∀ x ∈ o.op.operands.toList, ev a x = ev a' x) (hd : Does P o a H K) : Does P o a' H K :=
  fun Fe n hF F w act hv hs => hd Fe n hF F w act (fun x hx => by rw [h x hx]; exact hv x hx) hs

theorem mkV_congr (h : ∀ x ∈ o.op.operands.toList, ev a x = ev a' x) : mkV E o a = mkV E o a' := by
  unfold mkV
  split <;> rename_i ho <;> try rw [ho] at h
  case h_2 => rename_i t x; simp only [h x (by simp [Op.operands])]
  case h_3 =>
    rename_i t len ps
    rw [parts_congr fun p hp => h p.2 (by simp only [Op.operands, List.toList_toArray]; exact List.mem_map.2 ⟨p, hp, rfl⟩)]
  all_goals rfl

theorem EO_congr {K : AV → Heap → Prop} (h : ∀ x ∈ o.op.operands.toList, ev a x = ev a' x) (hd : EO E o a H K) : EO E o a' H K := by
  have hp := pureF_congr (E := E) (H := H) h
  have hD := Does_congr (P := P) (H := H) (K := K) h
  unfold EO at hd ⊢
  split at hd <;> rename_i ho <;> try rw [ho] at h
  case h_1 => exact hd
  case h_2 => rename_i t x; rw [← h x (by simp [Op.operands])]; exact hd
  case h_3 =>
    rename_i t len ps
    rw [← parts_congr fun p hp => h p.2 (by simp only [Op.operands, List.toList_toArray]; exact List.mem_map.2 ⟨p, hp, rfl⟩)]; exact hd
  case h_4 => rename_i t x y; rw [← h x (by simp [Op.operands]), ← h y (by simp [Op.operands])]; exact hd
  case h_5 =>
    rw [← hp]
    split at hd
    · exact hd
    · exact hD hd

/-- a and a' are one in what an operation looks at -/
def Same (ops : Array Oper) (o : Oper) (a a' : Nat → AV) : Prop := ∀ t, t ∈ o.looksAt ops → a t = a' t
theorem Same.ev (h : Same ops o a a') : ∀ x ∈ o.op.operands.toList, Go.Proofs.Yteoepeionomjlaa.ev a x = Go.Proofs.Yteoepeionomjlaa.ev a' x := by
  intro x hx
  cases x with
  | tmp t => exact h t (List.mem_append_left _ (List.mem_filterMap.2 ⟨.tmp t, hx, rfl⟩))
  | _ => rfl
theorem Same.gv (h : Same ops o a a') {j : Nat} {w : Bool} (hg : o.guard = some (j, w)) : Go.Proofs.Yteoepeionomjlaa.gv ops a j = Go.Proofs.Yteoepeionomjlaa.gv ops a' j := by
  unfold Go.Proofs.Yteoepeionomjlaa.gv
  cases hd : (ops[j]?).bind (·.dst) with
  | none => rfl
  | some d =>
    have : a d = a' d := h d (List.mem_append_right _ (by rw [hg]; simp [hd]))
    simp only [Option.bind_some, this]
theorem Same.symm (h : Same ops o a a') : Same ops o a' a := fun t ht => (h t ht).symm
theorem Same.put (a : Nat → AV) {dst : Option Nat} {r : AV} (h : ∀ d, dst = some d → d ∉ o.looksAt ops) : Same ops o (put a dst r) a := fun t ht => by
  cases dst with
  | none => rfl
  | some d => rw [put_some, if_neg]; rintro rfl; exact h t rfl ht

theorem stepV_same (h : Same ops o a a') : stepV E ops o a H = stepV E ops o a' H := by
  unfold stepV
  split
  · exact pureF_congr h.ev
  · rename_i j w hg
    rw [h.gv hg, pureF_congr h.ev]
theorem GT_same {K : AV → Heap → Prop} (h : Same ops o a a') (hd : GT E ops o a H K) : GT E ops o a' H K := by
  unfold GT at hd ⊢
  split at hd
  · exact EO_congr h.ev hd
  · rename_i j w hg
    rw [← h.gv hg]
    split at hd
    · exact ⟨fun e => EO_congr h.ev (hd.1 e), hd.2⟩
    · exact hd

theorem GT_mono {K K' : AV → Heap → Prop} (hk : ∀ r H', K r H' → K' r H') (hd : GT E ops o a H K) : GT E ops o a H K' := by
  unfold GT at hd ⊢
  split at hd
  · exact EO_mono E hk hd
  · split at hd
    · exact ⟨fun e => EO_mono E hk (hd.1 e), fun e => hk _ _ (hd.2 e)⟩
    · exact hd

/-- only loads look at memory -/
theorem pureF_heap {H' : Heap} (h : isLoad o.op = false) : pureF E H o a = pureF E H' o a := by
  unfold pureF
  split <;> first | rfl | (rename_i ho; rw [ho] at h; cases h)
theorem stepV_heap {H' : Heap} (h : isLoad o.op = false) : stepV E ops o a H = stepV E ops o a H' := by
  unfold stepV; split <;> simp only [pureF_heap (E := E) (a := a) (H := H) (H' := H') h]
/-- a new block is no harm -/
theorem pureF_upd {n : Nat} {k : Blk} {r : AV} (hn : H n = none) (h : pureF E H o a = some r) : pureF E (upd H n k) o a = some r := by
  cases hl : isLoad o.op with
  | false => rw [pureF_heap (H' := H) hl]; exact h
  | true =>
    unfold pureF at h ⊢
    cases ho : o.op <;> rw [ho] at hl <;> first | cases hl | skip
    rename_i t x
    simp only [ho] at h ⊢
    unfold ldV at h ⊢
    split at h
    · rename_i m sz i j hx
      split at h
      · rename_i ty sz' cap rows hm
        have hne : m ≠ n := by rintro rfl; rw [hn] at hm; cases hm
        rw [upd_ne hne, hm]; exact h
      · cases h
    · exact h
    · cases h
theorem stepV_upd {n : Nat} {k : Blk} {r : AV} (hn : H n = none) (h : stepV E ops o a H = some r) : stepV E ops o a (upd H n k) = some r := by
  unfold stepV at h ⊢
  split at h
  · exact pureF_upd hn h
  · split at h
    · split at h
      · rename_i e; rw [if_pos e]; exact pureF_upd hn h
      · rename_i e; rw [if_neg e]; exact h
    · cases h
end congr

def Fin (H : Heap) : Prop := ∃ B, ∀ n, B ≤ n → H n = none
theorem Fin.upd {H : Heap} (h : Fin H) (n : Nat) (k : Blk) : Fin (upd H n k) := by
  obtain ⟨B, hB⟩ := h
  refine ⟨B + n + 1, fun m hm => ?_⟩
  rw [upd_ne (by omega)]; exact hB m (by omega)
theorem Fin.fresh {H : Heap} (h : Fin H) : ∃ n, H n = none := let ⟨B, hB⟩ := h; ⟨B, hB B (Nat.le_refl B)⟩
theorem Sat.fin {F : Mem} {H : Heap} {w : World} (h : Sat F H w) : Fin H := ⟨w.heap.size, fun n hn => h.fresh hn⟩

theorem put_comm (a : Nat → AV) {x y : Option Nat} (v u : AV) (h : ∀ d, x = some d → y ≠ some d) : put (put a x v) y u = put (put a y u) x v := by
  cases x with
  | none => rfl
  | some d =>
    cases y with
    | none => rfl
    | some e =>
      have hne : d ≠ e := fun he => h d rfl (he ▸ rfl)
      funext t
      simp only [put_some]
      by_cases h1 : t = e
      · subst h1; simp [Ne.symm hne]
      · simp [h1]

section
variable {P : Program} {E : Env P} {N : Nat} {ops : Array Oper} {pc : FuncId → Bool} {K : (Nat → AV) → Heap → Prop}

theorem Does_upd {o : Oper} {a : Nat → AV} {H : Heap} {C : AV → Heap → Prop} {n : Nat} {k : Blk} (hn : H n = none) (h : Does P o a H C) :
    Does P o a (upd H n k) (fun r H'' => ∃ H', H'' = upd H' n k ∧ H' n = none ∧ Fin H' ∧ C r H') := by
  have hjoin : ∀ G : Heap, G n = none → join (upd (fun _ => none) n k) G = upd G n k := fun G hG => by
    funext m; unfold join upd; by_cases e : m = n <;> simp [e]
  intro Fe q hF F w act hv hs
  refine wpIn_Q ?_ (h Fe q hF F w act hv (hs.less (fun m x hm => by rw [upd_ne (by rintro rfl; rw [hn] at hm; cases hm)]; exact hm)))
  rintro act' w' ⟨v, F', H', r, h1, h2, h3, h4, h5⟩
  have hap : Apart (upd (fun _ => none) n k) H := fun m => by
    by_cases e : m = n
    · subst e; exact .inr hn
    · left; rw [upd_ne e]
  obtain ⟨g1, g2, g3⟩ := beside hap (by rw [hjoin H hn]; exact hs) h3 h4
  have hn' : H' n = none := by
    rcases g1 n with g | g
    · rw [upd_same] at g; cases g
    · exact g
  rw [hjoin H' hn'] at g2 g3
  rw [hjoin H hn] at g3
  exact ⟨v, F', _, r, h1, h2, g2, g3, H', rfl, hn', h3.fin, h5⟩
def isCallF : Op → Bool
  | .call { callee := .value (.func _), .. } => true
  | _ => false
theorem EO_upd {o : Oper} {a : Nat → AV} {H : Heap} {C : AV → Heap → Prop} {n : Nat} {k : Blk} (hc : isCallF o.op = true) (hn : H n = none) (hf : Fin H) (h : EO E o a H C) :
    EO E o a (upd H n k) (fun r H'' => ∃ H', H'' = upd H' n k ∧ H' n = none ∧ Fin H' ∧ C r H') := by
  have hl : isLoad o.op = false := by
    unfold isCallF at hc
    split at hc
    · rename_i ho; rw [ho]; rfl
    · cases hc
  have hp : pureF E (upd H n k) o a = pureF E H o a := pureF_heap hl
  have hEO : ∀ (G : Heap) (D : AV → Heap → Prop), EO E o a G D = (match pureF E G o a with | some r => D r G | none => Does P o a G D) := fun G D => by
    unfold EO
    unfold isCallF at hc
    split at hc
    · rename_i ho; simp only [ho]; cases pureF E G o a <;> rfl
    · cases hc
  rw [hEO] at h ⊢
  rw [hp]
  split at h
  · rename_i r hr
    exact ⟨H, rfl, hn, hf, h⟩
  · exact Does_upd hn h
theorem clsO_make {op : Op} (h : clsO pc op = .make) : isMkO op = true := by
  unfold clsO at h
  split at h <;> first | rfl | (cases h; done) | (split at h <;> cases h)
theorem cls_make {o : Oper} (h : cls pc o = .make) : isMkO o.op = true := by
  unfold cls at h
  cases h1 : clsO pc o.op with
  | make => exact clsO_make h1
  | pure => rw [h1] at h; cases o.guard <;> cases h
  | gen => rw [h1] at h; cases o.guard <;> cases h
theorem premk_cons {N : Nat} {a : Nat → AV} {u : Nat} {us : List Nat} (h : premk E N ops a (u :: us)) : (∀ o, ops[u]? = some o → isMkO o.op = true → dok N o.dst = true ∧ (mkV E o a).isSome = true) ∧ premk E N ops a us := by
  unfold premk at h
  refine ⟨fun o ho => ?_, h.2⟩
  have h1 := h.1
  rw [ho] at h1
  exact h1
theorem premk_mem {N : Nat} {a : Nat → AV} {us : List Nat} {m : Nat} {o : Oper} (h : premk E N ops a us) (hm : m ∈ us) (ho : ops[m]? = some o) (hc : isMkO o.op = true) : dok N o.dst = true ∧ (mkV E o a).isSome = true := by
  induction us with
  | nil => cases hm
  | cons u us ih =>
    have hh := premk_cons h
    rcases List.mem_cons.1 hm with e | hm
    · subst e; exact hh.1 o ho hc
    · exact ih hh.2 hm
theorem premk_put {N : Nat} {a : Nat → AV} {d : Option Nat} {v : AV} : ∀ {us : List Nat}, (∀ m ∈ us, ∀ o, ops[m]? = some o → ∀ e, d = some e → e ∉ o.looksAt ops) → premk E N ops a us → premk E N ops (put a d v) us
  | [], _, _ => trivial
  | m :: us, hd, h => by
    refine ⟨?_, premk_put (fun q hq => hd q (by simp [hq])) h.2⟩
    have h1 := h.1
    split at h1
    · rename_i o ho
      have hs : Same ops o (put a d v) a := Same.put a (hd m (by simp) o ho)
      rw [mkV_congr hs.ev]; exact h1
    · trivial

theorem LR_less : ∀ (l : List En) (a : Nat → AV) (H : Heap) (M M' : List (Nat × (Heap → Prop))), (∀ e ∈ M', e ∈ M) → LR E N ops pc l a H M K → LR E N ops pc l a H M' K
  | [], a, H, M, M', hM, h => h
  | (i, rc, us) :: l, a, H, M, M', hM, h => by
    simp only [LR] at h ⊢
    split at h
    · exact h.elim
    · rename_i o ho
      refine ⟨h.1, ?_⟩
      have h := h.2
      split at h
      · split at h
        · refine LR_less l _ _ _ _ ?_ h
          split
          · intro e he
            rcases List.mem_cons.1 he with he | he
            · exact List.mem_cons.2 (.inl he)
            · exact List.mem_cons.2 (.inr (hM e he))
          · exact hM
        · exact h
      · split at h
        · exact fun n hn => LR_less l _ _ _ _ hM (h n hn)
        · exact h
      · exact ⟨h.1, GT_mono (fun r H' hh => ⟨fun e he => hh.1 e (hM e he), LR_less l _ _ _ _ hM hh.2⟩) h.2⟩

/-- one operation, and what then -/
def EX (E : Env P) (ops : Array Oper) (pc : FuncId → Bool) (o : Oper) (a : Nat → AV) (H : Heap) (C : AV → Heap → Prop) : Prop :=
  match cls pc o with
  | .pure => ∃ r, stepV E ops o a H = some r ∧ C r H
  | .make => ∃ g, mkV E o a = some g ∧ ∀ n, H n = none → C (g n).1 (upd H n (g n).2)
  | .gen => GT E ops o a H C

/-- j stands ahead of i in the list, and need not: either may come first -/
def okPair (ops : Array Oper) (pc : FuncId → Bool) (ej ei : En) : Bool :=
  match ops[ej.1]?, ops[ei.1]? with
  | some oj, some oi =>
    oj.apart ops oi &&
    (match cls pc oj, cls pc oi with
     | .pure, .pure => true
     | .pure, .make => true
     | .pure, .gen => !isLoad oj.op || (ej.2.1 && ei.2.2.contains ej.1)
     | .make, .make => true
     | .gen, .make => isCallF oj.op && oj.guard.isNone && ej.2.2.contains ei.1 && ej.2.2.all fun m => match ops[m]? with
       | some om => (match oi.dst with | some d => !(om.looksAt ops).contains d | none => true)
       | none => true
     | _, _ => false)
  | _, _ => false

theorem front {i : Nat} {rc : Bool} {us : List Nat} {oi : Oper} {post : List En} (hi : ops[i]? = some oi) : ∀ (pre : List En) (a : Nat → AV) (H : Heap) (M : List (Nat × (Heap → Prop))), (∀ e ∈ pre, okPair ops pc e (i, rc, us) = true) → Fin H → (∀ e ∈ M, ∀ (G : Heap) n k, G n = none → e.2 G → e.2 (upd G n k)) →
    LR E N ops pc (pre ++ (i, rc, us) :: post) a H M K → dok N oi.dst = true ∧ EX E ops pc oi a H (fun r H' => (cls pc oi = .gen → ∀ e ∈ M, e.1 ∈ us → e.2 H') ∧ LR E N ops pc (pre ++ post) (put a oi.dst r) H' M K)
  | [], a, H, M, _, _, _, h => by
    simp only [List.nil_append, LR, hi] at h ⊢
    refine ⟨h.1, ?_⟩
    have h := h.2
    unfold EX
    cases hc : cls pc oi with
    | pure =>
      rw [hc] at h
      simp only at h ⊢
      split at h
      · rename_i r hr
        refine ⟨r, hr, (fun e => by cases e), LR_less _ _ _ _ _ ?_ h⟩
        intro e he; split
        · exact List.mem_cons.2 (.inr he)
        · exact he
      · exact h.elim
    | make =>
      rw [hc] at h
      simp only at h ⊢
      split at h
      · rename_i g hg; exact ⟨g, hg, fun n hn => ⟨(fun e => by cases e), h n hn⟩⟩
      · exact h.elim
    | gen =>
      rw [hc] at h
      exact GT_mono (fun r H' hh => ⟨fun _ => hh.1, hh.2⟩) h.2
  | (j, rj, uj) :: pre, a, H, M, hok, hfin, hMu, h => by
    have hj := hok (j, rj, uj) (by simp)
    have hok' : ∀ e ∈ pre, okPair ops pc e (i, rc, us) = true := fun e he => hok e (by simp [he])
    rw [List.cons_append] at h
    simp only [LR] at h
    split at h
    · exact h.elim
    · rename_i oj hoj
      unfold okPair at hj
      simp only [hoj, hi, Bool.and_eq_true] at hj
      obtain ⟨hap, hcl⟩ := hj
      obtain ⟨g1, g2, g3⟩ := Oper.apart_spec hap
      obtain ⟨hdj, h⟩ := h
      -- what oi looks at is not what oj writes
      have si : ∀ r, Same ops oi (put a oj.dst r) a := fun r => Same.put a g1
      have sj : ∀ r, Same ops oj (put a oi.dst r) a := fun r => Same.put a g3
      have pcm : ∀ r u, put (put a oj.dst r) oi.dst u = put (put a oi.dst u) oj.dst r := fun r u => put_comm a r u g2
      cases hcj : cls pc oj with
      | gen =>
        cases hci : cls pc oi with
        | pure => rw [hcj, hci] at hcl; simp at hcl
        | gen => rw [hcj, hci] at hcl; simp at hcl
        | make =>
          rw [hcj, hci] at hcl
          rw [hcj] at h
          simp only [Bool.and_eq_true, List.all_eq_true, List.contains_iff_mem] at hcl h
          obtain ⟨⟨⟨c1, c2⟩, c3⟩, c4⟩ := hcl
          obtain ⟨hpm, hgt⟩ := h
          obtain ⟨hdi, hms⟩ := premk_mem hpm c3 hi (cls_make hci)
          obtain ⟨g, hg⟩ := Option.isSome_iff_exists.1 hms
          have hgn : oj.guard = none := by simpa using c2
          refine ⟨hdi, ?_⟩
          unfold EX
          rw [hci]
          refine ⟨g, hg, fun n hn => ⟨(fun e => by cases e), ?_⟩⟩
          rw [List.cons_append]
          simp only [LR, hoj, hcj]
          refine ⟨hdj, premk_put (fun m hm o ho e he => ?_) hpm, ?_⟩
          · have := c4 m hm
            rw [ho, he] at this
            simpa using this
          · refine GT_same (sj _).symm ?_
            unfold GT at hgt ⊢
            rw [hgn] at hgt ⊢
            simp only at hgt ⊢
            refine EO_mono E ?_ (EO_upd c1 hn hfin hgt)
            rintro r H'' ⟨H', rfl, hn', hf', hm, hl⟩
            refine ⟨fun e he hu => hMu e he H' n _ hn' (hm e he hu), ?_⟩
            obtain ⟨_, ih⟩ := front hi pre _ _ _ hok' hf' hMu hl
            unfold EX at ih
            rw [hci] at ih
            obtain ⟨gi, e1, e2⟩ := ih
            rw [mkV_congr (si r).ev, hg] at e1
            cases e1
            have := (e2 n hn').2
            rw [← pcm]
            exact this
      | pure =>
        rw [hcj] at h hcl
        simp only at h
        split at h
        case h_2 => exact h.elim
        rename_i r hr
        obtain ⟨hdi, ih⟩ := front hi pre _ _ _ hok' hfin (by
          intro e he
          split at he
          · rcases List.mem_cons.1 he with rfl | he
            · exact fun G n k hG hs => stepV_upd hG hs
            · exact hMu e he
          · exact hMu e he) h
        refine ⟨hdi, ?_⟩
        unfold EX at ih ⊢
        have again : ∀ (u : AV) (H' : Heap), stepV E ops oj a H' = some r → LR E N ops pc (pre ++ post) (put (put a oj.dst r) oi.dst u) H' (if rj = true then (j, fun H' => stepV E ops oj a H' = some r) :: M else M) K →
            LR E N ops pc ((j, rj, uj) :: pre ++ post) (put a oi.dst u) H' M K := fun u H' hs hl => by
          rw [List.cons_append]
          simp only [LR, hoj, hcj]
          refine ⟨hdj, ?_⟩
          have e1 : stepV E ops oj (put a oi.dst u) H' = some r := by rw [stepV_same (sj u)]; exact hs
          rw [e1]
          show LR E N ops pc (pre ++ post) (put (put a oi.dst u) oj.dst r) H' _ K
          rw [← pcm]
          have e2 : ∀ H', stepV E ops oj (put a oi.dst u) H' = stepV E ops oj a H' := fun H' => stepV_same (sj u)
          simp only [e2]
          exact hl
        cases hci : cls pc oi with
        | pure =>
          rw [hci] at ih
          simp only at ih ⊢
          obtain ⟨u, hu, hl⟩ := ih
          exact ⟨u, by rw [← stepV_same (si r)]; exact hu, (fun e => by cases e), again u H hr hl.2⟩
        | make =>
          rw [hci] at ih
          simp only at ih ⊢
          obtain ⟨g, hg, hl⟩ := ih
          exact ⟨g, by rw [← mkV_congr (si r).ev]; exact hg, fun n hn => ⟨(fun e => by cases e), again _ _ (stepV_upd hn hr) (hl n hn).2⟩⟩
        | gen =>
          rw [hci] at ih hcl
          simp only at ih ⊢
          refine GT_mono ?_ (GT_same (si r) ih)
          rintro u H' ⟨hm, hl⟩
          have hm := hm trivial
          refine ⟨fun _ e he => hm e (by split <;> simp [he]), again u H' ?_ hl⟩
          cases hld : isLoad oj.op with
          | false => rw [stepV_heap (H' := H) hld]; exact hr
          | true =>
            simp only [hld, Bool.not_true, Bool.false_or, Bool.and_eq_true, List.contains_iff_mem] at hcl
            exact hm (j, fun H' => stepV E ops oj a H' = some r) (by rw [if_pos hcl.1]; simp) hcl.2
      | make =>
        rw [hcj] at h hcl
        simp only at h
        split at h
        case h_2 => exact h.elim
        rename_i g hg
        cases hci : cls pc oi with
        | pure => rw [hci] at hcl; simp at hcl
        | gen => rw [hci] at hcl; simp at hcl
        | make =>
          have step := fun n hn => front hi pre _ _ _ hok' (hfin.upd n (g n).2) hMu (h n hn)
          obtain ⟨n0, hn0⟩ := hfin.fresh
          refine ⟨(step n0 hn0).1, ?_⟩
          have hmk : ∀ n, H n = none → ∃ gi, mkV E oi a = some gi ∧ ∀ m, upd H n (g n).2 m = none → LR E N ops pc (pre ++ post) (put (put a oj.dst (g n).1) oi.dst (gi m).1) (upd (upd H n (g n).2) m (gi m).2) M K := fun n hn => by
            have := (step n hn).2
            unfold EX at this
            rw [hci] at this
            obtain ⟨gi, e1, e2⟩ := this
            exact ⟨gi, by rw [← mkV_congr (si _).ev]; exact e1, fun m hm => (e2 m hm).2⟩
          obtain ⟨gi, hgi, _⟩ := hmk n0 hn0
          unfold EX
          rw [hci]
          refine ⟨gi, hgi, fun m hm => ⟨(fun e => by cases e), ?_⟩⟩
          rw [List.cons_append]
          simp only [LR, hoj, hcj]
          refine ⟨hdj, ?_⟩
          rw [mkV_congr (sj _).ev, hg]
          intro n hn
          obtain ⟨hnm, hn'⟩ := upd_none.1 hn
          obtain ⟨gi', e1, e2⟩ := hmk n hn'
          rw [hgi] at e1; cases e1
          have := e2 m (upd_none.2 ⟨Ne.symm hnm, hm⟩)
          rw [← pcm, upd_comm (Ne.symm hnm)]
          exact this
end
end Go.Proofs.Yteoepeionomjlaa
