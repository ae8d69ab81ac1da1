/- Runs of operations behind one guard, without a parting of ways. -/
import Derived.Test.YteoepeionomjlaaM19
namespace Go.Proofs.Yteoepeionomjlaa
open Go.RowKit
set_option linter.all false

def isP : Op → Bool
  | .move _ | .assign _ | .pick .. | .makeFunc .. | .extract .. | .unOp .. | .binOp .. | .convert .. | .nilCheck _ | .fieldAddr .. | .field .. | .indexAddr .. | .index .. | .slice .. | .load .. | .build .. => true
  | .call { callee := .builtin .len, .. } | .call { callee := .builtin .max, .. } | .call { callee := .builtin .min, .. } => true
  | .call { callee := .value (.func _), .. } => true
  | _ => false
def sgd : Option (Nat × Bool) → Nat → Bool → Bool
  | some (i, true), j, true => i == j
  | some (i, false), j, false => i == j
  | _, _, _ => false
def sg (j : Nat) (w : Bool) (o : Oper) : Bool := sgd o.guard j w && isP o.op
theorem sgd_eq {g : Option (Nat × Bool)} {j : Nat} {w : Bool} (h : sgd g j w = true) : g = some (j, w) := by
  cases g with
  | none => cases h
  | some p => obtain ⟨i, v⟩ := p; cases v <;> cases w <;> simp [sgd] at h <;> simp [h]

section
variable {P : Program} (E : Env P) {N : Nat} {ops : Array Oper} {H : Heap} {K : (Nat → AV) → Heap → Prop}

theorem EO_pure {o : Oper} {a : Nat → AV} {r : AV} {C : AV → Heap → Prop} (hp : isP o.op = true) (h : pureF E H o a = some r) (hC : C r H) : EO E o a H C := by
  unfold EO
  split <;> rename_i ho <;> first | (rw [ho] at hp; cases hp) | (rw [h]; exact hC)

def pureRun : List Oper → (Nat → AV) → Option (Nat → AV)
  | [], a => some a
  | o :: os, a => match pureF E H o a with
    | some r => pureRun os (put a o.dst r)
    | none => none
end

def mrg (p : Prop) [Decidable p] (a' : Nat → AV) : List Oper → (Nat → AV) → (Nat → AV)
  | [], a => a
  | o :: os, a => mrg p a' os (match o.dst with | some d => put a (some d) (if p then a' d else .t []) | none => a)
def skp : List Oper → (Nat → AV) → (Nat → AV)
  | [], a => a
  | o :: os, a => skp os (put a o.dst (.t []))
def dn (ops : Array Oper) (N j : Nat) (o : Oper) : Bool :=
  dok N o.dst && (match o.dst, (ops[j]?).bind (·.dst) with | some d, some e => !(d == e) | _, _ => true)

theorem mrg_skp {p : Prop} [Decidable p] (hp : ¬ p) {a' : Nat → AV} : ∀ (l : List Oper) (a : Nat → AV), mrg p a' l a = skp l a
  | [], a => rfl
  | o :: os, a => by
    simp only [mrg, skp]
    rw [mrg_skp hp os]
    cases o.dst <;> simp [hp, put]
theorem mrg_all {p : Prop} [Decidable p] (hp : p) {a' : Nat → AV} : ∀ (l : List Oper) (a : Nat → AV), (∀ t, (∀ o ∈ l, o.dst ≠ some t) → a t = a' t) → mrg p a' l a = a'
  | [], a, h => by funext t; exact h t (by simp)
  | o :: os, a, h => by
    simp only [mrg]
    refine mrg_all hp os _ (fun t ht => ?_)
    cases hd : o.dst with
    | none => exact h t (fun o' ho' => by
        rcases List.mem_cons.1 ho' with rfl | ho'
        · rw [hd]; simp
        · exact ht o' ho')
    | some d =>
      simp only [put_some]
      split
      · rename_i e; subst e; simp [hp]
      · rename_i e
        exact h t (fun o' ho' => by
          rcases List.mem_cons.1 ho' with rfl | ho'
          · rw [hd]; simp; exact fun e' => e e'.symm
          · exact ht o' ho')

section
variable {P : Program} {E : Env P} {N : Nat} {ops : Array Oper} {H : Heap} {K : (Nat → AV) → Heap → Prop}
theorem pureRun_other : ∀ (l : List Oper) (a a' : Nat → AV), pureRun E (H := H) l a = some a' → ∀ t, (∀ o ∈ l, o.dst ≠ some t) → a t = a' t
  | [], a, a', h, t, ht => by simp only [pureRun, Option.some.injEq] at h; rw [h]
  | o :: os, a, a', h, t, ht => by
    simp only [pureRun] at h
    split at h
    · have := pureRun_other os _ a' h t (fun o' ho' => ht o' (by simp [ho']))
      rw [← this]
      cases hd : o.dst with
      | none => rfl
      | some d => rw [put_some, if_neg]; rintro rfl; exact ht o (by simp) hd
    · cases h

theorem gv_put {a : Nat → AV} {j : Nat} {o : Oper} {r : AV} (h : dn ops N j o = true) : gv ops (put a o.dst r) j = gv ops a j := by
  unfold gv
  unfold dn at h
  cases hj : (ops[j]?).bind (·.dst) with
  | none => rfl
  | some e =>
    cases hd : o.dst with
    | none => rfl
    | some d =>
      rw [hj, hd] at h
      simp at h
      simp only [Option.bind_some, put_some]
      rw [if_neg (fun x => h.2 x.symm)]
theorem dn_dok {j : Nat} {o : Oper} (h : dn ops N j o = true) : dok N o.dst = true := by
  unfold dn at h; simp only [Bool.and_eq_true] at h; exact h.1

theorem ER_yes {j : Nat} {w : Bool} {rest : List Oper} : ∀ (l : List Oper) (a a' : Nat → AV), l.all (sg j w) = true → l.all (dn ops N j) = true → gv ops a j = some w → pureRun E (H := H) l a = some a' → ER E N ops rest a' H K → ER E N ops (l ++ rest) a H K
  | [], a, a', _, _, _, h, hr => by simp only [pureRun, Option.some.injEq] at h; subst h; exact hr
  | o :: os, a, a', hs, hd, hg, h, hr => by
    simp only [List.all_cons, Bool.and_eq_true] at hs hd
    obtain ⟨hs1, hs2⟩ := hs
    unfold sg at hs1
    simp only [Bool.and_eq_true] at hs1
    simp only [pureRun] at h
    rw [List.cons_append]
    unfold ER
    rw [sgd_eq hs1.1]
    refine ⟨dn_dok hd.1, ?_⟩
    simp only [hg]
    refine ⟨fun _ => ?_, fun e => by cases w <;> cases e⟩
    split at h
    · rename_i r hp
      exact EO_pure E hs1.2 hp (ER_yes os _ a' hs2 hd.2 (by rw [gv_put hd.1]; exact hg) h hr)
    · cases h
theorem ER_no {j : Nat} {w b : Bool} (hb : b ≠ w) {rest : List Oper} : ∀ (l : List Oper) (a : Nat → AV), l.all (sg j w) = true → l.all (dn ops N j) = true → gv ops a j = some b → ER E N ops rest (skp l a) H K → ER E N ops (l ++ rest) a H K
  | [], a, _, _, _, hr => hr
  | o :: os, a, hs, hd, hg, hr => by
    simp only [List.all_cons, Bool.and_eq_true] at hs hd
    obtain ⟨hs1, hs2⟩ := hs
    unfold sg at hs1
    simp only [Bool.and_eq_true] at hs1
    rw [List.cons_append]
    unfold ER
    rw [sgd_eq hs1.1]
    refine ⟨dn_dok hd.1, ?_⟩
    simp only [hg]
    exact ⟨fun e => absurd e hb, fun _ => ER_no hb os _ hs2 hd.2 (by rw [gv_put hd.1]; exact hg) hr⟩

/-- a run behind one guard -/
theorem ER_blk {d : Option Nat} {op : Op} {ty : TypeId} {ps : String} {af : Array Edge} {os : List Oper} {j : Nat} {w b : Bool} {a a' : Nat → AV} (hp : isP op = true) (hb : gv ops a j = some b)
    (hd : (({ dst := d, op := op, type := ty, pos := ps, after := af, guard := some (j, w) } : Oper) :: os.takeWhile (sg j w)).all (dn ops N j) = true)
    (h : b = w → pureRun E (H := H) ({ dst := d, op := op, type := ty, pos := ps, after := af, guard := some (j, w) } :: os.takeWhile (sg j w)) a = some a')
    (hr : ER E N ops (os.dropWhile (sg j w)) (mrg (b = w) a' ({ dst := d, op := op, type := ty, pos := ps, after := af, guard := some (j, w) } :: os.takeWhile (sg j w)) a) H K) :
    ER E N ops ({ dst := d, op := op, type := ty, pos := ps, after := af, guard := some (j, w) } :: os) a H K := by
  obtain ⟨o, ho⟩ : ∃ o : Oper, o = { dst := d, op := op, type := ty, pos := ps, after := af, guard := some (j, w) } := ⟨_, rfl⟩
  rw [← ho] at hd h hr ⊢
  have hso : sg j w o = true := by rw [ho]; cases w <;> simp [sg, sgd, hp]
  have hall : (o :: os.takeWhile (sg j w)).all (sg j w) = true := by
    simp only [List.all_cons, hso, Bool.true_and, List.all_eq_true]
    intro x hx
    have : ∀ (l : List Oper), x ∈ l.takeWhile (sg j w) → sg j w x = true := by
      intro l
      induction l with
      | nil => simp
      | cons y l ih =>
        rw [List.takeWhile_cons]
        split
        · rename_i hy
          intro hm
          rcases List.mem_cons.1 hm with rfl | hm
          · exact hy
          · exact ih hm
        · simp
    exact this os hx
  have e : o :: os = (o :: os.takeWhile (sg j w)) ++ os.dropWhile (sg j w) := by rw [List.cons_append, List.takeWhile_append_dropWhile]
  rw [e]
  by_cases hbw : b = w
  · have hpr := h hbw
    rw [mrg_all hbw _ a (fun t ht => pureRun_other _ a a' hpr t ht)] at hr
    exact ER_yes _ a a' hall hd (by rw [hb, hbw]) hpr hr
  · rw [mrg_skp hbw] at hr
    exact ER_no hbw _ a hall hd hb hr
end

section
variable {P : Program} {E : Env P} {N : Nat} {ops : Array Oper} {a : Nat → AV} {H : Heap} {K : (Nat → AV) → Heap → Prop}
/-- a guard that is known -/
theorem ER_yes1 {d : Option Nat} {op : Op} {ty : TypeId} {ps : String} {af : Array Edge} {os : List Oper} {j : Nat} {want : Bool} (hb : gv ops a j = some want)
    (h : dok N d = true ∧ EO E { dst := d, op := op, type := ty, pos := ps, after := af, guard := some (j, want) } a H (CT E N ops os a d K)) :
    ER E N ops ({ dst := d, op := op, type := ty, pos := ps, after := af, guard := some (j, want) } :: os) a H K :=
  ER_guard hb (fun _ => h) (fun e => by cases want <;> cases e)
theorem ER_yesS {d : Option Nat} {op : Op} {ty : TypeId} {ps : String} {af : Array Edge} {os : List Oper} {j : Nat} {want : Bool} (hb : gv ops a j = some want) :
    ER E N ops ({ dst := d, op := op, type := ty, pos := ps, after := af, guard := some (j, want) } :: os) a H K = (dok N d = true ∧ EO E { dst := d, op := op, type := ty, pos := ps, after := af, guard := some (j, want) } a H (CT E N ops os a d K)) :=
  propext ⟨fun h => by
    unfold ER at h
    simp only [hb] at h
    exact ⟨h.1, h.2.1 trivial⟩, fun h => ER_yes1 hb h⟩
theorem ER_no1 {d : Option Nat} {op : Op} {ty : TypeId} {ps : String} {af : Array Edge} {os : List Oper} {j : Nat} {want : Bool} (hb : gv ops a j = some (!want))
    (h : dok N d = true ∧ ER E N ops os (put a d (.t [])) H K) :
    ER E N ops ({ dst := d, op := op, type := ty, pos := ps, after := af, guard := some (j, want) } :: os) a H K :=
  ER_guard hb (fun e => by cases want <;> cases e) (fun _ => h)
theorem ER_noU {d : Option Nat} {op : Op} {ty : TypeId} {ps : String} {af : Array Edge} {os : List Oper} {j : Nat} {want : Bool} (hb : gu ops a j = true) :
    ER E N ops ({ dst := d, op := op, type := ty, pos := ps, after := af, guard := some (j, want) } :: os) a H K = (dok N d = true ∧ ER E N ops os (put a d (.t [])) H K) := by
  have hg : gv ops a j = none := by
    unfold gu at hb
    unfold gv
    cases hd : (ops[j]?).bind (·.dst) with
    | none => rfl
    | some e =>
      rw [hd] at hb
      simp only at hb
      split at hb
      · rename_i ha; simp [ha]
      · cases hb
  exact propext ⟨fun h => by
    unfold ER at h
    simp only [hg] at h
    exact ⟨h.1, h.2.2⟩, fun h => by
    unfold ER
    simp only [hg]
    exact ⟨h.1, hb, h.2⟩⟩
theorem ER_noS {d : Option Nat} {op : Op} {ty : TypeId} {ps : String} {af : Array Edge} {os : List Oper} {j : Nat} {want : Bool} (hb : gv ops a j = some (!want)) :
    ER E N ops ({ dst := d, op := op, type := ty, pos := ps, after := af, guard := some (j, want) } :: os) a H K = (dok N d = true ∧ ER E N ops os (put a d (.t [])) H K) :=
  propext ⟨fun h => by
    unfold ER at h
    simp only [hb] at h
    exact ⟨h.1, h.2.2 trivial⟩, fun h => ER_no1 hb h⟩
end
theorem ite_and_b (p : Prop) [Decidable p] (b : Bool) : (if p then b else false) = (decide p && b) := by by_cases h : p <;> simp [h]
theorem ite_or_b (p : Prop) [Decidable p] (b : Bool) : (if p then true else b) = (decide p || b) := by by_cases h : p <;> simp [h]
theorem ite_in {α : Type} (p : Prop) [Decidable p] (x y z : α) : (if p then (if p then x else y) else z) = if p then x else z := by by_cases h : p <;> simp [h]
theorem ite_in2 {α : Type} (p : Prop) [Decidable p] (x y z : α) : (if p then x else (if p then y else z)) = if p then x else z := by by_cases h : p <;> simp [h]
theorem ite_in3 {α : Type} (b : Bool) (x y z : α) : (if b = true then x else (if b = false then y else z)) = if b = true then x else y := by cases b <;> rfl
theorem ite_in4 {α : Type} (b : Bool) (x y z : α) : (if b = true then (if b = false then y else z) else x) = if b = true then z else x := by cases b <;> rfl
theorem ite_some {α : Type} (p : Prop) [Decidable p] (x y : α) : (if p then some x else some y) = some (if p then x else y) := by by_cases h : p <;> simp [h]
theorem ite_none {m n : Nat} {k : Blk} {x : Option Blk} : ((if m = n then some k else x) = none) ↔ ((¬ m = n ∧ ¬ n = m) ∧ x = none) := by
  by_cases h : m = n
  · simp [h]
  · simp [h, Ne.symm h]
theorem ne_old {H : Heap} {n : Nat} {k : Blk} (h : H n = some k) : ∀ m, H m = none → (n = m) = False ∧ (m = n) = False := fun m hm => by
  have : n ≠ m := by rintro rfl; rw [hm] at h; cases h
  simp [this, Ne.symm this]
attribute [push_cast high] Int.cast_ofNat_Int
attribute [push_cast] gu ER_yesS ER_noS ER_noU ite_none isP sgd sg pureRun mrg dn ite_and_b ite_or_b ite_in ite_in2 ite_in3 ite_in4 ite_some List.takeWhile List.dropWhile
end Go.Proofs.Yteoepeionomjlaa
