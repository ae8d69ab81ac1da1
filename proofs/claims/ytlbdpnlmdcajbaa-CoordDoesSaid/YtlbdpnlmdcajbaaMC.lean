/- The words for abstract values and memory (20 to 38). -/
import Derived.Test.YtlbdpnlmdcajbaaMB
import Derived.Lib.AppendZerosOnto
import Derived.Laws.MakeOwn
import Derived.Maps.Keyed
import Derived.Carry
import Derived.Laws.BytesArg
/- Runs of operations behind one guard, without a parting of ways. -/
namespace Go.Proofs.Ytlbdpnlmdcajbaa
open Go.RowKit
set_option linter.all false

def isP : Op → Bool
  | .move _ | .assign _ | .pick .. | .makeFunc .. | .extract .. | .unOp .. | .binOp .. | .convert .. | .nilCheck _ | .fieldAddr .. | .field .. | .indexAddr .. | .index .. | .slice .. | .load .. | .build .. => true
  | .call { callee := .builtin .len, .. } | .call { callee := .builtin .max, .. } | .call { callee := .builtin .min, .. } => true
  | .call { callee := .value (.func _), .. } => true
  | _ => false
def sgd : Option (Nat × Bool) → Nat → Bool → Bool
  | some (i, true), j, true => i == j
  | some (i, false), j, false => i == j
  | _, _, _ => false
def sg (j : Nat) (w : Bool) (o : Oper) : Bool := sgd o.guard j w && isP o.op
theorem sgd_eq {g : Option (Nat × Bool)} {j : Nat} {w : Bool} (h : sgd g j w = true) : g = some (j, w) := by
  cases g with
  | none => cases h
  | some p => obtain ⟨i, v⟩ := p; cases v <;> cases w <;> simp [sgd] at h <;> simp [h]

section
variable {P : Program} (E : Env P) {N : Nat} {ops : Array Oper} {H : Heap} {K : (Nat → AV) → Heap → Prop}

theorem EO_pure {o : Oper} {a : Nat → AV} {r : AV} {C : AV → Heap → Prop} (hp : isP o.op = true) (h : pureF E H o a = some r) (hC : C r H) : EO E o a H C := by
  unfold EO
  split <;> rename_i ho <;> first | (rw [ho] at hp; cases hp) | (rw [h]; exact hC)

def pureRun : List Oper → (Nat → AV) → Option (Nat → AV)
  | [], a => some a
  | o :: os, a => match pureF E H o a with
    | some r => pureRun os (put a o.dst r)
    | none => none
end

def mrg (p : Prop) [Decidable p] (a' : Nat → AV) : List Oper → (Nat → AV) → (Nat → AV)
  | [], a => a
  | o :: os, a => mrg p a' os (match o.dst with | some d => put a (some d) (if p then a' d else .t []) | none => a)
def skp : List Oper → (Nat → AV) → (Nat → AV)
  | [], a => a
  | o :: os, a => skp os (put a o.dst (.t []))
def dn (ops : Array Oper) (N j : Nat) (o : Oper) : Bool :=
  dok N o.dst && (match o.dst, (ops[j]?).bind (·.dst) with | some d, some e => !(d == e) | _, _ => true)

theorem mrg_skp {p : Prop} [Decidable p] (hp : ¬ p) {a' : Nat → AV} : ∀ (l : List Oper) (a : Nat → AV), mrg p a' l a = skp l a
  | [], a => rfl
  | o :: os, a => by
    simp only [mrg, skp]
    rw [mrg_skp hp os]
    cases o.dst <;> simp [hp, put]
theorem mrg_all {p : Prop} [Decidable p] (hp : p) {a' : Nat → AV} : ∀ (l : List Oper) (a : Nat → AV), (∀ t, (∀ o ∈ l, o.dst ≠ some t) → a t = a' t) → mrg p a' l a = a'
  | [], a, h => by funext t; exact h t (by simp)
  | o :: os, a, h => by
    simp only [mrg]
    refine mrg_all hp os _ (fun t ht => ?_)
    cases hd : o.dst with
    | none => exact h t (fun o' ho' => by
        rcases List.mem_cons.1 ho' with rfl | ho'
        · rw [hd]; simp
        · exact ht o' ho')
    | some d =>
      simp only [put_some]
      split
      · rename_i e; subst e; simp [hp]
      · rename_i e
        exact h t (fun o' ho' => by
          rcases List.mem_cons.1 ho' with rfl | ho'
          · rw [hd]; simp; exact fun e' => e e'.symm
          · exact ht o' ho')

section
variable {P : Program} {E : Env P} {N : Nat} {ops : Array Oper} {H : Heap} {K : (Nat → AV) → Heap → Prop}
theorem pureRun_other : ∀ (l : List Oper) (a a' : Nat → AV), pureRun E (H := H) l a = some a' → ∀ t, (∀ o ∈ l, o.dst ≠ some t) → a t = a' t
  | [], a, a', h, t, ht => by simp only [pureRun, Option.some.injEq] at h; rw [h]
  | o :: os, a, a', h, t, ht => by
    simp only [pureRun] at h
    split at h
    · have := pureRun_other os _ a' h t (fun o' ho' => ht o' (by simp [ho']))
      rw [← this]
      cases hd : o.dst with
      | none => rfl
      | some d => rw [put_some, if_neg]; rintro rfl; exact ht o (by simp) hd
    · cases h

theorem gv_put {a : Nat → AV} {j : Nat} {o : Oper} {r : AV} (h : dn ops N j o = true) : gv ops (put a o.dst r) j = gv ops a j := by
  unfold gv
  unfold dn at h
  cases hj : (ops[j]?).bind (·.dst) with
  | none => rfl
  | some e =>
    cases hd : o.dst with
    | none => rfl
    | some d =>
      rw [hj, hd] at h
      simp at h
      simp only [Option.bind_some, put_some]
      rw [if_neg (fun x => h.2 x.symm)]
theorem dn_dok {j : Nat} {o : Oper} (h : dn ops N j o = true) : dok N o.dst = true := by
  unfold dn at h; simp only [Bool.and_eq_true] at h; exact h.1

theorem ER_yes {j : Nat} {w : Bool} {rest : List Oper} : ∀ (l : List Oper) (a a' : Nat → AV), l.all (sg j w) = true → l.all (dn ops N j) = true → gv ops a j = some w → pureRun E (H := H) l a = some a' → ER E N ops rest a' H K → ER E N ops (l ++ rest) a H K
  | [], a, a', _, _, _, h, hr => by simp only [pureRun, Option.some.injEq] at h; subst h; exact hr
  | o :: os, a, a', hs, hd, hg, h, hr => by
    simp only [List.all_cons, Bool.and_eq_true] at hs hd
    obtain ⟨hs1, hs2⟩ := hs
    unfold sg at hs1
    simp only [Bool.and_eq_true] at hs1
    simp only [pureRun] at h
    rw [List.cons_append]
    unfold ER
    rw [sgd_eq hs1.1]
    refine ⟨dn_dok hd.1, ?_⟩
    simp only [hg]
    refine ⟨fun _ => ?_, fun e => by cases w <;> cases e⟩
    split at h
    · rename_i r hp
      exact EO_pure E hs1.2 hp (ER_yes os _ a' hs2 hd.2 (by rw [gv_put hd.1]; exact hg) h hr)
    · cases h
theorem ER_no {j : Nat} {w b : Bool} (hb : b ≠ w) {rest : List Oper} : ∀ (l : List Oper) (a : Nat → AV), l.all (sg j w) = true → l.all (dn ops N j) = true → gv ops a j = some b → ER E N ops rest (skp l a) H K → ER E N ops (l ++ rest) a H K
  | [], a, _, _, _, hr => hr
  | o :: os, a, hs, hd, hg, hr => by
    simp only [List.all_cons, Bool.and_eq_true] at hs hd
    obtain ⟨hs1, hs2⟩ := hs
    unfold sg at hs1
    simp only [Bool.and_eq_true] at hs1
    rw [List.cons_append]
    unfold ER
    rw [sgd_eq hs1.1]
    refine ⟨dn_dok hd.1, ?_⟩
    simp only [hg]
    exact ⟨fun e => absurd e hb, fun _ => ER_no hb os _ hs2 hd.2 (by rw [gv_put hd.1]; exact hg) hr⟩

theorem ER_blk {d : Option Nat} {op : Op} {ty : TypeId} {ps : String} {af : Array Edge} {os : List Oper} {j : Nat} {w b : Bool} {a a' : Nat → AV} (hp : isP op = true) (hb : gv ops a j = some b)
    (hd : (({ dst := d, op := op, type := ty, pos := ps, after := af, guard := some (j, w) } : Oper) :: os.takeWhile (sg j w)).all (dn ops N j) = true)
    (h : b = w → pureRun E (H := H) ({ dst := d, op := op, type := ty, pos := ps, after := af, guard := some (j, w) } :: os.takeWhile (sg j w)) a = some a')
    (hr : ER E N ops (os.dropWhile (sg j w)) (mrg (b = w) a' ({ dst := d, op := op, type := ty, pos := ps, after := af, guard := some (j, w) } :: os.takeWhile (sg j w)) a) H K) :
    ER E N ops ({ dst := d, op := op, type := ty, pos := ps, after := af, guard := some (j, w) } :: os) a H K := by
  obtain ⟨o, ho⟩ : ∃ o : Oper, o = { dst := d, op := op, type := ty, pos := ps, after := af, guard := some (j, w) } := ⟨_, rfl⟩
  rw [← ho] at hd h hr ⊢
  have hso : sg j w o = true := by rw [ho]; cases w <;> simp [sg, sgd, hp]
  have hall : (o :: os.takeWhile (sg j w)).all (sg j w) = true := by
    simp only [List.all_cons, hso, Bool.true_and, List.all_eq_true]
    intro x hx
    have : ∀ (l : List Oper), x ∈ l.takeWhile (sg j w) → sg j w x = true := by
      intro l
      induction l with
      | nil => simp
      | cons y l ih =>
        rw [List.takeWhile_cons]
        split
        · rename_i hy
          intro hm
          rcases List.mem_cons.1 hm with rfl | hm
          · exact hy
          · exact ih hm
        · simp
    exact this os hx
  have e : o :: os = (o :: os.takeWhile (sg j w)) ++ os.dropWhile (sg j w) := by rw [List.cons_append, List.takeWhile_append_dropWhile]
  rw [e]
  by_cases hbw : b = w
  · have hpr := h hbw
    rw [mrg_all hbw _ a (fun t ht => pureRun_other _ a a' hpr t ht)] at hr
    exact ER_yes _ a a' hall hd (by rw [hb, hbw]) hpr hr
  · rw [mrg_skp hbw] at hr
    exact ER_no hbw _ a hall hd hb hr
end

section
variable {P : Program} {E : Env P} {N : Nat} {ops : Array Oper} {a : Nat → AV} {H : Heap} {K : (Nat → AV) → Heap → Prop}
theorem ER_yes1 {d : Option Nat} {op : Op} {ty : TypeId} {ps : String} {af : Array Edge} {os : List Oper} {j : Nat} {want : Bool} (hb : gv ops a j = some want)
    (h : dok N d = true ∧ EO E { dst := d, op := op, type := ty, pos := ps, after := af, guard := some (j, want) } a H (CT E N ops os a d K)) :
    ER E N ops ({ dst := d, op := op, type := ty, pos := ps, after := af, guard := some (j, want) } :: os) a H K :=
  ER_guard hb (fun _ => h) (fun e => by cases want <;> cases e)
theorem ER_yesS {d : Option Nat} {op : Op} {ty : TypeId} {ps : String} {af : Array Edge} {os : List Oper} {j : Nat} {want : Bool} (hb : gv ops a j = some want) :
    ER E N ops ({ dst := d, op := op, type := ty, pos := ps, after := af, guard := some (j, want) } :: os) a H K = (dok N d = true ∧ EO E { dst := d, op := op, type := ty, pos := ps, after := af, guard := some (j, want) } a H (CT E N ops os a d K)) :=
  propext ⟨fun h => by
    unfold ER at h
    simp only [hb] at h
    exact ⟨h.1, h.2.1 trivial⟩, fun h => ER_yes1 hb h⟩
theorem ER_no1 {d : Option Nat} {op : Op} {ty : TypeId} {ps : String} {af : Array Edge} {os : List Oper} {j : Nat} {want : Bool} (hb : gv ops a j = some (!want))
    (h : dok N d = true ∧ ER E N ops os (put a d (.t [])) H K) :
    ER E N ops ({ dst := d, op := op, type := ty, pos := ps, after := af, guard := some (j, want) } :: os) a H K :=
  ER_guard hb (fun e => by cases want <;> cases e) (fun _ => h)
theorem ER_noU {d : Option Nat} {op : Op} {ty : TypeId} {ps : String} {af : Array Edge} {os : List Oper} {j : Nat} {want : Bool} (hb : gu ops a j = true) :
    ER E N ops ({ dst := d, op := op, type := ty, pos := ps, after := af, guard := some (j, want) } :: os) a H K = (dok N d = true ∧ ER E N ops os (put a d (.t [])) H K) := by
  have hg : gv ops a j = none := by
    unfold gu at hb
    unfold gv
    cases hd : (ops[j]?).bind (·.dst) with
    | none => rfl
    | some e =>
      rw [hd] at hb
      simp only at hb
      split at hb
      · rename_i ha; simp [ha]
      · cases hb
  exact propext ⟨fun h => by
    unfold ER at h
    simp only [hg] at h
    exact ⟨h.1, h.2.2⟩, fun h => by
    unfold ER
    simp only [hg]
    exact ⟨h.1, hb, h.2⟩⟩
theorem ER_noS {d : Option Nat} {op : Op} {ty : TypeId} {ps : String} {af : Array Edge} {os : List Oper} {j : Nat} {want : Bool} (hb : gv ops a j = some (!want)) :
    ER E N ops ({ dst := d, op := op, type := ty, pos := ps, after := af, guard := some (j, want) } :: os) a H K = (dok N d = true ∧ ER E N ops os (put a d (.t [])) H K) :=
  propext ⟨fun h => by
    unfold ER at h
    simp only [hb] at h
    exact ⟨h.1, h.2.2 trivial⟩, fun h => ER_no1 hb h⟩
end
theorem ite_and_b (p : Prop) [Decidable p] (b : Bool) : (if p then b else false) = (decide p && b) := by by_cases h : p <;> simp [h]
theorem ite_or_b (p : Prop) [Decidable p] (b : Bool) : (if p then true else b) = (decide p || b) := by by_cases h : p <;> simp [h]
theorem ite_in {α : Type} (p : Prop) [Decidable p] (x y z : α) : (if p then (if p then x else y) else z) = if p then x else z := by by_cases h : p <;> simp [h]
theorem ite_in2 {α : Type} (p : Prop) [Decidable p] (x y z : α) : (if p then x else (if p then y else z)) = if p then x else z := by by_cases h : p <;> simp [h]
theorem ite_in3 {α : Type} (b : Bool) (x y z : α) : (if b = true then x else (if b = false then y else z)) = if b = true then x else y := by cases b <;> rfl
theorem ite_in4 {α : Type} (b : Bool) (x y z : α) : (if b = true then (if b = false then y else z) else x) = if b = true then z else x := by cases b <;> rfl
theorem ite_some {α : Type} (p : Prop) [Decidable p] (x y : α) : (if p then some x else some y) = some (if p then x else y) := by by_cases h : p <;> simp [h]
theorem ite_none {m n : Nat} {k : Blk} {x : Option Blk} : ((if m = n then some k else x) = none) ↔ ((¬ m = n ∧ ¬ n = m) ∧ x = none) := by
  by_cases h : m = n
  · simp [h]
  · simp [h, Ne.symm h]
theorem ne_old {H : Heap} {n : Nat} {k : Blk} (h : H n = some k) : ∀ m, H m = none → (n = m) = False ∧ (m = n) = False := fun m hm => by
  have : n ≠ m := by rintro rfl; rw [hm] at h; cases h
  simp [this, Ne.symm this]
attribute [push_cast high] Int.cast_ofNat_Int
attribute [push_cast] gu ER_yesS ER_noS ER_noU ite_none isP sgd sg pureRun mrg dn ite_and_b ite_or_b ite_in ite_in2 ite_in3 ite_in4 ite_some List.takeWhile List.dropWhile
end Go.Proofs.Ytlbdpnlmdcajbaa

/- Loops by rounds; iterators that own nothing; slices that grow, frozen at the end. -/
namespace Go.Proofs.Ytlbdpnlmdcajbaa
open Go.RowKit
set_option linter.all false

structure Nxt (p s h : Prop) : Prop where
  p : p
  s : s
  h : h

section
variable {P : Program} {N : Nat} {a : Nat → AV} {H : Heap} {Q : Post}

theorem AW_loopX {σ : Type} {c : Code} (n : Nat) (inv : Nat → σ → Prop) (fr : Nat → σ → List (Nat × AV)) (hp : Nat → σ → Heap) (s0 : σ) (h0 : inv 0 s0) (hf : Sl a (fr 0 s0)) (hH : Heap.le (hp 0 s0) H)
    (step : ∀ k s, k < n → inv k s → AW P N c (frm (fr k s)) (hp k s) (thenA (fun a' H' => ∃ s', Nxt (inv (k + 1) s') (Sl a' (fr (k + 1) s')) (Heap.le (hp (k + 1) s') H')) Q))
    (done : ∀ s, inv n s → AW P N c (frm (fr n s)) (hp n s) (thenA (fun _ _ => False) Q)) : AW P N (.loop c) a H Q := by
  refine AW_loopS (σ := Nat × σ) (fun s => s.1 ≤ n ∧ inv s.1 s.2) (fun s => fr s.1 s.2) (fun s => hp s.1 s.2) (fun s => n - s.1) (0, s0) ⟨Nat.zero_le _, h0⟩ hf hH ?_
  rintro ⟨k, s⟩ ⟨hk, hi⟩
  by_cases e : k = n
  · subst e
    refine (done s hi).mono ?_
    intro e a' H' h
    cases e with
    | normal => exact h.elim
    | _ => exact h
  · refine (step k s (by omega) hi).mono ?_
    intro e a' H' h
    cases e with
    | normal =>
      obtain ⟨s', h1, h2, h3⟩ := h
      refine ⟨(k + 1, s'), ⟨?_, h1⟩, h2, h3, ?_⟩
      · show k + 1 ≤ n; omega
      · show n - (k + 1) < n - k; omega
    | _ => exact h

theorem AW_loopN {c : Code} (n : Nat) (inv : Nat → Prop) (fr : Nat → List (Nat × AV)) (hp : Nat → Heap) (h0 : inv 0) (hf : Sl a (fr 0)) (hH : Heap.le (hp 0) H)
    (step : ∀ k, k < n → inv k → AW P N c (frm (fr k)) (hp k) (thenA (fun a' H' => Nxt (inv (k + 1)) (Sl a' (fr (k + 1))) (Heap.le (hp (k + 1)) H')) Q))
    (done : inv n → AW P N c (frm (fr n)) (hp n) (thenA (fun _ _ => False) Q)) : AW P N (.loop c) a H Q :=
  AW_loopX (σ := Unit) n (fun k _ => inv k) (fun k _ => fr k) (fun k _ => hp k) () h0 hf hH
    (fun k _ hk hi => (step k hk hi).mono fun e a' H' h => by
      cases e with
      | normal => exact ⟨(), h⟩
      | _ => exact h) (fun _ hi => done hi)

end

def Imp (F F' : Mem) (x y : AV) : Prop := ∀ v, V F x v → V F' y v
def Imps (F F' : Mem) (xs ys : List AV) : Prop := xs.length = ys.length ∧ ∀ (i : Nat) (x y : AV), xs[i]? = some x → ys[i]? = some y → Imp F F' x y ∧ (x.one = true → y.one = true)
theorem Imp.refl {F F' : Mem} (h : F.le F') (x : AV) : Imp F F' x x := fun v hv => hv.mono h
theorem Imps.refl {F F' : Mem} (h : F.le F') (xs : List AV) : Imps F F' xs xs := ⟨rfl, fun i x y hx hy => by rw [hx] at hy; cases hy; exact ⟨Imp.refl h x, id⟩⟩
theorem Imps.nil {F F' : Mem} : Imps F F' [] [] := ⟨rfl, fun i x y hx => by simp at hx⟩
theorem Imps.cons {F F' : Mem} {x y : AV} {xs ys : List AV} (h : Imp F F' x y) (ho : x.one = true → y.one = true) (hs : Imps F F' xs ys) : Imps F F' (x :: xs) (y :: ys) :=
  ⟨by simp [hs.1], fun i u w hu hw => by
    cases i with
    | zero => simp at hu hw; subst hu; subst hw; exact ⟨h, ho⟩
    | succ i => simp at hu hw; exact hs.2 i u w hu hw⟩
theorem Imps.cs {F F' : Mem} {xs ys : List AV} {n : Nat} {f : Nat → Value} (h : Imps F F' xs ys) (hx : ∀ (i : Nat) (y : AV), xs[i]? = some y → V F y (f i)) : ∀ (i : Nat) (y : AV), ys[i]? = some y → V F' y (f i) := fun i y hy => by
  have hl := (List.getElem?_eq_some_iff.1 hy).1
  rw [← h.1] at hl
  exact (h.2 i xs[i] y (List.getElem?_eq_getElem hl) hy).1 _ (hx i _ (List.getElem?_eq_getElem hl))
theorem Imp.t {F F' : Mem} {xs ys : List AV} (h : Imps F F' xs ys) : Imp F F' (.t xs) (.t ys) := fun v hv => by
  cases hv with
  | t _ cs h1 h3 => exact .t ys cs (by rw [← h.1]; exact h1) (h.cs (n := 0) h3)
theorem Imp.g {F F' : Mem} {xs ys : List AV} (h : Imps F F' xs ys) : Imp F F' (.g xs) (.g ys) := fun v hv => by
  cases hv with
  | g _ cs h1 h2 h3 => exact .g ys cs (by rw [← h.1]; exact h1) (fun i y hy => by
      have hl := (List.getElem?_eq_some_iff.1 hy).1
      rw [← h.1] at hl
      exact (h.2 i xs[i] y (List.getElem?_eq_getElem hl) hy).2 (h2 i _ (List.getElem?_eq_getElem hl))) (h.cs (n := 0) h3)
theorem Imp.f {F F' : Mem} {fn : Fn} {xs ys xs' ys' : List AV} (h : Imps F F' xs xs') (k : Imps F F' ys ys') : Imp F F' (.f fn xs ys) (.f fn xs' ys') := fun v hv => by
  cases hv with
  | f _ _ _ cs ds h1 h2 h3 h4 => exact .f fn xs' ys' cs ds (by rw [← h.1]; exact h1) (by rw [← k.1]; exact h2) (h.cs (n := 0) h3) (k.cs (n := 0) h4)

theorem Weak.hold {r r' : AV} {H : Heap} (n : Nat) {ty : TypeId} {sz cap : Nat} {rows : List (List AV)} (hn : H n = some (.r ty sz cap rows))
    (hr : ∀ F F' : Mem, F.le F' → (∀ y, Imp F F' y (Go.Proofs.Ytlbdpnlmdcajbaa.frz n sz rows y)) → Imp F F' r r') : Weak r H r' (del H n) := by
  intro F w v hv hs
  obtain ⟨C, c1, c2, c3, c4, c5, c6⟩ := hs.blk n _ hn
  have hle : rows.length * sz ≤ C.size := by rw [c2]; exact Nat.mul_le_mul_right _ c3
  obtain ⟨F', hF'⟩ : ∃ F' : Mem, F' = fun b o => if b = n then (if o < rows.length * sz then C[o]? else none) else F b o := ⟨_, rfl⟩
  have hFn : ∀ o, F n o = none := fun o => by
    cases h : F n o with
    | none => rfl
    | some u => exact (hs.off n o u _ h hn).elim
  have hFF : F.le F' := fun b o u hu => by
    rw [hF']
    by_cases e : b = n
    · subst e; rw [hFn] at hu; cases hu
    · simp [e, hu]
  have hrr : ∀ i j y, at2 rows i j = some y → y.one = true ∧ V F' y (C.getD (i * sz + j) undef) ∧ F' n (i * sz + j) = some (C.getD (i * sz + j) undef) := fun i j y hy => by
    refine ⟨c6.one i j y hy, (c6.val i j y hy).mono hFF, ?_⟩
    obtain ⟨b1, b2⟩ := c6.at2 hy
    have hlt := flat_lt b1 b2
    have : i * sz + j < C.size := by omega
    rw [hF']; simp [hlt, this, Array.getD]
  refine ⟨F', hFF, hr F F' hFF (fun y v hv => hv.frz hFF c6.len hrr) v hv, ⟨fun b o u hu => ?_, fun b o u k hu hk => ?_, fun m k hk => ?_⟩, fun b o u hu => ?_, fun m k hk => ?_⟩
  · rw [hF'] at hu
    by_cases e : b = n
    · subst e
      simp only [if_true] at hu
      split at hu
      · rw [cell_of_row w b _ C ty (0, 0) c1]; exact hu
      · cases hu
    · simp only [e, if_false] at hu; exact hs.mem b o u hu
  · rw [hF'] at hu
    by_cases e : b = n
    · rw [e, del_same] at hk; cases hk
    · simp only [e, if_false] at hu
      rw [del_ne e] at hk
      exact hs.off b o u k hu hk
  · by_cases e : m = n
    · rw [e, del_same] at hk; cases hk
    · rw [del_ne e] at hk
      exact (hs.blk m k hk).mono hFF
  · rw [hF'] at hu
    by_cases e : b = n
    · right; rw [e, hn]; simp
    · simp only [e, if_false] at hu; exact .inl hu
  · by_cases e : m = n
    · rw [e, del_same] at hk; cases hk
    · rw [del_ne e] at hk; rw [hk]; simp

theorem Imp.nil_l {F F' : Mem} (sz : Nat) {ad : Option Addr} : Imp F F' (.c (.slice ad 0 0)) (.l sz []) := fun v hv => by
  cases hv.c_inv
  exact .l sz [] ad 0 0 (fun _ _ => undef) rfl (Nat.le_refl _) (Nat.zero_le _) (fun _ => rfl) (by simp) (fun i j y hy => by simp [at2] at hy) (fun i j y hy => by simp [at2] at hy) (fun ad ha hl => by simp at hl)

theorem frz_s {n sz len cap : Nat} {rows : List (List AV)} (h : rows.length = len) : frz n sz rows (.s n sz 0 len cap) = .l sz rows := by
  simp [frz, ← h]
theorem frz_p {n sz j : Nat} {row : List AV} : frz n sz [row] (.p n sz 0 j) = .q row j := by simp [frz]

theorem OwnL.weak {H H0 : Heap} {x r r' : AV} {ty : TypeId} {sz : Nat} {rows : List (List AV)} (h : OwnL H x ty sz rows H0) (hr : ∀ F F' : Mem, F.le F' → Imp F F' x (.l sz rows) → x.one = true → Imp F F' r r') : Weak r H r' H0 := by
  rcases h with ⟨⟨ad, rfl⟩, rfl, rfl⟩ | ⟨n, cap, rfl, h1, rfl⟩
  · exact fun F w v hv hs => ⟨F, .refl F, hr F F (.refl F) (Imp.nil_l sz) rfl v hv, hs, fun _ _ _ h => .inl h, fun n k h => by rw [h]; simp⟩
  · refine Weak.hold n h1 fun F F' hF hy => hr F F' hF ?_ rfl
    have := hy (.s n sz 0 rows.length cap)
    rwa [frz_s rfl] at this

theorem Weak.box {r r' : AV} {H : Heap} (n : Nat) {ty : TypeId} {sz cap : Nat} {row : List AV} (hn : H n = some (.r ty sz cap [row]))
    (hr : ∀ F F' : Mem, F.le F' → (∀ j, Imp F F' (.p n sz 0 j) (.q row j)) → Imp F F' r r') : Weak r H r' (del H n) :=
  Weak.hold n hn fun F F' hF hy => hr F F' hF fun j => by have := hy (.p n sz 0 j); rwa [frz_p] at this

theorem OwnL.turn {H H0 : Heap} {x : AV} {ty : TypeId} {sz : Nat} {rows : List (List AV)} (h : OwnL H x ty sz rows H0) {m : Nat} {k0 : Blk} (hm : H0 m = some k0) (k : Blk) : OwnL (upd H m k) x ty sz rows (upd H0 m k) := by
  rcases h with ⟨e1, e2, rfl⟩ | ⟨n, cap, e1, e2, rfl⟩
  · exact .inl ⟨e1, e2, rfl⟩
  · have hne : n ≠ m := by rintro rfl; rw [del_same] at hm; cases hm
    exact .inr ⟨n, cap, e1, by rw [upd_ne hne]; exact e2, (del_upd_ne hne.symm).symm⟩
theorem OwnL.new {H H0 : Heap} {x : AV} {ty : TypeId} {sz : Nat} {rows : List (List AV)} (h : OwnL H x ty sz rows H0) {m : Nat} (hm : H m = none) (k : Blk) : OwnL (upd H m k) x ty sz rows (upd H0 m k) := by
  rcases h with ⟨e1, e2, rfl⟩ | ⟨n, cap, e1, e2, rfl⟩
  · exact .inl ⟨e1, e2, rfl⟩
  · have hne : n ≠ m := by rintro rfl; rw [e2] at hm; cases hm
    exact .inr ⟨n, cap, e1, by rw [upd_ne hne]; exact e2, (del_upd_ne hne.symm).symm⟩
theorem OwnL.none {H H0 : Heap} {x : AV} {ty : TypeId} {sz : Nat} {rows : List (List AV)} (h : OwnL H x ty sz rows H0) {m : Nat} (hm : H m = none) : H0 m = none := by
  rcases h with ⟨_, _, rfl⟩ | ⟨n, cap, _, _, rfl⟩
  · exact hm
  · unfold del; split <;> first | rfl | exact hm
theorem OwnL.len {H H0 : Heap} {x : AV} {ty : TypeId} {sz : Nat} {rows : List (List AV)} (h : OwnL H x ty sz rows H0) : lenV x = some rows.length := by
  rcases h with ⟨⟨ad, rfl⟩, rfl, _⟩ | ⟨n, cap, rfl, _, _⟩ <;> rfl
theorem OwnL.cs {H H0 : Heap} {x : AV} {ty : TypeId} {sz : Nat} {rows : List (List AV)} (h : OwnL H x ty sz rows H0) : x.cs = some [x] := by
  rcases h with ⟨⟨ad, rfl⟩, rfl, _⟩ | ⟨n, cap, rfl, _, _⟩ <;> rfl
theorem OwnL.one {H H0 : Heap} {x : AV} {ty : TypeId} {sz : Nat} {rows : List (List AV)} (h : OwnL H x ty sz rows H0) : x.one = true := by
  rcases h with ⟨⟨ad, rfl⟩, rfl, _⟩ | ⟨n, cap, rfl, _, _⟩ <;> rfl
theorem OwnL.le {H H0 : Heap} {x : AV} {ty : TypeId} {sz : Nat} {rows : List (List AV)} (h : OwnL H x ty sz rows H0) : Heap.le H0 H := fun _ _ hm => h.get hm

section
variable {P : Program} {o : Oper} {a : Nat → AV} {H : Heap} {K : AV → Heap → Prop}
theorem does_append1 {x y : Operand} {t ty : TypeId} {sz by' : Nat} {zs : List Value} {rows : List (List AV)} {row : List AV} {H0 B : Heap} {m cap cap0 : Nat} {tm : TypeId} (hown : OwnL B (ev a x) ty sz rows H0) (ho : o.op = .call { callee := .builtin .append, args := #[x, y], argTypes := #[t, t] })
    (hy : ev a y = .s m sz 0 1 cap) (hH : H = upd B m (.r tm sz cap0 [row])) (hm : B m = none) (hE : tE P t = some ty) (hS : tS P ty = some sz) (hB : tB P ty = some by') (hz : tZ P ty = some zs) (hzl : zs.length = sz) (hp : 0 < sz)
    (h63 : rows.length + 1 ≤ maxLen) (hbytes : (rows.length + 1) * by' ≤ 140737488355328) (h : ∀ x' H', OwnL H' x' ty sz (rows ++ [row]) H0 → K x' H') : Does P o a H K := by
  subst hH
  have h0 := hown.none hm
  refine does_append_s ho hE hS hB hz hzl hp (hown.new hm _) hy (upd_same _ _ _) (by simp) h63 hbytes fun x' H' h' => ?_
  rw [del_upd_same h0] at h'
  simp at h'
  exact h x' H' h'
theorem does_appendL {x y : Operand} {t ty : TypeId} {sz by' : Nat} {zs : List Value} {rows news : List (List AV)} {H0 : Heap} (hown : OwnL H (ev a x) ty sz rows H0) (ho : o.op = .call { callee := .builtin .append, args := #[x, y], argTypes := #[t, t] })
    (hy : ev a y = .l sz news) (hE : tE P t = some ty) (hS : tS P ty = some sz) (hB : tB P ty = some by') (hz : tZ P ty = some zs) (hzl : zs.length = sz) (hp : 0 < sz)
    (h63 : rows.length + news.length ≤ maxLen) (hbytes : (rows.length + news.length) * by' ≤ 140737488355328) (h : ∀ x' H', OwnL H' x' ty sz (rows ++ news) H0 → K x' H') : Does P o a H K :=
  does_append_l ho hE hS hB hz hzl hp hown hy h63 hbytes h
end
theorem filt_pos {α β : Type} {l : List α} {p : α → Bool} {f : α → β} {k : Nat} {x : α} (hx : l[k]? = some x) (hp : p x = true) :
    ∃ h : ((l.take k).filter p).length < ((l.filter p).map f).length, ((l.filter p).map f)[((l.take k).filter p).length] = f x ∧ ((l.take (k + 1)).filter p).length = ((l.take k).filter p).length + 1 := by
  obtain ⟨hk, rfl⟩ := List.getElem?_eq_some_iff.1 hx
  have e1 : l.take (k + 1) = l.take k ++ [l[k]] := List.take_succ_eq_append_getElem hk
  have e2 : l = l.take k ++ l[k] :: l.drop (k + 1) := by rw [List.getElem_cons_drop, List.take_append_drop]
  have e3 : (l.filter p) = (l.take k).filter p ++ l[k] :: (l.drop (k + 1)).filter p := by
    conv => lhs; rw [e2]
    rw [List.filter_append, List.filter_cons, if_pos hp]
  have h : ((l.take k).filter p).length < ((l.filter p).map f).length := by rw [e3]; simp
  refine ⟨h, ?_, ?_⟩
  · rw [List.getElem_map]
    congr 1
    have : (l.filter p)[((l.take k).filter p).length]? = some l[k] := by rw [e3, List.getElem?_append_right (Nat.le_refl _)]; simp
    exact (List.getElem?_eq_some_iff.1 this).2
  · rw [e1, List.filter_append, List.length_append]; simp [hp]
theorem filt_neg {α : Type} {l : List α} {p : α → Bool} {k : Nat} {x : α} (hx : l[k]? = some x) (hp : p x = false) : ((l.take (k + 1)).filter p).length = ((l.take k).filter p).length := by
  obtain ⟨hk, rfl⟩ := List.getElem?_eq_some_iff.1 hx
  rw [List.take_succ_eq_append_getElem hk, List.filter_append, List.length_append]; simp [hp]
theorem filt_end {α β : Type} {l : List α} {p : α → Bool} {f : α → β} {n : Nat} (hn : l.length ≤ n) : ((l.take n).filter p).length = ((l.filter p).map f).length := by
  rw [List.take_of_length_le hn]; simp
def cnt {α : Type} (p : α → Bool) (l : List α) (k : Nat) : Nat := ((l.take k).filter p).length
theorem cnt_neg {α : Type} {l : List α} {p : α → Bool} {k : Nat} {x : α} (hx : l[k]? = some x) (hp : p x = false) : cnt p l (k + 1) = cnt p l k := filt_neg hx hp
theorem cnt_end {α β : Type} {l : List α} {p : α → Bool} (f : α → β) {n : Nat} (hn : l.length ≤ n) : cnt p l n = ((l.filter p).map f).length := filt_end hn
theorem cnt_yield {P : Program} {α : Type} {l : List α} {p : α → Bool} {f : α → List AV} {lp : Nat} {J : Nat → Heap → Prop} {Jx : Heap → Prop}
    (hr : ∀ k (h : k < ((l.filter p).map f).length) B, J k B → AYield P lp ((l.filter p).map f)[k] B (fun b B' => (b = true ∧ J (k + 1) B') ∨ (b = false ∧ Jx B')))
    {k : Nat} {x : α} {B : Heap} (hx : l[k]? = some x) (hp : p x = true) (hJ : J (cnt p l k) B) : AYield P lp (f x) B (fun b B' => (b = true ∧ J (cnt p l (k + 1)) B') ∨ (b = false ∧ Jx B')) := by
  obtain ⟨h1, h2, h3⟩ := filt_pos (f := f) hx hp
  have := hr _ h1 B hJ
  rw [h2] at this
  unfold cnt
  rw [h3]
  exact this
attribute [push_cast] List.take_of_length_le List.take_length Int.lt_irrefl Int.natCast_nonneg Int.toNat_natCast List.length_map List.getElem?_map
end Go.Proofs.Ytlbdpnlmdcajbaa

/- More on iterators. -/
namespace Go.Proofs.Ytlbdpnlmdcajbaa
open Go.RowKit
set_option linter.all false
section
variable {P : Program} {o : Oper} {a : Nat → AV} {H : Heap} {K : AV → Heap → Prop}
theorem does_app1 {x y : Operand} {t ty : TypeId} {sz by' : Nat} {zs : List Value} {rows : List (List AV)} {row : List AV} {H0 B : Heap} {m cap cap0 : Nat} {tm : TypeId} {x0 : AV} (ho : o.op = .call { callee := .builtin .append, args := #[x, y], argTypes := #[t, t] })
    (hx : ev a x = x0) (hy : ev a y = .s m sz 0 1 cap) (hH : H = upd B m (.r tm sz cap0 [row])) (hown : OwnL B x0 ty sz rows H0) (hm : B m = none) (hE : tE P t = some ty) (hS : tS P ty = some sz) (hB : tB P ty = some by') (hz : tZ P ty = some zs) (hzl : zs.length = sz) (hp : 0 < sz)
    (h63 : rows.length + 1 ≤ maxLen) (hbytes : (rows.length + 1) * by' ≤ 140737488355328) (h : ∀ x' H', OwnL H' x' ty sz (rows ++ [row]) H0 → K x' H') : Does P o a H K := by
  subst hx
  exact does_append1 hown ho hy hH hm hE hS hB hz hzl hp h63 hbytes h
theorem does_appL {x y : Operand} {t ty : TypeId} {sz by' : Nat} {zs : List Value} {rows news : List (List AV)} {H0 : Heap} {x0 : AV} (ho : o.op = .call { callee := .builtin .append, args := #[x, y], argTypes := #[t, t] })
    (hx : ev a x = x0) (hy : ev a y = .l sz news) (hown : OwnL H x0 ty sz rows H0) (hE : tE P t = some ty) (hS : tS P ty = some sz) (hB : tB P ty = some by') (hz : tZ P ty = some zs) (hzl : zs.length = sz) (hp : 0 < sz)
    (h63 : rows.length + news.length ≤ maxLen) (hbytes : (rows.length + news.length) * by' ≤ 140737488355328) (h : ∀ x' H', OwnL H' x' ty sz (rows ++ news) H0 → K x' H') : Does P o a H K := by
  subst hx
  exact does_appendL hown ho hy hE hS hB hz hzl hp h63 hbytes h
end
theorem take_snoc {α : Type} {l : List α} {k : Nat} {x : α} (hx : l[k]? = some x) : l.take (k + 1) = l.take k ++ [x] := by
  obtain ⟨hk, rfl⟩ := List.getElem?_eq_some_iff.1 hx
  exact List.take_succ_eq_append_getElem hk
theorem take_snoc_map {α β : Type} {l : List α} {k : Nat} {x : α} (f : α → β) (hx : l[k]? = some x) : (l.take (k + 1)).map f = (l.take k).map f ++ [f x] := by
  rw [take_snoc hx]; simp
theorem Weak.imp {r r' : AV} {H H' : Heap} (hr : ∀ F : Mem, Imp F F r r') (h : Heap.le H' H) : Weak r H r' H' := fun F w v hv hs =>
  ⟨F, .refl F, hr F v hv, hs.less h, fun _ _ _ h => .inl h, fun n k hk => by rw [h n k hk]; simp⟩
def ci (n : Int) : AV := .c (.int .i64 n)
def intsOf (k : IntKind) : List Value → Option (List Int)
  | [] => some []
  | .int k' n :: l => if k' = k then (intsOf k l).map (n :: ·) else none
  | _ => none
theorem intsOf_nil (k : IntKind) : intsOf k [] = some [] := rfl
theorem intsOf_cons (k : IntKind) (n : Int) (l : List Value) : intsOf k (.int k n :: l) = (intsOf k l).map (n :: ·) := by simp [intsOf]
theorem intsOf_map (k : IntKind) (a : List Int) : intsOf k (a.map fun n => Value.int k n) = some a := by
  induction a with
  | nil => rfl
  | cons x a ih => rw [List.map_cons, intsOf_cons, ih]; rfl
theorem valsOf_ci (a : List Int) : valsOf (a.map ci) = some (a.map fun n => Value.int .i64 n) := by
  induction a with
  | nil => rfl
  | cons x a ih =>
    show (valsOf (a.map ci)).map _ = _
    rw [ih]; rfl
attribute [push_cast] ci intsOf_nil intsOf_cons intsOf_map valsOf_ci
end Go.Proofs.Ytlbdpnlmdcajbaa

/- Ranges over functions, by what they tell. -/
namespace Go.Proofs.Ytlbdpnlmdcajbaa
open Go.RowKit
set_option linter.all false

section
variable {P : Program} {N : Nat} {a : Nat → AV} {H : Heap} {Q : Post}
end
attribute [push_cast] List.drop_eq_nil_of_le List.length_set Option.isSome_some Option.isSome_none
theorem frzL_ci (n sz : Nat) (rows : List (List AV)) (l : List Int) : frzL n sz rows (l.map ci) = l.map ci := frzL_none (fun _ => by simp [ci, frz]) l
attribute [push_cast] frzL_ci
theorem Apart.right {A B : Heap} (h : Apart A B) {m : Nat} {k : Blk} (hA : A m = some k) : B m = none := by
  rcases h m with g | g
  · rw [hA] at g; cases g
  · exact g
end Go.Proofs.Ytlbdpnlmdcajbaa

/- What is written no more is held for a row from here on. -/
namespace Go.Proofs.Ytlbdpnlmdcajbaa
open Go.RowKit
set_option linter.all false

def Held (n sz : Nat) (rows : List (List AV)) (H H' : Heap) : Prop := ∀ m k', H' m = some k' → m ≠ n ∧ ∃ k, H m = some k ∧ (k' = k ∨ k' = frzB n sz rows k)
theorem Held.base {n sz : Nat} {rows : List (List AV)} {H : Heap} (h : H n = none) : Held n sz rows H H := fun m k hk => ⟨(by rintro rfl; rw [h] at hk; cases hk), k, hk, .inl rfl⟩
theorem Held.keep {n sz m : Nat} {rows : List (List AV)} {H H' : Heap} {b : Blk} (h : Held n sz rows H H') (hm : m ≠ n) : Held n sz rows (upd H m b) (upd H' m b) := fun q k hk => by
  by_cases e : q = m
  · subst e; rw [upd_same] at hk; cases hk; exact ⟨hm, b, upd_same _ _ _, .inl rfl⟩
  · rw [upd_ne e] at hk ⊢; exact h q k hk
theorem Held.turn {n sz m : Nat} {rows : List (List AV)} {H H' : Heap} {ty : TypeId} {sz' cap : Nat} {rs rs' : List (List AV)} (h : Held n sz rows H H') (hm : m ≠ n) (hr : frzR n sz rows rs = rs') : Held n sz rows (upd H m (.r ty sz' cap rs)) (upd H' m (.r ty sz' cap rs')) := fun q k hk => by
  by_cases e : q = m
  · subst e; rw [upd_same] at hk; cases hk; exact ⟨hm, _, upd_same _ _ _, .inr (by rw [← hr]; rfl)⟩
  · rw [upd_ne e] at hk ⊢; exact h q k hk
theorem Held.own {n sz : Nat} {rows : List (List AV)} {H H' : Heap} {b : Blk} (h : Held n sz rows H H') : Held n sz rows (upd H n b) H' := fun q k hk => by
  obtain ⟨h1, x, h2, h3⟩ := h q k hk
  exact ⟨h1, x, by rw [upd_ne h1]; exact h2, h3⟩
theorem Held.drop {n sz m : Nat} {rows : List (List AV)} {H H' : Heap} {b : Blk} (h : Held n sz rows H H') (hm : H m = none) : Held n sz rows (upd H m b) H' := fun q k hk => by
  obtain ⟨h1, x, h2, h3⟩ := h q k hk
  exact ⟨h1, x, by rw [upd_ne (by rintro rfl; rw [hm] at h2; cases h2)]; exact h2, h3⟩

theorem Sat.hold {F : Mem} {H H' : Heap} {w : World} (hs : Sat F H w) {n : Nat} {ty : TypeId} {sz cap : Nat} {rows : List (List AV)} (hn : H n = some (.r ty sz cap rows)) (hH : Held n sz rows H H') :
    ∃ F' : Mem, F.le F' ∧ (∀ y v, V F y v → V F' (frz n sz rows y) v) ∧ Sat F' H' w ∧ Ext F H w F' H' w := by
  obtain ⟨C, c1, c2, c3, c4, c5, c6⟩ := hs.blk n _ hn
  have hle : rows.length * sz ≤ C.size := by rw [c2]; exact Nat.mul_le_mul_right _ c3
  obtain ⟨F', hF'⟩ : ∃ F' : Mem, F' = fun b o => if b = n then (if o < rows.length * sz then C[o]? else none) else F b o := ⟨_, rfl⟩
  have hFn : ∀ o, F n o = none := fun o => by
    cases h : F n o with
    | none => rfl
    | some u => exact (hs.off n o u _ h hn).elim
  have hFF : F.le F' := fun b o u hu => by
    rw [hF']
    by_cases e : b = n
    · subst e; rw [hFn] at hu; cases hu
    · simp [e, hu]
  have hrr : ∀ i j y, at2 rows i j = some y → y.one = true ∧ V F' y (C.getD (i * sz + j) undef) ∧ F' n (i * sz + j) = some (C.getD (i * sz + j) undef) := fun i j y hy => by
    refine ⟨c6.one i j y hy, (c6.val i j y hy).mono hFF, ?_⟩
    obtain ⟨b1, b2⟩ := c6.at2 hy
    have hlt := flat_lt b1 b2
    have : i * sz + j < C.size := by omega
    rw [hF']; simp [hlt, this, Array.getD]
  have hfr : ∀ y v, V F y v → V F' (frz n sz rows y) v := fun y v hv => hv.frz hFF c6.len hrr
  refine ⟨F', hFF, hfr, ⟨fun b o u hu => ?_, fun b o u k hu hk => ?_, fun m k hk => ?_⟩, ⟨rfl, rfl, rfl, Nat.le_refl _, fun _ _ _ => rfl, fun m k hk => ?_, hFF, fun b o u hu => ?_⟩⟩
  · rw [hF'] at hu
    by_cases e : b = n
    · subst e
      simp only [if_true] at hu
      split at hu
      · rw [cell_of_row w b _ C ty (0, 0) c1]; exact hu
      · cases hu
    · simp only [e, if_false] at hu; exact hs.mem b o u hu
  · rw [hF'] at hu
    obtain ⟨h1, x, h2, _⟩ := hH b k hk
    simp only [h1, if_false] at hu
    exact hs.off b o u x hu h2
  · obtain ⟨h1, x, h2, h3⟩ := hH m k hk
    have hb := hs.blk m x h2
    rcases h3 with rfl | rfl
    · exact hb.mono hFF
    · cases x with
      | m o M => exact ⟨hb.1, hb.2.trans hFF⟩
      | r ty' sz' cap' rs =>
        obtain ⟨C', d1, d2, d3, d4, d5, d6⟩ := hb
        refine ⟨C', d1, d2, by rw [len_frzR]; exact d3, d4, d5, fun e he => ?_, fun i j y hy => ?_, fun i j y hy => ?_⟩
        · rw [frzR_map] at he
          obtain ⟨e', he', rfl⟩ := List.mem_map.1 he
          rw [len_frzL]; exact d6.len e' he'
        · obtain ⟨z, hz, rfl⟩ := at2_frzR hy; rw [frz_one]; exact d6.one i j z hz
        · obtain ⟨z, hz, rfl⟩ := at2_frzR hy; exact hfr _ _ (d6.val i j z hz)
  · obtain ⟨h1, x, h2, _⟩ := hH m k hk
    left; rw [h2]; simp
  · rw [hF'] at hu
    by_cases e : b = n
    · right; left; rw [e, hn]; simp
    · simp only [e, if_false] at hu; exact .inl hu

section
variable {P : Program} {N : Nat} {a : Nat → AV} {H : Heap} {Q : Post}
end
end Go.Proofs.Ytlbdpnlmdcajbaa

/- A slice of its own is held for a row from here on. -/
namespace Go.Proofs.Ytlbdpnlmdcajbaa
open Go.RowKit
set_option linter.all false

def SlO (x y : AV) (a : Nat → AV) : List (Nat × AV) → Prop
  | [] => True
  | (s, v) :: L => (a s = v ∨ (a s = x ∧ v = y)) ∧ SlO x y a L
theorem SlO.get {x y : AV} {a : Nat → AV} : ∀ {L : List (Nat × AV)}, SlO x y a L → ∀ t, frm L t = a t ∨ (a t = x ∧ frm L t = y) ∨ frm L t = .x
  | [], _, t => .inr (.inr rfl)
  | (s, v) :: L, h, t => by
    rw [frm_cons]
    split
    · rename_i e; subst e
      rcases h.1 with h1 | h1
      · exact .inl h1.symm
      · exact .inr (.inl h1)
    · exact SlO.get h.2 t

section
variable {P : Program} {N : Nat} {a : Nat → AV} {H : Heap} {Q : Post}
theorem AW_weaken {c : Code} (L : List (Nat × AV)) (ha : ∀ F : Mem, ∀ t, Imp F F (a t) (frm L t)) (h : AW P N c (frm L) H Q) : AW P N c a H Q := fun Fe n hF B F w act hr =>
  h Fe n hF B F w act ⟨hr.dfr, hr.low, hr.rnd, hr.size, fun t => ha F t _ (hr.vf t), hr.sat⟩
theorem AW_own {c : Code} {x : AV} {ty : TypeId} {sz : Nat} {rows : List (List AV)} {H0 H' : Heap} (hown : OwnL H x ty sz rows H0) (L : List (Nat × AV)) (ha : SlO x (.l sz rows) a L) (hl : Heap.le H' H0)
    (h : AW P N c (frm L) H' Q) : AW P N c a H Q := by
  rcases hown with ⟨⟨ad, rfl⟩, rfl, rfl⟩ | ⟨n, cap, rfl, h1, rfl⟩
  · refine AW_less hl (AW_weaken L (fun F t => ?_) h)
    rcases ha.get t with e | ⟨e1, e2⟩ | e
    · rw [e]; exact Imp.refl (Mem.le.refl F) _
    · rw [e1, e2]; exact Imp.nil_l sz
    · rw [e]; exact fun v _ => .x v
  · intro Fe k hF lo F w act hr
    have hH : Held n sz rows H (del H n) := fun m k' hk => by
      by_cases e : m = n
      · rw [e, del_same] at hk; cases hk
      · rw [del_ne e] at hk; exact ⟨e, k', hk, .inl rfl⟩
    obtain ⟨F', g1, g2, g3, g4⟩ := hr.sat.hold h1 hH
    have hnone : ∀ m, H m = none → del H n m = none := fun m hm => by unfold del; split <;> simp_all
    obtain ⟨⟨Ds, d1, d2, d3⟩, z2, z3, z4, z5, z6⟩ := hr
    have hr' : Rel F' ⟨lo, Fe.round⟩ N (frm L) (del H n) act w := ⟨⟨Ds, d1, d2, fun D hD => ⟨(d3 D hD).1, hnone D (d3 D hD).2.1, (d3 D hD).2.2⟩⟩, z2, fun l hl => ⟨(z3 l hl).1, hnone l (z3 l hl).2⟩, z4, fun t => by
      rcases ha.get t with e | ⟨e1, e2⟩ | e
      · rw [e]; exact (z5 t).mono g1
      · rw [e2]
        have := g2 _ _ (z5 t)
        rw [e1, frz_s rfl] at this
        exact this
      · rw [e]; exact .x _, g3⟩
    refine wpIn_mono ((AW_less hl h) Fe k hF lo F' w act hr') ?_
    rintro e act' w' ⟨F2, a2, H2, q1, q2, q3⟩
    exact ⟨F2, a2, H2, q1, g4.trans q2, q3⟩
end
attribute [push_cast] bne_self_eq_false beq_self_eq_true Bool.false_bne Bool.true_bne Bool.bne_false Bool.bne_true Bool.true_beq Bool.false_beq
end Go.Proofs.Ytlbdpnlmdcajbaa

/- What arguments are, by their types. -/
namespace Go.Proofs.Ytlbdpnlmdcajbaa
open Go.RowKit
set_option linter.all false

section
variable {P : Program} {n : Nat} {t e : TypeId} {row : List AV}
theorem shp_int {k : IntKind} (hu : P.underlying t = some (.int k)) (h : Shp P (n + 1) t row) : ∃ x, row = [.c (.int k x)] ∧ (Lit.int k x).wf = true := by
  unfold Shp at h; rw [hu] at h; exact h
theorem shp_bool (hu : P.underlying t = some .bool) (h : Shp P (n + 1) t row) : ∃ b : Bool, row = [.c (.bool b)] := by
  unfold Shp at h; rw [hu] at h; exact h
theorem shp_slice {α : Type} {f : α → List AV} {good : α → Prop} {sz : Nat} (hu : P.underlying t = some (.slice e)) (hc : P.cellsOf e = sz) (hR : ∀ r, Shp P n e r → ∃ x, r = f x ∧ good x) (h : Shp P (n + 1) t row) :
    ∃ l : List α, row = [.l sz (l.map f)] ∧ l.length ≤ maxLen ∧ ∀ x ∈ l, good x := by
  unfold Shp at h; rw [hu] at h
  obtain ⟨rows, rfl, h1, h2⟩ := h
  obtain ⟨l, rfl, hl⟩ := rows_of hR rows h2
  exact ⟨l, by rw [hc], by simpa using h1, hl⟩
theorem shp_struct {fs : Array Field} (ts : List TypeId) (hu : P.underlying t = some (.struct fs)) (ht : fs.toList.map (·.type) = ts) (h : Shp P (n + 1) t row) : ShpL (Shp P n) ts row := by
  unfold Shp at h; rw [hu] at h; rw [← ht]; exact h
theorem shpL_cons {S : TypeId → List AV → Prop} {ts : List TypeId} (h : ShpL S (t :: ts) row) : ∃ p rest, row = p ++ rest ∧ S t p ∧ ShpL S ts rest := h
theorem shpL_nil {S : TypeId → List AV → Prop} (h : ShpL S [] row) : row = [] := h
end
end Go.Proofs.Ytlbdpnlmdcajbaa

/- A cut without a choice. -/
namespace Go.Proofs.Ytlbdpnlmdcajbaa
open Go.RowKit
set_option linter.all false

theorem AW_seqC {P : Program} {N : Nat} {a : Nat → AV} {H : Heap} {Q : Post} {x y : Code} (fr : List (Nat × AV)) (hp : Heap)
    (hx : AW P N x a H (thenA (fun a' H' => Nxt True (Sl a' fr) (Heap.le hp H')) Q)) (hy : AW P N y (frm fr) hp Q) : AW P N (.seq x y) a H Q :=
  AW_seqS (σ := Unit) (fun _ => True) (fun _ => fr) (fun _ => hp) (hx.mono fun e a' H' h => (match e, h with
      | .normal, h => ⟨(), trivial, Nxt.s h, Nxt.h h⟩
      | .ret, h => h
      | .exit _, h => h
      | .goto _, h => h
      | .outgrown, h => h
      | .panic _, h => h)) (fun _ _ => hy)
theorem OwnL.dele {H H0 : Heap} {x : AV} {ty : TypeId} {sz : Nat} {rows : List (List AV)} (h : OwnL H x ty sz rows H0) {m : Nat} {k : Blk} (hm : H0 m = some k) : OwnL (del H m) x ty sz rows (del H0 m) := by
  rcases h with ⟨e1, e2, rfl⟩ | ⟨n, cap, e1, e2, rfl⟩
  · exact .inl ⟨e1, e2, rfl⟩
  · have hne : n ≠ m := by rintro rfl; rw [del_same] at hm; cases hm
    refine .inr ⟨n, cap, e1, by rw [del_ne hne]; exact e2, ?_⟩
    funext q; simp only [del]; split <;> split <;> rfl
end Go.Proofs.Ytlbdpnlmdcajbaa

/- A function that only reckons may be called with what the caller owns. -/
namespace Go.Proofs.Ytlbdpnlmdcajbaa
open Go.RowKit
set_option linter.all false

def Lent (H : Heap) (x y : AV) : Prop := ∀ (F : Mem) (w : World) (v : Value), Sat F H w → V F x v → V (F0 w) y v
def Lents (H : Heap) : List AV → List AV → Prop
  | [], [] => True
  | x :: xs, y :: ys => Lent H x y ∧ Lents H xs ys
  | _, _ => False
theorem Sat.all {F : Mem} {H : Heap} {w : World} (h : Sat F H w) : F.le (F0 w) := fun b o v hb => h.mem b o v hb
theorem Lent.refl (H : Heap) (x : AV) : Lent H x x := fun F w v hs hv => hv.mono hs.all
theorem Lent.s {H : Heap} {n sz cap cap0 : Nat} {ty : TypeId} {rows : List (List AV)} (hn : H n = some (.r ty sz cap0 rows)) : Lent H (.s n sz 0 rows.length cap) (.l sz rows) := fun F w v hs hv => by
  obtain ⟨C, c1, c2, c3, c4, c5, c6⟩ := hs.blk n _ hn
  have hle : rows.length * sz ≤ C.size := by rw [c2]; exact Nat.mul_le_mul_right _ c3
  have hrr : ∀ i j y, at2 rows i j = some y → y.one = true ∧ V (F0 w) y (C.getD (i * sz + j) undef) ∧ F0 w n (i * sz + j) = some (C.getD (i * sz + j) undef) := fun i j y hy => by
    refine ⟨c6.one i j y hy, (c6.val i j y hy).mono hs.all, ?_⟩
    obtain ⟨b1, b2⟩ := c6.at2 hy
    have hlt := flat_lt b1 b2
    have : i * sz + j < C.size := by omega
    unfold F0
    rw [cell_of_row w n _ C ty (0, 0) c1]
    simp [Array.getD, this]
  have := hv.frz hs.all c6.len hrr
  rwa [frz_s rfl] at this
theorem OwnL.lent {H H0 : Heap} {x : AV} {ty : TypeId} {sz : Nat} {rows : List (List AV)} (h : OwnL H x ty sz rows H0) : Lent H x (.l sz rows) := by
  rcases h with ⟨⟨ad, rfl⟩, rfl, rfl⟩ | ⟨n, cap, rfl, h1, rfl⟩
  · exact fun F w v hs hv => Imp.nil_l (F := F0 w) sz v (hv.mono hs.all)
  · exact Lent.s h1
theorem Lents.ok {H : Heap} {F : Mem} {w : World} (hs : Sat F H w) : ∀ {xs ys : List AV} {cs : List Value}, Lents H xs ys → Vs F xs cs → Vs (F0 w) ys cs
  | [], [], cs, _, h => by rw [h.nil_inv]; exact Vs.nil _
  | x :: xs, y :: ys, cs, hl, h => by
    obtain ⟨v, vs, rfl, h1, h2⟩ := h.cons_inv
    exact Vs.cons (hl.1 F w v hs h1) (Lents.ok hs hl.2 h2)
  | [], _ :: _, _, hl, _ => hl.elim
  | _ :: _, [], _, hl, _ => hl.elim
def Flat (r : AV) : Prop := ∀ (F F' : Mem) (v : Value), V F r v → V F' r v
theorem Flat.c (v : Value) : Flat (.c v) := fun F F' u h => by rw [h.c_inv]; exact .c v
theorem ACall.lend {P : Program} {f : FuncId} {args args' : List AV} {H : Heap} {r : AV} (hr : Flat r) (hl : Lents H args args') (h : ACall P f args' (fun _ => none) fun r' _ => r' = r) : ACall P f args H fun r' H' => r' = r ∧ H' = H := by
  refine ⟨h.1, fun F w cs hv hs => (h.2 (F0 w) w cs (Lents.ok hs hl hv) ⟨fun b o v hb => hb, fun b o v k _ hk => (by cases hk), fun n k hk => (by cases hk)⟩).mono ?_⟩
  rintro e w' ⟨v, F', H', r', rfl, h1, h2, h3, rfl⟩
  refine ⟨v, F, H, r', rfl, hr _ _ _ h1, ?_, ?_, rfl, rfl⟩
  · refine ⟨fun b o u hb => ?_, hs.off, fun n k hk => (hs.blk n k hk).heap (h3.block n (hs.lt hk) rfl)⟩
    have := hs.mem b o u hb
    rw [← this]
    exact World.cell?_of_block (h3.block b (cell_lt this) rfl)
  · exact ⟨h3.os, h3.tape, h3.output, h3.size, fun n hn _ => h3.block n hn rfl, fun n k hk => .inl (by rw [hk]; simp), Mem.le.refl F, fun b o u hu => .inl hu⟩
end Go.Proofs.Ytlbdpnlmdcajbaa

/- Slices against nil; a slice that grows in its own row; clear; arguments that are held for less. -/
namespace Go.Proofs.Ytlbdpnlmdcajbaa
open Go.RowKit
set_option linter.all false

section
variable {P : Program} {o : Oper} {a : Nat → AV} {H : Heap} {K : AV → Heap → Prop}

theorem eqnil_run {t et : TypeId} (hE : tE P t = some et) (ad : Option Addr) (len cap : Nat) (w : World) : (Op.equal t (.slice ad len cap) (.slice none 0 0)).run P w = .ok ad.isNone w := by
  have hu : ∀ w : World, (underlying t).run P w = .ok (.slice et) w := fun w => run_underlying (tE_eq hE) w
  rw [show Op.equal t (.slice ad len cap) (.slice none 0 0) = Op.equalIn (9999 + 1) t (.slice ad len cap) (.slice none 0 0) from rfl]
  unfold Op.equalIn
  cases ad <;> simp [Sem.run_bind, hu]
theorem does_isnil_l {t t' et : TypeId} {x y : Operand} {sz : Nat} {rows : List (List AV)} (ho : o.op = .binOp .eql t x y t') (hx : ev a x = .l sz rows) (hy : ev a y = .c (.slice none 0 0)) (hE : tE P t = some et)
    (h : ∀ b : Bool, (b = true → rows = []) → K (.c (.bool b)) H) : Does P o a H K :=
  Does.ran (fun c => by simp [ho]) fun F w act hv hs => by
    have h1 := hv.ev x
    rw [hx] at h1
    obtain ⟨ad, cap, u, e1, h2, h3, h4, -⟩ := h1.l_inv
    refine ⟨.bool ad.isNone, w, F, H, .c (.bool ad.isNone), ?_, .c _, hs, Ext.refl _ _ _, h _ (fun hb => ?_)⟩
    · have hg : eqGuard .eql t x y (.slice ad rows.length cap) (.slice none 0 0) = pure () := by rfl
      rw [show execOp act.eval o = (do pure (.value (← (do eqGuard .eql t x y (.slice ad rows.length cap) (.slice none 0 0); binOp .eql t (.slice ad rows.length cap) (.slice none 0 0))))) by simp [execOp, ho, e1, hv.c hy], hg]
      rw [show binOp .eql t (.slice ad rows.length cap) (.slice none 0 0) = (do pure (.bool (← Op.equal t (.slice ad rows.length cap) (.slice none 0 0)))) from rfl]
      simp [Sem.run_bind, eqnil_run hE]
    · have : ad = none := by simpa using hb
      have := h4 this
      exact List.eq_nil_of_length_eq_zero (by omega)
theorem RowOk.take {F : Mem} {C : Array Value} {sz : Nat} {rows : List (List AV)} (h : RowOk F C sz rows) (i : Nat) : RowOk F C sz (rows.take i) :=
  ⟨fun e he => h.len e (List.mem_of_mem_take he), fun i' j y hy => h.one i' j y (at2_take hy).1, fun i' j y hy => h.val i' j y (at2_take hy).1⟩

theorem does_appself {x y : Operand} {t ty : TypeId} {n sz i j m cap cap2 : Nat} {rows : List (List AV)} (ho : o.op = .call { callee := .builtin .append, args := #[x, y], argTypes := #[t, t] })
    (hx : ev a x = .s n sz 0 i cap) (hy : ev a y = .s n sz j m cap2) (hH : H n = some (.r ty sz cap rows)) (hE : tE P t = some ty) (hS : tS P ty = some sz) (hi : i ≤ rows.length) (hj : j + m ≤ rows.length) (hr : i + m ≤ cap)
    (h : K (.s n sz 0 (i + m) cap) (upd H n (.r ty sz cap (rows.take i ++ (rows.drop j).take m)))) : Does P o a H K :=
  Does.ran (fun c => by simp [ho]) fun F w act hv hs => by
    have hvx := hv.ev x
    rw [hx] at hvx
    have hvy := hv.ev y
    rw [hy] at hvy
    have hsrc := hs.src hH hj hvy
    obtain ⟨C, c1, c2, c3, c4, c5, c6⟩ := hs.blk n _ hH
    obtain ⟨oo, ex, g1, g2, g3⟩ := hvx.s_inv
    have h0 := g1 (.inr rfl)
    rw [Nat.zero_mul] at h0; subst h0
    have hlen : ((rows.drop j).take m).length = m := by simp; omega
    obtain ⟨ad, c, vs, ey, s1, s2, s3, s4, s5, s6⟩ := hsrc.ex
    rw [hlen] at ey s1 s3
    obtain ⟨info, hi1, hi2⟩ : ∃ info, P.info? ty = some info ∧ info.size = sz := by
      unfold tS at hS
      cases hq : P.info? ty with
      | none => rw [hq] at hS; cases hS
      | some q => rw [hq] at hS; exact ⟨q, rfl, by simpa using hS⟩
    obtain ⟨cs, ecs⟩ := builtin_run ho act
    have hil : (rows.take i).length = i := by simp; omega
    have hfit : i * sz + vs.length ≤ C.size := by rw [s3, c2, ← Nat.add_mul]; exact Nat.mul_le_mul_right _ hr
    cases ad with
    | none =>
      obtain ⟨q, e2, -⟩ := hvy.s_inv
      rw [ey] at e2; cases e2
    | some ad =>
      have hrun := run_append_room (P := P) w t ty (ty := o.type) info (tE_eq hE) hi1 n i cap C c1 ad m c vs (by rw [hi2]; exact s3) (s5 ad rfl) s4 hr (by rw [hi2]; exact hfit)
      rw [hi2] at hrun
      obtain ⟨D, hD⟩ : ∃ D : Array Value, D = (C.toList.take (i * sz) ++ vs ++ C.toList.drop (i * sz + vs.length)).toArray := ⟨_, rfl⟩
      rw [← hD] at hrun
      have hDs : D.size = cap * sz := by
        rw [hD, ← c2]; simp; omega
      have hrow : RowOk F D sz (rows.take i ++ (rows.drop j).take m) := rows_app (c6.take i) (by rw [hil]; omega) hsrc.len (by rw [hlen]; exact s3) s6 (by
        rw [hD, hil, hlen]
        have : (i + m) * sz = (C.toList.take (i * sz) ++ vs).length := by simp [s3, Nat.add_mul]; omega
        rw [this]
        simp only [List.toList_toArray]
        exact List.take_left)
      obtain ⟨t1, t2⟩ := turn_row hs hH c1 hDs (by rw [List.length_append, hil, hlen]; exact hr) c4 c5 hrow
      refine ⟨_, w.setRow n D, F, _, .s n sz 0 (i + m) cap, ?_, .s _ _ _ _ _ 0 (fun _ => by simp) hr g3, t1, t2, h⟩
      rw [ecs]
      simp [builtin, ex, ey, Sem.run_bind, hrun]

theorem does_clear {x : Operand} {t ty : TypeId} {n sz i len cap cap2 : Nat} {zs : List Value} {rows : List (List AV)} (ho : o.op = .call { callee := .builtin .clear, args := #[x], argTypes := #[t] })
    (hx : ev a x = .s n sz i len cap2) (hH : H n = some (.r ty sz cap rows)) (hE : tE P t = some ty) (hz : tZ P ty = some zs) (hzl : zs.length = sz) (h1 : zs.all (·.oneCell') = true) (hi : rows.length ≤ i) (hr : i + len ≤ cap)
    (h : K (.t []) H) : Does P o a H K :=
  Does.ran (fun c => by simp [ho]) fun F w act hv hs => by
    have hvx := hv.ev x
    rw [hx] at hvx
    obtain ⟨C, c1, c2, c3, c4, c5, c6⟩ := hs.blk n _ hH
    obtain ⟨oo, ex, g1, g2, g3⟩ := hvx.s_inv
    obtain ⟨cs, ecs⟩ := builtin_run ho act
    by_cases hl : len = 0
    · subst hl
      refine ⟨.tuple #[], w, F, H, .t [], ?_, V.t_of (by simpa using Vs.nil F), hs, Ext.refl _ _ _, h⟩
      rw [ecs]
      simp [builtin, ex, Builtin.clear_, Sem.run_bind, run_underlying (tE_eq hE)]
    · have h0 := g1 (.inl (by omega)); subst h0
      obtain ⟨z, z1, z2⟩ := run_tZ hz w
      obtain ⟨zc, hzc⟩ : ∃ zc : Array Value, zc = Builtin.zeroCells z.cells len := ⟨_, rfl⟩
      have hsz : zc.toList.length = len * sz := by rw [hzc]; simp [Builtin.zeroCells, ← hzl, ← z2]
      have hone : ∀ u ∈ zc.toList, u.oneCell' = true := by
        intro u hu
        rw [hzc] at hu
        simp only [Builtin.zeroCells, Array.toList_map, List.mem_map] at hu
        obtain ⟨q, hq, rfl⟩ := hu
        have hp : 0 < z.cells.size := by rw [← Array.length_toList, z2, hzl]; exact c5
        have : z.cells[q % z.cells.size]! ∈ z.cells.toList := by
          rw [getElem!_pos z.cells _ (Nat.mod_lt _ hp)]; simp
        rw [z2] at this
        exact List.all_eq_true.1 h1 _ this
      have hfit : i * sz + 0 + zc.toList.length ≤ C.size := by rw [hsz, c2, Nat.add_zero, ← Nat.add_mul]; exact Nat.mul_le_mul_right _ hr
      have hst := run_storeCells_at P n (i * sz) ty zc.toList 0 C w c1 hfit hone
      obtain ⟨D, hD⟩ : ∃ D : Array Value, D = (C.toList.take (i * sz + 0) ++ zc.toList ++ C.toList.drop (i * sz + 0 + zc.toList.length)).toArray := ⟨_, rfl⟩
      rw [← hD] at hst
      have hDs : D = splice C (i * sz) zc.toList := hD
      have hrow : RowOk F D sz rows := by
        refine ⟨c6.len, c6.one, fun i' j y hy => ?_⟩
        rw [hDs, splice_get (by simpa using hfit)]
        have hb := c6.at2 hy
        have := flat_lt hb.1 hb.2
        have h5 : rows.length * sz ≤ i * sz := Nat.mul_le_mul_right _ hi
        rw [if_neg (by omega)]
        exact c6.val i' j y hy
      obtain ⟨t1, t2⟩ := turn_row hs hH c1 (by rw [hDs, splice_size (by simpa using hfit)]; exact c2) c3 c4 c5 hrow
      rw [upd_self hH] at t1 t2
      refine ⟨.tuple #[], w.setRow n D, F, H, .t [], ?_, V.t_of (by simpa using Vs.nil F), t1, t2, h⟩
      rw [ecs]
      have hne : len ≠ 0 := hl
      simp [builtin, ex, Builtin.clear_, Sem.run_bind, run_underlying (tE_eq hE), z1, ← hzc, hst]
end

theorem ite_in5 {α : Type} (b : Bool) (x y z : α) : (if b = false then x else (if b = true then y else z)) = if b = false then x else y := by cases b <;> rfl
theorem ite_in6 {α : Type} (b : Bool) (x y z : α) : (if b = false then (if b = true then y else z) else x) = if b = false then z else x := by cases b <;> rfl
theorem decide_bf (b : Bool) : decide (b = false) = !b := by cases b <;> rfl
theorem decide_bt (b : Bool) : decide (b = true) = b := by cases b <;> rfl
attribute [push_cast] Int.le_refl Nat.le_refl ite_in5 ite_in6 decide_bf decide_bt
theorem ACall.blk {P : Program} {f : FuncId} {args : List AV} {H : Heap} {K : AV → Heap → Prop} (he : Ent P f) {n sz cap : Nat} {ty : TypeId} {rows : List (List AV)} (hn : H n = some (.r ty sz cap rows))
    (h : rows.length ≤ cap → cap ≤ maxLen → 0 < sz → (∀ e ∈ rows, e.length = sz) → ACall P f args H K) : ACall P f args H K :=
  ⟨he, fun F w cs hv hs => by
    obtain ⟨C, c1, c2, c3, c4, c5, c6⟩ := hs.blk n _ hn
    exact (h c3 c4 c5 c6.len).2 F w cs hv hs⟩
section
variable {P : Program} {o : Oper} {a : Nat → AV} {H : Heap} {K : AV → Heap → Prop}
theorem does_slice_c {t : TypeId} {x : Operand} {lo hi mx : Option Operand} {et : TypeId} {sz : Nat} {ad : Option Addr} (ho : o.op = .slice t x lo hi mx) (hx : ev a x = .c (.slice ad 0 0)) (hE : tE P t = some et) (hS : tS P et = some sz)
    (hl : optI a 0 lo = some 0) (hh : optI a 0 hi = some 0) (hm : optI a 0 mx = some 0) (hmx : mx.isSome = true → hi.isSome = true)
    (hK : K (.c (.slice ad 0 0)) H) : Does P o a H K :=
  Does.val (fun c => by simp [ho]) hK fun F w act hv hs => by
    have hr := slice_run hE hS (fun x hx => hv.ev x (by rcases hx with hx | hx | hx <;> simp_all [Op.operands])) (ad := ad) (len := 0) (cap := 0) (l := 0) (h := 0) (m := 0) hl hh hm (Int.le_refl _) (Int.le_refl _) (Int.le_refl _) (by simp) (Nat.le_refl _) hmx w
    refine ⟨_, by simp only [execOp, ho, hv.c hx, Sem.run_bind, hr, Result.andThen_ok, Sem.run_pure]; rfl, ?_⟩
    simp
    exact .c _
end
theorem Lent.g {H : Heap} {xs ys : List AV} (hl : Lents H xs ys) (ho : ∀ y ∈ ys, y.one = true) : Lent H (.g xs) (.g ys) := fun F w v hs hv => by
  obtain ⟨cs, rfl, h1, h2⟩ := hv.g_inv
  exact V.g_of (Lents.ok hs hl h1) ho
theorem Lents.refl (H : Heap) : ∀ xs : List AV, Lents H xs xs
  | [] => trivial
  | x :: xs => ⟨Lent.refl H x, Lents.refl H xs⟩
theorem OwnL.cut {H H0 K : Heap} {x : AV} {ty : TypeId} {sz : Nat} {rows : List (List AV)} (h : OwnL H x ty sz rows H0) (hk : Heap.le K H0) : ∃ H', Heap.le H' H ∧ OwnL H' x ty sz rows K := by
  rcases h with ⟨e1, e2, rfl⟩ | ⟨n, cap, e1, e2, rfl⟩
  · exact ⟨K, hk, .inl ⟨e1, e2, rfl⟩⟩
  · have hn : K n = Option.none := by
      cases h : K n with
      | none => rfl
      | some k => have := hk n k h; rw [del_same] at this; cases this
    refine ⟨upd K n (.r ty sz cap rows), fun m k hm => ?_, .inr ⟨n, cap, e1, upd_same _ _ _, (del_upd_same hn).symm⟩⟩
    by_cases e : m = n
    · subst e; rw [upd_same] at hm; cases hm; exact e2
    · rw [upd_ne e] at hm; exact del_le _ _ m k (hk m k hm)
theorem ACall.argw {P : Program} {f : FuncId} {args args' : List AV} {H : Heap} {K : AV → Heap → Prop} (hl : ∀ F : Mem, Imps F F args args') (h : ACall P f args' H K) : ACall P f args H K :=
  ⟨h.1, fun F w cs hv hs => h.2 F w cs ⟨(hl F).1 ▸ hv.1, fun i y hy => by
    have hlt := (List.getElem?_eq_some_iff.1 hy).1
    rw [← (hl F).1] at hlt
    exact ((hl F).2 i args[i] y (List.getElem?_eq_getElem hlt) hy).1 _ (hv.2 i _ (List.getElem?_eq_getElem hlt))⟩ hs⟩
end Go.Proofs.Ytlbdpnlmdcajbaa

/- A slice grown out of none; what the caller owns, lent as what it reads as; a result of its own. -/
namespace Go.Proofs.Ytlbdpnlmdcajbaa
open Go.RowKit
set_option linter.all false

section
variable {P : Program} {o : Oper} {a : Nat → AV} {H : Heap} {K : AV → Heap → Prop}
end
theorem Lent.s2 {H : Heap} {n sz cap cap0 : Nat} {ty : TypeId} {rows rows' : List (List AV)} (hn : H n = some (.r ty sz cap0 rows)) (hl : rows'.length = rows.length) (hw : ∀ e ∈ rows', e.length = sz)
    (hr : ∀ i j y, at2 rows' i j = some y → y.one = true ∧ ∃ x, at2 rows i j = some x ∧ Lent H x y) {k : Nat} (hk : k ≤ rows.length) : Lent H (.s n sz 0 k cap) (.l sz (rows'.take k)) := fun F w v hs hv => by
  obtain ⟨C, c1, c2, c3, c4, c5, c6⟩ := hs.blk n _ hn
  have hle : rows.length * sz ≤ C.size := by rw [c2]; exact Nat.mul_le_mul_right _ c3
  have hrr : ∀ i j y, at2 rows' i j = some y → y.one = true ∧ V (F0 w) y (C.getD (i * sz + j) undef) ∧ F0 w n (i * sz + j) = some (C.getD (i * sz + j) undef) := fun i j y hy => by
    obtain ⟨h1, x, hx, h2⟩ := hr i j y hy
    refine ⟨h1, h2 F w _ hs (c6.val i j x hx), ?_⟩
    obtain ⟨b1, b2⟩ := c6.at2 hx
    have hlt := flat_lt b1 b2
    have : i * sz + j < C.size := by omega
    unfold F0
    rw [cell_of_row w n _ C ty (0, 0) c1]
    simp [Array.getD, this]
  have := hv.frz hs.all hw hrr
  have e : frz n sz rows' (.s n sz 0 k cap) = .l sz (rows'.take k) := by
    unfold frz; rw [if_pos ⟨rfl, rfl, by omega⟩]; simp
  rwa [e] at this
theorem Lent.pre {H : Heap} {n sz cap cap0 : Nat} {ty : TypeId} {rows : List (List AV)} (hn : H n = some (.r ty sz cap0 rows)) {k : Nat} (hk : k ≤ rows.length) : Lent H (.s n sz 0 k cap) (.l sz (rows.take k)) := fun F w v hs hv => by
  obtain ⟨C, c1, c2, c3, c4, c5, c6⟩ := hs.blk n _ hn
  exact Lent.s2 hn rfl c6.len (fun i j y hy => ⟨c6.one i j y hy, y, hy, Lent.refl H y⟩) hk F w v hs hv
theorem Lents.one {H : Heap} {x y : AV} (h : Lent H x y) : Lents H [x] [y] := ⟨h, trivial⟩
theorem Lents.two {H : Heap} {x y x2 y2 : AV} (h : Lent H x y) (h2 : Lent H x2 y2) : Lents H [x, x2] [y, y2] := ⟨h, h2, trivial⟩
def FlatR (rows : List (List AV)) : Prop := ∀ i j y, at2 rows i j = some y → Flat y
theorem FlatR.map {α : Type} {f : α → List AV} (l : List α) (h : ∀ x, ∀ y ∈ f x, Flat y) : FlatR (l.map f) := fun i j y hy => by
  obtain ⟨e, he, hj⟩ := at2_some.1 hy
  rw [List.getElem?_map] at he
  obtain ⟨x, _, rfl⟩ := Option.map_eq_some_iff.1 he
  exact h x y (List.mem_of_getElem? hj)
end Go.Proofs.Ytlbdpnlmdcajbaa

/- make, copy; what an operation gives, held for less. -/
namespace Go.Proofs.Ytlbdpnlmdcajbaa
open Go.RowKit
set_option linter.all false

section
variable {P : Program} {o : Oper} {a : Nat → AV} {H : Heap} {K : AV → Heap → Prop}
theorem Does.weak {K2 : AV → Heap → Prop} (h : Does P o a H K) (hk : ∀ r H', K r H' → ∃ r2 H2, Weak r H' r2 H2 ∧ K2 r2 H2) : Does P o a H K2 := by
  intro Fe n hF F w act hv hs
  obtain ⟨h1, h2⟩ := h Fe n hF F w act hv hs
  refine ⟨h1, ?_⟩
  generalize (o.semAt Fe.round act.eval).run P w = r at h2 ⊢
  have key : ∀ (act' : Act) (w' : World), (∃ v F' H' r, act' = act.put o.dst v ∧ V F' r v ∧ Sat F' H' w' ∧ Ext F H w F' H' w' ∧ K r H') → ∃ v F' H' r, act' = act.put o.dst v ∧ V F' r v ∧ Sat F' H' w' ∧ Ext F H w F' H' w' ∧ K2 r H' :=
    fun act' w' ⟨v, F', H', r, e1, e2, e3, e4, e5⟩ => by
      obtain ⟨r2, H2, g1, g2⟩ := hk _ _ e5
      obtain ⟨F2, b1, b2, b3, b4, b5⟩ := g1 F' w' v e2 e3
      refine ⟨v, F2, H2, r2, e1, b2, b3, ⟨e4.os, e4.tape, e4.output, e4.size, e4.block, fun m k hm => ?_, e4.le.trans b1, fun b o' u hu => ?_⟩, g2⟩
      · have := b5 m k hm
        cases hk2 : H' m with
        | none => exact absurd hk2 this
        | some k2 => exact e4.new m k2 hk2
      · rcases b4 b o' u hu with g | g
        · exact e4.frz b o' u g
        · right
          cases hk2 : H' b with
          | none => exact absurd hk2 g
          | some k2 => exact e4.new b k2 hk2
  cases r with
  | halt x w' => cases x <;> simp only [Oper.uponIn] at h2
  | ok x w' =>
    cases x with
    | value v => exact key _ _ h2
    | skip => exact key _ _ h2
    | defer d => exact key _ _ h2
    | enter f args => exact ⟨h2.1, h2.2.mono fun e w' he => (by cases e <;> first | exact key _ _ he | exact he)⟩
    | row f args => exact ⟨h2.1, h2.2.mono fun e w' he => key _ _ he⟩
    | round l f tmps asg body => exact ⟨h2.1, h2.2.mono fun e w' he => (by cases e <;> first | exact key _ _ he | exact he)⟩
    | _ => simp only [Oper.uponIn] at h2
theorem Does.frozen {ty : TypeId} {sz : Nat} {rows : List (List AV)} {H0 : Heap} (h : Does P o a H fun x' H' => OwnL H' x' ty sz rows H0) (hk : K (.l sz rows) H0) : Does P o a H K :=
  h.weak fun r H' ho => ⟨_, _, ho.weak (fun F F' hF hi _ => hi), hk⟩
end
end Go.Proofs.Ytlbdpnlmdcajbaa

/- The first that something holds of; function values. -/
namespace Go.Proofs.Ytlbdpnlmdcajbaa
open Go.RowKit
set_option linter.all false

def idxS {α : Type} (p : α → Bool) (l : List α) : Int := match l.findIdx? p with | some i => (i : Int) | none => -1
theorem idxS_some {α : Type} {p : α → Bool} {l : List α} {k : Nat} {x : α} (hx : l[k]? = some x) (hp : p x = true) (h : ∀ (j : Nat) (y : α), j < k → l[j]? = some y → p y = false) : idxS p l = k := by
  obtain ⟨hk, rfl⟩ := List.getElem?_eq_some_iff.1 hx
  have : l.findIdx? p = some k := List.findIdx?_eq_some_iff_getElem.2 ⟨hk, hp, fun j hj => by
    rw [h j l[j] hj (List.getElem?_eq_getElem (by omega))]; simp⟩
  simp [idxS, this]
theorem idxS_none {α : Type} {p : α → Bool} {l : List α} (h : ∀ (j : Nat) (y : α), l[j]? = some y → p y = false) : idxS p l = -1 := by
  have : l.findIdx? p = none := List.findIdx?_eq_none_iff.2 fun x hx => by
    obtain ⟨j, hj⟩ := List.getElem?_of_mem hx
    rw [h j x hj]
  simp [idxS, this]
theorem Imp.fn {F F' : Mem} (f : FuncId) : Imp F F' (.c (.func (.func f) #[] #[])) (.f (.func f) [] []) := fun v hv => by
  obtain rfl := hv.c_inv
  exact V.f_of (Vs.nil _) (Vs.nil _)
theorem Imps.two {F F' : Mem} {x y x2 y2 : AV} (h : Imp F F' x y) (ho : x.one = true → y.one = true) (h2 : Imp F F' x2 y2) (ho2 : x2.one = true → y2.one = true) : Imps F F' [x, x2] [y, y2] := Imps.cons h ho (Imps.cons h2 ho2 Imps.nil)
def EqI {α : Type} (a b : List α) (k : Nat) : Prop := ∀ j : Nat, j < k → a[j]? = b[j]?
theorem EqI.zero {α : Type} (a b : List α) : EqI a b 0 := fun j hj => by omega
theorem EqI.step {α : Type} {a b : List α} {k : Nat} {x : α} (h : EqI a b k) (hx : a[k]? = some x) (hy : b[k]? = some x) : EqI a b (k + 1) := fun j hj => by
  by_cases e : j = k
  · subst e; rw [hx, hy]
  · exact h j (by omega)
theorem EqI.done {α : Type} {a b : List α} (h : EqI a b a.length) (hl : a.length = b.length) : a = b := List.ext_getElem? fun j => by
  by_cases e : j < a.length
  · exact h j e
  · rw [List.getElem?_eq_none (by omega), List.getElem?_eq_none (by omega)]
end Go.Proofs.Ytlbdpnlmdcajbaa

/- A copy of a row; the last one appended. -/
namespace Go.Proofs.Ytlbdpnlmdcajbaa
open Go.RowKit
set_option linter.all false

theorem OwnL.fresh {G : Heap} {n : Nat} {ty : TypeId} {sz : Nat} (hn : G n = Option.none) : OwnL (upd G n (.r ty sz 0 [])) (.s n sz 0 0 0) ty sz [] G := .inr ⟨n, 0, rfl, upd_same _ _ _, (del_upd_same hn).symm⟩
theorem hle_upd2 {A B : Heap} (h : Heap.le A B) (n : Nat) (k : Blk) : Heap.le (upd A n k) (upd B n k) := fun m j hm => by
  by_cases e : m = n
  · subst e; rw [upd_same] at hm ⊢; exact hm
  · rw [upd_ne e] at hm ⊢; exact h m j hm
theorem OwnL.split {H H0 : Heap} {x : AV} {ty : TypeId} {sz : Nat} {rows : List (List AV)} (h : OwnL H x ty sz rows H0) :
    (∃ ad, x = .c (.slice ad 0 0) ∧ rows = [] ∧ H = H0) ∨ ∃ m cap, x = .s m sz 0 rows.length cap ∧ H = upd H0 m (.r ty sz cap rows) ∧ H0 m = Option.none := by
  rcases h with ⟨⟨ad, e1⟩, e2, rfl⟩ | ⟨n, cap, e1, e2, rfl⟩
  · exact .inl ⟨ad, e1, e2, rfl⟩
  · exact .inr ⟨n, cap, e1, by rw [upd_del, upd_self e2], del_same _ _⟩
theorem OwnL.at {H0 : Heap} {m len cap sz : Nat} {ty : TypeId} {rows : List (List AV)} (hl : len = rows.length) (hm : H0 m = Option.none) : OwnL (upd H0 m (.r ty sz cap rows)) (.s m sz 0 len cap) ty sz rows H0 := by
  subst hl
  exact .inr ⟨m, cap, rfl, upd_same _ _ _, (del_upd_same hm).symm⟩
theorem OwnL.of {G : Heap} {m len cap sz : Nat} {ty : TypeId} {rows : List (List AV)} (hm : G m = some (.r ty sz cap rows)) (hl : len = rows.length) : OwnL G (.s m sz 0 len cap) ty sz rows (del G m) := by
  subst hl; exact .inr ⟨m, cap, rfl, hm, rfl⟩
theorem OwnL.none' {H : Heap} {ad : Option Addr} {sz : Nat} {ty : TypeId} : OwnL H (.c (.slice ad 0 0)) ty sz [] H := .inl ⟨⟨ad, rfl⟩, rfl, rfl⟩
section
variable {P : Program} {o : Oper} {a : Nat → AV} {H : Heap} {K : AV → Heap → Prop}
theorem does_cloneL {x y : Operand} {t ty : TypeId} {n sz by' : Nat} {zs : List Value} {news : List (List AV)} {G : Heap} (ho : o.op = .call { callee := .builtin .append, args := #[x, y], argTypes := #[t, t] })
    (hx : ev a x = .s n sz 0 0 0) (hy : ev a y = .l sz news) (hH : H = upd G n (.r ty sz 0 [])) (hn : G n = Option.none) (hE : tE P t = some ty) (hS : tS P ty = some sz) (hB : tB P ty = some by') (hz : tZ P ty = some zs) (hzl : zs.length = sz) (hp : 0 < sz)
    (h63 : news.length ≤ maxLen) (hbytes : news.length * by' ≤ 140737488355328) (h : K (.l sz news) G) : Does P o a H K := by
  subst hH
  refine Does.frozen (ty := ty) (sz := sz) (rows := news) (H0 := G) ?_ h
  exact does_appL ho hx hy (OwnL.fresh hn) hE hS hB hz hzl hp (by simpa using h63) (by simpa using hbytes) (fun x' H' h' => by simpa using h')
end
end Go.Proofs.Ytlbdpnlmdcajbaa

/- Stops in the middle of a walk. -/
namespace Go.Proofs.Ytlbdpnlmdcajbaa
open Go.RowKit
set_option linter.unusedVariables false
set_option linter.unusedSimpArgs false
set_option linter.constructorNameAsVariable false

theorem unhid {p : Prop} (h : Hid p) : p := h
structure Stop (p : Prop) : Prop where
  go : p
section
variable {P : Program} {N : Nat} {a : Nat → AV} {H : Heap} {Q : Post}
theorem AW_atR {id : Nat} {ops : Array Oper} {dr : Bool} {y : Code} (h : Stop (AW P N (.seq (.region id ops dr) y) a H Q)) : AW P N (.seq (.region id ops dr) y) a H Q := h.go
theorem AW_seqX {σ : Type} {x y : Code} (inv : σ → Prop) (fr : σ → List (Nat × AV)) (hp : σ → Heap)
    (hx : AW P N x a H (thenA (fun a' H' => ∃ s, Nxt (inv s) (Sl a' (fr s)) (Heap.le (hp s) H')) Q)) (hy : ∀ s, inv s → AW P N y (frm (fr s)) (hp s) Q) : AW P N (.seq x y) a H Q :=
  AW_seqS inv fr hp (hx.mono fun e a' H' h => by
    cases e with
    | normal => obtain ⟨s, h1⟩ := h; exact ⟨s, h1.p, h1.s, h1.h⟩
    | _ => exact h) hy
end
theorem Imp.l {F F' : Mem} (hF : F.le F') {sz : Nat} {rows rows' : List (List AV)} (hl : rows'.length = rows.length) (hs : ∀ e ∈ rows', e.length = sz)
    (h : ∀ i j y, at2 rows' i j = some y → y.one = true ∧ ∃ x, at2 rows i j = some x ∧ Imp F F' x y) : Imp F F' (.l sz rows) (.l sz rows') := fun v hv => by
  obtain ⟨a, cap, u, rfl, h1, h2, h3, h4, h5, h6⟩ := hv.l_inv
  rw [← hl]
  refine .l sz rows' a rows'.length cap u rfl (by rw [hl]; exact h1) h2 h3 hs (fun i j y hy => (h i j y hy).1) (fun i j y hy => ?_) (fun ad ha hc => ⟨(h6 ad ha (by rw [← hl]; exact hc)).1, fun i j y hy => ?_⟩)
  · obtain ⟨x, hx, hi⟩ := (h i j y hy).2
    exact hi _ (h5 i j x hx).2
  · obtain ⟨x, hx, hi⟩ := (h i j y hy).2
    exact hF _ _ _ ((h6 ad ha (by rw [← hl]; exact hc)).2 i j x hx)
end Go.Proofs.Ytlbdpnlmdcajbaa

/- Cuts behind several pieces. -/
namespace Go.Proofs.Ytlbdpnlmdcajbaa
open Go.RowKit
set_option linter.unusedVariables false
set_option linter.unusedSimpArgs false
set_option linter.constructorNameAsVariable false

section
variable {P : Program} {N : Nat} {a : Nat → AV} {H : Heap} {Q : Post} {σ : Type}
end
end Go.Proofs.Ytlbdpnlmdcajbaa

/- Several slices of one's own, side by side. -/
namespace Go.Proofs.Ytlbdpnlmdcajbaa
open Go.RowKit
set_option linter.unusedVariables false
set_option linter.unusedSimpArgs false
set_option linter.constructorNameAsVariable false

theorem del_comm (H : Heap) (n m : Nat) : del (del H n) m = del (del H m) n := by
  funext q; simp only [del]; split <;> split <;> rfl
theorem OwnL.swap {H H1 H2 : Heap} {x y : AV} {ty ty2 : TypeId} {sz sz2 : Nat} {r s : List (List AV)} (h : OwnL H x ty sz r H1) (k : OwnL H1 y ty2 sz2 s H2) : ∃ H3, OwnL H y ty2 sz2 s H3 ∧ OwnL H3 x ty sz r H2 := by
  rcases h with ⟨e1, e2, rfl⟩ | ⟨n, cap, e1, e2, rfl⟩
  · exact ⟨H2, k, .inl ⟨e1, e2, rfl⟩⟩
  · rcases k with ⟨f1, f2, rfl⟩ | ⟨m, cap2, f1, f2, rfl⟩
    · exact ⟨H, .inl ⟨f1, f2, rfl⟩, .inr ⟨n, cap, e1, e2, rfl⟩⟩
    · have hne : m ≠ n := by rintro rfl; rw [del_same] at f2; cases f2
      rw [del_ne hne] at f2
      exact ⟨del H m, .inr ⟨m, cap2, f1, f2, rfl⟩, .inr ⟨n, cap, e1, by rw [del_ne (Ne.symm hne)]; exact e2, del_comm _ _ _⟩⟩
section
variable {ty : TypeId} {sz : Nat}
theorem Lent.mono {H H' : Heap} {x y : AV} (h : Lent H x y) (hl : Heap.le H H') : Lent H' x y := fun F w v hs hv => h F w v (hs.less hl) hv
end
end Go.Proofs.Ytlbdpnlmdcajbaa

/- Maps: made, looked up, written, struck out of, counted. -/
namespace Go.Proofs.Ytlbdpnlmdcajbaa
open Go.RowKit
set_option linter.all false

section
variable {α : Type} [DecidableEq α]
end

section
variable {P : Program} {o : Oper} {a : Nat → AV} {H : Heap} {K : AV → Heap → Prop} {α : Type} [DecidableEq α] {enc : α → Value}

end
end Go.Proofs.Ytlbdpnlmdcajbaa

/- Bytes as a string. -/
namespace Go.Proofs.Ytlbdpnlmdcajbaa
open Go.RowKit
set_option linter.all false

theorem binV_seq {P : Program} {t : TypeId} {p q : ByteArray} : binV P .eql t (.c (.string p)) (.c (.string q)) = some (.c (.bool (p == q))) := by unfold binV; simp
theorem binV_sne {P : Program} {t : TypeId} {p q : ByteArray} : binV P .neq t (.c (.string p)) (.c (.string q)) = some (.c (.bool (p != q))) := by unfold binV; simp
attribute [push_cast] binV_seq binV_sne
def octs (l : List Int) : Prop := ∀ x ∈ l, 0 ≤ x ∧ x < 256
theorem octs.nil : octs [] := fun x h => by cases h
theorem octs.append {a b : List Int} (h : octs a) (k : octs b) : octs (a ++ b) := fun x hx => by
  rcases List.mem_append.1 hx with hx | hx
  · exact h x hx
  · exact k x hx
theorem octs.take {l : List Int} (h : octs l) (n : Nat) : octs (l.take n) := fun x hx => h x (List.mem_of_mem_take hx)
theorem octs.drop {l : List Int} (h : octs l) (n : Nat) : octs (l.drop n) := fun x hx => h x (List.mem_of_mem_drop hx)
theorem ofNat_inj {x y : Int} (hx : 0 ≤ x ∧ x < 256) (hy : 0 ≤ y ∧ y < 256) (h : UInt8.ofNat x.toNat = UInt8.ofNat y.toNat) : x = y := by
  have h2 := congrArg UInt8.toNat h
  simp only [UInt8.toNat_ofNat'] at h2
  rw [Nat.mod_eq_of_lt (by omega), Nat.mod_eq_of_lt (by omega)] at h2
  omega
theorem map_inj_octs : ∀ {a b : List Int}, octs a → octs b → (a.map fun n : Int => UInt8.ofNat n.toNat) = b.map (fun n => UInt8.ofNat n.toNat) → a = b
  | [], [], _, _, _ => rfl
  | [], y :: b, _, _, h => by cases h
  | x :: a, [], _, _, h => by cases h
  | x :: a, y :: b, ha, hb, h => by
    simp only [List.map_cons, List.cons.injEq] at h
    rw [ofNat_inj (ha x (by simp)) (hb y (by simp)) h.1, map_inj_octs (fun z hz => ha z (by simp [hz])) (fun z hz => hb z (by simp [hz])) h.2]
theorem str_inj {a b : List Int} (ha : octs a) (hb : octs b) : strOfNums a = strOfNums b ↔ a = b := by
  refine ⟨fun h => map_inj_octs ha hb ?_, fun h => by rw [h]⟩
  have := congrArg (fun s : ByteArray => s.data.toList) h
  simpa [strOfNums] using this
theorem str_beq {a b : List Int} (ha : octs a) (hb : octs b) : (strOfNums a == strOfNums b) = decide (a = b) := by
  rw [Bool.eq_iff_iff, MapKept.bytes_beq, str_inj ha hb]; simp

section
variable {P : Program} {o : Oper} {a : Nat → AV} {H : Heap} {K : AV → Heap → Prop}
end
end Go.Proofs.Ytlbdpnlmdcajbaa
