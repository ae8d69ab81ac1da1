/- Frames; regions in the order of the text; code. -/
import Derived.Test.YteoepeionomjlaaM9
import Derived.RangeFuncIn
import Derived.RangeFuncLeaves
namespace Go.Proofs.Yteoepeionomjlaa
open Go.RowKit
set_option linter.unusedVariables false
set_option linter.unusedSimpArgs false
set_option linter.constructorNameAsVariable false

def put (a : Nat → AV) (dst : Option Nat) (r : AV) : Nat → AV :=
  match dst with
  | some d => fun t => if t = d then r else a t
  | none => a
theorem put_some (a : Nat → AV) (d : Nat) (r : AV) (t : Nat) : put a (some d) r t = if t = d then r else a t := rfl
theorem put_none (a : Nat → AV) (r : AV) : put a none r = a := rfl

def mark (D : Nat) : Deferred := { target := .collected D, args := #[] }

/-- Of a frame: from where on its marks lie; the loop of whose round it is. -/
structure Bk where
  lo : Nat
  ro : Option Nat

structure Rel (F : Mem) (B : Bk) (N : Nat) (a : Nat → AV) (H : Heap) (act : Act) (w : World) : Prop where
  dfr : ∃ Ds : List Nat, act.defers = Ds.map mark ∧ Ds.Nodup ∧ ∀ D ∈ Ds, w.heap[D]? = some (.deferred (some [])) ∧ H D = none ∧ B.lo ≤ D
  low : B.lo ≤ w.heap.size
  rnd : ∀ l, B.ro = some l → (∃ r, w.heap[l]? = some (.loop r)) ∧ H l = none
  size : act.tmps.size = N
  vf : Va F a act
  sat : Sat F H w

theorem lt_of_get {w : World} {D : Nat} {o : Obj} (h : w.heap[D]? = some o) : D < w.heap.size := (Array.getElem?_eq_some_iff.1 h).1

theorem Rel.step {F F' : Mem} {B : Bk} {N : Nat} {a : Nat → AV} {H H' : Heap} {act : Act} {w w' : World} {dst : Option Nat} {v : Value} {r : AV} (h : Rel F B N a H act w) (hd : ∀ d, dst = some d → d < N) (hv : V F' r v) (hs : Sat F' H' w') (he : Ext F H w F' H' w') : Rel F' B N (put a dst r) H' (act.put dst v) w' := by
  obtain ⟨⟨Ds, d1, d2, d3⟩, hlow, hrnd, hsz, hvf, hsat⟩ := h
  refine ⟨⟨Ds, by cases dst <;> exact d1, d2, fun D hD => ?_⟩, Nat.le_trans hlow he.size, fun l hl => ?_, by cases dst <;> simp [Act.put, hsz], fun t => ?_, hs⟩
  · obtain ⟨g1, g2, g3⟩ := d3 D hD
    refine ⟨(he.block D (lt_of_get g1) g2).trans g1, ?_, g3⟩
    cases hk : H' D with
    | none => rfl
    | some k =>
      rcases he.new D k hk with h1 | h1
      · exact absurd g2 h1
      · have := lt_of_get g1; omega
  · obtain ⟨⟨r, g1⟩, g2⟩ := hrnd l hl
    refine ⟨⟨r, (he.block l (lt_of_get g1) g2).trans g1⟩, ?_⟩
    cases hk : H' l with
    | none => rfl
    | some k =>
      rcases he.new l k hk with h1 | h1
      · exact absurd g2 h1
      · have := lt_of_get g1; omega
  · cases dst with
    | none => exact (hvf t).mono he.le
    | some d =>
      have hlt := hd d rfl
      rw [put_some]
      split
      · rename_i e; subst e
        simp [Act.put, Array.getD, hsz, hlt]; exact hv
      · rename_i e
        have : (act.put (some d) v).tmps.getD t undef = act.tmps.getD t undef := by
          simp [Act.put, Array.getD_eq_getD_getElem?, Array.getElem?_setIfInBounds_ne (Ne.symm e)]
        rw [this]; exact (hvf t).mono he.le

/-- the value of a guard -/
def gv (ops : Array Oper) (a : Nat → AV) (j : Nat) : Option Bool :=
  ((ops[j]?).bind (·.dst)).bind fun d => match a d with | .c (.bool b) => some b | _ => none

theorem gv_ok {F : Mem} {a : Nat → AV} {act : Act} (hv : Va F a act) {ops : Array Oper} {j : Nat} {b : Bool} (h : gv ops a j = some b) : yielded ops act.tmps j = some b := by
  unfold gv at h
  unfold yielded
  cases hd : (ops[j]?).bind (·.dst) with
  | none => simp [hd] at h
  | some d =>
    rw [hd, Option.bind_some] at h
    split at h
    · rename_i b' ha
      cases h
      have h1 := hv d
      rw [ha] at h1
      have h2 := h1.c_inv
      have h3 : act.tmps[d]? = some (.bool b) := by
        rw [Array.getD_eq_getD_getElem?] at h2
        cases h4 : act.tmps[d]? with
        | none => rw [h4] at h2; cases h2
        | some u => rw [h4] at h2; simpa using h2
      simp [h3]
    · cases h

/-- a guard that was not reckoned itself -/
def gu (ops : Array Oper) (a : Nat → AV) (j : Nat) : Bool :=
  match (ops[j]?).bind (·.dst) with
  | some d => match a d with | .t [] => true | _ => false
  | none => false
theorem gu_ok {F : Mem} {a : Nat → AV} {act : Act} (hv : Va F a act) {ops : Array Oper} {j : Nat} (h : gu ops a j = true) : yielded ops act.tmps j = none := by
  unfold gu at h
  unfold yielded
  cases hd : (ops[j]?).bind (·.dst) with
  | none => simp
  | some d =>
    rw [hd] at h
    simp only at h
    split at h
    · rename_i ha
      have h1 := hv d
      rw [ha] at h1
      obtain ⟨cs, h2, h3⟩ := h1.t_inv
      simp only [Option.bind_some]
      rw [Array.getD_eq_getD_getElem?] at h2
      cases h4 : act.tmps[d]? with
      | none => rfl
      | some u =>
        rw [h4] at h2
        simp only [Option.getD_some] at h2
        subst h2
        rfl
    · cases h

/-- what an operation does, reckoned as far as can be -/
def EO {P : Program} (E : Env P) (o : Oper) (a : Nat → AV) (H : Heap) (K : AV → Heap → Prop) : Prop :=
  match o.op with
  | .alloc t =>
    match tZ P t with
    | some zs => zs.all (·.oneCell') = true ∧ 0 < zs.length ∧ ∀ n, H n = none → K (.p n zs.length 0 0) (upd H n (.r t zs.length 1 [zs.map .c]))
    | none => False
  | .box t x =>
    match (ev a x).cs with
    | some ys => 0 < ys.length ∧ ∀ n, H n = none → K (.p n ys.length 0 0) (upd H n (.r t ys.length 1 [ys]))
    | none => False
  | .buildSlice t len parts =>
    match tE P t with
    | some et =>
      match tS P et, tZ P et with
      | some sz, some zs => (zs.length = sz ∧ 0 < sz ∧ len * sz ≤ 16777216 ∧ zs.all (·.oneCell') = true) ∧
        match fillR sz (List.replicate len (zs.map .c)) (parts.toList.map fun p => (p.1, ev a p.2)) with
        | some r => ∀ n, H n = none → K (.s n sz 0 len len) (upd H n (.r et sz len r))
        | none => False
      | _, _ => False
    | none => False
  | .store t x y =>
    match ev a x with
    | .p n sz i j =>
      match H n with
      | some (.r ty sz' cap rows) =>
        match rows[i]?, (ev a y).cs with
        | some e, some ys => (sz' = sz ∧ tS P t = some ys.length ∧ j + ys.length ≤ e.length) ∧ K .x (upd H n (.r ty sz' cap (rows.set i (e.take j ++ ys ++ e.drop (j + ys.length)))))
        | _, _ => False
      | _ => False
    | _ => False
  | _ =>
    match pureF E H o a with
    | some r => K r H
    | none => Does P o a H K

theorem EO_ok {P : Program} (E : Env P) {o : Oper} {a : Nat → AV} {H : Heap} {K : AV → Heap → Prop} (h : EO E o a H K) : Does P o a H K := by
  unfold EO at h
  split at h
  · split at h
    · rename_i zs hz; exact does_alloc (by assumption) hz h.1 h.2.1 h.2.2
    · exact h.elim
  · split at h
    · rename_i ys hx; exact does_box (by assumption) hx h.1 h.2
    · exact h.elim
  · split at h
    · rename_i et hE
      split at h
      · rename_i sz zs hS hz
        obtain ⟨⟨h1, h2, h3, h4⟩, h⟩ := h
        split at h
        · rename_i r hr; exact does_buildSlice (by assumption) hE hS hz h1 h2 h3 h4 hr h
        · exact h.elim
      · exact h.elim
    · exact h.elim
  · split at h
    · rename_i n sz i j hx
      split at h
      · rename_i ty sz' cap rows hH
        split at h
        · rename_i e ys he hy
          obtain ⟨⟨rfl, h2, h3⟩, h⟩ := h
          exact does_store (by assumption) hx hH he hy h2 rfl h3 h
        · exact h.elim
      · exact h.elim
    · exact h.elim
  · split at h
    · rename_i hp; exact pureF_ok E hp h
    · exact h

theorem EO_mono {P : Program} (E : Env P) {o : Oper} {a : Nat → AV} {H : Heap} {K K' : AV → Heap → Prop} (hk : ∀ r H', K r H' → K' r H') (h : EO E o a H K) : EO E o a H K' := by
  unfold EO at h ⊢
  split at h
  · split at h
    · exact ⟨h.1, h.2.1, fun n hn => hk _ _ (h.2.2 n hn)⟩
    · exact h
  · split at h
    · exact ⟨h.1, fun n hn => hk _ _ (h.2 n hn)⟩
    · exact h
  · split at h
    · split at h
      · refine ⟨h.1, ?_⟩
        have h := h.2
        split at h
        · exact fun n hn => hk _ _ (h n hn)
        · exact h
      · exact h
    · exact h
  · split at h
    · split at h
      · split at h
        · exact ⟨h.1, hk _ _ h.2⟩
        · exact h
      · exact h
    · exact h
  · split at h
    · exact hk _ _ h
    · exact h.mono hk

def dok (N : Nat) : Option Nat → Bool
  | some d => decide (d < N)
  | none => true

/-- a region, in the order of the text -/
def ER {P : Program} (E : Env P) (N : Nat) (ops : Array Oper) : List Oper → (Nat → AV) → Heap → ((Nat → AV) → Heap → Prop) → Prop
  | [], a, H, K => K a H
  | o :: os, a, H, K =>
    dok N o.dst = true ∧
    match o.guard with
    | none => EO E o a H (fun r H' => ER E N ops os (put a o.dst r) H' K)
    | some (j, want) =>
      match gv ops a j with
      | some b => (b = want → EO E o a H (fun r H' => ER E N ops os (put a o.dst r) H' K)) ∧ (b = !want → ER E N ops os (put a o.dst (.t [])) H K)
      | none => gu ops a j = true ∧ ER E N ops os (put a o.dst (.t [])) H K

theorem wpIn_Q {P : Program} {o : Oper} {Fe : Fence} {n : Nat} {act : Act} {w : World} {K K' : Act → World → Prop} {Q : Exit → Act → World → Prop} (hk : ∀ a w, K a w → K' a w) (h : o.wpIn Fe n P act w K (fun _ _ _ => False)) : o.wpIn Fe n P act w K' Q := by
  obtain ⟨h1, h2⟩ := h
  refine ⟨h1, ?_⟩
  generalize (o.semAt Fe.round act.eval).run P w = r at h2 ⊢
  cases r with
  | halt x w' => cases x <;> simp only [Oper.uponIn] at h2
  | ok x w' =>
    cases x with
    | value v => exact hk _ _ h2
    | skip => exact hk _ _ h2
    | defer d => exact hk _ _ h2
    | enter f args => exact ⟨h2.1, h2.2.mono fun e w' he => (by cases e <;> first | exact hk _ _ he | exact he.elim | (obtain ⟨_, _, x⟩ := he; exact x.elim))⟩
    | row f args => exact ⟨h2.1, h2.2.mono fun e w' he => hk _ _ he⟩
    | round l f tmps as body => exact ⟨h2.1, h2.2.mono fun e w' he => (by cases e <;> first | exact hk _ _ he | exact he.elim | (obtain ⟨_, _, x⟩ := he; exact x.elim))⟩
    | _ => simp only [Oper.uponIn] at h2

/-- how it goes on from F H w -/
def Goes (F : Mem) (H : Heap) (w : World) (B : Bk) (N : Nat) (K : (Nat → AV) → Heap → Prop) (act' : Act) (w' : World) : Prop := ∃ F' a' H', Rel F' B N a' H' act' w' ∧ Ext F H w F' H' w' ∧ K a' H'

theorem ER_ok {P : Program} (E : Env P) {B : Bk} {N : Nat} {ops : Array Oper} {Fe : Fence} {n : Nat} (hF : Wide Fe) {K : (Nat → AV) → Heap → Prop} {F : Mem} {H : Heap} {w : World} {Q : Exit → Act → World → Prop} (hQ : ∀ a w', Goes F H w B N K a w' → Q .normal a w') :
    ∀ (l : List Oper) (a : Nat → AV) (F1 : Mem) (H1 : Heap) (w1 : World) (act : Act), ER E N ops l a H1 K → Rel F1 B N a H1 act w1 → Ext F H w F1 H1 w1 → wpListIn Fe n P ops Q l act w1
  | [], a, F1, H1, w1, act, h, hr, he => hQ _ _ ⟨F1, a, H1, hr, he, h⟩
  | o :: os, a, F1, H1, w1, act, h, hr, he => by
    obtain ⟨hd, h⟩ := h
    have hd' : ∀ d, o.dst = some d → d < N := fun d e => by rw [e] at hd; simpa [dok] using hd
    have go : EO E o a H1 (fun r H' => ER E N ops os (put a o.dst r) H' K) → o.wpIn Fe n P act w1 (wpListIn Fe n P ops Q os) Q := fun hE => by
      refine wpIn_Q ?_ (EO_ok E hE Fe n hF F1 w1 act (hr.vf.vf o) hr.sat)
      rintro act' w' ⟨v, F', H', r, rfl, h1, h2, h3, h4⟩
      exact ER_ok E hF hQ os _ F' H' w' _ h4 (hr.step hd' h1 h2 h3) (he.trans h3)
    have skip : ER E N ops os (put a o.dst (.t [])) H1 K → wpListIn Fe n P ops Q os (act.put o.dst undef) w1 := fun hE =>
      ER_ok E hF hQ os _ F1 H1 w1 _ hE (hr.step hd' (V.t_of (cs := #[]) (Vs.nil F1)) hr.sat (Ext.refl _ _ _)) he
    have habout : ∀ f, o.about P w1 act.eval = some f → Fe.fn f := fun f _ => hF.fn f
    split at h
    · rename_i hg
      refine wpListIn_plain hg ?_
      intro K' hK'
      exact Oper.wpIn_mono hK' (go h)
    · rename_i j want hg
      split at h
      · rename_i b hb
        have hy := gv_ok hr.vf hb
        have hw : Region.wanted o (yielded ops act.tmps) = (b == want) := by
          simp [Region.wanted, hg, hy]
        unfold wpListIn
        by_cases e : b = want
        · rw [if_pos (by rw [hw]; simp [e])]
          exact go (h.1 e)
        · rw [if_neg (by rw [hw]; simp [e])]
          exact ⟨habout, skip (h.2 (by cases b <;> cases want <;> simp_all))⟩
      · obtain ⟨hu, h⟩ := h
        have hw : Region.wanted o (yielded ops act.tmps) = false := by
          simp [Region.wanted, hg, gu_ok hr.vf hu]
        unfold wpListIn
        rw [if_neg (by rw [hw]; simp)]
        exact ⟨habout, skip h⟩
end Go.Proofs.Yteoepeionomjlaa
