/- Plain law: what operators do (no program in sight). -/
import Derived.Test.YtmkncbddjnaklaaMC
import Derived.Test.YtmkncbddjnaklaaMD
namespace Go.Proofs.Ytmkncbddjnaklaa
open Go.RowKit
set_option linter.unusedVariables false

structure OpD where
  tag : Int
  width : Int
  ins : List Int
  A : Int
  B : Int
structure CellD where
  count : Int
  sum : Int
def i64b (x : Int) : Prop := -9223372036854775808 ≤ x ∧ x ≤ 9223372036854775807
def OpD.ok (o : OpD) : Prop := i64b o.tag ∧ i64b o.width ∧ i64b o.A ∧ i64b o.B
def CellD.ok (c : CellD) : Prop := i64b c.count ∧ i64b c.sum
abbrev i1 (x : Int) : List AV := [.c (.int .i64 x)]
def OpD.av (o : OpD) : List AV := [.c (.int .i64 o.tag), .c (.int .i64 o.width), .l 1 (o.ins.map i1), .c (.int .i64 o.A), .c (.int .i64 o.B)]
def CellD.av (c : CellD) : List AV := [.c (.int .i64 c.count), .c (.int .i64 c.sum)]
attribute [push_cast] OpD.av CellD.av
def wrap64 (x : Int) : Int := IntKind.i64.wrap x
theorem wrap64_eq (x : Int) : wrap64 x = (x + 9223372036854775808) % 18446744073709551616 - 9223372036854775808 := by
  unfold wrap64; simp [IntKind.wrap, IntKind.signed, IntKind.bits]; omega
theorem wrap64_in {x : Int} (h : -9223372036854775808 ≤ x ∧ x ≤ 9223372036854775807) : wrap64 x = x := by rw [wrap64_eq]; omega

def modS (x y : Int) : Int := if y < 1 then 0 else x % y

/-- a cell behind a value; what comes of it; whether anything does -/
def stepS (o : OpD) (c : CellD) (v : Int) : CellD × Int × Bool :=
  if o.tag = 2 then (c, wrap64 (wrap64 (v * o.A) + o.B), true)
  else if o.tag = 3 then (c, v, modS v o.A == o.B)
  else if o.tag = 4 then (⟨wrap64 (c.count + 1), wrap64 (c.sum + v)⟩, wrap64 (c.sum + v), true)
  else if o.tag = 5 then (if wrap64 (c.count + 1) < o.A then (⟨wrap64 (c.count + 1), wrap64 (c.sum + v)⟩, 0, false) else (⟨0, 0⟩, wrap64 (c.sum + v), true))
  else (c, v, true)

theorem wrap_b (x : Int) : i64b (wrap64 x) := by
  unfold i64b; rw [wrap64_eq]; omega

theorem modS_b (x y : Int) (h : i64b x) (k : i64b y) : i64b (modS x y) := by
  unfold modS i64b at *
  split
  · omega
  · have h1 := Int.emod_nonneg x (show y ≠ 0 by omega)
    have h2 := Int.emod_lt_of_pos x (show 0 < y by omega)
    omega

theorem stepS_ok (o : OpD) (c : CellD) (v : Int) (hc : c.ok) (hv : i64b v) : (stepS o c v).1.ok ∧ i64b (stepS o c v).2.1 := by
  unfold stepS
  split
  · exact ⟨hc, wrap_b _⟩
  · split
    · exact ⟨hc, hv⟩
    · split
      · exact ⟨⟨wrap_b _, wrap_b _⟩, wrap_b _⟩
      · split
        · split
          · exact ⟨⟨wrap_b _, wrap_b _⟩, by unfold i64b; simp⟩
          · exact ⟨⟨by unfold i64b; simp, by unfold i64b; simp⟩, wrap_b _⟩
        · exact ⟨hc, hv⟩

/-- one value more; nothing behind an error -/
def fstep (o : OpD) (s : CellD × List Int × Int) (v : Int) : CellD × List Int × Int :=
  if s.2.2 ≠ 0 then s else if s.1.count = 9223372036854775807 then (s.1, s.2.1, 6)
  else ((stepS o s.1 v).1, s.2.1 ++ (if (stepS o s.1 v).2.2 then [(stepS o s.1 v).2.1] else []), 0)
def flowS (o : OpD) (c : CellD) (vs : List Int) : CellD × List Int × Int := vs.foldl (fstep o) (c, [], 0)
theorem flowS_snoc (o : OpD) (c : CellD) (vs : List Int) (v : Int) : flowS o c (vs ++ [v]) = fstep o (flowS o c vs) v := by simp [flowS, List.foldl_append]

theorem fstep_stuck (o : OpD) (vs : List Int) : ∀ s : CellD × List Int × Int, s.2.2 ≠ 0 → vs.foldl (fstep o) s = s := by
  induction vs with
  | nil => intro s _; rfl
  | cons v vs ih => intro s h; rw [List.foldl_cons, show fstep o s v = s by unfold fstep; rw [if_pos h]]; exact ih s h

theorem fstep_app (o : OpD) (vs : List Int) : ∀ (c : CellD) (out : List Int), vs.foldl (fstep o) (c, out, 0) = ((flowS o c vs).1, out ++ (flowS o c vs).2.1, (flowS o c vs).2.2) := by
  induction vs with
  | nil => intro c out; simp [flowS]
  | cons v vs ih =>
    intro c out
    unfold flowS
    rw [List.foldl_cons, List.foldl_cons]
    by_cases hm : c.count = 9223372036854775807
    · have e1 : fstep o (c, out, 0) v = (c, out, 6) := by simp [fstep, hm]
      have e2 : fstep o (c, [], 0) v = (c, [], 6) := by simp [fstep, hm]
      rw [e1, e2, fstep_stuck _ _ _ (by simp), fstep_stuck _ _ _ (by simp)]
      simp
    · have e1 : ∀ out, fstep o (c, out, 0) v = ((stepS o c v).1, out ++ (if (stepS o c v).2.2 then [(stepS o c v).2.1] else []), 0) := by intro out; simp [fstep, hm]
      rw [e1, e1, ih, ih]
      simp

theorem flowS_cons (o : OpD) (c : CellD) (v : Int) (vs : List Int) (hm : c.count ≠ 9223372036854775807) :
    flowS o c (v :: vs) = ((flowS o (stepS o c v).1 vs).1, (if (stepS o c v).2.2 then [(stepS o c v).2.1] else []) ++ (flowS o (stepS o c v).1 vs).2.1, (flowS o (stepS o c v).1 vs).2.2) := by
  have e1 : fstep o (c, [], 0) v = ((stepS o c v).1, (if (stepS o c v).2.2 then [(stepS o c v).2.1] else []), 0) := by simp [fstep, hm]
  unfold flowS
  rw [List.foldl_cons, e1, fstep_app]
  rfl
theorem flowS_full (o : OpD) (c : CellD) (v : Int) (vs : List Int) (hm : c.count = 9223372036854775807) : flowS o c (v :: vs) = (c, [], 6) := by
  have e1 : fstep o (c, [], 0) v = (c, [], 6) := by simp [fstep, hm]
  unfold flowS
  rw [List.foldl_cons, e1, fstep_stuck _ _ _ (by simp)]

theorem flowS_app (o : OpD) (c : CellD) (xs ys : List Int) (h : (flowS o c xs).2.2 = 0) :
    flowS o c (xs ++ ys) = ((flowS o (flowS o c xs).1 ys).1, (flowS o c xs).2.1 ++ (flowS o (flowS o c xs).1 ys).2.1, (flowS o (flowS o c xs).1 ys).2.2) := by
  show (xs ++ ys).foldl (fstep o) (c, [], 0) = _
  rw [List.foldl_append]
  have : xs.foldl (fstep o) (c, [], 0) = ((flowS o c xs).1, (flowS o c xs).2.1, 0) := by
    show flowS o c xs = _
    rw [← h]
  rw [this, fstep_app]

theorem flowS_len (o : OpD) (vs : List Int) : ∀ c, (flowS o c vs).2.1.length ≤ vs.length := by
  induction vs with
  | nil => intro c; simp [flowS]
  | cons v vs ih =>
    intro c
    by_cases hm : c.count = 9223372036854775807
    · rw [flowS_full _ _ _ _ hm]; simp
    · rw [flowS_cons _ _ _ _ hm]
      have := ih (stepS o c v).1
      simp only [List.length_append, List.length_cons]
      split <;> simp <;> omega

theorem flowS_ok (o : OpD) (vs : List Int) : ∀ c, c.ok → (∀ v ∈ vs, i64b v) → (flowS o c vs).1.ok ∧ ∀ x ∈ (flowS o c vs).2.1, i64b x := by
  induction vs with
  | nil => intro c hc _; simpa [flowS] using hc
  | cons v vs ih =>
    intro c hc hv
    by_cases hm : c.count = 9223372036854775807
    · rw [flowS_full _ _ _ _ hm]; exact ⟨hc, by simp⟩
    · rw [flowS_cons _ _ _ _ hm]
      obtain ⟨h1, h2⟩ := stepS_ok o c v hc (hv v (by simp))
      obtain ⟨h3, h4⟩ := ih (stepS o c v).1 h1 (fun x hx => hv x (by simp [hx]))
      refine ⟨h3, fun x hx => ?_⟩
      rw [List.mem_append] at hx
      rcases hx with hx | hx
      · split at hx
        · simp at hx; rw [hx]; exact h2
        · simp at hx
      · exact h4 x hx

def zeroC : CellD := ⟨0, 0⟩
instance : DecidableEq CellD := fun a b =>
  if h1 : a.count = b.count then
    if h2 : a.sum = b.sum then .isTrue (by cases a; cases b; simp only at h1 h2; subst h1 h2; rfl)
    else .isFalse (fun e => h2 (by rw [e]))
  else .isFalse (fun e => h1 (by rw [e]))

/-- numbers that rise, from 0 on and below a bound -/
def risesS (below : Int) (last : Int) : List Int → Bool
  | [] => true
  | n :: l => decide (last < n) && decide (n < below) && risesS below n l
def aloneS (o : OpD) : Bool :=
  decide (1 ≤ o.width) && decide (o.width ≤ 3) && risesS 8 (-1) o.ins &&
  (if o.tag = 1 then decide (o.ins.length = 0) && decide (0 ≤ o.A) && decide (o.A < 4) && decide (o.B = 0)
   else if o.tag = 2 then decide (o.ins.length = 1)
   else if o.tag = 3 then decide (o.ins.length = 1) && decide (0 < o.A) && decide (0 ≤ o.B) && decide (o.B < o.A)
   else if o.tag = 4 ∨ o.tag = 7 then decide (o.ins.length = 1) && decide (o.A = 0) && decide (o.B = 0)
   else if o.tag = 5 then decide (o.ins.length = 1) && decide (1 ≤ o.A) && decide (o.A ≤ 8) && decide (o.B = 0)
   else if o.tag = 6 then decide (2 ≤ o.ins.length) && decide (o.A = 0) && decide (o.B = 0)
   else false)
def soundS (c : CellD) : Bool := decide (0 < c.count) || decide (c = zeroC)
def fitsS (o : OpD) (c : CellD) : Bool :=
  if o.tag = 4 then soundS c else if o.tag = 5 then soundS c && decide (c.count < o.A) else decide (c = zeroC)

def runS (o : OpD) (c : CellD) (vs : List Int) : CellD × List Int × Int :=
  if aloneS o = false then (zeroC, [], 180) else if fitsS o c = false then (zeroC, [], 181)
  else if (flowS o c vs).2.2 ≠ 0 then (zeroC, [], (flowS o c vs).2.2) else ((flowS o c vs).1, (flowS o c vs).2.1, 0)

theorem alone_tag (o : OpD) (h : aloneS o = true) : 1 ≤ o.tag ∧ o.tag ≤ 7 := by
  unfold aloneS at h
  rw [Bool.and_eq_true] at h
  have h2 := h.2
  repeat' split at h2
  all_goals first | omega | (cases h2)

theorem alone_window (o : OpD) (h : aloneS o = true) (ht : o.tag = 5) : 1 ≤ o.A ∧ o.A ≤ 8 := by
  unfold aloneS at h
  rw [Bool.and_eq_true] at h
  have h2 := h.2
  rw [if_neg (by omega), if_neg (by omega), if_neg (by omega), if_neg (by omega), if_pos ht] at h2
  simp at h2
  omega

theorem fits_step (o : OpD) (c : CellD) (v : Int) (ha : aloneS o = true) (hf : fitsS o c = true) (hok : c.ok) (hm : c.count ≠ 9223372036854775807) : fitsS o (stepS o c v).1 = true := by
  have hw := alone_window o ha
  obtain ⟨⟨h1, h2⟩, h3⟩ := hok
  have hwc : wrap64 (c.count + 1) = c.count + 1 := by rw [wrap64_eq]; omega
  unfold fitsS stepS at *
  by_cases t4 : o.tag = 4
  · simp only [t4, if_true, if_false, show ¬ (4 : Int) = 2 by decide, show ¬ (4 : Int) = 3 by decide] at hf ⊢
    unfold soundS at *
    have hc0 : 0 ≤ c.count := by
      rcases Bool.or_eq_true_iff.1 hf with h | h
      · simp at h; omega
      · have h' : c = zeroC := of_decide_eq_true h; rw [h']; decide
    simp [hwc]; left; omega
  · by_cases t5 : o.tag = 5
    · have hw := hw t5
      simp only [t5, if_true, if_false, show ¬ (5 : Int) = 2 by decide, show ¬ (5 : Int) = 3 by decide, show ¬ (5 : Int) = 4 by decide] at hf ⊢
      rw [Bool.and_eq_true] at hf
      have hc0 : 0 ≤ c.count := by
        unfold soundS at hf
        rcases Bool.or_eq_true_iff.1 hf.1 with h | h
        · simp at h; omega
        · have h' : c = zeroC := of_decide_eq_true h; rw [h']; decide
      split
      · rename_i hlt
        unfold soundS
        rw [hwc] at hlt
        simp [hwc, hlt]; left; omega
      · simp [soundS, zeroC]; omega
    · simp only [t4, t5, if_false] at hf ⊢
      split
      · exact hf
      · split
        · exact hf
        · exact hf
end Go.Proofs.Ytmkncbddjnaklaa
