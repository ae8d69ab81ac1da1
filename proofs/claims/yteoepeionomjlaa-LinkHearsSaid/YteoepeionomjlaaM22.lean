/- More on iterators. -/
import Derived.Test.YteoepeionomjlaaM21
namespace Go.Proofs.Yteoepeionomjlaa
open Go.RowKit
set_option linter.all false
theorem cnt_all {α : Type} {l : List α} {p : α → Bool} {n : Nat} (hn : l.length ≤ n) : cnt p l n = (l.filter p).length := by
  unfold cnt; rw [List.take_of_length_le hn]
section
variable {P : Program} {o : Oper} {a : Nat → AV} {H : Heap} {K : AV → Heap → Prop}
theorem does_app1 {x y : Operand} {t ty : TypeId} {sz by' : Nat} {zs : List Value} {rows : List (List AV)} {row : List AV} {H0 B : Heap} {m cap cap0 : Nat} {tm : TypeId} {x0 : AV} (ho : o.op = .call { callee := .builtin .append, args := #[x, y], argTypes := #[t, t] })
    (hx : ev a x = x0) (hy : ev a y = .s m sz 0 1 cap) (hH : H = upd B m (.r tm sz cap0 [row])) (hown : OwnL B x0 ty sz rows H0) (hm : B m = none) (hE : tE P t = some ty) (hS : tS P ty = some sz) (hB : tB P ty = some by') (hz : tZ P ty = some zs) (hzl : zs.length = sz) (hp : 0 < sz)
    (h63 : rows.length + 1 ≤ maxLen) (hbytes : (rows.length + 1) * by' ≤ 140737488355328) (h : ∀ x' H', OwnL H' x' ty sz (rows ++ [row]) H0 → K x' H') : Does P o a H K := by
  subst hx
  exact does_append1 hown ho hy hH hm hE hS hB hz hzl hp h63 hbytes h
theorem does_appL {x y : Operand} {t ty : TypeId} {sz by' : Nat} {zs : List Value} {rows news : List (List AV)} {H0 : Heap} {x0 : AV} (ho : o.op = .call { callee := .builtin .append, args := #[x, y], argTypes := #[t, t] })
    (hx : ev a x = x0) (hy : ev a y = .l sz news) (hown : OwnL H x0 ty sz rows H0) (hE : tE P t = some ty) (hS : tS P ty = some sz) (hB : tB P ty = some by') (hz : tZ P ty = some zs) (hzl : zs.length = sz) (hp : 0 < sz)
    (h63 : rows.length + news.length ≤ maxLen) (hbytes : (rows.length + news.length) * by' ≤ 140737488355328) (h : ∀ x' H', OwnL H' x' ty sz (rows ++ news) H0 → K x' H') : Does P o a H K := by
  subst hx
  exact does_appendL hown ho hy hE hS hB hz hzl hp h63 hbytes h
end
theorem take_snoc {α : Type} {l : List α} {k : Nat} {x : α} (hx : l[k]? = some x) : l.take (k + 1) = l.take k ++ [x] := by
  obtain ⟨hk, rfl⟩ := List.getElem?_eq_some_iff.1 hx
  exact List.take_succ_eq_append_getElem hk
theorem take_snoc_map {α β : Type} {l : List α} {k : Nat} {x : α} (f : α → β) (hx : l[k]? = some x) : (l.take (k + 1)).map f = (l.take k).map f ++ [f x] := by
  rw [take_snoc hx]; simp
theorem Weak.imp {r r' : AV} {H H' : Heap} (hr : ∀ F : Mem, Imp F F r r') (h : Heap.le H' H) : Weak r H r' H' := fun F w v hv hs =>
  ⟨F, .refl F, hr F v hv, hs.less h, fun _ _ _ h => .inl h, fun n k hk => by rw [h n k hk]; simp⟩
/-! ### whole numbers; arrays of them are compared -/
def ci (n : Int) : AV := .c (.int .i64 n)
def intsOf (k : IntKind) : List Value → Option (List Int)
  | [] => some []
  | .int k' n :: l => if k' = k then (intsOf k l).map (n :: ·) else none
  | _ => none
theorem intsOf_eq {k : IntKind} : ∀ {l : List Value} {xs : List Int}, intsOf k l = some xs → l = xs.map (.int k)
  | [], xs, h => by simp [intsOf] at h; subst h; rfl
  | v :: l, xs, h => by
    unfold intsOf at h
    split at h
    · simp_all
    · rename_i k' n l' e
      split at h
      · rename_i hk
        obtain ⟨ys, hy, rfl⟩ := Option.map_eq_some_iff.1 h
        cases e
        rw [intsOf_eq hy, hk]; rfl
      · cases h
    · cases h
theorem intsOf_nil (k : IntKind) : intsOf k [] = some [] := rfl
theorem intsOf_cons (k : IntKind) (n : Int) (l : List Value) : intsOf k (.int k n :: l) = (intsOf k l).map (n :: ·) := by simp [intsOf]
theorem intsOf_map (k : IntKind) (a : List Int) : intsOf k (a.map fun n => Value.int k n) = some a := by
  induction a with
  | nil => rfl
  | cons x a ih => rw [List.map_cons, intsOf_cons, ih]; rfl
theorem valsOf_ci (a : List Int) : valsOf (a.map ci) = some (a.map fun n => Value.int .i64 n) := by
  induction a with
  | nil => rfl
  | cons x a ih =>
    show (valsOf (a.map ci)).map _ = _
    rw [ih]; rfl
theorem run_eq_ints {P : Program} (w : World) (d : Nat) {t e : TypeId} {n : Nat} {k : IntKind} (hu : P.underlying t = some (.array n e)) (he : P.underlying e = some (.int k)) (hS : tS P e = some 1) (xs ys : List Int) (hx : xs.length = n) (hy : ys.length = n) :
    (Op.equalIn (d + 2) t (.agg (xs.map fun n => Value.int k n).toArray) (.agg (ys.map fun n => Value.int k n).toArray)).run P w = .ok (decide (xs = ys)) w := by
  obtain ⟨i, hi, hi2⟩ : ∃ i, P.info? e = some i ∧ i.size = 1 := by
    unfold tS at hS
    cases h : P.info? e with
    | none => rw [h] at hS; cases hS
    | some i => rw [h] at hS; exact ⟨i, rfl, by simpa using hS⟩
  have hc : P.cellsOf e = 1 := by unfold Program.cellsOf; simp [hi, hi2]
  have he' : ∀ w : World, (underlying e).run P w = .ok (.int k) w := fun w => run_underlying he w
  rw [run_equalIn_array w (d + 1) _ _ hu hi, hc]
  have key : ∀ (m s : Nat), s + m = n → (Op.eqItems (d + 1) e 1 (xs.map fun n => Value.int k n).toArray (ys.map fun n => Value.int k n).toArray (List.range' s m)).run P w = .ok (decide (xs.drop s = ys.drop s)) w := by
    intro m
    induction m with
    | zero => intro s hs; simp [Op.eqItems, List.drop_eq_nil_of_le (show xs.length ≤ s by omega), List.drop_eq_nil_of_le (show ys.length ≤ s by omega)]
    | succ m ih =>
      intro s hs
      have hsx : s < xs.length := by omega
      have hsy : s < ys.length := by omega
      have px : (part e (xs.map fun n => Value.int k n).toArray (s * 1)).run P w = .ok (.int k xs[s]) w := by
        simp [part, isAgg, run_underlying he, List.getElem?_eq_getElem hsx]
      have py : (part e (ys.map fun n => Value.int k n).toArray (s * 1)).run P w = .ok (.int k ys[s]) w := by
        simp [part, isAgg, run_underlying he, List.getElem?_eq_getElem hsy]
      rw [List.range'_succ]
      simp only [Op.eqItems, Sem.run_bind, px, py, Result.andThen_ok, run_equalIn_int w d e k k _ _ he]
      rw [List.drop_eq_getElem_cons hsx, List.drop_eq_getElem_cons hsy]
      have ih' := ih (s + 1) (by omega)
      by_cases e1 : xs[s] = ys[s]
      · simp only [e1, beq_self_eq_true, Bool.not_true, Bool.false_eq_true, if_false, ih', List.cons.injEq, true_and]
      · have : (xs[s] == ys[s]) = false := by simpa using e1
        simp only [this, Bool.not_false, if_true, Sem.run_pure, List.cons.injEq, e1, false_and, decide_false]
  rw [List.range_eq_range']
  have := key n 0 (by omega)
  simpa using this
attribute [push_cast] ci intsOf_nil intsOf_cons intsOf_map valsOf_ci
end Go.Proofs.Yteoepeionomjlaa
