/- What arguments are, by their types. -/
import Derived.Test.YteoepeionomjlaaM25
namespace Go.Proofs.Yteoepeionomjlaa
open Go.RowKit
set_option linter.all false

section
variable {P : Program} {n : Nat} {t e : TypeId} {row : List AV}
theorem shp_int {k : IntKind} (hu : P.underlying t = some (.int k)) (h : Shp P (n + 1) t row) : ∃ x, row = [.c (.int k x)] ∧ (Lit.int k x).wf = true := by
  unfold Shp at h; rw [hu] at h; exact h
theorem shp_bool (hu : P.underlying t = some .bool) (h : Shp P (n + 1) t row) : ∃ b : Bool, row = [.c (.bool b)] := by
  unfold Shp at h; rw [hu] at h; exact h
theorem shp_string (hu : P.underlying t = some .string) (h : Shp P (n + 1) t row) : ∃ s : ByteArray, row = [.c (.string s)] ∧ s.size ≤ maxLen := by
  unfold Shp at h; rw [hu] at h; exact h
theorem shp_slice {α : Type} {f : α → List AV} {good : α → Prop} {sz : Nat} (hu : P.underlying t = some (.slice e)) (hc : P.cellsOf e = sz) (hR : ∀ r, Shp P n e r → ∃ x, r = f x ∧ good x) (h : Shp P (n + 1) t row) :
    ∃ l : List α, row = [.l sz (l.map f)] ∧ l.length ≤ maxLen ∧ ∀ x ∈ l, good x := by
  unfold Shp at h; rw [hu] at h
  obtain ⟨rows, rfl, h1, h2⟩ := h
  obtain ⟨l, rfl, hl⟩ := rows_of hR rows h2
  exact ⟨l, by rw [hc], by simpa using h1, hl⟩
theorem shp_struct {fs : Array Field} (ts : List TypeId) (hu : P.underlying t = some (.struct fs)) (ht : fs.toList.map (·.type) = ts) (h : Shp P (n + 1) t row) : ShpL (Shp P n) ts row := by
  unfold Shp at h; rw [hu] at h; rw [← ht]; exact h
theorem shp_arr {m : Nat} (hu : P.underlying t = some (.array m e)) (h : Shp P (n + 1) t row) : ShpL (Shp P n) (List.replicate m e) row := by
  unfold Shp at h; rw [hu] at h; exact h
theorem shpL_cons {S : TypeId → List AV → Prop} {ts : List TypeId} (h : ShpL S (t :: ts) row) : ∃ p rest, row = p ++ rest ∧ S t p ∧ ShpL S ts rest := h
theorem shpL_nil {S : TypeId → List AV → Prop} (h : ShpL S [] row) : row = [] := h
theorem shpL_ints {k : IntKind} (hu : P.underlying e = some (.int k)) : ∀ (m : Nat) (row : List AV), ShpL (Shp P (n + 1)) (List.replicate m e) row → ∃ l : List Int, row = l.map (fun x => AV.c (.int k x)) ∧ l.length = m ∧ ∀ x ∈ l, (Lit.int k x).wf = true
  | 0, row, h => ⟨[], by rw [shpL_nil h]; rfl, rfl, by simp⟩
  | m + 1, row, h => by
    obtain ⟨p, rest, rfl, h1, h2⟩ := shpL_cons h
    obtain ⟨x, rfl, hx⟩ := shp_int hu h1
    obtain ⟨l, rfl, h3, h4⟩ := shpL_ints hu m rest h2
    exact ⟨x :: l, rfl, by simp [h3], by simp only [List.mem_cons, forall_eq_or_imp]; exact ⟨hx, h4⟩⟩
end
structure Nx2 (p h : Prop) : Prop where
  p : p
  h : h
theorem AW_rangeN {P : Program} {N : Nat} {a : Nat → AV} {H : Heap} {Q : Post} {α : Type} {g : Operand} {ps : Array Tmp} {assign body : Code} {gf : FuncId} {caps : List AV} {l : List α} {f : α → List AV}
    (hg : ev a g = .f (.func gf) [] caps) (hit : PIter P gf caps (l.map f)) (hps : ∀ x, (f x).length = ps.size) (hpN : ∀ p ∈ ps.toList, p < N)
    (inv : Nat → Prop) (hp : Nat → Heap) (h0 : inv 0) (hH : Heap.le (hp 0) H)
    (round : ∀ k x, l[k]? = some x → inv k → AW P N assign (putAll a ps.toList (f x)) (hp k) (thenA (fun a1 B2 => AW P N body a1 B2 (roundQ (fun B' => Nx2 (inv (k + 1)) (Heap.le (hp (k + 1)) B')) (fun e B' => Q e a B'))) (fun _ _ _ => False)))
    (done : inv l.length → Q .normal a (hp l.length)) : AW P N (.rangeFunc g ps assign body) a H Q :=
  AW_rangeM hg hit hps hpN (σ := Unit) (fun k _ => inv k) (fun k _ => hp k) (fun e B' => Q e a B') () h0 hH
    (fun k x _ hx hi => (round k x hx hi).mono fun e a1 B2 h => (match e, h with
      | .normal, h => AW.mono h fun e a' B' q => (match e, q with
          | .normal, q => ⟨(), Nx2.p q, Nx2.h q⟩
          | .ret, q => q
          | .exit _, q => q
          | .goto _, q => q)
      | .ret, h => h
      | .exit _, h => h
      | .goto _, h => h)) (fun _ hi => done hi) (fun e B' h => h)
end Go.Proofs.Yteoepeionomjlaa
