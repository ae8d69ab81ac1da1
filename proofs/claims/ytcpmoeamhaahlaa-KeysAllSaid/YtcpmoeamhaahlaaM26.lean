/- What arguments are, by their types. -/
import Derived.Test.YtcpmoeamhaahlaaM25
namespace Go.Proofs.Ytcpmoeamhaahlaa
open Go.RowKit
set_option linter.all false

section
variable {P : Program} {n : Nat} {t e : TypeId} {row : List AV}
theorem shp_int {k : IntKind} (hu : P.underlying t = some (.int k)) (h : Shp P (n + 1) t row) : ∃ x, row = [.c (.int k x)] ∧ (Lit.int k x).wf = true := by
  unfold Shp at h; rw [hu] at h; exact h
theorem shp_bool (hu : P.underlying t = some .bool) (h : Shp P (n + 1) t row) : ∃ b : Bool, row = [.c (.bool b)] := by
  unfold Shp at h; rw [hu] at h; exact h
theorem shp_string (hu : P.underlying t = some .string) (h : Shp P (n + 1) t row) : ∃ s : ByteArray, row = [.c (.string s)] ∧ s.size ≤ maxLen := by
  unfold Shp at h; rw [hu] at h; exact h
theorem shp_slice {α : Type} {f : α → List AV} {good : α → Prop} {sz : Nat} (hu : P.underlying t = some (.slice e)) (hc : P.cellsOf e = sz) (hR : ∀ r, Shp P n e r → ∃ x, r = f x ∧ good x) (h : Shp P (n + 1) t row) :
    ∃ l : List α, row = [.l sz (l.map f)] ∧ l.length ≤ maxLen ∧ ∀ x ∈ l, good x := by
  unfold Shp at h; rw [hu] at h
  obtain ⟨rows, rfl, h1, h2⟩ := h
  obtain ⟨l, rfl, hl⟩ := rows_of hR rows h2
  exact ⟨l, by rw [hc], by simpa using h1, hl⟩
theorem shp_struct {fs : Array Field} (ts : List TypeId) (hu : P.underlying t = some (.struct fs)) (ht : fs.toList.map (·.type) = ts) (h : Shp P (n + 1) t row) : ShpL (Shp P n) ts row := by
  unfold Shp at h; rw [hu] at h; rw [← ht]; exact h
theorem shp_arr {m : Nat} (hu : P.underlying t = some (.array m e)) (h : Shp P (n + 1) t row) : ShpL (Shp P n) (List.replicate m e) row := by
  unfold Shp at h; rw [hu] at h; exact h
theorem shpL_cons {S : TypeId → List AV → Prop} {ts : List TypeId} (h : ShpL S (t :: ts) row) : ∃ p rest, row = p ++ rest ∧ S t p ∧ ShpL S ts rest := h
theorem shpL_nil {S : TypeId → List AV → Prop} (h : ShpL S [] row) : row = [] := h
theorem shpL_ints {k : IntKind} (hu : P.underlying e = some (.int k)) : ∀ (m : Nat) (row : List AV), ShpL (Shp P (n + 1)) (List.replicate m e) row → ∃ l : List Int, row = l.map (fun x => AV.c (.int k x)) ∧ l.length = m ∧ ∀ x ∈ l, (Lit.int k x).wf = true
  | 0, row, h => ⟨[], by rw [shpL_nil h]; rfl, rfl, by simp⟩
  | m + 1, row, h => by
    obtain ⟨p, rest, rfl, h1, h2⟩ := shpL_cons h
    obtain ⟨x, rfl, hx⟩ := shp_int hu h1
    obtain ⟨l, rfl, h3, h4⟩ := shpL_ints hu m rest h2
    exact ⟨x :: l, rfl, by simp [h3], by simp only [List.mem_cons, forall_eq_or_imp]; exact ⟨hx, h4⟩⟩
end
end Go.Proofs.Ytcpmoeamhaahlaa
