/- General lemmas, over whatever program: what a law is handed, read as lists and numbers. -/
import Derived.Test.YtipblkdekppbfaaL
import Derived.ProofKit
import Derived.OpenShut
import Derived.ShutString
import Derived.ChangeOld
namespace Go.Proofs.Ytipblkdekppbfaa
open Go.ChangeShapes Go.WideShapes Go.ChangeAt Go.RowKit
open Go.ChangeMaps (open_string shut_string)
set_option linter.unusedVariables false

theorem wf_u8 {n : Int} (h : (Lit.int .u8 n).wf = true) : 0 ≤ n ∧ n ≤ 255 := bounds_u8 h
theorem wf_u16 {n : Int} (h : (Lit.int .u16 n).wf = true) : 0 ≤ n ∧ n ≤ 65535 := bounds_u16 h
theorem wf_u32 {n : Int} (h : (Lit.int .u32 n).wf = true) : 0 ≤ n ∧ n ≤ 4294967295 := bounds_u32 h
theorem wf_u64 {n : Int} (h : (Lit.int .u64 n).wf = true) : 0 ≤ n ∧ n ≤ 18446744073709551615 := bounds_u64 h
theorem wf_i64 {n : Int} (h : (Lit.int .i64 n).wf = true) : -9223372036854775808 ≤ n ∧ n ≤ 9223372036854775807 := bounds_i64 h

theorem cells?_get {w : World} {base : Nat} {a : Addr} {n : Nat} {cs : List Value} (h : w.cells? base a n = some cs) : cs.length = n ∧ ∀ j u, cs[j]? = some u → w.cell? (a.add j) = some u := by
  unfold World.cells? at h
  split at h
  · have key : ∀ (l : List Nat) (cs : List Value), l.mapM (fun i => w.cell? (a.add i)) = some cs → cs.length = l.length ∧ ∀ (j : Nat) (u : Value), cs[j]? = some u → ∃ i : Nat, l[j]? = some i ∧ w.cell? (a.add i) = some u := by
      intro l
      induction l with
      | nil => intro cs h; simp at h; subst h; simp
      | cons i l ih =>
        intro cs h
        simp only [List.mapM_cons, Option.bind_eq_bind, Option.bind_eq_some_iff] at h
        obtain ⟨v, hv, vs, hvs, hcs⟩ := h
        simp only [Option.pure_def, Option.some.injEq] at hcs
        subst hcs
        obtain ⟨h1, h2⟩ := ih vs hvs
        refine ⟨by simp [h1], fun j u hu => ?_⟩
        cases j with
        | zero => simp at hu; subst hu; exact ⟨i, rfl, hv⟩
        | succ j => simpa using h2 j u (by simpa using hu)
    obtain ⟨h1, h2⟩ := key _ _ h
    refine ⟨by simpa using h1, fun j u hu => ?_⟩
    obtain ⟨i, hi, hc⟩ := h2 j u hu
    obtain ⟨_, rfl⟩ : j < n ∧ j = i := by
      have := (List.getElem?_eq_some_iff.1 hi)
      obtain ⟨hj, he⟩ := this
      simp at hj he
      exact ⟨hj, he⟩
    exact hc
  · cases h

/-- How cells of the element type that can be read come from elements that are good. -/
def Enc.Reads {α : Type} (E : Enc α) (P : Program) (good : α → Prop) : Prop :=
  ∀ {H : Type} (enc : TypeId × Value → H) (w : World) (base : Nat) (spare : Nat → Bool) (held : Bool) (fuel : Nat) (cs : List Value) (y : DataW H × List MemPlace),
    DataW.trod enc P w base spare held fuel E.e cs = some y → ∃ x, cs = E.f x ∧ good x

theorem list_of {α : Type} (n : Nat) (R : Nat → α → Prop) (h : ∀ i, i < n → ∃ x, R i x) : ∃ l : List α, l.length = n ∧ ∀ i (hi : i < l.length), R i l[i] := by
  induction n with
  | zero => exact ⟨[], rfl, fun i hi => by simp at hi⟩
  | succ n ih =>
    obtain ⟨l, hl, hR⟩ := ih (fun i hi => h i (by omega))
    obtain ⟨x, hx⟩ := h n (by omega)
    refine ⟨l ++ [x], by simp [hl], fun i hi => ?_⟩
    by_cases hin : i < l.length
    · rw [List.getElem_append_left hin]; exact hR i hin
    · have : i = n := by simp [hl] at hi hin; omega
      subst this
      rw [List.getElem_append_right (by omega)]
      simpa [hl] using hx

theorem has_lt {P : Program} {w : World} {r : Reach} {base : Nat} {a : Addr} {e : TypeId} {n : Nat} (h : w.has P r base a e n) : a.spot = none ∧ a.block < w.heap.size := by
  obtain ⟨_, h1, row, cells, h2, _⟩ := h
  refine ⟨h1, ?_⟩
  unfold World.shape? at h2
  cases hb : w.heap[a.block]? with
  | none => simp [hb] at h2
  | some o => exact (Array.getElem?_eq_some_iff.1 hb).1

/-- A slice that a law is handed. -/
theorem open_sl {α : Type} {E : Enc α} {P : Program} {good : α → Prop} (hR : E.Reads P good) (hsz : P.cellsOf E.e = E.sz) {t : TypeId} (ht : P.underlying t = some (.slice E.e))
    {H : Type} {enc : TypeId × Value → H} {W : World} {r : Reach} {base b0 : Nat} {v : Value} {spare : Nat → Bool} {held : Bool} {d : DataW H} {p : List MemPlace}
    (hv : Value.okWide P W r base t v) (h : DataW.Trod enc P W b0 spare held t v d p) :
    ∃ l, Sl E W v l ∧ ∀ x ∈ l, good x := by
  obtain ⟨a, len, cap, rfl⟩ := okWide_slice ht hv
  obtain ⟨fuel, hf⟩ := h
  rcases DataW.trod_slice ht hf with ⟨h0, _⟩ | ⟨ad, len', cap', elems, rest, n, _, h1, _, _, hlc, hm, hl, hel, _, _⟩
  · simp [Value.cells] at h0
    obtain ⟨rfl, rfl, rfl⟩ := h0
    exact ⟨[], Sl.nil E W, fun x hx => by cases hx⟩
  · simp [Value.cells] at h1
    obtain ⟨rfl, rfl, rfl⟩ := h1
    have hhas : ad.spot = none ∧ ad.block < W.heap.size := by
      simp only [Value.okWide, ht, Cell.okWide, Cell.ok] at hv
      exact has_lt hv.2.2
    obtain ⟨b, off, sp⟩ := ad
    obtain ⟨hsp, hlt⟩ := hhas
    simp only at hsp hlt
    subst hsp
    obtain ⟨l, hll, hg⟩ := list_of len (fun i x => good x ∧ ∀ j u, (E.f x)[j]? = some u → W.cell? ⟨b, off + i * E.sz + j, none⟩ = some u) (by
      intro i hi
      have h2 := hel i hi
      rw [List.getElem?_eq_getElem (by omega), Option.bind_eq_some_iff] at h2
      obtain ⟨cs, hcs, hy⟩ := h2
      obtain ⟨x, rfl, hx⟩ := hR _ _ _ _ _ _ _ _ hy
      refine ⟨x, hx, fun j u hu => ?_⟩
      have := (cells?_get hcs).2 j u hu
      rw [hsz, Addr.add_lit, Addr.add_lit] at this
      exact this)
    refine ⟨l, ⟨some ⟨b, off, none⟩, cap, by rw [hll], by omega, hm, (fun h => by cases h), fun x hx _ => ?_⟩, fun x hx => ?_⟩
    · obtain rfl := Option.some.inj hx
      exact ⟨rfl, hlt, fun i hi j u hu => (hg i hi).2 j u hu⟩
    · obtain ⟨i, hi, rfl⟩ := List.getElem_of_mem hx
      exact (hg i hi).1

theorem encB_reads {P : Program} {e : TypeId} (he : P.underlying e = some (.int .u8)) : (encB e).Reads P (fun _ => True) := by
  intro H enc w base spare held fuel cs y h
  obtain ⟨n, rfl, _, hw⟩ := DataW.trod_int (t := e) he h
  have := bounds_u8 hw
  refine ⟨UInt8.ofNat n.toNat, ?_, trivial⟩
  show [Value.int .u8 n] = [Value.int .u8 ((UInt8.ofNat n.toNat).toNat : Int)]
  rw [UInt8.toNat_ofNat', Nat.mod_eq_of_lt (by omega), Int.toNat_of_nonneg this.1]

end Go.Proofs.Ytipblkdekppbfaa
