/- What a law is handed, read as abstract values. -/
import Derived.Test.YteoepeionomjlaaM17
import Derived.ProofKit
import Derived.OpenShut
import Derived.ShutString
import Derived.ChangeOld
namespace Go.Proofs.Yteoepeionomjlaa
open Go.RowKit
set_option linter.all false

/-- the parts of a struct or array, one behind the other -/
def ShpL (S : TypeId → List AV → Prop) : List TypeId → List AV → Prop
  | [], row => row = []
  | t :: ts, row => ∃ p rest, row = p ++ rest ∧ S t p ∧ ShpL S ts rest

/-- the cells of a value of a type -/
def Shp (P : Program) : Nat → TypeId → List AV → Prop
  | 0, _, _ => False
  | n + 1, t, row =>
    match P.underlying t with
    | some .bool => ∃ b : Bool, row = [.c (.bool b)]
    | some (.int k) => ∃ x, row = [.c (.int k x)] ∧ (Lit.int k x).wf = true
    | some .string => ∃ s : ByteArray, row = [.c (.string s)] ∧ s.size ≤ maxLen
    | some (.slice e) => ∃ rows : List (List AV), row = [.l (P.cellsOf e) rows] ∧ rows.length ≤ maxLen ∧ ∀ r ∈ rows, Shp P n e r
    | some (.struct fs) => ShpL (Shp P n) (fs.toList.map (·.type)) row
    | some (.array m e) => ShpL (Shp P n) (List.replicate m e) row
    | _ => False

def laidFrom (P : Program) : List Field → Nat → Option Nat
  | [], off => some off
  | f :: fs, off => if f.offset = off then laidFrom P fs (off + P.cellsOf f.type) else none

def okT (P : Program) : Nat → TypeId → Bool
  | 0, _ => false
  | n + 1, t =>
    match P.underlying t with
    | some .bool | some (.int _) | some .string => P.cellsOf t == 1
    | some (.slice e) => P.cellsOf t == 1 && decide (0 < P.cellsOf e) && okT P n e
    | some (.struct fs) => laidFrom P fs.toList 0 == some (P.cellsOf t) && fs.toList.all fun f => okT P n f.type
    | some (.array m e) => P.cellsOf t == m * P.cellsOf e && okT P n e
    | _ => false

def Okr (F : Mem) (row : List AV) (cs : List Value) : Prop := Vs F row cs ∧ ∀ y ∈ row, y.one = true

theorem Okr.one {F : Mem} {y : AV} {v : Value} (h : V F y v) (ho : y.one = true) : Okr F [y] [v] := ⟨Vs.cons h (Vs.nil F), by simp [ho]⟩
theorem Okr.append {F : Mem} {r1 r2 : List AV} {c1 c2 : List Value} (h : Okr F r1 c1) (k : Okr F r2 c2) : Okr F (r1 ++ r2) (c1 ++ c2) :=
  ⟨h.1.append k.1, fun y hy => by exact (List.mem_append.1 hy).elim (h.2 y) (k.2 y)⟩

theorem cells_get {w : World} {base : Nat} {a : Addr} {n : Nat} {cs : List Value} (h : w.cells? base a n = some cs) : cs.length = n ∧ ∀ j u, cs[j]? = some u → w.cell? (a.add j) = some u := by
  unfold World.cells? at h
  split at h
  · have key : ∀ (l : List Nat) (cs : List Value), l.mapM (fun i => w.cell? (a.add i)) = some cs → cs.length = l.length ∧ ∀ (j : Nat) (u : Value), cs[j]? = some u → ∃ i : Nat, l[j]? = some i ∧ w.cell? (a.add i) = some u := by
      intro l
      induction l with
      | nil => intro cs h; simp at h; subst h; simp
      | cons i l ih =>
        intro cs h
        simp only [List.mapM_cons, Option.bind_eq_bind, Option.bind_eq_some_iff] at h
        obtain ⟨v, hv, vs, hvs, hcs⟩ := h
        simp only [Option.pure_def, Option.some.injEq] at hcs
        subst hcs
        obtain ⟨h1, h2⟩ := ih vs hvs
        refine ⟨by simp [h1], fun j u hu => ?_⟩
        cases j with
        | zero => simp at hu; subst hu; exact ⟨i, rfl, hv⟩
        | succ j => simpa using h2 j u (by simpa using hu)
    obtain ⟨h1, h2⟩ := key _ _ h
    refine ⟨by simpa using h1, fun j u hu => ?_⟩
    obtain ⟨i, hi, hc⟩ := h2 j u hu
    obtain ⟨_, rfl⟩ : j < n ∧ j = i := by
      have := (List.getElem?_eq_some_iff.1 hi)
      obtain ⟨hj, he⟩ := this
      simp at hj he
      exact ⟨hj, he⟩
    exact hc
  · cases h

theorem shp_parts {P : Program} {F : Mem} {S : TypeId → List AV → Prop} {cs : List Value} : ∀ (fs : List Field) (off tot : Nat), laidFrom P fs off = some tot → cs.length = tot →
    (∀ f ∈ fs, ∃ row, Okr F row ((cs.drop f.offset).take (P.cellsOf f.type)) ∧ S f.type row) → ∃ row, Okr F row (cs.drop off) ∧ ShpL S (fs.map (·.type)) row
  | [], off, tot, h, hl, hp => by
    simp only [laidFrom, Option.some.injEq] at h
    refine ⟨[], ⟨?_, by simp⟩, rfl⟩
    rw [List.drop_eq_nil_of_le (by omega)]; exact Vs.nil F
  | f :: fs, off, tot, h, hl, hp => by
    simp only [laidFrom] at h
    split at h
    · rename_i e
      obtain ⟨p, p1, p2⟩ := hp f (by simp)
      obtain ⟨rest, r1, r2⟩ := shp_parts fs _ tot h hl (fun g hg => hp g (by simp [hg]))
      refine ⟨p ++ rest, ?_, p, rest, rfl, p2, r2⟩
      rw [e] at p1
      have := p1.append r1
      rwa [← List.drop_drop, List.take_append_drop] at this
    · cases h

theorem shp_array {F : Mem} {S : TypeId → List AV → Prop} {e : TypeId} {k : Nat} {cs : List Value} : ∀ (m i : Nat), cs.length = (i + m) * k →
    (∀ j, j < i + m → ∃ row, Okr F row ((cs.drop (j * k)).take k) ∧ S e row) → ∃ row, Okr F row (cs.drop (i * k)) ∧ ShpL S (List.replicate m e) row
  | 0, i, hl, hp => by
    refine ⟨[], ⟨?_, by simp⟩, rfl⟩
    rw [List.drop_eq_nil_of_le (by rw [hl]; simp)]; exact Vs.nil F
  | m + 1, i, hl, hp => by
    obtain ⟨p, p1, p2⟩ := hp i (by omega)
    obtain ⟨rest, r1, r2⟩ := shp_array m (i + 1) (by rw [hl]; congr 1; omega) (fun j hj => hp j (by omega))
    refine ⟨p ++ rest, ?_, p, rest, rfl, p2, r2⟩
    have := p1.append r1
    rwa [Nat.add_mul, Nat.one_mul, ← List.drop_drop, List.take_append_drop] at this

theorem shp_of {P : Program} {H : Type} {enc : TypeId × Value → H} {w : World} {base : Nat} {spare : Nat → Bool} {held : Bool} : ∀ (n : Nat) (t : TypeId), okT P n t = true → ∀ (fuel : Nat) (cs : List Value) (x : DataW H × List MemPlace),
    DataW.trod enc P w base spare held fuel t cs = some x → ∃ row, Okr (F0 w) row cs ∧ Shp P n t row := by
  intro n
  induction n with
  | zero => intro t h; cases h
  | succ n ih =>
    intro t hok fuel cs x h
    unfold okT at hok
    unfold Shp
    split at hok
    · rename_i ht
      obtain ⟨b, rfl, _⟩ := DataW.trod_bool ht h
      exact ⟨_, Okr.one (.c _) rfl, ⟨b, rfl⟩⟩
    · rename_i k ht
      obtain ⟨z, rfl, _, hw⟩ := DataW.trod_int ht h
      exact ⟨_, Okr.one (.c _) rfl, ⟨z, rfl, hw⟩⟩
    · rename_i ht
      obtain ⟨s, rfl, _, hw⟩ := DataW.trod_string ht h
      exact ⟨_, Okr.one (.c _) rfl, ⟨s, rfl, hw⟩⟩
    · rename_i e ht
      simp only [Bool.and_eq_true, decide_eq_true_eq] at hok
      obtain ⟨⟨h1, hpos⟩, he⟩ := hok
      rcases DataW.trod_slice ht h with ⟨rfl, _⟩ | ⟨a, len, cap, elems, rest, m, rfl, rfl, _, _, hlc, hm, hl, hel, _, _⟩
      · refine ⟨[.l (P.cellsOf e) []], Okr.one (.l _ [] none 0 0 (fun _ _ => undef) rfl (Nat.le_refl _) (Nat.zero_le _) (fun _ => rfl) (by simp) (fun i j y hy => by simp [at2] at hy) (fun i j y hy => by simp [at2] at hy) (fun ad h => by cases h)) rfl, [], rfl, by simp, by simp⟩
      · have hrow : ∀ i, i < len → ∃ row cs, w.cells? base (a.add (i * P.cellsOf e)) (P.cellsOf e) = some cs ∧ Okr (F0 w) row cs ∧ Shp P n e row := fun i hi => by
          have h2 := hel i hi
          rw [List.getElem?_eq_getElem (by omega), Option.bind_eq_some_iff] at h2
          obtain ⟨cs, hcs, hy⟩ := h2
          obtain ⟨row, r1, r2⟩ := ih e he _ _ _ hy
          exact ⟨row, cs, hcs, r1, r2⟩
        have pick : ∃ (rw_ : Nat → List AV) (cs_ : Nat → List Value), ∀ i, i < len → w.cells? base (a.add (i * P.cellsOf e)) (P.cellsOf e) = some (cs_ i) ∧ Okr (F0 w) (rw_ i) (cs_ i) ∧ Shp P n e (rw_ i) := by
          classical
          refine ⟨fun i => if hi : i < len then Classical.choose (hrow i hi) else [], fun i => if hi : i < len then Classical.choose (Classical.choose_spec (hrow i hi)) else [], fun i hi => ?_⟩
          simp only [dif_pos hi]
          exact Classical.choose_spec (Classical.choose_spec (hrow i hi))
        obtain ⟨rw_, cs_, hpk⟩ := pick
        have hat : ∀ (i j : Nat) (y : AV), at2 ((List.range len).map rw_) i j = some y → i < len ∧ (rw_ i)[j]? = some y := fun i j y hy => by
          obtain ⟨r, hr, hj⟩ := at2_some.1 hy
          rw [List.getElem?_map] at hr
          cases h3 : (List.range len)[i]? with
          | none => rw [h3] at hr; cases hr
          | some i' =>
            rw [h3] at hr
            simp only [Option.map_some, Option.some.injEq] at hr
            have := List.getElem?_eq_some_iff.1 h3
            obtain ⟨g1, g2⟩ := this
            simp at g1 g2
            subst g2; subst hr
            exact ⟨g1, hj⟩
        have hlen : ∀ i, i < len → (rw_ i).length = P.cellsOf e := fun i hi => by
          obtain ⟨g1, g2, _⟩ := hpk i hi
          rw [g2.1.1]; exact (cells_get g1).1
        refine ⟨[.l (P.cellsOf e) ((List.range len).map rw_)], Okr.one (.l _ _ (some a) len cap (fun i j => (cs_ i).getD j undef) (by simp) hlc hm (fun h => by cases h) ?_ ?_ ?_ ?_) rfl, _, rfl, by simp; omega, ?_⟩
        · intro r hr
          obtain ⟨i, hi, rfl⟩ := List.mem_map.1 hr
          exact hlen i (by simpa using hi)
        · intro i j y hy
          obtain ⟨hi, hj⟩ := hat i j y hy
          exact (hpk i hi).2.1.2 y (List.mem_of_getElem? hj)
        · intro i j y hy
          obtain ⟨hi, hj⟩ := hat i j y hy
          exact (hpk i hi).2.1.1.2 j y hj
        · intro ad had hpos'
          cases had
          have key : ∀ i j u, i < len → (cs_ i)[j]? = some u → w.cell? ((a.add (i * P.cellsOf e)).add j) = some u := fun i j u hi hu => (cells_get (hpk i hi).1).2 j u hu
          have h0 : 0 < len := by simpa using hpos'
          have hsp : a.spot = none := by
            have g1 := (cells_get (hpk 0 h0).1).1
            have g2 := key 0 0 _ h0 (List.getElem?_eq_getElem (by omega))
            rw [Nat.zero_mul] at g2
            simp only [Addr.add, if_true] at g2
            cases hs : a.spot with
            | none => rfl
            | some s =>
              unfold World.cell? at g2
              split at g2
              · rw [hs] at g2; cases g2
              · cases g2
          obtain ⟨b, o, sp⟩ := a
          simp only at hsp; subst hsp
          refine ⟨rfl, fun i j y hy => ?_⟩
          obtain ⟨hi, hj⟩ := hat i j y hy
          have hjl : j < (cs_ i).length := by
            rw [← (hpk i hi).2.1.1.1]; exact (List.getElem?_eq_some_iff.1 hj).1
          have := key i j _ hi (List.getElem?_eq_getElem hjl)
          rw [Addr.add_lit, Addr.add_lit] at this
          show w.cell? _ = _
          rw [this]
          simp [List.getD_eq_getElem?_getD, hjl]
        · intro r hr
          obtain ⟨i, hi, rfl⟩ := List.mem_map.1 hr
          exact (hpk i (by simpa using hi)).2.2
    · rename_i fs ht
      simp only [Bool.and_eq_true, beq_iff_eq, List.all_eq_true] at hok
      obtain ⟨h1, h2⟩ := hok
      obtain ⟨xs, m, rfl, rfl, hcl, hxl, hf⟩ := DataW.trod_struct ht h
      have := shp_parts (F := F0 w) (S := Shp P n) fs.toList 0 _ h1 hcl (fun f hfm => by
        obtain ⟨i, hi⟩ := List.getElem?_of_mem hfm
        rw [Array.getElem?_toList] at hi
        have hi2 : i < fs.size := (Array.getElem?_eq_some_iff.1 hi).1
        have g := hf i f hi
        rw [List.getElem?_eq_getElem (by omega)] at g
        exact ih f.type (h2 f hfm) _ _ _ g)
      simpa using this
    · rename_i k e ht
      simp only [Bool.and_eq_true, beq_iff_eq] at hok
      obtain ⟨h1, h2⟩ := hok
      obtain ⟨xs, m, rfl, rfl, hcl, hxl, hf⟩ := DataW.trod_array ht h
      have := shp_array (F := F0 w) (S := Shp P n) (e := e) (k := P.cellsOf e) (cs := cs) k 0 (by rw [hcl, h1]; simp) (fun j hj => by
        have hj' : j < k := by omega
        have g := hf j hj'
        rw [List.getElem?_eq_getElem (by omega)] at g
        exact ih e h2 _ _ _ g)
      simpa using this
    · cases hok

/-- an argument that is no struct and no array -/
theorem open_one {P : Program} {H : Type} {enc : TypeId × Value → H} {w : World} {r : Reach} {base base0 : Nat} {spare : Nat → Bool} {held : Bool} (n : Nat) {t : TypeId} {v : Value} {d : DataW H} {p : List MemPlace} (hok : okT P n t = true) (ha : tA P t = some false)
    (hv : Value.okWide P w r base0 t v) (h : DataW.Trod enc P w base spare held t v d p) : ∃ y, V (F0 w) y v ∧ Shp P n t [y] := by
  obtain ⟨fuel, hf⟩ := h
  obtain ⟨row, h1, h2⟩ := shp_of n t hok fuel _ _ hf
  have hc : v.cells.toList = [v] := by
    cases v with
    | agg cs =>
      exfalso
      unfold tA at ha
      unfold Value.okWide at hv
      cases hu : P.underlying t with
      | none => rw [hu] at ha; cases ha
      | some ds =>
        rw [hu] at ha hv
        cases n with
        | zero => cases hok
        | succ n =>
          unfold okT at hok
          rw [hu] at hok
          cases ds <;> simp [isAggD] at ha hok <;> simp [Cell.okWide, Cell.ok, hu] at hv
    | _ => rfl
  rw [hc] at h1
  have hl := h1.1.1
  match row, hl with
  | [y], _ =>
    obtain ⟨v', vs', e, g1, _⟩ := h1.1.cons_inv
    cases e
    exact ⟨y, g1, h2⟩

/-- an argument that is a struct or an array -/
theorem open_agg {P : Program} {H : Type} {enc : TypeId × Value → H} {w : World} {r : Reach} {base base0 : Nat} {spare : Nat → Bool} {held : Bool} (n : Nat) {t : TypeId} {v : Value} {d : DataW H} {p : List MemPlace} (hok : okT P n t = true) (ha : tA P t = some true)
    (hv : Value.okWide P w r base0 t v) (h : DataW.Trod enc P w base spare held t v d p) : ∃ row, V (F0 w) (.g row) v ∧ Shp P n t row := by
  obtain ⟨fuel, hf⟩ := h
  obtain ⟨row, h1, h2⟩ := shp_of n t hok fuel _ _ hf
  have hc : ∃ cs, v = .agg cs := by
    unfold tA at ha
    unfold Value.okWide at hv
    cases hu : P.underlying t with
    | none => rw [hu] at ha; cases ha
    | some ds =>
      rw [hu] at ha hv
      cases ds <;> simp [isAggD] at ha
      · obtain ⟨cs, rfl, _⟩ := hv; exact ⟨cs, rfl⟩
      · obtain ⟨cs, rfl, _⟩ := hv; exact ⟨cs, rfl⟩
  obtain ⟨cs, rfl⟩ := hc
  exact ⟨row, V.g_of h1.1 h1.2, h2⟩

/-- rows that are all of a kind -/
theorem rows_of {α : Type} {f : α → List AV} {good : α → Prop} {R : List AV → Prop} (hR : ∀ r, R r → ∃ x, r = f x ∧ good x) : ∀ rows : List (List AV), (∀ r ∈ rows, R r) → ∃ l : List α, rows = l.map f ∧ ∀ x ∈ l, good x
  | [], _ => ⟨[], rfl, by simp⟩
  | r :: rows, h => by
    obtain ⟨x, rfl, hx⟩ := hR r (h r (by simp))
    obtain ⟨l, rfl, hl⟩ := rows_of hR rows (fun r hr => h r (by simp [hr]))
    exact ⟨x :: l, rfl, by simp only [List.mem_cons, forall_eq_or_imp]; exact ⟨hx, hl⟩⟩
end Go.Proofs.Yteoepeionomjlaa
