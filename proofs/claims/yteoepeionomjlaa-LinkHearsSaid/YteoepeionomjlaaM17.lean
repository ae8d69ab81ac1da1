/- What is written no more, frozen; contracts made weaker; a law out of a contract. -/
import Derived.Test.YteoepeionomjlaaM16
namespace Go.Proofs.Yteoepeionomjlaa
open Go.RowKit
set_option linter.all false

mutual
/-- pointers and slices into the block n are read as what they lead to -/
def frz (n sz : Nat) (rows : List (List AV)) : AV → AV
  | .p m sz' i j => if m = n ∧ sz' = sz then (match rows[i]? with | some e => .q e j | none => .p m sz' i j) else .p m sz' i j
  | .s m sz' i len cap => if m = n ∧ sz' = sz ∧ i + len ≤ rows.length then .l sz ((rows.drop i).take len) else .s m sz' i len cap
  | .q e j => .q (frzL n sz rows e) j
  | .l sz' rs => .l sz' (frzR n sz rows rs)
  | .g xs => .g (frzL n sz rows xs)
  | .t xs => .t (frzL n sz rows xs)
  | .f fn xs ys => .f fn (frzL n sz rows xs) (frzL n sz rows ys)
  | .x => .x
  | .c v => .c v
def frzL (n sz : Nat) (rows : List (List AV)) : List AV → List AV
  | [] => []
  | y :: ys => frz n sz rows y :: frzL n sz rows ys
def frzR (n sz : Nat) (rows : List (List AV)) : List (List AV) → List (List AV)
  | [] => []
  | y :: ys => frzL n sz rows y :: frzR n sz rows ys
end

theorem frzL_map (n sz : Nat) (rows : List (List AV)) : ∀ l, frzL n sz rows l = l.map (frz n sz rows)
  | [] => by simp [frzL]
  | y :: ys => by simp [frzL, frzL_map n sz rows ys]
theorem frzR_map (n sz : Nat) (rows : List (List AV)) : ∀ l, frzR n sz rows l = l.map (frzL n sz rows)
  | [] => by simp [frzR]
  | y :: ys => by simp [frzR, frzR_map n sz rows ys]
theorem frzL_none {n sz : Nat} {rows : List (List AV)} {α : Type} {f : α → AV} (h : ∀ x, frz n sz rows (f x) = f x) (l : List α) : frzL n sz rows (l.map f) = l.map f := by
  rw [frzL_map]; simp [h]
theorem frzR_none {n sz : Nat} {rows : List (List AV)} {α : Type} {f : α → List AV} (h : ∀ x, frzL n sz rows (f x) = f x) (l : List α) : frzR n sz rows (l.map f) = l.map f := by
  rw [frzR_map]; simp [h]

theorem frz_one {n sz : Nat} {rows : List (List AV)} (y : AV) : (frz n sz rows y).one = y.one := by
  cases y <;> simp only [frz]
  · split
    · split <;> rfl
    · rfl
  · rfl
  · split <;> rfl
  · rfl
  · rfl
  · rfl
  · rfl

theorem at2_frzR {n sz : Nat} {rows l : List (List AV)} {i j : Nat} {y : AV} (h : at2 (frzR n sz rows l) i j = some y) : ∃ z, at2 l i j = some z ∧ y = frz n sz rows z := by
  obtain ⟨e, he, hj⟩ := at2_some.1 h
  rw [frzR_map, List.getElem?_map] at he
  cases h1 : l[i]? with
  | none => rw [h1] at he; cases he
  | some e' =>
    rw [h1] at he
    simp only [Option.map_some, Option.some.injEq] at he
    subst he
    rw [frzL_map, List.getElem?_map] at hj
    cases h2 : e'[j]? with
    | none => rw [h2] at hj; cases hj
    | some z =>
      rw [h2] at hj
      simp only [Option.map_some, Option.some.injEq] at hj
      exact ⟨z, at2_some.2 ⟨e', h1, h2⟩, hj.symm⟩
theorem get_frzL {n sz : Nat} {rows : List (List AV)} {l : List AV} {i : Nat} {y : AV} (h : (frzL n sz rows l)[i]? = some y) : ∃ z, l[i]? = some z ∧ y = frz n sz rows z := by
  rw [frzL_map, List.getElem?_map] at h
  cases h1 : l[i]? with
  | none => rw [h1] at h; cases h
  | some z => rw [h1] at h; simp only [Option.map_some, Option.some.injEq] at h; exact ⟨z, rfl, h.symm⟩
theorem len_frzL {n sz : Nat} {rows : List (List AV)} (l : List AV) : (frzL n sz rows l).length = l.length := by rw [frzL_map]; simp
theorem len_frzR {n sz : Nat} {rows : List (List AV)} (l : List (List AV)) : (frzR n sz rows l).length = l.length := by rw [frzR_map]; simp

theorem V.frz {F F' : Mem} (hF : F.le F') {n sz : Nat} {rows : List (List AV)} {u : Nat → Nat → Value} (hl : ∀ e ∈ rows, e.length = sz) (hr : ∀ i j y, at2 rows i j = some y → y.one = true ∧ V F' y (u i j) ∧ F' n (i * sz + j) = some (u i j)) :
    ∀ {y : AV} {v : Value}, V F y v → V F' (Go.Proofs.Yteoepeionomjlaa.frz n sz rows y) v := by
  intro y v h
  induction h with
  | x v => simp only [Go.Proofs.Yteoepeionomjlaa.frz]; exact .x v
  | c v => simp only [Go.Proofs.Yteoepeionomjlaa.frz]; exact .c v
  | p m sz' i j =>
    simp only [Go.Proofs.Yteoepeionomjlaa.frz]
    split
    · rename_i hm; obtain ⟨rfl, rfl⟩ := hm
      split
      · rename_i e he
        exact .q e j m (i * sz') (fun k => u i k) (fun k y hy => (hr i k y (at2_some.2 ⟨e, he, hy⟩)).1) (fun k y hy => (hr i k y (at2_some.2 ⟨e, he, hy⟩)).2.1) (fun k y hy => (hr i k y (at2_some.2 ⟨e, he, hy⟩)).2.2)
      · exact .p ..
    · exact .p ..
  | q e j b o u' h1 h2 h3 ih =>
    simp only [Go.Proofs.Yteoepeionomjlaa.frz]
    refine .q _ j b o u' (fun k y hy => ?_) (fun k y hy => ?_) (fun k y hy => ?_)
    · obtain ⟨z, hz, rfl⟩ := get_frzL hy; rw [frz_one]; exact h1 k z hz
    · obtain ⟨z, hz, rfl⟩ := get_frzL hy; exact ih k z hz
    · obtain ⟨z, hz, rfl⟩ := get_frzL hy; exact hF _ _ _ (h3 k z hz)
  | s m sz' i len cap o h1 h2 h3 =>
    simp only [Go.Proofs.Yteoepeionomjlaa.frz]
    split
    · rename_i hm; obtain ⟨rfl, rfl, hle⟩ := hm
      have hlen : ((rows.drop i).take len).length = len := by simp; omega
      have hat : ∀ (i' j : Nat) (y : AV), at2 ((rows.drop i).take len) i' j = some y → at2 rows (i + i') j = some y := fun i' j y hy => by
        have := (at2_take hy).1; rwa [at2_drop] at this
      refine .l sz' _ _ len cap (fun a b => u (i + a) b) hlen.symm (by omega) h3 (fun h => by cases h) (fun e he => hl e (List.mem_of_mem_drop (List.mem_of_mem_take he))) (fun a b y hy => (hr _ b y (hat a b y hy)).1) (fun a b y hy => (hr _ b y (hat a b y hy)).2.1) ?_
      intro ad had hc
      cases had
      rw [hlen] at hc
      refine ⟨rfl, fun a b y hy => ?_⟩
      rw [h1 (.inl (by omega))]
      have := (hr _ b y (hat a b y hy)).2.2
      rw [← this]; congr 1; rw [Nat.add_mul]
    · exact .s _ _ _ _ _ o h1 h2 h3
  | l sz' rs a len cap u' h0 h1 h2 h3 h4 h5 h6 h7 ih =>
    simp only [Go.Proofs.Yteoepeionomjlaa.frz]
    refine .l sz' _ a len cap u' (by rw [len_frzR]; exact h0) h1 h2 h3 (fun e he => ?_) (fun i j y hy => ?_) (fun i j y hy => ?_) (fun ad ha hc => ?_)
    · rw [frzR_map] at he
      obtain ⟨e', he', rfl⟩ := List.mem_map.1 he
      rw [len_frzL]; exact h4 e' he'
    · obtain ⟨z, hz, rfl⟩ := at2_frzR hy; rw [frz_one]; exact h5 i j z hz
    · obtain ⟨z, hz, rfl⟩ := at2_frzR hy; exact ih i j z hz
    · rw [len_frzR] at hc
      obtain ⟨g1, g2⟩ := h7 ad ha hc
      exact ⟨g1, fun i j y hy => by obtain ⟨z, hz, rfl⟩ := at2_frzR hy; exact hF _ _ _ (g2 i j z hz)⟩
  | g xs cs h1 h2 h3 ih =>
    simp only [Go.Proofs.Yteoepeionomjlaa.frz]
    exact .g _ cs (by rw [len_frzL]; exact h1) (fun i y hy => by obtain ⟨z, hz, rfl⟩ := get_frzL hy; rw [frz_one]; exact h2 i z hz) (fun i y hy => by obtain ⟨z, hz, rfl⟩ := get_frzL hy; exact ih i z hz)
  | t xs cs h1 h3 ih =>
    simp only [Go.Proofs.Yteoepeionomjlaa.frz]
    exact .t _ cs (by rw [len_frzL]; exact h1) (fun i y hy => by obtain ⟨z, hz, rfl⟩ := get_frzL hy; exact ih i z hz)
  | f fn xs ys cs ds h1 h2 h3 h4 ih1 ih2 =>
    simp only [Go.Proofs.Yteoepeionomjlaa.frz]
    exact .f fn _ _ cs ds (by rw [len_frzL]; exact h1) (by rw [len_frzL]; exact h2) (fun i y hy => by obtain ⟨z, hz, rfl⟩ := get_frzL hy; exact ih1 i z hz) (fun i y hy => by obtain ⟨z, hz, rfl⟩ := get_frzL hy; exact ih2 i z hz)

def frzB (n sz : Nat) (rows : List (List AV)) : Blk → Blk
  | .r ty sz' cap rs => .r ty sz' cap (frzR n sz rows rs)
  | .m o M => .m o M
def frzH (n sz : Nat) (rows : List (List AV)) (H : Heap) : Heap := fun m => if m = n then none else (H m).map (frzB n sz rows)

/-! ### less is known -/
def Weak (r : AV) (H : Heap) (r' : AV) (H' : Heap) : Prop :=
  ∀ (F : Mem) (w : World) (v : Value), V F r v → Sat F H w → ∃ F', F.le F' ∧ V F' r' v ∧ Sat F' H' w ∧ (∀ b o u, F' b o = some u → F b o = some u ∨ H b ≠ none) ∧ ∀ n k, H' n = some k → H n ≠ none

theorem Weak.refl (r : AV) (H : Heap) : Weak r H r H := fun F w v hv hs => ⟨F, .refl F, hv, hs, fun _ _ _ h => .inl h, fun n k h => by rw [h]; simp⟩
theorem Weak.trans {r r1 r2 : AV} {H H1 H2 : Heap} (h : Weak r H r1 H1) (k : Weak r1 H1 r2 H2) : Weak r H r2 H2 := fun F w v hv hs => by
  obtain ⟨F1, a1, a2, a3, a4, a5⟩ := h F w v hv hs
  obtain ⟨F2, b1, b2, b3, b4, b5⟩ := k F1 w v a2 a3
  refine ⟨F2, a1.trans b1, b2, b3, fun b o u hu => ?_, fun n x hx => ?_⟩
  · rcases b4 b o u hu with g | g
    · exact a4 b o u g
    · right
      cases hk : H1 b with
      | none => exact absurd hk g
      | some y => exact a5 b y hk
  · cases hk : H1 n with
    | none => exact absurd hk (b5 n x hx)
    | some y => exact a5 n y hk
theorem Weak.less {r : AV} {H H' : Heap} (h : Heap.le H' H) : Weak r H r H' := fun F w v hv hs => ⟨F, .refl F, hv, hs.less h, fun _ _ _ h => .inl h, fun n k hk => by rw [h n k hk]; simp⟩

theorem Weak.frz {r : AV} {H : Heap} (n : Nat) {ty : TypeId} {sz cap : Nat} {rows : List (List AV)} (hn : H n = some (.r ty sz cap rows)) : Weak r H (frz n sz rows r) (frzH n sz rows H) := by
  intro F w v hv hs
  obtain ⟨C, c1, c2, c3, c4, c5, c6⟩ := hs.blk n _ hn
  have hle : rows.length * sz ≤ C.size := by rw [c2]; exact Nat.mul_le_mul_right _ c3
  obtain ⟨F', hF'⟩ : ∃ F' : Mem, F' = fun b o => if b = n then (if o < rows.length * sz then C[o]? else none) else F b o := ⟨_, rfl⟩
  have hFn : ∀ o, F n o = none := fun o => by
    cases h : F n o with
    | none => rfl
    | some u => exact (hs.off n o u _ h hn).elim
  have hFF : F.le F' := fun b o u hu => by
    rw [hF']
    by_cases e : b = n
    · subst e; rw [hFn] at hu; cases hu
    · simp [e, hu]
  have hr : ∀ i j y, at2 rows i j = some y → y.one = true ∧ V F' y (C.getD (i * sz + j) undef) ∧ F' n (i * sz + j) = some (C.getD (i * sz + j) undef) := fun i j y hy => by
    refine ⟨c6.one i j y hy, (c6.val i j y hy).mono hFF, ?_⟩
    obtain ⟨b1, b2⟩ := c6.at2 hy
    have hlt := flat_lt b1 b2
    have : i * sz + j < C.size := by omega
    rw [hF']; simp [hlt, this, Array.getD]
  refine ⟨F', hFF, hv.frz hFF c6.len hr, ⟨fun b o u hu => ?_, fun b o u k hu hk => ?_, fun m k hk => ?_⟩, fun b o u hu => ?_, fun m k hk => ?_⟩
  · rw [hF'] at hu
    by_cases e : b = n
    · subst e
      simp only [if_true] at hu
      split at hu
      · rw [cell_of_row w b _ C ty (0, 0) c1]; exact hu
      · cases hu
    · simp only [e, if_false] at hu; exact hs.mem b o u hu
  · rw [hF'] at hu
    unfold frzH at hk
    by_cases e : b = n
    · simp [e] at hk
    · simp only [e, if_false] at hu hk
      cases hH : H b with
      | none => rw [hH] at hk; cases hk
      | some k' => exact hs.off b o u k' hu hH
  · unfold frzH at hk
    split at hk
    · cases hk
    · cases hH : H m with
      | none => rw [hH] at hk; cases hk
      | some k' =>
        rw [hH] at hk
        simp only [Option.map_some, Option.some.injEq] at hk
        subst hk
        have hb := hs.blk m k' hH
        cases k' with
        | m o M => exact ⟨hb.1, hb.2.trans hFF⟩
        | r ty' sz' cap' rs =>
          obtain ⟨C', d1, d2, d3, d4, d5, d6⟩ := hb
          refine ⟨C', d1, d2, by rw [len_frzR]; exact d3, d4, d5, fun e he => ?_, fun i j y hy => ?_, fun i j y hy => ?_⟩
          · rw [frzR_map] at he
            obtain ⟨e', he', rfl⟩ := List.mem_map.1 he
            rw [len_frzL]; exact d6.len e' he'
          · obtain ⟨z, hz, rfl⟩ := at2_frzR hy; rw [frz_one]; exact d6.one i j z hz
          · obtain ⟨z, hz, rfl⟩ := at2_frzR hy; exact (d6.val i j z hz).frz hFF c6.len hr
  · rw [hF'] at hu
    by_cases e : b = n
    · right; rw [e, hn]; simp
    · simp only [e, if_false] at hu; exact .inl hu
  · unfold frzH at hk
    split at hk
    · cases hk
    · cases hH : H m with
      | none => rw [hH] at hk; cases hk
      | some k' => simp

theorem ACall.weak {P : Program} {f : FuncId} {args : List AV} {H : Heap} {K : AV → Heap → Prop} (h : ACall P f args H fun r H' => ∃ r2 H2, Weak r H' r2 H2 ∧ K r2 H2) : ACall P f args H K :=
  ⟨h.1, fun F w cs hv hs => (h.2 F w cs hv hs).mono fun e w' ⟨v, F', H', r, e1, e2, e3, e4, r2, H2, hw, hk⟩ => by
    obtain ⟨F2, a1, a2, a3, a4, a5⟩ := hw F' w' v e2 e3
    refine ⟨v, F2, H2, r2, e1, a2, a3, ⟨e4.os, e4.tape, e4.output, e4.size, e4.block, fun n k hn => ?_, e4.le.trans a1, fun b o u hu => ?_⟩, hk⟩
    · cases hk' : H' n with
      | none => exact absurd hk' (a5 n k hn)
      | some y => exact e4.new n y hk'
    · rcases a4 b o u hu with g | g
      · exact e4.frz b o u g
      · cases hk' : H' b with
        | none => exact absurd hk' g
        | some y => exact .inr (e4.new b y hk')⟩

/-- more memory than is needed at the outset -/
theorem ACall.pre {P : Program} {f : FuncId} {args : List AV} {H H2 : Heap} {K : AV → Heap → Prop} (hl : Heap.le H2 H) (h : ACall P f args H2 K) : ACall P f args H K := by
  refine ⟨h.1, fun F w cs hv hs => (h.2 F w cs hv (hs.less hl)).mono fun e w' ⟨v, F', H', r, e1, e2, e3, e4, hk⟩ => ⟨v, F', H', r, e1, e2, e3, ?_, hk⟩⟩
  have hn : ∀ m, H m = none → H2 m = none := fun m hm => by
    cases hk : H2 m with
    | none => rfl
    | some k => rw [hl m k hk] at hm; cases hm
  refine ⟨e4.os, e4.tape, e4.output, e4.size, fun m hm hH => e4.block m hm (hn m hH), fun m k hk => ?_, e4.le, fun b o v hv => ?_⟩
  · rcases e4.new m k hk with g | g
    · left; intro e; exact g (hn m e)
    · exact .inr g
  · rcases e4.frz b o v hv with g | g | g
    · exact .inl g
    · right; left; intro e; exact g (hn b e)
    · exact .inr (.inr g)

/-- a law -/
def F0 (W : World) : Mem := fun b o => W.cell? ⟨b, o, none⟩
theorem law_of {P : Program} {f : FuncId} {args : List AV} (h : ACall P f args (fun _ => none) fun r _ => r = .c (.bool true)) (W : World) (cs : Array Value) (hv : Vs (F0 W) args cs.toList) :
    Calls P f cs W fun e w' => e = .returned (.bool true) ∧ Below W.heap.size W w' := by
  have := h.2 (F0 W) W cs.toList hv ⟨fun b o v h => h, fun b o v k _ hk => (by cases hk), fun n k hk => (by cases hk)⟩
  rw [Array.toArray_toList] at this
  refine this.mono ?_
  rintro e w' ⟨v, F', H', r, rfl, h1, h2, h3, rfl⟩
  exact ⟨by rw [h1.c_inv], h3.below fun _ => rfl⟩
end Go.Proofs.Yteoepeionomjlaa
