/- Structs and slices that are built, slices of slices, builtins. -/
import Derived.Test.YteoepeionomjlaaM4
namespace Go.Proofs.Yteoepeionomjlaa
open Go.RowKit
set_option linter.unusedVariables false
set_option linter.unusedSimpArgs false
set_option linter.constructorNameAsVariable false

/-! ### filling -/
theorem setIn_toList (C : Array Value) (i : Nat) (v : Value) : (C.setIfInBounds i v).toList = C.toList.set i v := by simp

theorem foldl_splice : ∀ (l : List Value) (k off : Nat) (C : Array Value), off + k + l.length ≤ C.size → (l.zipIdx k).foldl (fun (cs : Array Value) (p : Value × Nat) => cs.setIfInBounds (off + p.2) p.1) C = splice C (off + k) l
  | [], k, off, C, h => by
    apply Array.ext'
    simp [splice]
  | v :: l, k, off, C, h => by
    rw [List.zipIdx_cons, List.foldl_cons, foldl_splice l (k + 1) off _ (by simp at h ⊢; omega)]
    apply Array.ext'
    have hk : off + k < C.toList.length := by simp at h ⊢; omega
    simp only [splice, setIn_toList, List.length_cons]
    apply List.ext_getElem?
    intro i
    have h1 : (C.toList.take (off + k)).length = off + k := by simp; simp at h; omega
    have h2 : ((C.toList.set (off + k) v).take (off + (k + 1))).length = off + k + 1 := by simp; simp at h; omega
    by_cases hi : i < off + k
    · rw [List.append_assoc, List.getElem?_append_left (by omega), List.append_assoc, List.getElem?_append_left (by omega), List.getElem?_take, List.getElem?_take, if_pos (by omega), if_pos hi, List.getElem?_set_ne (by omega)]
    · by_cases he : i = off + k
      · subst he
        rw [List.append_assoc, List.getElem?_append_left (by omega), List.append_assoc, List.getElem?_append_right (by omega), List.getElem?_take, if_pos (by omega), List.getElem?_set_self hk, h1]
        simp
      · by_cases hl : i < off + k + 1 + l.length
        · rw [List.append_assoc, List.getElem?_append_right (by omega), List.getElem?_append_left (by omega), List.append_assoc, List.getElem?_append_right (by omega), List.getElem?_append_left (by simp; omega), h1, h2]
          obtain ⟨d, rfl⟩ : ∃ d, i = off + k + 1 + d := ⟨i - (off + k + 1), by omega⟩
          rw [show off + k + 1 + d - (off + k) = d + 1 by omega, List.getElem?_cons_succ]
          congr 1; omega
        · rw [List.getElem?_append_right (by simp; simp at h; omega), List.getElem?_drop, List.getElem?_append_right (by simp; simp at h; omega), List.getElem?_drop, List.getElem?_set_ne (by simp; simp at h; omega)]
          congr 1
          simp; simp at h; omega

theorem foldl_fill (v : Value) (off : Nat) (C : Array Value) (h : off + v.cells.size ≤ C.size) : v.cells.zipIdx.foldl (fun (cs : Array Value) (p : Value × Nat) => cs.setIfInBounds (off + p.2) p.1) C = splice C off v.cells.toList := by
  rw [← Array.foldl_toList]
  have := foldl_splice v.cells.toList 0 off C (by simpa using h)
  simpa using this

/-- the parts of a struct are laid one by one -/
def fillC (place : Nat → Option (Nat × Nat)) (cells : List AV) : List (Nat × AV) → Option (List AV)
  | [] => some cells
  | (i, v) :: rest =>
    match place i, v.cs with
    | some (off, k), some ys => if ys.length = k ∧ off + k ≤ cells.length then fillC place (cells.take off ++ ys ++ cells.drop (off + k)) rest else none
    | _, _ => none

theorem Vs.splice {F : Mem} {cells ys : List AV} {C : Array Value} {vs : List Value} (h : Vs F cells C.toList) (k : Vs F ys vs) {off : Nat} (hf : off + ys.length ≤ cells.length) : Vs F (cells.take off ++ ys ++ cells.drop (off + ys.length)) (splice C off vs).toList := by
  have hl := h.1
  have hk := k.1
  have hf' : off + vs.length ≤ C.size := by simp at hl; omega
  refine ⟨by simp [Go.Proofs.Yteoepeionomjlaa.splice]; simp at hl; omega, fun i y hy => ?_⟩
  rw [← arr_getD, splice_get hf']
  by_cases h1 : i < off
  · rw [List.append_assoc, List.getElem?_append_left (by simp; omega), List.getElem?_take, if_pos h1] at hy
    rw [if_neg (by omega), arr_getD]; exact h.2 i y hy
  · by_cases h2 : i < off + ys.length
    · rw [List.append_assoc, List.getElem?_append_right (by simp; omega), List.getElem?_append_left (by simp; omega)] at hy
      rw [if_pos (by omega)]
      have := k.2 _ y hy
      rwa [show (cells.take off).length = off by simp; omega] at this
    · rw [List.getElem?_append_right (by simp; omega), List.getElem?_drop] at hy
      rw [if_neg (by omega), arr_getD]
      have := h.2 _ y hy
      rwa [show off + ys.length + (i - (cells.take off ++ ys).length) = i by simp; omega] at this

theorem fill_ok {F : Mem} {a : Nat → AV} {act : Act} (place : Nat → Option (Nat × Nat)) : ∀ (parts : List (Nat × Operand)) (cells : List AV) (C : Array Value) (r : List AV), (∀ p ∈ parts, V F (ev a p.2) (act.eval p.2)) → Vs F cells C.toList → (∀ y ∈ cells, y.one = true) →
    fillC place cells (parts.map fun p => (p.1, ev a p.2)) = some r → ∃ D, Instr.fill place C (parts.map fun p => (p.1, act.eval p.2)) = some D ∧ Vs F r D.toList ∧ ∀ y ∈ r, y.one = true
  | [], cells, C, r, hv, h, h1, e => by simp [fillC] at e; subst e; exact ⟨C, rfl, h, h1⟩
  | (i, x) :: rest, cells, C, r, hv, h, h1, e => by
    simp only [List.map_cons, fillC] at e
    cases hp : place i with
    | none => simp [hp] at e
    | some q =>
      obtain ⟨off, k⟩ := q
      cases hx : (ev a x).cs with
      | none => simp [hp, hx] at e
      | some ys =>
        simp only [hp, hx] at e
        split at e
        · rename_i hc
          obtain ⟨hc1, hc2⟩ := hc
          obtain ⟨g1, g2, g3⟩ := AV.cs_ok hx (hv (i, x) (by simp))
          have hsz : (act.eval x).cells.size = k := by rw [← hc1, g1.1]; simp
          have hCs : cells.length = C.size := by have := h.1; simpa using this
          have hfit : off + (act.eval x).cells.size ≤ C.size := by omega
          obtain ⟨D, d1, d2, d3⟩ := fill_ok place rest _ (splice C off (act.eval x).cells.toList) r (fun p hp => hv p (by simp [hp])) (by
            have := h.splice g1 (off := off) (by omega)
            rwa [hc1] at this) (fun y hy => by
              rcases List.mem_append.1 hy with hy | hy
              · rcases List.mem_append.1 hy with hy | hy
                · exact h1 y (List.mem_of_mem_take hy)
                · exact g2 y hy
              · exact h1 y (List.mem_of_mem_drop hy)) e
          refine ⟨D, ?_, d2, d3⟩
          simp only [List.map_cons, Instr.fill, hp, hsz]
          rw [if_neg (by simp; omega)]
          have hff := foldl_fill (act.eval x) off C hfit
          rw [← d1, ← hff]
        · cases e

/-! types of parts -/
def tP (P : Program) (t : TypeId) : Option (List (Nat × Nat)) :=
  match P.underlying t with
  | some (.struct fs) => fs.toList.mapM fun f => (tS P f.type).map fun k => (f.offset, k)
  | _ => none

theorem mapM_places {P : Program} : ∀ (fs : List Field) (r : List (Nat × Nat)), fs.mapM (fun f => (tS P f.type).map fun k => (f.offset, k)) = some r → ∀ w : World, (fs.mapM fun f => (do pure (f.offset, ← sizeOf f.type) : Sem (Nat × Nat))).run P w = .ok r w
  | [], r, h, w => by simp at h; subst h; simp [Sem.run_pure]
  | f :: fs, r, h, w => by
    rw [List.mapM_cons] at h
    cases h1 : tS P f.type with
    | none => simp [h1] at h
    | some k =>
      cases h2 : fs.mapM (fun f => (tS P f.type).map fun k => (f.offset, k)) with
      | none => simp [h1, h2] at h
      | some r' =>
        simp [h1, h2] at h
        subst h
        have ih := mapM_places fs r' h2 w
        have hs := run_tS (P := P) h1
        rw [List.mapM_cons]
        simp only [Sem.run_bind, hs, Result.andThen_ok, Sem.run_pure, ih]

section
variable {P : Program} {o : Oper} {a : Nat → AV} {H : Heap} {K : AV → Heap → Prop}

theorem does_build {t : TypeId} {parts : Array (Nat × Operand)} {pl : List (Nat × Nat)} {zs : List Value} {r : List AV} (ho : o.op = .build t parts) (hp : tP P t = some pl) (hz : tZ P t = some zs) (h1 : zs.all (·.oneCell') = true)
    (hr : fillC (pl[·]?) (zs.map .c) (parts.toList.map fun p => (p.1, ev a p.2)) = some r) (h : K (.g r) H) : Does P o a H K :=
  Does.val (fun c => by simp [ho]) h fun F w act hv hs => by
    unfold tP at hp
    split at hp
    · rename_i fs hu
      obtain ⟨z, z1, z2⟩ := run_tZ hz w
      have hm := mapM_places (P := P) fs.toList pl hp w
      obtain ⟨D, d1, d2, d3⟩ := fill_ok (pl[·]?) parts.toList (zs.map .c) z.cells r (fun p hp => hv.ev p.2 (by simp only [ho, Op.operands, List.toList_toArray]; exact List.mem_map.2 ⟨p, hp, rfl⟩)) (by rw [z2]; exact zs_Vs zs) (fun y hy => by
        obtain ⟨z, hz, rfl⟩ := List.mem_map.1 hy
        exact List.all_eq_true.1 h1 z hz) hr
      refine ⟨.agg D, ?_, V.g_of d2 d3⟩
      have hm' : (fs.mapM fun f => (do pure (f.offset, ← sizeOf f.type) : Sem (Nat × Nat))).run P w = .ok pl.toArray w := by
        rw [Array.mapM_eq_mapM_toList]
        show (do let x ← fs.toList.mapM fun f => (do pure (f.offset, ← sizeOf f.type) : Sem (Nat × Nat)); pure x.toArray : Sem (Array (Nat × Nat))).run P w = _
        simp only [Sem.run_bind, hm, Result.andThen_ok, Sem.run_pure]
      have e : (parts.map fun (i, x) => (i, act.eval x)).toList = parts.toList.map fun p => (p.1, act.eval p.2) := by simp
      rw [show execOp act.eval o = (do pure (.value (← Instr.build t (parts.map fun (i, x) => (i, act.eval x))))) by simp [execOp, ho]]
      simp only [Instr.build, Sem.run_bind, z1, Result.andThen_ok, run_underlying hu, hm', e]
      have : (fun i : Nat => pl.toArray[i]?) = (fun i => pl[i]?) := by funext i; simp
      rw [this, d1]
      simp
    · cases hp

theorem does_build_a {t et : TypeId} {m k : Nat} {parts : Array (Nat × Operand)} {zs : List Value} {r : List AV} (ho : o.op = .build t parts) (hR : tR P t = some (m, et)) (hS : tS P et = some k) (hz : tZ P t = some zs) (h1 : zs.all (·.oneCell') = true)
    (hr : fillC (fun i => some (i * k, k)) (zs.map .c) (parts.toList.map fun p => (p.1, ev a p.2)) = some r) (h : K (.g r) H) : Does P o a H K :=
  Does.val (fun c => by simp [ho]) h fun F w act hv hs => by
    have hu := tR_eq hR
    obtain ⟨z, z1, z2⟩ := run_tZ hz w
    obtain ⟨D, d1, d2, d3⟩ := fill_ok (fun i => some (i * k, k)) parts.toList (zs.map .c) z.cells r (fun p hp => hv.ev p.2 (by simp only [ho, Op.operands, List.toList_toArray]; exact List.mem_map.2 ⟨p, hp, rfl⟩)) (by rw [z2]; exact zs_Vs zs) (fun y hy => by
      obtain ⟨z, hz, rfl⟩ := List.mem_map.1 hy
      exact List.all_eq_true.1 h1 z hz) hr
    refine ⟨.agg D, ?_, V.g_of d2 d3⟩
    have hS' := run_tS (P := P) hS w
    have e : (parts.map fun (i, x) => (i, act.eval x)).toList = parts.toList.map fun p => (p.1, act.eval p.2) := by simp
    rw [show execOp act.eval o = (do pure (.value (← Instr.build t (parts.map fun (i, x) => (i, act.eval x))))) by simp [execOp, ho]]
    simp only [Instr.build, Sem.run_bind, z1, Result.andThen_ok, run_underlying hu, hS', e]
    rw [d1]
    simp

/-! slices of slices -/
def optI (a : Nat → AV) (d : Nat) : Option Operand → Option Int
  | none => some d
  | some x => match ev a x with | .c (.int _ n) => some n | _ => none

theorem bound_run {x : Value} {k : IntKind} {n : Int} {y : Nat} {code : BoundsCode} (hx : x = .int k n) (h0 : 0 ≤ n) (h1 : n ≤ y) (w : World) : (Instr.sliceBound x y code).run P w = .ok n.toNat w := by
  subst hx
  simp [Instr.sliceBound, asIntOf, Sem.run_bind, h0, h1]

theorem slice_run {t et : TypeId} {sz : Nat} (hE : tE P t = some et) (hS : tS P et = some sz) {F : Mem} {act : Act} {lo hi mx : Option Operand} (hv : ∀ x, x ∈ lo ∨ x ∈ hi ∨ x ∈ mx → V F (ev a x) (act.eval x)) {ad : Option Addr} {len cap : Nat} {l h m : Int}
    (hl : optI a 0 lo = some l) (hh : optI a len hi = some h) (hm : optI a cap mx = some m) (h0 : 0 ≤ l) (h1 : l ≤ h) (h2 : h ≤ m) (h3 : m ≤ cap) (h4 : len ≤ cap) (hmx : mx.isSome = true → hi.isSome = true) (w : World) :
    (Instr.sliceAt t (.slice ad len cap) (lo.map act.eval) (hi.map act.eval) (mx.map act.eval)).run P w = .ok (.slice (if m = l then ad else ad.map (·.add (l.toNat * sz))) (h.toNat - l.toNat) (m.toNat - l.toNat)) w := by
  have hS' := run_tS (P := P) hS
  have hu := tE_eq hE
  have opt : ∀ (x : Operand) (d : Nat) (n : Int), (x ∈ lo ∨ x ∈ hi ∨ x ∈ mx) → optI a d (some x) = some n → ∃ k, act.eval x = .int k n := by
    intro x d n hm h
    simp only [optI] at h
    split at h
    · rename_i k n' hx; cases h
      have := hv x hm; rw [hx] at this
      exact ⟨k, this.c_inv⟩
    · cases h
  have hb : (Instr.sliceBounds true len cap (lo.map act.eval) (hi.map act.eval) (mx.map act.eval)).run P w = .ok (l.toNat, h.toNat, m.toNat) w := by
    cases mx with
    | none =>
      simp [optI] at hm; subst hm
      cases hi with
      | none =>
        simp [optI] at hh; subst hh
        cases lo with
        | none => simp [optI] at hl; subst hl; simp [Instr.sliceBounds, Sem.run_bind]
        | some x =>
          obtain ⟨k, e⟩ := opt x 0 l (by simp) hl
          have := bound_run (P := P) (code := .sliceB) e h0 h1 w
          simp [Instr.sliceBounds, Sem.run_bind, this]
      | some y =>
        obtain ⟨ky, ey⟩ := opt y len h (by simp) hh
        have hyb := bound_run (P := P) (code := .sliceAcap) ey (by omega) h2 w
        cases lo with
        | none => simp [optI] at hl; subst hl; simp [Instr.sliceBounds, Sem.run_bind, hyb]
        | some x =>
          obtain ⟨k, e⟩ := opt x 0 l (by simp) hl
          have := bound_run (P := P) (y := h.toNat) (code := .sliceB) e h0 (by omega) w
          simp [Instr.sliceBounds, Sem.run_bind, this, hyb]
    | some z =>
      obtain ⟨kz, ez⟩ := opt z cap m (by simp) hm
      have hzb := bound_run (P := P) (code := .slice3Acap) ez (by omega) h3 w
      cases hi with
      | none => simp at hmx
      | some y =>
        obtain ⟨ky, ey⟩ := opt y len h (by simp) hh
        have hyb := bound_run (P := P) (y := m.toNat) (code := .slice3B) ey (by omega) (by omega) w
        cases lo with
        | none => simp [optI] at hl; subst hl; simp [Instr.sliceBounds, Sem.run_bind, hyb, hzb]
        | some x =>
          obtain ⟨k, e⟩ := opt x 0 l (by simp) hl
          have := bound_run (P := P) (y := h.toNat) (code := .slice3C) e h0 (by omega) w
          simp [Instr.sliceBounds, Sem.run_bind, this, hyb, hzb]
  simp only [Instr.sliceAt, Sem.run_bind, run_underlying hu, Result.andThen_ok, Instr.slice, hb, hS', Sem.run_pure]
  have : (m.toNat = l.toNat) = (m = l) := by simp; omega
  simp [this]

theorem does_slice {t : TypeId} {x : Operand} {lo hi mx : Option Operand} {n sz i len cap : Nat} {et : TypeId} {l h m : Int} (ho : o.op = .slice t x lo hi mx) (hx : ev a x = .s n sz i len cap) (hE : tE P t = some et) (hS : tS P et = some sz)
    (hl : optI a 0 lo = some l) (hh : optI a len hi = some h) (hm : optI a cap mx = some m) (h0 : 0 ≤ l) (h1 : l ≤ h) (h2 : h ≤ m) (h3 : m ≤ cap) (hmx : mx.isSome = true → hi.isSome = true)
    (hK : K (.s n sz (i + l.toNat) (h.toNat - l.toNat) (m.toNat - l.toNat)) H) : Does P o a H K :=
  Does.val (fun c => by simp [ho]) hK fun F w act hv hs => by
    have h4 := hv.ev x
    rw [hx] at h4
    obtain ⟨oo, e1, h5, h6, h7⟩ := h4.s_inv
    have hr := slice_run hE hS (fun x hx => hv.ev x (by rcases hx with hx | hx | hx <;> simp_all [Op.operands])) (ad := some ⟨n, oo, none⟩) (len := len) (cap := cap) hl hh hm h0 h1 h2 h3 h6 hmx w
    refine ⟨_, by simp only [execOp, ho, e1, Sem.run_bind, hr, Result.andThen_ok, Sem.run_pure]; rfl, ?_⟩
    by_cases hml : m = l
    · rw [if_pos hml]
      refine .s _ _ _ _ _ oo (fun hc => ?_) (by omega) (by omega)
      rcases hc with hc | hc
      · omega
      · have h8 := h5 (.inr (by omega))
        have h9 : i + l.toNat = 0 := hc
        have h10 : i = 0 := by omega
        rw [h9, h8, h10]
    · rw [if_neg hml]
      simp only [Option.map_some, addr_add]
      exact .s _ _ _ _ _ _ (fun hc => by rw [h5 (.inl (by omega)), Nat.add_mul]) (by omega) (by omega)

theorem at2_drop {α : Type} (L : List (List α)) (d i j : Nat) : at2 (L.drop d) i j = at2 L (d + i) j := by simp [at2]
theorem at2_take {α : Type} {L : List (List α)} {d i j : Nat} {y : α} (h : at2 (L.take d) i j = some y) : at2 L i j = some y ∧ i < d := by
  obtain ⟨e, he, hj⟩ := at2_some.1 h
  rw [List.getElem?_take] at he
  split at he
  · exact ⟨at2_some.2 ⟨e, he, hj⟩, by assumption⟩
  · cases he

theorem does_slice_l {t : TypeId} {x : Operand} {lo hi mx : Option Operand} {sz : Nat} {rows : List (List AV)} {et : TypeId} {l h : Int} (ho : o.op = .slice t x lo hi mx) (hx : ev a x = .l sz rows) (hE : tE P t = some et) (hS : tS P et = some sz)
    (hl : optI a 0 lo = some l) (hh : optI a rows.length hi = some h) (hm : mx = none ∨ optI a 0 mx = some h ∧ hi.isSome = true) (h0 : 0 ≤ l) (h1 : l ≤ h) (h2 : h ≤ rows.length)
    (hK : K (.l sz ((rows.drop l.toNat).take (h.toNat - l.toNat))) H) : Does P o a H K :=
  Does.val (fun c => by simp [ho]) hK fun F w act hv hs => by
    have h4 := hv.ev x
    rw [hx] at h4
    obtain ⟨ad, cap, u, e1, h5, h6, h7, h8, h9, h10⟩ := h4.l_inv
    obtain ⟨m, hm', hmh, hmc⟩ : ∃ m : Int, optI a cap mx = some m ∧ h ≤ m ∧ m ≤ cap := by
      rcases hm with rfl | ⟨hm, _⟩
      · exact ⟨cap, rfl, by omega, Int.le_refl _⟩
      · cases mx with
        | none => exact ⟨cap, rfl, by omega, Int.le_refl _⟩
        | some z => exact ⟨h, hm, Int.le_refl _, by omega⟩
    have hr := slice_run hE hS (fun x hx => hv.ev x (by rcases hx with hx | hx | hx <;> simp_all [Op.operands])) (ad := ad) (len := rows.length) (cap := cap) hl hh hm' h0 h1 hmh hmc h5 (fun hx => by rcases hm with rfl | ⟨_, hm⟩ <;> simp_all) w
    have hlen : ((rows.drop l.toNat).take (h.toNat - l.toNat)).length = h.toNat - l.toNat := by simp; omega
    have hat : ∀ (i j : Nat) (y : AV), at2 ((rows.drop l.toNat).take (h.toNat - l.toNat)) i j = some y → at2 rows (l.toNat + i) j = some y := fun i j y hy => by
      have := (at2_take hy).1; rwa [at2_drop] at this
    refine ⟨_, by simp only [execOp, ho, e1, Sem.run_bind, hr, Result.andThen_ok, Sem.run_pure]; rfl, ?_⟩
    refine .l sz _ _ _ _ (fun i j => u (l.toNat + i) j) hlen.symm (by omega) (by omega) ?_ (fun e he => h8 e (List.mem_of_mem_drop (List.mem_of_mem_take he))) (fun i j y hy => (h9 _ j y (hat i j y hy)).1) (fun i j y hy => (h9 _ j y (hat i j y hy)).2) ?_
    · intro hn
      split at hn
      · omega
      · cases ad with
        | none => have := h7 rfl; omega
        | some ad => simp at hn
    · intro ad' had hc
      rw [hlen] at hc
      by_cases hml : m = l
      · omega
      · rw [if_neg hml] at had
        cases ad with
        | none => simp at had
        | some ad =>
          obtain ⟨b, oo, sp⟩ := ad
          obtain ⟨hsp, h11⟩ := h10 _ rfl (by omega)
          simp only at hsp
          subst hsp
          simp only [Option.map_some, Option.some.injEq, addr_add] at had
          subst had
          refine ⟨rfl, fun i j y hy => ?_⟩
          have := h11 _ j y (hat i j y hy)
          rw [← this]
          simp only [Nat.add_mul]
          congr 1; omega

/-! builtins -/
theorem builtin_run {b : Builtin} {xs : Array Operand} {ts : Array TypeId} (ho : o.op = .call { callee := .builtin b, args := xs, argTypes := ts }) (act : Act) :
    ∃ cs, execOp act.eval o = builtin b ts o.type cs (xs.map act.eval) := by
  simp only [execOp, ho, resolve, invoke]
  exact ⟨_, rfl⟩

def lenV : AV → Option Nat
  | .s _ _ _ len _ => some len
  | .l _ rows => some rows.length
  | .c (.slice _ len _) => some len
  | _ => none
theorem does_len {x : Operand} {t et : TypeId} {n : Nat} (ho : o.op = .call { callee := .builtin .len, args := #[x], argTypes := #[t] }) (hE : tE P t = some et) (hx : lenV (ev a x) = some n) (h : K (.c (.int .i64 n)) H) : Does P o a H K :=
  Does.val (fun c => by simp [ho]) h fun F w act hv hs => ⟨.int .i64 n, by
    have hu := tE_eq hE
    have h1 := hv.ev x
    have : ∃ ad cap, act.eval x = .slice ad n cap := by
      generalize ev a x = r at h1 hx
      generalize act.eval x = v at h1
      cases h1 <;> simp [lenV] at hx
      · cases v <;> simp at hx
        subst hx; exact ⟨_, _, rfl⟩
      · subst hx; exact ⟨_, _, rfl⟩
      · subst hx; rename_i h0 _ _ _ _ _ _ _; subst h0; exact ⟨_, _, rfl⟩
    obtain ⟨ad, cap, e⟩ := this
    obtain ⟨cs, ecs⟩ := builtin_run ho act
    rw [ecs]
    simp [builtin, Builtin.len_, e, Sem.run_bind, run_underlying hu, goInt], .c _⟩

theorem does_max {x y : Operand} {ts : Array TypeId} {k k' : IntKind} {m n : Int} (ho : o.op = .call { callee := .builtin .max, args := #[x, y], argTypes := ts }) (hx : ev a x = .c (.int k m)) (hy : ev a y = .c (.int k' n)) (h : K (.c (.int k (if m < n then n else m))) H) : Does P o a H K :=
  Does.val (fun c => by simp [ho]) h fun F w act hv hs => ⟨_, by
    obtain ⟨cs, ecs⟩ := builtin_run ho act
    rw [ecs]
    simp [builtin, Builtin.max_, Builtin.max2, hv.c hx, hv.c hy, Sem.run_bind], .c _⟩
theorem does_min {x y : Operand} {ts : Array TypeId} {k k' : IntKind} {m n : Int} (ho : o.op = .call { callee := .builtin .min, args := #[x, y], argTypes := ts }) (hx : ev a x = .c (.int k m)) (hy : ev a y = .c (.int k' n)) (h : K (.c (.int k (if n < m then n else m))) H) : Does P o a H K :=
  Does.val (fun c => by simp [ho]) h fun F w act hv hs => ⟨_, by
    obtain ⟨cs, ecs⟩ := builtin_run ho act
    rw [ecs]
    simp [builtin, Builtin.min_, Builtin.min2, hv.c hx, hv.c hy, Sem.run_bind], .c _⟩
end
end Go.Proofs.Yteoepeionomjlaa
