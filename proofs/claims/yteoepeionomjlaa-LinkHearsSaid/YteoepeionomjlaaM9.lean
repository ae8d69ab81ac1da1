/- What is reckoned is what an operation yields. -/
import Derived.Test.YteoepeionomjlaaM8
namespace Go.Proofs.Yteoepeionomjlaa
open Go.RowKit
set_option linter.unusedVariables false
set_option linter.unusedSimpArgs false
set_option linter.constructorNameAsVariable false

section
variable {P : Program} {o : Oper} {a : Nat → AV} {H : Heap} {K : AV → Heap → Prop}

theorem binV_ok {op : BinOp} {t t' : TypeId} {x y : Operand} {r : AV} (ho : o.op = .binOp op t x y t') (h : binV P op t (ev a x) (ev a y) = some r) (hK : K r H) : Does P o a H K := by
  unfold binV at h
  split at h
  · rename_i k m k' n hx hy
    split at h
    · rename_i hk; subst hk
      split at h
      · split at h
        · rename_i hn; cases h; exact does_quo ho hx hy hn hK
        · cases h
      · split at h
        · rename_i hn; cases h; exact does_rem ho hx hy hn hK
        · cases h
      · split at h
        · rename_i hn; cases h; exact does_shl ho hx hy hn hK
        · cases h
      · split at h
        · rename_i hn; cases h; exact does_shr ho hx hy hn hK
        · cases h
      · obtain ⟨v, hv, rfl⟩ := Option.map_eq_some_iff.1 h
        exact does_binI ho hx hy hv hK
    · split at h
      · split at h
        · rename_i hn; cases h; exact does_shl ho hx hy hn hK
        · cases h
      · split at h
        · rename_i hn; cases h; exact does_shr ho hx hy hn hK
        · cases h
      · cases h
  · rename_i p q hx hy
    split at h
    · rename_i hu; cases h; exact does_binB ho hu (.inl rfl) hx hy (by simpa using hK)
    · rename_i hu; cases h; exact does_binB ho hu (.inr rfl) hx hy (by simpa using hK)
    · cases h
  · rename_i p q hx hy
    split at h
    · cases h; exact does_binS ho (.inl rfl) hx hy (by simpa using hK)
    · cases h; exact does_binS ho (.inr rfl) hx hy (by simpa using hK)
    · cases h
  · cases h

theorem eqG_ok {E : Env P} {op : BinOp} {t t' : TypeId} {x y : Operand} {us vs : List Value} {b : Bool} (ho : o.op = .binOp op t x y t') (hop : op = .eql ∨ op = .neq) (hx : ev a x = .g (us.map .c)) (hy : ev a y = .g (vs.map .c)) (he : E.eq t us vs = some b) (hK : K (.c (.bool (if op = .eql then b else !b))) H) : Does P o a H K :=
  Does.val (fun c => by simp [ho]) hK fun F w act hv hs => ⟨.bool (if op = .eql then b else !b), by
    have agg : ∀ (z : Operand) (zs : List Value), z = x ∨ z = y → ev a z = .g (zs.map .c) → act.eval z = .agg zs.toArray := by
      intro z zs hzm hz
      have h1 := hv.ev z (by rcases hzm with rfl | rfl <;> simp [ho, Op.operands])
      rw [hz] at h1
      obtain ⟨cs, e1, e2, _⟩ := h1.g_inv
      rw [e1]
      congr 1
      apply Array.ext'
      rw [List.toList_toArray]
      apply List.ext_getElem?
      intro i
      have hl := e2.1
      simp only [List.length_map] at hl
      by_cases hi : i < zs.length
      · have := e2.2 i (.c zs[i]) (by simp [hi])
        have := this.c_inv
        rw [List.getElem?_eq_getElem hi, ← this, List.getD_eq_getElem?_getD, List.getElem?_eq_getElem (by omega)]
        rfl
      · rw [List.getElem?_eq_none (by omega), List.getElem?_eq_none (by simpa using hi)]
    obtain ⟨g1, g2⟩ := E.eq_ok t us vs b he
    have ex := agg x us (.inl rfl) hx
    have ey := agg y vs (.inr rfl) hy
    have hg := run_eqGuard_agg (P := P) w op t x y us.toArray vs.toArray g1
    rw [show execOp act.eval o = (do pure (.value (← (do eqGuard op t x y (.agg us.toArray) (.agg vs.toArray); binOp op t (.agg us.toArray) (.agg vs.toArray))))) by simp [execOp, ho, ex, ey]]
    rcases hop with rfl | rfl
    · have := run_eql_struct (P := P) w t us.toArray vs.toArray
      rw [g2 w] at this
      simp [Sem.run_bind, hg, this, Result.andThen]
    · have := run_neq_struct (P := P) w t us.toArray vs.toArray
      rw [g2 w] at this
      simp [Sem.run_bind, hg, this, Result.andThen], V.c _⟩

theorem eqV_ok {E : Env P} {op : BinOp} {t t' : TypeId} {x y : Operand} {r : AV} (ho : o.op = .binOp op t x y t') (h : eqV E op t (ev a x) (ev a y) = some r) (hK : K r H) : Does P o a H K := by
  unfold eqV at h
  split at h
  · rename_i xs ys hx hy
    split at h
    · rename_i us vs hu hv
      rw [valsOf_map hu] at hx
      rw [valsOf_map hv] at hy
      split at h
      · obtain ⟨b, hb, rfl⟩ := Option.map_eq_some_iff.1 h
        exact eqG_ok ho (.inl rfl) hx hy hb (by simpa using hK)
      · obtain ⟨b, hb, rfl⟩ := Option.map_eq_some_iff.1 h
        exact eqG_ok ho (.inr rfl) hx hy hb (by simpa using hK)
      · cases h
    · cases h
  · exact binV_ok ho h hK

theorem does_call {c : Operand} {f : FuncId} {xs : Array Operand} {ts : Array TypeId} (ho : o.op = .call { callee := .value c, args := xs, argTypes := ts }) (hc : ev a c = .c (.func (.func f) #[] #[])) (h : ACall P f (xs.toList.map (ev a)) H K) : Does P o a H K :=
  Does.enters (fun c => by simp [ho]) fun F w act hv hs => by
    have hcs : Vs F (xs.toList.map (ev a)) (xs.map act.eval).toList := evs_ok fun x hx => hv.ev x (by simp only [ho, Op.operands, Call.operands, Array.toList_append]; exact List.mem_append_right _ hx)
    refine ⟨f, xs.map act.eval, ?_, ?_⟩
    · simp only [execOp, ho, resolve, hv.c hc, Deferred.ofValue]
      simp [Sem.run_bind, invoke, h.1 _ _]
    · have := h.2 F w _ hcs hs
      rw [Array.toArray_toList] at this
      exact this

/-- a closure is called -/
theorem does_call_f {c : Operand} {f : FuncId} {fs cap : List AV} {xs : Array Operand} {ts : Array TypeId} (ho : o.op = .call { callee := .value c, args := xs, argTypes := ts }) (hc : ev a c = .f (.func f) fs cap) (h : ACall P f (fs ++ xs.toList.map (ev a) ++ cap) H K) : Does P o a H K :=
  Does.enters (fun c => by simp [ho]) fun F w act hv hs => by
    have hcs : Vs F (xs.toList.map (ev a)) (xs.map act.eval).toList := evs_ok fun x hx => hv.ev x (by simp only [ho, Op.operands, Call.operands, Array.toList_append]; exact List.mem_append_right _ hx)
    have h1 := hv.ev c
    rw [hc] at h1
    obtain ⟨gs, ds, e1, e2, e3⟩ := h1.f_inv
    refine ⟨f, gs ++ xs.map act.eval ++ ds, ?_, ?_⟩
    · simp only [execOp, ho, resolve, e1, Deferred.ofValue]
      simp [Sem.run_bind, invoke, h.1 _ _]
    · have := h.2 F w _ ((e2.append hcs).append e3) hs
      have e : (gs.toList ++ (xs.map act.eval).toList ++ ds.toList).toArray = gs ++ xs.map act.eval ++ ds := by apply Array.ext'; simp
      rw [e] at this
      exact this

theorem pureF_ok (E : Env P) {r : AV} (h : pureF E H o a = some r) (hK : K r H) : Does P o a H K := by
  unfold pureF at h
  split at h
  · cases h; exact does_move (by assumption) hK
  · cases h; exact does_assign (by assumption) hK
  · rename_i c x y ho
    split at h
    · rename_i b hc; cases h; exact does_pick ho hc hK
    · cases h
  · cases h; exact does_makeFunc (by assumption) hK
  · rename_i x i ho
    split at h
    · rename_i xs hx; exact does_extract ho hx h hK
    · cases h
  · rename_i op t x ho
    split at h
    · rename_i v hx
      obtain ⟨u, hu, rfl⟩ := Option.map_eq_some_iff.1 h
      exact does_unOp ho hx hu hK
    · cases h
  · rename_i op t x y t' ho
    exact eqV_ok ho h hK
  · rename_i s d x ho
    split at h
    · rename_i k n ds k' hx hs' hd
      cases h; exact does_conv ho (by rw [hs']; rfl) hd hx hK
    · cases h
  · rename_i x ho
    split at h
    · rename_i hx; cases h; exact does_nilCheck ho hx hK
    · cases h
  · rename_i t x f ho
    unfold fldA at h
    split at h
    · rename_i off ft hF
      split at h
      · rename_i k hS
        split at h
        · rename_i hk
          split at h
          · rename_i hx; cases h; exact does_fieldAddr ho hx hF hS hk hK
          · rename_i hx; cases h; exact does_fieldAddr_q ho hx hF hS hk hK
          · cases h
        · cases h
      · cases h
    · cases h
  · rename_i t x f ho
    unfold fldV at h
    split at h
    · rename_i xs off ft hx hF
      split at h
      · rename_i ag k hA hS
        split at h
        · rename_i hk; cases h; exact does_field ho hx hF hA hS hk.1 hk.2 hK
        · cases h
      · cases h
    · cases h
  · rename_i t x y ho
    unfold idxA at h
    split at h
    · rename_i kd ix hy
      split at h
      · rename_i h0
        split at h
        · rename_i hx hE
          split at h
          · rename_i hc; cases h; exact does_indexAddr ho hx hy hE hc.1 h0 hc.2 hK
          · cases h
        · rename_i hx hE
          split at h
          · rename_i hc
            obtain ⟨e, he, rfl⟩ := Option.map_eq_some_iff.1 h
            exact does_indexAddr_l ho hx hy hE hc h0 he hK
          · cases h
        · rename_i hx hR
          split at h
          · rename_i hc
            obtain ⟨k, hS, rfl⟩ := Option.map_eq_some_iff.1 h
            exact does_indexAddr_a ho hx hy hR hS h0 hc hK
          · cases h
        · rename_i hx hR
          split at h
          · rename_i hc
            obtain ⟨k, hS, rfl⟩ := Option.map_eq_some_iff.1 h
            exact does_indexAddr_aq ho hx hy hR hS h0 hc hK
          · cases h
        · cases h
      · cases h
    · cases h
  · rename_i t x y ho
    unfold idxV at h
    split at h
    · rename_i xs kd ix n et hx hy hR
      split at h
      · rename_i ag k hA hS
        split at h
        · rename_i hc; cases h; exact does_index ho hx hy hR hA hS hc.1 hc.2.1 hc.2.2.1 hc.2.2.2 hK
        · cases h
      · cases h
    · cases h
  · rename_i t x lo hi mx ho
    unfold slcV at h
    split at h
    · rename_i n sz i len cap et hx hE
      split at h
      · rename_i l h' m hl hh hm
        split at h
        · rename_i hc; obtain ⟨c1, c2, c3, c4, c5, c6⟩ := hc
          cases h; exact does_slice ho hx hE c1 hl hh hm c2 c3 c4 c5 c6 hK
        · cases h
      · cases h
    · rename_i sz rows et hx hE
      split at h
      · rename_i l h' hl hh
        split at h
        · rename_i hc; obtain ⟨c1, c2, c3, c4, c5⟩ := hc
          cases h; exact does_slice_l ho hx hE c1 hl hh (c2.imp id fun q => ⟨q.1, q.2.1⟩) c3 c4 c5 hK
        · cases h
      · cases h
    · cases h
  · rename_i t x ho
    unfold ldV at h
    split at h
    · rename_i n sz i j hx
      split at h
      · rename_i ty sz' cap rows hH
        split at h
        · rename_i e ag k he hA hS
          split at h
          · rename_i hc; obtain ⟨rfl, c2, c3⟩ := hc
            cases h; exact does_load ho hx hH he hA hS c2 c3 hK
          · cases h
        · cases h
      · cases h
    · rename_i e j hx
      split at h
      · rename_i ag k hA hS
        split at h
        · rename_i hc; cases h; exact does_load_q ho hx hA hS hc.1 hc.2 hK
        · cases h
      · cases h
    · cases h
  · rename_i t ps ho
    unfold bldV at h
    split at h
    · rename_i pl zs hp hz
      split at h
      · rename_i h1
        obtain ⟨r', hr, rfl⟩ := Option.map_eq_some_iff.1 h
        exact does_build ho hp hz h1 hr hK
      · cases h
    · rename_i zs hp hz
      split at h
      · rename_i k hk
        obtain ⟨q, hq1, hq2⟩ := Option.bind_eq_some_iff.1 hk
        obtain ⟨m, et⟩ := q
        split at h
        · rename_i h1
          obtain ⟨r', hr, rfl⟩ := Option.map_eq_some_iff.1 h
          exact does_build_a ho hq1 hq2 hz h1 hr hK
        · cases h
      · cases h
    · cases h
  · rename_i b xs ts ho
    unfold biV at h
    split at h
    · rename_i t x ht hx
      have hts : ts = #[t] := by apply Array.ext'; simpa using ht
      subst hts
      obtain ⟨x', hx1, hx2⟩ : ∃ x', xs = #[x'] ∧ ev a x' = x := by
        cases hl : xs.toList with
        | nil => simp [hl] at hx
        | cons y ys =>
          simp [hl] at hx
          exact ⟨y, by apply Array.ext'; simp [hl, hx.2], hx.1⟩
      subst hx1
      cases hE : tE P t with
      | none => simp [hE] at h
      | some et =>
        rw [hE, Option.bind_some] at h
        obtain ⟨n, hn, rfl⟩ := Option.map_eq_some_iff.1 h
        exact does_len ho hE (by rw [hx2]; exact hn) hK
    · rename_i k m k' n hx
      cases h
      obtain ⟨x', y', rfl, e1, e2⟩ : ∃ x' y', xs = #[x', y'] ∧ ev a x' = .c (.int k m) ∧ ev a y' = .c (.int k' n) := by
        cases hl : xs.toList with
        | nil => simp [hl] at hx
        | cons y ys =>
          cases ys with
          | nil => simp [hl] at hx
          | cons z zs => simp [hl] at hx; exact ⟨y, z, by apply Array.ext'; simp [hl, hx.2.2], hx.1, hx.2.1⟩
      exact does_max ho e1 e2 hK
    · rename_i k m k' n hx
      cases h
      obtain ⟨x', y', rfl, e1, e2⟩ : ∃ x' y', xs = #[x', y'] ∧ ev a x' = .c (.int k m) ∧ ev a y' = .c (.int k' n) := by
        cases hl : xs.toList with
        | nil => simp [hl] at hx
        | cons y ys =>
          cases ys with
          | nil => simp [hl] at hx
          | cons z zs => simp [hl] at hx; exact ⟨y, z, by apply Array.ext'; simp [hl, hx.2.2], hx.1, hx.2.1⟩
      exact does_min ho e1 e2 hK
    · cases h
  · rename_i f xs ts ho
    exact does_call ho rfl ((E.cl_ok _ _ _ h).pure H hK)
  · cases h
end
end Go.Proofs.Yteoepeionomjlaa
