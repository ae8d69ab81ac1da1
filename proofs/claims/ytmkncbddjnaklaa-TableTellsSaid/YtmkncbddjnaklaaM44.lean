/- Copies between rows of one's own; the capacity; slices that do not overlap; zero cells behind a beginning. -/
import Derived.Test.YtmkncbddjnaklaaM43
import Derived.Lib.Overlaps
import Derived.Lib.AppendZerosOnto
namespace Go.Proofs.Ytmkncbddjnaklaa
open Go.RowKit
set_option linter.all false

section
variable {P : Program} {o : Oper} {a : Nat → AV} {H : Heap} {K : AV → Heap → Prop}
theorem does_capS {x : Operand} {t et : TypeId} {n sz i len cap : Nat} (ho : o.op = .call { callee := .builtin .cap, args := #[x], argTypes := #[t] }) (hx : ev a x = .s n sz i len cap) (hE : tE P t = some et) (hK : K (.c (.int .i64 cap)) H) : Does P o a H K :=
  Does.val (fun c => by simp [ho]) hK fun F w act hv hs => by
    obtain ⟨cs, ecs⟩ := builtin_run ho act
    have hvx := hv.ev x
    rw [hx] at hvx
    obtain ⟨oo, ex, g1, g2, g3⟩ := hvx.s_inv
    exact ⟨.int .i64 cap, by rw [ecs]; simp [builtin, Builtin.cap_, ex, run_underlying (tE_eq hE)]; rfl, .c _⟩
theorem rowCopy {F : Mem} {C : Array Value} {sz i : Nat} {rows new : List (List AV)} {vs : List Value} (h : RowOk F C sz rows) (hi : i ≤ rows.length) (hl : ∀ e ∈ new, e.length = sz) (hv : vs.length = new.length * sz)
    (hn : ∀ i j y, at2 new i j = some y → y.one = true ∧ V F y (vs.getD (i * sz + j) undef)) (hfit : i * sz + vs.length ≤ C.size) : RowOk F (splice C (i * sz) vs) sz (rows.take i ++ new ++ rows.drop (i + new.length)) := by
  have ht : (rows.take i).length = i := by simp; omega
  have key : ∀ i' j y, at2 (rows.take i ++ new ++ rows.drop (i + new.length)) i' j = some y → (i' < i ∧ at2 rows i' j = some y) ∨ (i ≤ i' ∧ i' < i + new.length ∧ at2 new (i' - i) j = some y) ∨ (i + new.length ≤ i' ∧ at2 rows i' j = some y) := fun i' j y hy => by
    obtain ⟨e, he, hj⟩ := at2_some.1 hy
    by_cases c1 : i' < i
    · rw [List.append_assoc, List.getElem?_append_left (by omega), List.getElem?_take, if_pos c1] at he
      exact .inl ⟨c1, at2_some.2 ⟨e, he, hj⟩⟩
    by_cases c2 : i' < i + new.length
    · rw [List.append_assoc, List.getElem?_append_right (by omega), ht, List.getElem?_append_left (by omega)] at he
      exact .inr (.inl ⟨by omega, c2, at2_some.2 ⟨e, he, hj⟩⟩)
    · rw [List.getElem?_append_right (by rw [List.length_append, ht]; omega), List.length_append, ht, List.getElem?_drop] at he
      have : i + new.length + (i' - (i + new.length)) = i' := by omega
      rw [this] at he
      exact .inr (.inr ⟨by omega, at2_some.2 ⟨e, he, hj⟩⟩)
  refine ⟨fun e he => ?_, fun i' j y hy => ?_, fun i' j y hy => ?_⟩
  · rcases List.mem_append.1 he with he | he
    · rcases List.mem_append.1 he with he | he
      · exact h.len e (List.mem_of_mem_take he)
      · exact hl e he
    · exact h.len e (List.mem_of_mem_drop he)
  · rcases key i' j y hy with ⟨-, g⟩ | ⟨-, -, g⟩ | ⟨-, g⟩
    · exact h.one i' j y g
    · exact (hn _ j y g).1
    · exact h.one i' j y g
  · rw [splice_get hfit]
    rcases key i' j y hy with ⟨c, g⟩ | ⟨c, c2, g⟩ | ⟨c, g⟩
    · have hb := flat_lt c (h.at2 g).2
      rw [if_neg (by omega)]
      exact h.val i' j y g
    · have hjl : j < sz := by
        obtain ⟨e, he, hj⟩ := at2_some.1 g
        have := hl e (List.mem_of_getElem? he)
        rw [← this]; exact (List.getElem?_eq_some_iff.1 hj).1
      have hb := flat_lt (n := new.length) (i := i' - i) (j := j) (sz := sz) (by omega) hjl
      have e1 : i' * sz + j = i * sz + ((i' - i) * sz + j) := by
        have : i' = i + (i' - i) := by omega
        conv => lhs; rw [this, Nat.add_mul]
        omega
      rw [if_pos (by rw [e1, hv]; omega), e1, Nat.add_sub_cancel_left]
      exact (hn _ j y g).2
    · have h5 : (i + new.length) * sz ≤ i' * sz := Nat.mul_le_mul_right _ c
      rw [Nat.add_mul] at h5
      rw [if_neg (by rw [hv]; omega)]
      exact h.val i' j y g
/-- rows of one's own are copied onto rows of one's own -/
theorem does_copyB {x y : Operand} {t t' ty ty' : TypeId} {n m sz i dl dcap j sl scap cap cap' k : Nat} {rows rows' : List (List AV)} (ho : o.op = .call { callee := .builtin .copy, args := #[x, y], argTypes := #[t, t'] })
    (hx : ev a x = .s n sz i dl dcap) (hy : ev a y = .s m sz j sl scap) (hH : H n = some (.r ty sz cap rows)) (hH' : H m = some (.r ty' sz cap' rows')) (hE : tE P t = some ty) (hS : tS P ty = some sz)
    (hk : k = Nat.min sl dl) (h1 : i ≤ rows.length) (h2 : i + k ≤ cap) (h3 : j + k ≤ rows'.length)
    (h : K (.c (.int .i64 k)) (upd H n (.r ty sz cap (rows.take i ++ (rows'.drop j).take k ++ rows.drop (i + k))))) : Does P o a H K :=
  Does.ran (fun c => by simp [ho]) fun F w act hv hs => by
    have hvx := hv.ev x
    rw [hx] at hvx
    have hvy := hv.ev y
    rw [hy] at hvy
    obtain ⟨ox, ex, gx1, gx2, gx3⟩ := hvx.s_inv
    obtain ⟨oy, ey, gy1, gy2, gy3⟩ := hvy.s_inv
    obtain ⟨C, c1, c2, c3, c4, c5, c6⟩ := hs.blk n _ hH
    obtain ⟨cs, ecs⟩ := builtin_run ho act
    obtain ⟨info, hi1, hi2⟩ : ∃ info, P.info? ty = some info ∧ info.size = sz := by
      unfold tS at hS
      cases hq : P.info? ty with
      | none => rw [hq] at hS; cases hS
      | some q => rw [hq] at hS; exact ⟨q, rfl, by simpa using hS⟩
    have hksl : k ≤ sl := by rw [hk]; exact Nat.min_le_left _ _
    have hkdl : k ≤ dl := by rw [hk]; exact Nat.min_le_right _ _
    have hvk : V F (.s m sz j k scap) (.slice (some ⟨m, oy, none⟩) k scap) := .s _ _ _ _ _ oy gy1 (by omega) gy3
    have hsrc := hs.src hH' h3 hvk
    have hlen : ((rows'.drop j).take k).length = k := by simp; omega
    obtain ⟨ad, c, vs, e1, s1, s2, s3, s4, s5, s6⟩ := hsrc.ex
    rw [hlen] at e1 s1 s3
    cases e1
    have hld := run_firstCells_some (P := P) w sz k ⟨m, oy, none⟩ sl scap vs s3 (s5 _ rfl)
    by_cases hk0 : k = 0
    · have hvs : vs = [] := List.eq_nil_of_length_eq_zero (by rw [s3, hk0]; simp)
      have hsame : upd H n (.r ty sz cap (rows.take i ++ (rows'.drop j).take k ++ rows.drop (i + k))) = H := by
        rw [hk0]; simp only [List.take_zero, List.append_nil, Nat.add_zero, List.take_append_drop]; exact upd_self hH
      rw [hsame] at h
      refine ⟨.int .i64 k, w, F, H, .c (.int .i64 k), ?_, .c _, hs, Ext.refl _ _ _, h⟩
      rw [ecs]
      subst hvs
      simp [builtin, ex, ey, Builtin.copy_, Sem.run_bind, run_underlying (tE_eq hE), Builtin.lenOf, sizeOf, typeInfo, hi1, hi2, ← hk, hld, storeCells, goInt]
    · have h0 := gx1 (.inl (by omega)); subst h0
      have hfit : i * sz + 0 + vs.length ≤ C.size := by rw [s3, c2, Nat.add_zero, ← Nat.add_mul]; exact Nat.mul_le_mul_right _ h2
      have hst := run_storeCells_at P n (i * sz) ty vs 0 C w c1 hfit s4
      obtain ⟨D, hD⟩ : ∃ D : Array Value, D = (C.toList.take (i * sz + 0) ++ vs ++ C.toList.drop (i * sz + 0 + vs.length)).toArray := ⟨_, rfl⟩
      rw [← hD] at hst
      have hDs : D = splice C (i * sz) vs := hD
      have hrow := rowCopy c6 h1 hsrc.len (by rw [hlen]; exact s3) s6 (by simpa using hfit)
      rw [hlen, ← hDs] at hrow
      obtain ⟨t1, t2⟩ := turn_row hs hH c1 (by rw [hDs, splice_size (by simpa using hfit)]; exact c2) (by simp only [List.length_append, List.length_take, List.length_drop, hlen]; omega) c4 c5 hrow
      refine ⟨.int .i64 k, w.setRow n D, F, _, .c (.int .i64 k), ?_, .c _, t1, t2, h⟩
      rw [ecs]
      simp [builtin, ex, ey, Builtin.copy_, Sem.run_bind, run_underlying (tE_eq hE), Builtin.lenOf, sizeOf, typeInfo, hi1, hi2, ← hk, hld, hst, goInt]
/-- zero cells behind a beginning of a row of one's own: a new row -/
theorem does_appZS {x y : Operand} {t tn e : TypeId} {kn kq : IntKind} {sz by' n i c cap k : Nat} {zs : List Value} {rows : List (List AV)} (ho : o.op = .call { callee := .builtin .append, args := #[x, y], argTypes := #[t, tn] }) (hx : ev a x = .s n sz 0 i c) (hy : ev a y = .c (.int kq k))
    (hH : H n = some (.r e sz cap rows)) (hi : i ≤ rows.length) (hg : c < i + k)
    (htn : P.underlying tn = some (.int kn)) (hE : tE P t = some e) (hS : tS P e = some sz) (hB : tB P e = some by') (hz : tZ P e = some zs) (hzl : zs.length = sz) (hp : 0 < sz) (hk : 0 < k) (h63 : i + k ≤ maxLen) (hbytes : (i + k) * by' ≤ 140737488355328)
    (h : ∀ m G, H m = none → i + k ≤ G → G ≤ maxLen → K (.s m sz 0 (i + k) G) (upd H m (.r e sz G (rows.take i)))) : Does P o a H K :=
  Does.ran (fun c => by simp [ho]) fun F w act hv hs => by
    have hvx := hv.ev x
    rw [hx] at hvx
    obtain ⟨ox, ex, gx1, gx2, gx3⟩ := hvx.s_inv
    obtain ⟨q, hi0, hi1, hi2⟩ : ∃ q, P.info? e = some q ∧ q.size = sz ∧ q.bytes = by' := by
      unfold tS at hS; unfold tB at hB
      cases hq : P.info? e with
      | none => simp [hq] at hS
      | some q => simp [hq] at hS hB; exact ⟨q, rfl, hS, hB⟩
    obtain ⟨z, hzz, hzc⟩ : ∃ z, q.zero = some z ∧ z.cells.size = sz := by
      unfold tZ at hz
      simp [hi0] at hz
      obtain ⟨z, hz1, hz2⟩ := hz
      exact ⟨z, hz1, by rw [← hzl, ← hz2]; simp⟩
    have hsrc := hs.drew.src hH (i := 0) (by omega) hvx
    rw [List.drop_zero] at hsrc
    have hlen : (rows.take i).length = i := by simp; omega
    obtain ⟨ad, c', vs, e1, s1, s2, s3, s4, s5, s6⟩ := hsrc.ex
    rw [ex, hlen] at e1
    rw [hlen] at s1 s3
    cases e1
    have hold : (Builtin.firstCells q.size i (.slice (some ⟨n, ox, none⟩) i c)).run P w.drew = .ok vs.toArray w.drew := by
      rw [hi1]; exact run_firstCells_some (P := P) w.drew sz i ⟨n, ox, none⟩ i c vs s3 (s5 _ rfl)
    have hfit : Builtin.nextslicecap (i + k) c * q.bytes ≤ 281474976710656 := by rw [hi2]; exact growslice_fits hg hbytes
    have hkb : k * by' ≤ 140737488355328 := Nat.le_trans (Nat.mul_le_mul_right _ (by omega)) hbytes
    have hr := Lib.run_append_grow_zeros w t tn o.type e q z kq kn (tE_eq hE) htn hi0 hzz (some ⟨n, ox, none⟩) i c vs hold k hk (by rw [hi1]; exact hp) hg (by unfold maxLen at h63; omega) (by rw [hi2]; omega) hfit
    have hG1 := grownCap_ge w (i + k) c e
    have hG2 := grownCap_le_maxLen w (i + k) c e (by omega)
    obtain ⟨G, hG⟩ : ∃ G, grownCap w (i + k) c e = G := ⟨_, rfl⟩
    rw [hG] at hr hG1 hG2
    obtain ⟨Z, hZ⟩ : ∃ Z, Builtin.zeroCells z.cells k ++ Builtin.zeroCells z.cells (G - (i + k)) = Z := ⟨_, rfl⟩
    rw [Array.append_assoc, hZ] at hr
    have hsz : (vs.toArray ++ Z).size = G * sz := by
      rw [← hZ]
      simp only [Array.size_append, List.size_toArray, size_zeroCells, hzc, s3, ← Nat.add_mul]
      congr 1; omega
    obtain ⟨cs, ecs⟩ := builtin_run ho act
    refine ⟨.slice (some ⟨w.heap.size, 0, none⟩) (i + k) G, w.drew.alloc (.cells (vs.toArray ++ Z) e), F, upd H w.heap.size (.r e sz G (rows.take i)), .s w.heap.size sz 0 (i + k) G, ?_, .s _ _ _ _ _ 0 (fun _ => by simp) hG1 hG2, ?_, ?_, h _ _ (hs.fresh (Nat.le_refl _)) hG1 hG2⟩
    · rw [ecs]; simp [builtin, Sem.run_bind, ex, hv.c hy, hr]
    · refine hs.drew.alloc _ _ ⟨vs.toArray ++ Z, heap_alloc_new w.drew _, hsz, by rw [hlen]; omega, hG2, hp, hsrc.len, fun i' j y hy => (s6 i' j y hy).1, fun i' j y hy => ?_⟩
      have hat := at2_some.1 hy
      obtain ⟨e', he', hj'⟩ := hat
      have hil := (List.getElem?_eq_some_iff.1 he').1
      have hjl : j < sz := by rw [← hsrc.len e' (List.mem_of_getElem? he')]; exact (List.getElem?_eq_some_iff.1 hj').1
      have hb := flat_lt hil hjl
      rw [hlen] at hb
      have : (vs.toArray ++ Z).getD (i' * sz + j) undef = vs.getD (i' * sz + j) undef := by
        rw [arr_getD, List.getD_eq_getElem?_getD, List.getD_eq_getElem?_getD, Array.toList_append, List.getElem?_append_left (by simpa using (by omega : i' * sz + j < vs.length))]
      rw [this]
      exact (s6 i' j y hy).2
    · exact (Ext.drew F H w).trans (Ext.alloc H w.drew _ _)
/-- two rows of one's own do not overlap -/
theorem does_overlaps {f : FuncId} {fn : Func} {t tr et ty ty' : TypeId} {x y : Operand} {ts : Array TypeId} {n m sz sz' i j la ca lb cb cap cap' : Nat} {rows rows' : List (List AV)} (ho : o.op = .call { callee := .value (.func f), args := #[x, y], argTypes := ts })
    (hf : P.funcs[f]? = some fn) (hname : (fn.name == "runtime.NumGoroutine") = false) (hb : fn.body.isNone = true) (hfn : Extern.findNext fn = none) (hfe : Extern.find fn = some (Extern.SlicesOverlaps.overlaps #[t, t] #[tr]))
    (hx : ev a x = .s n sz i la ca) (hy : ev a y = .s m sz' j lb cb) (hH : H n = some (.r ty sz cap rows)) (hH' : H m = some (.r ty' sz' cap' rows')) (hne : n ≠ m) (hpos : 0 < rows'.length) (hE : tE P t = some et) (hS : tS P et = some sz)
    (h : K (.c (.bool false)) H) : Does P o a H K :=
  Does.val (fun c => by simp [ho]) h fun F w act hv hs => by
    have hvx := hv.ev x
    rw [hx] at hvx
    have hvy := hv.ev y
    rw [hy] at hvy
    obtain ⟨ox, ex, gx1, gx2, gx3⟩ := hvx.s_inv
    obtain ⟨oy, ey, gy1, gy2, gy3⟩ := hvy.s_inv
    obtain ⟨C, c1, c2, c3, c4, c5, c6⟩ := hs.blk n _ hH
    obtain ⟨D, d1, d2, d3, d4, d5, d6⟩ := hs.blk m _ hH'
    have hsz : ∀ w, (Go.sizeOf et).run P w = .ok sz w := fun w => by
      unfold tS at hS
      cases hq : P.info? et with
      | none => rw [hq] at hS; cases hS
      | some q =>
        rw [hq] at hS
        have : q.size = sz := by simpa using hS
        simp [sizeOf, typeInfo, hq, this, Sem.run_bind]
    have hD0 : D.size ≠ 0 := by
      rw [d2]
      have : 0 < cap' * sz' := Nat.mul_pos (by omega) d5
      omega
    have hrun := Lib.run_overlaps_apart (P := P) w t tr et (tE_eq hE) sz hsz ⟨n, ox, none⟩ ⟨m, oy, none⟩ la ca lb cb hne ty ty' C.size D.size (by simp [World.shape?, c1]) (by simp [World.shape?, d1]) hD0 (by simp [World.frozen?, c1]) (by simp [World.frozen?, c1])
    have hcf := run_callFunc_extern hf hname hb hfn hfe #[.slice (some ⟨n, ox, none⟩) la ca, .slice (some ⟨m, oy, none⟩) lb cb] w
    rw [hrun] at hcf
    refine ⟨.bool false, ?_, .c _⟩
    have hfv : act.eval (.func f) = .func (.func f) #[] #[] := rfl
    simp only [execOp, ho, resolve, hfv, Deferred.ofValue]
    simp [Sem.run_bind, invoke, ex, ey, hcf, Result.andThen]
end
end Go.Proofs.Ytmkncbddjnaklaa
