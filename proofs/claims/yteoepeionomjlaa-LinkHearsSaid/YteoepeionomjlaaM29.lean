/- Slices against nil; a slice that grows in its own row; clear; arguments that are held for less. -/
import Derived.Test.YteoepeionomjlaaM28
namespace Go.Proofs.Yteoepeionomjlaa
open Go.RowKit
set_option linter.all false

section
variable {P : Program} {o : Oper} {a : Nat → AV} {H : Heap} {K : AV → Heap → Prop}

theorem eqnil_run {t et : TypeId} (hE : tE P t = some et) (ad : Option Addr) (len cap : Nat) (w : World) : (Op.equal t (.slice ad len cap) (.slice none 0 0)).run P w = .ok ad.isNone w := by
  have hu : ∀ w : World, (underlying t).run P w = .ok (.slice et) w := fun w => run_underlying (tE_eq hE) w
  rw [show Op.equal t (.slice ad len cap) (.slice none 0 0) = Op.equalIn (9999 + 1) t (.slice ad len cap) (.slice none 0 0) from rfl]
  unfold Op.equalIn
  cases ad <;> simp [Sem.run_bind, hu]
theorem does_isnil_l {t t' et : TypeId} {x y : Operand} {sz : Nat} {rows : List (List AV)} (ho : o.op = .binOp .eql t x y t') (hx : ev a x = .l sz rows) (hy : ev a y = .c (.slice none 0 0)) (hE : tE P t = some et)
    (h : ∀ b : Bool, (b = true → rows = []) → K (.c (.bool b)) H) : Does P o a H K :=
  Does.ran (fun c => by simp [ho]) fun F w act hv hs => by
    have h1 := hv.ev x
    rw [hx] at h1
    obtain ⟨ad, cap, u, e1, h2, h3, h4, -⟩ := h1.l_inv
    refine ⟨.bool ad.isNone, w, F, H, .c (.bool ad.isNone), ?_, .c _, hs, Ext.refl _ _ _, h _ (fun hb => ?_)⟩
    · have hg : eqGuard .eql t x y (.slice ad rows.length cap) (.slice none 0 0) = pure () := by rfl
      rw [show execOp act.eval o = (do pure (.value (← (do eqGuard .eql t x y (.slice ad rows.length cap) (.slice none 0 0); binOp .eql t (.slice ad rows.length cap) (.slice none 0 0))))) by simp [execOp, ho, e1, hv.c hy], hg]
      rw [show binOp .eql t (.slice ad rows.length cap) (.slice none 0 0) = (do pure (.bool (← Op.equal t (.slice ad rows.length cap) (.slice none 0 0)))) from rfl]
      simp [Sem.run_bind, eqnil_run hE]
    · have : ad = none := by simpa using hb
      have := h4 this
      exact List.eq_nil_of_length_eq_zero (by omega)
theorem does_isnil_c {t t' et : TypeId} {x y : Operand} {ad : Option Addr} (ho : o.op = .binOp .eql t x y t') (hx : ev a x = .c (.slice ad 0 0)) (hy : ev a y = .c (.slice none 0 0)) (hE : tE P t = some et)
    (h : K (.c (.bool ad.isNone)) H) : Does P o a H K :=
  Does.val (fun c => by simp [ho]) h fun F w act hv hs => ⟨_, by
      have hg : eqGuard .eql t x y (.slice ad 0 0) (.slice none 0 0) = pure () := by rfl
      rw [show execOp act.eval o = (do pure (.value (← (do eqGuard .eql t x y (.slice ad 0 0) (.slice none 0 0); binOp .eql t (.slice ad 0 0) (.slice none 0 0))))) by simp [execOp, ho, hv.c hx, hv.c hy], hg]
      rw [show binOp .eql t (.slice ad 0 0) (.slice none 0 0) = (do pure (.bool (← Op.equal t (.slice ad 0 0) (.slice none 0 0)))) from rfl]
      simp [Sem.run_bind, eqnil_run hE], .c _⟩

theorem RowOk.take {F : Mem} {C : Array Value} {sz : Nat} {rows : List (List AV)} (h : RowOk F C sz rows) (i : Nat) : RowOk F C sz (rows.take i) :=
  ⟨fun e he => h.len e (List.mem_of_mem_take he), fun i' j y hy => h.one i' j y (at2_take hy).1, fun i' j y hy => h.val i' j y (at2_take hy).1⟩

/-- a part of one's own row is appended to its beginning: in its place -/
theorem does_appself {x y : Operand} {t ty : TypeId} {n sz i j m cap cap2 : Nat} {rows : List (List AV)} (ho : o.op = .call { callee := .builtin .append, args := #[x, y], argTypes := #[t, t] })
    (hx : ev a x = .s n sz 0 i cap) (hy : ev a y = .s n sz j m cap2) (hH : H n = some (.r ty sz cap rows)) (hE : tE P t = some ty) (hS : tS P ty = some sz) (hi : i ≤ rows.length) (hj : j + m ≤ rows.length) (hr : i + m ≤ cap)
    (h : K (.s n sz 0 (i + m) cap) (upd H n (.r ty sz cap (rows.take i ++ (rows.drop j).take m)))) : Does P o a H K :=
  Does.ran (fun c => by simp [ho]) fun F w act hv hs => by
    have hvx := hv.ev x
    rw [hx] at hvx
    have hvy := hv.ev y
    rw [hy] at hvy
    have hsrc := hs.src hH hj hvy
    obtain ⟨C, c1, c2, c3, c4, c5, c6⟩ := hs.blk n _ hH
    obtain ⟨oo, ex, g1, g2, g3⟩ := hvx.s_inv
    have h0 := g1 (.inr rfl)
    rw [Nat.zero_mul] at h0; subst h0
    have hlen : ((rows.drop j).take m).length = m := by simp; omega
    obtain ⟨ad, c, vs, ey, s1, s2, s3, s4, s5, s6⟩ := hsrc.ex
    rw [hlen] at ey s1 s3
    obtain ⟨info, hi1, hi2⟩ : ∃ info, P.info? ty = some info ∧ info.size = sz := by
      unfold tS at hS
      cases hq : P.info? ty with
      | none => rw [hq] at hS; cases hS
      | some q => rw [hq] at hS; exact ⟨q, rfl, by simpa using hS⟩
    obtain ⟨cs, ecs⟩ := builtin_run ho act
    have hil : (rows.take i).length = i := by simp; omega
    have hfit : i * sz + vs.length ≤ C.size := by rw [s3, c2, ← Nat.add_mul]; exact Nat.mul_le_mul_right _ hr
    cases ad with
    | none =>
      obtain ⟨q, e2, -⟩ := hvy.s_inv
      rw [ey] at e2; cases e2
    | some ad =>
      have hrun := run_append_room (P := P) w t ty (ty := o.type) info (tE_eq hE) hi1 n i cap C c1 ad m c vs (by rw [hi2]; exact s3) (s5 ad rfl) s4 hr (by rw [hi2]; exact hfit)
      rw [hi2] at hrun
      obtain ⟨D, hD⟩ : ∃ D : Array Value, D = (C.toList.take (i * sz) ++ vs ++ C.toList.drop (i * sz + vs.length)).toArray := ⟨_, rfl⟩
      rw [← hD] at hrun
      have hDs : D.size = cap * sz := by
        rw [hD, ← c2]; simp; omega
      have hrow : RowOk F D sz (rows.take i ++ (rows.drop j).take m) := rows_app (c6.take i) (by rw [hil]; omega) hsrc.len (by rw [hlen]; exact s3) s6 (by
        rw [hD, hil, hlen]
        have : (i + m) * sz = (C.toList.take (i * sz) ++ vs).length := by simp [s3, Nat.add_mul]; omega
        rw [this]
        simp only [List.toList_toArray]
        exact List.take_left)
      obtain ⟨t1, t2⟩ := turn_row hs hH c1 hDs (by rw [List.length_append, hil, hlen]; exact hr) c4 c5 hrow
      refine ⟨_, w.setRow n D, F, _, .s n sz 0 (i + m) cap, ?_, .s _ _ _ _ _ 0 (fun _ => by simp) hr g3, t1, t2, h⟩
      rw [ecs]
      simp [builtin, ex, ey, Sem.run_bind, hrun]

/-- what lies behind the elements is cleared -/
theorem does_clear {x : Operand} {t ty : TypeId} {n sz i len cap cap2 : Nat} {zs : List Value} {rows : List (List AV)} (ho : o.op = .call { callee := .builtin .clear, args := #[x], argTypes := #[t] })
    (hx : ev a x = .s n sz i len cap2) (hH : H n = some (.r ty sz cap rows)) (hE : tE P t = some ty) (hz : tZ P ty = some zs) (hzl : zs.length = sz) (h1 : zs.all (·.oneCell') = true) (hi : rows.length ≤ i) (hr : i + len ≤ cap)
    (h : K (.t []) H) : Does P o a H K :=
  Does.ran (fun c => by simp [ho]) fun F w act hv hs => by
    have hvx := hv.ev x
    rw [hx] at hvx
    obtain ⟨C, c1, c2, c3, c4, c5, c6⟩ := hs.blk n _ hH
    obtain ⟨oo, ex, g1, g2, g3⟩ := hvx.s_inv
    obtain ⟨cs, ecs⟩ := builtin_run ho act
    by_cases hl : len = 0
    · subst hl
      refine ⟨.tuple #[], w, F, H, .t [], ?_, V.t_of (by simpa using Vs.nil F), hs, Ext.refl _ _ _, h⟩
      rw [ecs]
      simp [builtin, ex, Builtin.clear_, Sem.run_bind, run_underlying (tE_eq hE)]
    · have h0 := g1 (.inl (by omega)); subst h0
      obtain ⟨z, z1, z2⟩ := run_tZ hz w
      obtain ⟨zc, hzc⟩ : ∃ zc : Array Value, zc = Builtin.zeroCells z.cells len := ⟨_, rfl⟩
      have hsz : zc.toList.length = len * sz := by rw [hzc]; simp [Builtin.zeroCells, ← hzl, ← z2]
      have hone : ∀ u ∈ zc.toList, u.oneCell' = true := by
        intro u hu
        rw [hzc] at hu
        simp only [Builtin.zeroCells, Array.toList_map, List.mem_map] at hu
        obtain ⟨q, hq, rfl⟩ := hu
        have hp : 0 < z.cells.size := by rw [← Array.length_toList, z2, hzl]; exact c5
        have : z.cells[q % z.cells.size]! ∈ z.cells.toList := by
          rw [getElem!_pos z.cells _ (Nat.mod_lt _ hp)]; simp
        rw [z2] at this
        exact List.all_eq_true.1 h1 _ this
      have hfit : i * sz + 0 + zc.toList.length ≤ C.size := by rw [hsz, c2, Nat.add_zero, ← Nat.add_mul]; exact Nat.mul_le_mul_right _ hr
      have hst := run_storeCells_at P n (i * sz) ty zc.toList 0 C w c1 hfit hone
      obtain ⟨D, hD⟩ : ∃ D : Array Value, D = (C.toList.take (i * sz + 0) ++ zc.toList ++ C.toList.drop (i * sz + 0 + zc.toList.length)).toArray := ⟨_, rfl⟩
      rw [← hD] at hst
      have hDs : D = splice C (i * sz) zc.toList := hD
      have hrow : RowOk F D sz rows := by
        refine ⟨c6.len, c6.one, fun i' j y hy => ?_⟩
        rw [hDs, splice_get (by simpa using hfit)]
        have hb := c6.at2 hy
        have := flat_lt hb.1 hb.2
        have h5 : rows.length * sz ≤ i * sz := Nat.mul_le_mul_right _ hi
        rw [if_neg (by omega)]
        exact c6.val i' j y hy
      obtain ⟨t1, t2⟩ := turn_row hs hH c1 (by rw [hDs, splice_size (by simpa using hfit)]; exact c2) c3 c4 c5 hrow
      rw [upd_self hH] at t1 t2
      refine ⟨.tuple #[], w.setRow n D, F, H, .t [], ?_, V.t_of (by simpa using Vs.nil F), t1, t2, h⟩
      rw [ecs]
      have hne : len ≠ 0 := hl
      simp [builtin, ex, Builtin.clear_, Sem.run_bind, run_underlying (tE_eq hE), z1, ← hzc, hst]
end

theorem ite_in5 {α : Type} (b : Bool) (x y z : α) : (if b = false then x else (if b = true then y else z)) = if b = false then x else y := by cases b <;> rfl
theorem ite_in6 {α : Type} (b : Bool) (x y z : α) : (if b = false then (if b = true then y else z) else x) = if b = false then z else x := by cases b <;> rfl
theorem decide_bf (b : Bool) : decide (b = false) = !b := by cases b <;> rfl
theorem decide_bt (b : Bool) : decide (b = true) = b := by cases b <;> rfl
attribute [push_cast] Int.le_refl Nat.le_refl ite_in5 ite_in6 decide_bf decide_bt
/-- what is known of a block -/
theorem ACall.blk {P : Program} {f : FuncId} {args : List AV} {H : Heap} {K : AV → Heap → Prop} (he : Ent P f) {n sz cap : Nat} {ty : TypeId} {rows : List (List AV)} (hn : H n = some (.r ty sz cap rows))
    (h : rows.length ≤ cap → cap ≤ maxLen → 0 < sz → (∀ e ∈ rows, e.length = sz) → ACall P f args H K) : ACall P f args H K :=
  ⟨he, fun F w cs hv hs => by
    obtain ⟨C, c1, c2, c3, c4, c5, c6⟩ := hs.blk n _ hn
    exact (h c3 c4 c5 c6.len).2 F w cs hv hs⟩
section
variable {P : Program} {o : Oper} {a : Nat → AV} {H : Heap} {K : AV → Heap → Prop}
theorem does_slice_c {t : TypeId} {x : Operand} {lo hi mx : Option Operand} {et : TypeId} {sz : Nat} {ad : Option Addr} (ho : o.op = .slice t x lo hi mx) (hx : ev a x = .c (.slice ad 0 0)) (hE : tE P t = some et) (hS : tS P et = some sz)
    (hl : optI a 0 lo = some 0) (hh : optI a 0 hi = some 0) (hm : optI a 0 mx = some 0) (hmx : mx.isSome = true → hi.isSome = true)
    (hK : K (.c (.slice ad 0 0)) H) : Does P o a H K :=
  Does.val (fun c => by simp [ho]) hK fun F w act hv hs => by
    have hr := slice_run hE hS (fun x hx => hv.ev x (by rcases hx with hx | hx | hx <;> simp_all [Op.operands])) (ad := ad) (len := 0) (cap := 0) (l := 0) (h := 0) (m := 0) hl hh hm (Int.le_refl _) (Int.le_refl _) (Int.le_refl _) (by simp) (Nat.le_refl _) hmx w
    refine ⟨_, by simp only [execOp, ho, hv.c hx, Sem.run_bind, hr, Result.andThen_ok, Sem.run_pure]; rfl, ?_⟩
    simp
    exact .c _
end
theorem del_pair {H : Heap} {n p : Nat} {A B C : Blk} (hn : H n = none) (hp : H p = none) (hpn : p ≠ n) : del (del (upd (upd (upd H n A) p B) n C) n) p = H := by
  funext q
  simp only [del, upd]
  by_cases e1 : q = p
  · subst e1; simp [hp]
  · by_cases e2 : q = n
    · subst e2; simp [e1, hn]
    · simp [e1, e2]
theorem del_pair2 {H : Heap} {n p : Nat} {A B : Blk} (hn : H n = none) (hp : H p = none) (hpn : p ≠ n) : del (del (upd (upd H p A) n B) n) p = H := by
  funext q
  simp only [del, upd]
  by_cases e1 : q = p
  · subst e1; simp [hp]
  · by_cases e2 : q = n
    · subst e2; simp [e1, hn]
    · simp [e1, e2]
theorem Lent.g {H : Heap} {xs ys : List AV} (hl : Lents H xs ys) (ho : ∀ y ∈ ys, y.one = true) : Lent H (.g xs) (.g ys) := fun F w v hs hv => by
  obtain ⟨cs, rfl, h1, h2⟩ := hv.g_inv
  exact V.g_of (Lents.ok hs hl h1) ho
theorem Lents.refl (H : Heap) : ∀ xs : List AV, Lents H xs xs
  | [] => trivial
  | x :: xs => ⟨Lent.refl H x, Lents.refl H xs⟩
/-- less memory beside -/
theorem OwnL.cut {H H0 K : Heap} {x : AV} {ty : TypeId} {sz : Nat} {rows : List (List AV)} (h : OwnL H x ty sz rows H0) (hk : Heap.le K H0) : ∃ H', Heap.le H' H ∧ OwnL H' x ty sz rows K := by
  rcases h with ⟨e1, e2, rfl⟩ | ⟨n, cap, e1, e2, rfl⟩
  · exact ⟨K, hk, .inl ⟨e1, e2, rfl⟩⟩
  · have hn : K n = Option.none := by
      cases h : K n with
      | none => rfl
      | some k => have := hk n k h; rw [del_same] at this; cases this
    refine ⟨upd K n (.r ty sz cap rows), fun m k hm => ?_, .inr ⟨n, cap, e1, upd_same _ _ _, (del_upd_same hn).symm⟩⟩
    by_cases e : m = n
    · subst e; rw [upd_same] at hm; cases hm; exact e2
    · rw [upd_ne e] at hm; exact del_le _ _ m k (hk m k hm)
/-- arguments are held for less -/
theorem ACall.argw {P : Program} {f : FuncId} {args args' : List AV} {H : Heap} {K : AV → Heap → Prop} (hl : ∀ F : Mem, Imps F F args args') (h : ACall P f args' H K) : ACall P f args H K :=
  ⟨h.1, fun F w cs hv hs => h.2 F w cs ⟨(hl F).1 ▸ hv.1, fun i y hy => by
    have hlt := (List.getElem?_eq_some_iff.1 hy).1
    rw [← (hl F).1] at hlt
    exact ((hl F).2 i args[i] y (List.getElem?_eq_getElem hlt) hy).1 _ (hv.2 i _ (List.getElem?_eq_getElem hlt))⟩ hs⟩
end Go.Proofs.Yteoepeionomjlaa
