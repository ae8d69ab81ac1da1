/- append. -/
import Derived.Test.YteoepeionomjlaaM6
namespace Go.Proofs.Yteoepeionomjlaa
open Go.RowKit
set_option linter.unusedVariables false
set_option linter.unusedSimpArgs false
set_option linter.constructorNameAsVariable false

def tB (P : Program) (t : TypeId) : Option Nat := (P.info? t).map (·.bytes)

theorem rows_app {F : Mem} {sz : Nat} {rows news : List (List AV)} {C : Array Value} {vs : List Value} (h : RowOk F C sz rows) (hC : rows.length * sz ≤ C.size) (hn : ∀ e ∈ news, e.length = sz) (hvl : vs.length = news.length * sz) (hv : ∀ (i j : Nat) (y : AV), at2 news i j = some y → y.one = true ∧ V F y (vs.getD (i * sz + j) undef))
    {D : Array Value} (hD : D.toList.take ((rows.length + news.length) * sz) = C.toList.take (rows.length * sz) ++ vs) : RowOk F D sz (rows ++ news) := by
  have get : ∀ m, m < (rows.length + news.length) * sz → D.getD m undef = (C.toList.take (rows.length * sz) ++ vs).getD m undef := by
    intro m hm
    rw [← hD, arr_getD, List.getD_eq_getElem?_getD, List.getD_eq_getElem?_getD, List.getElem?_take, if_pos hm]
  have hlt : (C.toList.take (rows.length * sz)).length = rows.length * sz := by simp; omega
  have key : ∀ (i j : Nat) (y : AV), at2 (rows ++ news) i j = some y → (at2 rows i j = some y ∧ i < rows.length ∧ j < sz) ∨ (rows.length ≤ i ∧ at2 news (i - rows.length) j = some y ∧ i - rows.length < news.length ∧ j < sz) := by
    intro i j y hy
    obtain ⟨e, he, hj⟩ := at2_some.1 hy
    by_cases hi : i < rows.length
    · rw [List.getElem?_append_left hi] at he
      refine .inl ⟨at2_some.2 ⟨e, he, hj⟩, hi, ?_⟩
      rw [← h.len e (List.mem_of_getElem? he)]; exact (List.getElem?_eq_some_iff.1 hj).1
    · rw [List.getElem?_append_right (by omega)] at he
      refine .inr ⟨by omega, at2_some.2 ⟨e, he, hj⟩, (List.getElem?_eq_some_iff.1 he).1, ?_⟩
      rw [← hn e (List.mem_of_getElem? he)]; exact (List.getElem?_eq_some_iff.1 hj).1
  refine ⟨fun e he => ?_, fun i j y hy => ?_, fun i j y hy => ?_⟩
  · rcases List.mem_append.1 he with he | he
    · exact h.len e he
    · exact hn e he
  · rcases key i j y hy with ⟨h1, _⟩ | ⟨_, h1, _⟩
    · exact h.one i j y h1
    · exact (hv _ j y h1).1
  · rcases key i j y hy with ⟨h1, h2, h3⟩ | ⟨h0, h1, h2, h3⟩
    · have hm := flat_lt h2 h3
      have hm2 : i * sz + j < (rows.length + news.length) * sz := by rw [Nat.add_mul]; omega
      rw [get _ hm2, List.getD_eq_getElem?_getD, List.getElem?_append_left (by omega), List.getElem?_take, if_pos hm, ← List.getD_eq_getElem?_getD, ← arr_getD]
      exact h.val i j y h1
    · obtain ⟨d, rfl⟩ : ∃ d, i = rows.length + d := ⟨i - rows.length, by omega⟩
      rw [show rows.length + d - rows.length = d by omega] at h1 h2
      have hm := flat_lt h2 h3
      have hm2 : (rows.length + d) * sz + j < (rows.length + news.length) * sz := flat_lt (by omega) h3
      rw [get _ hm2, List.getD_eq_getElem?_getD, List.getElem?_append_right (by rw [hlt, Nat.add_mul]; omega), hlt, ← List.getD_eq_getElem?_getD, show (rows.length + d) * sz + j - rows.length * sz = d * sz + j by rw [Nat.add_mul]; omega]
      exact (hv d j y h1).2

theorem append_ok0 {P : Program} {F : Mem} {H H0 : Heap} {w : World} (hs : Sat F H w) {t ty : TypeId} {rt : TypeId} {sz by' : Nat} {zs : List Value} (hE : tE P t = some ty) (hS : tS P ty = some sz) (hB : tB P ty = some by') (hz : tZ P ty = some zs) (hzl : zs.length = sz) (hp : 0 < sz)
    {x : AV} {v : Value} {rows : List (List AV)} (hown : OwnL0 H x ty sz rows H0) (hv : V F x v) {vx : Value} {news : List (List AV)} (hsrc : Src F w vx sz news)
    (h63 : rows.length + news.length ≤ maxLen) (hbytes : (rows.length + news.length) * by' ≤ 140737488355328) :
    ∃ v' w' x' H', (Builtin.append_ #[t, t] rt #[v, vx]).run P w = .ok v' w' ∧ V F x' v' ∧ OwnL0 H' x' ty sz (rows ++ news) H0 ∧ Sat F H' w' ∧ Ext F H w F H' w' := by
  have hu := tE_eq hE
  obtain ⟨i, hi, hi1, hi2⟩ : ∃ i, P.info? ty = some i ∧ i.size = sz ∧ i.bytes = by' := by
    unfold tS at hS; unfold tB at hB
    cases hi : P.info? ty with
    | none => simp [hi] at hS
    | some i => simp [hi] at hS hB; exact ⟨i, rfl, hS, hB⟩
  obtain ⟨z, hzz, hzc⟩ : ∃ z, i.zero = some z ∧ z.cells.size = sz := by
    unfold tZ at hz
    simp [hi] at hz
    obtain ⟨z, hz1, hz2⟩ := hz
    exact ⟨z, hz1, by rw [← hzl, ← hz2]; simp⟩
  obtain ⟨ad, c, vs, rfl, s1, s2, s3, s4, s5, s6⟩ := hsrc.ex
  -- what is owned
  obtain ⟨C, hrow, hC, how⟩ : ∃ C : Array Value, RowOk F C sz rows ∧ rows.length * sz ≤ C.size ∧ w.ownsRow 0 ty sz v rows.length (C.toList.take (rows.length * sz)) := by
    rcases hown with ⟨rfl, rfl, rfl⟩ | ⟨n, cap, rfl, hn, rfl⟩
    · exact ⟨#[], ⟨by simp, fun i j y hy => by simp [at2] at hy, fun i j y hy => by simp [at2] at hy⟩, by simp, by simp, .inl ⟨hv.c_inv, rfl⟩⟩
    · obtain ⟨C, c1, c2, c3, c4, c5, c6⟩ := hs.blk n _ hn
      obtain ⟨oo, rfl, g1, g2, g3⟩ := hv.s_inv
      have hle : rows.length * sz ≤ C.size := by rw [c2]; exact Nat.mul_le_mul_right _ c3
      have := g1 (.inr rfl)
      rw [Nat.zero_mul] at this; subst this
      exact ⟨C, c6, hle, by simp; omega, .inr ⟨n, cap, C, rfl, Nat.zero_le _, c1, c3, c4, c2, rfl⟩⟩
  have hblk : ∀ n, v.ownBlock = some n → ∃ cap, x = .s n sz 0 rows.length cap ∧ H n = some (.r ty sz cap rows) ∧ H0 = del H n := by
    intro n hn
    rcases hown with ⟨rfl, _⟩ | ⟨m, cap, rfl, hm, rfl⟩
    · rw [hv.c_inv] at hn; cases hn
    · obtain ⟨oo, rfl, _⟩ := hv.s_inv
      cases hn
      exact ⟨cap, rfl, hm, rfl⟩
  obtain ⟨v', w', hr, how', hg, hnil, hat⟩ : ∃ v' w', (Builtin.append_ #[t, t] rt #[v, .slice ad news.length c]).run P w = .ok v' w' ∧ w'.ownsRow 0 ty sz v' (rows.length + news.length) (C.toList.take (rows.length * sz) ++ vs) ∧ w.grownBy w' v.ownBlock ∧
      (v' = .slice none 0 0 ↔ v = .slice none 0 0 ∧ news.length = 0) ∧ (v'.ownBlock = v.ownBlock ∨ v'.ownBlock = some w.heap.size) := by
    cases ad with
    | some ad =>
      obtain ⟨v', w', r1, r2, r3, r4, r5⟩ := run_append_own_at (P := P) w 0 t rt ty i z sz by' hu hi hzz hi1 hi2 hzc hp v rows.length _ how ad news.length c vs s3 (s5 ad rfl) s4 h63 hbytes (Nat.zero_le _)
      exact ⟨v', w', r1, r2, r3, r4, r5⟩
    | none =>
      have hc0 := s2 rfl
      have hn0 : news = [] := List.eq_nil_of_length_eq_zero (by omega)
      subst hn0
      subst hc0
      have hvs : vs = [] := List.eq_nil_of_length_eq_zero (by simpa using s3)
      subst hvs
      have hrun := run_append_owned_none (P := P) w 0 t rt ty i sz hu hi v rows.length _ how
      exact ⟨v, w, by simpa using hrun, by simpa using how, World.grownBy.refl _ _, by simp, .inl rfl⟩
  have hnv : ∀ n, v'.ownBlock = some n → n < w'.heap.size := fun n hn => (World.ownsRow.lt how' n hn).2
  rcases how'.2 with ⟨rfl, h0⟩ | ⟨g, cap', cur, rfl, -, hcur, hcap, hmax, hcsz, htake⟩
  · -- nothing there, nothing appended
    have hr0 : rows = [] := List.eq_nil_of_length_eq_zero (by omega)
    have hn0 : news = [] := List.eq_nil_of_length_eq_zero (by omega)
    subst hr0; subst hn0
    obtain ⟨rfl, _⟩ := hnil.1 rfl
    have hx : x = .c (.slice none 0 0) ∧ H0 = H := by
      rcases hown with ⟨rfl, _, rfl⟩ | ⟨n, cap, rfl, _⟩
      · exact ⟨rfl, rfl⟩
      · obtain ⟨oo, e, _⟩ := hv.s_inv; cases e
    obtain ⟨rfl, rfl⟩ := hx
    refine ⟨_, w', _, H0, hr, .c _, OwnL0.nil _ _ _, ?_, ?_⟩
    · refine ⟨fun b o' u hb => ?_, hs.off, fun n k hn => (hs.blk n k hn).heap (hg.block n (hs.lt hn) (by simp [Value.ownBlock]))⟩
      have := hs.mem b o' u hb
      rw [← this]; exact World.cell?_of_block (hg.block b (cell_lt this) (by simp [Value.ownBlock]))
    · exact ⟨hg.os, hg.tape, hg.output, hg.size, fun n hn _ => hg.block n hn (by simp [Value.ownBlock]), fun n k h => .inl (by rw [h]; simp), Mem.le.refl F, fun _ _ _ h => .inl h⟩
  · have hrow' := rows_app hrow hC hsrc.len s3 s6 htake
    have hg' : v.ownBlock = some g ∨ g = w.heap.size := by
      rcases hat with h | h
      · exact .inl (by rw [← h]; rfl)
      · right; simpa [Value.ownBlock] using h
    have hH0 : H0 g = none ∧ ∀ m k, H0 m = some k → H m = some k ∧ v.ownBlock ≠ some m := by
      rcases hown with ⟨rfl, rfl, rfl⟩ | ⟨n, cap, rfl, hn, rfl⟩
      · have e := hv.c_inv
        subst e
        rcases hg' with h | h
        · cases h
        · exact ⟨hs.fresh (by omega), fun m k hm => ⟨hm, by simp [Value.ownBlock]⟩⟩
      · obtain ⟨oo, e, _⟩ := hv.s_inv
        subst e
        refine ⟨?_, fun m k hm => ⟨del_le _ _ m k hm, fun e => ?_⟩⟩
        · rcases hg' with h | h
          · simp [Value.ownBlock] at h; subst h; exact del_same _ _
          · have := hs.lt hn
            rw [del_ne (by omega)]; exact hs.fresh (by omega)
        · simp [Value.ownBlock] at e; subst e; rw [del_same] at hm; cases hm
    have hnb : ∀ m, m < w.heap.size → H m = none → w'.heap[m]? = w.heap[m]? := fun m hm hH => hg.block m hm (fun e => by
      obtain ⟨cap, _, h2, _⟩ := hblk m e.symm
      rw [hH] at h2; cases h2)
    refine ⟨_, w', .s g sz 0 (rows ++ news).length cap', upd H0 g (.r ty sz cap' (rows ++ news)), hr, ?_, .inr ⟨g, cap', rfl, upd_same _ _ _, (del_upd_same hH0.1).symm⟩, ?_, ?_⟩
    · rw [List.length_append]
      exact .s _ _ _ _ _ _ (fun _ => by simp) hcap hmax
    · refine ⟨fun b o' u hb => ?_, fun b o' u k hb hk => ?_, fun n k hn => ?_⟩
      · have h1 := hs.mem b o' u hb
        have hHb : H b = none := by
          cases hk : H b with
          | none => rfl
          | some k => exact (hs.off b o' u k hb hk).elim
        rw [← h1]; exact World.cell?_of_block (hnb b (cell_lt h1) hHb)
      · by_cases e : b = g
        · subst e
          rcases hg' with h | h
          · obtain ⟨cap, _, h2, _⟩ := hblk b h
            exact hs.off b o' u _ hb h2
          · have := hs.memlt hb; omega
        · rw [upd_ne e] at hk
          exact hs.off b o' u k hb (hH0.2 b k hk).1
      · by_cases e : n = g
        · subst e
          rw [upd_same] at hn
          cases hn
          exact ⟨cur, hcur, hcsz, by rw [List.length_append]; exact hcap, hmax, hp, hrow'⟩
        · rw [upd_ne e] at hn
          obtain ⟨h1, h2⟩ := hH0.2 n k hn
          exact (hs.blk n k h1).heap (hg.block n (hs.lt h1) (Ne.symm h2))
    · refine ⟨hg.os, hg.tape, hg.output, hg.size, hnb, fun n k hn => ?_, Mem.le.refl F, fun _ _ _ h => .inl h⟩
      by_cases e : n = g
      · subst e
        rcases hg' with h | h
        · obtain ⟨cap, _, h2, _⟩ := hblk n h
          left; rw [h2]; simp
        · right; omega
      · rw [upd_ne e] at hn
        left; rw [(hH0.2 n k hn).1]; simp

theorem append_base0 {P : Program} {w : World} {t ty e : TypeId} {i : TypeInfo} {a : Addr} {x : Value} (ht : P.underlying t = some (.slice e)) (hi : P.info? e = some i) {ad : Option Addr} {n c : Nat} (hx : x = .slice ad n c) (hn : 0 < n) (h63 : n ≤ maxLen) (h48 : n * i.bytes ≤ 140737488355328) :
    (Builtin.append_ #[t, t] ty #[.slice (some a) 0 0, x]).run P w = (Builtin.append_ #[t, t] ty #[.slice none 0 0, x]).run P w := by
  subst hx
  have h1 : n ≠ 0 := by omega
  have h48' : ¬ (281474976710656 < Builtin.nextslicecap n 0 * i.bytes) := by rw [nextslicecap_zero hn]; omega
  simp [Builtin.append_, run_underlying ht, sizeOf, typeInfo, zeroValue, hi, Builtin.lenOf, h1, h48', Builtin.firstCells, loadCells, loadCellsFrom]
theorem append_ok {P : Program} {F : Mem} {H H0 : Heap} {w : World} (hs : Sat F H w) {t ty : TypeId} {rt : TypeId} {sz by' : Nat} {zs : List Value} (hE : tE P t = some ty) (hS : tS P ty = some sz) (hB : tB P ty = some by') (hz : tZ P ty = some zs) (hzl : zs.length = sz) (hp : 0 < sz)
    {x : AV} {v : Value} {rows : List (List AV)} (hown : OwnL H x ty sz rows H0) (hv : V F x v) {vx : Value} {news : List (List AV)} (hsrc : Src F w vx sz news)
    (h63 : rows.length + news.length ≤ maxLen) (hbytes : (rows.length + news.length) * by' ≤ 140737488355328) :
    ∃ v' w' x' H', (Builtin.append_ #[t, t] rt #[v, vx]).run P w = .ok v' w' ∧ V F x' v' ∧ OwnL H' x' ty sz (rows ++ news) H0 ∧ Sat F H' w' ∧ Ext F H w F H' w' := by
  have go : OwnL0 H x ty sz rows H0 → ∃ v' w' x' H', (Builtin.append_ #[t, t] rt #[v, vx]).run P w = .ok v' w' ∧ V F x' v' ∧ OwnL H' x' ty sz (rows ++ news) H0 ∧ Sat F H' w' ∧ Ext F H w F H' w' := fun h0 => by
    obtain ⟨v', w', x', H', h1, h2, h3, h4⟩ := append_ok0 (rt := rt) hs hE hS hB hz hzl hp h0 hv hsrc h63 hbytes
    exact ⟨v', w', x', H', h1, h2, h3.own, h4⟩
  rcases hown with ⟨⟨ad, rfl⟩, rfl, rfl⟩ | h
  · cases ad with
    | none => exact go (.inl ⟨rfl, rfl, rfl⟩)
    | some a =>
      cases hv.c_inv
      obtain ⟨i, hi, hi2⟩ : ∃ i, P.info? ty = some i ∧ i.bytes = by' := by
        unfold tB at hB
        cases hi : P.info? ty with
        | none => simp [hi] at hB
        | some i => simp [hi] at hB; exact ⟨i, rfl, hB⟩
      obtain ⟨ad2, c, vs, rfl, -⟩ := hsrc.ex
      by_cases hn : news = []
      · subst hn
        refine ⟨.slice (some a) 0 0, w, .c (.slice (some a) 0 0), H0, ?_, .c _, .inl ⟨⟨_, rfl⟩, rfl, rfl⟩, hs, Ext.refl _ _ _⟩
        simp [Builtin.append_, run_underlying (tE_eq hE), sizeOf, typeInfo, hi, Builtin.lenOf, Builtin.firstCells, loadCells, loadCellsFrom, storeCells]
        try (cases ad2 <;> simp [loadCells, loadCellsFrom, storeCells])
      · have hn0 : 0 < news.length := List.length_pos_iff.2 hn
        obtain ⟨v', w', x', H', h1, h2, h3, h4⟩ := append_ok0 (rt := rt) (v := .slice none 0 0) hs hE hS hB hz hzl hp (OwnL0.nil H0 ty sz) (.c _) hsrc h63 hbytes
        refine ⟨v', w', x', H', ?_, h2, h3.own, h4⟩
        rw [append_base0 (tE_eq hE) hi rfl hn0]
        · exact h1
        · simpa using h63
        · rw [hi2]; simpa using hbytes
  · exact go (.inr h)

section
variable {P : Program} {o : Oper} {a : Nat → AV} {H : Heap} {K : AV → Heap → Prop}

/-- append of a slice that nobody writes to -/
theorem does_append_l {x y : Operand} {t ty : TypeId} {sz by' : Nat} {zs : List Value} {rows news : List (List AV)} {H0 : Heap} (ho : o.op = .call { callee := .builtin .append, args := #[x, y], argTypes := #[t, t] })
    (hE : tE P t = some ty) (hS : tS P ty = some sz) (hB : tB P ty = some by') (hz : tZ P ty = some zs) (hzl : zs.length = sz) (hp : 0 < sz) (hown : OwnL H (ev a x) ty sz rows H0) (hy : ev a y = .l sz news)
    (h63 : rows.length + news.length ≤ maxLen) (hbytes : (rows.length + news.length) * by' ≤ 140737488355328) (h : ∀ x' H', OwnL H' x' ty sz (rows ++ news) H0 → K x' H') : Does P o a H K :=
  Does.ran (fun c => by simp [ho]) fun F w act hv hs => by
    have hvy := hv.ev y
    rw [hy] at hvy
    obtain ⟨v', w', x', H', r1, r2, r3, r4, r5⟩ := append_ok (rt := o.type) hs hE hS hB hz hzl hp hown (hv.ev x) (V.src hs hp hvy) h63 hbytes
    obtain ⟨cs, ecs⟩ := builtin_run ho act
    refine ⟨v', w', F, H', x', ?_, r2, r4, r5, h x' H' r3⟩
    rw [ecs]
    simp [builtin, Sem.run_bind, r1]

/-- append of what lies in a block of its own; that is not used any more -/
theorem does_append_s {x y : Operand} {t ty : TypeId} {sz by' : Nat} {zs : List Value} {rows rowsm : List (List AV)} {H0 : Heap} {m i len cap cap0 : Nat} {tm : TypeId} (ho : o.op = .call { callee := .builtin .append, args := #[x, y], argTypes := #[t, t] })
    (hE : tE P t = some ty) (hS : tS P ty = some sz) (hB : tB P ty = some by') (hz : tZ P ty = some zs) (hzl : zs.length = sz) (hp : 0 < sz) (hown : OwnL H (ev a x) ty sz rows H0) (hy : ev a y = .s m sz i len cap) (hm : H0 m = some (.r tm sz cap0 rowsm)) (hl : i + len ≤ rowsm.length)
    (h63 : rows.length + len ≤ maxLen) (hbytes : (rows.length + len) * by' ≤ 140737488355328) (h : ∀ x' H', OwnL H' x' ty sz (rows ++ (rowsm.drop i).take len) (del H0 m) → K x' H') : Does P o a H K :=
  Does.ran (fun c => by simp [ho]) fun F w act hv hs => by
    have hvy := hv.ev y
    rw [hy] at hvy
    have hsrc := hs.src (hown.get hm) hl hvy
    have hlen : ((rowsm.drop i).take len).length = len := by simp; omega
    obtain ⟨v', w', x', H', r1, r2, r3, r4, r5⟩ := append_ok (rt := o.type) hs hE hS hB hz hzl hp hown (hv.ev x) hsrc (by rw [hlen]; exact h63) (by rw [hlen]; exact hbytes)
    obtain ⟨cs, ecs⟩ := builtin_run ho act
    have hold : OwnL (del H' m) x' ty sz (rows ++ (rowsm.drop i).take len) (del H0 m) := by
      rcases r3 with ⟨e1, e2, rfl⟩ | ⟨n, cap', e1, e2, rfl⟩
      · exact .inl ⟨e1, e2, rfl⟩
      · have hne : n ≠ m := by rintro rfl; rw [del_same] at hm; cases hm
        refine .inr ⟨n, cap', e1, by rw [del_ne hne]; exact e2, ?_⟩
        funext q; simp only [del]; split <;> split <;> rfl
    refine ⟨v', w', F, del H' m, x', ?_, r2, r4.less (del_le _ _), ?_, h x' _ hold⟩
    · rw [ecs]; simp [builtin, Sem.run_bind, r1]
    · exact ⟨r5.os, r5.tape, r5.output, r5.size, r5.block, fun n k hn => r5.new n k (del_le _ _ n k hn), r5.le, r5.frz⟩
end
end Go.Proofs.Yteoepeionomjlaa
