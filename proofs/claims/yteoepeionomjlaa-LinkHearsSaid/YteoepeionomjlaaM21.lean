/- Loops by rounds; iterators that own nothing; slices that grow, frozen at the end. -/
import Derived.Test.YteoepeionomjlaaM20
namespace Go.Proofs.Yteoepeionomjlaa
open Go.RowKit
set_option linter.all false

/-- what a round leaves -/
structure Nxt (p s h : Prop) : Prop where
  p : p
  s : s
  h : h

section
variable {P : Program} {N : Nat} {a : Nat → AV} {H : Heap} {Q : Post}

theorem AW_loopX {σ : Type} {c : Code} (n : Nat) (inv : Nat → σ → Prop) (fr : Nat → σ → List (Nat × AV)) (hp : Nat → σ → Heap) (s0 : σ) (h0 : inv 0 s0) (hf : Sl a (fr 0 s0)) (hH : Heap.le (hp 0 s0) H)
    (step : ∀ k s, k < n → inv k s → AW P N c (frm (fr k s)) (hp k s) (thenA (fun a' H' => ∃ s', Nxt (inv (k + 1) s') (Sl a' (fr (k + 1) s')) (Heap.le (hp (k + 1) s') H')) Q))
    (done : ∀ s, inv n s → AW P N c (frm (fr n s)) (hp n s) (thenA (fun _ _ => False) Q)) : AW P N (.loop c) a H Q := by
  refine AW_loopS (σ := Nat × σ) (fun s => s.1 ≤ n ∧ inv s.1 s.2) (fun s => fr s.1 s.2) (fun s => hp s.1 s.2) (fun s => n - s.1) (0, s0) ⟨Nat.zero_le _, h0⟩ hf hH ?_
  rintro ⟨k, s⟩ ⟨hk, hi⟩
  by_cases e : k = n
  · subst e
    refine (done s hi).mono ?_
    intro e a' H' h
    cases e with
    | normal => exact h.elim
    | _ => exact h
  · refine (step k s (by omega) hi).mono ?_
    intro e a' H' h
    cases e with
    | normal =>
      obtain ⟨s', h1, h2, h3⟩ := h
      refine ⟨(k + 1, s'), ⟨?_, h1⟩, h2, h3, ?_⟩
      · show k + 1 ≤ n; omega
      · show n - (k + 1) < n - k; omega
    | _ => exact h

theorem AW_loopN {c : Code} (n : Nat) (inv : Nat → Prop) (fr : Nat → List (Nat × AV)) (hp : Nat → Heap) (h0 : inv 0) (hf : Sl a (fr 0)) (hH : Heap.le (hp 0) H)
    (step : ∀ k, k < n → inv k → AW P N c (frm (fr k)) (hp k) (thenA (fun a' H' => Nxt (inv (k + 1)) (Sl a' (fr (k + 1))) (Heap.le (hp (k + 1)) H')) Q))
    (done : inv n → AW P N c (frm (fr n)) (hp n) (thenA (fun _ _ => False) Q)) : AW P N (.loop c) a H Q :=
  AW_loopX (σ := Unit) n (fun k _ => inv k) (fun k _ => fr k) (fun k _ => hp k) () h0 hf hH
    (fun k _ hk hi => (step k hk hi).mono fun e a' H' h => by
      cases e with
      | normal => exact ⟨(), h⟩
      | _ => exact h) (fun _ hi => done hi)

/-! iterators that own nothing -/
def PIter (P : Program) (gf : FuncId) (caps : List AV) (xs : List (List AV)) : Prop :=
  Ent P gf ∧ ∀ (l : Nat) (J : Nat → Heap → Prop) (Jx : Heap → Prop),
    (∀ k (h : k < xs.length) B, J k B → AYield P l xs[k] B (fun b B' => (b = true ∧ J (k + 1) B') ∨ (b = false ∧ Jx B'))) →
    ∀ B, J 0 B → ACall P gf (.c (.func (.yield l) #[] #[]) :: caps) B fun _ H' => J xs.length H' ∨ Jx H'

theorem PIter.iter {gf : FuncId} {caps : List AV} {xs : List (List AV)} (h : PIter P gf caps xs) : AIter P gf caps xs (fun _ => none) (fun _ => True) (fun _ => True) :=
  ⟨h.1, fun l J Jx hr B hap h0 => by
    rw [join_emp]
    refine (h.2 l J Jx hr B h0).mono ?_
    rintro _ H' h
    refine ⟨fun _ => none, H', (join_emp _).symm, Apart.emp _, ?_⟩
    rcases h with h | h
    · exact .inl ⟨trivial, h⟩
    · exact .inr ⟨trivial, h⟩⟩

theorem AW_less_post {c : Code} (h : AW P N c a H fun e a' H' => ∃ H2, Heap.le H2 H' ∧ Q e a' H2) : AW P N c a H Q :=
  fun Fe n hF B F w act hr => wpIn_mono (h Fe n hF B F w act hr) fun e a' w' ⟨F', b, H', h1, h2, H2, h3, h4⟩ => ⟨F', b, H2, h1.less h3, h2.less h3, h4⟩

theorem AW_rangeP {g : Operand} {ps : Array Tmp} {assign body : Code} {gf : FuncId} {caps : List AV} {xs : List (List AV)}
    (hg : ev a g = .f (.func gf) [] caps) (hit : PIter P gf caps xs) (hps : ∀ x ∈ xs, x.length = ps.size) (hpN : ∀ p ∈ ps.toList, p < N)
    (I : Nat → Heap → Prop) (Ix : Exit → Heap → Prop) (h0 : I 0 H)
    (round : ∀ k (h : k < xs.length) B1, I k B1 → AW P N assign (putAll a ps.toList xs[k]) B1 (thenA (fun a1 B2 => AW P N body a1 B2 (roundQ (I (k + 1)) Ix)) (fun _ _ _ => False)))
    (done : ∀ B', I xs.length B' → Q .normal a B')
    (stop : ∀ e B', Ix e B' → Q e a B') : AW P N (.rangeFunc g ps assign body) a H Q := by
  refine AW_less_post (AW_range (A := fun _ => none) (B := H) (S := fun _ => True) (Sp := fun _ => True) hg hit.iter (Apart.emp _) (by rw [join_emp]; exact Heap.le_refl _) hps hpN I Ix h0 round ?_ ?_)
  · exact fun A' B' hap _ h => ⟨B', le_join_right hap, done B' h⟩
  · exact fun e A' B' hap _ h => ⟨B', le_join_right hap, stop e B' h⟩

/-- an iterator of a closure: how it is walked -/
theorem PIter_of {gf : FuncId} {caps : List AV} {xs : List (List AV)} (he : Ent P gf)
    (h : ∀ (l : Nat) (J : Nat → Heap → Prop) (Jx : Heap → Prop), (∀ k (h : k < xs.length) B, J k B → AYield P l xs[k] B (fun b B' => (b = true ∧ J (k + 1) B') ∨ (b = false ∧ Jx B'))) →
      ∀ B, J 0 B → ACall P gf (.c (.func (.yield l) #[] #[]) :: caps) B fun _ H' => ∃ A' B', H' = join A' B' ∧ Apart A' B' ∧ (J xs.length B' ∨ Jx B')) : PIter P gf caps xs :=
  ⟨he, fun l J Jx hr B h0 => ((h l J Jx hr B h0).mono fun r H' ⟨A', B', e, hap, hj⟩ => by
    subst e
    exact ⟨r, B', Weak.less (le_join_right hap), hj⟩).weak⟩
end

/-! ### what a value is held for, once something is frozen -/
def Imp (F F' : Mem) (x y : AV) : Prop := ∀ v, V F x v → V F' y v
def Imps (F F' : Mem) (xs ys : List AV) : Prop := xs.length = ys.length ∧ ∀ (i : Nat) (x y : AV), xs[i]? = some x → ys[i]? = some y → Imp F F' x y ∧ (x.one = true → y.one = true)
theorem Imp.refl {F F' : Mem} (h : F.le F') (x : AV) : Imp F F' x x := fun v hv => hv.mono h
theorem Imps.refl {F F' : Mem} (h : F.le F') (xs : List AV) : Imps F F' xs xs := ⟨rfl, fun i x y hx hy => by rw [hx] at hy; cases hy; exact ⟨Imp.refl h x, id⟩⟩
theorem Imps.nil {F F' : Mem} : Imps F F' [] [] := ⟨rfl, fun i x y hx => by simp at hx⟩
theorem Imps.cons {F F' : Mem} {x y : AV} {xs ys : List AV} (h : Imp F F' x y) (ho : x.one = true → y.one = true) (hs : Imps F F' xs ys) : Imps F F' (x :: xs) (y :: ys) :=
  ⟨by simp [hs.1], fun i u w hu hw => by
    cases i with
    | zero => simp at hu hw; subst hu; subst hw; exact ⟨h, ho⟩
    | succ i => simp at hu hw; exact hs.2 i u w hu hw⟩
theorem Imps.cs {F F' : Mem} {xs ys : List AV} {n : Nat} {f : Nat → Value} (h : Imps F F' xs ys) (hx : ∀ (i : Nat) (y : AV), xs[i]? = some y → V F y (f i)) : ∀ (i : Nat) (y : AV), ys[i]? = some y → V F' y (f i) := fun i y hy => by
  have hl := (List.getElem?_eq_some_iff.1 hy).1
  rw [← h.1] at hl
  exact (h.2 i xs[i] y (List.getElem?_eq_getElem hl) hy).1 _ (hx i _ (List.getElem?_eq_getElem hl))
theorem Imp.t {F F' : Mem} {xs ys : List AV} (h : Imps F F' xs ys) : Imp F F' (.t xs) (.t ys) := fun v hv => by
  cases hv with
  | t _ cs h1 h3 => exact .t ys cs (by rw [← h.1]; exact h1) (h.cs (n := 0) h3)
theorem Imp.g {F F' : Mem} {xs ys : List AV} (h : Imps F F' xs ys) : Imp F F' (.g xs) (.g ys) := fun v hv => by
  cases hv with
  | g _ cs h1 h2 h3 => exact .g ys cs (by rw [← h.1]; exact h1) (fun i y hy => by
      have hl := (List.getElem?_eq_some_iff.1 hy).1
      rw [← h.1] at hl
      exact (h.2 i xs[i] y (List.getElem?_eq_getElem hl) hy).2 (h2 i _ (List.getElem?_eq_getElem hl))) (h.cs (n := 0) h3)
theorem Imp.f {F F' : Mem} {fn : Fn} {xs ys xs' ys' : List AV} (h : Imps F F' xs xs') (k : Imps F F' ys ys') : Imp F F' (.f fn xs ys) (.f fn xs' ys') := fun v hv => by
  cases hv with
  | f _ _ _ cs ds h1 h2 h3 h4 => exact .f fn xs' ys' cs ds (by rw [← h.1]; exact h1) (by rw [← k.1]; exact h2) (h.cs (n := 0) h3) (k.cs (n := 0) h4)

/-- a block is written no more; what else leads to it stays as it is known -/
theorem Weak.hold {r r' : AV} {H : Heap} (n : Nat) {ty : TypeId} {sz cap : Nat} {rows : List (List AV)} (hn : H n = some (.r ty sz cap rows))
    (hr : ∀ F F' : Mem, F.le F' → (∀ y, Imp F F' y (Go.Proofs.Yteoepeionomjlaa.frz n sz rows y)) → Imp F F' r r') : Weak r H r' (del H n) := by
  intro F w v hv hs
  obtain ⟨C, c1, c2, c3, c4, c5, c6⟩ := hs.blk n _ hn
  have hle : rows.length * sz ≤ C.size := by rw [c2]; exact Nat.mul_le_mul_right _ c3
  obtain ⟨F', hF'⟩ : ∃ F' : Mem, F' = fun b o => if b = n then (if o < rows.length * sz then C[o]? else none) else F b o := ⟨_, rfl⟩
  have hFn : ∀ o, F n o = none := fun o => by
    cases h : F n o with
    | none => rfl
    | some u => exact (hs.off n o u _ h hn).elim
  have hFF : F.le F' := fun b o u hu => by
    rw [hF']
    by_cases e : b = n
    · subst e; rw [hFn] at hu; cases hu
    · simp [e, hu]
  have hrr : ∀ i j y, at2 rows i j = some y → y.one = true ∧ V F' y (C.getD (i * sz + j) undef) ∧ F' n (i * sz + j) = some (C.getD (i * sz + j) undef) := fun i j y hy => by
    refine ⟨c6.one i j y hy, (c6.val i j y hy).mono hFF, ?_⟩
    obtain ⟨b1, b2⟩ := c6.at2 hy
    have hlt := flat_lt b1 b2
    have : i * sz + j < C.size := by omega
    rw [hF']; simp [hlt, this, Array.getD]
  refine ⟨F', hFF, hr F F' hFF (fun y v hv => hv.frz hFF c6.len hrr) v hv, ⟨fun b o u hu => ?_, fun b o u k hu hk => ?_, fun m k hk => ?_⟩, fun b o u hu => ?_, fun m k hk => ?_⟩
  · rw [hF'] at hu
    by_cases e : b = n
    · subst e
      simp only [if_true] at hu
      split at hu
      · rw [cell_of_row w b _ C ty (0, 0) c1]; exact hu
      · cases hu
    · simp only [e, if_false] at hu; exact hs.mem b o u hu
  · rw [hF'] at hu
    by_cases e : b = n
    · rw [e, del_same] at hk; cases hk
    · simp only [e, if_false] at hu
      rw [del_ne e] at hk
      exact hs.off b o u k hu hk
  · by_cases e : m = n
    · rw [e, del_same] at hk; cases hk
    · rw [del_ne e] at hk
      exact (hs.blk m k hk).mono hFF
  · rw [hF'] at hu
    by_cases e : b = n
    · right; rw [e, hn]; simp
    · simp only [e, if_false] at hu; exact .inl hu
  · by_cases e : m = n
    · rw [e, del_same] at hk; cases hk
    · rw [del_ne e] at hk; rw [hk]; simp

theorem Imp.nil_l {F F' : Mem} (sz : Nat) {ad : Option Addr} : Imp F F' (.c (.slice ad 0 0)) (.l sz []) := fun v hv => by
  cases hv.c_inv
  exact .l sz [] ad 0 0 (fun _ _ => undef) rfl (Nat.le_refl _) (Nat.zero_le _) (fun _ => rfl) (by simp) (fun i j y hy => by simp [at2] at hy) (fun i j y hy => by simp [at2] at hy) (fun ad ha hl => by simp at hl)

theorem frz_s {n sz len cap : Nat} {rows : List (List AV)} (h : rows.length = len) : frz n sz rows (.s n sz 0 len cap) = .l sz rows := by
  simp [frz, ← h]
theorem frz_p {n sz j : Nat} {row : List AV} : frz n sz [row] (.p n sz 0 j) = .q row j := by simp [frz]

/-- a slice of its own is held for what it reads as -/
theorem OwnL.weak {H H0 : Heap} {x r r' : AV} {ty : TypeId} {sz : Nat} {rows : List (List AV)} (h : OwnL H x ty sz rows H0) (hr : ∀ F F' : Mem, F.le F' → Imp F F' x (.l sz rows) → x.one = true → Imp F F' r r') : Weak r H r' H0 := by
  rcases h with ⟨⟨ad, rfl⟩, rfl, rfl⟩ | ⟨n, cap, rfl, h1, rfl⟩
  · exact fun F w v hv hs => ⟨F, .refl F, hr F F (.refl F) (Imp.nil_l sz) rfl v hv, hs, fun _ _ _ h => .inl h, fun n k h => by rw [h]; simp⟩
  · refine Weak.hold n h1 fun F F' hF hy => hr F F' hF ?_ rfl
    have := hy (.s n sz 0 rows.length cap)
    rwa [frz_s rfl] at this

/-- a variable is written no more -/
theorem Weak.box {r r' : AV} {H : Heap} (n : Nat) {ty : TypeId} {sz cap : Nat} {row : List AV} (hn : H n = some (.r ty sz cap [row]))
    (hr : ∀ F F' : Mem, F.le F' → (∀ j, Imp F F' (.p n sz 0 j) (.q row j)) → Imp F F' r r') : Weak r H r' (del H n) :=
  Weak.hold n hn fun F F' hF hy => hr F F' hF fun j => by have := hy (.p n sz 0 j); rwa [frz_p] at this

theorem le_del {B H : Heap} {n : Nat} (h : Heap.le B H) (hn : B n = none) : Heap.le B (del H n) := fun m x hm => by
  rw [del_ne (by rintro rfl; rw [hn] at hm; cases hm)]; exact h m x hm

/-! a slice of its own, and other blocks -/
theorem OwnL.turn {H H0 : Heap} {x : AV} {ty : TypeId} {sz : Nat} {rows : List (List AV)} (h : OwnL H x ty sz rows H0) {m : Nat} {k0 : Blk} (hm : H0 m = some k0) (k : Blk) : OwnL (upd H m k) x ty sz rows (upd H0 m k) := by
  rcases h with ⟨e1, e2, rfl⟩ | ⟨n, cap, e1, e2, rfl⟩
  · exact .inl ⟨e1, e2, rfl⟩
  · have hne : n ≠ m := by rintro rfl; rw [del_same] at hm; cases hm
    exact .inr ⟨n, cap, e1, by rw [upd_ne hne]; exact e2, (del_upd_ne hne.symm).symm⟩
theorem OwnL.new {H H0 : Heap} {x : AV} {ty : TypeId} {sz : Nat} {rows : List (List AV)} (h : OwnL H x ty sz rows H0) {m : Nat} (hm : H m = none) (k : Blk) : OwnL (upd H m k) x ty sz rows (upd H0 m k) := by
  rcases h with ⟨e1, e2, rfl⟩ | ⟨n, cap, e1, e2, rfl⟩
  · exact .inl ⟨e1, e2, rfl⟩
  · have hne : n ≠ m := by rintro rfl; rw [e2] at hm; cases hm
    exact .inr ⟨n, cap, e1, by rw [upd_ne hne]; exact e2, (del_upd_ne hne.symm).symm⟩
theorem OwnL.none {H H0 : Heap} {x : AV} {ty : TypeId} {sz : Nat} {rows : List (List AV)} (h : OwnL H x ty sz rows H0) {m : Nat} (hm : H m = none) : H0 m = none := by
  rcases h with ⟨_, _, rfl⟩ | ⟨n, cap, _, _, rfl⟩
  · exact hm
  · unfold del; split <;> first | rfl | exact hm
theorem OwnL.len {H H0 : Heap} {x : AV} {ty : TypeId} {sz : Nat} {rows : List (List AV)} (h : OwnL H x ty sz rows H0) : lenV x = some rows.length := by
  rcases h with ⟨⟨ad, rfl⟩, rfl, _⟩ | ⟨n, cap, rfl, _, _⟩ <;> rfl
theorem OwnL.cs {H H0 : Heap} {x : AV} {ty : TypeId} {sz : Nat} {rows : List (List AV)} (h : OwnL H x ty sz rows H0) : x.cs = some [x] := by
  rcases h with ⟨⟨ad, rfl⟩, rfl, _⟩ | ⟨n, cap, rfl, _, _⟩ <;> rfl
theorem OwnL.one {H H0 : Heap} {x : AV} {ty : TypeId} {sz : Nat} {rows : List (List AV)} (h : OwnL H x ty sz rows H0) : x.one = true := by
  rcases h with ⟨⟨ad, rfl⟩, rfl, _⟩ | ⟨n, cap, rfl, _, _⟩ <;> rfl
theorem OwnL.le {H H0 : Heap} {x : AV} {ty : TypeId} {sz : Nat} {rows : List (List AV)} (h : OwnL H x ty sz rows H0) : Heap.le H0 H := fun _ _ hm => h.get hm

section
variable {P : Program} {o : Oper} {a : Nat → AV} {H : Heap} {K : AV → Heap → Prop}
/-- one element is appended, out of a slice that was just made -/
theorem does_append1 {x y : Operand} {t ty : TypeId} {sz by' : Nat} {zs : List Value} {rows : List (List AV)} {row : List AV} {H0 B : Heap} {m cap cap0 : Nat} {tm : TypeId} (hown : OwnL B (ev a x) ty sz rows H0) (ho : o.op = .call { callee := .builtin .append, args := #[x, y], argTypes := #[t, t] })
    (hy : ev a y = .s m sz 0 1 cap) (hH : H = upd B m (.r tm sz cap0 [row])) (hm : B m = none) (hE : tE P t = some ty) (hS : tS P ty = some sz) (hB : tB P ty = some by') (hz : tZ P ty = some zs) (hzl : zs.length = sz) (hp : 0 < sz)
    (h63 : rows.length + 1 ≤ maxLen) (hbytes : (rows.length + 1) * by' ≤ 140737488355328) (h : ∀ x' H', OwnL H' x' ty sz (rows ++ [row]) H0 → K x' H') : Does P o a H K := by
  subst hH
  have h0 := hown.none hm
  refine does_append_s ho hE hS hB hz hzl hp (hown.new hm _) hy (upd_same _ _ _) (by simp) h63 hbytes fun x' H' h' => ?_
  rw [del_upd_same h0] at h'
  simp at h'
  exact h x' H' h'
/-- what reads as a row is appended -/
theorem does_appendL {x y : Operand} {t ty : TypeId} {sz by' : Nat} {zs : List Value} {rows news : List (List AV)} {H0 : Heap} (hown : OwnL H (ev a x) ty sz rows H0) (ho : o.op = .call { callee := .builtin .append, args := #[x, y], argTypes := #[t, t] })
    (hy : ev a y = .l sz news) (hE : tE P t = some ty) (hS : tS P ty = some sz) (hB : tB P ty = some by') (hz : tZ P ty = some zs) (hzl : zs.length = sz) (hp : 0 < sz)
    (h63 : rows.length + news.length ≤ maxLen) (hbytes : (rows.length + news.length) * by' ≤ 140737488355328) (h : ∀ x' H', OwnL H' x' ty sz (rows ++ news) H0 → K x' H') : Does P o a H K :=
  does_append_l ho hE hS hB hz hzl hp hown hy h63 hbytes h
end
theorem del_get (H : Heap) (n m : Nat) : del H n m = if m = n then none else H m := rfl
theorem Weak.frzK {r r2 : AV} {H H2 : Heap} (n : Nat) {ty : TypeId} {sz cap : Nat} {rows : List (List AV)} (hn : H n = some (.r ty sz cap rows)) (h : Weak (Go.Proofs.Yteoepeionomjlaa.frz n sz rows r) (del H n) r2 H2) : Weak r H r2 H2 :=
  (Weak.hold n hn fun F F' hF hy => hy r).trans h

/-! what an iterator tells that leaves some out -/
theorem filt_pos {α β : Type} {l : List α} {p : α → Bool} {f : α → β} {k : Nat} {x : α} (hx : l[k]? = some x) (hp : p x = true) :
    ∃ h : ((l.take k).filter p).length < ((l.filter p).map f).length, ((l.filter p).map f)[((l.take k).filter p).length] = f x ∧ ((l.take (k + 1)).filter p).length = ((l.take k).filter p).length + 1 := by
  obtain ⟨hk, rfl⟩ := List.getElem?_eq_some_iff.1 hx
  have e1 : l.take (k + 1) = l.take k ++ [l[k]] := List.take_succ_eq_append_getElem hk
  have e2 : l = l.take k ++ l[k] :: l.drop (k + 1) := by rw [List.getElem_cons_drop, List.take_append_drop]
  have e3 : (l.filter p) = (l.take k).filter p ++ l[k] :: (l.drop (k + 1)).filter p := by
    conv => lhs; rw [e2]
    rw [List.filter_append, List.filter_cons, if_pos hp]
  have h : ((l.take k).filter p).length < ((l.filter p).map f).length := by rw [e3]; simp
  refine ⟨h, ?_, ?_⟩
  · rw [List.getElem_map]
    congr 1
    have : (l.filter p)[((l.take k).filter p).length]? = some l[k] := by rw [e3, List.getElem?_append_right (Nat.le_refl _)]; simp
    exact (List.getElem?_eq_some_iff.1 this).2
  · rw [e1, List.filter_append, List.length_append]; simp [hp]
theorem filt_neg {α : Type} {l : List α} {p : α → Bool} {k : Nat} {x : α} (hx : l[k]? = some x) (hp : p x = false) : ((l.take (k + 1)).filter p).length = ((l.take k).filter p).length := by
  obtain ⟨hk, rfl⟩ := List.getElem?_eq_some_iff.1 hx
  rw [List.take_succ_eq_append_getElem hk, List.filter_append, List.length_append]; simp [hp]
theorem filt_end {α β : Type} {l : List α} {p : α → Bool} {f : α → β} {n : Nat} (hn : l.length ≤ n) : ((l.take n).filter p).length = ((l.filter p).map f).length := by
  rw [List.take_of_length_le hn]; simp
def cnt {α : Type} (p : α → Bool) (l : List α) (k : Nat) : Nat := ((l.take k).filter p).length
theorem cnt_zero {α : Type} (p : α → Bool) (l : List α) : cnt p l 0 = 0 := by simp [cnt]
theorem cnt_neg {α : Type} {l : List α} {p : α → Bool} {k : Nat} {x : α} (hx : l[k]? = some x) (hp : p x = false) : cnt p l (k + 1) = cnt p l k := filt_neg hx hp
theorem cnt_end {α β : Type} {l : List α} {p : α → Bool} (f : α → β) {n : Nat} (hn : l.length ≤ n) : cnt p l n = ((l.filter p).map f).length := filt_end hn
theorem cnt_yield {P : Program} {α : Type} {l : List α} {p : α → Bool} {f : α → List AV} {lp : Nat} {J : Nat → Heap → Prop} {Jx : Heap → Prop}
    (hr : ∀ k (h : k < ((l.filter p).map f).length) B, J k B → AYield P lp ((l.filter p).map f)[k] B (fun b B' => (b = true ∧ J (k + 1) B') ∨ (b = false ∧ Jx B')))
    {k : Nat} {x : α} {B : Heap} (hx : l[k]? = some x) (hp : p x = true) (hJ : J (cnt p l k) B) : AYield P lp (f x) B (fun b B' => (b = true ∧ J (cnt p l (k + 1)) B') ∨ (b = false ∧ Jx B')) := by
  obtain ⟨h1, h2, h3⟩ := filt_pos (f := f) hx hp
  have := hr _ h1 B hJ
  rw [h2] at this
  unfold cnt
  rw [h3]
  exact this
theorem frm_live (a : Nat → AV) : ∀ (S : List Nat) (t : Nat), frm (S.map fun s => (s, a s)) t = a t ∨ frm (S.map fun s => (s, a s)) t = .x
  | [], t => .inr rfl
  | s :: S, t => by
    rw [List.map_cons, frm_cons]
    split
    · rename_i e; subst e; exact .inl rfl
    · exact frm_live a S t
/-- goes on with the slots that still live -/
theorem Kn.live {P : Program} {N : Nat} {y : Code} {Q : Post} {K : (Nat → AV) → Heap → Prop} {a : Nat → AV} {H : Heap} (S : List Nat) (h : Kn P N y Q K) (k : AW P N y (frm (S.map fun s => (s, a s))) H Q) : K a H :=
  h.at_ a H (AW_havoc (frm_live a S) k)
attribute [push_cast] List.take_of_length_le List.take_length Int.lt_irrefl Int.natCast_nonneg Int.toNat_natCast List.length_map List.getElem?_map
end Go.Proofs.Yteoepeionomjlaa
