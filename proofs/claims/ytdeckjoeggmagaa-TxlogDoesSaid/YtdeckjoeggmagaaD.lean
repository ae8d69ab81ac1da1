/- A log of one's own. -/
import Derived.Test.YtdeckjoeggmagaaC0
namespace Go.Proofs.Ytdeckjoeggmagaa
open Go.RowKit
open Nat renaming reduceEqDiff → nA, reduceLT → nB, reduceLeDiff → nC, reduceAdd → nD, reduceMul → nE, reduceSub → nF, reduceBEq → nG
open Int renaming reduceToNat → iA, reduceLT → iB, reduceLE → iC, reduceEq → iD
open Bool renaming and_eq_true → bA, or_eq_true → bB, or_eq_false_iff → bC, and_eq_false_iff → bD, not_eq_true' → bE, not_eq_false' → bF, not_true → bG, not_false → bH
set_option linter.all false
set_option maxHeartbeats 4000000
attribute [local irreducible] AW Does ACall tE tS tB tZ

def encX (p : AV × Tx) : List AV := [.c (.int .i64 p.2.nm.s), .c (.int .i64 p.2.nm.a), .c (.int .i64 p.2.nm.n), .c (.int .i64 p.2.st), p.1]
attribute [push_cast] encX
def EncX : Enc1 encX 5 := ⟨fun t => [.int .i64 t.nm.s, .int .i64 t.nm.a, .int .i64 t.nm.n, .int .i64 t.st], fun p => rfl, fun a v hv => by simp at hv; rcases hv with rfl | rfl | rfl | rfl <;> rfl, fun a => rfl⟩
theorem encX_len (p : AV × Tx) : (encX p).length = 5 := rfl
def RX (y : AV) (t : Tx) : HR := fun H H0 => OwnL H y 36 3 (t.rs.map Rec.av) H0
theorem RX_loc (y : AV) (t : Tx) : Loc (RX y t) := Loc.own _ _ _ _
abbrev OwnX (x : AV) (l : List Tx) : HR := OwnSl 86 5 encX RX x l
theorem OwnX_loc (x : AV) (l : List Tx) : Loc (OwnX x l) := Loc.sl RX_loc x l
abbrev valX (t : Tx) : AV := .l 3 (t.rs.map Rec.av)
theorem rec_flat (l : List Rec) : FlatR (l.map Rec.av) := FlatR.map l fun r y hy => by
  simp only [Rec.av, List.mem_cons, List.not_mem_nil, or_false] at hy
  rcases hy with rfl | rfl | rfl <;> exact Flat.c _
theorem nm_flat (l : List Nm) : FlatR (l.map Nm.av) := FlatR.map l fun r y hy => by
  simp only [Nm.av, List.mem_cons, List.not_mem_nil, or_false] at hy
  rcases hy with rfl | rfl | rfl <;> exact Flat.c _
theorem OwnX_lent {x : AV} {l : List Tx} {H H0 : Heap} (h : OwnX x l H H0) : Lent H x (.l 5 (l.map Tx.av)) :=
  OwnSl.lent (val := valX) EncX RX_loc (fun _ => rfl) (fun y a H H0 h => OwnL.lent h) h
theorem OwnX_flat {x : AV} {l : List Tx} {H H0 : Heap} (h : OwnX x l H H0) : Flat x ∧ (FlatH H0 → FlatH H) :=
  OwnSl.flat EncX (fun y a H H0 h => ⟨OwnL.flat h, fun k => OwnL.flatH h (rec_flat _) k⟩) h
theorem OwnX_wp {x : AV} {l : List Tx} {H H0 : Heap} (h : OwnX x l H H0) : WP (fun F F' => Imp F F' x (.l 5 (l.map Tx.av))) H H0 :=
  OwnSl.wp (val := valX) EncX (fun _ => rfl) (fun y a H H0 h => (OwnL.wp h).mono fun F F' _ g => g.1) h
/-- the log's three rows -/
def OwnG (x1 x2 x3 : AV) (l : Lg) : HR := cmp2 (OwnX x1 l.txs) (cmp2 (fun H H0 => OwnL H x2 26 3 (l.done.map Nm.av) H0) (fun H H0 => OwnL H x3 36 3 (l.log.map Rec.av) H0))
theorem OwnG_loc (x1 x2 x3 : AV) (l : Lg) : Loc (OwnG x1 x2 x3 l) := (OwnX_loc _ _).comp ((Loc.own _ _ _ _).comp (Loc.own _ _ _ _))
abbrev gl (x1 x2 x3 : AV) : AV := .g [x1, x2, x3]
theorem gl_lent {x1 x2 x3 : AV} {l : Lg} {H : Heap} (h1 : Lent H x1 (.l 5 (l.txs.map Tx.av))) (h2 : Lent H x2 (.l 3 (l.done.map Nm.av))) (h3 : Lent H x3 (.l 3 (l.log.map Rec.av))) : Lent H (gl x1 x2 x3) (.g l.av) :=
  Lent.g (xs := [x1, x2, x3]) (ys := [.l 5 (l.txs.map Tx.av), .l 3 (l.done.map Nm.av), .l 3 (l.log.map Rec.av)]) ⟨h1, h2, h3, trivial⟩ (by intro w hw; simp only [List.mem_cons, List.not_mem_nil, or_false] at hw; rcases hw with rfl | rfl | rfl <;> rfl)
theorem OwnG_lents {x1 x2 x3 : AV} {l : Lg} {H H0 : Heap} (h : OwnG x1 x2 x3 l H H0) : Lent H x1 (.l 5 (l.txs.map Tx.av)) ∧ Lent H x2 (.l 3 (l.done.map Nm.av)) ∧ Lent H x3 (.l 3 (l.log.map Rec.av)) := by
  obtain ⟨H1, h1, H2, h2, h3⟩ := h
  have e1 := (OwnX_loc _ _).le h1
  have e2 := (Loc.own _ _ _ _).le h2
  exact ⟨OwnX_lent h1, (OwnL.lent h2).mono e1, (OwnL.lent h3).mono (Heap.le_trans e2 e1)⟩
theorem OwnG_lent {x1 x2 x3 : AV} {l : Lg} {H H0 : Heap} (h : OwnG x1 x2 x3 l H H0) : Lent H (gl x1 x2 x3) (.g l.av) :=
  let ⟨h1, h2, h3⟩ := OwnG_lents h; gl_lent h1 h2 h3
theorem OwnG_cs {x1 x2 x3 : AV} {l : Lg} {H H0 : Heap} (h : OwnG x1 x2 x3 l H H0) : (x1.cs = some [x1] ∧ x2.cs = some [x2] ∧ x3.cs = some [x3]) ∧ x1.one = true ∧ x2.one = true ∧ x3.one = true := by
  obtain ⟨H1, h1, H2, h2, h3⟩ := h
  exact ⟨⟨OwnSl.cs h1, h2.cs, h3.cs⟩, OwnSl.one h1, h2.one, h3.one⟩
theorem OwnG_len {x1 x2 x3 : AV} {l : Lg} {H H0 : Heap} (h : OwnG x1 x2 x3 l H H0) : lenV x1 = some l.txs.length ∧ lenV x2 = some l.done.length ∧ lenV x3 = some l.log.length := by
  obtain ⟨H1, h1, H2, h2, h3⟩ := h
  refine ⟨OwnSl.len h1, ?_, ?_⟩
  · rw [h2.len, List.length_map]
  · rw [h3.len, List.length_map]
theorem OwnG_flat {x1 x2 x3 : AV} {l : Lg} {H H0 : Heap} (h : OwnG x1 x2 x3 l H H0) : Flat (gl x1 x2 x3) ∧ (FlatH H0 → FlatH H) := by
  obtain ⟨H1, h1, H2, h2, h3⟩ := h
  refine ⟨Flat.g (by intro z hz; simp only [List.mem_cons, List.not_mem_nil, or_false] at hz; rcases hz with rfl | rfl | rfl; exact (OwnX_flat h1).1; exact OwnL.flat h2; exact OwnL.flat h3), fun k => (OwnX_flat h1).2 (OwnL.flatH h2 (nm_flat _) (OwnL.flatH h3 (rec_flat _) k))⟩
theorem OwnG_wp {x1 x2 x3 : AV} {l : Lg} {H H0 : Heap} (h : OwnG x1 x2 x3 l H H0) : WP (fun F F' => Imp F F' (gl x1 x2 x3) (.g l.av)) H H0 := by
  obtain ⟨H1, h1, H2, h2, h3⟩ := h
  refine (((OwnX_wp h1).seq ((OwnL.wp h2).seq (OwnL.wp h3)))).mono fun F F' hF ⟨F1, f1, f2, hi, F2, f3, f4, hj, hk⟩ => ?_
  exact Imp.g (Imps.cons (hi.up f2) (fun _ => rfl) (Imps.cons ((hj.1.up f4).down f1) (fun _ => rfl) (Imps.cons ((hk.1.down f3).down f1) (fun _ => rfl) Imps.nil)))
def zeroL : Lg := ⟨[], [], []⟩
abbrev zL : List AV := [.c (.slice none 0 0), .c (.slice none 0 0), .c (.slice none 0 0)]
theorem OwnG_nil (H : Heap) : OwnG (.c (.slice none 0 0)) (.c (.slice none 0 0)) (.c (.slice none 0 0)) zeroL H H := ⟨H, OwnSl.nil, H, OwnL.nil _ _ _, OwnL.nil _ _ _⟩
abbrev bxL (x1 x2 x3 : AV) : Blk := .r 47 3 1 [[x1, x2, x3]]
theorem ACall.fr {P : Program} {f : FuncId} {args : List AV} {R : HR} {K F A0 : Heap} {Q : AV → Heap → Prop} (hR : Loc R) (h : R A0 (join K F)) (ha : Apart K F) (hc : ∀ A, R A K → ACall P f args A Q) : ACall P f args A0 (fun r H' => ∃ B', H' = join B' F ∧ Apart B' F ∧ Q r B') := by
  obtain ⟨A, rfl, h1, h2⟩ := hR.unjoin h ha
  rw [join_comm h1]
  refine (ACall.frame h1.symm (hc A h2)).mono ?_
  rintro r H' ⟨B', rfl, h3, h4⟩
  exact ⟨B', join_comm h3, h3.symm, h4⟩
theorem upd_split {H : Heap} {n : Nat} {k : Blk} (hn : H n = none) : upd H n k = join H (upd emp n k) ∧ Apart H (upd emp n k) := by
  refine ⟨?_, ((Apart.emp H).upd k hn).symm⟩
  funext q; simp only [upd, join]
  by_cases e : q = n
  · subst e; simp [hn]
  · simp [e]
theorem rows_at {α β : Type} {f : α → List AV} {g : β → List AV} {L : List α} {l : List β} {k : Nat} {p : β} (hL : L.length = k) (hp : l[k]? = some p) (v : α) (w : List AV) (hw : w = f v) :
    (L.map f ++ (l.drop k).map g)[k]? = some (g p) ∧ (L.map f ++ (l.drop k).map g).length = l.length ∧ (L.map f ++ (l.drop k).map g).set k w = (L ++ [v]).map f ++ (l.drop (k + 1)).map g := by
  subst hL hw
  have hk := (List.getElem?_eq_some_iff.1 hp).1
  rw [drop_get hp]
  refine ⟨by simp, by simp; omega, by simp⟩
theorem map_snoc {α : Type} {L : List (AV × α)} {l : List α} {k : Nat} {p : α} {y : AV} (h : L.map Prod.snd = l.take k) (hp : l[k]? = some p) : (L ++ [(y, p)]).map Prod.snd = l.take (k + 1) := by
  rw [List.map_append, h, take_snoc hp]; rfl
theorem map_len {α : Type} {L : List (AV × α)} {l : List α} {k : Nat} (h : L.map Prod.snd = l.take k) (hk : k ≤ l.length) : L.length = k := by
  have := congrArg List.length h
  simpa [Nat.min_eq_left hk] using this
theorem OwnL.put {H : Heap} {m len cap sz : Nat} {ty : TypeId} {rows : List (List AV)} (hl : len = rows.length) : OwnL (upd H m (.r ty sz cap rows)) (.s m sz 0 len cap) ty sz rows (del H m) := by
  have h := OwnL.of (G := upd H m (.r ty sz cap rows)) (upd_same _ _ _) hl
  rwa [show del (upd H m (.r ty sz cap rows)) m = del H m from by funext q; simp only [del, upd]; by_cases e : q = m <;> simp [e]] at h
theorem Loc.cutx {R : HR} (hR : Loc R) {H H0 K : Heap} (h : R H H0) (hk : Heap.le K H0) : ∃ H', Heap.le H' H ∧ R H' K ∧ ∀ m, H0 m ≠ none → K m = none → H' m = none := by
  obtain ⟨A, a1, a2, rfl⟩ := hR.dec h
  have a3 : Apart A K := fun q => by
    rcases a2 q with g | g
    · exact .inl g
    · right
      cases hq : K q with
      | none => rfl
      | some b => rw [hk q b hq] at g; cases g
  refine ⟨join A K, Heap.le_join (Heap.le_refl _) hk a2, hR.inc a1 a3, fun m h0 hK => join_none_iff.2 ⟨?_, hK⟩⟩
  rcases a2 m with g | g
  · exact g
  · exact absurd g h0
theorem rec_bd {l : List Tx} {t : Tx} (h : t ∈ l) : t.rs.length ≤ sumT l := by
  induction l with
  | nil => cases h
  | cons x l ih =>
    simp only [sumT]
    rcases List.mem_cons.1 h with rfl | h
    · omega
    · have := ih h; omega
theorem lgOk_bd {l : Lg} (h : lgOk l = true) : l.txs.length ≤ 24 ∧ l.done.length ≤ 300 ∧ l.log.length ≤ 400 ∧ sizeS l ≤ 400 ∧ ∀ t ∈ l.txs, t.rs.length ≤ 400 := by
  simp only [lgOk, Bool.and_eq_true, decide_eq_true_eq] at h
  have h1 : sizeS l ≤ 400 := h.1.1.2
  unfold sizeS at h1
  exact ⟨h.1.1.1.1, h.1.1.1.2, by omega, by unfold sizeS; omega, fun t ht => by have := rec_bd ht; omega⟩
end Go.Proofs.Ytdeckjoeggmagaa
