/- What an op does, told in plain rows but for the numbers; maps as sets of numbers. -/
import Derived.Test.YtlbdpnlmdcajbaaZQ
import Derived.Test.YtlbdpnlmdcajbaaMD
namespace Go.Proofs.Ytlbdpnlmdcajbaa
open Go.RowKit
open Nat renaming reduceEqDiff → nA, reduceLT → nB, reduceLeDiff → nC, reduceAdd → nD, reduceMul → nE, reduceSub → nF, reduceBEq → nG
open Int renaming reduceToNat → iA, reduceLT → iB, reduceLE → iC, reduceEq → iD
open Bool renaming and_eq_true → bA, or_eq_true → bB, or_eq_false_iff → bC, and_eq_false_iff → bD, not_eq_true' → bE, not_eq_false' → bF, not_true → bG, not_false → bH
set_option linter.all false
set_option maxHeartbeats 4000000
attribute [local irreducible] AW Does ACall tE tS tB tZ
set_option maxRecDepth 5000

theorem OwnL.swapA {H1 H2 H : Heap} {g ya : AV} {rs : List (List AV)} {l : List Ak} (hg : OwnL H1 g 25 1 rs H2) (ha : OwnA ya l H2 H) : ∃ H3, OwnA ya l H1 H3 ∧ OwnL H3 g 25 1 rs H :=
  (Loc.own g 25 1 rs).swap (OwnA_loc ya l) hg ha
theorem ownT.wp {t : Told} {y ya g : AV} {H' H : Heap} (h : ownT t y ya g H' H) : ∃ H3, Weak (.g (t.cl y ya g)) H' (.g (t.cl (.l 4 (t.c.pend.map Pd.av)) (.l 2 (t.acks.map Ak.av)) g)) H3 ∧ OwnL H3 g 25 1 (t.gone.map iu) H := by
  obtain ⟨H1, H2, h1, h2, h3⟩ := h
  obtain ⟨H3, k1, k2⟩ := h2.swapA h3
  refine ⟨H3, ((OwnP_wp h1).seq (OwnA_wp k1)).weak fun F F' hF ⟨F1, f1, f2, hi, hj⟩ => ?_, k2⟩
  exact Imp.g (Imps.cons (Imp.refl hF _) id (Imps.cons (Imp.refl hF _) id (Imps.cons (Imp.refl hF _) id (Imps.cons (Imp.refl hF _) id (Imps.cons (Imp.refl hF _) id (Imps.cons (hi.up f2) (fun _ => rfl) (Imps.cons (Imp.refl hF _) id (Imps.cons (Imp.refl hF _) id (Imps.cons (hj.down f1) (fun _ => rfl) (Imps.cons (Imp.refl hF _) id (Imps.cons (Imp.refl hF _) id Imps.nil)))))))))))
theorem run_g (o : Op22) (hob : o.ack.bytes.length ≤ maxLen) (c : Cd) (hl : c.pend.length ≤ maxLen) (hfit : c.fits) (H : Heap) :
    ACall Try.prog 18 [.g (Op22.av o), .g (Cd.av c)] H fun r H' => ∃ g, r = .g ((runS o c).cl (.l 4 ((runS o c).c.pend.map Pd.av)) (.l 2 ((runS o c).acks.map Ak.av)) g) ∧ OwnL H' g 25 1 ((runS o c).gone.map iu) H :=
  ACall.weak ((run_o o hob c hl hfit H).mono fun r H' ⟨y, ya, g, e, ho⟩ => by
    obtain ⟨H3, h2, h3⟩ := ho.wp
    exact ⟨_, H3, e ▸ h2, g, rfl, h3⟩)

abbrev kU (n : Int) : Value := .int .u64 n
theorem kkU : KeyK Try.prog 25 kU := KeyK.int tU25
theorem info_bool : (Try.prog.info? 4).bind (·.zero) = some (.bool false) := by kernel_rfl
theorem zero_bool (w : World) : (zeroValue 4).run Try.prog w = .ok (.bool false) w := by
  have h := info_bool
  cases hi : Try.prog.info? 4 with
  | none => rw [hi] at h; cases h
  | some i =>
    rw [hi] at h
    have h2 : i.zero = some (.bool false) := h
    simp [zeroValue, typeInfo, hi, h2, Sem.run_bind]
theorem lenV_map (r : Option Nat) : lenV (.c (.map r)) = none := rfl
theorem bind_none' {α β : Type} (f : α → Option β) : (none : Option α).bind f = none := rfl
attribute [push_cast] lenV_map bind_none'
/-- a map that stands for a set of numbers -/
structure SetM (s : List Int) (l : List (ME Int)) : Prop where
  perm : (l.map ME.k).Perm s
  y : ∀ e ∈ l, e.y = .c (.bool true)
  mw : MW M0 l
theorem SetM.nil : SetM [] [] := ⟨List.Perm.refl _, fun e h => (by cases h), MW.nil _⟩
theorem SetM.to {s s' : List Int} {l : List (ME Int)} (h : SetM s l) (p : s.Perm s') : SetM s' l := ⟨h.perm.trans p, h.y, h.mw⟩
theorem mput_y (k : Int) (v : Value) (y : AV) (c : Nat) : ∀ (l : List (ME Int)), (∀ e ∈ l, e.y = y) → ∀ e ∈ mput k v y c l, e.y = y
  | [], _, e, he => by simp only [mput, List.mem_singleton] at he; subst he; rfl
  | x :: l, h, e, he => by
    unfold mput at he
    split at he
    · rcases List.mem_cons.1 he with rfl | he
      · rfl
      · exact h e (by simp [he])
    · rcases List.mem_cons.1 he with rfl | he
      · exact h e (by simp)
      · exact mput_y k v y c l (fun e' h' => h e' (by simp [h'])) e he
theorem mdel_mem (k : Int) : ∀ (l : List (ME Int)), ∀ e ∈ mdel k l, e ∈ l
  | [], e, he => he
  | x :: l, e, he => by
    unfold mdel at he
    split at he
    · simp [he]
    · rcases List.mem_cons.1 he with rfl | he
      · simp
      · have := mdel_mem k l e he; simp [this]
theorem SetM.put {s : List Int} {l : List (ME Int)} (h : SetM s l) {n : Int} (hn : ¬ n ∈ s) (c : Nat) : SetM (s ++ [n]) (mput n (.bool true) (.c (.bool true)) c l) := by
  refine ⟨?_, mput_y _ _ _ _ _ h.y, h.mw.put (Mem.le.refl _) (.c _)⟩
  rw [mput_keys, if_neg (fun hm => hn (h.perm.mem_iff.1 hm))]
  exact h.perm.append_right [n]
theorem SetM.v {s : List Int} {l : List (ME Int)} (h : SetM s l) (n : Int) : ((mget n l).map ME.y).getD (.c (.bool false)) = .c (.bool (decide (n ∈ s))) := by
  cases hg : mget n l with
  | none =>
    rw [mget_none_iff, h.perm.mem_iff] at hg
    rw [decide_eq_false hg]; rfl
  | some e =>
    obtain ⟨h1, h2⟩ := mget_mem hg
    have : n ∈ s := h.perm.mem_iff.1 (List.mem_map.2 ⟨e, h1, h2⟩)
    rw [decide_eq_true this]
    simp [h.y e h1]
theorem SetM.del {s : List Int} {l : List (ME Int)} {n : Int} (h : SetM (n :: s) l) : SetM s (mdel n l) := by
  refine ⟨?_, fun e he => h.y e (mdel_mem n l e he), h.mw.del⟩
  rw [mdel_keys]
  have := h.perm.erase n
  rwa [List.erase_cons_head] at this
theorem SetM.len {s : List Int} {l : List (ME Int)} (h : SetM s l) : l.length = s.length := by
  have := h.perm.length_eq
  rwa [List.length_map] at this
end Go.Proofs.Ytlbdpnlmdcajbaa
