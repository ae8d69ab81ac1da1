/- A coordinator of one's own, three levels deep. -/
import Derived.Test.YtlbdpnlmdcajbaaE
import Derived.Test.YtlbdpnlmdcajbaaD
namespace Go.Proofs.Ytlbdpnlmdcajbaa
open Go.RowKit
open Nat renaming reduceEqDiff → nA, reduceLT → nB, reduceLeDiff → nC, reduceAdd → nD, reduceMul → nE, reduceSub → nF, reduceBEq → nG
open Int renaming reduceToNat → iA, reduceLT → iB, reduceLE → iC, reduceEq → iD
open Bool renaming and_eq_true → bA, or_eq_true → bB, or_eq_false_iff → bC, and_eq_false_iff → bD, not_eq_true' → bE, not_eq_false' → bF, not_true → bG, not_false → bH
set_option linter.all false
set_option maxHeartbeats 4000000
attribute [local irreducible] AW Does ACall tE tS tB tZ

def encA (p : AV × Ak) : List AV := [.c (.int .i64 p.2.task), p.1]
def encP (p : AV × Pd) : List AV := [.c (.int .u64 p.2.num), .c (.int .i64 p.2.begun), .c (.bool p.2.save), p.1]
attribute [push_cast] encA encP
def EA : Enc1 encA 2 := ⟨fun a => [.int .i64 a.task], fun p => rfl, fun a v hv => by simp at hv; subst hv; rfl, fun a => rfl⟩
def EP : Enc1 encP 4 := ⟨fun p => [.int .u64 p.num, .int .i64 p.begun, .bool p.save], fun p => rfl, fun a v hv => by simp at hv; rcases hv with rfl | rfl | rfl <;> rfl, fun a => rfl⟩
theorem encA_len (p : AV × Ak) : (encA p).length = 2 := rfl
theorem encP_len (p : AV × Pd) : (encP p).length = 4 := rfl
def RA (y : AV) (a : Ak) : HR := fun H H0 => OwnL H y 5 1 (a.bytes.map by1) H0
theorem RA_loc (y : AV) (a : Ak) : Loc (RA y a) := Loc.own _ _ _ _
abbrev OwnA (y : AV) (l : List Ak) : HR := OwnSl 47 2 encA RA y l
def RP (y : AV) (p : Pd) : HR := OwnA y p.acks
theorem OwnA_loc (y : AV) (l : List Ak) : Loc (OwnA y l) := Loc.sl RA_loc y l
theorem RP_loc (y : AV) (p : Pd) : Loc (RP y p) := OwnA_loc y p.acks
abbrev OwnP (x : AV) (l : List Pd) : HR := OwnSl 61 4 encP RP x l
theorem OwnP_loc (x : AV) (l : List Pd) : Loc (OwnP x l) := Loc.sl RP_loc x l
abbrev valA (a : Ak) : AV := .l 1 (a.bytes.map by1)
abbrev valP (p : Pd) : AV := .l 2 (p.acks.map Ak.av)
theorem OwnA_lent {y : AV} {l : List Ak} {H H0 : Heap} (h : OwnA y l H H0) : Lent H y (.l 2 (l.map Ak.av)) :=
  OwnSl.lent (val := valA) EA RA_loc (fun _ => rfl) (fun y a H H0 h => OwnL.lent h) h
theorem OwnP_lent {y : AV} {l : List Pd} {H H0 : Heap} (h : OwnP y l H H0) : Lent H y (.l 4 (l.map Pd.av)) :=
  OwnSl.lent (val := valP) EP RP_loc (fun _ => rfl) (fun y a H H0 h => OwnA_lent h) h
theorem by1_flat (l : List Int) : FlatR (l.map by1) := FlatR.map l fun n y hy => by simp [by1] at hy; subst hy; exact Flat.c _
theorem OwnA_flat {y : AV} {l : List Ak} {H H0 : Heap} (h : OwnA y l H H0) : Flat y ∧ (FlatH H0 → FlatH H) :=
  OwnSl.flat EA (fun y a H H0 h => ⟨OwnL.flat h, fun k => OwnL.flatH h (by1_flat _) k⟩) h
theorem OwnP_flat {y : AV} {l : List Pd} {H H0 : Heap} (h : OwnP y l H H0) : Flat y ∧ (FlatH H0 → FlatH H) :=
  OwnSl.flat EP (fun y a H H0 h => OwnA_flat h) h
theorem OwnA_wp {y : AV} {l : List Ak} {H H0 : Heap} (h : OwnA y l H H0) : WP (fun F F' => Imp F F' y (.l 2 (l.map Ak.av))) H H0 :=
  OwnSl.wp (val := valA) EA (fun _ => rfl) (fun y a H H0 h => (OwnL.wp h).mono fun F F' _ g => g.1) h
theorem OwnP_wp {y : AV} {l : List Pd} {H H0 : Heap} (h : OwnP y l H H0) : WP (fun F F' => Imp F F' y (.l 4 (l.map Pd.av))) H H0 :=
  OwnSl.wp (val := valP) EP (fun _ => rfl) (fun y a H H0 h => OwnA_wp h) h
/-- a coordinator's cells, with its own row of pendings -/
def Cd.cl (c : Cd) (x : AV) : List AV := [.c (.int .u64 c.epoch), .c (.int .u64 c.counter), .c (.int .i64 c.tasks), .c (.int .i64 c.attempt), .c (.int .i64 c.span), x]
attribute [push_cast] Cd.cl
def zeroC : Cd := ⟨0, 0, 0, 0, 0, []⟩
def bxC (c : Cd) (x : AV) : Blk := .r 30 6 1 [c.cl x]
/-! plain facts on those that may be -/
theorem akGo_len (tasks : Int) : ∀ (l : List Ak) (last : Int), akGo tasks last l = true → (l.length : Int) ≤ max 0 (tasks - last - 1) ∧ ∀ a ∈ l, last < a.task ∧ a.task < tasks ∧ a.bytes.length ≤ 3000
  | [], last, _ => ⟨by simp; omega, by simp⟩
  | a :: l, last, h => by
    unfold akGo at h
    split at h
    · rename_i h1
      obtain ⟨h2, h3⟩ := akGo_len tasks l a.task h
      refine ⟨by simp only [List.length_cons]; omega, fun b hb => ?_⟩
      rcases List.mem_cons.1 hb with rfl | hb
      · exact h1
      · have := h3 b hb; omega
    · cases h
theorem pdGo_all (c : Cd) : ∀ (l : List Pd) (n b : Int), pdGo c n b l = true → ∀ p ∈ l, akGo c.tasks (-1) p.acks = true
  | [], _, _, _ => by simp
  | p :: l, n, b, h => fun q hq => by
    simp only [pdGo, Bool.and_eq_true] at h
    rcases List.mem_cons.1 hq with rfl | hq
    · exact h.1.2
    · exact pdGo_all c l _ _ h.2 q hq
theorem cdOk_bd {c : Cd} (h : cdOk c = true) : c.pend.length ≤ 2 ∧ ∀ p ∈ c.pend, p.acks.length ≤ 16 ∧ ∀ a ∈ p.acks, a.bytes.length ≤ 3000 := by
  simp only [cdOk, headOk, Bool.and_eq_true, decide_eq_true_eq] at h
  refine ⟨by omega, fun p hp => ?_⟩
  obtain ⟨h1, h2⟩ := akGo_len c.tasks p.acks (-1) (pdGo_all c _ _ _ h.2 p hp)
  exact ⟨by omega, fun a ha => (h2 a ha).2.2⟩
theorem with_no (c : Cd) (hl : c.pend.length ≤ maxLen) (hfit : ∀ p ∈ c.pend, p.fits) (hok : cdOk c = false) (gf : FuncId) (caps : List AV) (H : Heap) :
    ACall Try.prog 60 [.g (Cd.av c), .f (.func gf) [] caps] H fun r H' => r = .t [.g (zeroC.cl (.c (.slice none 0 0))), .c (.int .i64 320)] ∧ H' = H := by
  have hch := Check_p c hl hfit
  rw [hok] at hch
  obtain ⟨e, k, t, a, s, l⟩ := c
  simp only [Cd.av, Bool.false_eq_true, if_false] at hch ⊢
  clear hfit hok
  refine ACall_of' Try.func60 rfl (Ent_of Try.func60 (by kernel_rfl) rfl) (by simp [Try.ntmps60]) ?_; simp only [Try.ntmps60, Try.results60]
  repeat' (first
    | refine AW_seq_kn fun K hK => ?_
    | refine AW_block ?_
    | (refine does_call rfl rfl ?_; simp only [push_cast, seval, *]; refine ACall.monoP (hch _) ?_; (try simp only [push_cast, seval, *]))
    | ((first
      | refine AW_region_draw (id := 13) E0 (fun f => [].contains f) [(0, false, []), (1, false, []), (2, false, []), (3, true, []), (4, false, []), (5, false, []), (6, false, []), (7, false, []), (8, false, []), (9, false, []), (10, false, []), (11, false, []), (12, false, []), (13, false, [3]), (14, false, []), (15, false, []), (16, false, [])] [[], [0], [0, 1], [0, 1, 2], [], [], [5], [5, 6], [5, 6, 7], [], [5, 6, 7, 8, 9], [5, 6, 7, 8, 9, 10], [5, 6, 7, 8, 9, 10, 11], [5, 6, 7, 8, 9, 10, 11, 12], [0, 1, 2, 3, 4, 5, 6, 7, 8, 9, 10, 11, 12, 13], [0, 1, 2, 3, 4, 5, 6, 7, 8, 9, 10, 11, 12, 13, 14], [0, 1, 2, 3, 4, 5, 6, 7, 8, 9, 10, 11, 12, 13, 14, 15]] mixed (by kernel_rfl) ?_
      | refine AW_region E0 ?_ | refine AW_ret ?_ | refine AW_exit ?_ | refine AW_skip ?_ | unfold retQ); try simp only [push_cast, seval, *])
    | (apply AW_cond; (case hc => (simp only [push_cast, seval]; rfl)); all_goals (intro hc; first | (exfalso; simp only [push_cast, seval, *] at hc; done) | (exact absurd hc (by decide)) | ((try first | rw [Bool.not_true] at hc | rw [Bool.not_false] at hc); first | (with_reducible replace hc := tTT hc); clear hc | (with_reducible replace hc := tFF hc); clear hc | (have hp := hc; try simp only [decide_eq_true_eq, decide_eq_false_iff_not, bA, bB, bC, bD, bE, bF, bG, bH] at hp))))
    | (refine Kn.go hK ?_; clear hK K)
    | refine Kn.go (by assumption) ?_
    | (intro n hn; (try simp only [upd_none2, join_none_iff, ite_none, ne_eq] at hn); (try simp only [push_cast, seval, *]))
    | (intro hc)
    | fail)
  exact ⟨_, _, Weak.less (by (simp only [push_cast, seval, *])), rfl, rfl⟩
end Go.Proofs.Ytlbdpnlmdcajbaa
