import Derived.Test.YtlbdpnlmdcajbaaZS
import Derived.Test.YtlbdpnlmdcajbaaZQ
import Derived.Test.YtlbdpnlmdcajbaaDA
import Derived.Test.YtlbdpnlmdcajbaaDJ
import Derived.Test.YtlbdpnlmdcajbaaDI
import Derived.Test.YtlbdpnlmdcajbaaZ
/- What an op leaves behind: plain law. -/
namespace Go.Proofs.Ytlbdpnlmdcajbaa
open Go.RowKit
open Nat renaming reduceEqDiff → nA, reduceLT → nB, reduceLeDiff → nC, reduceAdd → nD, reduceMul → nE, reduceSub → nF, reduceBEq → nG
open Int renaming reduceToNat → iA, reduceLT → iB, reduceLE → iC, reduceEq → iD
open Bool renaming and_eq_true → bA, or_eq_true → bB, or_eq_false_iff → bC, and_eq_false_iff → bD, not_eq_true' → bE, not_eq_false' → bF, not_true → bG, not_false → bH
set_option linter.all false
set_option maxHeartbeats 4000000
attribute [local irreducible] AW Does ACall tE tS tB tZ
set_option maxRecDepth 5000

structure RunP (c : Cd) (t : Told) : Prop where
  o : ∀ p ∈ t.c.pend, ∀ a ∈ p.acks, octs a.bytes
  a : t.acks = [] ∨ ∃ p ∈ c.pend, t.acks = p.acks
  g : t.gone.length ≤ c.pend.length
  z : ¬ t.e = 0 → t.c = zeroC
theorem rp_zero (c : Cd) (e : Int) : RunP c ⟨zeroC, 0, false, [], [], e⟩ := ⟨fun p hp => (by cases hp), .inl rfl, Nat.zero_le _, fun _ => rfl⟩
theorem run_P (o : Op22) (c : Cd) (hb : octs (opAck o).bytes) (hc : ∀ p ∈ c.pend, ∀ a ∈ p.acks, octs a.bytes) : RunP c (runS o c) := by
  unfold runS
  by_cases h : cdOk c = false
  · unfold trigR ackR decR wRes tickR compR restR
    simp only [if_pos h]
    repeat' split
    all_goals exact rp_zero c _
  by_cases h2 : kdS o < 2
  · rw [if_pos h2]; unfold trigR; simp only [if_neg h]
    by_cases ht : trigE c o.now = 0
    · simp only [if_pos ht]
      refine ⟨fun p hp => ?_, .inl rfl, Nat.zero_le _, fun h => absurd rfl h⟩
      rcases List.mem_append.1 hp with hp | hp
      · exact hc p hp
      · simp only [List.mem_singleton] at hp
        subst hp; intro a ha; cases ha
    · simp only [if_neg ht]; exact rp_zero c _
  rw [if_neg h2]
  by_cases h5 : kdS o < 5
  · rw [if_pos h5]; unfold ackR; simp only [if_neg h]
    by_cases ht : ackE c (numO o c) o.attempt (opAck o) = 0
    · simp only [if_pos ht]
      refine ⟨fun p hp => ?_, .inl rfl, Nat.zero_le _, fun h => absurd rfl h⟩
      rcases List.mem_or_eq_of_mem_set hp with hp | hp
      · exact hc p hp
      · subst hp
        intro a ha
        simp only [putAk, List.mem_append, List.mem_singleton] at ha
        have hP : ∀ a ∈ (pdAt c (numO o c)).acks, octs a.bytes := fun a ha => by
          unfold pdAt at ha
          cases hq : c.pend[(fndS c.pend (numO o c)).toNat]? with
          | none => rw [hq] at ha; cases ha
          | some q => rw [hq] at ha; exact hc q (List.mem_of_getElem? hq) a ha
        rcases ha with (ha | ha) | ha
        · exact hP a (List.mem_of_mem_take ha)
        · rw [ha]; exact hb
        · exact hP a (List.mem_of_mem_drop ha)
    · simp only [if_neg ht]; exact rp_zero c _
  rw [if_neg h5]
  by_cases h6 : kdS o < 6
  · rw [if_pos h6]; unfold decR wRes; simp only [if_neg h]
    by_cases ht : oursE c (numO o c) o.attempt = 0
    · simp only [if_pos ht]
      exact ⟨fun p hp => hc p ((List.eraseIdx_sublist _ _).subset hp), .inl rfl, Nat.zero_le _, fun h => absurd rfl h⟩
    · simp only [if_neg ht]; exact rp_zero c _
  rw [if_neg h6]
  by_cases h7 : kdS o < 7
  · rw [if_pos h7]; unfold tickR; simp only [if_neg h]
    by_cases ht : tickE o.now = 0
    · simp only [if_pos ht]
      exact ⟨fun p hp => hc p (List.mem_filter.1 hp).1, .inl rfl, by simp only [List.length_map]; exact List.length_filter_le _ _, fun h => absurd rfl h⟩
    · simp only [if_neg ht]; exact rp_zero c _
  rw [if_neg h7]
  by_cases h9 : kdS o < 9
  · rw [if_pos h9]; unfold compR; simp only [if_neg h]
    by_cases ht : compE c (numO o c) = 0
    · simp only [if_pos ht]
      have h0 : ¬ fndS c.pend (numO o c) < 0 := fun hl => by unfold compE at ht; rw [if_pos hl] at ht; omega
      obtain ⟨i, hi, hp⟩ := fndS_at h0
      refine ⟨fun p hp => hc p ((List.eraseIdx_sublist _ _).subset (List.mem_filter.1 hp).1), .inr ⟨_, List.mem_of_getElem? hp, rfl⟩, ?_, fun h => absurd rfl h⟩
      simp only [List.length_map]
      exact Nat.le_trans (List.length_filter_le _ _) (List.eraseIdx_sublist _ _).length_le
    · simp only [if_neg ht]; exact rp_zero c _
  rw [if_neg h9]; unfold restR; simp only [if_neg h]
  by_cases ht : restE c o.tasks o.attempt = 0
  · simp only [if_pos ht]
    exact ⟨fun p hp => (by cases hp), .inl rfl, by simp, fun h => absurd rfl h⟩
  · simp only [if_neg ht]; exact rp_zero c _
theorem Cd.good.fits {c : Cd} (h : c.good) : c.fits := ⟨h.1.2.1, fun p hp => ⟨(h.2.2 p hp).1, (h.2.2 p hp).2.2.1⟩⟩
theorem Cd.good.fine {c : Cd} (h : c.good) : c.fine := ⟨h.2.1, fun p hp => ⟨(h.2.2 p hp).2.2.1, fun a ha => ((h.2.2 p hp).2.2.2 a ha).2.2⟩⟩
theorem zeroC_good : zeroC.good := ⟨by simp [zeroC, u64b, i64b], by simp [zeroC, maxLen], fun p hp => by cases hp⟩
theorem zeroC_small : zeroC.small := ⟨by simp [zeroC], fun p hp => by cases hp⟩
theorem good_of {c : Cd} (hok : cdOk c = true) (hf : c.fits) (ho : ∀ p ∈ c.pend, ∀ a ∈ p.acks, octs a.bytes) : c.good ∧ c.small := by
  have hs := small_of hok
  have hep := cdOk_ep hok
  have hh := (headOk_iff c).1 ((cdOk_iff c).1 hok).1
  have hpd := ((cdOk_iff c).1 hok).2
  have hbg := pdGo_bg c c.pend 0 0 (Int.le_refl _) hpd
  refine ⟨⟨⟨⟨by omega, by omega⟩, hf.1, ⟨by omega, by omega⟩, ⟨by omega, by omega⟩, ⟨by omega, by omega⟩⟩, by have := hs.1; unfold maxLen; omega, fun p hp => ?_⟩, hs⟩
  have h1 := hbg p hp
  have h2 := hs.2 p hp
  have h3 := (akGo_len c.tasks p.acks (-1) (pdGo_all c c.pend 0 0 hpd p hp)).2
  refine ⟨(hf.2 p hp).1, ⟨by omega, by omega⟩, (hf.2 p hp).2, fun a ha => ⟨⟨by have := h3 a ha; omega, by have := h3 a ha; omega⟩, by have := h2.2 a ha; unfold maxLen; omega, ho p hp a ha⟩⟩
theorem run_good (o : Op22) (ho : o.ack.good) (c : Cd) (hg : c.good) (hs : c.small) : (runS o c).c.good ∧ (runS o c).c.small ∧ (runS o c).acks.length ≤ 17 ∧ (∀ a ∈ (runS o c).acks, octs a.bytes ∧ a.bytes.length ≤ 3001) ∧ (runS o c).gone.length ≤ 3 := by
  have hb : octs (opAck o).bytes := fun x hx => ho.2.2 x (List.mem_of_mem_take hx)
  have hc : ∀ p ∈ c.pend, ∀ a ∈ p.acks, octs a.bytes := fun p hp a ha => ((hg.2.2 p hp).2.2.2 a ha).2.2
  obtain ⟨r1, r2, r3, r4⟩ := run_P o c hb hc
  have hcg : (runS o c).c.good ∧ (runS o c).c.small := by
    by_cases he : (runS o c).e = 0
    · cases hok : cdOk c
      · have : (runS o c).e = 320 := by
          unfold runS trigR ackR decR wRes tickR compR restR
          simp only [hok, if_true]
          repeat' split
          all_goals rfl
        omega
      · obtain ⟨q, -⟩ := run_ok hok hg.fits o he
        exact good_of q.ok q.fits r1
    · rw [r4 he]; exact ⟨zeroC_good, zeroC_small⟩
  refine ⟨hcg.1, hcg.2, ?_, ?_, by have := hs.1; omega⟩
  · rcases r2 with e | ⟨p, hp, e⟩
    · rw [e]; simp
    · rw [e]; exact (hs.2 p hp).1
  · rcases r2 with e | ⟨p, hp, e⟩
    · rw [e]; simp
    · rw [e]; exact fun a ha => ⟨hc p hp a ha, (hs.2 p hp).2 a ha⟩
theorem small_eq {c : Cd} (h : c.small) : shortS c = c := by
  obtain ⟨a, b, c, d, e, l⟩ := c
  obtain ⟨h1, h2⟩ := h
  simp only at h1 h2
  unfold shortS
  simp only [List.take_of_length_le h1]
  congr 1
  conv => rhs; rw [← List.map_id l]
  refine List.map_congr_left fun p hp => ?_
  obtain ⟨h3, h4⟩ := h2 p hp
  unfold shP
  rw [List.take_of_length_le h3]
  have : p.acks.map shA = p.acks := by
    conv => rhs; rw [← List.map_id p.acks]
    refine List.map_congr_left fun a ha => ?_
    unfold shA
    rw [List.take_of_length_le (h4 a ha)]; rfl
  rw [this]; rfl
theorem good_short {c : Cd} (h : c.good) : (shortS c).good := by
  obtain ⟨h1, h2, h3⟩ := h
  refine ⟨h1, by simp [shortS, maxLen]; omega, fun p hp => ?_⟩
  obtain ⟨q, hq, rfl⟩ := List.mem_map.1 hp
  obtain ⟨g1, g2, g3, g4⟩ := h3 q (List.mem_of_mem_take hq)
  refine ⟨g1, g2, by simp [shP, maxLen]; omega, fun a ha => ?_⟩
  obtain ⟨b, hb, rfl⟩ := List.mem_map.1 ha
  obtain ⟨k1, k2, k3⟩ := g4 b (List.mem_of_mem_take hb)
  exact ⟨k1, by simp [shA, maxLen]; omega, fun x hx => k3 x (List.mem_of_mem_take hx)⟩
end Go.Proofs.Ytlbdpnlmdcajbaa

/- CoordDoes. -/
namespace Go.Proofs.Ytlbdpnlmdcajbaa
open Go.RowKit
open Nat renaming reduceEqDiff → nA, reduceLT → nB, reduceLeDiff → nC, reduceAdd → nD, reduceMul → nE, reduceSub → nF, reduceBEq → nG
open Int renaming reduceToNat → iA, reduceLT → iB, reduceLE → iC, reduceEq → iD
open Bool renaming and_eq_true → bA, or_eq_true → bB, or_eq_false_iff → bC, and_eq_false_iff → bD, not_eq_true' → bE, not_eq_false' → bF, not_true → bG, not_false → bH
set_option linter.all false
set_option maxHeartbeats 4000000
attribute [local irreducible] AW Does ACall tE tS tB tZ
def dLDL0 : List En := [(0, true, []), (1, false, []), (2, false, [0, 4]), (3, false, [4]), (4, false, []), (5, false, [])]
def dADL0 : List (List Nat) := [[], [], [1], [0, 1, 2], [], [0, 1, 2, 3, 4]]
attribute [push_cast] dLDL0
set_option maxRecDepth 5000

theorem lent_cl {c : Cd} {y : AV} {S M : Heap} (h : Lent S y (.l 4 (c.pend.map Pd.av))) (ho : y.one = true) (hM : Heap.le S M) : Lent M (.g (c.cl y)) (.g c.av) :=
  Lent.g (xs := c.cl y) (ys := c.cl (.l 4 (c.pend.map Pd.av))) (show Lent _ _ _ ∧ Lent _ _ _ ∧ Lent _ _ _ ∧ Lent _ _ _ ∧ Lent _ _ _ ∧ Lent _ _ _ ∧ True from ⟨Lent.refl _ _, Lent.refl _ _, Lent.refl _ _, Lent.refl _ _, Lent.refl _ _, h.mono hM, trivial⟩)
    (by intro w hw; simp only [Cd.cl, List.mem_cons, List.not_mem_nil, or_false] at hw; rcases hw with rfl | rfl | rfl | rfl | rfl | rfl <;> rfl)
theorem coordDoes_a (x : Cd) (hx : x.good) (ops : List Op22) (hol : ops.length ≤ maxLen) (hog : ∀ o ∈ ops, o.good) (H : Heap) :
    ACall Try.prog 5 [.g (Cd.av x), .l 8 (ops.map Op22.av)] H fun r _ => r = .c (.bool true) := by
  have hwk := wakes22_p
  have hsx := short_p x hx
  have hs0 : (shortS x).good ∧ (shortS x).small := ⟨good_short hx, small_short x⟩
  unfold maxLen at hol
  generalize shortS x = l0 at *
  have hlv : ∀ a b c d e f, Cd.av ⟨a, b, c, d, e, f⟩ = [.c (.int .u64 a), .c (.int .u64 b), .c (.int .i64 c), .c (.int .i64 d), .c (.int .i64 e), .l 4 (f.map Pd.av)] := fun _ _ _ _ _ _ => rfl
  obtain ⟨x0, x1, x2, x3, x4, xl⟩ := x
  obtain ⟨y0, y1, y2, y3, y4, yl⟩ := l0
  rw [hlv, hlv] at hsx
  rw [hlv]
  clear hx
  replace hog := Lib.hid hog
  replace hs0 := Lib.hid hs0
  refine ACall_of' Try.func5 rfl (Ent_of Try.func5 (by kernel_rfl) rfl) (by simp [Try.ntmps5]) ?_; simp only [Try.ntmps5, Try.results5]
  repeat' (first
    | (refine AW_atB (id := 4) ?_)
    | refine AW_seq_kn fun K hK => ?_
    | refine AW_block ?_
    | (refine does_call rfl rfl ?_; simp only [push_cast, seval, *]; refine ACall.monoP (hwk _) ?_; (try simp only [push_cast, seval, *]))
    | (refine does_call rfl rfl ?_; simp only [push_cast, seval, *]; refine ACall.monoP (hsx _) ?_; (try simp only [push_cast, seval, *]))
    | (refine does_call rfl rfl ?_; simp only [push_cast, seval, *]; refine ACall.monoP (wakes22_p _) ?_; (try simp only [push_cast, seval, *]))
    | ((first
      | refine AW_region_draw (id := 10) E0 (fun f => [].contains f) dLDL0 dADL0 mixed (by kernel_rfl) ?_
      | refine AW_region E0 ?_ | refine AW_ret ?_ | refine AW_exit ?_ | refine AW_skip ?_ | unfold retQ); try simp only [push_cast, seval, *])
    | ((first | (apply AW_cond; (case hc => (simp only [push_cast, seval]; rfl))) | (apply ER_guard; (case hb => (simp only [push_cast, seval]; rfl)))); all_goals ((intro hc; first | (exfalso; simp only [push_cast, seval, *] at hc; done) | (exact absurd hc (by decide)) | ((try first | rw [Bool.not_true] at hc | rw [Bool.not_false] at hc); first | (with_reducible replace hc := tTT hc); clear hc | (with_reducible replace hc := tFF hc); clear hc | (have hp := hc; try simp only [decide_eq_true_eq, decide_eq_false_iff_not, bA, bB, bC, bD, bE, bF, bG, bH] at hp))) <;> try simp only [push_cast, seval, *]))
    | (refine Kn.go hK ?_; clear hK K)
    | refine Kn.go (by assumption) ?_
    | (intro n hn; (try simp only [upd_none2, join_none_iff, ite_none, ne_eq] at hn); (try simp only [push_cast, seval, *]))
    | (intro hc)
    | (apply ER_blk; (case hp => rfl); (case hb => (simp only [push_cast, seval]; rfl)); (case hd => (simp only [push_cast, seval]; done)); (case h => (intro hc; simp only [push_cast, seval, *]; rfl)); simp only [push_cast, seval, *])
    | fail)
  refine ⟨?_⟩
  rename_i n2 h2
  generalize n = n5 at *
  have g5n : H n5 = none := hn.2
  have n52 : ¬ n5 = n2 := hn.1.1
  clear hwk hsx hn
  refine AW_seqC [] (fun _ => none) ?_ ?_
  rotate_left
  · repeat' (first
    | refine AW_seq_kn fun K hK => ?_
    | refine AW_block ?_
    | (refine does_call rfl rfl ?_; simp only [push_cast, seval, *]; refine ACall.monoP (wakes22_p _) ?_; (try simp only [push_cast, seval, *]))
    | ((first
      | refine AW_region_draw (id := 10) E0 (fun f => [].contains f) dLDL0 dADL0 mixed (by kernel_rfl) ?_
      | refine AW_region E0 ?_ | refine AW_ret ?_ | refine AW_exit ?_ | refine AW_skip ?_ | unfold retQ); try simp only [push_cast, seval, *])
    | ((first | (apply AW_cond; (case hc => (simp only [push_cast, seval]; rfl))) | (apply ER_guard; (case hb => (simp only [push_cast, seval]; rfl)))); all_goals ((intro hc; first | (exfalso; simp only [push_cast, seval, *] at hc; done) | (exact absurd hc (by decide)) | ((try first | rw [Bool.not_true] at hc | rw [Bool.not_false] at hc); first | (with_reducible replace hc := tTT hc); clear hc | (with_reducible replace hc := tFF hc); clear hc | (have hp := hc; try simp only [decide_eq_true_eq, decide_eq_false_iff_not, bA, bB, bC, bD, bE, bF, bG, bH] at hp))) <;> try simp only [push_cast, seval, *]))
    | (refine Kn.go hK ?_; clear hK K)
    | refine Kn.go (by assumption) ?_
    | (intro n hn; (try simp only [upd_none2, join_none_iff, ite_none, ne_eq] at hn); (try simp only [push_cast, seval, *]))
    | (intro hc)
    | (apply ER_blk; (case hp => rfl); (case hb => (simp only [push_cast, seval]; rfl)); (case hd => (simp only [push_cast, seval]; done)); (case h => (intro hc; simp only [push_cast, seval, *]; rfl)); simp only [push_cast, seval, *])
    | fail)
    exact ⟨_, _, Weak.refl _ _, rfl⟩
  repeat' (first
    | refine AW_seq_kn fun K hK => ?_
    | refine AW_block ?_
    | (refine does_call rfl rfl ?_; simp only [push_cast, seval, *]; refine ACall.monoP (wakes22_p _) ?_; (try simp only [push_cast, seval, *]))
    | ((first
      | refine AW_region_draw (id := 10) E0 (fun f => [].contains f) dLDL0 dADL0 mixed (by kernel_rfl) ?_
      | refine AW_region E0 ?_ | refine AW_ret ?_ | refine AW_exit ?_ | refine AW_skip ?_ | unfold retQ); try simp only [push_cast, seval, *])
    | ((first | (apply AW_cond; (case hc => (simp only [push_cast, seval]; rfl))) | (apply ER_guard; (case hb => (simp only [push_cast, seval]; rfl)))); all_goals ((intro hc; first | (exfalso; simp only [push_cast, seval, *] at hc; done) | (exact absurd hc (by decide)) | ((try first | rw [Bool.not_true] at hc | rw [Bool.not_false] at hc); first | (with_reducible replace hc := tTT hc); clear hc | (with_reducible replace hc := tFF hc); clear hc | (have hp := hc; try simp only [decide_eq_true_eq, decide_eq_false_iff_not, bA, bB, bC, bD, bE, bF, bG, bH] at hp))) <;> try simp only [push_cast, seval, *]))
    | (refine Kn.go hK ?_; clear hK K)
    | refine Kn.go (by assumption) ?_
    | (intro n hn; (try simp only [upd_none2, join_none_iff, ite_none, ne_eq] at hn); (try simp only [push_cast, seval, *]))
    | (intro hc)
    | (apply ER_blk; (case hp => rfl); (case hb => (simp only [push_cast, seval]; rfl)); (case hd => (simp only [push_cast, seval]; done)); (case h => (intro hc; simp only [push_cast, seval, *]; rfl)); simp only [push_cast, seval, *])
    | fail)
  refine AW_loopX (σ := Cd) ops.length (fun _ s => s.good ∧ s.small) (fun k s => [(5, .p n5 6 0 0), (19, .l 8 (ops.map Op22.av)), (20, ci ops.length), (21, ci k)]) (fun _ s => upd H n5 (.r 30 6 1 [Cd.av s])) ⟨y0, y1, y2, y3, y4, yl⟩ (unhid hs0) ?_ ?_ ?_ ?_
  · (first | trivial | (simp only [push_cast, seval, *]; done))
  · exact hle_upd2 (le_upd_new h2) _ _
  · clear hs0
    clear x0 x1 x2 x3 x4 xl y0 y1 y2 y3 y4 yl
    rintro k s hk ⟨hsg, hsm⟩
    have ho := List.getElem?_eq_getElem (l := ops) hk; generalize ops[k] = o at ho; have hom := List.mem_of_getElem? ho; have hkl : (k : Int) < ops.length := (by omega); have hkw : IntKind.i64.wrap ((k : Int) + 1) = (k : Int) + 1 := wrap_i64 (by omega) (by omega)
    have hgo := unhid hog o hom
    have hob : o.ack.bytes.length ≤ maxLen := hgo.2.2.2.2.2.2.1
    have hsh := short_p s hsg
    rw [small_eq hsm] at hsh
    have hru := fun M => run_o o hob s hsg.2.1 hsg.fits M
    have hwa := wants_p o hob s hsg.2.1 hsg.fits
    obtain ⟨rg, rs, ra1, ra2, rgl⟩ := run_good o hgo.2.2.2.2.2 s hsg hsm
    have hsl := refSame_p s s hsg.fine hsg.fine
    rw [decide_eq_true rfl] at hsl
    generalize runS o s = R at *
    have hcp := Copy_p R.c rs
    have hsR := refSame_p R.c R.c rg.fine rg.fine
    rw [decide_eq_true rfl] at hsR
    have hsA := refSameAcks_p R.acks R.acks (by unfold maxLen; omega) (by unfold maxLen; omega) (fun a ha => (ra2 a ha).1) (fun a ha => (ra2 a ha).1)
    rw [decide_eq_true rfl] at hsA
    have hsN := sameNum_p R.gone R.gone (by unfold maxLen; omega) (by unfold maxLen; omega)
    rw [decide_eq_true rfl] at hsN
    have hspo := fun y A G h => spoil_a R.c.pend R.c (by have := rs.1; omega) (fun p hp => ⟨by have := (rs.2 p hp).1; omega, fun a ha => by have := (rs.2 p hp).2 a ha; omega⟩) y A G h
    have lC := fun (y : AV) S (hL : Lent S y (.l 4 (R.c.pend.map Pd.av))) (ho : y.one = true) M (hM : Heap.le S M) => ACall.lend (H := M) (args := [.g (R.c.cl y), .g R.c.av]) (args' := [.g R.c.av, .g R.c.av]) (Flat.c _) (show Lent _ _ _ ∧ Lent _ _ _ ∧ True from ⟨lent_cl hL ho hM, Lent.refl _ _, trivial⟩) hsR.cl
    have lA := fun (y : AV) S (hL : Lent S y (.l 2 (R.acks.map Ak.av))) M (hM : Heap.le S M) => ACall.lend (H := M) (args := [y, .l 2 (R.acks.map Ak.av)]) (args' := [.l 2 (R.acks.map Ak.av), .l 2 (R.acks.map Ak.av)]) (Flat.c _) (show Lent _ _ _ ∧ Lent _ _ _ ∧ True from ⟨hL.mono hM, Lent.refl _ _, trivial⟩) hsA.cl
    have lN := fun (y : AV) S (hL : Lent S y (.l 1 (R.gone.map iu))) M (hM : Heap.le S M) => ACall.lend (H := M) (args := [y, .l 1 (R.gone.map iu)]) (args' := [.l 1 (R.gone.map iu), .l 1 (R.gone.map iu)]) (Flat.c _) (show Lent _ _ _ ∧ Lent _ _ _ ∧ True from ⟨hL.mono hM, Lent.refl _ _, trivial⟩) hsN.cl
    obtain ⟨kd, at_, now, sv, ts, an, ⟨ta, bs⟩⟩ := o
    have hav : Op22.av ⟨kd, at_, now, sv, ts, an, ⟨ta, bs⟩⟩ = [.c (.int .i64 kd), .c (.int .i64 at_), .c (.int .i64 now), .c (.bool sv), .c (.int .i64 ts), .c (.int .i64 an), .c (.int .i64 ta), .l 1 (bs.map by1)] := rfl
    obtain ⟨a, b, c, d, e, f⟩ := s
    obtain ⟨⟨a', b', c', d', e', f'⟩, Rn, Rall, Rak, Rgo, Re⟩ := R
    simp only [Told.cl, Told.av, ownT] at hru hwa
    simp only [Cd.cl] at lC
    simp only [hlv, hav] at hru hsh hwa hcp lC hsl lA lN ⊢
    simp only at hspo ra1 rgl
    clear hgo hom hsR hsA hsN hob
    replace hsm := Lib.hid hsm
    replace hsg := Lib.hid hsg
    replace rg := Lib.hid rg
    replace rs := Lib.hid rs
    replace ra2 := Lib.hid ra2
    by_cases h40 : (k : Int) = 40
    · have e40 : k = 40 := by omega
      have ho40 := ho
      rw [e40] at ho40
      clear e40
      have hl40 : (40 : Int) < ops.length := by omega
      clear hru hsh hwa hcp lC lA lN hsl hspo
      repeat' (first
    | refine AW_seq_kn fun K hK => ?_
    | refine AW_block ?_
    | (refine does_call rfl rfl ?_; simp only [push_cast, seval, *]; refine ACall.monoP (wakes22_p _) ?_; (try simp only [push_cast, seval, *]))
    | ((first
      | refine AW_region_draw (id := 10) E0 (fun f => [].contains f) dLDL0 dADL0 mixed (by kernel_rfl) ?_
      | refine AW_region E0 ?_ | refine AW_ret ?_ | refine AW_exit ?_ | refine AW_skip ?_ | unfold retQ); try simp only [push_cast, seval, *])
    | ((first | (apply AW_cond; (case hc => (simp only [push_cast, seval]; rfl))) | (apply ER_guard; (case hb => (simp only [push_cast, seval]; rfl)))); all_goals ((intro hc; first | (exfalso; simp only [push_cast, seval, *] at hc; done) | (exact absurd hc (by decide)) | ((try first | rw [Bool.not_true] at hc | rw [Bool.not_false] at hc); first | (with_reducible replace hc := tTT hc); clear hc | (with_reducible replace hc := tFF hc); clear hc | (have hp := hc; try simp only [decide_eq_true_eq, decide_eq_false_iff_not, bA, bB, bC, bD, bE, bF, bG, bH] at hp))) <;> try simp only [push_cast, seval, *]))
    | (refine Kn.go hK ?_; clear hK K)
    | refine Kn.go (by assumption) ?_
    | (intro n hn; (try simp only [upd_none2, join_none_iff, ite_none, ne_eq] at hn); (try simp only [push_cast, seval, *]))
    | (intro hc)
    | (apply ER_blk; (case hp => rfl); (case hb => (simp only [push_cast, seval]; rfl)); (case hd => (simp only [push_cast, seval]; done)); (case h => (intro hc; simp only [push_cast, seval, *]; rfl)); simp only [push_cast, seval, *])
    | fail)
      exact ⟨trivial, by first | trivial | (first | trivial | (simp only [push_cast, seval, *]; done)), by first | trivial | exact fun q u h => by cases h⟩
    replace hru := Lib.hid hru
    replace hspo := Lib.hid hspo
    replace lC := Lib.hid lC
    replace lA := Lib.hid lA
    replace lN := Lib.hid lN
    repeat' (first
    | refine AW_seq_kn fun K hK => ?_
    | refine AW_block ?_
    | (refine does_call rfl rfl ?_; simp only [push_cast, seval, *]; refine ACall.monoP (hsh _) ?_; (try simp only [push_cast, seval, *]))
    | (refine does_call rfl rfl ?_; simp only [push_cast, seval, *]; refine ACall.monoP (wakes22_p _) ?_; (try simp only [push_cast, seval, *]))
    | ((first
      | refine AW_region_draw (id := 10) E0 (fun f => [].contains f) dLDL0 dADL0 mixed (by kernel_rfl) ?_
      | refine AW_region E0 ?_ | refine AW_ret ?_ | refine AW_exit ?_ | refine AW_skip ?_ | unfold retQ); try simp only [push_cast, seval, *])
    | ((first | (apply AW_cond; (case hc => (simp only [push_cast, seval]; rfl))) | (apply ER_guard; (case hb => (simp only [push_cast, seval]; rfl)))); all_goals ((intro hc; first | (exfalso; simp only [push_cast, seval, *] at hc; done) | (exact absurd hc (by decide)) | ((try first | rw [Bool.not_true] at hc | rw [Bool.not_false] at hc); first | (with_reducible replace hc := tTT hc); clear hc | (with_reducible replace hc := tFF hc); clear hc | (have hp := hc; try simp only [decide_eq_true_eq, decide_eq_false_iff_not, bA, bB, bC, bD, bE, bF, bG, bH] at hp))) <;> try simp only [push_cast, seval, *]))
    | (refine Kn.go hK ?_; clear hK K)
    | refine Kn.go (by assumption) ?_
    | (intro n hn; (try simp only [upd_none2, join_none_iff, ite_none, ne_eq] at hn); (try simp only [push_cast, seval, *]))
    | (intro hc)
    | (apply ER_blk; (case hp => rfl); (case hb => (simp only [push_cast, seval]; rfl)); (case hd => (simp only [push_cast, seval]; done)); (case h => (intro hc; simp only [push_cast, seval, *]; rfl)); simp only [push_cast, seval, *])
    | fail)
    rename_i n7 h7
    generalize n = n8 at *
    have x75 : ¬ n7 = n5 := h7.1.1
    have x57 : ¬ n5 = n7 := h7.1.2
    have x87 : ¬ n8 = n7 := hn.1.1
    have x78 : ¬ n7 = n8 := hn.1.2
    have x85 : ¬ n8 = n5 := hn.2.1.1
    have x58 : ¬ n5 = n8 := hn.2.1.2
    have g7n : H n7 = none := h7.2
    have g8n : H n8 = none := hn.2.2
    obtain ⟨bc, hbc⟩ : ∃ bc : Blk, bc = .r 30 6 1 [[.c (.int .u64 a), .c (.int .u64 b), .c (.int .i64 c), .c (.int .i64 d), .c (.int .i64 e), .l 4 (f.map Pd.av)]] := ⟨_, rfl⟩
    obtain ⟨bo, hbo⟩ : ∃ bo : Blk, bo = .r 49 8 1 [[.c (.int .i64 kd), .c (.int .i64 at_), .c (.int .i64 now), .c (.bool sv), .c (.int .i64 ts), .c (.int .i64 an), .c (.int .i64 ta), .l 1 (bs.map by1)]] := ⟨_, rfl⟩
    rw [← hbc, ← hbo]
    obtain ⟨G, hG⟩ : ∃ G : Heap, G = upd (upd (upd H n5 bc) n7 bo) n8 bc := ⟨_, rfl⟩
    have g5 : G n5 = some (.r 30 6 1 [[.c (.int .u64 a), .c (.int .u64 b), .c (.int .i64 c), .c (.int .i64 d), .c (.int .i64 e), .l 4 (f.map Pd.av)]]) := by rw [hG, upd_ne x58, upd_ne x57, upd_same, hbc]
    have g7 : G n7 = some (.r 49 8 1 [[.c (.int .i64 kd), .c (.int .i64 at_), .c (.int .i64 now), .c (.bool sv), .c (.int .i64 ts), .c (.int .i64 an), .c (.int .i64 ta), .l 1 (bs.map by1)]]) := by rw [hG, upd_ne x78, upd_same, hbo]
    have g8 : G n8 = some (.r 30 6 1 [[.c (.int .u64 a), .c (.int .u64 b), .c (.int .i64 c), .c (.int .i64 d), .c (.int .i64 e), .l 4 (f.map Pd.av)]]) := by rw [hG, upd_same, hbc]
    have hle5 : Heap.le (upd H n5 bc) G := by
      rw [hG]; exact Heap.le_trans (le_upd_new (by rw [upd_ne x75]; exact g7n)) (le_upd_new (by rw [upd_ne x87, upd_ne x85]; exact g8n))
    have hle : Heap.le H G := Heap.le_trans (le_upd_new g5n) hle5
    rw [← hG]
    clear hG h7 hn hbo
    refine does_call rfl rfl ?_
    simp only [push_cast, seval, *]
    refine ACall.mono (unhid hru G) ?_
    rintro _ S ⟨y, ya, g, rfl, H1, H2, hP, hL, hA⟩
    (try simp only at hP hL hA)
    have l2 := (OwnA_loc _ _).le hA
    have l1 := (Loc.own _ _ _ _).le hL
    have l0 := (OwnP_loc _ _).le hP
    have s5 := l0 _ _ (l1 _ _ (l2 _ _ g5))
    have s7 := l0 _ _ (l1 _ _ (l2 _ _ g7))
    have s8 := l0 _ _ (l1 _ _ (l2 _ _ g8))
    have u1 := hP.cs
    have w1 := hP.one
    have u2 := hL.cs
    have w2 := hL.one
    have u3 := hA.cs
    have w3 := hA.one
    have w3l := hA.len
    have kC := fun M hM => unhid lC y S (OwnP_lent hP) w1 M hM
    have kN := fun M hM => unhid lN g S ((OwnL.lent hL).mono l0) M hM
    have kA := fun M hM => unhid lA ya S ((OwnA_lent hA).mono (Heap.le_trans l1 l0)) M hM
    have o5 := ne_old s5
    have o7 := ne_old s7
    have o8 := ne_old s8
    replace hP := Lib.hid hP
    replace hL := Lib.hid hL
    replace hA := Lib.hid hA
    replace hle := Lib.hid hle
    replace hle5 := Lib.hid hle5
    replace kC := Lib.hid kC
    replace kN := Lib.hid kN
    replace kA := Lib.hid kA
    replace l0 := Lib.hid l0
    replace l1 := Lib.hid l1
    replace l2 := Lib.hid l2
    clear hru lC lA lN
    (try simp only [push_cast, seval, *])
    repeat' (first
    | refine AW_seq_kn fun K hK => ?_
    | refine AW_block ?_
    | (refine does_call rfl rfl ?_; simp only [push_cast, seval, *]; refine ACall.monoP (hsh _) ?_; (try simp only [push_cast, seval, *]))
    | (refine does_call rfl rfl ?_; simp only [push_cast, seval, *]; refine ACall.monoP (hwa _) ?_; (try simp only [push_cast, seval, *]))
    | (refine does_call rfl rfl ?_; simp only [push_cast, seval, *]; refine ACall.monoP (hsl _) ?_; (try simp only [push_cast, seval, *]))
    | (refine does_call rfl rfl ?_; simp only [push_cast, seval, *]; refine ACall.monoP (hcp _) ?_; (try simp only [push_cast, seval, *]))
    | (refine does_call rfl rfl ?_; simp only [push_cast, seval, *]; refine ACall.mono (unhid kA _ (by (repeat' (first | exact Heap.le_refl _ | refine hle_upd2 ?_ _ _ | (refine Heap.le_new ?_ ?_; rotate_left 1; focus (first | assumption | (simp only [upd_none2, upd_get, ne_eq, push_cast, seval, *]; done) | (simp [upd_get, *]; done))))))) ?_; (rintro _ _ ⟨rfl, e2⟩; have e3 := e2.symm; clear e2; subst e3); (try simp only [push_cast, seval, *]))
    | (refine does_call rfl rfl ?_; simp only [push_cast, seval, *]; refine ACall.mono (unhid kN _ (by (repeat' (first | exact Heap.le_refl _ | refine hle_upd2 ?_ _ _ | (refine Heap.le_new ?_ ?_; rotate_left 1; focus (first | assumption | (simp only [upd_none2, upd_get, ne_eq, push_cast, seval, *]; done) | (simp [upd_get, *]; done))))))) ?_; (rintro _ _ ⟨rfl, e2⟩; have e3 := e2.symm; clear e2; subst e3); (try simp only [push_cast, seval, *]))
    | (refine does_call rfl rfl ?_; simp only [push_cast, seval, *]; refine ACall.mono (unhid kC _ (by (repeat' (first | exact Heap.le_refl _ | refine hle_upd2 ?_ _ _ | (refine Heap.le_new ?_ ?_; rotate_left 1; focus (first | assumption | (simp only [upd_none2, upd_get, ne_eq, push_cast, seval, *]; done) | (simp [upd_get, *]; done))))))) ?_; (rintro _ _ ⟨rfl, e2⟩; have e3 := e2.symm; clear e2; subst e3); (try simp only [push_cast, seval, *]))
    | (refine does_call rfl rfl ?_; simp only [push_cast, seval, *]; refine ACall.monoP (wakes22_p _) ?_; (try simp only [push_cast, seval, *]))
    | ((first
      | refine AW_region_draw (id := 10) E0 (fun f => [].contains f) dLDL0 dADL0 mixed (by kernel_rfl) ?_
      | refine AW_region E0 ?_ | refine AW_ret ?_ | refine AW_exit ?_ | refine AW_skip ?_ | unfold retQ); try simp only [push_cast, seval, *])
    | ((first | (apply AW_cond; (case hc => (simp only [push_cast, seval]; rfl))) | (apply ER_guard; (case hb => (simp only [push_cast, seval]; rfl)))); all_goals ((intro hc; first | (exfalso; simp only [push_cast, seval, *] at hc; done) | (exact absurd hc (by decide)) | ((try first | rw [Bool.not_true] at hc | rw [Bool.not_false] at hc); first | (with_reducible replace hc := tTT hc); clear hc | (with_reducible replace hc := tFF hc); clear hc | (have hp := hc; try simp only [decide_eq_true_eq, decide_eq_false_iff_not, bA, bB, bC, bD, bE, bF, bG, bH] at hp))) <;> try simp only [push_cast, seval, *]))
    | (refine Kn.go hK ?_; clear hK K)
    | refine Kn.go (by assumption) ?_
    | (intro n hn; (try simp only [upd_none2, join_none_iff, ite_none, ne_eq] at hn); (try simp only [push_cast, seval, *]))
    | (intro hc)
    | (apply ER_blk; (case hp => rfl); (case hb => (simp only [push_cast, seval]; rfl)); (case hd => (simp only [push_cast, seval]; done)); (case h => (intro hc; simp only [push_cast, seval, *]; rfl)); simp only [push_cast, seval, *])
    | fail)
    rename_i n9 h9 n10 h10
    generalize n = n11 at *
    have d109 : ¬ n10 = n9 := h10.1.1
    have d910 : ¬ n9 = n10 := h10.1.2
    have d1110 : ¬ n11 = n10 := hn.1.1
    have d1011 : ¬ n10 = n11 := hn.1.2
    have d119 : ¬ n11 = n9 := hn.2.1.1
    have d911 : ¬ n9 = n11 := hn.2.1.2
    have S9 : S n9 = none := h9
    have S10 : S n10 = none := h10.2
    have S11 : S n11 = none := hn.2.2
    obtain ⟨c9, hc9⟩ : ∃ c9 : Blk, c9 = .r 52 11 1 [[.c (.int .u64 a'), .c (.int .u64 b'), .c (.int .i64 c'), .c (.int .i64 d'), .c (.int .i64 e'), y, .c (.int .u64 Rn), .c (.bool Rall), ya, g, .c (.int .i64 Re)]] := ⟨_, rfl⟩
    obtain ⟨c10, hc10⟩ : ∃ c10 : Blk, c10 = .r 52 11 1 [[.c (.int .u64 a'), .c (.int .u64 b'), .c (.int .i64 c'), .c (.int .i64 d'), .c (.int .i64 e'), .l 4 (f'.map Pd.av), .c (.int .u64 Rn), .c (.bool Rall), .l 2 (Rak.map Ak.av), .l 1 (Rgo.map iu), .c (.int .i64 Re)]] := ⟨_, rfl⟩
    obtain ⟨c11, hc11⟩ : ∃ c11 : Blk, c11 = .r 30 6 1 [[.c (.int .u64 a'), .c (.int .u64 b'), .c (.int .i64 c'), .c (.int .i64 d'), .c (.int .i64 e'), .l 4 (f'.map Pd.av)]] := ⟨_, rfl⟩
    have T10 : upd S n9 c9 n10 = none := by rw [upd_ne d109]; exact S10
    have T11 : upd (upd S n9 c9) n10 c10 n11 = none := by rw [upd_ne d1110, upd_ne d119]; exact S11
    have hP3 := (OwnP_loc _ _).new ((OwnP_loc _ _).new ((OwnP_loc _ _).new (unhid hP) S9 c9) T10 c10) T11 c11
    have H19 := le_no (unhid l0) S9
    have H110 := le_no (unhid l0) S10
    have H111 := le_no (unhid l0) S11
    have H29 := le_no (unhid l1) H19
    have H210 := le_no (unhid l1) H110
    have H211 := le_no (unhid l1) H111
    have G9 := le_no (unhid l2) H29
    have G10 := le_no (unhid l2) H210
    have G11 := le_no (unhid l2) H211
    have hA3 := (OwnA_loc _ _).new ((OwnA_loc _ _).new ((OwnA_loc _ _).new (unhid hA) H29 c9) (show upd H2 n9 c9 n10 = none by rw [upd_ne d109]; exact H210) c10) (show upd (upd H2 n9 c9) n10 c10 n11 = none by rw [upd_ne d1110, upd_ne d119]; exact H211) c11
    have hX : Heap.le (upd (upd (upd H2 n9 c9) n10 c10) n11 c11) (upd (upd (upd H1 n9 c9) n10 c10) n11 c11) := le_both (le_both (le_both (unhid l1)))
    obtain ⟨GB, hGB⟩ : ∃ GB, GB = upd (upd (upd G n9 c9) n10 c10) n11 c11 := ⟨_, rfl⟩
    obtain ⟨X, hXX⟩ : ∃ X, X = upd (upd (upd H2 n9 c9) n10 c10) n11 c11 := ⟨_, rfl⟩
    rw [← hGB, ← hXX] at hA3
    rw [← hXX] at hX
    have gb5 : GB n5 = some (.r 30 6 1 [[.c (.int .u64 a), .c (.int .u64 b), .c (.int .i64 c), .c (.int .i64 d), .c (.int .i64 e), .l 4 (f.map Pd.av)]]) := by
      rw [hGB, upd_ne (of_eq_false (o5 n11 S11).1), upd_ne (of_eq_false (o5 n10 S10).1), upd_ne (of_eq_false (o5 n9 S9).1)]; exact g5
    have gb8 : GB n8 = some (.r 30 6 1 [[.c (.int .u64 a), .c (.int .u64 b), .c (.int .i64 c), .c (.int .i64 d), .c (.int .i64 e), .l 4 (f.map Pd.av)]]) := by
      rw [hGB, upd_ne (of_eq_false (o8 n11 S11).1), upd_ne (of_eq_false (o8 n10 S10).1), upd_ne (of_eq_false (o8 n9 S9).1)]; exact g8
    have gb9 : GB n9 = some (.r 52 11 1 [[.c (.int .u64 a'), .c (.int .u64 b'), .c (.int .i64 c'), .c (.int .i64 d'), .c (.int .i64 e'), y, .c (.int .u64 Rn), .c (.bool Rall), ya, g, .c (.int .i64 Re)]]) := by rw [hGB, upd_ne d911, upd_ne d910, upd_same, hc9]
    have gb11 : GB n11 = some (.r 30 6 1 [[.c (.int .u64 a'), .c (.int .u64 b'), .c (.int .i64 c'), .c (.int .i64 d'), .c (.int .i64 e'), .l 4 (f'.map Pd.av)]]) := by rw [hGB, upd_same, hc11]
    have hGG : Heap.le G GB := by
      rw [hGB]
      exact le_skip (le_skip (le_skip (Heap.le_refl _) G9) G10) G11
    have f1 := Heap.le_trans (unhid hle5) hGG
    have f2 := Heap.le_trans (unhid hle) hGG
    rw [hc9, hc10, hc11] at hP3
    refine does_call rfl rfl ?_
    simp only [push_cast, seval, *]
    refine ACall.mono (unhid hspo y _ _ hP3) ?_
    intro rr A' hle'
    rw [← hc9, ← hc10, ← hc11] at hle'
    have hXA := Heap.le_trans hX hle'
    have hGA := Heap.le_trans ((OwnA_loc _ _).le hA3) hXA
    have a5 := hGA _ _ gb5
    have a8 := hGA _ _ gb8
    have a9 := hGA _ _ gb9
    have a11 := hGA _ _ gb11
    replace f1 := Lib.hid f1
    replace f2 := Lib.hid f2
    replace hXA := Lib.hid hXA
    replace hA3 := Lib.hid hA3
    clear hX hXX hGB hGG hGA hle' hP3 hP hL hA H19 H110 H111 H29 H210 H211 G9 G10 G11 T10 T11 S9 S10 S11 h9 h10 hn hc9 hc10 hc11 s5 s7 s8 o5 o7 o8 hspo kA kN kC l0 l1 l2 hwa hsh hcp g7 g5 g8 hle hle5 u1 w1 u2 w2
    obtain ⟨m, hm⟩ : ∃ m, m = Rak.length := ⟨_, rfl⟩
    rw [← hm] at w3l ra1
    replace hm := Lib.hid hm
    (try simp only [push_cast, seval, *])
    repeat' (first
    | refine AW_seq_kn fun K hK => ?_
    | refine AW_block ?_
    | (refine does_call rfl rfl ?_; simp only [push_cast, seval, *]; refine ACall.monoP (wakes22_p _) ?_; (try simp only [push_cast, seval, *]))
    | ((first
      | refine AW_region_draw (id := 10) E0 (fun f => [].contains f) dLDL0 dADL0 mixed (by kernel_rfl) ?_
      | refine AW_region E0 ?_ | refine AW_ret ?_ | refine AW_exit ?_ | refine AW_skip ?_ | unfold retQ); try simp only [push_cast, seval, *])
    | ((first | (apply AW_cond; (case hc => (simp only [push_cast, seval]; rfl))) | (apply ER_guard; (case hb => (simp only [push_cast, seval]; rfl)))); all_goals ((intro hc; first | (exfalso; simp only [push_cast, seval, *] at hc; done) | (exact absurd hc (by decide)) | ((try first | rw [Bool.not_true] at hc | rw [Bool.not_false] at hc); first | (with_reducible replace hc := tTT hc); clear hc | (with_reducible replace hc := tFF hc); clear hc | (have hp := hc; try simp only [decide_eq_true_eq, decide_eq_false_iff_not, bA, bB, bC, bD, bE, bF, bG, bH] at hp))) <;> try simp only [push_cast, seval, *]))
    | (refine Kn.go hK ?_; clear hK K)
    | refine Kn.go (by assumption) ?_
    | (intro n hn; (try simp only [upd_none2, join_none_iff, ite_none, ne_eq] at hn); (try simp only [push_cast, seval, *]))
    | (intro hc)
    | (apply ER_blk; (case hp => rfl); (case hb => (simp only [push_cast, seval]; rfl)); (case hd => (simp only [push_cast, seval]; done)); (case h => (intro hc; simp only [push_cast, seval, *]; rfl)); simp only [push_cast, seval, *])
    | fail)
    refine AW_less (unhid hXA) ?_
    refine AW_loopX (σ := List Ak × Heap) m (fun _ s => OwnA ya s.1 s.2 GB ∧ shpA s.1 = shpA Rak) (fun i _ => [(5, .p n5 6 0 0), (8, .p n8 6 0 0), (9, .p n9 11 0 0), (11, .p n11 6 0 0), (19, .l 8 (ops.map Op22.av)), (20, ci ops.length), (21, ci k), (93, ya), (94, ci m), (95, ci i)]) (fun _ s => s.2) (Rak, X) ⟨unhid hA3, rfl⟩ ?_ ?_ ?_ ?_
    · (first | trivial | (simp only [push_cast, seval, *]; done))
    · exact Heap.le_refl _
    · clear a5 a8 a9 a11 hA3 hXA
      rintro i ⟨l1, T⟩ hi ⟨hT, hsh⟩
      simp only at hT hsh ⊢
      have hil : (i : Int) < m := (by omega); have hiw : IntKind.i64.wrap ((i : Int) + 1) = (i : Int) + 1 := wrap_i64 (by omega) (by omega)
      have q1 : l1.length = m := by rw [unhid hm]; exact shpA_len hsh
      obtain ⟨w, hw⟩ := at_some (l := l1) (i := i) (by omega)
      obtain ⟨w0, hw0⟩ := at_some (l := Rak) (i := i) (by have := unhid hm; omega)
      have hwl : w.bytes.length ≤ 3001 := by rw [shpA_at hsh hw0 hw]; exact (unhid ra2 w0 (List.mem_of_getElem? hw0)).2
      obtain ⟨na, cap, R2, z, ey, hR2l, hR2k, sna, zcs, zone, zlen, hK2, -, hbyte⟩ := hT.parts hw
      rw [q1] at ey
      obtain ⟨wt, wb⟩ := w
      simp only at hR2k zlen hbyte hwl
      clear hw0 u3 w3 w3l
      by_cases hq0 : wb = []
      · subst hq0
        simp only [List.length_nil] at zlen
        have zlen2 : lenV z = some ((0 : Nat)) := zlen
        replace hT := Lib.hid hT
        replace hsh := Lib.hid hsh
        clear hbyte hw hR2l hK2 q1
        subst ey
        repeat' (first
    | refine AW_seq_kn fun K hK => ?_
    | refine AW_block ?_
    | (refine does_call rfl rfl ?_; simp only [push_cast, seval, *]; refine ACall.monoP (wakes22_p _) ?_; (try simp only [push_cast, seval, *]))
    | ((first
      | refine AW_region_draw (id := 10) E0 (fun f => [].contains f) dLDL0 dADL0 mixed (by kernel_rfl) ?_
      | refine AW_region E0 ?_ | refine AW_ret ?_ | refine AW_exit ?_ | refine AW_skip ?_ | unfold retQ); try simp only [push_cast, seval, *])
    | ((first | (apply AW_cond; (case hc => (simp only [push_cast, seval]; rfl))) | (apply ER_guard; (case hb => (simp only [push_cast, seval]; rfl)))); all_goals ((intro hc; first | (exfalso; simp only [push_cast, seval, *] at hc; done) | (exact absurd hc (by decide)) | ((try first | rw [Bool.not_true] at hc | rw [Bool.not_false] at hc); first | (with_reducible replace hc := tTT hc); clear hc | (with_reducible replace hc := tFF hc); clear hc | (have hp := hc; try simp only [decide_eq_true_eq, decide_eq_false_iff_not, bA, bB, bC, bD, bE, bF, bG, bH] at hp))) <;> try simp only [push_cast, seval, *]))
    | (refine Kn.go hK ?_; clear hK K)
    | refine Kn.go (by assumption) ?_
    | (intro n hn; (try simp only [upd_none2, join_none_iff, ite_none, ne_eq] at hn); (try simp only [push_cast, seval, *]))
    | (intro hc)
    | (apply ER_blk; (case hp => rfl); (case hb => (simp only [push_cast, seval]; rfl)); (case hd => (simp only [push_cast, seval]; done)); (case h => (intro hc; simp only [push_cast, seval, *]; rfl)); simp only [push_cast, seval, *])
    | fail)
        generalize n = n13 at *
        refine AW_loopN 0 (fun _ => True) (fun j => [(5, .p n5 6 0 0), (8, .p n8 6 0 0), (9, .p n9 11 0 0), (11, .p n11 6 0 0), (13, .p n13 2 0 0), (19, .l 8 (ops.map Op22.av)), (20, ci ops.length), (21, ci k), (93, .s na 2 0 m cap), (94, ci m), (95, ci i), (101, ci 0), (102, ci j)]) (fun _ => _) trivial ?_ (Heap.le_refl _) ?_ ?_
        · (first | trivial | (simp only [push_cast, seval, *]; done))
        · intro j hj; omega
        · intro _
          repeat' (first
    | refine AW_seq_kn fun K hK => ?_
    | refine AW_block ?_
    | (refine does_call rfl rfl ?_; simp only [push_cast, seval, *]; refine ACall.monoP (wakes22_p _) ?_; (try simp only [push_cast, seval, *]))
    | ((first
      | refine AW_region_draw (id := 10) E0 (fun f => [].contains f) dLDL0 dADL0 mixed (by kernel_rfl) ?_
      | refine AW_region E0 ?_ | refine AW_ret ?_ | refine AW_exit ?_ | refine AW_skip ?_ | unfold retQ); try simp only [push_cast, seval, *])
    | ((first | (apply AW_cond; (case hc => (simp only [push_cast, seval]; rfl))) | (apply ER_guard; (case hb => (simp only [push_cast, seval]; rfl)))); all_goals ((intro hc; first | (exfalso; simp only [push_cast, seval, *] at hc; done) | (exact absurd hc (by decide)) | ((try first | rw [Bool.not_true] at hc | rw [Bool.not_false] at hc); first | (with_reducible replace hc := tTT hc); clear hc | (with_reducible replace hc := tFF hc); clear hc | (have hp := hc; try simp only [decide_eq_true_eq, decide_eq_false_iff_not, bA, bB, bC, bD, bE, bF, bG, bH] at hp))) <;> try simp only [push_cast, seval, *]))
    | (refine Kn.go hK ?_; clear hK K)
    | refine Kn.go (by assumption) ?_
    | (intro n hn; (try simp only [upd_none2, join_none_iff, ite_none, ne_eq] at hn); (try simp only [push_cast, seval, *]))
    | (intro hc)
    | (apply ER_blk; (case hp => rfl); (case hb => (simp only [push_cast, seval]; rfl)); (case hd => (simp only [push_cast, seval]; done)); (case h => (intro hc; simp only [push_cast, seval, *]; rfl)); simp only [push_cast, seval, *])
    | fail)
          exact ⟨(l1, T), ⟨unhid hT, unhid hsh⟩, by (first | trivial | (simp only [push_cast, seval, *]; done)), le_upd_new hn⟩
      · obtain ⟨nz, cz, ez, snz, nzna, hKz, hby⟩ := hbyte hq0
        have hfin : ∀ s : List Int, s.length = wb.length → OwnA (.s na 2 0 m cap) (l1.set i ⟨wt, s⟩) (upd T nz (.r 5 1 cz (s.map by1))) GB ∧ shpA (l1.set i ⟨wt, s⟩) = shpA Rak := fun s hs => ⟨by rw [← ey]; exact hby s hs, (shpA_set (a' := ⟨wt, s⟩) hw hs).trans hsh⟩
        have onz := ne_old snz
        replace hfin := Lib.hid hfin
        have hbI : (wb.length : Int) ≤ 3001 := by omega
        clear hbyte hby hw hR2l hK2 hKz q1 hq0 hT hsh
        subst ey
        subst ez
        repeat' (first
    | refine AW_seq_kn fun K hK => ?_
    | refine AW_block ?_
    | (refine does_call rfl rfl ?_; simp only [push_cast, seval, *]; refine ACall.monoP (wakes22_p _) ?_; (try simp only [push_cast, seval, *]))
    | ((first
      | refine AW_region_draw (id := 10) E0 (fun f => [].contains f) dLDL0 dADL0 mixed (by kernel_rfl) ?_
      | refine AW_region E0 ?_ | refine AW_ret ?_ | refine AW_exit ?_ | refine AW_skip ?_ | unfold retQ); try simp only [push_cast, seval, *])
    | ((first | (apply AW_cond; (case hc => (simp only [push_cast, seval]; rfl))) | (apply ER_guard; (case hb => (simp only [push_cast, seval]; rfl)))); all_goals ((intro hc; first | (exfalso; simp only [push_cast, seval, *] at hc; done) | (exact absurd hc (by decide)) | ((try first | rw [Bool.not_true] at hc | rw [Bool.not_false] at hc); first | (with_reducible replace hc := tTT hc); clear hc | (with_reducible replace hc := tFF hc); clear hc | (have hp := hc; try simp only [decide_eq_true_eq, decide_eq_false_iff_not, bA, bB, bC, bD, bE, bF, bG, bH] at hp))) <;> try simp only [push_cast, seval, *]))
    | (refine Kn.go hK ?_; clear hK K)
    | refine Kn.go (by assumption) ?_
    | (intro n hn; (try simp only [upd_none2, join_none_iff, ite_none, ne_eq] at hn); (try simp only [push_cast, seval, *]))
    | (intro hc)
    | (apply ER_blk; (case hp => rfl); (case hb => (simp only [push_cast, seval]; rfl)); (case hd => (simp only [push_cast, seval]; done)); (case h => (intro hc; simp only [push_cast, seval, *]; rfl)); simp only [push_cast, seval, *])
    | fail)
        generalize n = n13 at *
        have nz13 : ¬ nz = n13 := of_eq_false (onz n13 hn).1
        have nz13' : ¬ n13 = nz := of_eq_false (onz n13 hn).2
        have hT13 : T n13 = none := hn
        clear onz hn
        replace hT13 := Lib.hid hT13
        refine AW_loopX (σ := List Int) wb.length (fun _ s => s.length = wb.length) (fun j s => [(5, .p n5 6 0 0), (8, .p n8 6 0 0), (9, .p n9 11 0 0), (11, .p n11 6 0 0), (13, .p n13 2 0 0), (19, .l 8 (ops.map Op22.av)), (20, ci ops.length), (21, ci k), (93, .s na 2 0 m cap), (94, ci m), (95, ci i), (101, ci wb.length), (102, ci j)]) (fun _ s => upd (upd T n13 (.r 47 2 1 [[.c (.int .i64 wt), .s nz 1 0 wb.length cz]])) nz (.r 5 1 cz (s.map by1))) wb rfl ?_ ?_ ?_ ?_
        · (first | trivial | (simp only [push_cast, seval, *]; done))
        · intro q b hq
          by_cases c1 : q = nz
          · subst c1; rw [upd_same] at hq; rw [upd_ne nz13, snz]; exact hq
          · rw [upd_ne c1] at hq; exact hq
        · rintro j s hj hs
          have hkI : (j : Int) < wb.length := by omega
          have hjw : IntKind.i64.wrap ((j : Int) + 1) = (j : Int) + 1 := wrap_i64 (by omega) (by omega)
          obtain ⟨v, hv⟩ : ∃ v, s[j]? = some v := ⟨_, List.getElem?_eq_getElem (by omega)⟩
          have hrv : (s.map by1)[j]? = some [.c (.int .u8 v)] := by rw [List.getElem?_map, hv]; rfl
          have hsl : (s.map by1).length = wb.length := by rw [List.length_map]; exact hs
          have hset : ∀ u, (s.map by1).set j [.c (.int .u8 u)] = (s.set j u).map by1 := fun u => by rw [List.map_set]; rfl
          generalize hrr : s.map by1 = RR at *
          replace hrr := Lib.hid hrr
          replace hset := Lib.hid hset
          replace hs := Lib.hid hs
          clear hv
          repeat' (first
    | refine AW_seq_kn fun K hK => ?_
    | refine AW_block ?_
    | (refine does_call rfl rfl ?_; simp only [push_cast, seval, *]; refine ACall.monoP (wakes22_p _) ?_; (try simp only [push_cast, seval, *]))
    | ((first
      | refine AW_region_draw (id := 10) E0 (fun f => [].contains f) dLDL0 dADL0 mixed (by kernel_rfl) ?_
      | refine AW_region E0 ?_ | refine AW_ret ?_ | refine AW_exit ?_ | refine AW_skip ?_ | unfold retQ); try simp only [push_cast, seval, *])
    | ((first | (apply AW_cond; (case hc => (simp only [push_cast, seval]; rfl))) | (apply ER_guard; (case hb => (simp only [push_cast, seval]; rfl)))); all_goals ((intro hc; first | (exfalso; simp only [push_cast, seval, *] at hc; done) | (exact absurd hc (by decide)) | ((try first | rw [Bool.not_true] at hc | rw [Bool.not_false] at hc); first | (with_reducible replace hc := tTT hc); clear hc | (with_reducible replace hc := tFF hc); clear hc | (have hp := hc; try simp only [decide_eq_true_eq, decide_eq_false_iff_not, bA, bB, bC, bD, bE, bF, bG, bH] at hp))) <;> try simp only [push_cast, seval, *]))
    | (refine Kn.go hK ?_; clear hK K)
    | refine Kn.go (by assumption) ?_
    | (intro n hn; (try simp only [upd_none2, join_none_iff, ite_none, ne_eq] at hn); (try simp only [push_cast, seval, *]))
    | (intro hc)
    | (apply ER_blk; (case hp => rfl); (case hb => (simp only [push_cast, seval]; rfl)); (case hd => (simp only [push_cast, seval]; done)); (case h => (intro hc; simp only [push_cast, seval, *]; rfl)); simp only [push_cast, seval, *])
    | fail)
          refine ⟨s.set j (bits .xor .u8 v 238), by simp [unhid hs], by (first | trivial | (simp only [push_cast, seval, *]; done)), ?_⟩
          rw [← unhid hset]
          exact Heap.le_refl _
        · rintro s hs
          have hf := unhid hfin s hs
          have hlb : Heap.le (upd T nz (.r 5 1 cz (s.map by1))) (upd (upd T n13 (.r 47 2 1 [[.c (.int .i64 wt), .s nz 1 0 wb.length cz]])) nz (.r 5 1 cz (s.map by1))) := le_both (le_upd_new (unhid hT13))
          replace hf := Lib.hid hf
          replace hlb := Lib.hid hlb
          clear hfin
          repeat' (first
    | refine AW_seq_kn fun K hK => ?_
    | refine AW_block ?_
    | (refine does_call rfl rfl ?_; simp only [push_cast, seval, *]; refine ACall.monoP (wakes22_p _) ?_; (try simp only [push_cast, seval, *]))
    | ((first
      | refine AW_region_draw (id := 10) E0 (fun f => [].contains f) dLDL0 dADL0 mixed (by kernel_rfl) ?_
      | refine AW_region E0 ?_ | refine AW_ret ?_ | refine AW_exit ?_ | refine AW_skip ?_ | unfold retQ); try simp only [push_cast, seval, *])
    | ((first | (apply AW_cond; (case hc => (simp only [push_cast, seval]; rfl))) | (apply ER_guard; (case hb => (simp only [push_cast, seval]; rfl)))); all_goals ((intro hc; first | (exfalso; simp only [push_cast, seval, *] at hc; done) | (exact absurd hc (by decide)) | ((try first | rw [Bool.not_true] at hc | rw [Bool.not_false] at hc); first | (with_reducible replace hc := tTT hc); clear hc | (with_reducible replace hc := tFF hc); clear hc | (have hp := hc; try simp only [decide_eq_true_eq, decide_eq_false_iff_not, bA, bB, bC, bD, bE, bF, bG, bH] at hp))) <;> try simp only [push_cast, seval, *]))
    | (refine Kn.go hK ?_; clear hK K)
    | refine Kn.go (by assumption) ?_
    | (intro n hn; (try simp only [upd_none2, join_none_iff, ite_none, ne_eq] at hn); (try simp only [push_cast, seval, *]))
    | (intro hc)
    | (apply ER_blk; (case hp => rfl); (case hb => (simp only [push_cast, seval]; rfl)); (case hd => (simp only [push_cast, seval]; done)); (case h => (intro hc; simp only [push_cast, seval, *]; rfl)); simp only [push_cast, seval, *])
    | fail)
          exact ⟨(_, _), unhid hf, by (first | trivial | (simp only [push_cast, seval, *]; done)), unhid hlb⟩
    · clear a5 a8 a9 a11 hA3 hXA
      rintro ⟨l1, T⟩ ⟨hT, hsh⟩
      simp only at hT hsh ⊢
      have a5 := (OwnA_loc _ _).get hT gb5
      have a8 := (OwnA_loc _ _).get hT gb8
      have a9 := (OwnA_loc _ _).get hT gb9
      have a11 := (OwnA_loc _ _).get hT gb11
      have p5 := ne_old a5
      have r1 := Heap.le_trans (unhid f1) ((OwnA_loc _ _).le hT)
      have r2 := Heap.le_trans (unhid f2) ((OwnA_loc _ _).le hT)
      rw [hbc] at r1
      replace r1 := Lib.hid r1
      replace r2 := Lib.hid r2
      clear hT hsh gb5 gb8 gb9 gb11 hbc f1 f2
      by_cases hRe : Re = 0
      · subst hRe
        repeat' (first
    | refine AW_seq_kn fun K hK => ?_
    | refine AW_block ?_
    | (refine does_call rfl rfl ?_; simp only [push_cast, seval, *]; refine ACall.monoP (hsl _) ?_; (try simp only [push_cast, seval, *]))
    | (refine does_call rfl rfl ?_; simp only [push_cast, seval, *]; refine ACall.monoP (wakes22_p _) ?_; (try simp only [push_cast, seval, *]))
    | ((first
      | refine AW_region_draw (id := 10) E0 (fun f => [].contains f) dLDL0 dADL0 mixed (by kernel_rfl) ?_
      | refine AW_region E0 ?_ | refine AW_ret ?_ | refine AW_exit ?_ | refine AW_skip ?_ | unfold retQ); try simp only [push_cast, seval, *])
    | ((first | (apply AW_cond; (case hc => (simp only [push_cast, seval]; rfl))) | (apply ER_guard; (case hb => (simp only [push_cast, seval]; rfl)))); all_goals ((intro hc; first | (exfalso; simp only [push_cast, seval, *] at hc; done) | (exact absurd hc (by decide)) | ((try first | rw [Bool.not_true] at hc | rw [Bool.not_false] at hc); first | (with_reducible replace hc := tTT hc); clear hc | (with_reducible replace hc := tFF hc); clear hc | (have hp := hc; try simp only [decide_eq_true_eq, decide_eq_false_iff_not, bA, bB, bC, bD, bE, bF, bG, bH] at hp))) <;> try simp only [push_cast, seval, *]))
    | (refine Kn.go hK ?_; clear hK K)
    | refine Kn.go (by assumption) ?_
    | (intro n hn; (try simp only [upd_none2, join_none_iff, ite_none, ne_eq] at hn); (try simp only [push_cast, seval, *]))
    | (intro hc)
    | (apply ER_blk; (case hp => rfl); (case hb => (simp only [push_cast, seval]; rfl)); (case hd => (simp only [push_cast, seval]; done)); (case h => (intro hc; simp only [push_cast, seval, *]; rfl)); simp only [push_cast, seval, *])
    | fail)
        exact ⟨⟨a', b', c', d', e', f'⟩, ⟨unhid rg, unhid rs⟩, by (first | trivial | (simp only [push_cast, seval, *]; done)), by first | exact ⟨rfl, unhid r2⟩ | exact hle_upd2 (unhid r2) _ _⟩
      · repeat' (first
    | refine AW_seq_kn fun K hK => ?_
    | refine AW_block ?_
    | (refine does_call rfl rfl ?_; simp only [push_cast, seval, *]; refine ACall.monoP (hsl _) ?_; (try simp only [push_cast, seval, *]))
    | (refine does_call rfl rfl ?_; simp only [push_cast, seval, *]; refine ACall.monoP (wakes22_p _) ?_; (try simp only [push_cast, seval, *]))
    | ((first
      | refine AW_region_draw (id := 10) E0 (fun f => [].contains f) dLDL0 dADL0 mixed (by kernel_rfl) ?_
      | refine AW_region E0 ?_ | refine AW_ret ?_ | refine AW_exit ?_ | refine AW_skip ?_ | unfold retQ); try simp only [push_cast, seval, *])
    | ((first | (apply AW_cond; (case hc => (simp only [push_cast, seval]; rfl))) | (apply ER_guard; (case hb => (simp only [push_cast, seval]; rfl)))); all_goals ((intro hc; first | (exfalso; simp only [push_cast, seval, *] at hc; done) | (exact absurd hc (by decide)) | ((try first | rw [Bool.not_true] at hc | rw [Bool.not_false] at hc); first | (with_reducible replace hc := tTT hc); clear hc | (with_reducible replace hc := tFF hc); clear hc | (have hp := hc; try simp only [decide_eq_true_eq, decide_eq_false_iff_not, bA, bB, bC, bD, bE, bF, bG, bH] at hp))) <;> try simp only [push_cast, seval, *]))
    | (refine Kn.go hK ?_; clear hK K)
    | refine Kn.go (by assumption) ?_
    | (intro n hn; (try simp only [upd_none2, join_none_iff, ite_none, ne_eq] at hn); (try simp only [push_cast, seval, *]))
    | (intro hc)
    | (apply ER_blk; (case hp => rfl); (case hb => (simp only [push_cast, seval]; rfl)); (case hd => (simp only [push_cast, seval]; done)); (case h => (intro hc; simp only [push_cast, seval, *]; rfl)); simp only [push_cast, seval, *])
    | fail)
        exact ⟨⟨a, b, c, d, e, f⟩, ⟨unhid hsg, unhid hsm⟩, by (first | trivial | (simp only [push_cast, seval, *]; done)), by first | exact ⟨rfl, unhid r2⟩ | exact unhid r1⟩
  · rintro s hsm
    repeat' (first
    | refine AW_seq_kn fun K hK => ?_
    | refine AW_block ?_
    | (refine does_call rfl rfl ?_; simp only [push_cast, seval, *]; refine ACall.monoP (wakes22_p _) ?_; (try simp only [push_cast, seval, *]))
    | ((first
      | refine AW_region_draw (id := 10) E0 (fun f => [].contains f) dLDL0 dADL0 mixed (by kernel_rfl) ?_
      | refine AW_region E0 ?_ | refine AW_ret ?_ | refine AW_exit ?_ | refine AW_skip ?_ | unfold retQ); try simp only [push_cast, seval, *])
    | ((first | (apply AW_cond; (case hc => (simp only [push_cast, seval]; rfl))) | (apply ER_guard; (case hb => (simp only [push_cast, seval]; rfl)))); all_goals ((intro hc; first | (exfalso; simp only [push_cast, seval, *] at hc; done) | (exact absurd hc (by decide)) | ((try first | rw [Bool.not_true] at hc | rw [Bool.not_false] at hc); first | (with_reducible replace hc := tTT hc); clear hc | (with_reducible replace hc := tFF hc); clear hc | (have hp := hc; try simp only [decide_eq_true_eq, decide_eq_false_iff_not, bA, bB, bC, bD, bE, bF, bG, bH] at hp))) <;> try simp only [push_cast, seval, *]))
    | (refine Kn.go hK ?_; clear hK K)
    | refine Kn.go (by assumption) ?_
    | (intro n hn; (try simp only [upd_none2, join_none_iff, ite_none, ne_eq] at hn); (try simp only [push_cast, seval, *]))
    | (intro hc)
    | (apply ER_blk; (case hp => rfl); (case hb => (simp only [push_cast, seval]; rfl)); (case hd => (simp only [push_cast, seval]; done)); (case h => (intro hc; simp only [push_cast, seval, *]; rfl)); simp only [push_cast, seval, *])
    | fail)
    exact ⟨trivial, by first | trivial | (first | trivial | (simp only [push_cast, seval, *]; done)), by first | trivial | exact fun q u h => by cases h⟩
end Go.Proofs.Ytlbdpnlmdcajbaa
