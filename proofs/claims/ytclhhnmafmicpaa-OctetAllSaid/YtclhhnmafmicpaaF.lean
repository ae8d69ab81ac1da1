/- Walks: give with Raw s closure, U8, U16, U32, U64, Raw. Conditions: as each theorem states them. -/
import Derived.Test.YtclhhnmafmicpaaE
namespace Go.Proofs.Ytclhhnmafmicpaa
open Go.RowKit
set_option linter.unusedVariables false

/-- what Raw's closure has left: the bytes that are given, and where what is held still lies -/
def RawPost (w w' : World) (g : Nat) (B : Nat × Nat) (G : List UInt8 × Int × List UInt8) : Prop :=
  ∃ v A C, w'.heap[g]? = some (.cells #[.slice A G.1.length C, .int .i64 G.2.1] 72 (0, 0)) ∧ w'.heap[w.heap.size]? = some (.cells #[v] 22 (0, 0)) ∧ Sl EB w' v G.2.2 ∧ (∀ k, v.ownBlock = some k → B.1 ≤ k ∧ k ≠ g ∧ k < w.heap.size) ∧ (∀ x y m c, A = some x → v = .slice (some y) m c → G.1 ≠ [] → x.block = y.block → x.off = y.off + m) ∧ WrB w' B.1 v G.2.2.length

-- 'give' with a closure: what is given comes into the closure's variable, which has just been made
set_option maxHeartbeats 1000000 in
theorem give47_any (g : Nat) (B : Nat × Nat) (held : List UInt8) (r n : Int) (w : World) (hR : Rd w g B held r) (hl : held.length ≤ 10000000) :
   Calls Try.prog 46 #[.pointer (some ⟨g, 0, none⟩), .int .i64 n, .func (.func 47) #[] #[.pointer (some ⟨w.heap.size, 0, none⟩)]] (w.alloc (.cells #[.slice none 0 0] 22)) fun e w' =>
    e = .returned (.tuple #[]) ∧ Rd w' g B (giveR held r n).1 (giveR held r n).2.1 ∧ RawPost w w' g B (giveR held r n) ∧ w.grownBy w' (some g) := by
  obtain ⟨a, len, cap, h1, h2, h3, h4, h8⟩ := hR
  have h1' : (w.alloc (.cells #[.slice none 0 0] 22)).heap[g]? = _ := (Below.heap_alloc w _ g (lt_of_block h1)).trans h1
  have hsz := lt_of_block h1
  have hbx : (w.alloc (.cells #[.slice none 0 0] 22)).heap[w.heap.size]? = _ := heap_alloc_new w _
  have h2' := h2.le (below_alloc w (.cells #[.slice none 0 0] 22))
  have h8' := h8.le (below_alloc w (.cells #[.slice none 0 0] 22))
  have hgw := World.grownBy_alloc w (.cells #[.slice none 0 0] 22) (some g)
  have hsz' : w.heap.size < (w.alloc (.cells #[.slice none 0 0] 22)).heap.size := by simp
  have h5 : (Value.slice a len cap).ownBlock ≠ some w.heap.size := by
    intro e
    obtain ⟨a', cap', hv, _, _, _, h6⟩ := h2.ex
    simp only [Value.slice.injEq] at hv
    obtain ⟨rfl, _, rfl⟩ := hv
    cases a with
    | none => simp [Value.ownBlock] at e
    | some x => simp [Value.ownBlock] at e; have := (h6 x rfl).2.1; omega
  have HLT := Lib.hid (show ∀ k, (Value.slice a len cap).ownBlock = some k → k < w.heap.size by
    intro k e
    obtain ⟨a', cap', hv, _, _, _, h6⟩ := h2.ex
    simp only [Value.slice.injEq] at hv
    obtain ⟨rfl, _, rfl⟩ := hv
    cases a with
    | none => simp [Value.ownBlock] at e
    | some x => simp [Value.ownBlock] at e; have := (h6 x rfl).2.1; omega)
  generalize w.alloc (.cells #[.slice none 0 0] 22) = W at *
  obtain ⟨q1, q2⟩ := blk h1'
  obtain ⟨a', cap', hv, hlc, _⟩ := h2.ex
  simp only [Value.slice.injEq] at hv
  obtain ⟨rfl, rfl, rfl⟩ := hv
  have H1 := Lib.hid h1'; have H2 := Lib.hid h2'; have H4 := Lib.hid h4; have H5 := Lib.hid h5; have HX := Lib.hid hbx; have HG := Lib.hid hgw; have H8 := Lib.hid h8'
  clear h1 h1' h2 h2' h4 h5 hbx hgw h8 h8'
  have hnb := Lib.hid (show (Value.slice a held.length cap).ownBlock = none ∨ (Value.slice a held.length cap).ownBlock ≠ some g by
    cases hv : (Value.slice a held.length cap).ownBlock with
    | none => exact .inl rfl
    | some k => exact .inr (fun e => (H4.out k hv).2.1 (Option.some.inj e)))
  by_cases c1 : r = 0
  · subst c1
    by_cases c2 : n < 0
    · have HQ := Lib.hid (show giveR held 0 n = (held, 2, []) by simp [giveR, c2])
      go_enter Try.func46, Try.ntmps46
      go_wp2_with fail
      go_returns
      have hne : w.heap.size ≠ g := by omega
      refine ⟨rfl, ?_, ⟨.slice none 0 0, a, cap, by rw [HQ.out]; exact blk_set (i := 1) H1.out _, by rw [Below.heap_setCell _ _ _ _ hne]; exact HX.out, by rw [HQ.out]; exact Sl.nil _ _, (fun k hk => by cases hk), (fun x y m c _ hv => by cases hv), by rw [HQ.out]; exact ⟨none, 0, rfl, fun h => absurd rfl h⟩⟩, grown_trans HG.out (grown_setCell _ _ _ _)⟩
      · rw [HQ.out]
        exact ⟨a, _, cap, blk_set (i := 1) H1.out _, H2.out.grown (grown_setCell _ _ _ _) hnb.out, h3, H4.out, H8.out.grown (grown_setCell _ _ _ _) hnb.out⟩
    · by_cases c3 : (held.length : Int) < n
      · have HQ := Lib.hid (show giveR held 0 n = (held, 7, []) by simp [giveR, c2, c3])
        go_enter Try.func46, Try.ntmps46
        go_wp2_with fail
        go_returns
        have hne : w.heap.size ≠ g := by omega
        refine ⟨rfl, ?_, ⟨.slice none 0 0, a, cap, by rw [HQ.out]; exact blk_set (i := 1) H1.out _, by rw [Below.heap_setCell _ _ _ _ hne]; exact HX.out, by rw [HQ.out]; exact Sl.nil _ _, (fun k hk => by cases hk), (fun x y m c _ hv => by cases hv), by rw [HQ.out]; exact ⟨none, 0, rfl, fun h => absurd rfl h⟩⟩, grown_trans HG.out (grown_setCell _ _ _ _)⟩
        · rw [HQ.out]
          exact ⟨a, _, cap, blk_set (i := 1) H1.out _, H2.out.grown (grown_setCell _ _ _ _) hnb.out, h3, H4.out, H8.out.grown (grown_setCell _ _ _ _) hnb.out⟩
      · have HQ := Lib.hid (show giveR held 0 n = (held.drop n.toNat, 0, held.take n.toNat) by simp [giveR, c2, c3])
        obtain ⟨hs1, hs2⟩ := H2.out.slice_him eB (t := 22) Try.underlying22 .i64 .i64 n n (by omega) (by omega) (by omega) (by omega)
        obtain ⟨A, C, hs3, hs4, hs5⟩ := H2.out.slice_lo eB (t := 22) Try.underlying22 .i64 n (by omega) (by omega)
        have HS2 := Lib.hid hs2; have HS4 := Lib.hid hs4; have HS5 := Lib.hid hs5
        have HWD := Lib.hid (show WrB W B.1 (.slice A (held.length - n.toNat) C) (held.length - n.toNat) from H8.out.drop (by omega) (fun hA => by
          subst hA
          obtain ⟨a2, cap2, hv2, hc2, _, hc3, _⟩ := hs4.ex
          simp only [Value.slice.injEq, List.length_drop] at hv2
          obtain ⟨rfl, _, rfl⟩ := hv2
          have := hc3 rfl
          simp only [List.length_drop] at hc2
          omega) (fun x hx => by
          obtain ⟨y, hy, h6, h7⟩ := hs5 x hx
          obtain ⟨a2, cap2, hv2, _, _, _, hc4⟩ := hs4.ex
          simp only [Value.slice.injEq] at hv2
          obtain ⟨rfl, _, rfl⟩ := hv2
          exact ⟨y, hy, h6, fun h => ⟨(hc4 x hx).1, by have := h7 h; simpa [encB] using this⟩⟩))
        clear hs2 hs4 hs5
        have h5' : (Value.slice a n.toNat n.toNat).ownBlock ≠ some w.heap.size := by cases a <;> exact H5.out
        have H5' := Lib.hid h5'
        clear h5'
        go_enter Try.func46, Try.ntmps46
        go_wp2_with (go_at_call 47; refine (raw1_any _ _ _ _ a n.toNat n.toNat rfl HX.out).mono ?_; rintro e w1 ⟨rfl, hx, hg1⟩; have F1 := Lib.hid (show w1.heap[g]? = _ from (hg1.block g (lt_of_block H1.out) (by intro e; have := Option.some.inj e; omega)).trans H1.out); obtain ⟨p1, p2⟩ := blk F1.out; have HX1 := Lib.hid hx; have HG1 := Lib.hid hg1; clear hx hg1)
        go_returns
        have hne : w.heap.size ≠ g := by omega
        have hob : ∀ k, (Value.slice A (held.length - n.toNat) C).ownBlock = some k → (Value.slice a held.length cap).ownBlock = some k := by
          intro k hk
          cases A with
          | none => simp [Value.ownBlock] at hk
          | some x =>
            obtain ⟨y, rfl, h6, _⟩ := HS5.out x rfl
            simp only [Value.ownBlock, Option.some.injEq] at hk ⊢
            omega
        have hgv : ∀ k, (Value.slice a n.toNat n.toNat).ownBlock = some k → (Value.slice a held.length cap).ownBlock = some k := by
          intro k hk
          cases a <;> exact hk
        have hlt : ∀ k, (Value.slice a n.toNat n.toNat).ownBlock = some k → k < w.heap.size := by
          intro k hk
          exact HLT.out k (hgv k hk)
        have hoff : ∀ x y m c, A = some x → Value.slice a n.toNat n.toNat = .slice (some y) m c → (giveR held 0 n).1 ≠ [] → x.block = y.block → x.off = y.off + m := by
          intro x y m c hx hy hne _
          obtain ⟨y', hy', _, h7⟩ := HS5.out x hx
          simp only [Value.slice.injEq] at hy
          obtain ⟨h8, rfl, _⟩ := hy
          have h9 : n.toNat < held.length := by
            rw [HQ.out] at hne
            simpa using hne
          have := h7 h9
          rw [h8] at hy'
          obtain rfl := Option.some.inj hy'
          simpa [encB] using this
        have hwg : WrB (w1.setCell ⟨g, 0, none⟩ (.slice A (held.length - n.toNat) C)) B.1 (.slice a n.toNat n.toNat) (giveR held 0 n).2.2.length := by
          rw [HQ.out]
          simp only [List.length_take]
          rw [Nat.min_eq_left (by omega)]
          exact ((H8.out.take (c := n.toNat) (show n.toNat ≤ held.length by omega)).grown HG1.out (.inr H5'.out)).grown (grown_setCell _ _ _ _) (.inr (fun e => (H4.out _ (hgv _ e)).2.1 rfl))
        refine ⟨rfl, ?_, ⟨.slice a n.toNat n.toNat, A, C, by rw [HQ.out]; simp only [List.length_drop]; exact blk_set (i := 0) F1.out _, by rw [Below.heap_setCell _ _ _ _ hne]; exact HX1.out, by rw [HQ.out]; exact (HS2.out.grown HG1.out (.inr H5'.out)).grown (grown_setCell _ _ _ _) (.inr (fun e => (H4.out _ (hgv _ e)).2.1 rfl)), fun k hk => ⟨(H4.out k (hgv k hk)).1, (H4.out k (hgv k hk)).2.1, hlt k hk⟩, hoff, hwg⟩, grown_trans (grown_trans_new HG.out HG1.out (fun k hk => by have := Option.some.inj hk; omega)) (grown_setCell _ _ _ _)⟩
        rw [HQ.out]
        have e1 : (Value.slice A (held.length - n.toNat) C).ownBlock = none ∨ (Value.slice A (held.length - n.toNat) C).ownBlock ≠ some w.heap.size := .inr (fun e => H5.out (hob _ e))
        have e2 : (Value.slice A (held.length - n.toNat) C).ownBlock = none ∨ (Value.slice A (held.length - n.toNat) C).ownBlock ≠ some g := .inr (fun e => (H4.out _ (hob _ e)).2.1 rfl)
        refine ⟨A, _, C, blk_set (i := 0) F1.out _, (HS4.out.grown HG1.out e1).grown (grown_setCell _ _ _ _) e2, h3, fun k hk => H4.out k (hob k hk), (HWD.out.grown HG1.out e1).grown (grown_setCell _ _ _ _) e2⟩
  · have HQ := Lib.hid (show giveR held r n = (held, r, []) by simp [giveR, c1])
    have c1' : (r != 0) = true := by simp [c1]
    go_enter Try.func46, Try.ntmps46
    go_wp2_with fail
    go_returns
    refine ⟨rfl, ?_, ⟨.slice none 0 0, a, cap, by rw [HQ.out]; exact H1.out, HX.out, by rw [HQ.out]; exact Sl.nil _ _, (fun k hk => by cases hk), (fun x y m c _ hv => by cases hv), by rw [HQ.out]; exact ⟨none, 0, rfl, fun h => absurd rfl h⟩⟩, HG.out⟩
    rw [HQ.out]
    exact ⟨a, _, cap, H1.out, H2.out, h3, H4.out, H8.out⟩

set_option maxHeartbeats 400000 in
theorem bits_any (g : Nat) (B : Nat × Nat) (held : List UInt8) (r : Int) (m : Nat) (w : World) (hR : Rd w g B held r) (hl : held.length ≤ 10000000) (hm : m ≤ 8) :
   Calls Try.prog 45 #[.pointer (some ⟨g, 0, none⟩), .int .i64 (8 * m)] w fun e w' => e = .returned (.int .u64 (numB (giveR held r m).2.2)) ∧ Rd w' g B (giveR held r m).1 (giveR held r m).2.1 ∧ w.grownBy w' (some g) := by
  have hq : (8 * (m : Int)) / 8 = m := by omega
  go_enter Try.func45, Try.ntmps45
  go_wp2_with (go_at_call 46; refine (give51_any g B held r m w hR hl (by omega)).mono ?_; rintro e w1 ⟨rfl, hr, hx, hg⟩; obtain ⟨q1, q2⟩ := blk hx; have HR := Lib.hid hr; have HG := Lib.hid hg; clear hx hr hg)
  go_ret
  exact ⟨rfl, HR.out, HG.out⟩

set_option maxHeartbeats 400000 in
theorem bits_nil (m : Nat) (w : World) :
   Calls Try.prog 45 #[.pointer none, .int .i64 m] w fun e w' => e = .returned (.int .u64 0) ∧ Below w.heap.size w w' := by
  go_enter Try.func45, Try.ntmps45
  go_wp2_with fail
  go_ret
  exact ⟨rfl, by go_grown⟩

theorem giveR_lt (held : List UInt8) (r : Int) (m : Nat) : numB (giveR held r m).2.2 < 256 ^ m := by
  refine Nat.lt_of_lt_of_le (numB_lt _) (Nat.pow_le_pow_right (by omega) ?_)
  unfold giveR
  split
  · simp
  · split
    · simp
    · split
      · simp
      · simp only [List.length_take, Int.toNat_natCast]; omega

-- the four numbers

set_option maxHeartbeats 400000 in
theorem u8_any (g : Nat) (B : Nat × Nat) (held : List UInt8) (r : Int) (w : World) (hR : Rd w g B held r) (hl : held.length ≤ 10000000) :
   Calls Try.prog 26 #[.pointer (some ⟨g, 0, none⟩)] w fun e w' => e = .returned (.int .u8 (numB (giveR held r (1 : Nat)).2.2)) ∧ Rd w' g B (giveR held r (1 : Nat)).1 (giveR held r (1 : Nat)).2.1 ∧ w.grownBy w' (some g) := by
  have hb := giveR_lt held r 1
  rw [show (256 : Nat) ^ 1 = 256 by decide] at hb
  have H := Lib.hid (bits_any g B held r 1 w hR hl (by omega))
  generalize giveR held r ((1 : Nat) : Int) = G at *
  generalize numB G.2.2 = N at *
  go_enter Try.func26, Try.ntmps26
  go_wp2_with (go_at_call 45; refine H.out.mono ?_; rintro e w1 ⟨rfl, hr, hg⟩)
  go_ret
  exact ⟨rfl, hr, hg⟩

set_option maxHeartbeats 400000 in
theorem u8_nil (w : World) : Calls Try.prog 26 #[.pointer none] w fun e w' => e = .returned (.int .u8 0) ∧ Below w.heap.size w w' := by
  go_enter Try.func26, Try.ntmps26
  go_wp2_with (go_at_call 45; refine (bits_nil 8 w).mono ?_; rintro e w1 ⟨rfl, hb⟩)
  go_ret
  exact ⟨rfl, hb⟩

set_option maxHeartbeats 400000 in
theorem u16_any (g : Nat) (B : Nat × Nat) (held : List UInt8) (r : Int) (w : World) (hR : Rd w g B held r) (hl : held.length ≤ 10000000) :
   Calls Try.prog 28 #[.pointer (some ⟨g, 0, none⟩)] w fun e w' => e = .returned (.int .u16 (numB (giveR held r (2 : Nat)).2.2)) ∧ Rd w' g B (giveR held r (2 : Nat)).1 (giveR held r (2 : Nat)).2.1 ∧ w.grownBy w' (some g) := by
  have hb := giveR_lt held r 2
  rw [show (256 : Nat) ^ 2 = 65536 by decide] at hb
  have H := Lib.hid (bits_any g B held r 2 w hR hl (by omega))
  generalize giveR held r ((2 : Nat) : Int) = G at *
  generalize numB G.2.2 = N at *
  go_enter Try.func28, Try.ntmps28
  go_wp2_with (go_at_call 45; refine H.out.mono ?_; rintro e w1 ⟨rfl, hr, hg⟩)
  go_ret
  exact ⟨rfl, hr, hg⟩

set_option maxHeartbeats 400000 in
theorem u16_nil (w : World) : Calls Try.prog 28 #[.pointer none] w fun e w' => e = .returned (.int .u16 0) ∧ Below w.heap.size w w' := by
  go_enter Try.func28, Try.ntmps28
  go_wp2_with (go_at_call 45; refine (bits_nil 16 w).mono ?_; rintro e w1 ⟨rfl, hb⟩)
  go_ret
  exact ⟨rfl, hb⟩

set_option maxHeartbeats 400000 in
theorem u32_any (g : Nat) (B : Nat × Nat) (held : List UInt8) (r : Int) (w : World) (hR : Rd w g B held r) (hl : held.length ≤ 10000000) :
   Calls Try.prog 29 #[.pointer (some ⟨g, 0, none⟩)] w fun e w' => e = .returned (.int .u32 (numB (giveR held r (4 : Nat)).2.2)) ∧ Rd w' g B (giveR held r (4 : Nat)).1 (giveR held r (4 : Nat)).2.1 ∧ w.grownBy w' (some g) := by
  have hb := giveR_lt held r 4
  rw [show (256 : Nat) ^ 4 = 4294967296 by decide] at hb
  have H := Lib.hid (bits_any g B held r 4 w hR hl (by omega))
  generalize giveR held r ((4 : Nat) : Int) = G at *
  generalize numB G.2.2 = N at *
  go_enter Try.func29, Try.ntmps29
  go_wp2_with (go_at_call 45; refine H.out.mono ?_; rintro e w1 ⟨rfl, hr, hg⟩)
  go_ret
  exact ⟨rfl, hr, hg⟩

set_option maxHeartbeats 400000 in
theorem u32_nil (w : World) : Calls Try.prog 29 #[.pointer none] w fun e w' => e = .returned (.int .u32 0) ∧ Below w.heap.size w w' := by
  go_enter Try.func29, Try.ntmps29
  go_wp2_with (go_at_call 45; refine (bits_nil 32 w).mono ?_; rintro e w1 ⟨rfl, hb⟩)
  go_ret
  exact ⟨rfl, hb⟩

set_option maxHeartbeats 400000 in
theorem u64_any (g : Nat) (B : Nat × Nat) (held : List UInt8) (r : Int) (w : World) (hR : Rd w g B held r) (hl : held.length ≤ 10000000) :
   Calls Try.prog 30 #[.pointer (some ⟨g, 0, none⟩)] w fun e w' => e = .returned (.int .u64 (numB (giveR held r (8 : Nat)).2.2)) ∧ Rd w' g B (giveR held r (8 : Nat)).1 (giveR held r (8 : Nat)).2.1 ∧ w.grownBy w' (some g) := by
  have hb := giveR_lt held r 8
  rw [show (256 : Nat) ^ 8 = 18446744073709551616 by decide] at hb
  have H := Lib.hid (bits_any g B held r 8 w hR hl (by omega))
  generalize giveR held r ((8 : Nat) : Int) = G at *
  generalize numB G.2.2 = N at *
  go_enter Try.func30, Try.ntmps30
  go_wp2_with (go_at_call 45; refine H.out.mono ?_; rintro e w1 ⟨rfl, hr, hg⟩)
  go_ret
  exact ⟨rfl, hr, hg⟩

set_option maxHeartbeats 400000 in
theorem u64_nil (w : World) : Calls Try.prog 30 #[.pointer none] w fun e w' => e = .returned (.int .u64 0) ∧ Below w.heap.size w w' := by
  go_enter Try.func30, Try.ntmps30
  go_wp2_with (go_at_call 45; refine (bits_nil 64 w).mono ?_; rintro e w1 ⟨rfl, hb⟩)
  go_ret
  exact ⟨rfl, hb⟩

set_option maxHeartbeats 400000 in
theorem raw_any (g : Nat) (B : Nat × Nat) (held : List UInt8) (r n : Int) (w : World) (hR : Rd w g B held r) (hl : held.length ≤ 10000000) :
   Calls Try.prog 31 #[.pointer (some ⟨g, 0, none⟩), .int .i64 n] w fun e w' => ∃ v A C, e = .returned v ∧ Rd w' g B (giveR held r n).1 (giveR held r n).2.1 ∧ w'.heap[g]? = some (.cells #[.slice A (giveR held r n).1.length C, .int .i64 (giveR held r n).2.1] 72 (0, 0)) ∧
     Sl EB w' v (giveR held r n).2.2 ∧ (∀ k, v.ownBlock = some k → B.1 ≤ k ∧ k ≠ g ∧ k < w.heap.size) ∧ (∀ x y m c, A = some x → v = .slice (some y) m c → (giveR held r n).1 ≠ [] → x.block = y.block → x.off = y.off + m) ∧ WrB w' B.1 v (giveR held r n).2.2.length ∧ w.grownBy w' (some g) := by
  go_enter Try.func31, Try.ntmps31
  go_wp2_with (go_at_call 46; refine (give47_any g B held r n w hR hl).mono ?_; rintro e w1 ⟨rfl, hr, ⟨v, A, C, h1, hx, hs, h2, h3, h8⟩, hg⟩; obtain ⟨a, cap, hv, _⟩ := hs.ex; subst hv; have F := Lib.hid hx; have hw := setCell_same hx; obtain ⟨q1, q2⟩ := blk hx; have HR := Lib.hid (And.intro hr (And.intro h1 (And.intro hs (And.intro h2 (And.intro h3 (And.intro h8 hg)))))); clear hx hr hg h1 hs h2 h3 h8)
  refine bodyPost_ret (v := .slice a (giveR held r n).2.2.length cap) (by simp [results, Try.results31, go_sem, q1]) rfl ?_
  obtain ⟨h1, h2, h3, h4, h5, h6, h7⟩ := HR.out
  exact ⟨_, A, C, rfl, h1, h2, h3, h4, h5, h6, h7⟩

theorem raw_nil (n : Int) (w : World) : Calls Try.prog 31 #[.pointer none, .int .i64 n] w fun e w' => e = .returned (.slice none 0 0) ∧ Below w.heap.size w w' := by
  go_enter Try.func31, Try.ntmps31
  go_wp2_with fail
  go_returns
  exact ⟨rfl, by go_grown⟩

end Go.Proofs.Ytclhhnmafmicpaa
