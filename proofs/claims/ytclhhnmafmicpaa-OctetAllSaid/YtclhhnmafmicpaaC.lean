/- Walks: octet.Put16, Put32, Put64, headraceref01.High, Number. Conditions: as each theorem states them. -/
import Derived.Test.YtclhhnmafmicpaaB
namespace Go.Proofs.Ytclhhnmafmicpaa
open Go.RowKit
set_option linter.unusedVariables false

/-- a number's bytes, so many, the highest first -/
def hi (x : Nat) : Nat → List UInt8
  | 0 => []
  | n + 1 => hi (x / 256) n ++ [UInt8.ofNat x]

theorem hi_len (n : Nat) : ∀ x, (hi x n).length = n := by
  induction n with
  | zero => intro x; rfl
  | succ n ih => intro x; simp [hi, ih]

theorem hi_get (n : Nat) : ∀ (x k : Nat) (h : k < (hi x n).length), (hi x n)[k] = UInt8.ofNat (x / 2 ^ (8 * n - 8 * (k + 1))) := by
  induction n with
  | zero => intro x k h; simp [hi] at h
  | succ n ih =>
    intro x k h
    simp only [hi]
    rw [hi_len] at h
    by_cases hk : k < n
    · rw [List.getElem_append_left (by rw [hi_len]; exact hk), ih]
      rw [show 256 = 2 ^ 8 from rfl, Nat.div_div_eq_div_mul, ← Nat.pow_add]
      congr 3; omega
    · obtain rfl : k = n := by omega
      rw [List.getElem_append_right (by rw [hi_len]; exact Nat.le_refl _)]
      simp [hi_len]

theorem hi_cell (n k : Nat) (x : Int) (hx : 0 ≤ x) (h : k < n) :
    #[Value.int .u8 (x / 2 ^ (8 * n - 8 * (k + 1)) % 256)] = ((encB 5).f ((hi x.toNat n)[k]'(by rw [hi_len]; exact h))).toArray := by
  obtain ⟨m, rfl⟩ := Int.eq_ofNat_of_zero_le hx
  rw [hi_get]
  generalize 8 * n - 8 * (k + 1) = j
  have e : ((m : Int) / 2 ^ j % 256) = (((UInt8.ofNat (m / 2 ^ j)).toNat : Nat) : Int) := by
    rw [UInt8.toNat_ofNat', Int.natCast_emod, Int.natCast_ediv, Int.natCast_pow]; rfl
  rw [e]; rfl

set_option maxHeartbeats 1000000 in
theorem lay_any (b : List UInt8) (vb : Value) (x bits : Int) (w : World) (hB : Sl EB w vb b) (hl : b.length ≤ 10000000) (hx : 0 ≤ x) (hx2 : x ≤ 18446744073709551615) (n : Nat) (hbits : bits = 8 * n) (hn : n ≤ 8) :
   Calls Try.prog 44 #[vb, .int .u64 x, .int .i64 bits] w fun e w' => ∃ v, e = .returned v ∧ Own EB w' w.heap.size v (b ++ hi x.toNat n) ∧ Below w.heap.size w w' := by
  subst hbits
  have hq : (8 * (n : Int)) / 8 = n := by omega
  go_enter Try.func44, Try.ntmps44
  go_wp2_with (go_at_call 35; refine (clone_any b _ _ hB (by omega)).mono ?_; rintro e w1 ⟨v, rfl, hown, hb⟩)
  have HO := Lib.hid hown; have HB1 := Lib.hid hb
  clear hown hb hB
  go_loopw [7, 13] (fun v i wr => ∃ k : Nat, k ≤ n ∧ i = .int .i64 k ∧ Own EB wr w.heap.size v (b ++ (hi x.toNat n).take k) ∧ Below w.heap.size w wr) (fun _ i _ => n - (intOf i).toNat)
  case atStart => exact ⟨0, Nat.zero_le _, rfl, by simpa using HO.out, HB1.out⟩
  case round =>
    clear HO HB1
    obtain ⟨k, hk, rfl, hown, hb⟩ := hrel
    have HO := Lib.hid hown; have HB1 := Lib.hid hb
    clear hown hb
    by_cases hlt : k < n
    · have hlt' : k < (hi x.toNat n).length := by rw [hi_len]; exact hlt
      have HT := Lib.hid (take_snoc (hi x.toNat n) k hlt')
      have HC := Lib.hid (hi_cell n k x hx hlt)
      go_wp2_with (at_builtin; go_must (refine wpl_app1 eB HO.out ((hi x.toNat n)[k]'hlt') HC.out rfl rfl Try.underlying22 rfl rfl (by simp [maxLen, hi_len]; omega) (by simp [encB, hi_len]; omega) HB1.out.size ?_; intro v1 w1 hown1 hb1 hg1))
      go_roundw
      case rel => exact ⟨k + 1, hlt, by go_num, by rw [HT.out, ← List.append_assoc]; exact hown1, HB1.out.trans hb1⟩
      case measure => simp [intOf]; omega
    · obtain rfl : k = n := by omega
      go_wp2_with fail
      go_ret
      exact ⟨_, rfl, by have := HO.out; rwa [List.take_of_length_le (by rw [hi_len]; exact Nat.le_refl _)] at this, HB1.out⟩

set_option maxHeartbeats 1000000 in
theorem put16_any (b : List UInt8) (vb : Value) (x : Int) (w : World) (hB : Sl EB w vb b) (hl : b.length ≤ 10000000) (hx : 0 ≤ x) (hx2 : x ≤ 65535) :
   Calls Try.prog 18 #[vb, .int .u16 x] w fun e w' => ∃ v, e = .returned v ∧ Own EB w' w.heap.size v (b ++ hi x.toNat 2) ∧ Below w.heap.size w w' := by
  go_enter Try.func18, Try.ntmps18
  go_wp2_with (go_at_call 44; refine (lay_any b _ x 16 _ hB hl hx (by omega) 2 rfl (by omega)).mono ?_; rintro e w1 ⟨v, rfl, hown, hb⟩)
  go_ret
  exact ⟨_, rfl, hown, hb⟩

set_option maxHeartbeats 1000000 in
theorem put32_any (b : List UInt8) (vb : Value) (x : Int) (w : World) (hB : Sl EB w vb b) (hl : b.length ≤ 10000000) (hx : 0 ≤ x) (hx2 : x ≤ 4294967295) :
   Calls Try.prog 19 #[vb, .int .u32 x] w fun e w' => ∃ v, e = .returned v ∧ Own EB w' w.heap.size v (b ++ hi x.toNat 4) ∧ Below w.heap.size w w' := by
  go_enter Try.func19, Try.ntmps19
  go_wp2_with (go_at_call 44; refine (lay_any b _ x 32 _ hB hl hx (by omega) 4 rfl (by omega)).mono ?_; rintro e w1 ⟨v, rfl, hown, hb⟩)
  go_ret
  exact ⟨_, rfl, hown, hb⟩

set_option maxHeartbeats 1000000 in
theorem put64_any (b : List UInt8) (vb : Value) (x : Int) (w : World) (hB : Sl EB w vb b) (hl : b.length ≤ 10000000) (hx : 0 ≤ x) (hx2 : x ≤ 18446744073709551615) :
   Calls Try.prog 20 #[vb, .int .u64 x] w fun e w' => ∃ v, e = .returned v ∧ Own EB w' w.heap.size v (b ++ hi x.toNat 8) ∧ Below w.heap.size w w' := by
  go_enter Try.func20, Try.ntmps20
  go_wp2_with (go_at_call 44; refine (lay_any b _ x 64 _ hB hl hx hx2 8 rfl (by omega)).mono ?_; rintro e w1 ⟨v, rfl, hown, hb⟩)
  go_ret
  exact ⟨_, rfl, hown, hb⟩

theorem high_cell (x : Int) (hx : 0 ≤ x) : #[Value.int .u8 (x % 256)] = ((encB 5).f (UInt8.ofNat x.toNat)).toArray := by
  obtain ⟨m, rfl⟩ := Int.eq_ofNat_of_zero_le hx
  have e : ((m : Int) % 256) = (((UInt8.ofNat m).toNat : Nat) : Int) := by
    rw [UInt8.toNat_ofNat', Int.natCast_emod]; rfl
  rw [e]; rfl

set_option maxHeartbeats 1000000 in
theorem high_any (n : Nat) : ∀ (x k : Int) (w : World), k = n → n ≤ 1000 → 0 ≤ x → x ≤ 18446744073709551615 →
   Calls Try.prog 21 #[.int .u64 x, .int .i64 k] w fun e w' => ∃ v, e = .returned v ∧ Own EB w' w.heap.size v (hi x.toNat n) ∧ Below w.heap.size w w' := by
  induction n with
  | zero =>
    intro x k w hk hn hx hx2
    subst hk
    go_enter Try.func21, Try.ntmps21
    go_wp2_with fail
    go_ret
    exact ⟨_, rfl, Own.nil _ _ _, Below.refl _ _⟩
  | succ n ih =>
    intro x k w hk hn hx hx2
    subst hk
    have IH := Lib.hid ih
    clear ih
    have hq : ((n : Int) + 1 == 0) = false := by simp; omega
    go_enter Try.func21, Try.ntmps21
    have HC := Lib.hid (high_cell x hx)
    have hand := and255_u64 x hx hx2
    have HX := Lib.hid (show (x / 256).toNat = x.toNat / 256 by omega)
    go_wp2_with (first
      | (go_at_call 21; refine (IH.out (x / 256) _ _ (by omega) (by omega) (by omega) (by omega)).mono ?_; rintro e w1 ⟨v, rfl, hown, hb⟩; have HO := Lib.hid hown; have HB1 := Lib.hid hb; clear hown hb)
      | (at_builtin; go_must (refine wpl_app1 eB HO.out (UInt8.ofNat x.toNat) HC.out rfl rfl Try.underlying22 rfl rfl (by simp [maxLen, hi_len]; omega) (by simp [encB, hi_len]; omega) HB1.out.size ?_; intro v1 w2 hown1 hb1 hg1)))
    go_ret
    exact ⟨_, rfl, by rw [hi, ← HX.out]; exact hown1, HB1.out.trans hb1⟩

/-- the number of bytes -/
def num (l : List UInt8) : Nat := l.foldl (fun x c => (x * 256 + c.toNat) % 18446744073709551616) 0
theorem num_snoc (l : List UInt8) (c : UInt8) : num (l ++ [c]) = (num l * 256 + c.toNat) % 18446744073709551616 := by simp [num, List.foldl_append]
theorem num_lt (l : List UInt8) : num l < 18446744073709551616 := by
  rcases List.eq_nil_or_concat l with rfl | ⟨m, c, rfl⟩
  · simp [num]
  · rw [List.concat_eq_append, num_snoc]; omega

set_option maxHeartbeats 1000000 in
theorem number_any (b : List UInt8) (vb : Value) (w : World) (hB : Sl EB w vb b) (hl : b.length ≤ 10000000) :
   Calls Try.prog 27 #[vb] w fun e w' => e = .returned (.int .u64 (num b)) ∧ w = w' := by
  obtain ⟨aa, ca, rfl, a1, a2, a3, a4⟩ := hB.byte
  have HA := Lib.hid a4
  clear a3 a4 hB
  go_enter Try.func27, Try.ntmps27
  go_wp2_with fail
  go_loop [3, 4] (fun v i => ∃ k : Nat, k ≤ b.length ∧ i = .int .i64 k ∧ v = .int .u64 (num (b.take k))) (fun _ i => b.length - (intOf i).toNat)
  case atStart => exact ⟨0, Nat.zero_le _, rfl, rfl⟩
  case round =>
    obtain ⟨k, hk, rfl, rfl⟩ := hrel
    by_cases hlt : k < b.length
    · obtain ⟨bb, oo, rfl, hbl, hc⟩ := HA.out k hlt
      have hc1 := hc k hlt
      have HT := Lib.hid (take_snoc b k hlt)
      have hlt1 := num_lt (b.take k)
      have hlt2 : b[k].toNat < 256 := b[k].toNat_lt
      have hor := Lib.hid (or_u64 ((num (b.take k) : Int) * 256 % 18446744073709551616) (b[k].toNat : Int) 8 (by omega) (by omega) (by omega) (by omega) (by omega) (by omega))
      clear hc HA
      go_wp2_with fail
      go_round
      case rel => exact ⟨k + 1, hlt, by go_num, by
        rw [IntKind.wrap_u64, hor.out, HT.out, num_snoc]
        congr 1
        omega⟩
      case measure => simp [intOf]; omega
    · obtain rfl : k = b.length := by omega
      go_wp2_with fail
      go_ret
      exact ⟨rfl, rfl⟩

/-- what a reader is behind having been asked for n bytes -/
def giveR (held : List UInt8) (r n : Int) : List UInt8 × Int × List UInt8 :=
  if r ≠ 0 then (held, r, []) else if n < 0 then (held, 2, []) else if (held.length : Int) < n then (held, 7, []) else (held.drop n.toNat, 0, held.take n.toNat)


end Go.Proofs.Ytclhhnmafmicpaa
