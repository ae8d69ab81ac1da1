/- Sums of bytes: the plain law, and the walks of sum.Sum32, sum.Parts and of the document's sum. Conditions: as each theorem states them. -/
import Derived.Test.YtclhhnmafmicpaaC
namespace Go.Proofs.Ytclhhnmafmicpaa
open Go.RowKit
set_option linter.unusedVariables false

/-- both sums of bytes, with no rest taken -/
def sums (l : List UInt8) : Nat × Nat := l.foldl (fun p c => (p.1 + c.toNat, p.2 + (p.1 + c.toNat))) (1, 0)
def loS (l : List UInt8) : Nat := (sums l).1
def hiS (l : List UInt8) : Nat := (sums l).2
def sumS (l : List UInt8) : Nat := hiS l % 65521 * 65536 + loS l % 65521

theorem loS_snoc (l : List UInt8) (c : UInt8) : loS (l ++ [c]) = loS l + c.toNat := by simp [loS, sums, List.foldl_append]
theorem hiS_snoc (l : List UInt8) (c : UInt8) : hiS (l ++ [c]) = hiS l + loS (l ++ [c]) := by simp [loS, hiS, sums, List.foldl_append]
theorem loS_le (l : List UInt8) : loS l ≤ 1 + 255 * l.length := by
  have key : ∀ (m : List UInt8) (p : Nat × Nat), (m.foldl (fun p c => (p.1 + c.toNat, p.2 + (p.1 + c.toNat))) p).1 ≤ p.1 + 255 * m.length := by
    intro m
    induction m with
    | nil => intro p; simp
    | cons c m ih =>
      intro p
      have := ih (p.1 + c.toNat, p.2 + (p.1 + c.toNat))
      have hc := c.toNat_lt
      simp only [List.foldl_cons, List.length_cons]
      simp only at this
      omega
  exact key l (1, 0)
theorem sumS_lt (l : List UInt8) : sumS l < 4294967296 := by unfold sumS; omega

/-- the document's high sum of the first k beginnings -/
def refH (l : List UInt8) : Nat → Nat
  | 0 => 0
  | k + 1 => refH l k + loS (l.take (k + 1)) % 65521

theorem refH_le (l : List UInt8) (k : Nat) : refH l k ≤ 65521 * k := by
  induction k with
  | zero => simp [refH]
  | succ k ih => simp only [refH]; omega

theorem refH_mod (l : List UInt8) : ∀ k, k ≤ l.length → refH l k % 65521 = hiS (l.take k) % 65521 := by
  intro k
  induction k with
  | zero => intro _; simp [refH, hiS, sums]
  | succ k ih =>
    intro hk
    have h := ih (by omega)
    rw [refH, take_snoc l k (by omega), hiS_snoc]
    omega

set_option maxHeartbeats 400000 in
theorem takes_any (c : UInt8) (lo hi : Nat) (bl bh B : Nat) (w : World) (h1 : w.heap[bl]? = some (.cells #[.int .u32 (lo : Int)] 30 (0, 0))) (h2 : w.heap[bh]? = some (.cells #[.int .u32 (hi : Int)] 30 (0, 0))) (hne : bl ≠ bh)
    (hlo : lo < 65521) (hhi : hi < 65521) (hB1 : B ≤ bl) (hB2 : B ≤ bh) :
   Calls Try.prog 48 #[.int .u8 (c.toNat : Int), .pointer (some ⟨bl, 0, none⟩), .pointer (some ⟨bh, 0, none⟩)] w fun e w' => e = .returned (.tuple #[]) ∧
     w'.heap[bl]? = some (.cells #[.int .u32 (((lo + c.toNat) % 65521 : Nat) : Int)] 30 (0, 0)) ∧ w'.heap[bh]? = some (.cells #[.int .u32 (((hi + (lo + c.toNat)) % 65521 : Nat) : Int)] 30 (0, 0)) ∧ Below B w w' := by
  have hc := c.toNat_lt
  obtain ⟨q1, q2⟩ := blk h1
  obtain ⟨q3, q4⟩ := blk h2
  have H1 := Lib.hid h1; have H2 := Lib.hid h2
  clear h1 h2
  go_enter Try.func48, Try.ntmps48
  go_wp2_with fail
  go_returns
  refine ⟨rfl, ?_, ?_, ((Below.refl B w).setCell (by exact hB1) _).setCell (by exact hB2) _⟩
  · rw [Below.heap_setCell _ _ _ _ (by exact hne), blk_set H1.out]; congr 1
  · rw [blk_set (cs := #[.int .u32 (hi : Int)]) (t := 30) (by rw [Below.heap_setCell _ _ _ _ (by exact fun e => hne e.symm)]; exact H2.out)]; congr 1

theorem or_u32 (x y : Int) (i : Nat) (hx0 : 0 ≤ x) (hx : x % 2 ^ i = 0) (hx1 : x < 4294967296) (hy0 : 0 ≤ y) (hy : y < 2 ^ i) (hi : i ≤ 32) : bits BinOp.or IntKind.u32 x y = x + y :=
  bits_join .u32 32 (by decide) (fun n h0 h1 => by rw [IntKind.wrap_u32]; omega) i x y hx0 hx hx1 hy0 hy (Int.lt_of_lt_of_le hy (by
    have : (2 : Nat) ^ i ≤ 2 ^ 32 := Nat.pow_le_pow_right (by decide) hi
    exact_mod_cast this))

set_option maxHeartbeats 1000000 in
theorem sum32_any (l : List UInt8) (v : Value) (w : World) (hB : Sl EB w v l) (hl : l.length ≤ 10000000) :
   Calls Try.prog 38 #[v] w fun e w' => e = .returned (.int .u32 (sumS l)) ∧ Below w.heap.size w w' := by
  obtain ⟨aa, ca, rfl, a1, a2, a3, a4⟩ := hB.byte
  have HA := Lib.hid a4
  clear a3 a4 hB
  go_enter Try.func38, Try.ntmps38
  go_wp2_with fail
  have HX1 := Lib.hid (heap_alloc2_old w (.cells #[.int .u32 1] 30) (.cells #[.int .u32 0] 30))
  have HX2 := Lib.hid (heap_alloc2_new w (.cells #[.int .u32 1] 30) (.cells #[.int .u32 0] 30))
  go_loopw [10] (fun i wr => ∃ k : Nat, k ≤ l.length ∧ i = .int .i64 k ∧ wr.heap[w.heap.size]? = some (.cells #[.int .u32 ((loS (l.take k) % 65521 : Nat) : Int)] 30 (0, 0)) ∧ wr.heap[w.heap.size + 1]? = some (.cells #[.int .u32 ((hiS (l.take k) % 65521 : Nat) : Int)] 30 (0, 0)) ∧ Below w.heap.size w wr) (fun i _ => l.length - (intOf i).toNat)
  case atStart => exact ⟨0, Nat.zero_le _, rfl, HX1.out, HX2.out, (below_alloc w _).alloc (by simp) _⟩
  case round =>
    obtain ⟨k, hk, rfl, h1, h2, hb⟩ := hrel
    have H1 := Lib.hid h1; have H2 := Lib.hid h2; have HB := Lib.hid hb
    by_cases hlt : k < l.length
    · obtain ⟨bb, oo, rfl, hbl, hc⟩ := HA.out k hlt
      have hc1 : wr.cell? ⟨bb, oo + k, none⟩ = some (.int .u8 (l[k].toNat)) := by rw [hb.cell (by exact hbl)]; exact hc k hlt
      have HT := Lib.hid (take_snoc l k hlt)
      clear hc HA h1 h2 hb
      go_wp2_with fail
      refine (takes_any l[k] _ _ w.heap.size (w.heap.size + 1) w.heap.size _ H1.out H2.out (by omega) (by omega) (by omega) (by omega) (by omega)).mono ?_
      rintro e w1 ⟨rfl, h1, h2, hb⟩
      have K1 := Lib.hid h1; have K2 := Lib.hid h2; have KB := Lib.hid hb
      clear h1 h2 hb
      go_wp2_with fail
      go_roundw
      case rel =>
        refine ⟨k + 1, hlt, by go_num, ?_, ?_, HB.out.trans KB.out⟩
        · rw [K1.out, HT.out, loS_snoc]; simp
        · rw [K2.out, HT.out, hiS_snoc, loS_snoc]
          congr 5; omega
      case measure => simp [intOf]; omega
    · obtain rfl : k = l.length := by omega
      rw [List.take_length] at h1 h2
      have hlo : loS l % 65521 < 65521 := Nat.mod_lt _ (by omega)
      have hhi : hiS l % 65521 < 65521 := Nat.mod_lt _ (by omega)
      obtain ⟨q1, _⟩ := blk h1
      obtain ⟨q3, _⟩ := blk h2
      have HB2 := Lib.hid hb
      clear h1 h2 hb H1 H2
      have HS := Lib.hid (show sumS l = hiS l % 65521 * 65536 + loS l % 65521 from rfl)
      generalize loS l % 65521 = lo at *
      generalize hiS l % 65521 = hi at *
      go_wp2_with fail
      go_ret
      refine ⟨?_, HB2.out⟩
      show Ending.returned (.int .u32 (bits BinOp.or IntKind.u32 ((hi : Int) * 65536) (lo : Int))) = _
      rw [or_u32 _ _ 16 (by omega) (by omega) (by omega) (by omega) (by omega) (by omega), HS.out]
      congr 2

set_option maxHeartbeats 400000 in
theorem parts_any (n : Nat) (w : World) (hn : n < 4294967296) :
   Calls Try.prog 37 #[.int .u32 n] w fun e w' => e = .returned (.tuple #[.int .u32 (n / 65536 : Nat), .int .u32 (n % 65536 : Nat)]) ∧ w = w' := by
  go_enter Try.func37, Try.ntmps37
  go_wp2_with fail
  go_returns
  refine ⟨?_, rfl⟩
  show Ending.returned (.tuple #[.int .u32 ((n : Int) / 65536), .int .u32 (bits BinOp.and IntKind.u32 (n : Int) ((65535 : Nat) : Int))]) = _
  rw [u32_and_nat _ _ (by omega) (by omega), show (65535 : Nat) = 2 ^ 16 - 1 from rfl, Nat.and_two_pow_sub_one_eq_mod]
  rfl

set_option maxHeartbeats 1000000 in
theorem low_any (l : List UInt8) (v : Value) (w : World) (hB : Sl EB w v l) (hl : l.length ≤ 10000000) :
   Calls Try.prog 49 #[v] w fun e w' => e = .returned (.int .u64 ((loS l % 65521 : Nat) : Int)) ∧ w = w' := by
  obtain ⟨aa, ca, rfl, a1, a2, a3, a4⟩ := hB.byte
  have HA := Lib.hid a4
  clear a3 a4 hB
  go_enter Try.func49, Try.ntmps49
  go_wp2_with fail
  go_loop [3, 4] (fun v i => ∃ k : Nat, k ≤ l.length ∧ i = .int .i64 k ∧ v = .int .u64 (loS (l.take k))) (fun _ i => l.length - (intOf i).toNat)
  case atStart => exact ⟨0, Nat.zero_le _, rfl, rfl⟩
  case round =>
    obtain ⟨k, hk, rfl, rfl⟩ := hrel
    have hle := loS_le (l.take k)
    rw [List.length_take] at hle
    by_cases hlt : k < l.length
    · obtain ⟨bb, oo, rfl, hbl, hc⟩ := HA.out k hlt
      have hc1 := hc k hlt
      have HT := Lib.hid (take_snoc l k hlt)
      have hlt2 : l[k].toNat < 256 := l[k].toNat_lt
      clear hc HA
      go_wp2_with fail
      go_round
      case rel => exact ⟨k + 1, hlt, by go_num, by rw [HT.out, loS_snoc]; go_num⟩
      case measure => simp [intOf]; omega
    · obtain rfl : k = l.length := by omega
      rw [List.take_length] at *
      go_wp2_with fail
      go_ret
      exact ⟨rfl, rfl⟩

set_option maxHeartbeats 1000000 in
theorem refsum_any (l : List UInt8) (v : Value) (w : World) (hB : Sl EB w v l) (hl : l.length ≤ 10000000) :
   Calls Try.prog 39 #[v] w fun e w' => e = .returned (.int .u32 (sumS l)) ∧ w = w' := by
  obtain ⟨aa, ca, hv, _⟩ := hB.ex
  subst hv
  have HB := Lib.hid hB
  have HL := Lib.hid (low_any l _ w hB hl)
  clear hB
  go_enter Try.func39, Try.ntmps39
  go_wp2_with fail
  go_loop [3, 4] (fun v i => ∃ k : Nat, k ≤ l.length ∧ i = .int .i64 ((k : Int) + 1) ∧ v = .int .u64 (refH l k)) (fun _ i => l.length + 1 - (intOf i).toNat)
  case atStart => exact ⟨0, Nat.zero_le _, rfl, rfl⟩
  case round =>
    obtain ⟨k, hk, rfl, rfl⟩ := hrel
    have hle := refH_le l k
    by_cases hlt : k < l.length
    · obtain ⟨hs1, hs2⟩ := HB.out.slice_hi eB (t := 22) Try.underlying22 .i64 ((k : Int) + 1) (by omega) (by omega)
      have hs2' : Sl EB w (.slice aa (k + 1) ca) (l.take (k + 1)) := hs2
      have hs1' := hs1
      have HS := Lib.hid hs2'
      have hkl : (l.take (k + 1)).length ≤ 10000000 := by rw [List.length_take]; omega
      have HR := Lib.hid (show refH l (k + 1) = refH l k + loS (l.take (k + 1)) % 65521 from rfl)
      clear hs2 hs2' hs1'
      go_wp2_with fail
      refine (low_any (l.take (k + 1)) _ _ HS.out hkl).mono ?_
      rintro e w1 ⟨rfl, rfl⟩
      have hlo : loS (l.take (k + 1)) % 65521 < 65521 := Nat.mod_lt _ (by omega)
      go_wp2_with fail
      go_round
      case rel => exact ⟨k + 1, hlt, by go_num, by rw [HR.out]; go_num⟩
      case measure => simp [intOf]; omega
    · obtain rfl : k = l.length := by omega
      have HM := Lib.hid (refH_mod l l.length (by omega))
      go_wp2_with fail
      refine HL.out.mono ?_
      rintro e w1 ⟨rfl, rfl⟩
      have hlo : loS l % 65521 < 65521 := Nat.mod_lt _ (by omega)
      go_wp2_with fail
      go_ret
      have := HM.out
      rw [List.take_length] at this
      have e : ((sumS l : Nat) : Int) = (refH l l.length : Int) % 65521 * 65536 + (loS l : Int) % 65521 := by unfold sumS; omega
      exact ⟨by rw [e]; rfl, rfl⟩
end Go.Proofs.Ytclhhnmafmicpaa
