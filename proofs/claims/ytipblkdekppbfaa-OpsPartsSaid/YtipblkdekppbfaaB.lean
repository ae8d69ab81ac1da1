/- Walks: graph.rises, ops.Mod, headraceref08.Mod. Conditions: as each theorem states them. -/
import Derived.Test.YtipblkdekppbfaaP
namespace Go.Proofs.Ytipblkdekppbfaa
open Go.RowKit
set_option linter.unusedVariables false

theorem ret_bool {a b : Bool} (h : a = b) : Ending.returned (.bool a) = .returned (.bool b) := by rw [h]

abbrev EN := encI 3
theorem eN : EN.ok Try.prog := Enc.ok_of (z := .int .i64 0) (by kernel_rfl) rfl

/-- a slice of numbers, cell by cell -/
theorem Sl.num {w : World} {v : Value} {l : List Int} {e : TypeId} (h : Sl (encI e) w v l) : ∃ a cap, v = .slice a l.length cap ∧ l.length ≤ cap ∧ cap ≤ maxLen ∧ (a = none → l = []) ∧
    (∀ k, k < l.length → ∃ b off, a = some ⟨b, off, none⟩ ∧ b < w.heap.size ∧ ∀ i (h : i < l.length), w.cell? ⟨b, off + i, none⟩ = some (.int .i64 l[i])) := by
  obtain ⟨a, cap, rfl, h1, h2, h3, h4⟩ := h.ex
  refine ⟨a, cap, rfl, h1, h2, fun ha => List.eq_nil_of_length_eq_zero (by have := h3 ha; omega), fun k hk => ?_⟩
  cases a with
  | none => have := h3 rfl; omega
  | some x =>
    obtain ⟨p, q, r⟩ := h4 x rfl (by omega)
    obtain ⟨b, off, sp⟩ := x
    simp only at p q r
    subst p
    refine ⟨b, off, rfl, q, fun i hi => ?_⟩
    have := r i hi 0 (.int .i64 l[i]) rfl
    simpa [encI] using this

def lastS (l : List Int) : Int := l.getLastD (-1)
theorem risesS_drop (below : Int) (l : List Int) (k : Nat) (hk : k < l.length) (last : Int) : risesS below last (l.drop k) = (decide (last < l[k]) && decide (l[k] < below) && risesS below l[k] (l.drop (k + 1))) := by
  rw [List.drop_eq_getElem_cons hk]; rfl

set_option maxHeartbeats 1000000 in
theorem rises_any (ins : List Int) (v : Value) (below : Int) (hb0 : 0 ≤ below) (hb1 : below ≤ 1000) (w : World) (hS : Sl EN w v ins) (hi : ∀ n ∈ ins, i64b n) :
    Calls Try.prog 33 #[v, .int .i64 below] w fun e w' => e = .returned (.bool (risesS below (-1) ins)) ∧ w = w' := by
  obtain ⟨aa, ca, rfl, a1, a2, a3, a4⟩ := hS.num
  have HA := Lib.hid a4; have HI := Lib.hid hi
  have hlen : ins.length ≤ 9223372036854775807 := by unfold maxLen at a2; omega
  clear a4 hS hi a3
  go_enter Try.func33, Try.ntmps33
  go_wp2_with fail
  go_loop [5, 10] (fun v i => ∃ (k : Nat) (last : Int), k ≤ ins.length ∧ i = .int .i64 k ∧ v = .int .i64 last ∧ i64b last ∧ risesS below (-1) ins = risesS below last (ins.drop k)) (fun _ i => ins.length - (intOf i).toNat)
  case atStart => exact ⟨0, -1, Nat.zero_le _, rfl, rfl, by unfold i64b; omega, by simp⟩
  case round =>
    obtain ⟨k, last, hk, rfl, rfl, hlb, hr⟩ := hrel
    obtain ⟨hlb1, hlb2⟩ := hlb
    by_cases hlt : k < ins.length
    · obtain ⟨bb, oo, rfl, hbl, hc⟩ := HA.out k hlt
      have hc1 := hc k hlt
      obtain ⟨n, hn⟩ : ∃ n, ins[k] = n := ⟨_, rfl⟩
      have hnb := HI.out _ (List.getElem_mem hlt)
      rw [hn] at hc1 hnb
      obtain ⟨hn1, hn2⟩ := hnb
      have hr2 := risesS_drop below ins k hlt last
      rw [hn] at hr2
      have HR := Lib.hid (hr.trans hr2)
      clear hc HA hr hr2 hn
      by_cases h1 : last < n
      · by_cases h2 : n < below
        · go_wp2_with fail
          go_round
          case rel => exact ⟨k + 1, n, hlt, by go_num, rfl, ⟨hn1, hn2⟩, by rw [HR.out]; simp [h1, h2]⟩
          case measure => simp [intOf]; omega
        · go_wp2_with fail
          go_ret
          exact ⟨ret_bool (by rw [HR.out, decide_eq_false (p := n < below) (by omega)]; simp), rfl⟩
      · go_wp2_with fail
        go_ret
        exact ⟨ret_bool (by rw [HR.out, decide_eq_false (p := last < n) (by omega)]; simp), rfl⟩
    · obtain rfl : k = ins.length := by omega
      have HR := Lib.hid hr
      clear hr
      go_wp2_with fail
      go_ret
      exact ⟨ret_bool (by rw [HR.out, List.drop_length]; rfl), rfl⟩

theorem mod_eq (x y : Int) (h : 1 ≤ y) : x % y = if x.tmod y < 0 then x.tmod y + y else x.tmod y := by
  have := Int.tmod_eq_emod (a := x) (b := y)
  have h1 := Int.emod_nonneg x (show y ≠ 0 by omega)
  have h2 := Int.emod_lt_of_pos x (show 0 < y by omega)
  have h3 : y.natAbs = y.toNat := by omega
  rw [this]
  split <;> split <;> omega

set_option maxHeartbeats 400000 in
theorem mod16_any (x y : Int) (hx : i64b x) (hy : i64b y) (w : World) : Calls Try.prog 16 #[.int .i64 x, .int .i64 y] w fun e w' => e = .returned (.int .i64 (modS x y)) ∧ w = w' := by
  obtain ⟨hx1, hx2⟩ := hx
  obtain ⟨hy1, hy2⟩ := hy
  by_cases h1 : y < 1
  · have HM := Lib.hid (show modS x y = 0 by unfold modS; rw [if_pos h1])
    go_enter Try.func16, Try.ntmps16
    go_wp2_with fail
    go_ret
    exact ⟨by rw [HM.out]; rfl, rfl⟩
  · have hm := mod_eq x y (by omega)
    have HM := Lib.hid (show modS x y = if x.tmod y < 0 then x.tmod y + y else x.tmod y by unfold modS; rw [if_neg h1, hm])
    have hq1 := Int.emod_nonneg x (show y ≠ 0 by omega)
    have hq2 := Int.emod_lt_of_pos x (show 0 < y by omega)
    clear hm
    by_cases h2 : x.tmod y < 0
    · go_enter Try.func16, Try.ntmps16
      go_wp2_with fail
      go_ret
      have e : wrap64 (x.tmod y + y) = modS x y := by
        rw [HM.out, if_pos h2]
        unfold wrap64
        have := Int.tmod_eq_emod (a := x) (b := y)
        split at this <;> omega
      exact ⟨by rw [← e]; rfl, rfl⟩
    · go_enter Try.func16, Try.ntmps16
      go_wp2_with fail
      go_ret
      exact ⟨by rw [HM.out, if_neg (by omega)]; rfl, rfl⟩

set_option maxHeartbeats 400000 in
theorem mod17_any (x y : Int) (hx : i64b x) (hy : i64b y) (w : World) : Calls Try.prog 17 #[.int .i64 x, .int .i64 y] w fun e w' => e = .returned (.int .i64 (modS x y)) ∧ w = w' := by
  obtain ⟨hx1, hx2⟩ := hx
  obtain ⟨hy1, hy2⟩ := hy
  by_cases h1 : y < 1
  · have HM := Lib.hid (show modS x y = 0 by unfold modS; rw [if_pos h1])
    go_enter Try.func17, Try.ntmps17
    go_wp2_with fail
    go_ret
    exact ⟨by rw [HM.out]; rfl, rfl⟩
  · have hm := mod_eq x y (by omega)
    have HM := Lib.hid (show modS x y = if x.tmod y < 0 then x.tmod y + y else x.tmod y by unfold modS; rw [if_neg h1, hm])
    have hq1 := Int.emod_nonneg x (show y ≠ 0 by omega)
    have hq2 := Int.emod_lt_of_pos x (show 0 < y by omega)
    clear hm
    by_cases h2 : x.tmod y < 0
    · go_enter Try.func17, Try.ntmps17
      go_wp2_with fail
      go_ret
      have e : wrap64 (x.tmod y + y) = modS x y := by
        rw [HM.out, if_pos h2]
        unfold wrap64
        have := Int.tmod_eq_emod (a := x) (b := y)
        split at this <;> omega
      exact ⟨by rw [← e]; rfl, rfl⟩
    · go_enter Try.func17, Try.ntmps17
      go_wp2_with fail
      go_ret
      exact ⟨by rw [HM.out, if_neg (by omega)]; rfl, rfl⟩
end Go.Proofs.Ytipblkdekppbfaa
