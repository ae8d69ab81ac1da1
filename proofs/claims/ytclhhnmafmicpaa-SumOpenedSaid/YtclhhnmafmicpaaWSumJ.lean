/- Walk: SumJoins. Conditions: as each theorem states them. -/
import Derived.Test.YtclhhnmafmicpaaWSum
import Derived.Deep.CutBlock
namespace Go.Proofs.Ytclhhnmafmicpaa
open Go.RowKit
set_option linter.unusedVariables false

theorem snocRec {α : Type} {p : List α → Prop} (nil : p []) (snoc : ∀ l a, p l → p (l ++ [a])) (l : List α) : p l := by
  have : ∀ n (l : List α), l.length = n → p l := by
    intro n
    induction n with
    | zero => intro l h; rw [List.eq_nil_of_length_eq_zero h]; exact nil
    | succ n ih =>
      intro l h
      rcases List.eq_nil_or_concat l with rfl | ⟨m, c, rfl⟩
      · exact nil
      · rw [List.concat_eq_append] at h ⊢
        exact snoc m c (ih m (by simpa using h))
  exact this _ l rfl

theorem sums_append (b : List UInt8) : ∀ a : List UInt8, loS (a ++ b) + 1 = loS a + loS b ∧ hiS (a ++ b) + b.length = hiS a + hiS b + b.length * loS a := by
  refine snocRec (p := fun b => ∀ a : List UInt8, loS (a ++ b) + 1 = loS a + loS b ∧ hiS (a ++ b) + b.length = hiS a + hiS b + b.length * loS a) ?_ ?_ b
  · intro a; simp [loS, hiS, sums]
  · intro b c ih a
    obtain ⟨h1, h2⟩ := ih a
    rw [← List.append_assoc, hiS_snoc, loS_snoc, loS_snoc, hiS_snoc, loS_snoc, List.length_append, List.length_singleton, Nat.add_mul]
    omega

theorem loS_pos (l : List UInt8) : 1 ≤ loS l := by
  refine snocRec (p := fun l => 1 ≤ loS l) ?_ ?_ l
  · simp [loS, sums]
  · intro l c h; rw [loS_snoc]; omega

theorem joins_high (A L H : Nat) (hA : 1 ≤ A) : (L * (A % 65521 + 65521 - 1)) % 65521 = (L * (A - 1)) % 65521 := by
  have h := Nat.div_add_mod A 65521
  generalize A / 65521 = q at *
  generalize A % 65521 = r at *
  have e : L * (r + 65521 - 1) + 65521 * (L * q) = L * (A - 1) + 65521 * L := by
    have e1 : r + 65521 - 1 + 65521 * q = (A - 1) + 65521 := by omega
    have e2 := congrArg (L * ·) e1
    simp only [Nat.mul_add] at e2
    rw [Nat.mul_left_comm L 65521 q, Nat.mul_comm L 65521] at e2
    exact e2
  have := congrArg (· % 65521) e
  simpa [Nat.add_mul_mod_self_left] using this

set_option maxHeartbeats 2000000 in
set_option maxRecDepth 100000 in
theorem sumjoins_walk (W : World) (a : List UInt8) (va : Value) (hA : Sl EB W va a) (b : List UInt8) (vb : Value) (hB : Sl EB W vb b) :
    Calls Try.prog 12 #[va, vb] W fun e w' => e = .returned (.bool true) ∧ Below W.heap.size W w' := by
  obtain ⟨aa, ca, hv, _⟩ := hA.ex
  subst hv
  obtain ⟨ab, cb, hv, _⟩ := hB.ex
  subst hv
  have HA := Lib.hid hA; have HB := Lib.hid hB
  clear hA hB
  by_cases hl : a.length ≤ 5000 ∧ b.length ≤ 5000
  · obtain ⟨hla, hlb⟩ := hl
    have hap : (a ++ b).length ≤ 10000 := by rw [List.length_append]; omega
    have fa := sumS_lt a; have fb := sumS_lt b; have fab := sumS_lt (a ++ b)
    have pa : sumS a / 65536 = hiS a % 65521 ∧ sumS a % 65536 = loS a % 65521 := by unfold sumS; omega
    have pb : sumS b / 65536 = hiS b % 65521 ∧ sumS b % 65536 = loS b % 65521 := by unfold sumS; omega
    have pab : sumS (a ++ b) / 65536 = hiS (a ++ b) % 65521 ∧ sumS (a ++ b) % 65536 = loS (a ++ b) % 65521 := by unfold sumS; omega
    have j1 := (sums_append b a).1
    have j2 := (sums_append b a).2
    have hlo1 : 1 ≤ loS a := loS_pos a
    have j3 := joins_high (loS a) b.length 0 hlo1
    have e1 : loS (a ++ b) % 65521 = (loS a % 65521 + loS b % 65521 + 65521 - 1) % 65521 := by omega
    have e2 : hiS (a ++ b) % 65521 = (hiS a % 65521 + hiS b % 65521 + b.length * (loS a % 65521 + 65521 - 1) % 65521) % 65521 := by
      have : b.length * loS a = b.length * (loS a - 1) + b.length := by rw [Nat.mul_sub, Nat.mul_one]; have := Nat.le_mul_of_pos_right b.length hlo1; omega
      omega
    have hmul : b.length * (loS a % 65521 + 65521 - 1) ≤ 5000 * 131041 := Nat.mul_le_mul hlb (by omega)
    have b1 : hiS a % 65521 < 65521 ∧ loS a % 65521 < 65521 ∧ hiS b % 65521 < 65521 ∧ loS b % 65521 < 65521 ∧ hiS (a ++ b) % 65521 < 65521 ∧ loS (a ++ b) % 65521 < 65521 := by omega
    have PA := Lib.hid pa; have PB := Lib.hid pb; have PAB := Lib.hid pab
    clear j1 j2 j3 hlo1 pa pb pab
    generalize hiS a % 65521 = Ha at *
    generalize loS a % 65521 = La at *
    generalize hiS b % 65521 = Hb at *
    generalize loS b % 65521 = Lb at *
    generalize hiS (a ++ b) % 65521 = H at *
    generalize loS (a ++ b) % 65521 = L at *
    obtain ⟨b1, b2, b3, b4, b5, b6⟩ := b1
    have E1 := Lib.hid e1; have E2 := Lib.hid e2
    have FA := Lib.hid fa; have FB := Lib.hid fb; have FAB := Lib.hid fab
    have HM := Lib.hid (show b.length * (La + 65521 - 1) ≤ 655205000 from hmul); have HAP := Lib.hid hap
    clear e1 e2 fa fb fab hmul hap
    go_enter Try.func12, Try.ntmps12
    go_wp2_with fail
    refine (wakes3_any _).mono ?_
    rintro e w1 ⟨rfl, hb⟩
    have X1 := Lib.hid hb
    clear hb
    go_wp2_with fail
    refine (sum32_any a _ _ (HA.out.le X1.out) (by omega)).mono ?_
    rintro e w2 ⟨rfl, hb⟩
    have X2 := Lib.hid (bt X1.out hb)
    clear hb
    go_wp2_with fail
    refine (parts_any (sumS a) _ FA.out).mono ?_
    rintro e w3 ⟨he, rfl⟩
    rw [PA.out.1, PA.out.2] at he
    subst he
    go_wp2_with fail
    refine (sum32_any b _ _ (HB.out.le X2.out) (by omega)).mono ?_
    rintro e w3 ⟨rfl, hb⟩
    have X3 := Lib.hid (bt X2.out hb)
    clear hb
    go_wp2_with fail
    refine (parts_any (sumS b) _ FB.out).mono ?_
    rintro e w4 ⟨he, rfl⟩
    rw [PB.out.1, PB.out.2] at he
    subst he
    go_wp2_with fail
    refine (clone_any a _ _ (HA.out.le X3.out) (by omega)).mono ?_
    rintro e w4 ⟨v4, rfl, ho, hb⟩
    have O4 := Lib.hid ho; have Y4 := Lib.hid hb; have X4 := Lib.hid (bt X3.out hb)
    clear ho hb
    go_wp2_with (at_builtin; go_must (refine wpl_app eB O4.out (HB.out.le X4.out) rfl rfl Try.underlying22 rfl rfl (by simp [maxLen]; omega) (by simp [encB]; omega) Y4.out.size ?_; intro v5 w5 ho hb hg))
    have O5 := Lib.hid ho; have X5 := Lib.hid (X3.out.trans ((Y4.out.trans hb).mono X3.out.size))
    clear ho hb hg
    refine (sum32_any (a ++ b) _ _ O5.out.sl (by have := HAP.out; omega)).mono ?_
    rintro e w6 ⟨rfl, hb⟩
    have X6 := Lib.hid (bt X5.out hb)
    clear hb
    go_wp2_with fail
    refine (parts_any (sumS (a ++ b)) _ FAB.out).mono ?_
    rintro e w7 ⟨he, rfl⟩
    rw [PAB.out.1, PAB.out.2] at he
    subst he
    obtain ⟨M, hM⟩ : ∃ M : Nat, b.length * (La + 65521 - 1) = M := ⟨_, rfl⟩
    have hM1 : M ≤ 655205000 := by have := HM.out; omega
    have e1 : IntKind.u64.wrap ((b.length : Int) * ((La : Int) + 65521 - 1)) = (M : Int) := by
      rw [← hM, IntKind.wrap_u64, show (La : Int) + 65521 - 1 = ((La + 65521 - 1 : Nat) : Int) by omega, ← Int.natCast_mul]
      have := HM.out
      omega
    have t1 : ((L : Int) == ((La : Int) + Lb + 65521 - 1) % 65521) = true := by have := E1.out; simp only [beq_iff_eq]; omega
    have t2 : ((H : Int) == ((Ha : Int) + Hb + (M : Int) % 65521) % 65521) = true := by have := E2.out; rw [hM] at this; simp only [beq_iff_eq]; omega
    have T1 := Lib.hid t1; have T2 := Lib.hid t2
    clear hM t1 t2
    go_upto_region 9 with fail
    clear e1
    have HN := Lib.hid hM1
    have hN : (M : Int) % 65521 < 65521 ∧ 0 ≤ (M : Int) % 65521 := by omega
    clear hM1
    obtain ⟨hN1, hN2⟩ := hN
    generalize (M : Int) % 65521 = N at *
    have t1 : decide ((L : Int) = ((La : Int) + Lb + 65521 - 1) % 65521) = true := by have := E1.out; simp only [decide_eq_true_eq]; omega
    have t2 : decide ((H : Int) = ((Ha : Int) + Hb + N) % 65521) = true := by have := T2.out; simpa using this
    have t3 : decide ((H : Int) < 65521) = true := by simp only [decide_eq_true_eq]; omega
    have t4 : decide ((L : Int) < 65521) = true := by simp only [decide_eq_true_eq]; omega
    have t5 := T1.out; have t6 := T2.out
    go_wp2_with fail
    go_ret
    exact ⟨rfl, X6.out⟩
  · by_cases hla : a.length ≤ 5000
    · have hlb : ¬ b.length ≤ 5000 := fun h => hl ⟨hla, h⟩
      clear hl
      go_enter Try.func12, Try.ntmps12
      go_wp2_with fail
      refine (wakes3_any _).mono ?_
      rintro e w1 ⟨rfl, hb⟩
      have X1 := Lib.hid hb
      clear hb
      go_wp2_with fail
      go_ret
      exact ⟨rfl, X1.out⟩
    · clear hl
      go_enter Try.func12, Try.ntmps12
      go_wp2_with fail
      refine (wakes3_any _).mono ?_
      rintro e w1 ⟨rfl, hb⟩
      have X1 := Lib.hid hb
      clear hb
      go_wp2_with fail
      go_ret
      exact ⟨rfl, X1.out⟩
end Go.Proofs.Ytclhhnmafmicpaa
