/- Keys that are two numbers. -/
import Derived.Test.YtfdedgeljijfdaaA
import Derived.DeepKeys3
namespace Go.Proofs.Ytfdedgeljijfdaa
open Go.RowKit
open Nat renaming reduceEqDiff → nA, reduceLT → nB, reduceLeDiff → nC, reduceAdd → nD, reduceMul → nE, reduceSub → nF, reduceBEq → nG
open Int renaming reduceToNat → iA, reduceLT → iB, reduceLE → iC, reduceEq → iD
open Bool renaming and_eq_true → bA, or_eq_true → bB, or_eq_false_iff → bC, and_eq_false_iff → bD, not_eq_true' → bE, not_eq_false' → bF, not_true → bG, not_false → bH
set_option linter.all false
set_option maxHeartbeats 4000000
attribute [local irreducible] AW Does ACall tE tS tB tZ

abbrev u2 (k : Int × Int) : List Value := [.int .i64 k.1, .int .i64 k.2]
abbrev k2V (k : Int × Int) : Value := .agg (u2 k).toArray
theorem u_arr : Try.prog.underlying 53 = some (.array 2 3) := by kernel_rfl
theorem i_int : ∃ i, Try.prog.info? 3 = some i ∧ i.size = 1 := by
  have hS := tS3
  unfold tS at hS
  cases h : Try.prog.info? 3 with
  | none => rw [h] at hS; cases hS
  | some i => rw [h] at hS; exact ⟨i, rfl, by simpa using hS⟩
theorem chkN (n : Nat) (w : World) (em : Bool) (k : Int × Int) : (Instr.checkKey em (n + 1 + 1) 53 (k2V k)).run Try.prog w = .ok () w := by
  obtain ⟨i, hi, hi2⟩ := i_int
  have hc : Try.prog.cellsOf 3 = 1 := by unfold Program.cellsOf; simp [hi, hi2]
  have p0 : ∀ w : World, (part 3 (u2 k).toArray (0 * 1)).run Try.prog w = .ok (.int .i64 k.1) w := fun w => by
    simp [part, isAgg, run_underlying tU3]
  have p1 : ∀ w : World, (part 3 (u2 k).toArray (1 * 1)).run Try.prog w = .ok (.int .i64 k.2) w := fun w => by
    simp [part, isAgg, run_underlying tU3]
  have c : ∀ (x : Int) (w : World), (Instr.checkKey em (n + 1) 3 (.int .i64 x)).run Try.prog w = .ok () w := fun x w => by
    rw [Instr.checkKey]
    simp only [Sem.run_bind, run_underlying tU3, Result.andThen_ok]
    rfl
  rw [Instr.checkKey]
  simp only [Sem.run_bind, run_underlying u_arr, Result.andThen_ok]
  simp only [Std.Legacy.Range.forIn_eq_forIn_range', Std.Legacy.Range.size, Nat.sub_zero, Nat.add_one_sub_one, Nat.div_one]
  have hr : List.range' 0 2 = [0, 1] := rfl
  simp only [hr, List.forIn_cons, List.forIn_nil, Sem.run_bind, run_sizeOf _ hi, hc, Result.andThen_ok, p0, p1, c, Sem.run_pure]
theorem chk2 (w : World) (em : Bool) (k : Int × Int) : (Instr.checkKey em 10000 53 (k2V k)).run Try.prog w = .ok () w := chkN 9998 w em k
theorem kk2 : KeyK Try.prog 53 k2V :=
  KeyK.agg (us := u2) u_arr (fun a b => rfl) chk2 (fun k => by simp [Instr.sameBits]) (fun w a b => by
    have h := run_eq_ints w 9998 u_arr tU3 tS3 [a.1, a.2] [b.1, b.2] rfl rfl
    have e : decide ([a.1, a.2] = [b.1, b.2]) = decide (a = b) := by
      rw [decide_eq_decide]
      obtain ⟨a1, a2⟩ := a
      obtain ⟨b1, b2⟩ := b
      simp
    rw [e] at h
    exact h)
theorem info_bool : (Try.prog.info? 4).bind (·.zero) = some (.bool false) := by kernel_rfl
theorem zero_bool (w : World) : (zeroValue 4).run Try.prog w = .ok (.bool false) w := by
  have h := info_bool
  cases hi : Try.prog.info? 4 with
  | none => rw [hi] at h; cases h
  | some i =>
    rw [hi] at h
    have h2 : i.zero = some (.bool false) := h
    simp [zeroValue, typeInfo, hi, h2, Sem.run_bind]
end Go.Proofs.Ytfdedgeljijfdaa
