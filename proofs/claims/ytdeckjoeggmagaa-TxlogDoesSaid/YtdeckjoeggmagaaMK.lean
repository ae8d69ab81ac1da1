/- Keys that are names of transactions; sets of them. -/
import Derived.Test.YtdeckjoeggmagaaA
import Derived.DeepKeys3
namespace Go.Proofs.Ytdeckjoeggmagaa
open Go.RowKit
open Nat renaming reduceEqDiff → nA, reduceLT → nB, reduceLeDiff → nC, reduceAdd → nD, reduceMul → nE, reduceSub → nF, reduceBEq → nG
open Int renaming reduceToNat → iA, reduceLT → iB, reduceLE → iC, reduceEq → iD
open Bool renaming and_eq_true → bA, or_eq_true → bB, or_eq_false_iff → bC, and_eq_false_iff → bD, not_eq_true' → bE, not_eq_false' → bF, not_true → bG, not_false → bH
set_option linter.all false
set_option maxHeartbeats 4000000
attribute [local irreducible] AW Does ACall tE tS tB tZ

abbrev u3 (k : Nm) : List Value := [.int .i64 k.s, .int .i64 k.a, .int .i64 k.n]
abbrev kN (k : Nm) : Value := .agg (u3 k).toArray
theorem i_int : ∃ i, Try.prog.info? 3 = some i ∧ i.size = 1 := by
  have hS := tS3
  unfold tS at hS
  cases h : Try.prog.info? 3 with
  | none => rw [h] at hS; cases hS
  | some i => rw [h] at hS; exact ⟨i, rfl, by simpa using hS⟩
theorem chkN (n : Nat) (w : World) (em : Bool) (k : Nm) : (Instr.checkKey em (n + 1 + 1) 26 (kN k)).run Try.prog w = .ok () w := by
  obtain ⟨i, hi, hi2⟩ := i_int
  have c : ∀ (x : Int) (w : World), (Instr.checkKey em (n + 1) 3 (.int .i64 x)).run Try.prog w = .ok () w := fun x w => by
    rw [Instr.checkKey]
    simp only [Sem.run_bind, run_underlying tU3, Result.andThen_ok]
    rfl
  have p : ∀ (o : Nat) (v : Value) (w : World), (u3 k)[o]? = some v → (part 3 (u3 k).toArray o).run Try.prog w = .ok v w := fun o v w h => by
    simp [part, isAgg, run_underlying tU3]
    have h2 : o < 3 := by have := (List.getElem?_eq_some_iff.1 h).1; simpa using this
    rcases o with _ | _ | _ | o
    · simpa using h
    · simpa using h
    · simpa using h
    · omega
  rw [Instr.checkKey]
  simp only [Sem.run_bind, run_underlying Try.underlying26, Result.andThen_ok]
  simp [Sem.run_bind, p 0 _ _ rfl, p 1 _ _ rfl, p 2 _ _ rfl, c]
theorem kkN : KeyK Try.prog 26 kN :=
  KeyK.agg (us := u3) (d := _) Try.underlying26 (fun a b => rfl) (fun w em k => chkN 9998 w em k) (fun k => by simp [Instr.sameBits]) (fun w a b => by
    have h := eqT26 a.s b.s a.a b.a a.n b.n w
    have e : (decide (a.s = b.s) && (decide (a.a = b.a) && decide (a.n = b.n))) = decide (a = b) := by
      rw [Bool.eq_iff_iff]
      cases a; cases b
      simp
    rw [e] at h
    exact h)
theorem info_bool : (Try.prog.info? 4).bind (·.zero) = some (.bool false) := by kernel_rfl
theorem zero_bool (w : World) : (zeroValue 4).run Try.prog w = .ok (.bool false) w := by
  have h := info_bool
  cases hi : Try.prog.info? 4 with
  | none => rw [hi] at h; cases h
  | some i =>
    rw [hi] at h
    have h2 : i.zero = some (.bool false) := h
    simp [zeroValue, typeInfo, hi, h2, Sem.run_bind]
/-- a map that stands for a set of names -/
structure SetN (s : List Nm) (l : List (ME Nm)) : Prop where
  mem : ∀ n, n ∈ l.map ME.k ↔ n ∈ s
  y : ∀ e ∈ l, e.y = .c (.bool true)
  mw : MW M0 l
theorem SetN.nil : SetN [] [] := ⟨fun n => by simp, fun e h => (by cases h), MW.nil _⟩
theorem mput_y (k : Nm) (v : Value) (y : AV) (c : Nat) : ∀ (l : List (ME Nm)), (∀ e ∈ l, e.y = y) → ∀ e ∈ mput k v y c l, e.y = y
  | [], _, e, he => by simp only [mput, List.mem_singleton] at he; subst he; rfl
  | x :: l, h, e, he => by
    unfold mput at he
    split at he
    · rcases List.mem_cons.1 he with rfl | he
      · rfl
      · exact h e (by simp [he])
    · rcases List.mem_cons.1 he with rfl | he
      · exact h e (by simp)
      · exact mput_y k v y c l (fun e' h' => h e' (by simp [h'])) e he
theorem SetN.put {s : List Nm} {l : List (ME Nm)} (h : SetN s l) (n : Nm) (c : Nat) : SetN (n :: s) (mput n (.bool true) (.c (.bool true)) c l) := by
  refine ⟨fun m => ?_, mput_y _ _ _ _ _ h.y, h.mw.put (Mem.le.refl _) (.c _)⟩
  rw [mput_keys, List.mem_cons, ← h.mem]
  split
  · rename_i hm
    constructor
    · exact .inr
    · rintro (rfl | g)
      · exact hm
      · exact g
  · simp [or_comm]
theorem SetN.v {s : List Nm} {l : List (ME Nm)} (h : SetN s l) (n : Nm) : ((mget n l).map ME.y).getD (.c (.bool false)) = .c (.bool (decide (n ∈ s))) := by
  cases hg : mget n l with
  | none =>
    rw [mget_none_iff, h.mem] at hg
    rw [decide_eq_false hg]; rfl
  | some e =>
    obtain ⟨h1, h2⟩ := mget_mem hg
    have : n ∈ s := (h.mem n).1 (List.mem_map.2 ⟨e, h1, h2⟩)
    rw [decide_eq_true this]
    simp [h.y e h1]
end Go.Proofs.Ytdeckjoeggmagaa
