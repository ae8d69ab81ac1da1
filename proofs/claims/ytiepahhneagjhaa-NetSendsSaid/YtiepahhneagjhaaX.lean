/- What maps stand for; a net of at most 60 parcels. -/
import Derived.Test.YtiepahhneagjhaaW
import Derived.Test.YtiepahhneagjhaaM42
import Derived.Test.YtiepahhneagjhaaC
import Derived.Test.YtiepahhneagjhaaK
namespace Go.Proofs.Ytiepahhneagjhaa
open Go.RowKit
open Nat renaming reduceEqDiff → nA, reduceLT → nB, reduceLeDiff → nC, reduceAdd → nD, reduceMul → nE, reduceSub → nF, reduceBEq → nG
open Int renaming reduceToNat → iA, reduceLT → iB, reduceLE → iC, reduceEq → iD
open Bool renaming and_eq_true → bA, or_eq_true → bB, or_eq_false_iff → bC, and_eq_false_iff → bD, not_eq_true' → bE, not_eq_false' → bF, not_true → bG, not_false → bH
set_option linter.all false
set_option maxHeartbeats 4000000
attribute [local irreducible] AW Does ACall tE tS tB tZ

abbrev kU (n : Int) : Value := .int .u64 n
theorem kkU : KeyK Try.prog 22 kU := KeyK.int tU22
/-- the map of what was sent -/
structure SM (ops : List Op28) (ls : List (ME Int)) (c : Nat) (M : Mem) : Prop where
  len : ls.length = ops.length
  at_ : ∀ (i : Nat) (e : ME Int), ls[i]? = some e → e.k = (i : Int) + 1 ∧ ∃ s, ops[i]? = some s ∧ e.y = .g (Op28.av s)
  bw : BW ls c
  mw : MW M ls
theorem SM.nil (M : Mem) : SM [] [] 0 M := ⟨rfl, fun i e h => by simp at h, BW.nil 0, MW.nil M⟩
theorem SM.none {ops : List Op28} {ls : List (ME Int)} {c : Nat} {M : Mem} (h : SM ops ls c M) : mget ((ops.length : Int) + 1) ls = none := by
  rw [mget_none_iff]
  intro hm
  obtain ⟨e, he, hk⟩ := List.mem_map.1 hm
  obtain ⟨i, hi⟩ := List.getElem?_of_mem he
  have := (h.at_ i e hi).1
  have := (List.getElem?_eq_some_iff.1 hi).1
  have := h.len
  omega
theorem SM.get {ops : List Op28} {ls : List (ME Int)} {c : Nat} {M : Mem} (h : SM ops ls c M) {i : Nat} {s : Op28} (hs : ops[i]? = some s) : ∃ v b, mget ((i : Int) + 1) ls = some ⟨(i : Int) + 1, v, .g (Op28.av s), b⟩ := by
  have hi : i < ls.length := by rw [h.len]; exact (List.getElem?_eq_some_iff.1 hs).1
  cases hm : mget ((i : Int) + 1) ls with
  | none =>
    rw [mget_none_iff] at hm
    exact (hm (List.mem_map.2 ⟨ls[i], List.getElem_mem hi, (h.at_ i _ (List.getElem?_eq_getElem hi)).1⟩)).elim
  | some e =>
    obtain ⟨h1, h2⟩ := mget_mem hm
    obtain ⟨j, hj⟩ := List.getElem?_of_mem h1
    obtain ⟨g1, s', g2, g3⟩ := h.at_ j e hj
    have : j = i := by omega
    subst this
    rw [hs, Option.some.injEq] at g2; subst g2
    obtain ⟨ek, ev, ey, eb⟩ := e
    simp only at h2 g3; subst h2 g3
    exact ⟨ev, eb, rfl⟩
theorem SM.put {ops : List Op28} {ls : List (ME Int)} {c : Nat} {M M' : Mem} (h : SM ops ls c M) {o : Op28} {v : Value} (hM : M.le M') (hv : V M' (.g (Op28.av o)) v) : SM (ops ++ [o]) (mput ((ops.length : Int) + 1) v (.g (Op28.av o)) c ls) (mclk ((ops.length : Int) + 1) ls c) M' := by
  refine ⟨?_, fun i e he => ?_, h.bw.put _ _ _, h.mw.put hM hv⟩
  · rw [mput_none h.none]; simp [h.len]
  · rw [mput_none h.none] at he
    rcases Nat.lt_or_ge i ls.length with c1 | c1
    · rw [List.getElem?_append_left c1] at he
      obtain ⟨g1, s, g2, g3⟩ := h.at_ i e he
      exact ⟨g1, s, by rw [List.getElem?_append_left (by rw [← h.len]; exact c1)]; exact g2, g3⟩
    · have hi := (List.getElem?_eq_some_iff.1 he).1
      simp at hi
      have hi2 : i = ls.length := by omega
      rw [List.getElem?_append_right c1, hi2] at he
      simp at he
      subst he
      have := h.len
      refine ⟨by simp only; omega, o, ?_, rfl⟩
      rw [hi2, h.len, List.getElem?_append_right (Nat.le_refl _)]
      simp
/-- the map of what is over -/
structure OM (ov : Int → Bool) (lo : List (ME Int)) (M : Mem) : Prop where
  at_ : ∀ k, (match mget k lo with | some e => e.y | none => .c (.bool false)) = .c (.bool (ov k))
  mw : MW M lo
theorem OM.nil (M : Mem) : OM (fun _ => false) [] M := ⟨fun k => rfl, MW.nil M⟩
theorem OM.put {ov : Int → Bool} {lo : List (ME Int)} {M : Mem} (h : OM ov lo M) (k : Int) (b : Bool) (c : Nat) : OM (setV ov k b) (mput k (.bool b) (.c (.bool b)) c lo) M := by
  refine ⟨fun k' => ?_, h.mw.put (Mem.le.refl M) (.c _)⟩
  have h1 := mget_put k k' (.bool b) (.c (.bool b)) c lo
  have h2 := h.at_ k'
  unfold setV
  by_cases e : k' = k
  · rw [if_pos e] at h1 ⊢
    cases hm : mget k' (mput k (.bool b) (.c (.bool b)) c lo) with
    | none => rw [hm] at h1; cases h1
    | some x => rw [hm] at h1; simpa using h1
  · rw [if_neg e] at h1 ⊢
    cases hm : mget k' (mput k (.bool b) (.c (.bool b)) c lo) with
    | none =>
      rw [hm] at h1
      cases hm2 : mget k' lo with
      | none => rw [hm2] at h2; exact h2
      | some x => rw [hm2] at h1; cases h1
    | some x =>
      rw [hm] at h1
      cases hm2 : mget k' lo with
      | none => rw [hm2] at h1; cases h1
      | some x2 => rw [hm2] at h1 h2; simp at h1; rw [← h2]; exact h1
theorem lenV_map (r : Option Nat) : lenV (.c (.map r)) = none := rfl
theorem tE_sent : tE Try.prog 41 = none := by kernel_rfl
theorem bind_none' {α β : Type} (f : α → Option β) : (none : Option α).bind f = none := rfl
attribute [push_cast] lenV_map tE_sent bind_none'
theorem OM.v {ov : Int → Bool} {lo : List (ME Int)} {M : Mem} (h : OM ov lo M) (k : Int) : ((mget k lo).map ME.y).getD (.c (.bool false)) = .c (.bool (ov k)) := by
  have := h.at_ k
  cases hg : mget k lo <;> rw [hg] at this <;> simpa using this
theorem info_bool : (Try.prog.info? 4).bind (·.zero) = some (.bool false) := by kernel_rfl
theorem zero_bool (w : World) : (zeroValue 4).run Try.prog w = .ok (.bool false) w := by
  have h := info_bool
  cases hi : Try.prog.info? 4 with
  | none => rw [hi] at h; cases h
  | some i =>
    rw [hi] at h
    have h2 : i.zero = some (.bool false) := h
    simp [zeroValue, typeInfo, hi, h2, Sem.run_bind]
theorem sz_ok {n : Nt} (h : nOk n = true) : Sz n := by
  obtain ⟨s, l⟩ := n
  rw [nOk_iff] at h
  exact ⟨by simp only; omega, fun p hp => by have := (h.2.2.1 p hp).2.2.2.2.2; omega⟩
end Go.Proofs.Ytiepahhneagjhaa
