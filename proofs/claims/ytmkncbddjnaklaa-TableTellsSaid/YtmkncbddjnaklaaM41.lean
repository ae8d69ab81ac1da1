/- Ranges over a map. -/
import Derived.Test.YtmkncbddjnaklaaM39
import Derived.Maps.RangeRun
namespace Go.Proofs.Ytmkncbddjnaklaa
open Go.RowKit
set_option linter.all false

/-- a map's iterator, in a block of its own -/
def itb (bm since : Nat) (seen : List Nat) (c0 : Nat) : Blk := .m (.mapIter (some bm) since seen.toArray c0) M0
def itp (n : Nat) : AV := .c (.pointer (some ⟨n, 0, none⟩))
section
variable {α : Type} [DecidableEq α]
/-- stamps: each its own, all elder than the clock -/
def BW (l : List (ME α)) (c : Nat) : Prop := (l.map ME.b).Nodup ∧ ∀ e ∈ l, e.b < c
theorem BW.nil (c : Nat) : BW ([] : List (ME α)) c := ⟨by simp, fun e h => by cases h⟩
theorem mput_b (k : α) (v : Value) (y : AV) (c : Nat) : ∀ l : List (ME α), (mput k v y c l).map ME.b = if (mget k l).isSome then l.map ME.b else l.map ME.b ++ [c]
  | [] => by simp [mput, mget]
  | e :: es => by
    unfold mput mget
    by_cases h : k = e.k
    · simp [h]
    · rw [if_neg h, if_neg h, List.map_cons, mput_b k v y c es]
      by_cases g : (mget k es).isSome = true
      · simp [g]
      · simp [g]
theorem BW.put {l : List (ME α)} {c : Nat} (h : BW l c) (k : α) (v : Value) (y : AV) : BW (mput k v y c l) (mclk k l c) := by
  have hb : ∀ x ∈ l.map ME.b, x < c := fun x hx => by
    obtain ⟨e, he, rfl⟩ := List.mem_map.1 hx; exact h.2 e he
  have hp := mput_b k v y c l
  unfold mclk
  by_cases g : (mget k l).isSome = true
  · rw [if_pos g] at hp ⊢
    exact ⟨by rw [hp]; exact h.1, fun e he => hb _ (by rw [← hp]; exact List.mem_map_of_mem he)⟩
  · rw [if_neg g] at hp ⊢
    refine ⟨by rw [hp]; exact List.nodup_append.2 ⟨h.1, by simp, fun a ha b hb' => by rw [List.mem_singleton] at hb'; subst hb'; exact Nat.ne_of_lt (hb a ha)⟩, fun e he => ?_⟩
    have : e.b ∈ l.map ME.b ++ [c] := by rw [← hp]; exact List.mem_map_of_mem he
    rcases List.mem_append.1 this with h1 | h1
    · have := hb _ h1; omega
    · rw [List.mem_singleton] at h1; omega
theorem mdel_sub (k : α) : ∀ l : List (ME α), (mdel k l).Sublist l
  | [] => .slnil
  | e :: es => by
    unfold mdel
    by_cases h : k = e.k
    · rw [if_pos h]; exact List.sublist_cons_self e es
    · rw [if_neg h]; exact (mdel_sub k es).cons_cons e
theorem BW.del {l : List (ME α)} {c : Nat} (h : BW l c) (k : α) : BW (mdel k l) c :=
  ⟨h.1.sublist ((mdel_sub k l).map _), fun e he => h.2 e ((mdel_sub k l).mem he)⟩
theorem BW.le {l : List (ME α)} {c c' : Nat} (h : BW l c) (hc : c ≤ c') : BW l c' := ⟨h.1, fun e he => Nat.lt_of_lt_of_le (h.2 e he) hc⟩
end

section
variable {P : Program} {o : Oper} {a : Nat → AV} {H : Heap} {K : AV → Heap → Prop} {α : Type} [DecidableEq α] {enc : α → Value}
theorem does_range {t kt et : TypeId} {m : Operand} {n : Nat} {l : List (ME α)} {c : Nat} {M : Mem} (ho : o.op = .range t m) (hm : ev a m = .c (.map (some n))) (hH : H n = some (bm enc l c M)) (ht : P.underlying t = some (.map kt et))
    (h : ∀ r, H r = none → K (itp r) (upd H r (itb n c [] c))) : Does P o a H K :=
  Does.ran (fun c => by simp [ho]) fun F w act hv hs => by
    obtain ⟨b1, b2⟩ : w.heap[n]? = some (.map (ents enc l) c) ∧ M.le F := hs.blk n _ hH
    refine ⟨.pointer (some ⟨w.heap.size, 0, none⟩), w.alloc (.mapIter (some n) c #[] c), F, _, itp w.heap.size, ?_, .c _, hs.alloc _ (itb n c [] c) ⟨heap_alloc_new w _, M0_le F⟩, Ext.alloc H w _ _, h _ (hs.fresh (Nat.le_refl _))⟩
    simp [execOp, ho, hv.c hm, Sem.run_bind, run_range_map w t kt et n _ c ht b1]
theorem does_next {x : Operand} {r n since c0 : Nat} {seen : List Nat} {l : List (ME α)} {c : Nat} {M : Mem} (kA : α → AV) (hkA : ∀ F k, V F (kA k) (enc k)) (ho : o.op = .next x false) (hx : ev a x = itp r) (hr : H r = some (itb n since seen c0)) (hH : H n = some (bm enc l c M)) (hW : MW M l)
    (hold : ∀ e ∈ l, e.b < since) (hsc : since ≤ c0) (hE : (∀ e ∈ l, e.b ∈ seen) → K (.t [.c (.bool false)]) H)
    (hN : ∀ e ∈ l, ¬ e.b ∈ seen → K (.t [.c (.bool true), kA e.k, e.y]) (upd H r (itb n since (seen ++ [e.b]) c))) : Does P o a H K :=
  Does.ran (fun c => by simp [ho]) fun F w act hv hs => by
    obtain ⟨b1, b2⟩ : w.heap[n]? = some (.map (ents enc l) c) ∧ M.le F := hs.blk n _ hH
    obtain ⟨r1, -⟩ : w.heap[r]? = some (.mapIter (some n) since seen.toArray c0) ∧ M0.le F := hs.blk r _ hr
    have hxx : act.eval x = .pointer (some ⟨r, 0, none⟩) := hv.c hx
    have hmem : ∀ z ∈ (ents enc l).toList, ∃ e ∈ l, z = ⟨enc e.k, e.v, e.b⟩ := fun z hz => by
      unfold ents at hz; rw [List.toList_toArray] at hz
      obtain ⟨e, he, rfl⟩ := List.mem_map.1 hz
      exact ⟨e, he, rfl⟩
    rcases run_next_at (P := P) w o.type r n since c0 seen.toArray (ents enc l) c r1 b1 (fun z hz => by obtain ⟨e, he, rfl⟩ := hmem z hz; exact hold e he) hsc with ⟨h0, h1⟩ | ⟨z, hz, w1, hw, h1⟩
    · refine ⟨_, w, F, H, _, ?_, V.t_of (Vs.cons (.c _) (Vs.nil F)), hs, Ext.refl F H w, hE fun e he => ?_⟩
      · simp [execOp, ho, hxx, Sem.run_bind, h1]
      · refine Classical.byContradiction fun hc => ?_
        have h2 : (leftOf (ents enc l) seen.toArray).toList = [] := by
          have := Array.eq_empty_of_size_eq_zero h0
          rw [this]
        have : (⟨enc e.k, e.v, e.b⟩ : MapEntry) ∈ (leftOf (ents enc l) seen.toArray).toList := by
          unfold leftOf ents
          simp only [Array.toList_filter, List.mem_filter, List.toList_toArray]
          exact ⟨List.mem_map.2 ⟨e, he, rfl⟩, by simpa using hc⟩
        rw [h2] at this; cases this
    · have hz2 : z ∈ (ents enc l).toList ∧ ¬ z.born ∈ seen := by
        unfold leftOf at hz
        simp only [Array.toList_filter, List.mem_filter] at hz
        exact ⟨hz.1, by simpa using hz.2⟩
      obtain ⟨e, he, rfl⟩ := hmem z hz2.1
      have hs1 : Sat F H w1 := by
        rcases hw with rfl | rfl
        · exact hs
        · exact hs.drew
      have he1 : Ext F H w F H w1 := by
        rcases hw with rfl | rfl
        · exact Ext.refl F H _
        · exact Ext.drew F H _
      have r2 : w1.heap[r]? = some (.mapIter (some n) since seen.toArray c0) := by rcases hw with rfl | rfl <;> exact r1
      obtain ⟨g1, g2⟩ := MapKept.heap_set (o' := .mapIter (some n) since (seen.toArray.push e.b) c) r2
      have hpush : seen.toArray.push e.b = (seen ++ [e.b]).toArray := by simp
      refine ⟨_, ChangeMaps.setBlock w1 r (.mapIter (some n) since (seen.toArray.push e.b) c), F, upd H r (itb n since (seen ++ [e.b]) c), _, ?_, V.t_of (Vs.cons (.c (.bool true)) (Vs.cons (hkA F e.k) (Vs.cons ((hW e he).mono b2) (Vs.nil F)))), hs1.turn hr (by simp [ChangeMaps.setBlock]) (fun m hm _ => g2 m hm) _ ⟨by rw [← hpush]; exact g1, M0_le F⟩, he1.trans (Ext.turn (w := w1) (w' := ChangeMaps.setBlock w1 r (.mapIter (some n) since (seen.toArray.push e.b) c)) hr rfl rfl rfl (by simp [ChangeMaps.setBlock]) (fun m hm _ => g2 m hm) _), hN e he hz2.2⟩
      simp [execOp, ho, hxx, Sem.run_bind, h1]
theorem does_entry {x : Operand} {r n since : Nat} {seen : List Nat} {l : List (ME α)} {c : Nat} {M : Mem} {e : ME α} (kA : α → AV) (hkA : ∀ F k, V F (kA k) (enc k)) (ho : o.op = .entry x) (hx : ev a x = itp r) (hr : H r = some (itb n since (seen ++ [e.b]) c)) (hH : H n = some (bm enc l c M)) (hW : MW M l) (hB : BW l c) (he : e ∈ l)
    (h : K (.t [kA e.k, e.y]) H) : Does P o a H K :=
  Does.val (fun c => by simp [ho]) h fun F w act hv hs => by
    obtain ⟨b1, b2⟩ : w.heap[n]? = some (.map (ents enc l) c) ∧ M.le F := hs.blk n _ hH
    obtain ⟨r1, -⟩ : w.heap[r]? = some (.mapIter (some n) since (seen ++ [e.b]).toArray c) ∧ M0.le F := hs.blk r _ hr
    have hxx : act.eval x = .pointer (some ⟨r, 0, none⟩) := hv.c hx
    have hpush : (seen ++ [e.b]).toArray = seen.toArray.push e.b := by simp
    rw [hpush] at r1
    have := run_entry_at (P := P) w r n since seen.toArray (ents enc l) c ⟨enc e.k, e.v, e.b⟩ r1 b1 (by unfold ents; rw [List.toList_toArray]; exact List.mem_map.2 ⟨e, he, rfl⟩) (by unfold ents; rw [List.toList_toArray, List.map_map]; exact hB.1)
    exact ⟨_, by simp [execOp, ho, hxx, Sem.run_bind, this], V.t_of (Vs.cons (hkA F e.k) (Vs.cons ((hW e he).mono b2) (Vs.nil F)))⟩
theorem does_lookupV {t kt et : TypeId} {m x : Operand} {n : Nat} {l : List (ME α)} {c : Nat} {M : Mem} {k : α} {r : AV} (KK : KeyK P kt enc) (ho : o.op = .lookup t m x false) (hm : ev a m = .c (.map (some n))) (hH : H n = some (bm enc l c M)) (hW : MW M l)
    (ht : P.underlying t = some (.map kt et)) {z : Value} {zA : AV} (hz : ∀ w, (zeroValue et).run P w = .ok z w) (hzA : ∀ F, V F zA z) (hk : IsK (ev a x) (enc k))
    (hr : ((mget k l).map ME.y).getD zA = r) (h : K r H) : Does P o a H K :=
  does_lookup1 KK ho hm hH hW ht hz hzA hk (by subst hr; cases hg : mget k l <;> simpa [hg] using h)
theorem does_lookupY {t kt et : TypeId} {m x : Operand} {n : Nat} {l : List (ME α)} {c : Nat} {M : Mem} {k : α} {e : ME α} (KK : KeyK P kt enc) (ho : o.op = .lookup t m x true) (hm : ev a m = .c (.map (some n))) (hH : H n = some (bm enc l c M)) (hW : MW M l)
    (ht : P.underlying t = some (.map kt et)) {z : Value} (hz : ∀ w, (zeroValue et).run P w = .ok z w) (hk : IsK (ev a x) (enc k))
    (hr : mget k l = some e) (h : K (.t [e.y, .c (.bool true)]) H) : Does P o a H K :=
  does_lookup KK ho hm hH hW ht (zA := .x) hz (fun _ => .x _) hk (by rw [hr]; exact h)
end
end Go.Proofs.Ytmkncbddjnaklaa
