/- Walk: ops.collected over whatever iterator. Conditions: as each theorem states them. -/
import Derived.Test.YtipblkdekppbfaaRows
import Derived.Test.YtipblkdekppbfaaIT
namespace Go.Proofs.Ytipblkdekppbfaa
open Go.RowKit Go.Shelf
attribute [local go_sem] Oper.semAt_some
set_option linter.unusedVariables false

/-- numbers of 64 bits -/
def encI (e : TypeId) : Enc Int := { f := fun n => [.int .i64 n], sz := 1, e := e, bytes := 8, len := fun _ => rfl, one := by (intro x u hu; simp at hu; subst hu; rfl), pos := by omega }
abbrev EI := encI 2
theorem eI : EI.ok Try.prog := Enc.ok_of (z := .int .i64 0) (by kernel_rfl) rfl

/-- what a consumer turns: the box of 'out', the row that it owns; and the loop's own books -/
def CollC (n : Nat) (k : Nat) (o : Obj) : Prop := n ≤ k ∧ (o.isCells = false ∨ ∃ cs, o = .cells cs 29 (0, 0) ∨ o = .cells cs 2 (0, 0))

set_option maxHeartbeats 2000000 in
set_option maxRecDepth 100000 in
theorem collected_any (gf : Nat) (lb : Array Value) (R : Nat → Obj → Prop) (S Sp : List Int → World → Prop) (N : Nat) (w : World) (hN : N ≤ 1000000)
    (eg : Enters Try.prog gf) (hit : ∀ w1, Below w.heap.size w w1 → Iter Try.prog gf lb (fun x : Int => #[.int .i64 x]) R (CollC w.heap.size) S Sp N w1) (hR : ∀ k o, R k o → k < w.heap.size)
    (hS : ∀ xs A B, S xs A → Turn (CollC w.heap.size) A B → S xs B) (hSp : ∀ xs A B, Sp xs A → Turn (CollC w.heap.size) A B → Sp xs B) :
    Calls Try.prog 37 #[.func (.func gf) #[] lb] w fun e w' => ∃ v xs, e = .returned v ∧ S xs w' ∧ Own EI w' w.heap.size v xs ∧ Turn R w w' := by
  have HIT := Lib.hid hit; have HS := Lib.hid hS; have HSp := Lib.hid hSp
  clear hit hS hSp
  refine callsIn_wide.1 (callsIn_of_wp_marks (n := 8) Try.func37 rfl trivial ?_)
  simp only [Try.ntmps37, List.size_toArray, List.length_cons, List.length_nil, Nat.reduceAdd, Nat.reduceSub, Array.replicate_succ, Array.replicate_zero, List.push_toArray, List.append_toArray, List.nil_append, List.cons_append]
  gi_wp2
  have b0 := heap_alloc_new w (.cells #[.slice none 0 0] 29)
  have hbel := below_alloc w (.cells #[.slice none 0 0] 29)
  have hsz : (w.alloc (.cells #[.slice none 0 0] 29)).heap.size = w.heap.size + 1 := by simp
  have HI := Lib.hid (HIT.out _ hbel)
  generalize w.alloc (.cells #[.slice none 0 0] 29) = w0 at *
  have hRw : ∀ k o, R k o → k < w0.heap.size := fun k o h => by have := hR k o h; omega
  refine range_law (w := w0) (gf := gf) (lb := lb) rfl eg HI.out hRw (fun k o h ho => ⟨by omega, .inl ho⟩) (fun _ => rfl) HS.out HSp.out
    (fun pre W => (∃ v, W.heap[w.heap.size]? = some (.cells #[v] 29 (0, 0)) ∧ Own EI W (w.heap.size + 1) v pre) ∧ Turn R w W ∧ w.heap.size + 1 ≤ W.heap.size)
    (fun _ _ _ => False)
    (fun s A B ⟨⟨v, h1, h2⟩, h3, h4⟩ k => ⟨⟨v, k.cells h1 (fun e => by have := hR _ _ e; omega), h2.book k (fun i o e => by have := hR i o e; omega)⟩, h3.book' k (by omega), Nat.le_trans h4 k.size⟩)
    (fun _ _ _ _ h _ => h) ⟨⟨_, b0, Own.nil _ _ _⟩, Turn.of_below hbel, by omega⟩
    (fun x a' W => a' = { tmps := #[.func (.func gf) #[] lb, undef, .slice none 0 0, .pointer (some ⟨w.heap.size, 0, none⟩), .int .i64 x, .func (.func gf) #[] lb, .int .i64 x, undef, undef, undef, undef, undef], defers := [] })
    (fun _ _ _ _ h _ => h) ?assign ?body ?done ?stop
  case assign =>
    intro l pre x W K hi hK
    have HK := Lib.hid (hK _ W (KeepsFrom.refl _ _) (Turn.refl _ _) hi rfl)
    clear hK hi
    gi_wp2
    exact HK.out
  case body =>
    rintro l pre x a' W ⟨⟨v, hb, ho⟩, ht, hs⟩ rfl hlen hlt
    obtain ⟨q1, q2⟩ := blk hb
    have HB := Lib.hid hb; have HO := Lib.hid ho; have HT := Lib.hid ht
    obtain ⟨a1, c1, hv, -⟩ := ho.sl.ex
    clear hb ho ht
    subst hv
    gi_wp2_with (gi_at_builtin; go_must (refine wplIn_app1 eI HO.out x rfl rfl rfl Try.underlying29 rfl rfl (by simp [maxLen]; omega) (by simp [encI]; omega) (by omega) ?_; intro v1 w1 hown1 hb1 hg1; obtain ⟨a2, c2, hv, -⟩ := hown1.sl.ex; subst hv; have F1 := Lib.hid ((hb1.block w.heap.size (by omega)).trans HB.out); obtain ⟨p1, p2⟩ := blk F1.out; have O1 := Lib.hid hown1; have B1 := Lib.hid hb1; have G1 := Lib.hid hg1; clear hown1 hb1 hg1 q1 q2))
    have hrow : ∀ k, (Value.slice a1 pre.length c1).ownBlock = some k → w.heap.size + 1 ≤ k := fun k hk => (HO.out.lt k hk).1
    have hsz1 : W.heap.size ≤ w1.heap.size := G1.out.size
    have hne : (Value.slice a2 (pre ++ [x]).length c2).ownBlock ≠ some w.heap.size := fun e => by have := (O1.out.lt _ e).1; omega
    have hC1 : Turn (CollC w.heap.size) W w1 := Turn.of_grown G1.out (fun k o hk ho => by
      obtain ⟨h1, cs, rfl⟩ := HO.out.kind hk ho
      exact ⟨by omega, .inr ⟨cs, .inr rfl⟩⟩)
    have hC2 : Turn (CollC w.heap.size) w1 (w1.setCell ⟨w.heap.size, 0, none⟩ (.slice a2 (pre.length + 1) c2)) := Turn.set (p := ⟨w.heap.size, 0, none⟩) (fun o ho => by
      have ho' : w1.heap[w.heap.size]? = some o := ho
      rw [F1.out] at ho'
      obtain rfl := Option.some.inj ho'
      exact ⟨Nat.le_refl w.heap.size, .inr ⟨_, .inl rfl⟩⟩) _
    have hT2 := hC1.trans hC2
    refine ⟨(keeps_grown HO.out G1.out).trans (keeps_set F1.out _ _), hT2,
      ⟨_, blk_set F1.out _, by have h := O1.out.grown (grown_setCell w1 w.heap.size 0 (.slice a2 (pre.length + 1) c2)) (.inr hne); simpa using h⟩, ?_, by simp; omega⟩
    exact ⟨hT2.os.trans HT.out.os, hT2.tape.trans HT.out.tape, hT2.output.trans HT.out.output, Nat.le_trans HT.out.size hT2.size, fun k o hk hr => hT2.same k o (HT.out.same k o hk hr) (fun e => by have := lt_of_block hk; have := e.1; omega)⟩
  case done =>
    rintro D xs W hD hS' ⟨⟨v, hb, ho⟩, ht, hs⟩ hK
    obtain ⟨q1, q2⟩ := blk hb
    have HS' := Lib.hid hS'; have HO := Lib.hid ho; have HT := Lib.hid ht
    obtain ⟨a1, c1, hv, -⟩ := ho.sl.ex
    subst hv
    clear hb ho ht hS'
    gi_wp2
    refine ⟨by simp, .inl ⟨_, _, rfl, run_takeDeferred hK, ?_⟩⟩
    have hbk : Book R w0.heap.size W (W.putObj D (.deferred none)) := Book.put hK rfl hD
    exact ⟨_, results_tmp rfl _ _ _, _, xs, rfl, HS.out _ _ _ HS'.out (put_turn _ hK ⟨by omega, .inl rfl⟩), (HO.out.book hbk (fun i o e => by have := hR i o e; omega)).mono (by omega), HT.out.book' hbk (by omega)⟩
  case stop =>
    rintro D c pre W _ _ h _
    exact h.elim
end Go.Proofs.Ytipblkdekppbfaa
