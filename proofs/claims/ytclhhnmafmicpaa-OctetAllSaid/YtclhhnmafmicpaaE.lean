/- Walks: octet.Read, Rest, Left, Err, and give with a number s closure. Conditions: as each theorem states them. -/
import Derived.Test.YtclhhnmafmicpaaV
namespace Go.Proofs.Ytclhhnmafmicpaa
open Go.RowKit
set_option linter.unusedVariables false

/-- In block g lies a reader that holds these bytes and refuses with r; what it holds lies in blocks from B.1 to B.2. -/
def Rd (w : World) (g : Nat) (B : Nat × Nat) (held : List UInt8) (r : Int) : Prop :=
  ∃ a len cap, w.heap[g]? = some (.cells #[.slice a len cap, .int .i64 r] 72 (0, 0)) ∧ Sl EB w (.slice a len cap) held ∧ B.1 ≤ g ∧ (∀ k, (Value.slice a len cap).ownBlock = some k → B.1 ≤ k ∧ k ≠ g ∧ k < B.2) ∧ WrB w B.1 (.slice a len cap) len

theorem Rd.grown {w w' : World} {g : Nat} {B : Nat × Nat} {held : List UInt8} {r : Int} {row : Option Nat} (h : Rd w g B held r) (hg : w.grownBy w' row) (hr : ∀ k, row = some k → k ≠ g ∧ (k < B.1 ∨ B.2 ≤ k)) : Rd w' g B held r := by
  obtain ⟨a, len, cap, h1, h2, h3, h4, h8⟩ := h
  have hne : (Value.slice a len cap).ownBlock = none ∨ (Value.slice a len cap).ownBlock ≠ row := by
    cases hv : (Value.slice a len cap).ownBlock with
    | none => exact .inl rfl
    | some k => exact .inr (fun e => by have := hr k e.symm; have := h4 k hv; omega)
  refine ⟨a, len, cap, ?_, h2.grown hg hne, h3, h4, h8.grown hg hne⟩
  rw [hg.block g (lt_of_block h1) (fun e => by have := hr g e.symm; omega)]; exact h1

theorem Rd.le {w w' : World} {g : Nat} {B : Nat × Nat} {held : List UInt8} {r : Int} (h : Rd w g B held r) (hb : Below w.heap.size w w') : Rd w' g B held r := h.grown (grown_of_below hb none) (fun k hk => by cases hk)

set_option maxHeartbeats 400000 in
theorem read_any (b : List UInt8) (vb : Value) (w : World) (hB : Sl EB w vb b) (hl : b.length ≤ 10000000) :
   Calls Try.prog 24 #[vb] w fun e w' => ∃ g, e = .returned (.pointer (some ⟨g, 0, none⟩)) ∧ Rd w' g (w.heap.size, w'.heap.size) b 0 ∧ Below w.heap.size w w' := by
  have HB := Lib.hid hB
  clear hB
  go_enter Try.func24, Try.ntmps24
  go_wp2_with (go_at_call 35; refine (clone_any b _ _ (HB.out.le (below_alloc w _)) (by omega)).mono ?_; rintro e w1 ⟨v, rfl, hown, hb⟩; obtain ⟨a, cap, hv, _⟩ := hown.sl.ex; subst hv; have F := Lib.hid (blk_le (heap_alloc_new w _) hb); obtain ⟨q1, q2⟩ := blk F.out; have HO := Lib.hid hown; have HB1 := Lib.hid hb; clear hown hb)
  go_ret
  have hlt := HO.out.lt
  have hb0 : Below w.heap.size w w1 := (below_alloc w _).trans (HB1.out.mono (by simp))
  have hne : (Value.slice a b.length cap).ownBlock = none ∨ (Value.slice a b.length cap).ownBlock ≠ some w.heap.size := by
    refine .inr fun e => ?_
    have := (hlt _ e).1
    simp at this
    omega
  have hgs : w1.grownBy (w1.setCell ⟨w.heap.size, 0, none⟩ (.slice a b.length cap)) (some w.heap.size) := ⟨rfl, rfl, rfl, by simp, fun k hk hne => by rw [Below.heap_setCell]; intro e; apply hne; rw [e]⟩
  refine ⟨_, rfl, ⟨a, _, cap, blk_set F.out _, HO.out.sl.grown hgs hne, Nat.le_refl _, ?_, (HO.out.wr.grown hgs hne).mono (by simp)⟩, hb0.setCell (by simp) _⟩
  intro k hk
  have h1 := (hlt k hk).1
  have h2 := (hlt k hk).2
  simp at h1 ⊢
  omega

set_option maxHeartbeats 400000 in
theorem rest_any (g : Nat) (B : Nat × Nat) (held : List UInt8) (r : Int) (w : World) (hR : Rd w g B held r) (hl : held.length ≤ 10000000) :
   Calls Try.prog 32 #[.pointer (some ⟨g, 0, none⟩)] w fun e w' => ∃ v, e = .returned v ∧ Own EB w' w.heap.size v held ∧ Below w.heap.size w w' := by
  obtain ⟨a, len, cap, h1, h2, h3, h4, h8⟩ := hR
  obtain ⟨q1, _⟩ := blk h1
  have H2 := Lib.hid h2
  clear h1 h2 h4
  go_enter Try.func32, Try.ntmps32
  go_wp2_with (go_at_call 35; refine (clone_any held _ _ H2.out (by omega)).mono ?_; rintro e w1 ⟨v, rfl, hown, hb⟩)
  go_ret
  exact ⟨_, rfl, hown, hb⟩

theorem rest_nil (w : World) : Calls Try.prog 32 #[.pointer none] w fun e w' => e = .returned (.slice none 0 0) ∧ w = w' := by
  go_enter Try.func32, Try.ntmps32
  go_wp2_with fail
  go_ret
  exact ⟨rfl, rfl⟩

set_option maxHeartbeats 400000 in
theorem left_any (g : Nat) (B : Nat × Nat) (held : List UInt8) (r : Int) (w : World) (hR : Rd w g B held r) (hl : held.length ≤ 10000000) :
   Calls Try.prog 33 #[.pointer (some ⟨g, 0, none⟩)] w fun e w' => e = .returned (.int .i64 held.length) ∧ Below w.heap.size w w' := by
  go_enter Try.func33, Try.ntmps33
  go_wp2_with (go_at_call 32; refine (rest_any g B held r _ hR hl).mono ?_; rintro e w1 ⟨v, rfl, hown, hb⟩; obtain ⟨a, cap, hv, _⟩ := hown.sl.ex; subst hv)
  go_ret
  exact ⟨rfl, hb⟩

theorem left_nil (w : World) : Calls Try.prog 33 #[.pointer none] w fun e w' => e = .returned (.int .i64 0) ∧ w = w' := by
  go_enter Try.func33, Try.ntmps33
  go_wp2_with (go_at_call 32; refine (rest_nil _).mono ?_; rintro e w1 ⟨rfl, rfl⟩)
  go_ret
  exact ⟨rfl, rfl⟩

set_option maxHeartbeats 400000 in
theorem err_any (g : Nat) (B : Nat × Nat) (held : List UInt8) (r : Int) (w : World) (hR : Rd w g B held r) :
   Calls Try.prog 34 #[.pointer (some ⟨g, 0, none⟩)] w fun e w' => e = .returned (.int .i64 r) ∧ w = w' := by
  obtain ⟨a, len, cap, h1, h2, h3, h4, h8⟩ := hR
  obtain ⟨q1, _⟩ := blk h1
  clear h1 h2 h4
  go_enter Try.func34, Try.ntmps34
  go_wp2_with fail
  go_ret
  exact ⟨rfl, rfl⟩

theorem err_nil (w : World) : Calls Try.prog 34 #[.pointer none] w fun e w' => e = .returned (.int .i64 1) ∧ w = w' := by
  go_enter Try.func34, Try.ntmps34
  go_wp2_with fail
  go_ret
  exact ⟨rfl, rfl⟩

/-- a store below what is read -/
theorem grown_setCell (w : World) (b i : Nat) (v : Value) : w.grownBy (w.setCell ⟨b, i, none⟩ v) (some b) :=
  ⟨rfl, rfl, rfl, by simp, fun k hk hne => by rw [Below.heap_setCell]; intro e; apply hne; rw [e]⟩

theorem grown_drew {w w' : World} {row : Option Nat} (h : w.grownBy w' row) : w.grownBy w'.drew row := ⟨h.os, h.tape, h.output, h.size, h.block⟩

theorem grown_trans_new {a b c : World} {row row' : Option Nat} (h : a.grownBy b row) (k : b.grownBy c row') (hr : ∀ k, row' = some k → a.heap.size ≤ k) : a.grownBy c row :=
  ⟨k.os.trans h.os, k.tape.trans h.tape, k.output.trans h.output, Nat.le_trans h.size k.size, fun i hi hne => (k.block i (Nat.lt_of_lt_of_le hi h.size) (fun e => by have := hr i e.symm; omega)).trans (h.block i hi hne)⟩

/-- the number of bytes, with no bound -/
def numB (l : List UInt8) : Nat := l.foldl (fun x c => x * 256 + c.toNat) 0

theorem numB_go (l : List UInt8) : ∀ x, l.foldl (fun x c => x * 256 + c.toNat) x = x * 256 ^ l.length + numB l := by
  unfold numB
  induction l with
  | nil => intro x; simp
  | cons c l ih =>
    intro x
    simp only [List.foldl_cons, List.length_cons]
    rw [ih, ih (0 * 256 + c.toNat), Nat.pow_succ, Nat.add_mul, Nat.zero_mul, Nat.zero_add, Nat.mul_assoc, Nat.mul_comm 256]
    omega

theorem numB_cons (c : UInt8) (l : List UInt8) : numB (c :: l) = c.toNat * 256 ^ l.length + numB l := by
  show List.foldl _ (0 * 256 + c.toNat) l = _
  rw [numB_go]; simp

theorem numB_lt (l : List UInt8) : numB l < 256 ^ l.length := by
  induction l with
  | nil => simp [numB]
  | cons c l ih =>
    rw [numB_cons, List.length_cons, Nat.pow_succ]
    have := c.toNat_lt
    have h1 : c.toNat * 256 ^ l.length ≤ 255 * 256 ^ l.length := Nat.mul_le_mul_right _ (by omega)
    omega

theorem num_eq (l : List UInt8) (h : l.length ≤ 8) : num l = numB l := by
  have key : ∀ (m : List UInt8) (x : Nat), m.foldl (fun x c => (x * 256 + c.toNat) % 18446744073709551616) (x % 18446744073709551616) = m.foldl (fun x c => x * 256 + c.toNat) x % 18446744073709551616 := by
    intro m
    induction m with
    | nil => intro x; rfl
    | cons c m ih =>
      intro x
      simp only [List.foldl_cons]
      rw [← ih, show (x % 18446744073709551616 * 256 + c.toNat) % 18446744073709551616 = (x * 256 + c.toNat) % 18446744073709551616 by omega]
  have := key l 0
  have hlt := numB_lt l
  have hp : 256 ^ l.length ≤ 256 ^ 8 := Nat.pow_le_pow_right (by omega) h
  have e : (256 : Nat) ^ 8 = 18446744073709551616 := by decide
  unfold num
  show List.foldl _ (0 % 18446744073709551616) l = _
  rw [this, Nat.mod_eq_of_lt]
  · rfl
  · show numB l < _; omega

theorem or_low (x y i : Nat) (hx : x < 2 ^ i) (hy : y * 2 ^ i < 18446744073709551616) (hi : i ≤ 64) : bits BinOp.or IntKind.u64 (x : Int) ((y * 2 ^ i : Nat) : Int) = ((x + y * 2 ^ i : Nat) : Int) := by
  have h2 : (2 : Nat) ^ i ≤ 2 ^ 64 := Nat.pow_le_pow_right (by decide) hi
  have e64 : (2 : Nat) ^ 64 = 18446744073709551616 := by decide
  rw [bits_or_u64_nat x (y * 2 ^ i) (by omega) hy, Nat.or_comm, Nat.mul_comm y, ← Nat.two_pow_add_eq_or_of_lt hx, Nat.add_comm]

theorem step_cell (l : List UInt8) (k : Nat) (h : k < l.length) (hl : l.length ≤ 8) :
    bits BinOp.or IntKind.u64 (numB (l.drop (l.length - k)) : Int) (IntKind.u64.wrap (IntKind.u64.wrap ((l[l.length - 1 - k]'(by omega)).toNat : Int) * 2 ^ (8 * k))) = (numB (l.drop (l.length - (k + 1))) : Int) := by
  have hd : l.drop (l.length - (k + 1)) = l[l.length - 1 - k]'(by omega) :: l.drop (l.length - k) := by
    rw [List.drop_eq_getElem_cons (by omega)]
    congr 1
    · congr 1; omega
    · congr 1; omega
  have hn := numB_lt (l.drop (l.length - k))
  have hlen : (l.drop (l.length - k)).length = k := by rw [List.length_drop]; omega
  rw [hlen, show 256 = 2 ^ 8 from rfl, ← Nat.pow_mul] at hn
  rw [hd, numB_cons, hlen, show 256 = 2 ^ 8 from rfl, ← Nat.pow_mul]
  generalize l[l.length - 1 - k]'(by omega) = c
  have hc := c.toNat_lt
  have hp : (2 : Nat) ^ (8 * k) ≤ 2 ^ 56 := Nat.pow_le_pow_right (by decide) (by omega)
  have hm : c.toNat * 2 ^ (8 * k) ≤ 255 * 2 ^ 56 := Nat.mul_le_mul (by omega) hp
  have e56 : 255 * 2 ^ 56 < 18446744073709551616 := by decide
  have w1 : IntKind.u64.wrap (c.toNat : Int) = c.toNat := by rw [IntKind.wrap_u64]; omega
  have w2 : IntKind.u64.wrap ((c.toNat : Int) * 2 ^ (8 * k)) = ((c.toNat * 2 ^ (8 * k) : Nat) : Int) := by
    rw [show (c.toNat : Int) * 2 ^ (8 * k) = ((c.toNat * 2 ^ (8 * k) : Nat) : Int) by rw [Int.natCast_mul, Int.natCast_pow]; rfl, IntKind.wrap_u64]
    omega
  rw [w1, w2, or_low _ _ _ hn (by omega) (by omega), Nat.add_comm]

set_option maxHeartbeats 400000 in
theorem bits1_any (l : List UInt8) (v : Value) (bx : Nat) (w : World) (hB : Sl EB w v l) (hl : l.length ≤ 8) (hx : w.heap[bx]? = some (.cells #[.int .u64 0] 23 (0, 0))) (hne : v.ownBlock ≠ some bx) :
   Calls Try.prog 51 #[v, .pointer (some ⟨bx, 0, none⟩)] w fun e w' => e = .returned (.tuple #[]) ∧ w'.heap[bx]? = some (.cells #[.int .u64 (numB l)] 23 (0, 0)) ∧ w.grownBy w' (some bx) := by
  obtain ⟨aa, ca, rfl, a1, a2, a3, a4⟩ := hB.byte
  have HA := Lib.hid a4
  have HX := Lib.hid hx
  clear a3 a4 hB hx
  go_enter Try.func51, Try.ntmps51
  go_wp2_with fail
  go_loopw [6] (fun i wr => ∃ k : Nat, k ≤ l.length ∧ i = .int .i64 k ∧ wr.heap[bx]? = some (.cells #[.int .u64 (numB (l.drop (l.length - k)))] 23 (0, 0)) ∧ w.grownBy wr (some bx)) (fun i _ => l.length - (intOf i).toNat)
  case atStart => exact ⟨0, Nat.zero_le _, rfl, by simpa [numB] using HX.out, World.grownBy.refl _ _⟩
  case round =>
    obtain ⟨k, hk, rfl, hx, hg⟩ := hrel
    have F := Lib.hid hx; have HG := Lib.hid hg
    clear hx hg
    obtain ⟨q1, q2⟩ := blk F.out
    by_cases hlt : k < l.length
    · obtain ⟨bb, oo, rfl, hbl, hc⟩ := HA.out k hlt
      have hc1 : wr.cell? ⟨bb, oo + (l.length - 1 - k), none⟩ = some (.int .u8 ((l[l.length - 1 - k]'(by omega)).toNat)) := by
        rw [World.cell?_of_block (w := w) (HG.out.block bb hbl (by simpa [Value.ownBlock] using hne))]; exact hc _ (by omega)
      clear hc HA
      go_wp2_with fail
      go_region
      go_wp2_with fail
      go_roundw
      case rel =>
        refine ⟨k + 1, hlt, by go_num, ?_, grown_trans HG.out (grown_drew (grown_setCell wr bx 0 _))⟩
        rw [step_cell l k hlt hl]
        exact blk_set F.out _
      case measure => simp [intOf]; omega
    · obtain rfl : k = l.length := by omega
      go_wp2_with fail
      go_returns
      exact ⟨rfl, by simpa using F.out, HG.out⟩

theorem raw1_any (v old : Value) (bx : Nat) (w : World) (a : Option Addr) (len cap : Nat) (hv : v = .slice a len cap) (hx : w.heap[bx]? = some (.cells #[old] 22 (0, 0))) :
   Calls Try.prog 47 #[v, .pointer (some ⟨bx, 0, none⟩)] w fun e w' => e = .returned (.tuple #[]) ∧ w'.heap[bx]? = some (.cells #[v] 22 (0, 0)) ∧ w.grownBy w' (some bx) := by
  subst hv
  have F := Lib.hid hx
  obtain ⟨q1, q2⟩ := blk F.out
  clear hx
  go_enter Try.func47, Try.ntmps47
  go_wp2_with fail
  go_returns
  exact ⟨rfl, blk_set F.out _, grown_setCell _ _ _ _⟩

-- 'give' with a closure: what is given comes into the closure's variable, which has just been made
set_option maxHeartbeats 1000000 in
theorem give51_any (g : Nat) (B : Nat × Nat) (held : List UInt8) (r n : Int) (w : World) (hR : Rd w g B held r) (hl : held.length ≤ 10000000) (hn : n ≤ 8) :
   Calls Try.prog 46 #[.pointer (some ⟨g, 0, none⟩), .int .i64 n, .func (.func 51) #[] #[.pointer (some ⟨w.heap.size, 0, none⟩)]] (w.alloc (.cells #[.int .u64 0] 23)) fun e w' =>
    e = .returned (.tuple #[]) ∧ Rd w' g B (giveR held r n).1 (giveR held r n).2.1 ∧ w'.heap[w.heap.size]? = some (.cells #[.int .u64 (numB (giveR held r n).2.2)] 23 (0, 0)) ∧ w.grownBy w' (some g) := by
  obtain ⟨a, len, cap, h1, h2, h3, h4, h8⟩ := hR
  have h1' : (w.alloc (.cells #[.int .u64 0] 23)).heap[g]? = _ := (Below.heap_alloc w _ g (lt_of_block h1)).trans h1
  have hsz := lt_of_block h1
  have hbx : (w.alloc (.cells #[.int .u64 0] 23)).heap[w.heap.size]? = _ := heap_alloc_new w _
  have h2' := h2.le (below_alloc w (.cells #[.int .u64 0] 23))
  have h8' := h8.le (below_alloc w (.cells #[.int .u64 0] 23))
  have hgw := World.grownBy_alloc w (.cells #[.int .u64 0] 23) (some g)
  have hsz' : w.heap.size < (w.alloc (.cells #[.int .u64 0] 23)).heap.size := by simp
  have h5 : (Value.slice a len cap).ownBlock ≠ some w.heap.size := by
    intro e
    obtain ⟨a', cap', hv, _, _, _, h6⟩ := h2.ex
    simp only [Value.slice.injEq] at hv
    obtain ⟨rfl, _, rfl⟩ := hv
    cases a with
    | none => simp [Value.ownBlock] at e
    | some x => simp [Value.ownBlock] at e; have := (h6 x rfl).2.1; omega
  generalize w.alloc (.cells #[.int .u64 0] 23) = W at *
  obtain ⟨q1, q2⟩ := blk h1'
  obtain ⟨a', cap', hv, hlc, _⟩ := h2.ex
  simp only [Value.slice.injEq] at hv
  obtain ⟨rfl, rfl, rfl⟩ := hv
  have H1 := Lib.hid h1'; have H2 := Lib.hid h2'; have H4 := Lib.hid h4; have H5 := Lib.hid h5; have HX := Lib.hid hbx; have HG := Lib.hid hgw; have H8 := Lib.hid h8'
  clear h1 h1' h2 h2' h4 h5 hbx hgw h8 h8'
  have hnb := Lib.hid (show (Value.slice a held.length cap).ownBlock = none ∨ (Value.slice a held.length cap).ownBlock ≠ some g by
    cases hv : (Value.slice a held.length cap).ownBlock with
    | none => exact .inl rfl
    | some k => exact .inr (fun e => (H4.out k hv).2.1 (Option.some.inj e)))
  by_cases c1 : r = 0
  · subst c1
    by_cases c2 : n < 0
    · have HQ := Lib.hid (show giveR held 0 n = (held, 2, []) by simp [giveR, c2])
      go_enter Try.func46, Try.ntmps46
      go_wp2_with fail
      go_returns
      have hne : w.heap.size ≠ g := by omega
      refine ⟨rfl, ?_, by rw [HQ.out, Below.heap_setCell _ _ _ _ hne]; exact HX.out, grown_trans HG.out (grown_setCell _ _ _ _)⟩
      · rw [HQ.out]
        exact ⟨a, _, cap, blk_set (i := 1) H1.out _, H2.out.grown (grown_setCell _ _ _ _) hnb.out, h3, H4.out, H8.out.grown (grown_setCell _ _ _ _) hnb.out⟩
    · by_cases c3 : (held.length : Int) < n
      · have HQ := Lib.hid (show giveR held 0 n = (held, 7, []) by simp [giveR, c2, c3])
        go_enter Try.func46, Try.ntmps46
        go_wp2_with fail
        go_returns
        have hne : w.heap.size ≠ g := by omega
        refine ⟨rfl, ?_, by rw [HQ.out, Below.heap_setCell _ _ _ _ hne]; exact HX.out, grown_trans HG.out (grown_setCell _ _ _ _)⟩
        · rw [HQ.out]
          exact ⟨a, _, cap, blk_set (i := 1) H1.out _, H2.out.grown (grown_setCell _ _ _ _) hnb.out, h3, H4.out, H8.out.grown (grown_setCell _ _ _ _) hnb.out⟩
      · have HQ := Lib.hid (show giveR held 0 n = (held.drop n.toNat, 0, held.take n.toNat) by simp [giveR, c2, c3])
        obtain ⟨hs1, hs2⟩ := H2.out.slice_him eB (t := 22) Try.underlying22 .i64 .i64 n n (by omega) (by omega) (by omega) (by omega)
        obtain ⟨A, C, hs3, hs4, hs5⟩ := H2.out.slice_lo eB (t := 22) Try.underlying22 .i64 n (by omega) (by omega)
        have HS2 := Lib.hid hs2; have HS4 := Lib.hid hs4; have HS5 := Lib.hid hs5
        have HWD := Lib.hid (show WrB W B.1 (.slice A (held.length - n.toNat) C) (held.length - n.toNat) from H8.out.drop (by omega) (fun hA => by
          subst hA
          obtain ⟨a2, cap2, hv2, hc2, _, hc3, _⟩ := hs4.ex
          simp only [Value.slice.injEq, List.length_drop] at hv2
          obtain ⟨rfl, _, rfl⟩ := hv2
          have := hc3 rfl
          simp only [List.length_drop] at hc2
          omega) (fun x hx => by
          obtain ⟨y, hy, h6, h7⟩ := hs5 x hx
          obtain ⟨a2, cap2, hv2, _, _, _, hc4⟩ := hs4.ex
          simp only [Value.slice.injEq] at hv2
          obtain ⟨rfl, _, rfl⟩ := hv2
          exact ⟨y, hy, h6, fun h => ⟨(hc4 x hx).1, by have := h7 h; simpa [encB] using this⟩⟩))
        clear hs2 hs4 hs5
        have h5' : (Value.slice a n.toNat n.toNat).ownBlock ≠ some w.heap.size := by cases a <;> exact H5.out
        have H5' := Lib.hid h5'
        clear h5'
        go_enter Try.func46, Try.ntmps46
        go_wp2_with (go_at_call 51; refine (bits1_any (held.take n.toNat) _ _ _ HS2.out (by rw [List.length_take]; omega) HX.out H5'.out).mono ?_; rintro e w1 ⟨rfl, hx, hg1⟩; have F1 := Lib.hid (show w1.heap[g]? = _ from (hg1.block g (lt_of_block H1.out) (by intro e; have := Option.some.inj e; omega)).trans H1.out); obtain ⟨p1, p2⟩ := blk F1.out; have HX1 := Lib.hid hx; have HG1 := Lib.hid hg1; clear hx hg1)
        go_returns
        have hne : w.heap.size ≠ g := by omega
        have hob : ∀ k, (Value.slice A (held.length - n.toNat) C).ownBlock = some k → (Value.slice a held.length cap).ownBlock = some k := by
          intro k hk
          cases A with
          | none => simp [Value.ownBlock] at hk
          | some x =>
            obtain ⟨y, rfl, h6, _⟩ := HS5.out x rfl
            simp only [Value.ownBlock, Option.some.injEq] at hk ⊢
            omega
        refine ⟨rfl, ?_, by rw [HQ.out, Below.heap_setCell _ _ _ _ hne]; exact HX1.out, grown_trans (grown_trans_new HG.out HG1.out (fun k hk => by have := Option.some.inj hk; omega)) (grown_setCell _ _ _ _)⟩
        rw [HQ.out]
        have e1 : (Value.slice A (held.length - n.toNat) C).ownBlock = none ∨ (Value.slice A (held.length - n.toNat) C).ownBlock ≠ some w.heap.size := .inr (fun e => H5.out (hob _ e))
        have e2 : (Value.slice A (held.length - n.toNat) C).ownBlock = none ∨ (Value.slice A (held.length - n.toNat) C).ownBlock ≠ some g := .inr (fun e => (H4.out _ (hob _ e)).2.1 rfl)
        refine ⟨A, _, C, blk_set (i := 0) F1.out _, (HS4.out.grown HG1.out e1).grown (grown_setCell _ _ _ _) e2, h3, fun k hk => H4.out k (hob k hk), (HWD.out.grown HG1.out e1).grown (grown_setCell _ _ _ _) e2⟩
  · have HQ := Lib.hid (show giveR held r n = (held, r, []) by simp [giveR, c1])
    have c1' : (r != 0) = true := by simp [c1]
    go_enter Try.func46, Try.ntmps46
    go_wp2_with fail
    go_returns
    refine ⟨rfl, ?_, by rw [HQ.out]; exact HX.out, HG.out⟩
    rw [HQ.out]
    exact ⟨a, _, cap, H1.out, H2.out, h3, H4.out, H8.out⟩

end Go.Proofs.Ytclhhnmafmicpaa
