/- Walk of the law OctetGives. Conditions: as each theorem states them. -/
import Derived.Test.YtclhhnmafmicpaaH
import Derived.Test.YtclhhnmafmicpaaWLays
import Derived.Deep.DeepCutAuto
import Derived.Deep.CutBlock
namespace Go.Proofs.Ytclhhnmafmicpaa
open Go.RowKit
set_option linter.unusedVariables false

/-- what is wanted of a reader -/
structure WantD where
  kind : Int
  n : Int

def WantD.ok (x : WantD) : Prop := (-9223372036854775808 ≤ x.kind ∧ x.kind ≤ 9223372036854775807) ∧ (-9223372036854775808 ≤ x.n ∧ x.n ≤ 9223372036854775807)

def encW : Enc WantD := { f := fun x => [.int .i64 x.kind, .int .i64 x.n], sz := 2, e := 44, bytes := 16, len := fun _ => rfl, one := by (intro x u hu; simp at hu; rcases hu with rfl | rfl <;> rfl), pos := by omega }

theorem Sl.want {w : World} {v : Value} {l : List WantD} (h : Sl encW w v l) : ∃ a cap, v = .slice a l.length cap ∧ l.length ≤ cap ∧ cap ≤ maxLen ∧
    (∀ k (hk : k < l.length), ∃ b off, a = some ⟨b, off, none⟩ ∧ b < w.heap.size ∧ w.cell? ⟨b, off + k * 2, none⟩ = some (.int .i64 l[k].kind) ∧ w.cell? ⟨b, off + k * 2 + 1, none⟩ = some (.int .i64 l[k].n)) := by
  obtain ⟨a, cap, rfl, h1, h2, h3, h4⟩ := h.ex
  refine ⟨a, cap, rfl, h1, h2, fun k hk => ?_⟩
  cases a with
  | none => have := h3 rfl; omega
  | some x =>
    obtain ⟨p, q, r⟩ := h4 x rfl
    obtain ⟨b, off, sp⟩ := x
    simp only at p q r
    subst p
    exact ⟨b, off, rfl, q, r k hk 0 _ rfl, r k hk 1 _ rfl⟩

theorem inv_u8 (c : UInt8) : ∃ c' : UInt8, bits BinOp.xor IntKind.u8 (if IntKind.u8.signed = true then -1 else IntKind.u8.max) (c.toNat : Int) = (c'.toNat : Int) := by
  have h := u8_xor_nat 255 c.toNat (by omega) c.toNat_lt
  have hx : 255 ^^^ c.toNat < 2 ^ 8 := Nat.xor_lt_two_pow (by omega) c.toNat_lt
  refine ⟨UInt8.ofNat (255 ^^^ c.toNat), ?_⟩
  rw [UInt8.toNat_ofNat', Nat.mod_eq_of_lt hx]
  exact h

set_option maxHeartbeats 20000000 in
set_option maxRecDepth 100000 in
theorem gives_main (b : List UInt8) (l : List WantD) (vb vl : Value) (W : World) (hB : Sl EB W vb b) (hL : Sl encW W vl l) (hok : ∀ x ∈ l, x.ok) (hlb : b.length ≤ 3000) (hll : l.length ≤ 200) :
    Calls Try.prog 6 #[vb, vl] W fun e w' => e = .returned (.bool true) ∧ Below W.heap.size W w' := by
  have HB := Lib.hid hB; have HL := Lib.hid hL; have HK := Lib.hid hok
  obtain ⟨ab, cb, hv, _⟩ := hB.ex
  subst hv
  obtain ⟨al, cl, hv, hl1, hl2, hl3⟩ := hL.want
  subst hv
  have HLC := Lib.hid hl3
  clear hB hL hok hl3
  go_enter Try.func6, Try.ntmps6
  go_wp2_with fail
  refine (wakes_any _).mono ?_
  rintro e w1 ⟨rfl, hb⟩
  have B1 := Lib.hid hb; clear hb
  go_wp2_with fail
  refine (both_any b [] _ _ _ (HB.out.le B1.out) (Sl.nil _ _) (by omega) (by simp)).mono ?_
  rintro e w2 ⟨v2, rfl, ho, hb⟩
  rw [List.append_nil] at ho
  obtain ⟨ai, ci, hv, _⟩ := ho.sl.ex
  subst hv
  have O2 := Lib.hid ho; have B2 := Lib.hid (bt B1.out hb); have S2 := hb.size; clear hb ho
  go_wp2_with fail
  refine (read_any b _ _ O2.out.sl (by omega)).mono ?_
  rintro e w3 ⟨g, rfl, hr, hb⟩
  have R3 := Lib.hid hr; have B3 := Lib.hid (bt B2.out hb); have C3 := Lib.hid hb; clear hb hr
  go_wp2_with fail
  have RW := Lib.hid ((O2.out.wr.le C3.out).le (below_alloc w3 (.cells #[.slice ab b.length cb, .int .i64 0] 42)))
  go_loopw [37] (fun i wr => ∃ k : Nat, k ≤ b.length ∧ i = .int .i64 k ∧ WrB wr w1.heap.size (.slice ai b.length ci) b.length ∧ (w3.alloc (.cells #[.slice ab b.length cb, .int .i64 0] 42)).grownBy wr ((Value.slice ai b.length ci).ownBlock)) (fun i _ => b.length - (intOf i).toNat)
  case atStart => exact ⟨0, by omega, rfl, RW.out, World.grownBy.refl _ _⟩
  case round =>
    obtain ⟨k, hk, rfl, hw, hg⟩ := hrel
    by_cases hlt : k < b.length
    · have hw' := hw
      obtain ⟨A', C', hv, hex⟩ := hw'
      simp only [Value.slice.injEq] at hv
      obtain ⟨rfl, _, rfl⟩ := hv
      obtain ⟨gi, off, cur, rfl, hbg, hgi, hc⟩ := hex (by omega)
      obtain ⟨c, hci⟩ := hc k hlt
      have q := (blk hgi).1 (off + k)
      rw [hci] at q
      have q2 := (blk hgi).2 (off + k)
      have H1 := Lib.hid hw; have H2 := Lib.hid hg
      clear hw hg hex hgi hc hci
      obtain ⟨c', hc'⟩ := inv_u8 c
      go_wp2_with fail
      go_roundw
      case rel =>
        exact ⟨k + 1, hlt, by go_num, H1.out.set _ _ _, grown_trans H2.out (grown_setCell _ _ _ _)⟩
      case measure => simp [intOf]; omega
    · have hlt2 := O2.out.lt
      have s2 : w1.heap.size ≤ w2.heap.size := S2
      have s3 : w2.heap.size ≤ w3.heap.size := C3.out.size
      have s1 : W.heap.size ≤ w1.heap.size := B1.out.size
      have f1 : Rd wr g w2.heap.size b 0 := (R3.out.le (below_alloc w3 (.cells #[.slice ab b.length cb, .int .i64 0] 42))).grown hg (fun k hk => (hlt2 k hk).2)
      have f2 : wr.heap[w3.heap.size]? = some (.cells #[.slice ab b.length cb, .int .i64 0] 42 (0, 0)) := by
        rw [hg.block w3.heap.size (by simp) (fun e => by have := (hlt2 _ e.symm).2; omega)]
        exact heap_alloc_new w3 _
      have f3 : ∀ k, (Value.slice ab b.length cb).ownBlock = some k → k < W.heap.size := by
        intro k hk
        obtain ⟨a', cap', hv, _, _, _, h6⟩ := HB.out.ex
        simp only [Value.slice.injEq] at hv
        obtain ⟨rfl, _, rfl⟩ := hv
        cases ab with
        | none => cases hk
        | some x => simp only [Value.ownBlock, Option.some.injEq] at hk; have := (h6 x rfl).2.1; omega
      have f4 : Below W.heap.size W wr := (B3.out.alloc (by omega) (.cells #[.slice ab b.length cb, .int .i64 0] 42)).grown hg (by simp; omega) (fun k hk => by have := (hlt2 k hk).1; omega)
      have f5 : w2.heap.size ≤ g := by obtain ⟨_, _, _, _, _, h, _⟩ := f1; exact h
      have f6 : g < w3.heap.size := by obtain ⟨_, _, _, h, _⟩ := R3.out; exact lt_of_block h
      have F1 := Lib.hid f1; have F2 := Lib.hid f2; have F3 := Lib.hid f3; have F4 := Lib.hid f4
      clear f1 f2 f3 f4 hlt2 hw hg RW R3 C3 O2
      obtain ⟨gm, hgm⟩ : ∃ gm, w3.heap.size = gm := ⟨_, rfl⟩
      have HGM := Lib.hid hgm
      rw [hgm] at f6 s3
      clear hgm
      go_wp2_with fail
      go_loopw [51] (fun i wr => ∃ k : Nat, k ≤ l.length ∧ i = .int .i64 k ∧ Below W.heap.size W wr ∧ ∃ H R vm, H.length ≤ 3000 ∧ Rd wr g w2.heap.size H R ∧ wr.heap[w3.heap.size]? = some (.cells #[vm, .int .i64 R] 42 (0, 0)) ∧ Sl EB W vm H ∧ (∀ k, vm.ownBlock = some k → k < W.heap.size)) (fun i _ => l.length - (intOf i).toNat)
      case atStart => exact ⟨0, by omega, rfl, F4.out, b, 0, _, hlb, F1.out, F2.out, HB.out, F3.out⟩
      case round =>
        obtain ⟨k, hk, rfl, hb, H, R, vm, hH, hr, hm, hs, hbl⟩ := hrel
        by_cases hlt : k < l.length
        · obtain ⟨bl, ol, rfl, hbl2, hc1, hc2⟩ := HLC.out k hlt
          obtain ⟨kd, nn, hkn⟩ : ∃ kd nn, l[k] = ⟨kd, nn⟩ := ⟨_, _, rfl⟩
          have hok := HK.out _ (List.getElem_mem hlt)
          rw [hkn] at hc1 hc2 hok
          have hc1' := (hb.cell (p := ⟨bl, ol + k * 2, none⟩) hbl2).trans hc1
          have hc2' := (hb.cell (p := ⟨bl, ol + k * 2 + 1, none⟩) hbl2).trans hc2
          obtain ⟨⟨hkd1, hkd2⟩, hn1, hn2⟩ := hok
          simp only at hc1' hc2' hkd1 hkd2 hn1 hn2
          obtain ⟨am, cm, hv, _⟩ := hs.ex
          subst hv
          obtain ⟨q1, q2, q3⟩ := blk2 (blk_le hm (below_alloc wr (.cells #[.int .i64 kd, .int .i64 nn] 44)))
          have M := Lib.hid hm; have B := Lib.hid hb; have RR := Lib.hid hr; have SS := Lib.hid hs; have BL := Lib.hid hbl
          clear hc1 hc2 hkn hm hb hr hs hbl
          have WB := Lib.hid (B.out.alloc B.out.size (.cells #[.int .i64 kd, .int .i64 nn] 44))
          have WR := Lib.hid (RR.out.le (below_alloc wr (.cells #[.int .i64 kd, .int .i64 nn] 44)))
          have WM := Lib.hid (blk_le M.out (below_alloc wr (.cells #[.int .i64 kd, .int .i64 nn] 44)))
          have hbel : Below wr.heap.size wr (wr.alloc (.cells #[.int .i64 kd, .int .i64 nn] 44)) := below_alloc _ _
          go_upto_region 16 with fail
          go_cut [64] (fun s wx => ∃ bb : Bool, s = .bool bb ∧ (bb = true ↔ (0 ≤ kd ∧ kd < 4)) ∧ wx = wr.alloc (.cells #[.int .i64 kd, .int .i64 nn] 44))
          case first =>
            go_wp2_with fail
            all_goals
              go_meet
              refine ⟨_, rfl, ?_, rfl⟩
              simp
              try omega
          case rest =>
            obtain ⟨bb, rfl, hbb, rfl⟩ := hcut
            by_cases hk4 : 0 ≤ kd ∧ kd < 4
            · obtain rfl : bb = true := hbb.2 hk4
              clear hbb
              obtain ⟨mm, hmm, hmk⟩ : ∃ mm, wrap64 (2 ^ kd.toNat) = mm ∧ (kd = 0 ∧ mm = 1 ∨ kd = 1 ∧ mm = 2 ∨ kd = 2 ∧ mm = 4 ∨ kd = 3 ∧ mm = 8) := by
                refine ⟨_, rfl, ?_⟩
                obtain rfl | rfl | rfl | rfl : kd = 0 ∨ kd = 1 ∨ kd = 2 ∨ kd = 3 := by omega
                · exact .inl ⟨rfl, by simp [wrap64]⟩
                · exact .inr (.inl ⟨rfl, by simp [wrap64]⟩)
                · exact .inr (.inr (.inl ⟨rfl, by simp [wrap64]⟩))
                · exact .inr (.inr (.inr ⟨rfl, by simp [wrap64]⟩))
              obtain ⟨hk0, hk4'⟩ := hk4
              have HMK := Lib.hid hmk
              clear hmk
              go_upto_block 4 with (go_at_call 25; refine (give_ref H _ R mm W _ SS.out WB.out (by omega)).mono ?_; rintro e w5 ⟨vh, v5, rfl, hs5, hbl5, ho5, hb5⟩; obtain ⟨a5, c5, hv5, _⟩ := hs5.ex; subst hv5; obtain ⟨a6, c6, hv6, _⟩ := ho5.sl.ex; subst hv6; have SN := Lib.hid hs5; have C6 := Lib.hid (below_alloc w5 (.cells #[.slice a5 (giveR H R mm).1.length c5, .int .i64 (giveR H R mm).2.1] 42)); have BN := Lib.hid (fun k hk => BL.out k (hbl5 k hk)); have ON := Lib.hid ho5; have B5 := Lib.hid hb5; obtain ⟨p1, p2, p3⟩ := blk2 (heap_alloc_new w5 (.cells #[.slice a5 (giveR H R mm).1.length c5, .int .i64 (giveR H R mm).2.1] 42)); obtain ⟨r1, r2, r3⟩ := blk2 (blk_le (blk_le (heap_alloc_new wr (.cells #[.int .i64 kd, .int .i64 nn] 44)) hb5) (below_alloc w5 (.cells #[.slice a5 (giveR H R mm).1.length c5, .int .i64 (giveR H R mm).2.1] 42))); have R5 := Lib.hid ((WR.out.le hb5).le (below_alloc w5 (.cells #[.slice a5 (giveR H R mm).1.length c5, .int .i64 (giveR H R mm).2.1] 42))); have MW5 := Lib.hid (blk_le (blk_le WM.out hb5) (below_alloc w5 (.cells #[.slice a5 (giveR H R mm).1.length c5, .int .i64 (giveR H R mm).2.1] 42))); have WB5 := Lib.hid ((WB.out.trans (hb5.mono WB.out.size)).alloc (WB.out.trans (hb5.mono WB.out.size)).size (.cells #[.slice a5 (giveR H R mm).1.length c5, .int .i64 (giveR H R mm).2.1] 42)); clear hs5 hbl5 ho5 hb5)
              have glt : g < wr.heap.size := by obtain ⟨_, _, _, h, _⟩ := RR.out; exact lt_of_block h
              have mlt : w3.heap.size < wr.heap.size := lt_of_block M.out
              have mne : w3.heap.size ≠ g := by have := HGM.out; omega
              have hH1 : (giveR H R mm).1.length ≤ 3000 := Nat.le_trans (giveR_len H R mm).1 hH
              have hH2 : (giveR H R mm).2.2.length ≤ 3000 := Nat.le_trans (giveR_len H R mm).2 hH
              have s5 := B5.out.size
              simp at s5
              have N5 := Lib.hid (heap_alloc_new w5 (.cells #[.slice a5 (giveR H R mm).1.length c5, .int .i64 (giveR H R mm).2.1] 42))
              have hw5 : w5.heap.size < (w5.alloc (.cells #[.slice a5 (giveR H R mm).1.length c5, .int .i64 (giveR H R mm).2.1] 42)).heap.size := by simp
              generalize w5.alloc (.cells #[.slice a5 (giveR H R mm).1.length c5, .int .i64 (giveR H R mm).2.1] 42) = w6 at *
              go_cut [14] (fun ok wx => ok = .bool true ∧ Below W.heap.size W wx ∧ Rd wx g w2.heap.size (giveR H R mm).1 (giveR H R mm).2.1 ∧ wx.heap[w5.heap.size]? = some (.cells #[.slice a5 (giveR H R mm).1.length c5, .int .i64 (giveR H R mm).2.1] 42 (0, 0)) ∧ wx.heap[w3.heap.size]? = some (.cells #[.slice am H.length cm, .int .i64 R] 42 (0, 0)))
              case first =>
                clear p1 p2 p3
                rcases HMK.out with ⟨rfl, rfl⟩ | ⟨rfl, rfl⟩ | ⟨rfl, rfl⟩ | ⟨rfl, rfl⟩
                · have HU := Lib.hid (u8_any g w2.heap.size H R w6 R5.out (by omega))
                  go_wp2_with fail
                  refine HU.out.mono ?_
                  rintro e w7 ⟨rfl, hr7, hg7⟩
                  have gs : w6.heap.size ≤ w7.heap.size := hg7.size
                  have ON7 := Lib.hid ((ON.out.sl.le C6.out).grown hg7 (.inr (fun e => by have := (ON.out.lt _ e).1; simp at this; omega)))
                  have N7 := Lib.hid ((hg7.block w5.heap.size hw5 (fun e => by have := Option.some.inj e; omega)).trans N5.out)
                  have M7 := Lib.hid ((hg7.block w3.heap.size (by omega) (fun e => by have := Option.some.inj e; omega)).trans MW5.out)
                  have B7 := Lib.hid (WB5.out.grown hg7 WB5.out.size (fun k hk => by have := Option.some.inj hk; omega))
                  have R7 := Lib.hid hr7
                  have hnl := numB_lt (giveR H R 1).2.2
                  have hnm := num_eq (giveR H R 1).2.2 (giveR_le8 H R 1 (by omega) (by omega))
                  have hnb : numB (giveR H R 1).2.2 < 256 ^ 1 := giveR_lt H R 1
                  have NUM := Lib.hid (show Calls Try.prog 27 #[.slice a6 (giveR H R 1).2.2.length c6] w7 fun e w' => e = .returned (.int .u64 (numB (giveR H R 1).2.2)) ∧ w7 = w' by
                    have := number_any _ _ _ ON7.out (by omega)
                    rwa [hnm] at this)
                  clear hr7 hg7 hnm hnl
                  have hnb' : numB (giveR H R 1).2.2 < 256 := hnb
                  clear hnb
                  obtain ⟨NB, hNB⟩ : ∃ NB, numB (giveR H R 1).2.2 = NB := ⟨_, rfl⟩
                  rw [hNB] at hnb'
                  have HNB := Lib.hid hNB
                  go_wp2_with fail
                  refine NUM.out.mono ?_
                  rintro e w' ⟨he, rfl⟩
                  rw [hNB] at he
                  subst he
                  go_wp2_with fail
                  go_meet
                  exact ⟨rfl, B7.out, R7.out, N7.out, M7.out⟩
                · have HU := Lib.hid (u16_any g w2.heap.size H R w6 R5.out (by omega))
                  go_wp2_with fail
                  refine HU.out.mono ?_
                  rintro e w7 ⟨rfl, hr7, hg7⟩
                  have gs : w6.heap.size ≤ w7.heap.size := hg7.size
                  have ON7 := Lib.hid ((ON.out.sl.le C6.out).grown hg7 (.inr (fun e => by have := (ON.out.lt _ e).1; simp at this; omega)))
                  have N7 := Lib.hid ((hg7.block w5.heap.size hw5 (fun e => by have := Option.some.inj e; omega)).trans N5.out)
                  have M7 := Lib.hid ((hg7.block w3.heap.size (by omega) (fun e => by have := Option.some.inj e; omega)).trans MW5.out)
                  have B7 := Lib.hid (WB5.out.grown hg7 WB5.out.size (fun k hk => by have := Option.some.inj hk; omega))
                  have R7 := Lib.hid hr7
                  have hnl := numB_lt (giveR H R 2).2.2
                  have hnm := num_eq (giveR H R 2).2.2 (giveR_le8 H R 2 (by omega) (by omega))
                  have hnb : numB (giveR H R 2).2.2 < 256 ^ 2 := giveR_lt H R 2
                  have NUM := Lib.hid (show Calls Try.prog 27 #[.slice a6 (giveR H R 2).2.2.length c6] w7 fun e w' => e = .returned (.int .u64 (numB (giveR H R 2).2.2)) ∧ w7 = w' by
                    have := number_any _ _ _ ON7.out (by omega)
                    rwa [hnm] at this)
                  clear hr7 hg7 hnm hnl
                  have hnb' : numB (giveR H R 2).2.2 < 65536 := hnb
                  clear hnb
                  obtain ⟨NB, hNB⟩ : ∃ NB, numB (giveR H R 2).2.2 = NB := ⟨_, rfl⟩
                  rw [hNB] at hnb'
                  have HNB := Lib.hid hNB
                  go_wp2_with fail
                  refine NUM.out.mono ?_
                  rintro e w' ⟨he, rfl⟩
                  rw [hNB] at he
                  subst he
                  go_wp2_with fail
                  go_meet
                  exact ⟨rfl, B7.out, R7.out, N7.out, M7.out⟩
                · have HU := Lib.hid (u32_any g w2.heap.size H R w6 R5.out (by omega))
                  go_wp2_with fail
                  refine HU.out.mono ?_
                  rintro e w7 ⟨rfl, hr7, hg7⟩
                  have gs : w6.heap.size ≤ w7.heap.size := hg7.size
                  have ON7 := Lib.hid ((ON.out.sl.le C6.out).grown hg7 (.inr (fun e => by have := (ON.out.lt _ e).1; simp at this; omega)))
                  have N7 := Lib.hid ((hg7.block w5.heap.size hw5 (fun e => by have := Option.some.inj e; omega)).trans N5.out)
                  have M7 := Lib.hid ((hg7.block w3.heap.size (by omega) (fun e => by have := Option.some.inj e; omega)).trans MW5.out)
                  have B7 := Lib.hid (WB5.out.grown hg7 WB5.out.size (fun k hk => by have := Option.some.inj hk; omega))
                  have R7 := Lib.hid hr7
                  have hnl := numB_lt (giveR H R 4).2.2
                  have hnm := num_eq (giveR H R 4).2.2 (giveR_le8 H R 4 (by omega) (by omega))
                  have hnb : numB (giveR H R 4).2.2 < 256 ^ 4 := giveR_lt H R 4
                  have NUM := Lib.hid (show Calls Try.prog 27 #[.slice a6 (giveR H R 4).2.2.length c6] w7 fun e w' => e = .returned (.int .u64 (numB (giveR H R 4).2.2)) ∧ w7 = w' by
                    have := number_any _ _ _ ON7.out (by omega)
                    rwa [hnm] at this)
                  clear hr7 hg7 hnm hnl
                  have hnb' : numB (giveR H R 4).2.2 < 4294967296 := hnb
                  clear hnb
                  obtain ⟨NB, hNB⟩ : ∃ NB, numB (giveR H R 4).2.2 = NB := ⟨_, rfl⟩
                  rw [hNB] at hnb'
                  have HNB := Lib.hid hNB
                  go_wp2_with fail
                  refine NUM.out.mono ?_
                  rintro e w' ⟨he, rfl⟩
                  rw [hNB] at he
                  subst he
                  go_wp2_with fail
                  go_meet
                  exact ⟨rfl, B7.out, R7.out, N7.out, M7.out⟩
                · have HU := Lib.hid (u64_any g w2.heap.size H R w6 R5.out (by omega))
                  go_wp2_with fail
                  refine HU.out.mono ?_
                  rintro e w7 ⟨rfl, hr7, hg7⟩
                  have gs : w6.heap.size ≤ w7.heap.size := hg7.size
                  have ON7 := Lib.hid ((ON.out.sl.le C6.out).grown hg7 (.inr (fun e => by have := (ON.out.lt _ e).1; simp at this; omega)))
                  have N7 := Lib.hid ((hg7.block w5.heap.size hw5 (fun e => by have := Option.some.inj e; omega)).trans N5.out)
                  have M7 := Lib.hid ((hg7.block w3.heap.size (by omega) (fun e => by have := Option.some.inj e; omega)).trans MW5.out)
                  have B7 := Lib.hid (WB5.out.grown hg7 WB5.out.size (fun k hk => by have := Option.some.inj hk; omega))
                  have R7 := Lib.hid hr7
                  have hnl := numB_lt (giveR H R 8).2.2
                  have hnm := num_eq (giveR H R 8).2.2 (giveR_le8 H R 8 (by omega) (by omega))
                  have hnb : numB (giveR H R 8).2.2 < 256 ^ 8 := giveR_lt H R 8
                  have NUM := Lib.hid (show Calls Try.prog 27 #[.slice a6 (giveR H R 8).2.2.length c6] w7 fun e w' => e = .returned (.int .u64 (numB (giveR H R 8).2.2)) ∧ w7 = w' by
                    have := number_any _ _ _ ON7.out (by omega)
                    rwa [hnm] at this)
                  clear hr7 hg7 hnm hnl
                  have hnb' : numB (giveR H R 8).2.2 < 18446744073709551616 := hnb
                  clear hnb
                  obtain ⟨NB, hNB⟩ : ∃ NB, numB (giveR H R 8).2.2 = NB := ⟨_, rfl⟩
                  rw [hNB] at hnb'
                  have HNB := Lib.hid hNB
                  go_wp2_with fail
                  refine NUM.out.mono ?_
                  rintro e w' ⟨he, rfl⟩
                  rw [hNB] at he
                  subst he
                  go_wp2_with fail
                  go_meet
                  exact ⟨rfl, B7.out, R7.out, N7.out, M7.out⟩
              case rest =>

                obtain ⟨rfl, hb, hr, hn, hmmm⟩ := hcut
                obtain ⟨w9, rfl⟩ : ∃ w9 : World, w9 = wc := ⟨_, rfl⟩
                have B9 := Lib.hid hb; have R9 := Lib.hid hr; have N9 := Lib.hid hn; have M9 := Lib.hid hmmm
                clear hb hr hn hmmm p1 p2 p3 r1 r2 r3
                go_wp2_with fail
                refine (rest_any g w2.heap.size (giveR H R mm).1 (giveR H R mm).2.1 w9 R9.out (by omega)).mono ?_
                rintro e w10 ⟨v10, rfl, ho, hb⟩
                obtain ⟨a10, c10, hv10, _⟩ := ho.sl.ex
                subst hv10
                have O10 := Lib.hid ho; have R10 := Lib.hid (R9.out.le hb); have N10 := Lib.hid (blk_le N9.out hb); have B10 := Lib.hid (B9.out.trans (hb.mono B9.out.size)); have C10 := Lib.hid hb
                obtain ⟨n1, n2, n3⟩ := blk2 N10.out
                clear ho hb
                go_wp2_with fail
                go_region_held3 (fun w' => w'.cell? ⟨w5.heap.size, 0, none⟩ = some (.slice a5 (giveR H R mm).1.length c5) ∧ w'.cell? ⟨w5.heap.size, 1, none⟩ = some (.int .i64 (giveR H R mm).2.1)) (first | go_keep | exact ⟨y1, y2⟩)
                  (first
                    | (go_at_call 16; refine (same_any (giveR H R mm).1 (giveR H R mm).1 _ _ _ (O10.out.sl.le (Below.refl _ w10).drew) (SN.out.le B10.out.drew) (by omega)).mono ?_; rintro e w11 ⟨he, hb11⟩; obtain rfl := ret_true he rfl; obtain ⟨y1, y2, _⟩ := blk2 (blk_le (w := w10.drew) N10.out hb11); have T11 := Lib.hid hb11; clear he hb11)
                    | (go_at_call 33; refine (left_any g w2.heap.size (giveR H R mm).1 (giveR H R mm).2.1 _ (R10.out.le (bt (b := w10.drew) (Below.refl _ w10).drew T11.out)) (by omega)).mono ?_; rintro e w12 ⟨rfl, hb12⟩; obtain ⟨y1, y2, _⟩ := blk2 (blk_le (w := w10.drew) N10.out (bt T11.out hb12)); have T12 := Lib.hid (bt T11.out hb12); clear hb12)
                    | (go_at_call 34; refine (err_any g w2.heap.size (giveR H R mm).1 (giveR H R mm).2.1 _ (R10.out.le (bt (b := w10.drew) (Below.refl _ w10).drew T12.out))).mono ?_; rintro e w13 ⟨rfl, rfl⟩))
                have Q12 := Lib.hid (bt C10.out (bt (b := w10.drew) (Below.refl _ w10).drew T12.out))
                have RW12 := Lib.hid (O10.out.wr.le (bt (b := w10.drew) (Below.refl _ w10).drew T12.out))
                clear y1 y2 n1 n2 n3
                go_wp2_with fail
                go_loopw [153] (fun i wr => ∃ k : Nat, k ≤ (giveR H R mm).1.length ∧ i = .int .i64 k ∧ Below w9.heap.size w9 wr ∧ WrB wr w9.heap.size (.slice a10 (giveR H R mm).1.length c10) (giveR H R mm).1.length) (fun i _ => (giveR H R mm).1.length - (intOf i).toNat)
                case atStart => exact ⟨0, Nat.zero_le _, rfl, Q12.out, RW12.out⟩
                case round =>
                  obtain ⟨i, hi, rfl, hb, hw⟩ := hrel
                  by_cases hlt3 : i < (giveR H R mm).1.length
                  · have hw' := hw
                    obtain ⟨A', C', hv, hex⟩ := hw'
                    simp only [Value.slice.injEq] at hv
                    obtain ⟨rfl, _, rfl⟩ := hv
                    obtain ⟨gi, off, cur, rfl, hbg, hgi, hc⟩ := hex (by omega)
                    obtain ⟨c, hci⟩ := hc i hlt3
                    have q := (blk hgi).1 (off + i)
                    rw [hci] at q
                    have q2 := (blk hgi).2 (off + i)
                    obtain ⟨c', hc'⟩ := wrap_u8_add c 1
                    have Z := Lib.hid (And.intro hb hw)
                    clear hb hw hex hgi hc hci
                    go_wp2_with fail
                    go_roundw
                    case rel => exact ⟨i + 1, hlt3, by go_num, Z.out.1.setCell hbg _, Z.out.2.set _ _ _⟩
                    case measure => simp [intOf]; omega
                  · have hN := blk_le N9.out hb
                    have hM := blk_le M9.out hb
                    obtain ⟨n1, n2, n3⟩ := blk2 hN
                    obtain ⟨m1, m2, m3⟩ := blk2 hM
                    have hRd := R9.out.le hb
                    have hne : w3.heap.size ≠ w5.heap.size := by omega
                    have hs1 := blk_set (i := 0) hM (.slice a5 (giveR H R mm).1.length c5)
                    have hs2 := blk_set (i := 1) hs1 (.int .i64 (giveR H R mm).2.1)
                    obtain ⟨m4, m5, m6⟩ := blk2 (x := .slice a5 (giveR H R mm).1.length c5) (y := .int .i64 R) hs1
                    have Z := Lib.hid (And.intro hRd (And.intro hM (And.intro hs1 (And.intro hs2 (B9.out.trans (hb.mono B9.out.size))))))
                    clear hN hM hRd hs1 hs2 hb hw
                    go_wp2_with fail
                    go_roundw
                    case rel =>
                      obtain ⟨z1, z2, z3, z4, z5⟩ := Z.out
                      exact ⟨k + 1, hlt, by go_num, (z5.setCell (by show W.heap.size ≤ w3.heap.size; have := HGM.out; omega) _).setCell (by show W.heap.size ≤ w3.heap.size; have := HGM.out; omega) _, (giveR H R mm).1, (giveR H R mm).2.1, .slice a5 (giveR H R mm).1.length c5, hH1, (z1.set_kind z2 (by decide) mne _ _).set_kind z3 (by decide) mne _ _, z4, SN.out, BN.out⟩
                    case measure => simp [intOf]; omega
            · obtain rfl : bb = false := by cases bb with | false => rfl | true => exact absurd (hbb.1 rfl) hk4
              clear hbb
              have e0 : (kd == 0) = false := by simp; omega
              have e1 : (kd == 1) = false := by simp; omega
              have e2 : (kd == 2) = false := by simp; omega
              have e3 : (kd == 3) = false := by simp; omega
              clear hk4
              go_wp2_with (go_at_call 25; refine (give_ref H _ R nn W _ SS.out WB.out (by omega)).mono ?_; rintro e w5 ⟨vh, v5, rfl, hs5, hbl5, ho5, hb5⟩; obtain ⟨a5, c5, hv5, _⟩ := hs5.ex; subst hv5; obtain ⟨a6, c6, hv6, _⟩ := ho5.sl.ex; subst hv6; have SN := Lib.hid hs5; have C6 := Lib.hid (below_alloc w5 (.cells #[.slice a5 (giveR H R nn).1.length c5, .int .i64 (giveR H R nn).2.1] 42)); have BN := Lib.hid (fun k hk => BL.out k (hbl5 k hk)); have ON := Lib.hid ho5; have B5 := Lib.hid hb5; obtain ⟨p1, p2, p3⟩ := blk2 (heap_alloc_new w5 (.cells #[.slice a5 (giveR H R nn).1.length c5, .int .i64 (giveR H R nn).2.1] 42)); obtain ⟨r1, r2, r3⟩ := blk2 (blk_le (blk_le (heap_alloc_new wr (.cells #[.int .i64 kd, .int .i64 nn] 44)) hb5) (below_alloc w5 (.cells #[.slice a5 (giveR H R nn).1.length c5, .int .i64 (giveR H R nn).2.1] 42))); have R5 := Lib.hid ((WR.out.le hb5).le (below_alloc w5 (.cells #[.slice a5 (giveR H R nn).1.length c5, .int .i64 (giveR H R nn).2.1] 42))); have MW5 := Lib.hid (blk_le (blk_le WM.out hb5) (below_alloc w5 (.cells #[.slice a5 (giveR H R nn).1.length c5, .int .i64 (giveR H R nn).2.1] 42))); have WB5 := Lib.hid ((WB.out.trans (hb5.mono WB.out.size)).alloc (WB.out.trans (hb5.mono WB.out.size)).size (.cells #[.slice a5 (giveR H R nn).1.length c5, .int .i64 (giveR H R nn).2.1] 42)); clear hs5 hbl5 ho5 hb5)
              have glt : g < wr.heap.size := by obtain ⟨_, _, _, h, _⟩ := RR.out; exact lt_of_block h
              have mlt : w3.heap.size < wr.heap.size := lt_of_block M.out
              have mne : w3.heap.size ≠ g := by have := HGM.out; omega
              have hH1 : (giveR H R nn).1.length ≤ 3000 := Nat.le_trans (giveR_len H R nn).1 hH
              have hH2 : (giveR H R nn).2.2.length ≤ 3000 := Nat.le_trans (giveR_len H R nn).2 hH
              have s5 := B5.out.size
              simp at s5
              have N5 := Lib.hid (heap_alloc_new w5 (.cells #[.slice a5 (giveR H R nn).1.length c5, .int .i64 (giveR H R nn).2.1] 42))
              have hw5 : w5.heap.size < (w5.alloc (.cells #[.slice a5 (giveR H R nn).1.length c5, .int .i64 (giveR H R nn).2.1] 42)).heap.size := by simp
              generalize w5.alloc (.cells #[.slice a5 (giveR H R nn).1.length c5, .int .i64 (giveR H R nn).2.1] 42) = w6 at *
              refine (raw_any g w2.heap.size H R nn w6 R5.out (by omega)).mono ?_
              rintro e w7 ⟨v7, A7, C7, rfl, hr7, hm7, hs7, hbl7, hoff7, hw7, hg7⟩
              obtain ⟨a7, c7, hv7, _⟩ := hs7.ex
              subst hv7
              have gs : w6.heap.size ≤ w7.heap.size := hg7.size
              have ON7 := Lib.hid ((ON.out.sl.le C6.out).grown hg7 (.inr (fun e => by have := (ON.out.lt _ e).1; simp at this; omega)))
              have N7 := Lib.hid ((hg7.block w5.heap.size hw5 (fun e => by have := Option.some.inj e; omega)).trans N5.out)
              have M7 := Lib.hid ((hg7.block w3.heap.size (by omega) (fun e => by have := Option.some.inj e; omega)).trans MW5.out)
              have B7 := Lib.hid (WB5.out.grown hg7 WB5.out.size (fun k hk => by have := Option.some.inj hk; omega))
              have RW7 := Lib.hid (And.intro hr7 (And.intro hm7 hw7))
              have S7 := Lib.hid hs7; have OFF := Lib.hid hoff7; have BL7 := Lib.hid hbl7
              clear hr7 hm7 hs7 hbl7 hoff7 hw7 hg7 p1 p2 p3 r1 r2 r3
              go_wp2_with fail
              refine (same_any _ _ _ _ _ S7.out ON7.out (by omega)).mono ?_
              rintro e w8 ⟨he, hb8⟩
              obtain rfl := ret_true he rfl
              have N8 := Lib.hid (blk_le N7.out hb8); have M8 := Lib.hid (blk_le M7.out hb8); have B8 := Lib.hid (B7.out.trans (hb8.mono B7.out.size))
              have RW8 := Lib.hid (And.intro (RW7.out.1.le hb8) (And.intro (blk_le RW7.out.2.1 hb8) (RW7.out.2.2.le hb8)))
              clear he hb8
              go_wp2_with fail
              go_loopw [84] (fun i wr => ∃ k : Nat, k ≤ (giveR H R nn).2.2.length ∧ i = .int .i64 k ∧ Below W.heap.size W wr ∧ Rd wr g w2.heap.size (giveR H R nn).1 (giveR H R nn).2.1 ∧ wr.heap[g]? = some (.cells #[.slice A7 (giveR H R nn).1.length C7, .int .i64 (giveR H R nn).2.1] 72 (0, 0)) ∧
                WrB wr w2.heap.size (.slice a7 (giveR H R nn).2.2.length c7) (giveR H R nn).2.2.length ∧ wr.heap[w5.heap.size]? = some (.cells #[.slice a5 (giveR H R nn).1.length c5, .int .i64 (giveR H R nn).2.1] 42 (0, 0)) ∧ wr.heap[w3.heap.size]? = some (.cells #[.slice am H.length cm, .int .i64 R] 42 (0, 0))) (fun i _ => (giveR H R nn).2.2.length - (intOf i).toNat)
              case atStart => exact ⟨0, Nat.zero_le _, rfl, B8.out, RW8.out.1, RW8.out.2.1, RW8.out.2.2, N8.out, M8.out⟩
              case round =>
                obtain ⟨i, hi, rfl, hb, hr, hm, hw, hn, hmm⟩ := hrel
                by_cases hlt2 : i < (giveR H R nn).2.2.length
                · have hw' := hw
                  obtain ⟨A', C', hv, hex⟩ := hw'
                  simp only [Value.slice.injEq] at hv
                  obtain ⟨rfl, _, rfl⟩ := hv
                  obtain ⟨gi, off, cur, rfl, hbg, hgi, hc⟩ := hex (by omega)
                  obtain ⟨c, hci⟩ := hc i hlt2
                  have q := (blk hgi).1 (off + i)
                  rw [hci] at q
                  have q2 := (blk hgi).2 (off + i)
                  obtain ⟨c', hc'⟩ := wrap_u8_add c 1
                  have k1 : gi ≠ g := ne_of_kind hgi hm (by decide)
                  have k2 : gi ≠ w5.heap.size := ne_of_kind hgi hn (by decide)
                  have k3 : gi ≠ w3.heap.size := ne_of_kind hgi hmm (by decide)
                  have Z := Lib.hid (And.intro hb (And.intro hr (And.intro hm (And.intro hw (And.intro hn hmm)))))
                  clear hb hr hm hw hn hmm hex hgi hc hci
                  go_wp2_with fail
                  go_roundw
                  case rel =>
                    obtain ⟨z1, z2, z3, z4, z5, z6⟩ := Z.out
                    refine ⟨i + 1, hlt2, by go_num, z1.setCell (by show W.heap.size ≤ gi; omega) _, z2.set_got z3 gi (off + i) k1 ?_ c', ?_, z4.set _ _ _, ?_, ?_⟩
                    · intro x hx hne hxb
                      have := OFF.out x _ _ _ hx rfl hne hxb
                      simp only at this
                      omega
                    · rw [Below.heap_setCell _ _ _ _ (by exact fun e => k1 e.symm)]; exact z3
                    · rw [Below.heap_setCell _ _ _ _ (by exact fun e => k2 e.symm)]; exact z5
                    · rw [Below.heap_setCell _ _ _ _ (by exact fun e => k3 e.symm)]; exact z6
                  case measure => simp [intOf]; omega
                · have B9 := Lib.hid hb; have R9 := Lib.hid hr; have N9 := Lib.hid hn; have M9 := Lib.hid hmm
                  clear hb hr hm hw hn hmm
                  obtain ⟨w9, rfl⟩ : ∃ w9 : World, w9 = wr := ⟨_, rfl⟩
                  go_wp2_with fail
                  refine (rest_any g w2.heap.size (giveR H R nn).1 (giveR H R nn).2.1 w9 R9.out (by omega)).mono ?_
                  rintro e w10 ⟨v10, rfl, ho, hb⟩
                  obtain ⟨a10, c10, hv10, _⟩ := ho.sl.ex
                  subst hv10
                  have O10 := Lib.hid ho; have R10 := Lib.hid (R9.out.le hb); have N10 := Lib.hid (blk_le N9.out hb); have B10 := Lib.hid (B9.out.trans (hb.mono B9.out.size)); have C10 := Lib.hid hb
                  obtain ⟨n1, n2, n3⟩ := blk2 N10.out
                  clear ho hb
                  go_wp2_with fail
                  go_region_held3 (fun w' => w'.cell? ⟨w5.heap.size, 0, none⟩ = some (.slice a5 (giveR H R nn).1.length c5) ∧ w'.cell? ⟨w5.heap.size, 1, none⟩ = some (.int .i64 (giveR H R nn).2.1)) (first | go_keep | exact ⟨y1, y2⟩)
                    (first
                      | (go_at_call 16; refine (same_any (giveR H R nn).1 (giveR H R nn).1 _ _ _ (O10.out.sl.le (Below.refl _ w10).drew) (SN.out.le B10.out.drew) (by omega)).mono ?_; rintro e w11 ⟨he, hb11⟩; obtain rfl := ret_true he rfl; obtain ⟨y1, y2, _⟩ := blk2 (blk_le (w := w10.drew) N10.out hb11); have T11 := Lib.hid hb11; clear he hb11)
                      | (go_at_call 33; refine (left_any g w2.heap.size (giveR H R nn).1 (giveR H R nn).2.1 _ (R10.out.le (bt (b := w10.drew) (Below.refl _ w10).drew T11.out)) (by omega)).mono ?_; rintro e w12 ⟨rfl, hb12⟩; obtain ⟨y1, y2, _⟩ := blk2 (blk_le (w := w10.drew) N10.out (bt T11.out hb12)); have T12 := Lib.hid (bt T11.out hb12); clear hb12)
                      | (go_at_call 34; refine (err_any g w2.heap.size (giveR H R nn).1 (giveR H R nn).2.1 _ (R10.out.le (bt (b := w10.drew) (Below.refl _ w10).drew T12.out))).mono ?_; rintro e w13 ⟨rfl, rfl⟩))
                  have Q12 := Lib.hid (bt C10.out (bt (b := w10.drew) (Below.refl _ w10).drew T12.out))
                  have RW12 := Lib.hid (O10.out.wr.le (bt (b := w10.drew) (Below.refl _ w10).drew T12.out))
                  clear y1 y2 n1 n2 n3
                  go_wp2_with fail
                  go_loopw [153] (fun i wr => ∃ k : Nat, k ≤ (giveR H R nn).1.length ∧ i = .int .i64 k ∧ Below w9.heap.size w9 wr ∧ WrB wr w9.heap.size (.slice a10 (giveR H R nn).1.length c10) (giveR H R nn).1.length) (fun i _ => (giveR H R nn).1.length - (intOf i).toNat)
                  case atStart => exact ⟨0, Nat.zero_le _, rfl, Q12.out, RW12.out⟩
                  case round =>
                    obtain ⟨i, hi, rfl, hb, hw⟩ := hrel
                    by_cases hlt3 : i < (giveR H R nn).1.length
                    · have hw' := hw
                      obtain ⟨A', C', hv, hex⟩ := hw'
                      simp only [Value.slice.injEq] at hv
                      obtain ⟨rfl, _, rfl⟩ := hv
                      obtain ⟨gi, off, cur, rfl, hbg, hgi, hc⟩ := hex (by omega)
                      obtain ⟨c, hci⟩ := hc i hlt3
                      have q := (blk hgi).1 (off + i)
                      rw [hci] at q
                      have q2 := (blk hgi).2 (off + i)
                      obtain ⟨c', hc'⟩ := wrap_u8_add c 1
                      have Z := Lib.hid (And.intro hb hw)
                      clear hb hw hex hgi hc hci
                      go_wp2_with fail
                      go_roundw
                      case rel => exact ⟨i + 1, hlt3, by go_num, Z.out.1.setCell hbg _, Z.out.2.set _ _ _⟩
                      case measure => simp [intOf]; omega
                    · have hN := blk_le N9.out hb
                      have hM := blk_le M9.out hb
                      obtain ⟨n1, n2, n3⟩ := blk2 hN
                      obtain ⟨m1, m2, m3⟩ := blk2 hM
                      have hRd := R9.out.le hb
                      have hne : w3.heap.size ≠ w5.heap.size := by omega
                      have hs1 := blk_set (i := 0) hM (.slice a5 (giveR H R nn).1.length c5)
                      have hs2 := blk_set (i := 1) hs1 (.int .i64 (giveR H R nn).2.1)
                      obtain ⟨m4, m5, m6⟩ := blk2 (x := .slice a5 (giveR H R nn).1.length c5) (y := .int .i64 R) hs1
                      have Z := Lib.hid (And.intro hRd (And.intro hM (And.intro hs1 (And.intro hs2 (B9.out.trans (hb.mono B9.out.size))))))
                      clear hN hM hRd hs1 hs2 hb hw
                      go_wp2_with fail
                      go_roundw
                      case rel =>
                        obtain ⟨z1, z2, z3, z4, z5⟩ := Z.out
                        exact ⟨k + 1, hlt, by go_num, (z5.setCell (by show W.heap.size ≤ w3.heap.size; have := HGM.out; omega) _).setCell (by show W.heap.size ≤ w3.heap.size; have := HGM.out; omega) _, (giveR H R nn).1, (giveR H R nn).2.1, .slice a5 (giveR H R nn).1.length c5, hH1, (z1.set_kind z2 (by decide) mne _ _).set_kind z3 (by decide) mne _ _, z4, SN.out, BN.out⟩
                      case measure => simp [intOf]; omega
        · have B := Lib.hid hb
          clear hb hr hm hs hbl
          go_wp2_with fail
          go_ret
          exact ⟨rfl, B.out⟩
end Go.Proofs.Ytclhhnmafmicpaa
