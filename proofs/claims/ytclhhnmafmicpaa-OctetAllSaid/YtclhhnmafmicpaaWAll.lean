/- Walk: OctetAll. Conditions: as each theorem states them. -/
import Derived.Test.YtclhhnmafmicpaaH
import Derived.Test.YtclhhnmafmicpaaO
import Derived.Test.YtclhhnmafmicpaaQ
import Derived.Deep.DeepCutAuto
import Derived.Deep.CutBlock
namespace Go.Proofs.Ytclhhnmafmicpaa
open Go.ChangeShapes Go.WideShapes Go.ChangeAt Go.RowKit
set_option linter.unusedVariables false

theorem giveR_cat (H : List UInt8) (R n : Int) : (giveR H R n).2.2 ++ (giveR H R n).1 = H := by
  unfold giveR; repeat' split
  all_goals simp
theorem giveR_err (H : List UInt8) (R n : Int) (h : (giveR H R n).2.1 ≠ 0) : (giveR H R n).1 = H := by
  unfold giveR at *; repeat' split
  all_goals simp_all
theorem giveR_got (H : List UInt8) (R : Int) (n : Nat) (h : (giveR H R n).1.length < H.length) : (giveR H R n).2.2.length = n := by
  unfold giveR at *
  split at h
  · simp at h
  · split at h
    · simp at h
    · split at h
      · simp at h
      · rename_i h1 h2 h3
        rw [if_neg h1, if_neg h2, if_neg h3]
        simp only [List.length_take]; omega
theorem giveR_not (H : List UInt8) (R : Int) (n : Nat) (h : ¬ (giveR H R n).1.length < H.length) (h0 : 0 < n) : (giveR H R n).2.2 = [] := by
  have := congrArg List.length (giveR_cat H R n)
  rw [List.length_append] at this
  exact List.eq_nil_of_length_eq_zero (by omega)
theorem giveR_hi (H : List UInt8) (R : Int) (n : Nat) (h : (giveR H R n).1.length < H.length) : hi (numB (giveR H R n).2.2) n = (giveR H R n).2.2 := hi_numB n _ (giveR_got H R n h)

/-- what holds behind each turn -/
def AllIn (W w2 : World) (g B : Nat) (b : List UInt8) (len0 : Nat) (s : Value) (wx : World) : Prop :=
  ∃ H R gl, H.length ≤ 2000 ∧ gl.length ≤ 2000 ∧ Rd wx g (B, w2.heap.size) H R ∧ Own EB wx w2.heap.size s gl ∧ gl ++ H = b ∧ Below W.heap.size W wx ∧ w2.heap.size ≤ wx.heap.size ∧ (R ≠ 0 → H.length = len0)

theorem AllIn.mk' {W w2 wx : World} {g B : Nat} {b : List UInt8} {len0 : Nat} {s : Value} {H0 gl0 : List UInt8} {R0 n : Int} {gl : List UInt8} (h0 : gl0 ++ H0 = b) (hlb : b.length ≤ 2000) (hlen : H0.length = len0) (hgl : gl = gl0 ++ (giveR H0 R0 n).2.2)
    (hr : Rd wx g (B, w2.heap.size) (giveR H0 R0 n).1 (giveR H0 R0 n).2.1) (ho : Own EB wx w2.heap.size s gl) (hb : Below W.heap.size W wx) (hs : w2.heap.size ≤ wx.heap.size) : AllIn W w2 g B b len0 s wx := by
  have hc := giveR_cat H0 R0 n
  have h1 := congrArg List.length h0
  have h2 := congrArg List.length hc
  simp only [List.length_append] at h1 h2
  subst hgl
  refine ⟨_, _, _, ?_, ?_, hr, ho, ?_, hb, hs, fun h => ?_⟩
  · omega
  · rw [List.length_append]; omega
  · rw [List.append_assoc, hc, h0]
  · rw [giveR_err _ _ _ h, hlen]

set_option maxHeartbeats 20000000 in
set_option maxRecDepth 100000 in
theorem all_main (b : List UInt8) (l : List WantD) (vb vl : Value) (W : World) (hB : Sl EB W vb b) (hL : Sl encW W vl l) (hok : ∀ x ∈ l, x.ok) (hlb : b.length ≤ 2000) (hll : l.length ≤ 150) :
    Calls Try.prog 8 #[vb, vl] W fun e w' => e = .returned (.bool true) ∧ Below W.heap.size W w' := by
  have HB := Lib.hid hB; have HK := Lib.hid hok
  obtain ⟨ab, cb, hv, -⟩ := hB.ex
  subst hv
  obtain ⟨al, cl, hv, hl1, hl2, hl3⟩ := hL.want
  subst hv
  have HLC := Lib.hid hl3
  clear hB hL hok hl3
  go_enter Try.func8, Try.ntmps8
  go_wp2_with fail
  refine (wakes_any _).mono ?_
  rintro e w1 ⟨rfl, hb⟩
  have B1 := Lib.hid hb; clear hb
  go_wp2_with fail
  refine (read_any b _ _ (HB.out.le B1.out) (by omega)).mono ?_
  rintro e w2 ⟨g, rfl, hr, hb⟩
  have R2 := Lib.hid hr; have B2 := Lib.hid (bt B1.out hb)
  have hg1 : w1.heap.size ≤ g := by obtain ⟨_, _, _, _, _, h, _⟩ := hr; exact h
  have hg2 : g < w2.heap.size := by obtain ⟨_, _, _, h, _⟩ := hr; exact lt_of_block h
  have hW1 : W.heap.size ≤ w1.heap.size := B1.out.size
  clear hb hr
  go_wp2_with fail
  go_loopw [28, 6] (fun i s wr => ∃ k : Nat, k ≤ l.length ∧ i = .int .i64 k ∧ ∃ len0, AllIn W w2 g w1.heap.size b len0 s wr) (fun i _ _ => l.length - (intOf i).toNat)
  case atStart => exact ⟨0, by omega, rfl, 0, b, 0, [], hlb, by simp, R2.out, Own.nil _ _ _, rfl, B2.out, Nat.le_refl _, fun h => absurd rfl h⟩
  case round =>
    obtain ⟨k, hk, rfl, len00, H, R, gl, hH, hgl, hr, ho, hcat, hb, hsz, -⟩ := hrel
    obtain ⟨ag, cg, hv, -⟩ := ho.sl.ex
    subst hv
    have HR := Lib.hid hr; have HO := Lib.hid ho; have HC := Lib.hid hcat; have HBw := Lib.hid hb
    clear hr ho hcat hb
    by_cases hlt : k < l.length
    · obtain ⟨bl, ol, rfl, hbl2, hc1, hc2⟩ := HLC.out k hlt
      obtain ⟨kd, nn, hkn⟩ : ∃ kd nn, l[k] = ⟨kd, nn⟩ := ⟨_, _, rfl⟩
      have hok := HK.out _ (List.getElem_mem hlt)
      rw [hkn] at hc1 hc2 hok
      have hc1' := (HBw.out.cell (p := ⟨bl, ol + k * 2, none⟩) hbl2).trans hc1
      have hc2' := (HBw.out.cell (p := ⟨bl, ol + k * 2 + 1, none⟩) hbl2).trans hc2
      obtain ⟨⟨hkd1, hkd2⟩, hn1, hn2⟩ := hok
      simp only at hc1' hc2' hkd1 hkd2 hn1 hn2
      have N0 := heap_alloc_new wr (.cells #[.int .i64 kd, .int .i64 nn] 44)
      have A0 := Lib.hid (below_alloc wr (.cells #[.int .i64 kd, .int .i64 nn] 44))
      have HN0 := Lib.hid N0
      clear hc1 hc2 hkn N0
      go_wp2_with fail
      refine (left_any g _ H R _ (HR.out.le A0.out) (by omega)).mono ?_
      rintro e w4 ⟨rfl, hb⟩
      have B4 := Lib.hid (HBw.out.trans ((bt A0.out hb).mono HBw.out.size))
      have R4 := Lib.hid ((HR.out.le A0.out).le hb)
      have O4 := Lib.hid ((HO.out.le A0.out).le hb)
      have Z4 : w2.heap.size ≤ w4.heap.size := Nat.le_trans hsz (Nat.le_trans A0.out.size hb.size)
      obtain ⟨m1, m2, m3⟩ := blk2 (blk_le HN0.out hb)
      clear hb hc1' hc2'
      go_upto_block 2 with fail
      go_cut [6] (fun s wx => AllIn W w2 g w1.heap.size b H.length s wx)
      case first =>
        by_cases k4 : 0 ≤ kd ∧ kd < 4
        · obtain rfl | rfl | rfl | rfl : kd = 0 ∨ kd = 1 ∨ kd = 2 ∨ kd = 3 := by omega
          · have hlt1 := giveR_lt H R 1
            rw [show (256 : Nat) ^ 1 = 256 by decide] at hlt1
            have HU := Lib.hid (u8_any g _ H R w4 R4.out (by omega))
            have HG := Lib.hid (giveR_len H R ((1 : Nat) : Int))
            have HHI := Lib.hid (giveR_hi H R 1); have HNOT := Lib.hid (giveR_not H R 1)
            have hGl := (giveR_len H R ((1 : Nat) : Int)).1
            obtain ⟨G1, G2, G3, hG⟩ : ∃ G1 G2 G3, giveR H R ((1 : Nat) : Int) = (G1, G2, G3) := ⟨_, _, _, rfl⟩
            have HGE := Lib.hid hG
            rw [hG] at hlt1 hGl
            simp only at hlt1 hGl
            have HU2 := Lib.hid (hG ▸ HU.out); have HHI2 := Lib.hid (hG ▸ HHI.out); have HNOT2 := Lib.hid (hG ▸ HNOT.out)
            clear hG HU HHI HNOT HG k4
            go_wp2_with fail
            refine HU2.out.mono ?_
            rintro e w5 ⟨rfl, hr5, hgr⟩
            have hgk : ∀ k, some g = some k → W.heap.size ≤ k := fun k hk => by have := Option.some.inj hk; omega
            have B5 := B4.out.grown hgr B4.out.size hgk
            have R5 := Lib.hid hr5
            have hne5 : (Value.slice ag gl.length cg).ownBlock = none ∨ (Value.slice ag gl.length cg).ownBlock ≠ some g := .inr (fun e => by have := (O4.out.lt _ e).1; omega)
            have O5 := Lib.hid (O4.out.grown hgr hne5)
            have Z5 : w2.heap.size ≤ w5.heap.size := Nat.le_trans Z4 hgr.size
            have BB5 := Lib.hid B5
            clear hr5 hgr hgk B5 hne5 m1 m2 m3
            go_wp2_with fail
            refine (left_any g _ G1 G2 _ R5.out (by omega)).mono ?_
            rintro e w6 ⟨rfl, hb⟩
            have B6 := Lib.hid (BB5.out.trans (hb.mono BB5.out.size)); have R6 := Lib.hid (R5.out.le hb); have O6 := Lib.hid (O5.out.le hb)
            have Z6 : w2.heap.size ≤ w6.heap.size := Nat.le_trans Z5 hb.size
            clear hb
            by_cases hls : G1.length < H.length
            · have e3 := HHI2.out hls
              have E3 := Lib.hid e3
              clear e3
              have hcell : #[Value.int .u8 (numB G3 : Int)] = (EB.f (UInt8.ofNat (numB G3))).toArray := by
                show _ = #[Value.int .u8 ((UInt8.ofNat (numB G3)).toNat : Int)]
                rw [UInt8.toNat_ofNat', Nat.mod_eq_of_lt hlt1]
              have HCELL := Lib.hid hcell
              clear hcell
              go_wp2_with (at_builtin; go_must (refine wpl_app1 eB O6.out (UInt8.ofNat (numB G3)) HCELL.out rfl rfl Try.underlying22 rfl rfl (by simp [maxLen]; omega) (by simp [encB]; omega) Z6 ?_; intro v7 w7 hown hb7 hg7))
              go_meet
              have hc3 : [UInt8.ofNat (numB G3)] = G3 := by have := E3.out; simpa [hi] using this
              rw [hc3] at hown
              exact AllIn.mk' (n := ((1 : Nat) : Int)) HC.out hlb rfl (by rw [HGE.out]) (by rw [HGE.out]; exact R6.out.grown hg7 (fun k hk => by have := (O6.out.lt k hk).1; exact ⟨by omega, .inr this⟩)) hown (B6.out.trans (hb7.mono (by omega))) (Nat.le_trans Z6 hg7.size)
            · have e3 := HNOT2.out hls (by omega)
              subst e3
              go_wp2_with fail
              go_meet
              exact AllIn.mk' (n := ((1 : Nat) : Int)) HC.out hlb rfl (by rw [HGE.out, List.append_nil]) (by rw [HGE.out]; exact R6.out) O6.out B6.out Z6
          · have hlt1 := giveR_lt H R 2
            rw [show (256 : Nat) ^ 2 = 65536 by decide] at hlt1
            have HU := Lib.hid (u16_any g _ H R w4 R4.out (by omega))
            have HG := Lib.hid (giveR_len H R ((2 : Nat) : Int))
            have HHI := Lib.hid (giveR_hi H R 2); have HNOT := Lib.hid (giveR_not H R 2)
            have hGl := (giveR_len H R ((2 : Nat) : Int)).1
            obtain ⟨G1, G2, G3, hG⟩ : ∃ G1 G2 G3, giveR H R ((2 : Nat) : Int) = (G1, G2, G3) := ⟨_, _, _, rfl⟩
            have HGE := Lib.hid hG
            rw [hG] at hlt1 hGl
            simp only at hlt1 hGl
            have HU2 := Lib.hid (hG ▸ HU.out); have HHI2 := Lib.hid (hG ▸ HHI.out); have HNOT2 := Lib.hid (hG ▸ HNOT.out)
            clear hG HU HHI HNOT HG k4
            go_wp2_with fail
            refine HU2.out.mono ?_
            rintro e w5 ⟨rfl, hr5, hgr⟩
            have hgk : ∀ k, some g = some k → W.heap.size ≤ k := fun k hk => by have := Option.some.inj hk; omega
            have B5 := B4.out.grown hgr B4.out.size hgk
            have R5 := Lib.hid hr5
            have hne5 : (Value.slice ag gl.length cg).ownBlock = none ∨ (Value.slice ag gl.length cg).ownBlock ≠ some g := .inr (fun e => by have := (O4.out.lt _ e).1; omega)
            have O5 := Lib.hid (O4.out.grown hgr hne5)
            have Z5 : w2.heap.size ≤ w5.heap.size := Nat.le_trans Z4 hgr.size
            have BB5 := Lib.hid B5
            clear hr5 hgr hgk B5 hne5 m1 m2 m3
            go_wp2_with fail
            refine (left_any g _ G1 G2 _ R5.out (by omega)).mono ?_
            rintro e w6 ⟨rfl, hb⟩
            have B6 := Lib.hid (BB5.out.trans (hb.mono BB5.out.size)); have R6 := Lib.hid (R5.out.le hb); have O6 := Lib.hid (O5.out.le hb)
            have Z6 : w2.heap.size ≤ w6.heap.size := Nat.le_trans Z5 hb.size
            clear hb
            by_cases hls : G1.length < H.length
            · have e3 := HHI2.out hls
              have E3 := Lib.hid e3
              clear e3
              go_wp2_with fail
              refine (put16_any gl _ (numB G3) _ O6.out.sl (by omega) (by omega) (by omega)).mono ?_
              rintro e w7 ⟨v7, rfl, hown, hb7⟩
              have OW := Lib.hid hown; have BB7 := Lib.hid hb7
              clear hown hb7
              go_wp2_with fail
              go_meet
              have hown := OW.out.mono Z6
              rw [Int.toNat_natCast, E3.out] at hown
              exact AllIn.mk' (n := ((2 : Nat) : Int)) HC.out hlb rfl (by rw [HGE.out]) (by rw [HGE.out]; exact R6.out.le BB7.out) hown (B6.out.trans (BB7.out.mono B6.out.size)) (Nat.le_trans Z6 BB7.out.size)
            · have e3 := HNOT2.out hls (by omega)
              subst e3
              go_wp2_with fail
              go_meet
              exact AllIn.mk' (n := ((2 : Nat) : Int)) HC.out hlb rfl (by rw [HGE.out, List.append_nil]) (by rw [HGE.out]; exact R6.out) O6.out B6.out Z6
          · have hlt1 := giveR_lt H R 4
            rw [show (256 : Nat) ^ 4 = 4294967296 by decide] at hlt1
            have HU := Lib.hid (u32_any g _ H R w4 R4.out (by omega))
            have HG := Lib.hid (giveR_len H R ((4 : Nat) : Int))
            have HHI := Lib.hid (giveR_hi H R 4); have HNOT := Lib.hid (giveR_not H R 4)
            have hGl := (giveR_len H R ((4 : Nat) : Int)).1
            obtain ⟨G1, G2, G3, hG⟩ : ∃ G1 G2 G3, giveR H R ((4 : Nat) : Int) = (G1, G2, G3) := ⟨_, _, _, rfl⟩
            have HGE := Lib.hid hG
            rw [hG] at hlt1 hGl
            simp only at hlt1 hGl
            have HU2 := Lib.hid (hG ▸ HU.out); have HHI2 := Lib.hid (hG ▸ HHI.out); have HNOT2 := Lib.hid (hG ▸ HNOT.out)
            clear hG HU HHI HNOT HG k4
            go_wp2_with fail
            refine HU2.out.mono ?_
            rintro e w5 ⟨rfl, hr5, hgr⟩
            have hgk : ∀ k, some g = some k → W.heap.size ≤ k := fun k hk => by have := Option.some.inj hk; omega
            have B5 := B4.out.grown hgr B4.out.size hgk
            have R5 := Lib.hid hr5
            have hne5 : (Value.slice ag gl.length cg).ownBlock = none ∨ (Value.slice ag gl.length cg).ownBlock ≠ some g := .inr (fun e => by have := (O4.out.lt _ e).1; omega)
            have O5 := Lib.hid (O4.out.grown hgr hne5)
            have Z5 : w2.heap.size ≤ w5.heap.size := Nat.le_trans Z4 hgr.size
            have BB5 := Lib.hid B5
            clear hr5 hgr hgk B5 hne5 m1 m2 m3
            go_wp2_with fail
            refine (left_any g _ G1 G2 _ R5.out (by omega)).mono ?_
            rintro e w6 ⟨rfl, hb⟩
            have B6 := Lib.hid (BB5.out.trans (hb.mono BB5.out.size)); have R6 := Lib.hid (R5.out.le hb); have O6 := Lib.hid (O5.out.le hb)
            have Z6 : w2.heap.size ≤ w6.heap.size := Nat.le_trans Z5 hb.size
            clear hb
            by_cases hls : G1.length < H.length
            · have e3 := HHI2.out hls
              have E3 := Lib.hid e3
              clear e3
              go_wp2_with fail
              refine (put32_any gl _ (numB G3) _ O6.out.sl (by omega) (by omega) (by omega)).mono ?_
              rintro e w7 ⟨v7, rfl, hown, hb7⟩
              have OW := Lib.hid hown; have BB7 := Lib.hid hb7
              clear hown hb7
              go_wp2_with fail
              go_meet
              have hown := OW.out.mono Z6
              rw [Int.toNat_natCast, E3.out] at hown
              exact AllIn.mk' (n := ((4 : Nat) : Int)) HC.out hlb rfl (by rw [HGE.out]) (by rw [HGE.out]; exact R6.out.le BB7.out) hown (B6.out.trans (BB7.out.mono B6.out.size)) (Nat.le_trans Z6 BB7.out.size)
            · have e3 := HNOT2.out hls (by omega)
              subst e3
              go_wp2_with fail
              go_meet
              exact AllIn.mk' (n := ((4 : Nat) : Int)) HC.out hlb rfl (by rw [HGE.out, List.append_nil]) (by rw [HGE.out]; exact R6.out) O6.out B6.out Z6
          · have hlt1 := giveR_lt H R 8
            rw [show (256 : Nat) ^ 8 = 18446744073709551616 by decide] at hlt1
            have HU := Lib.hid (u64_any g _ H R w4 R4.out (by omega))
            have HG := Lib.hid (giveR_len H R ((8 : Nat) : Int))
            have HHI := Lib.hid (giveR_hi H R 8); have HNOT := Lib.hid (giveR_not H R 8)
            have hGl := (giveR_len H R ((8 : Nat) : Int)).1
            obtain ⟨G1, G2, G3, hG⟩ : ∃ G1 G2 G3, giveR H R ((8 : Nat) : Int) = (G1, G2, G3) := ⟨_, _, _, rfl⟩
            have HGE := Lib.hid hG
            rw [hG] at hlt1 hGl
            simp only at hlt1 hGl
            have HU2 := Lib.hid (hG ▸ HU.out); have HHI2 := Lib.hid (hG ▸ HHI.out); have HNOT2 := Lib.hid (hG ▸ HNOT.out)
            clear hG HU HHI HNOT HG k4
            go_wp2_with fail
            refine HU2.out.mono ?_
            rintro e w5 ⟨rfl, hr5, hgr⟩
            have hgk : ∀ k, some g = some k → W.heap.size ≤ k := fun k hk => by have := Option.some.inj hk; omega
            have B5 := B4.out.grown hgr B4.out.size hgk
            have R5 := Lib.hid hr5
            have hne5 : (Value.slice ag gl.length cg).ownBlock = none ∨ (Value.slice ag gl.length cg).ownBlock ≠ some g := .inr (fun e => by have := (O4.out.lt _ e).1; omega)
            have O5 := Lib.hid (O4.out.grown hgr hne5)
            have Z5 : w2.heap.size ≤ w5.heap.size := Nat.le_trans Z4 hgr.size
            have BB5 := Lib.hid B5
            clear hr5 hgr hgk B5 hne5 m1 m2 m3
            go_wp2_with fail
            refine (left_any g _ G1 G2 _ R5.out (by omega)).mono ?_
            rintro e w6 ⟨rfl, hb⟩
            have B6 := Lib.hid (BB5.out.trans (hb.mono BB5.out.size)); have R6 := Lib.hid (R5.out.le hb); have O6 := Lib.hid (O5.out.le hb)
            have Z6 : w2.heap.size ≤ w6.heap.size := Nat.le_trans Z5 hb.size
            clear hb
            by_cases hls : G1.length < H.length
            · have e3 := HHI2.out hls
              have E3 := Lib.hid e3
              clear e3
              go_wp2_with fail
              refine (put64_any gl _ (numB G3) _ O6.out.sl (by omega) (by omega) (by omega)).mono ?_
              rintro e w7 ⟨v7, rfl, hown, hb7⟩
              have OW := Lib.hid hown; have BB7 := Lib.hid hb7
              clear hown hb7
              go_wp2_with fail
              go_meet
              have hown := OW.out.mono Z6
              rw [Int.toNat_natCast, E3.out] at hown
              exact AllIn.mk' (n := ((8 : Nat) : Int)) HC.out hlb rfl (by rw [HGE.out]) (by rw [HGE.out]; exact R6.out.le BB7.out) hown (B6.out.trans (BB7.out.mono B6.out.size)) (Nat.le_trans Z6 BB7.out.size)
            · have e3 := HNOT2.out hls (by omega)
              subst e3
              go_wp2_with fail
              go_meet
              exact AllIn.mk' (n := ((8 : Nat) : Int)) HC.out hlb rfl (by rw [HGE.out, List.append_nil]) (by rw [HGE.out]; exact R6.out) O6.out B6.out Z6
        · have k0 : (kd == 0) = false := by simp only [beq_eq_false_iff_ne, ne_eq]; omega
          have k1 : (kd == 1) = false := by simp only [beq_eq_false_iff_ne, ne_eq]; omega
          have k2 : (kd == 2) = false := by simp only [beq_eq_false_iff_ne, ne_eq]; omega
          have k3 : (kd == 3) = false := by simp only [beq_eq_false_iff_ne, ne_eq]; omega
          clear k4
          go_wp2_with fail
          refine (raw_any g _ H R nn _ R4.out (by omega)).mono ?_
          rintro e w5 ⟨v5, A5, C5, rfl, hr5, hx5, hs5, hlt5, -, -, hgr⟩
          obtain ⟨a5, c5, hv, -⟩ := hs5.ex
          subst hv
          have hgk : ∀ k, some g = some k → W.heap.size ≤ k := fun k hk => by have := Option.some.inj hk; omega
          have B5 := Lib.hid (B4.out.grown hgr B4.out.size hgk)
          have R5 := Lib.hid hr5; have S5 := Lib.hid hs5
          have O5 := Lib.hid (O4.out.grown hgr (.inr (fun e => by have := (O4.out.lt _ e).1; omega)))
          have Z5 : w2.heap.size ≤ w5.heap.size := Nat.le_trans Z4 hgr.size
          have hG3 := (giveR_len H R nn).2
          have HGE := Lib.hid (rfl : giveR H R nn = giveR H R nn)
          clear hr5 hx5 hs5 hlt5 hgr hgk m1 m2 m3
          go_wp2_with (at_builtin; go_must (refine wpl_app eB O5.out S5.out rfl rfl Try.underlying22 rfl rfl (by simp [maxLen]; omega) (by simp [encB]; omega) Z5 ?_; intro v7 w7 hown hb7 hg7))
          go_meet
          exact AllIn.mk' (n := nn) HC.out hlb rfl rfl (R5.out.grown hg7 (fun k hk => by have := (O5.out.lt k hk).1; exact ⟨by omega, .inr this⟩)) hown (B5.out.trans (hb7.mono (by omega))) (Nat.le_trans Z5 hg7.size)
      case rest =>
        obtain ⟨H', R', gl', hH', hgl', hr', ho', hcat', hb', hsz', herr'⟩ := hcut
        obtain ⟨ag', cg', hv, -⟩ := ho'.sl.ex
        subst hv
        have R7 := Lib.hid hr'; have O7 := Lib.hid ho'; have C7 := Lib.hid hcat'; have B7 := Lib.hid hb'; have E7 := Lib.hid herr'
        clear hr' ho' hcat' hb' herr' m1 m2 m3
        go_wp2_with fail
        refine (clone_any gl' _ _ O7.out.sl (by omega)).mono ?_
        rintro e w8 ⟨v8, rfl, ho, hb⟩
        have O8 := Lib.hid ho; have B8 := Lib.hid hb
        clear ho hb
        go_wp2_with fail
        refine (rest_any g _ H' R' _ (R7.out.le B8.out) (by omega)).mono ?_
        rintro e w9 ⟨v9, rfl, ho, hb⟩
        have O9 := Lib.hid ho; have B9 := Lib.hid (bt B8.out hb); have Q9 := Lib.hid (O8.out.le hb)
        clear ho hb
        go_wp2_with (at_builtin; go_must (refine wpl_app eB Q9.out O9.out.sl rfl rfl Try.underlying22 rfl rfl (by simp [maxLen]; omega) (by simp [encB]; omega) B9.out.size ?_; intro v10 w10 hown hb10 hg10))
        rw [C7.out] at hown
        have O10 := Lib.hid hown; have B10 := Lib.hid (B9.out.trans hb10)
        clear hown hb10 hg10
        have W10 := Lib.hid (B7.out.trans (B10.out.mono B7.out.size))
        refine (bequal_any b b _ _ _ O10.out.sl (HB.out.le W10.out)).mono ?_
        rintro e w11 ⟨he, rfl⟩
        obtain rfl := ret_true he rfl
        clear he
        go_wp2_with fail
        refine (err_any g _ H' R' _ (R7.out.le B10.out)).mono ?_
        rintro e w11 ⟨rfl, rfl⟩
        by_cases hR0 : R' = 0
        · have t1 : (R' != 0) = false := by simp [hR0]
          have T1 := Lib.hid hR0
          clear hR0
          go_wp2_with fail
          go_roundw
          case rel =>
            exact ⟨k + 1, hlt, by go_num, 0, _, _, gl', hH', hgl', R7.out.le B10.out, O7.out.le B10.out, C7.out, W10.out, Nat.le_trans hsz' B10.out.size, fun h => absurd T1.out h⟩
          case measure => simp [intOf]; omega
        · have t1 : (R' != 0) = true := by simp [hR0]
          have e1 := E7.out hR0
          have t2 : ((H'.length : Int) != (H.length : Int)) = false := by simp [e1]
          have T1 := Lib.hid e1
          clear hR0 e1
          go_wp2_with fail
          refine (left_any g _ H' R' _ (R7.out.le B10.out) (by omega)).mono ?_
          rintro e w12 ⟨rfl, hb⟩
          have B12 := Lib.hid (bt B10.out hb)
          clear hb
          go_wp2_with fail
          go_roundw
          case rel =>
            exact ⟨k + 1, hlt, by go_num, H.length, _, _, gl', hH', hgl', R7.out.le B12.out, O7.out.le B12.out, C7.out, B7.out.trans (B12.out.mono B7.out.size), Nat.le_trans hsz' B12.out.size, fun h => T1.out⟩
          case measure => simp [intOf]; omega
    · clear HLC
      go_wp2_with fail
      go_ret
      exact ⟨rfl, HBw.out⟩

set_option maxHeartbeats 1000000 in
set_option maxRecDepth 100000 in
theorem all_walk (W : World) (b : List UInt8) (vb : Value) (hB : Sl EB W vb b) (l : List WantD) (vl : Value) (hL : Sl encW W vl l) (hok : ∀ x ∈ l, x.ok) :
    Calls Try.prog 8 #[vb, vl] W fun e w' => e = .returned (.bool true) ∧ Below W.heap.size W w' := by
  by_cases hlb : b.length ≤ 2000
  · by_cases hll : l.length ≤ 150
    · exact all_main b l vb vl W hB hL hok hlb hll
    · obtain ⟨aa, ca, hv, -⟩ := hB.ex
      subst hv
      obtain ⟨ab, cb, hv, -⟩ := hL.ex
      subst hv
      clear hB hL hok
      go_enter Try.func8, Try.ntmps8
      go_wp2_with fail
      refine (wakes_any _).mono ?_
      rintro e w1 ⟨rfl, hb⟩
      have B1 := Lib.hid hb; clear hb
      go_wp2_with fail
      go_ret
      exact ⟨rfl, B1.out⟩
  · obtain ⟨aa, ca, hv, -⟩ := hB.ex
    subst hv
    obtain ⟨ab, cb, hv, -⟩ := hL.ex
    subst hv
    clear hB hL hok
    go_enter Try.func8, Try.ntmps8
    go_wp2_with fail
    refine (wakes_any _).mono ?_
    rintro e w1 ⟨rfl, hb⟩
    have B1 := Lib.hid hb; clear hb
    go_wp2_with fail
    go_ret
    exact ⟨rfl, B1.out⟩
end Go.Proofs.Ytclhhnmafmicpaa
