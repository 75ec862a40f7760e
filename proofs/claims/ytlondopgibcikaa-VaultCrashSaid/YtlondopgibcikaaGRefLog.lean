/- The document's sector of a log. Layer 6's acts: how they lie in memory; long, sector. Assets: the document's log; lent bytes; what an act of layer 6 makes of a device. -/
import Derived.Test.YtlondopgibcikaaRows
import Derived.Test.YtlondopgibcikaaGBase
import Derived.Test.YtlondopgibcikaaGCrc
import Derived.Test.YtlondopgibcikaaGDevice
import Derived.Test.YtlondopgibcikaaGRefDev
import Derived.Test.YtlondopgibcikaaGLogA
import Derived.Test.YtlondopgibcikaaGLogC
import Derived.WalkKit
import Derived.WalkSpells
import Derived.WalkLawsBesides
import Derived.Deep.RegionHeld3
import Derived.Deep.QuietTactic
import Derived.BigQuiet
namespace Go.Proofs.Ytlondopgibcikaa
open Go.RowKit Ent

theorem Blk.setN {w : World} {g : Nat} {T : TypeId} {l : List UInt8} (h : Blk w g T (bv l)) (i : Nat) {z : Int} {q : Nat} (hz : z = ((UInt8.ofNat q).toNat : Int)) : Blk (w.setCell ⟨g, i, none⟩ (.int .u8 z)) g T (bv (l.set i (UInt8.ofNat q))) := by
  rw [hz]; exact h.setB i _
def byteAt (n k : Nat) : UInt8 := UInt8.ofNat (n / 2 ^ (24 - 8 * k))
def secB1 (g i : Nat) : Nat → List UInt8
  | 0 => zr 64
  | k + 1 => ((secB1 g i k).set (4 + k) (byteAt g k)).set (8 + k) (byteAt i k)
theorem secB1_len (g i : Nat) : ∀ k, (secB1 g i k).length = 64
  | 0 => rfl
  | k + 1 => by rw [secB1, List.length_set, List.length_set, secB1_len g i k]
theorem secB1_all (g i : Nat) : secB1 g i 4 = mk2 g i := by
  simp [secB1, byteAt, mk2, zr, be4, List.replicate]
def secB3 (s : Nat) (l : List UInt8) : Nat → List UInt8
  | 0 => l
  | k + 1 => (secB3 s l k).set k (byteAt s k)
theorem secB3_len (s : Nat) (l : List UInt8) : ∀ k, (secB3 s l k).length = l.length
  | 0 => rfl
  | k + 1 => by rw [secB3, List.length_set, secB3_len s l k]
theorem secB3_all (s : Nat) (l : List UInt8) : secB3 s (zr 4 ++ l) 4 = be4 s ++ l := by
  simp [secB3, byteAt, zr, be4, List.replicate]
theorem putAt_step {l p : List UInt8} {i j : Nat} {x : UInt8} (hx : p[j]? = some x) (hl : i + j < l.length) : (putAt l i (p.take j)).set (i + j) x = putAt l i (p.take (j + 1)) := by
  have hj := (List.getElem?_eq_some_iff.1 hx).1
  have h1 : (p.take j).length = j := by simp; omega
  have h2 : (p.take (j + 1)).length = j + 1 := by simp; omega
  have h3 : (l.take i ++ p.take j).length = i + j := by simp; omega
  unfold putAt
  rw [h1, h2, List.drop_eq_getElem_cons hl, List.set_append_right _ _ (by rw [h3]; exact Nat.le_refl _), h3, Nat.sub_self, List.set_cons_zero, List.take_add_one, hx]
  simp [Nat.add_assoc]
theorem putAt_full (l p : List UInt8) (i : Nat) : putAt l i (p.take p.length) = putAt l i p := by rw [List.take_length]
theorem bz0 (n : Nat) (h : n < 4294967296) : (n : Int) / 16777216 = ((UInt8.ofNat (n / 2 ^ (24 - 8 * 0))).toNat : Int) := by
  have q : ((UInt8.ofNat (n / 16777216)).toNat : Int) = ((n / 16777216 % 256 : Nat) : Int) := by simp
  show _ = ((UInt8.ofNat (n / 16777216)).toNat : Int)
  rw [q]; omega
theorem bz1 (n : Nat) : (n : Int) / 65536 % 256 = ((UInt8.ofNat (n / 2 ^ (24 - 8 * 1))).toNat : Int) := by
  have q : ((UInt8.ofNat (n / 65536)).toNat : Int) = ((n / 65536 % 256 : Nat) : Int) := by simp
  show _ = ((UInt8.ofNat (n / 65536)).toNat : Int)
  rw [q]; omega
theorem bz2 (n : Nat) : (n : Int) / 256 % 256 = ((UInt8.ofNat (n / 2 ^ (24 - 8 * 2))).toNat : Int) := by
  have q : ((UInt8.ofNat (n / 256)).toNat : Int) = ((n / 256 % 256 : Nat) : Int) := by simp
  show _ = ((UInt8.ofNat (n / 256)).toNat : Int)
  rw [q]; omega
theorem bz3 (n : Nat) : (n : Int) % 256 = ((UInt8.ofNat (n / 2 ^ (24 - 8 * 3))).toNat : Int) := by
  have q : ((UInt8.ofNat (n / 1)).toNat : Int) = ((n / 1 % 256 : Nat) : Int) := by simp
  show _ = ((UInt8.ofNat (n / 1)).toNat : Int)
  rw [q]; omega
set_option maxRecDepth 100000 in
set_option maxHeartbeats 2000000 in
theorem rsector_any (gen index kind : Nat) (ao : Option Addr) (n c : Nat) (part : List UInt8) (hn : n = part.length) (h49 : n ≤ 49) (hg : gen < 2147483648) (hi : index < 2147483648) (hk : kind ≤ 255) (w : World) (hp : SB w ao c part) :
    Calls Try.prog 150 #[.int .i64 gen, .int .i64 index, .int .i64 kind, .slice ao n c] w fun e w' => ∃ g, e = .returned (.slice (some ⟨g, 0, none⟩) 64 64) ∧ Blk w' g 5 (bv (logSec gen index kind part)) ∧ w.heap.size ≤ g ∧ Below w.heap.size w w' := by
  have HN := hid hn; have HP := hid hp
  have HKI := hid (byte_small kind hk)
  have HNI := hid (byte_small n (by omega))
  obtain ⟨g, hgg⟩ : ∃ g, g = w.heap.size := ⟨_, rfl⟩
  have HG := hid hgg
  clear hn hp hgg
  go_enter Try.func150, Try.ntmps150
  go_wp2_with (refine wpl_makeZ rfl _ _ rfl 64 rfl rfl (by omega) ?_; intro w1 hb1 hm1; rw [← HG.out]; rw [← HG.out] at hm1; have H1 := hid hm1; have HB1 := hid hb1; clear hb1 hm1)
  go_loopw [10] (fun i wr => ∃ k : Nat, k ≤ 4 ∧ i = .int .i64 k ∧ Blk wr g 5 (bv (secB1 gen index k)) ∧ Below w.heap.size w wr) (fun i _ => 4 - (intOf i).toNat)
  case atStart => exact ⟨0, by omega, rfl, H1.out, HB1.out⟩
  case round =>
    obtain ⟨k, hk4, rfl, hm, hb⟩ := hrel
    have HM := hid hm; have HB := hid hb
    clear hm hb
    by_cases hlt : k < 4
    · rcases (by omega : k = 0 ∨ k = 1 ∨ k = 2 ∨ k = 3) with rfl | rfl | rfl | rfl
      · obtain ⟨v0, c0⟩ := blk_some HM.out (j := 4) (by rw [bv_length, secB1_len]; omega)
        have f0 := HM.out.free 4
        have HM1 := hid (HM.out.setN 4 (bz0 gen (by omega)))
        obtain ⟨v1, c1⟩ := blk_some HM1.out (j := 8) (by rw [bv_length, List.length_set, secB1_len]; omega)
        have f1 := HM1.out.free 8
        have HM2 := hid (HM1.out.setN 8 (bz0 index (by omega)))
        have HB2 := hid ((HB.out.setCell (p := ⟨g, 4, none⟩) (by rw [HG.out]; exact Nat.le_refl _) (.int .u8 ((gen : Int) / 16777216))).setCell (p := ⟨g, 8, none⟩) (by rw [HG.out]; exact Nat.le_refl _) (.int .u8 ((index : Int) / 16777216)))
        go_wp2
        go_roundw
        case rel => exact ⟨1, by omega, by go_num, HM2.out, HB2.out⟩
        case measure => simp [intOf]
      · obtain ⟨v0, c0⟩ := blk_some HM.out (j := 5) (by rw [bv_length, secB1_len]; omega)
        have f0 := HM.out.free 5
        have HM1 := hid (HM.out.setN 5 (bz1 gen))
        obtain ⟨v1, c1⟩ := blk_some HM1.out (j := 9) (by rw [bv_length, List.length_set, secB1_len]; omega)
        have f1 := HM1.out.free 9
        have HM2 := hid (HM1.out.setN 9 (bz1 index))
        have HB2 := hid ((HB.out.setCell (p := ⟨g, 5, none⟩) (by rw [HG.out]; exact Nat.le_refl _) (.int .u8 ((gen : Int) / 65536 % 256))).setCell (p := ⟨g, 9, none⟩) (by rw [HG.out]; exact Nat.le_refl _) (.int .u8 ((index : Int) / 65536 % 256)))
        go_wp2
        go_roundw
        case rel => exact ⟨2, by omega, by go_num, HM2.out, HB2.out⟩
        case measure => simp [intOf]
      · obtain ⟨v0, c0⟩ := blk_some HM.out (j := 6) (by rw [bv_length, secB1_len]; omega)
        have f0 := HM.out.free 6
        have HM1 := hid (HM.out.setN 6 (bz2 gen))
        obtain ⟨v1, c1⟩ := blk_some HM1.out (j := 10) (by rw [bv_length, List.length_set, secB1_len]; omega)
        have f1 := HM1.out.free 10
        have HM2 := hid (HM1.out.setN 10 (bz2 index))
        have HB2 := hid ((HB.out.setCell (p := ⟨g, 6, none⟩) (by rw [HG.out]; exact Nat.le_refl _) (.int .u8 ((gen : Int) / 256 % 256))).setCell (p := ⟨g, 10, none⟩) (by rw [HG.out]; exact Nat.le_refl _) (.int .u8 ((index : Int) / 256 % 256)))
        go_wp2
        go_roundw
        case rel => exact ⟨3, by omega, by go_num, HM2.out, HB2.out⟩
        case measure => simp [intOf]
      · obtain ⟨v0, c0⟩ := blk_some HM.out (j := 7) (by rw [bv_length, secB1_len]; omega)
        have f0 := HM.out.free 7
        have HM1 := hid (HM.out.setN 7 (bz3 gen))
        obtain ⟨v1, c1⟩ := blk_some HM1.out (j := 11) (by rw [bv_length, List.length_set, secB1_len]; omega)
        have f1 := HM1.out.free 11
        have HM2 := hid (HM1.out.setN 11 (bz3 index))
        have HB2 := hid ((HB.out.setCell (p := ⟨g, 7, none⟩) (by rw [HG.out]; exact Nat.le_refl _) (.int .u8 ((gen : Int) % 256))).setCell (p := ⟨g, 11, none⟩) (by rw [HG.out]; exact Nat.le_refl _) (.int .u8 ((index : Int) % 256)))
        go_wp2
        go_roundw
        case rel => exact ⟨4, by omega, by go_num, HM2.out, HB2.out⟩
        case measure => simp [intOf]
    · obtain rfl : k = 4 := by omega
      have HM2 : Hid (Blk wr g 5 (bv (mk2 gen index))) := hid (by rw [← secB1_all]; exact HM.out)
      have c12 : wr.cell? ⟨g, 12, none⟩ = some (.int .u8 0) := HM2.out.cell (j := 12) rfl
      have f12 := HM2.out.free 12
      have h4 := HM2.out.setB 12 (UInt8.ofNat kind)
      rw [← HKI.out] at h4
      have c13 : (wr.setCell ⟨g, 12, none⟩ (.int .u8 (kind : Int))).cell? ⟨g, 13, none⟩ = some (.int .u8 0) := h4.cell (j := 13) rfl
      have f13 := h4.free 13
      have h5 := h4.setB 13 (UInt8.ofNat n)
      rw [← HNI.out] at h5
      have H5 : Hid (Blk ((wr.setCell ⟨g, 12, none⟩ (.int .u8 (kind : Int))).setCell ⟨g, 13, none⟩ (.int .u8 (n : Int))) g 5 (bv (mk3 gen index kind part))) := hid (by rw [HN.out, mk3_of] at h5; rw [← HN.out] at h5; exact h5)
      have HB5 : Hid (Below w.heap.size w ((wr.setCell ⟨g, 12, none⟩ (.int .u8 (kind : Int))).setCell ⟨g, 13, none⟩ (.int .u8 (n : Int)))) := hid ((HB.out.setCell (p := ⟨g, 12, none⟩) (by rw [HG.out]; exact Nat.le_refl _) _).setCell (p := ⟨g, 13, none⟩) (by rw [HG.out]; exact Nat.le_refl _) _)
      have HL3 : Hid ((mk3 gen index kind part).length = 64) := hid rfl
      clear h4 h5
      go_wp2_with fail
      generalize (wr.setCell ⟨g, 12, none⟩ (.int .u8 (kind : Int))).setCell ⟨g, 13, none⟩ (.int .u8 (n : Int)) = w5 at *
      clear c12 f12 c13 f13
      go_loopw [11] (fun i wr => ∃ k : Nat, k ≤ n ∧ i = .int .i64 k ∧ Blk wr g 5 (bv (putAt (mk3 gen index kind part) 14 (part.take k))) ∧ Below w.heap.size w wr) (fun i _ => n - (intOf i).toNat)
      case atStart => exact ⟨0, Nat.zero_le _, rfl, by simpa [putAt] using H5.out, HB5.out⟩
      case round =>
        obtain ⟨k, hkn, rfl, hm, hb⟩ := hrel
        have HM := hid hm; have HB := hid hb
        clear hm hb
        by_cases hlt : k < n
        · obtain ⟨x, hx⟩ : ∃ x, part[k]? = some x := ⟨_, List.getElem?_eq_getElem (by rw [← HN.out]; exact hlt)⟩
          have hpl : putAt (mk3 gen index kind part) 14 (part.take k) = putAt (mk3 gen index kind part) 14 (part.take k) := rfl
          obtain ⟨b1, o1, rfl, cx⟩ := sb_at (HP.out.below HB.out) hx
          have hlen : (putAt (mk3 gen index kind part) 14 (part.take k)).length = 64 := by rw [putAt_len _ _ _ (by rw [HL3.out]; simp; omega), HL3.out]
          obtain ⟨v0, c0⟩ := blk_some HM.out (j := 14 + k) (by rw [bv_length, hlen]; omega)
          have f0 := HM.out.free (14 + k)
          have HS := hid (HM.out.setB (14 + k) x)
          have HS2 : Hid (Blk (wr.setCell ⟨g, 14 + k, none⟩ (.int .u8 (x.toNat : Int))) g 5 (bv (putAt (mk3 gen index kind part) 14 (part.take (k + 1))))) := hid (by
            have := HS.out
            rw [putAt_step hx (by rw [HL3.out]; omega)] at this
            exact this)
          have HB2 : Hid (Below w.heap.size w (wr.setCell ⟨g, 14 + k, none⟩ (.int .u8 (x.toNat : Int)))) := hid (HB.out.setCell (p := ⟨g, 14 + k, none⟩) (by rw [HG.out]; exact Nat.le_refl _) _)
          clear hpl hlen hx HS
          go_wp2
          go_roundw
          case rel => exact ⟨k + 1, by omega, by go_num, HS2.out, HB2.out⟩
          case measure => simp [intOf]; omega
        · obtain rfl : k = n := by omega
          have HM4 : Hid (Blk wr g 5 (bv (mk4 gen index kind part))) := hid (by
            have := HM.out
            rw [HN.out, putAt_full, mk4_of _ _ _ _ (by rw [← HN.out]; exact h49)] at this
            exact this)
          obtain ⟨v63, c63⟩ := blk_some HM4.out (j := 63) (by rw [bv_length]; simp [mk4]; omega)
          have f63 := HM4.out.free 63
          have H7 : Hid (Blk (wr.setCell ⟨g, 63, none⟩ (.int .u8 165)) g 5 (bv (mk5 gen index kind part))) := hid (by
            have := HM4.out.setB 63 165
            rw [mk5_of _ _ _ _ (by rw [← HN.out]; exact h49)] at this
            exact this)
          have HB7 : Hid (Below w.heap.size w (wr.setCell ⟨g, 63, none⟩ (.int .u8 165))) := hid (HB.out.setCell (p := ⟨g, 63, none⟩) (by rw [HG.out]; exact Nat.le_refl _) _)
          go_wp2_with fail
          generalize hw7 : wr.setCell ⟨g, 63, none⟩ (.int .u8 165) = w7 at *
          clear hw7 c63 f63
          refine (rsum_any (some ⟨g, 4, none⟩) 60 60 (secBody gen index kind part) (secBody_len (by rw [← HN.out]; exact h49)).symm (by omega) w7 (.inr (.inr ⟨g, 4, rfl, H7.out.range fun j v hv => by
            rw [bv_get, show (mk5 gen index kind part)[4 + j]? = (secBody gen index kind part)[j]? by rw [← mk5_drop, List.getElem?_drop], ← bv_get]; exact hv⟩))).mono ?_
          rintro e w' ⟨rfl, hw'⟩
          subst w'
          obtain ⟨s, hs⟩ : ∃ s, (csum (secBody gen index kind part)).toNat = s := ⟨_, rfl⟩
          have hsb : s < 4294967296 := by rw [← hs]; exact (csum (secBody gen index kind part)).isLt
          have HS := hid hs
          rw [hs]
          clear hs
          go_wp2_with fail
          have HL5 := hid (show (mk5 gen index kind part).length = 64 by rw [mk5, List.length_append, secBody_len (by rw [← HN.out]; exact h49)]; rfl)
          go_loopw [13] (fun i wr => ∃ k : Nat, k ≤ 4 ∧ i = .int .i64 k ∧ Blk wr g 5 (bv (secB3 s (mk5 gen index kind part) k)) ∧ Below w.heap.size w wr) (fun i _ => 4 - (intOf i).toNat)
          case atStart => exact ⟨0, by omega, rfl, H7.out, HB7.out⟩
          case round =>
            obtain ⟨k, hk4, rfl, hm, hb⟩ := hrel
            have HM := hid hm; have HB := hid hb
            clear hm hb
            by_cases hlt : k < 4
            · rcases (by omega : k = 0 ∨ k = 1 ∨ k = 2 ∨ k = 3) with rfl | rfl | rfl | rfl
              · obtain ⟨v0, c0⟩ := blk_some HM.out (j := 0) (by rw [bv_length, secB3_len, HL5.out]; omega)
                have f0 := HM.out.free 0
                have HM1 := hid (HM.out.setN 0 (bz0 s (by omega)))
                have HB2 := hid (HB.out.setCell (p := ⟨g, 0, none⟩) (by rw [HG.out]; exact Nat.le_refl _) (.int .u8 ((s : Int) / 16777216)))
                go_wp2
                go_roundw
                case rel => exact ⟨1, by omega, by go_num, HM1.out, HB2.out⟩
                case measure => simp [intOf]
              · obtain ⟨v0, c0⟩ := blk_some HM.out (j := 1) (by rw [bv_length, secB3_len, HL5.out]; omega)
                have f0 := HM.out.free 1
                have HM1 := hid (HM.out.setN 1 (bz1 s))
                have HB2 := hid (HB.out.setCell (p := ⟨g, 1, none⟩) (by rw [HG.out]; exact Nat.le_refl _) (.int .u8 ((s : Int) / 65536 % 256)))
                go_wp2
                go_roundw
                case rel => exact ⟨2, by omega, by go_num, HM1.out, HB2.out⟩
                case measure => simp [intOf]
              · obtain ⟨v0, c0⟩ := blk_some HM.out (j := 2) (by rw [bv_length, secB3_len, HL5.out]; omega)
                have f0 := HM.out.free 2
                have HM1 := hid (HM.out.setN 2 (bz2 s))
                have HB2 := hid (HB.out.setCell (p := ⟨g, 2, none⟩) (by rw [HG.out]; exact Nat.le_refl _) (.int .u8 ((s : Int) / 256 % 256)))
                go_wp2
                go_roundw
                case rel => exact ⟨3, by omega, by go_num, HM1.out, HB2.out⟩
                case measure => simp [intOf]
              · obtain ⟨v0, c0⟩ := blk_some HM.out (j := 3) (by rw [bv_length, secB3_len, HL5.out]; omega)
                have f0 := HM.out.free 3
                have HM1 := hid (HM.out.setN 3 (bz3 s))
                have HB2 := hid (HB.out.setCell (p := ⟨g, 3, none⟩) (by rw [HG.out]; exact Nat.le_refl _) (.int .u8 ((s : Int) % 256)))
                go_wp2
                go_roundw
                case rel => exact ⟨4, by omega, by go_num, HM1.out, HB2.out⟩
                case measure => simp [intOf]
            · obtain rfl : k = 4 := by omega
              have HF : Hid (Blk wr g 5 (bv (logSec gen index kind part))) := hid (by
                have := HM.out
                rw [show mk5 gen index kind part = zr 4 ++ secBody gen index kind part from rfl, secB3_all, ← HS.out] at this
                exact this)
              go_wp2
              go_ret
              exact ⟨g, rfl, HF.out, by rw [HG.out]; exact Nat.le_refl _, HB.out⟩
end Go.Proofs.Ytlondopgibcikaa
namespace Go.Proofs.Ytlondopgibcikaa
open Go.RowKit Ent

structure Act6 where
  kind : Int
  f : Int
  t : Int
  g : Int
  n : Int
  bo : Option Addr
  bc : Nat
  b : List UInt8
  ko : Option Addr
  kc : Nat
  keep : List Bool
def Act6.cells (a : Act6) : List Value := [.int .i64 a.kind, .int .i64 a.f, .int .i64 a.t, .int .i64 a.g, .int .i64 a.n, .slice a.bo a.b.length a.bc, .slice a.ko a.keep.length a.kc]
structure Act6.fits (w : World) (a : Act6) : Prop where
  k1 : -9223372036854775808 ≤ a.kind ∧ a.kind ≤ 9223372036854775807
  n1 : -9223372036854775808 ≤ a.n ∧ a.n ≤ 9223372036854775807
  sb : SB w a.bo a.bc a.b
  sc : a.b.length ≤ a.bc
  bl : BL w a.ko a.keep
theorem Act6.fits.below {w w' : World} {a : Act6} (h : a.fits w) (hb : Below w.heap.size w w') : a.fits w' := ⟨h.k1, h.n1, h.sb.below hb, h.sc, h.bl.below hb⟩
/-- acts that may be read -/
def AL6 (w : World) (ao : Option Addr) (l : List Act6) : Prop := l = [] ∨ ∃ b o, ao = some ⟨b, o, none⟩ ∧ ∀ i a, l[i]? = some a → a.fits w ∧ (a.b.length ≤ 9223372036854775807 ∧ a.keep.length ≤ 9223372036854775807) ∧ ∀ j v, a.cells[j]? = some v → w.cell? ⟨b, o + i * 7 + j, none⟩ = some v
theorem AL6.below {w w' : World} {ao : Option Addr} {l : List Act6} (h : AL6 w ao l) (hb : Below w.heap.size w w') : AL6 w' ao l := by
  rcases h with h | ⟨b, o, rfl, h⟩
  · exact .inl h
  · refine .inr ⟨b, o, rfl, fun i a ha => ⟨(h i a ha).1.below hb, (h i a ha).2.1, fun j v hv => ?_⟩⟩
    have hc := (h i a ha).2.2 j v hv
    rw [hb.cell (World.block_lt_of_cell? w _ hc)]; exact hc
theorem AL6.at {w : World} {ao : Option Addr} {l : List Act6} (h : AL6 w ao l) {i : Nat} {a : Act6} (ha : l[i]? = some a) : ∃ b o, ao = some ⟨b, o, none⟩ ∧ a.fits w ∧ (a.b.length ≤ 9223372036854775807 ∧ a.keep.length ≤ 9223372036854775807) ∧ ∀ j v, a.cells[j]? = some v → w.cell? ⟨b, o + i * 7 + j, none⟩ = some v := by
  rcases h with rfl | ⟨b, o, rfl, h⟩
  · simp at ha
  · exact ⟨b, o, rfl, h i a ha⟩
def bad6 (a : Act6) : Bool := decide (400 < a.b.length) || decide (40 < a.keep.length)
def long6 (l : List Act6) : Bool := (l.take 26).any bad6 || decide (25 < l.length)
theorem long6_no {l : List Act6} (h : long6 l = false) : l.length ≤ 25 ∧ ∀ a ∈ l, a.b.length ≤ 400 ∧ a.keep.length ≤ 40 := by
  unfold long6 at h
  rw [Bool.or_eq_false_iff, decide_eq_false_iff_not, List.any_eq_false] at h
  obtain ⟨h1, h2⟩ := h
  refine ⟨by omega, fun a ha => ?_⟩
  have := h1 a (by rw [List.take_of_length_le (by omega)]; exact ha)
  simp [bad6] at this
  exact this
set_option maxRecDepth 100000 in
set_option maxHeartbeats 400000 in
theorem long6_any (ao : Option Addr) (n c : Nat) (l : List Act6) (hn : n = l.length) (hb : n ≤ 9223372036854775807) (w : World) (hl : AL6 w ao l) :
    Calls Try.prog 74 #[.slice ao n c] w fun e w' => e = .returned (.bool (long6 l)) ∧ w' = w := by
  subst hn
  go_enter Try.func74, Try.ntmps74
  go_wp2_with fail
  go_loop [3] (fun i => ∃ k : Nat, k ≤ l.length ∧ k ≤ 26 ∧ i = .int .i64 k ∧ (l.take k).any bad6 = false) (fun i => 26 - (intOf i).toNat)
  case atStart => exact ⟨0, Nat.zero_le _, by omega, rfl, by simp⟩
  case round =>
    obtain ⟨k, hk, hk61, rfl, hany⟩ := hrel
    have HA := hid hany
    clear hany
    by_cases hlt : k < l.length ∧ k < 26
    · obtain ⟨hl1, hl2⟩ := hlt
      obtain ⟨x, hx⟩ : ∃ x, l[k]? = some x := ⟨_, List.getElem?_eq_getElem hl1⟩
      obtain ⟨b, o, rfl, hf, hkl, hc⟩ := hl.at hx
      have c5 := hc 5 _ rfl
      have c6 := hc 6 _ rfl
      have hkl1 := hkl.1
      have hkl2 := hkl.2
      have HT := hid (any_take_succ bad6 l k hx)
      have HBAD : Hid (bad6 x = true → long6 l = true) := hid (fun h => by
        unfold long6
        have h1 : (l.take 26).any bad6 = true := by
          rw [List.any_eq_true]
          have h2 := HT.out
          rw [HA.out, Bool.false_or, h, List.any_eq_true] at h2
          obtain ⟨y, hy, hp⟩ := h2
          exact ⟨y, (List.take_subset_take_left l (by omega)) hy, hp⟩
        rw [h1]; rfl)
      clear hc hx hf hkl
      by_cases h400 : 400 < x.b.length
      · have HR : Hid (long6 l = true) := hid (HBAD.out (by simp [bad6, h400]))
        go_wp2
        go_ret
        exact ⟨by rw [HR.out]; rfl, rfl⟩
      · by_cases h40 : 40 < x.keep.length
        · have HR : Hid (long6 l = true) := hid (HBAD.out (by simp [bad6, h40]))
          go_wp2
          go_ret
          exact ⟨by rw [HR.out]; rfl, rfl⟩
        · have HNB : Hid (bad6 x = false) := hid (by simp [bad6]; omega)
          go_wp2
          go_round
          case rel => exact ⟨k + 1, by omega, by omega, by go_num, by rw [HT.out, HA.out, HNB.out]; rfl⟩
          case measure => simp [intOf]; omega
    · have HR : Hid (long6 l = decide (25 < l.length)) := hid (by
        unfold long6
        have : l.take 26 = l.take k := by
          by_cases h1 : k < 26
          · rw [List.take_of_length_le (by omega), List.take_of_length_le (by omega)]
          · rw [show k = 26 by omega]
        rw [this, HA.out, Bool.false_or])
      by_cases h1 : k < l.length
      · have h2 : ¬ k < 26 := fun h => hlt ⟨h1, h⟩
        clear hlt
        go_wp2
        go_ret
        exact ⟨by rw [HR.out]; congr 1; simp; omega, rfl⟩
      · clear hlt
        go_wp2
        go_ret
        exact ⟨by rw [HR.out]; congr 1; simp; omega, rfl⟩
/-- bytes as a sector -/
def secB (b : List UInt8) : List UInt8 := putAt (zr 64) 0 (b.take 64)
theorem secB_len (b : List UInt8) : (secB b).length = 64 := by rw [secB, putAt_len _ _ _ (by simp; omega), zr_len]
theorem wpl_copyL {ops : Array Oper} {rest : List Oper} {o : Oper} {a : Act} {w : World} {Q : Exit → Act → World → Prop} (hgd : o.guard = none) (s x : Operand)
    (ho : o.op = .call { callee := .builtin .copy, args := #[s, x], argTypes := #[22, 22] })
    (gi dl dc : Nat) (T : TypeId) (cur : List UInt8) (ao : Option Addr) (sl sc : Nat) (l : List UInt8) (hs : a.eval s = .slice (some ⟨gi, 0, none⟩) dl dc) (hx : a.eval x = .slice ao sl sc) (hl : l.length = sl) (hsb : SB w ao sc l) (hb : Blk w gi T (bv cur)) (hc : dl ≤ cur.length) (hne : l ≠ [])
    (h : ∀ w', Blk w' gi T (bv (putAt cur 0 (l.take dl))) → Keep (fun k => k = gi) w w' → wpList Try.prog ops Q rest (a.put o.dst (goInt (min dl sl : Nat))) w') : wpList Try.prog ops Q (o :: rest) a w := by
  obtain ⟨i, hi, _, hz, _⟩ := info_u8
  have hin : (Try.prog.info? 5).map (·.size) = some 1 := by rw [hi]; simp [hz]
  refine wpList_plain hgd fun _ hK => ?_
  unfold Oper.wp execOp
  subst hl
  have hlen : (l.take dl).length = min dl l.length := by simp
  have hth := hb.there (o := 0) (n := min dl l.length) (by rw [bv_length]; omega)
  have key : (Builtin.copy_ #[22, 22] o.type #[.slice (some ⟨gi, 0, none⟩) dl dc, .slice ao l.length sc]).run Try.prog w = .ok (goInt (min dl l.length : Nat)) (w.setCells gi 0 (bv (l.take dl))) := by
    rcases hsb with ⟨_, _, h1⟩ | ⟨_, _, h1⟩ | ⟨b, o', rfl, hr⟩
    · exact absurd h1 hne
    · exact absurd h1 hne
    · have := run_copy_cells (P := Try.prog) w 22 22 o.type 5 gi 0 dl dc ⟨b, o', none⟩ l.length sc (bv (l.take dl)) Try.underlying22 hin (by rw [bv_length, hlen, Nat.min_comm]) (fun j v hv => by
          rw [Addr.add_mid]
          refine hr j v ?_
          rw [bv_get] at hv ⊢
          rw [List.getElem?_take] at hv
          split at hv
          · exact hv
          · cases hv) (fun j hj => (hth j (by rw [bv_length, hlen] at hj; exact hj)).1) (fun j hj => (hth j (by rw [bv_length, hlen] at hj; exact hj)).2) (bv_one _)
      rwa [bv_length, hlen] at this
  simp only [ho, resolve, invoke, builtin, Sem.run_bind, Sem.run_pure, Result.andThen_ok, List.map_toArray, List.map_cons, List.map_nil, hs, hx, key]
  exact hK _ _ (h _ (hb.putB 0 _ (by rw [hlen]; omega)) (Keep.setCells (F := fun k => k = gi) rfl _ _ (Keep.refl _ w)))
set_option maxRecDepth 100000 in
set_option maxHeartbeats 400000 in
theorem sector6_any (ao : Option Addr) (n c : Nat) (b : List UInt8) (hn : n = b.length) (w : World) (hs : SB w ao c b) :
    Calls Try.prog 80 #[.slice ao n c] w fun e w' => ∃ g, e = .returned (.slice (some ⟨g, 0, none⟩) 64 64) ∧ Blk w' g 5 (bv (secB b)) ∧ w.heap.size ≤ g ∧ Below w.heap.size w w' := by
  have HN := hid hn; have HS := hid hs
  clear hn hs
  by_cases h0 : n ≤ 64
  · have HE : Hid (b.take 64 = b) := hid (List.take_of_length_le (by rw [← HN.out]; exact h0))
    go_enter Try.func80, Try.ntmps80
    go_wp2_with (first
      | (refine wpl_makeZ rfl _ _ rfl 64 rfl rfl (by omega) ?_; intro w1 hb1 hm1; have H1 := hid hm1; have HB1 := hid hb1; clear hb1 hm1)
      | (refine wpl_copyB rfl (.tmp 5) (.tmp 6) rfl w.heap.size 0 64 64 5 (zr 64) ao n c b rfl rfl HN.out.symm h0 (HS.out.below HB1.out) H1.out (by simp; omega) ?_; intro w2 h2 hk2; have H2 := hid h2; have HK2 := hid hk2; clear h2 hk2))
    go_ret
    exact ⟨_, rfl, by rw [secB, HE.out]; exact H2.out, Nat.le_refl _, HB1.out.trans (HK2.out.belowB HB1.out.size fun k hk e => by omega)⟩
  · go_enter Try.func80, Try.ntmps80
    go_wp2_with (first
      | (refine wpl_makeZ rfl _ _ rfl 64 rfl rfl (by omega) ?_; intro w1 hb1 hm1; have H1 := hid hm1; have HB1 := hid hb1; clear hb1 hm1)
      | (refine wpl_copyL rfl (.tmp 5) (.tmp 6) rfl w.heap.size 64 64 5 (zr 64) ao n c b rfl rfl HN.out.symm (HS.out.below HB1.out) H1.out (by simp) (fun e => by rw [HN.out, e] at h0; simp at h0) ?_; intro w2 h2 hk2; have H2 := hid h2; have HK2 := hid hk2; clear h2 hk2))
    go_ret
    exact ⟨_, rfl, H2.out, Nat.le_refl _, HB1.out.trans (HK2.out.belowB HB1.out.size fun k hk e => by omega)⟩
end Go.Proofs.Ytlondopgibcikaa
namespace Go.Proofs.Ytlondopgibcikaa
open Go.RowKit Ent

theorem FreshL.below {B : Nat} {w w' : World} {v : Value} {L : List (List UInt8)} (h : FreshL B w v L) (hb : Below w.heap.size w w') : FreshL B w' v L := by
  obtain ⟨vs, Fb, h1, h2, h3, h4⟩ := h
  exact ⟨vs, Fb, owns_below h1 hb, h2.keep (Keep.ofBelow (F := fun _ => False) hb) (fun _ _ => id), fun k hk => ⟨(h3 k hk).1, Nat.lt_of_lt_of_le (h3 k hk).2 hb.size⟩, h4⟩
section
variable {B : Nat} {w0 w w1 : World} {As : List Asset} {a : Nat} {d : Dev}
/-- bytes at the head of a row of one's own are written into the log -/
theorem St.log_write4 (h : St B w0 w As) (i : Nat) (hi : As[i]? = some (dev a d)) (f t g at_ : Int) (j : Nat) (hij : i ≠ j) (gl m c rn : Nat) (rec tail : List UInt8) (hj : As[j]? = some (ownA 5 1 (.slice (some ⟨gl, 0, none⟩) m c) m (bv (rec ++ tail)))) (hrn : rn = rec.length) (hrm : rn ≤ 1073741824) (hlo : d.loose.length ≤ 1073000000) (ha1 : -9223372036854775808 ≤ at_ ∧ at_ ≤ 9223372036854775807) :
    Calls Try.prog 64 #[ptr a, .agg #[.int .i64 f, .int .i64 t, .int .i64 g], .int .i64 at_, .slice (some ⟨gl, 0, none⟩) rn c] w fun e w' => e = .returned (.tuple #[.int .i64 (logWrite d f t g at_ rec).1.1, .int .i64 (logWrite d f t g at_ rec).1.2]) ∧ St B w0 w' (As.set i (dev a (logWrite d f t g at_ rec).2)) := by
  obtain ⟨F, hA, hF, ho, hcl⟩ := h.open i hi
  obtain ⟨G, hG, _, hFG⟩ := ho j _ hij hj
  obtain ⟨hl, hc, hr⟩ := own_range hG.1
  have hs := range_split hr
  refine (logWrite_any f t g at_ (some ⟨gl, 0, none⟩) rn c rec hrn (by rw [List.length_append] at hl; omega) (by omega) w (.inr (.inr ⟨gl, 0, rfl, hs.1⟩)) (fun _ x hx hf => by injection hx with hx; subst hx; exact hFG _ hf (hG.2 gl rfl)) hA (fun k hk => (hF k hk).2) hlo ha1).mono ?_
  rintro e w' ⟨he, hp, hk⟩
  exact ⟨he, hcl w' _ _ hk (good_dev _ _) hp (fun _ h => h)⟩
/-- a new row of one's own -/
theorem St.addRow (h : St B w0 w As) (hb : Below w.heap.size w w1) {T : TypeId} {s : Nat} {v : Value} {q : Nat} {vs : List Value} (ho : w1.ownsRow w.heap.size T s v q vs) : St B w0 w1 (As ++ [ownA T s v q vs]) :=
  h.add hb (F := fun k => v.ownBlock = some k) (good_ownA _ _ _ _ _) ⟨owns_mono ho (Nat.zero_le _), fun _ hk => hk⟩ (fun k hk => ho.lt k hk)
/-- .. is written over, and forgotten -/
theorem St.ownLost (h : St B w0 w As) (i : Nat) {T : TypeId} {s : Nat} {v : Value} {q : Nat} {vs : List Value} (hi : As[i]? = some (ownA T s v q vs)) (hk : Keep (fun k => v.ownBlock = some k) w w1) : St B w0 w1 (As.set i noA) := by
  obtain ⟨F, hA, hF, _, hcl⟩ := h.open i hi
  exact hcl w1 _ F (hk.mono fun k _ e => hA.2 k e) good_noA trivial (fun k hk => .inl hk)
end
theorem scan_short (d : Dev) (base gen M : Nat) : ∀ (m i : Nat) (out : List (List UInt8)) (next : Nat) (rec : List UInt8) (b : Bool), (∀ l ∈ out, l.length ≤ M) → rec.length + 49 * m ≤ M → ∀ l ∈ (scanLoop d base gen m i out next rec b).1, l.length ≤ M
  | 0, _, out, _, _, _, h, _ => h
  | m + 1, i, out, next, rec, b, h, hr => by
    rw [scanLoop]
    rcases hro : rightOf (d.read ((base + i : Nat) : Int)).1 gen i with _ | ⟨k, p⟩
    · exact h
    · have h49 := (right_kind hro).2.2
      simp only
      split
      · exact h
      · split
        · exact scan_short d base gen M m _ _ _ _ _ h (by rw [List.length_append]; omega)
        · refine scan_short d base gen M m _ _ _ _ _ (fun l hl => ?_) (by simp; omega)
          rcases List.mem_append.1 hl with hl | hl
          · exact h l hl
          · simp at hl; subst hl; rw [List.length_append]; omega
theorem logScan_short {d : Dev} (h : d.ok) (f t g : Int) : ∀ l ∈ (logScan d f t g).1, l.length ≤ 3211264 := by
  have := h.len
  unfold logScan
  split
  · simp
  · rename_i hc
    have hc := check_ok hc
    split
    · simp
    · exact scan_short d _ _ _ _ 0 [] 0 [] false (by simp) (by simp; omega)
theorem blankLoop_loose : ∀ (m : Nat) (d : Dev) (i : Nat), (blankLoop d i m).2.loose.length ≤ d.loose.length + m ∧ (blankLoop d i m).2.img.length = d.img.length
  | 0, d, i => ⟨Nat.le_refl _, rfl⟩
  | m + 1, d, i => by
    have h1 := write_loose d (i : Int) (zr 64)
    rw [blankLoop]
    split
    · exact ⟨by omega, h1.2⟩
    · have h2 := blankLoop_loose m (d.write (i : Int) (zr 64)).2 (i + 1)
      exact ⟨by omega, by rw [h2.2, h1.2]⟩
theorem blank_loose (d : Dev) (f t g : Int) : (blankOf d f t g).2.loose.length ≤ d.loose.length + d.img.length ∧ (blankOf d f t g).2.img.length = d.img.length := by
  unfold blankOf
  split
  · exact ⟨Nat.le_add_right _ _, rfl⟩
  · rename_i hc
    obtain ⟨c1, c2, c3, -, -⟩ := check_ok hc
    have h9 : (t - f).toNat ≤ d.img.length := by omega
    have h1 := blankLoop_loose (t - f).toNat d f.toNat
    split
    · exact ⟨by omega, h1.2⟩
    · have h2 := flush_loose (blankLoop d f.toNat (t - f).toNat).2
      exact ⟨by omega, by rw [h2.2, h1.2]⟩
theorem writeLoop_loose (gen at_ base many : Nat) : ∀ (ps : List (List UInt8)) (i : Nat) (d : Dev), (writeLoop gen at_ base many i ps d).2.loose.length ≤ d.loose.length + ps.length ∧ (writeLoop gen at_ base many i ps d).2.img.length = d.img.length
  | [], i, d => ⟨Nat.le_refl _, rfl⟩
  | p :: ps, i, d => by
    have h1 := write_loose d ((base + at_ + i : Nat) : Int) (logSec gen (at_ + i) (kindOf i many) p)
    rw [writeLoop]
    split
    · exact ⟨by rw [List.length_cons]; omega, h1.2⟩
    · have h2 := writeLoop_loose gen at_ base many ps (i + 1) (d.write ((base + at_ + i : Nat) : Int) (logSec gen (at_ + i) (kindOf i many) p)).2
      exact ⟨by rw [List.length_cons]; omega, by rw [h2.2, h1.2]⟩
theorem lwrite_loose (d : Dev) (f t g at_ : Int) (rec : List UInt8) : (logWrite d f t g at_ rec).2.loose.length ≤ d.loose.length + d.img.length ∧ (logWrite d f t g at_ rec).2.img.length = d.img.length := by
  unfold logWrite
  split
  · exact ⟨Nat.le_add_right _ _, rfl⟩
  · rename_i hc
    have hc := check_ok hc
    split
    · exact ⟨Nat.le_add_right _ _, rfl⟩
    · split
      · exact ⟨Nat.le_add_right _ _, rfl⟩
      · split
        · exact ⟨Nat.le_add_right _ _, rfl⟩
        · rename_i ha _ hf
          have h1 := writeLoop_loose g.toNat at_.toNat f.toNat (needOf rec.length) (partsOf rec) 0 d
          rw [partsOf_len] at h1
          split <;> exact ⟨by simp only; omega, h1.2⟩
/-- what an act makes of a device -/
def act6 (d : Dev) (x : Act6) : Dev :=
  if x.kind = 0 then (blankOf d x.f x.t x.g).2 else if x.kind = 1 then (logWrite d x.f x.t x.g x.n x.b).2 else if x.kind = 2 then d.flush.2 else if x.kind = 3 then (d.crash x.keep x.n).2
  else if x.kind = 4 then (d.setFuse x.n).2 else if x.kind = 5 then (d.write x.n (secB x.b)).2 else d
theorem act6_loose (d : Dev) (x : Act6) : (act6 d x).loose.length ≤ d.loose.length + d.img.length + 1 ∧ (act6 d x).img.length = d.img.length := by
  unfold act6
  split
  · have := blank_loose d x.f x.t x.g; exact ⟨by omega, this.2⟩
  · split
    · have := lwrite_loose d x.f x.t x.g x.n x.b; exact ⟨by omega, this.2⟩
    · split
      · have := flush_loose d; exact ⟨by omega, this.2⟩
      · split
        · have := crash_loose d x.keep x.n; exact ⟨by omega, this.2⟩
        · split
          · rw [(fuse_loose _ _).1, (fuse_loose _ _).2]; exact ⟨by omega, rfl⟩
          · split
            · have := write_loose d x.n (secB x.b); exact ⟨by omega, this.2⟩
            · exact ⟨by omega, rfl⟩
end Go.Proofs.Ytlondopgibcikaa
