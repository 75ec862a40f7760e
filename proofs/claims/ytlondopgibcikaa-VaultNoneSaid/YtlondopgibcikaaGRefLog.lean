/- The document's sector of a log. Layer 6's acts: how they lie in memory; long, sector. The document's Check, Blank, Sectors. (Printed by wip/ref6c.py.) The document's Sectors. The document's Write. (Printed by wip/ref6e.py.) The document's right. The document's Scan. (Printed by wip/ref6f.py.) Assets: the document's log; lent bytes; what an act of layer 6 makes of a device. -/
import Derived.Test.YtlondopgibcikaaRows
import Derived.Test.YtlondopgibcikaaGBase
import Derived.Test.YtlondopgibcikaaGCrc
import Derived.Test.YtlondopgibcikaaGDevice
import Derived.Test.YtlondopgibcikaaGRefDev
import Derived.Test.YtlondopgibcikaaGLogA
import Derived.Test.YtlondopgibcikaaGLogC
import Derived.WalkKit
import Derived.WalkSpells
import Derived.WalkLawsBesides
import Derived.Deep.RegionHeld3
import Derived.Deep.QuietTactic
import Derived.BigQuiet
import Derived.Laws.IdiomStrings
import Derived.WalkMore
namespace Go.Proofs.Ytlondopgibcikaa
open Go.RowKit Ent

theorem Blk.setN {w : World} {g : Nat} {T : TypeId} {l : List UInt8} (h : Blk w g T (bv l)) (i : Nat) {z : Int} {q : Nat} (hz : z = ((UInt8.ofNat q).toNat : Int)) : Blk (w.setCell ⟨g, i, none⟩ (.int .u8 z)) g T (bv (l.set i (UInt8.ofNat q))) := by
  rw [hz]; exact h.setB i _
def byteAt (n k : Nat) : UInt8 := UInt8.ofNat (n / 2 ^ (24 - 8 * k))
def secB1 (g i : Nat) : Nat → List UInt8
  | 0 => zr 64
  | k + 1 => ((secB1 g i k).set (4 + k) (byteAt g k)).set (8 + k) (byteAt i k)
theorem secB1_len (g i : Nat) : ∀ k, (secB1 g i k).length = 64
  | 0 => rfl
  | k + 1 => by rw [secB1, List.length_set, List.length_set, secB1_len g i k]
theorem secB1_all (g i : Nat) : secB1 g i 4 = mk2 g i := by
  simp [secB1, byteAt, mk2, zr, be4, List.replicate]
def secB3 (s : Nat) (l : List UInt8) : Nat → List UInt8
  | 0 => l
  | k + 1 => (secB3 s l k).set k (byteAt s k)
theorem secB3_len (s : Nat) (l : List UInt8) : ∀ k, (secB3 s l k).length = l.length
  | 0 => rfl
  | k + 1 => by rw [secB3, List.length_set, secB3_len s l k]
theorem secB3_all (s : Nat) (l : List UInt8) : secB3 s (zr 4 ++ l) 4 = be4 s ++ l := by
  simp [secB3, byteAt, zr, be4, List.replicate]
theorem putAt_step {l p : List UInt8} {i j : Nat} {x : UInt8} (hx : p[j]? = some x) (hl : i + j < l.length) : (putAt l i (p.take j)).set (i + j) x = putAt l i (p.take (j + 1)) := by
  have hj := (List.getElem?_eq_some_iff.1 hx).1
  have h1 : (p.take j).length = j := by simp; omega
  have h2 : (p.take (j + 1)).length = j + 1 := by simp; omega
  have h3 : (l.take i ++ p.take j).length = i + j := by simp; omega
  unfold putAt
  rw [h1, h2, List.drop_eq_getElem_cons hl, List.set_append_right _ _ (by rw [h3]; exact Nat.le_refl _), h3, Nat.sub_self, List.set_cons_zero, List.take_add_one, hx]
  simp [Nat.add_assoc]
theorem putAt_full (l p : List UInt8) (i : Nat) : putAt l i (p.take p.length) = putAt l i p := by rw [List.take_length]
theorem bz0 (n : Nat) (h : n < 4294967296) : (n : Int) / 16777216 = ((UInt8.ofNat (n / 2 ^ (24 - 8 * 0))).toNat : Int) := by
  have q : ((UInt8.ofNat (n / 16777216)).toNat : Int) = ((n / 16777216 % 256 : Nat) : Int) := by simp
  show _ = ((UInt8.ofNat (n / 16777216)).toNat : Int)
  rw [q]; omega
theorem bz1 (n : Nat) : (n : Int) / 65536 % 256 = ((UInt8.ofNat (n / 2 ^ (24 - 8 * 1))).toNat : Int) := by
  have q : ((UInt8.ofNat (n / 65536)).toNat : Int) = ((n / 65536 % 256 : Nat) : Int) := by simp
  show _ = ((UInt8.ofNat (n / 65536)).toNat : Int)
  rw [q]; omega
theorem bz2 (n : Nat) : (n : Int) / 256 % 256 = ((UInt8.ofNat (n / 2 ^ (24 - 8 * 2))).toNat : Int) := by
  have q : ((UInt8.ofNat (n / 256)).toNat : Int) = ((n / 256 % 256 : Nat) : Int) := by simp
  show _ = ((UInt8.ofNat (n / 256)).toNat : Int)
  rw [q]; omega
theorem bz3 (n : Nat) : (n : Int) % 256 = ((UInt8.ofNat (n / 2 ^ (24 - 8 * 3))).toNat : Int) := by
  have q : ((UInt8.ofNat (n / 1)).toNat : Int) = ((n / 1 % 256 : Nat) : Int) := by simp
  show _ = ((UInt8.ofNat (n / 1)).toNat : Int)
  rw [q]; omega
set_option maxRecDepth 100000 in
set_option maxHeartbeats 2000000 in
theorem rsector_any (gen index kind : Nat) (ao : Option Addr) (n c : Nat) (part : List UInt8) (hn : n = part.length) (h49 : n ≤ 49) (hg : gen < 2147483648) (hi : index < 2147483648) (hk : kind ≤ 255) (w : World) (hp : SB w ao c part) :
    Calls Try.prog 150 #[.int .i64 gen, .int .i64 index, .int .i64 kind, .slice ao n c] w fun e w' => ∃ g, e = .returned (.slice (some ⟨g, 0, none⟩) 64 64) ∧ Blk w' g 5 (bv (logSec gen index kind part)) ∧ w.heap.size ≤ g ∧ Below w.heap.size w w' := by
  have HN := hid hn; have HP := hid hp
  have HKI := hid (byte_small kind hk)
  have HNI := hid (byte_small n (by omega))
  obtain ⟨g, hgg⟩ : ∃ g, g = w.heap.size := ⟨_, rfl⟩
  have HG := hid hgg
  clear hn hp hgg
  go_enter Try.func150, Try.ntmps150
  go_wp2_with (refine wpl_makeZ rfl _ _ rfl 64 rfl rfl (by omega) ?_; intro w1 hb1 hm1; rw [← HG.out]; rw [← HG.out] at hm1; have H1 := hid hm1; have HB1 := hid hb1; clear hb1 hm1)
  go_loopw [10] (fun i wr => ∃ k : Nat, k ≤ 4 ∧ i = .int .i64 k ∧ Blk wr g 5 (bv (secB1 gen index k)) ∧ Below w.heap.size w wr) (fun i _ => 4 - (intOf i).toNat)
  case atStart => exact ⟨0, by omega, rfl, H1.out, HB1.out⟩
  case round =>
    obtain ⟨k, hk4, rfl, hm, hb⟩ := hrel
    have HM := hid hm; have HB := hid hb
    clear hm hb
    by_cases hlt : k < 4
    · rcases (by omega : k = 0 ∨ k = 1 ∨ k = 2 ∨ k = 3) with rfl | rfl | rfl | rfl
      · obtain ⟨v0, c0⟩ := blk_some HM.out (j := 4) (by rw [bv_length, secB1_len]; omega)
        have f0 := HM.out.free 4
        have HM1 := hid (HM.out.setN 4 (bz0 gen (by omega)))
        obtain ⟨v1, c1⟩ := blk_some HM1.out (j := 8) (by rw [bv_length, List.length_set, secB1_len]; omega)
        have f1 := HM1.out.free 8
        have HM2 := hid (HM1.out.setN 8 (bz0 index (by omega)))
        have HB2 := hid ((HB.out.setCell (p := ⟨g, 4, none⟩) (by rw [HG.out]; exact Nat.le_refl _) (.int .u8 ((gen : Int) / 16777216))).setCell (p := ⟨g, 8, none⟩) (by rw [HG.out]; exact Nat.le_refl _) (.int .u8 ((index : Int) / 16777216)))
        go_wp2
        go_roundw
        case rel => exact ⟨1, by omega, by go_num, HM2.out, HB2.out⟩
        case measure => simp [intOf]
      · obtain ⟨v0, c0⟩ := blk_some HM.out (j := 5) (by rw [bv_length, secB1_len]; omega)
        have f0 := HM.out.free 5
        have HM1 := hid (HM.out.setN 5 (bz1 gen))
        obtain ⟨v1, c1⟩ := blk_some HM1.out (j := 9) (by rw [bv_length, List.length_set, secB1_len]; omega)
        have f1 := HM1.out.free 9
        have HM2 := hid (HM1.out.setN 9 (bz1 index))
        have HB2 := hid ((HB.out.setCell (p := ⟨g, 5, none⟩) (by rw [HG.out]; exact Nat.le_refl _) (.int .u8 ((gen : Int) / 65536 % 256))).setCell (p := ⟨g, 9, none⟩) (by rw [HG.out]; exact Nat.le_refl _) (.int .u8 ((index : Int) / 65536 % 256)))
        go_wp2
        go_roundw
        case rel => exact ⟨2, by omega, by go_num, HM2.out, HB2.out⟩
        case measure => simp [intOf]
      · obtain ⟨v0, c0⟩ := blk_some HM.out (j := 6) (by rw [bv_length, secB1_len]; omega)
        have f0 := HM.out.free 6
        have HM1 := hid (HM.out.setN 6 (bz2 gen))
        obtain ⟨v1, c1⟩ := blk_some HM1.out (j := 10) (by rw [bv_length, List.length_set, secB1_len]; omega)
        have f1 := HM1.out.free 10
        have HM2 := hid (HM1.out.setN 10 (bz2 index))
        have HB2 := hid ((HB.out.setCell (p := ⟨g, 6, none⟩) (by rw [HG.out]; exact Nat.le_refl _) (.int .u8 ((gen : Int) / 256 % 256))).setCell (p := ⟨g, 10, none⟩) (by rw [HG.out]; exact Nat.le_refl _) (.int .u8 ((index : Int) / 256 % 256)))
        go_wp2
        go_roundw
        case rel => exact ⟨3, by omega, by go_num, HM2.out, HB2.out⟩
        case measure => simp [intOf]
      · obtain ⟨v0, c0⟩ := blk_some HM.out (j := 7) (by rw [bv_length, secB1_len]; omega)
        have f0 := HM.out.free 7
        have HM1 := hid (HM.out.setN 7 (bz3 gen))
        obtain ⟨v1, c1⟩ := blk_some HM1.out (j := 11) (by rw [bv_length, List.length_set, secB1_len]; omega)
        have f1 := HM1.out.free 11
        have HM2 := hid (HM1.out.setN 11 (bz3 index))
        have HB2 := hid ((HB.out.setCell (p := ⟨g, 7, none⟩) (by rw [HG.out]; exact Nat.le_refl _) (.int .u8 ((gen : Int) % 256))).setCell (p := ⟨g, 11, none⟩) (by rw [HG.out]; exact Nat.le_refl _) (.int .u8 ((index : Int) % 256)))
        go_wp2
        go_roundw
        case rel => exact ⟨4, by omega, by go_num, HM2.out, HB2.out⟩
        case measure => simp [intOf]
    · obtain rfl : k = 4 := by omega
      have HM2 : Hid (Blk wr g 5 (bv (mk2 gen index))) := hid (by rw [← secB1_all]; exact HM.out)
      have c12 : wr.cell? ⟨g, 12, none⟩ = some (.int .u8 0) := HM2.out.cell (j := 12) rfl
      have f12 := HM2.out.free 12
      have h4 := HM2.out.setB 12 (UInt8.ofNat kind)
      rw [← HKI.out] at h4
      have c13 : (wr.setCell ⟨g, 12, none⟩ (.int .u8 (kind : Int))).cell? ⟨g, 13, none⟩ = some (.int .u8 0) := h4.cell (j := 13) rfl
      have f13 := h4.free 13
      have h5 := h4.setB 13 (UInt8.ofNat n)
      rw [← HNI.out] at h5
      have H5 : Hid (Blk ((wr.setCell ⟨g, 12, none⟩ (.int .u8 (kind : Int))).setCell ⟨g, 13, none⟩ (.int .u8 (n : Int))) g 5 (bv (mk3 gen index kind part))) := hid (by rw [HN.out, mk3_of] at h5; rw [← HN.out] at h5; exact h5)
      have HB5 : Hid (Below w.heap.size w ((wr.setCell ⟨g, 12, none⟩ (.int .u8 (kind : Int))).setCell ⟨g, 13, none⟩ (.int .u8 (n : Int)))) := hid ((HB.out.setCell (p := ⟨g, 12, none⟩) (by rw [HG.out]; exact Nat.le_refl _) _).setCell (p := ⟨g, 13, none⟩) (by rw [HG.out]; exact Nat.le_refl _) _)
      have HL3 : Hid ((mk3 gen index kind part).length = 64) := hid rfl
      clear h4 h5
      go_wp2_with fail
      generalize (wr.setCell ⟨g, 12, none⟩ (.int .u8 (kind : Int))).setCell ⟨g, 13, none⟩ (.int .u8 (n : Int)) = w5 at *
      clear c12 f12 c13 f13
      go_loopw [11] (fun i wr => ∃ k : Nat, k ≤ n ∧ i = .int .i64 k ∧ Blk wr g 5 (bv (putAt (mk3 gen index kind part) 14 (part.take k))) ∧ Below w.heap.size w wr) (fun i _ => n - (intOf i).toNat)
      case atStart => exact ⟨0, Nat.zero_le _, rfl, by simpa [putAt] using H5.out, HB5.out⟩
      case round =>
        obtain ⟨k, hkn, rfl, hm, hb⟩ := hrel
        have HM := hid hm; have HB := hid hb
        clear hm hb
        by_cases hlt : k < n
        · obtain ⟨x, hx⟩ : ∃ x, part[k]? = some x := ⟨_, List.getElem?_eq_getElem (by rw [← HN.out]; exact hlt)⟩
          have hpl : putAt (mk3 gen index kind part) 14 (part.take k) = putAt (mk3 gen index kind part) 14 (part.take k) := rfl
          obtain ⟨b1, o1, rfl, cx⟩ := sb_at (HP.out.below HB.out) hx
          have hlen : (putAt (mk3 gen index kind part) 14 (part.take k)).length = 64 := by rw [putAt_len _ _ _ (by rw [HL3.out]; simp; omega), HL3.out]
          obtain ⟨v0, c0⟩ := blk_some HM.out (j := 14 + k) (by rw [bv_length, hlen]; omega)
          have f0 := HM.out.free (14 + k)
          have HS := hid (HM.out.setB (14 + k) x)
          have HS2 : Hid (Blk (wr.setCell ⟨g, 14 + k, none⟩ (.int .u8 (x.toNat : Int))) g 5 (bv (putAt (mk3 gen index kind part) 14 (part.take (k + 1))))) := hid (by
            have := HS.out
            rw [putAt_step hx (by rw [HL3.out]; omega)] at this
            exact this)
          have HB2 : Hid (Below w.heap.size w (wr.setCell ⟨g, 14 + k, none⟩ (.int .u8 (x.toNat : Int)))) := hid (HB.out.setCell (p := ⟨g, 14 + k, none⟩) (by rw [HG.out]; exact Nat.le_refl _) _)
          clear hpl hlen hx HS
          go_wp2
          go_roundw
          case rel => exact ⟨k + 1, by omega, by go_num, HS2.out, HB2.out⟩
          case measure => simp [intOf]; omega
        · obtain rfl : k = n := by omega
          have HM4 : Hid (Blk wr g 5 (bv (mk4 gen index kind part))) := hid (by
            have := HM.out
            rw [HN.out, putAt_full, mk4_of _ _ _ _ (by rw [← HN.out]; exact h49)] at this
            exact this)
          obtain ⟨v63, c63⟩ := blk_some HM4.out (j := 63) (by rw [bv_length]; simp [mk4]; omega)
          have f63 := HM4.out.free 63
          have H7 : Hid (Blk (wr.setCell ⟨g, 63, none⟩ (.int .u8 165)) g 5 (bv (mk5 gen index kind part))) := hid (by
            have := HM4.out.setB 63 165
            rw [mk5_of _ _ _ _ (by rw [← HN.out]; exact h49)] at this
            exact this)
          have HB7 : Hid (Below w.heap.size w (wr.setCell ⟨g, 63, none⟩ (.int .u8 165))) := hid (HB.out.setCell (p := ⟨g, 63, none⟩) (by rw [HG.out]; exact Nat.le_refl _) _)
          go_wp2_with fail
          generalize hw7 : wr.setCell ⟨g, 63, none⟩ (.int .u8 165) = w7 at *
          clear hw7 c63 f63
          refine (rsum_any (some ⟨g, 4, none⟩) 60 60 (secBody gen index kind part) (secBody_len (by rw [← HN.out]; exact h49)).symm (by omega) w7 (.inr (.inr ⟨g, 4, rfl, H7.out.range fun j v hv => by
            rw [bv_get, show (mk5 gen index kind part)[4 + j]? = (secBody gen index kind part)[j]? by rw [← mk5_drop, List.getElem?_drop], ← bv_get]; exact hv⟩))).mono ?_
          rintro e w' ⟨rfl, hw'⟩
          subst w'
          obtain ⟨s, hs⟩ : ∃ s, (csum (secBody gen index kind part)).toNat = s := ⟨_, rfl⟩
          have hsb : s < 4294967296 := by rw [← hs]; exact (csum (secBody gen index kind part)).isLt
          have HS := hid hs
          rw [hs]
          clear hs
          go_wp2_with fail
          have HL5 := hid (show (mk5 gen index kind part).length = 64 by rw [mk5, List.length_append, secBody_len (by rw [← HN.out]; exact h49)]; rfl)
          go_loopw [13] (fun i wr => ∃ k : Nat, k ≤ 4 ∧ i = .int .i64 k ∧ Blk wr g 5 (bv (secB3 s (mk5 gen index kind part) k)) ∧ Below w.heap.size w wr) (fun i _ => 4 - (intOf i).toNat)
          case atStart => exact ⟨0, by omega, rfl, H7.out, HB7.out⟩
          case round =>
            obtain ⟨k, hk4, rfl, hm, hb⟩ := hrel
            have HM := hid hm; have HB := hid hb
            clear hm hb
            by_cases hlt : k < 4
            · rcases (by omega : k = 0 ∨ k = 1 ∨ k = 2 ∨ k = 3) with rfl | rfl | rfl | rfl
              · obtain ⟨v0, c0⟩ := blk_some HM.out (j := 0) (by rw [bv_length, secB3_len, HL5.out]; omega)
                have f0 := HM.out.free 0
                have HM1 := hid (HM.out.setN 0 (bz0 s (by omega)))
                have HB2 := hid (HB.out.setCell (p := ⟨g, 0, none⟩) (by rw [HG.out]; exact Nat.le_refl _) (.int .u8 ((s : Int) / 16777216)))
                go_wp2
                go_roundw
                case rel => exact ⟨1, by omega, by go_num, HM1.out, HB2.out⟩
                case measure => simp [intOf]
              · obtain ⟨v0, c0⟩ := blk_some HM.out (j := 1) (by rw [bv_length, secB3_len, HL5.out]; omega)
                have f0 := HM.out.free 1
                have HM1 := hid (HM.out.setN 1 (bz1 s))
                have HB2 := hid (HB.out.setCell (p := ⟨g, 1, none⟩) (by rw [HG.out]; exact Nat.le_refl _) (.int .u8 ((s : Int) / 65536 % 256)))
                go_wp2
                go_roundw
                case rel => exact ⟨2, by omega, by go_num, HM1.out, HB2.out⟩
                case measure => simp [intOf]
              · obtain ⟨v0, c0⟩ := blk_some HM.out (j := 2) (by rw [bv_length, secB3_len, HL5.out]; omega)
                have f0 := HM.out.free 2
                have HM1 := hid (HM.out.setN 2 (bz2 s))
                have HB2 := hid (HB.out.setCell (p := ⟨g, 2, none⟩) (by rw [HG.out]; exact Nat.le_refl _) (.int .u8 ((s : Int) / 256 % 256)))
                go_wp2
                go_roundw
                case rel => exact ⟨3, by omega, by go_num, HM1.out, HB2.out⟩
                case measure => simp [intOf]
              · obtain ⟨v0, c0⟩ := blk_some HM.out (j := 3) (by rw [bv_length, secB3_len, HL5.out]; omega)
                have f0 := HM.out.free 3
                have HM1 := hid (HM.out.setN 3 (bz3 s))
                have HB2 := hid (HB.out.setCell (p := ⟨g, 3, none⟩) (by rw [HG.out]; exact Nat.le_refl _) (.int .u8 ((s : Int) % 256)))
                go_wp2
                go_roundw
                case rel => exact ⟨4, by omega, by go_num, HM1.out, HB2.out⟩
                case measure => simp [intOf]
            · obtain rfl : k = 4 := by omega
              have HF : Hid (Blk wr g 5 (bv (logSec gen index kind part))) := hid (by
                have := HM.out
                rw [show mk5 gen index kind part = zr 4 ++ secBody gen index kind part from rfl, secB3_all, ← HS.out] at this
                exact this)
              go_wp2
              go_ret
              exact ⟨g, rfl, HF.out, by rw [HG.out]; exact Nat.le_refl _, HB.out⟩
end Go.Proofs.Ytlondopgibcikaa
namespace Go.Proofs.Ytlondopgibcikaa
open Go.RowKit Ent

structure Act6 where
  kind : Int
  f : Int
  t : Int
  g : Int
  n : Int
  bo : Option Addr
  bc : Nat
  b : List UInt8
  ko : Option Addr
  kc : Nat
  keep : List Bool
def Act6.cells (a : Act6) : List Value := [.int .i64 a.kind, .int .i64 a.f, .int .i64 a.t, .int .i64 a.g, .int .i64 a.n, .slice a.bo a.b.length a.bc, .slice a.ko a.keep.length a.kc]
structure Act6.fits (w : World) (a : Act6) : Prop where
  k1 : -9223372036854775808 ≤ a.kind ∧ a.kind ≤ 9223372036854775807
  n1 : -9223372036854775808 ≤ a.n ∧ a.n ≤ 9223372036854775807
  sb : SB w a.bo a.bc a.b
  sc : a.b.length ≤ a.bc
  bl : BL w a.ko a.keep
theorem Act6.fits.below {w w' : World} {a : Act6} (h : a.fits w) (hb : Below w.heap.size w w') : a.fits w' := ⟨h.k1, h.n1, h.sb.below hb, h.sc, h.bl.below hb⟩
/-- acts that may be read -/
def AL6 (w : World) (ao : Option Addr) (l : List Act6) : Prop := l = [] ∨ ∃ b o, ao = some ⟨b, o, none⟩ ∧ ∀ i a, l[i]? = some a → a.fits w ∧ (a.b.length ≤ 9223372036854775807 ∧ a.keep.length ≤ 9223372036854775807) ∧ ∀ j v, a.cells[j]? = some v → w.cell? ⟨b, o + i * 7 + j, none⟩ = some v
theorem AL6.below {w w' : World} {ao : Option Addr} {l : List Act6} (h : AL6 w ao l) (hb : Below w.heap.size w w') : AL6 w' ao l := by
  rcases h with h | ⟨b, o, rfl, h⟩
  · exact .inl h
  · refine .inr ⟨b, o, rfl, fun i a ha => ⟨(h i a ha).1.below hb, (h i a ha).2.1, fun j v hv => ?_⟩⟩
    have hc := (h i a ha).2.2 j v hv
    rw [hb.cell (World.block_lt_of_cell? w _ hc)]; exact hc
theorem AL6.at {w : World} {ao : Option Addr} {l : List Act6} (h : AL6 w ao l) {i : Nat} {a : Act6} (ha : l[i]? = some a) : ∃ b o, ao = some ⟨b, o, none⟩ ∧ a.fits w ∧ (a.b.length ≤ 9223372036854775807 ∧ a.keep.length ≤ 9223372036854775807) ∧ ∀ j v, a.cells[j]? = some v → w.cell? ⟨b, o + i * 7 + j, none⟩ = some v := by
  rcases h with rfl | ⟨b, o, rfl, h⟩
  · simp at ha
  · exact ⟨b, o, rfl, h i a ha⟩
def bad6 (a : Act6) : Bool := decide (400 < a.b.length) || decide (40 < a.keep.length)
def long6 (l : List Act6) : Bool := (l.take 26).any bad6 || decide (25 < l.length)
theorem long6_no {l : List Act6} (h : long6 l = false) : l.length ≤ 25 ∧ ∀ a ∈ l, a.b.length ≤ 400 ∧ a.keep.length ≤ 40 := by
  unfold long6 at h
  rw [Bool.or_eq_false_iff, decide_eq_false_iff_not, List.any_eq_false] at h
  obtain ⟨h1, h2⟩ := h
  refine ⟨by omega, fun a ha => ?_⟩
  have := h1 a (by rw [List.take_of_length_le (by omega)]; exact ha)
  simp [bad6] at this
  exact this
set_option maxRecDepth 100000 in
set_option maxHeartbeats 400000 in
theorem long6_any (ao : Option Addr) (n c : Nat) (l : List Act6) (hn : n = l.length) (hb : n ≤ 9223372036854775807) (w : World) (hl : AL6 w ao l) :
    Calls Try.prog 74 #[.slice ao n c] w fun e w' => e = .returned (.bool (long6 l)) ∧ w' = w := by
  subst hn
  go_enter Try.func74, Try.ntmps74
  go_wp2_with fail
  go_loop [3] (fun i => ∃ k : Nat, k ≤ l.length ∧ k ≤ 26 ∧ i = .int .i64 k ∧ (l.take k).any bad6 = false) (fun i => 26 - (intOf i).toNat)
  case atStart => exact ⟨0, Nat.zero_le _, by omega, rfl, by simp⟩
  case round =>
    obtain ⟨k, hk, hk61, rfl, hany⟩ := hrel
    have HA := hid hany
    clear hany
    by_cases hlt : k < l.length ∧ k < 26
    · obtain ⟨hl1, hl2⟩ := hlt
      obtain ⟨x, hx⟩ : ∃ x, l[k]? = some x := ⟨_, List.getElem?_eq_getElem hl1⟩
      obtain ⟨b, o, rfl, hf, hkl, hc⟩ := hl.at hx
      have c5 := hc 5 _ rfl
      have c6 := hc 6 _ rfl
      have hkl1 := hkl.1
      have hkl2 := hkl.2
      have HT := hid (any_take_succ bad6 l k hx)
      have HBAD : Hid (bad6 x = true → long6 l = true) := hid (fun h => by
        unfold long6
        have h1 : (l.take 26).any bad6 = true := by
          rw [List.any_eq_true]
          have h2 := HT.out
          rw [HA.out, Bool.false_or, h, List.any_eq_true] at h2
          obtain ⟨y, hy, hp⟩ := h2
          exact ⟨y, (List.take_subset_take_left l (by omega)) hy, hp⟩
        rw [h1]; rfl)
      clear hc hx hf hkl
      by_cases h400 : 400 < x.b.length
      · have HR : Hid (long6 l = true) := hid (HBAD.out (by simp [bad6, h400]))
        go_wp2
        go_ret
        exact ⟨by rw [HR.out]; rfl, rfl⟩
      · by_cases h40 : 40 < x.keep.length
        · have HR : Hid (long6 l = true) := hid (HBAD.out (by simp [bad6, h40]))
          go_wp2
          go_ret
          exact ⟨by rw [HR.out]; rfl, rfl⟩
        · have HNB : Hid (bad6 x = false) := hid (by simp [bad6]; omega)
          go_wp2
          go_round
          case rel => exact ⟨k + 1, by omega, by omega, by go_num, by rw [HT.out, HA.out, HNB.out]; rfl⟩
          case measure => simp [intOf]; omega
    · have HR : Hid (long6 l = decide (25 < l.length)) := hid (by
        unfold long6
        have : l.take 26 = l.take k := by
          by_cases h1 : k < 26
          · rw [List.take_of_length_le (by omega), List.take_of_length_le (by omega)]
          · rw [show k = 26 by omega]
        rw [this, HA.out, Bool.false_or])
      by_cases h1 : k < l.length
      · have h2 : ¬ k < 26 := fun h => hlt ⟨h1, h⟩
        clear hlt
        go_wp2
        go_ret
        exact ⟨by rw [HR.out]; congr 1; simp; omega, rfl⟩
      · clear hlt
        go_wp2
        go_ret
        exact ⟨by rw [HR.out]; congr 1; simp; omega, rfl⟩
/-- bytes as a sector -/
def secB (b : List UInt8) : List UInt8 := putAt (zr 64) 0 (b.take 64)
theorem secB_len (b : List UInt8) : (secB b).length = 64 := by rw [secB, putAt_len _ _ _ (by simp; omega), zr_len]
theorem wpl_copyL {ops : Array Oper} {rest : List Oper} {o : Oper} {a : Act} {w : World} {Q : Exit → Act → World → Prop} (hgd : o.guard = none) (s x : Operand)
    (ho : o.op = .call { callee := .builtin .copy, args := #[s, x], argTypes := #[22, 22] })
    (gi dl dc : Nat) (T : TypeId) (cur : List UInt8) (ao : Option Addr) (sl sc : Nat) (l : List UInt8) (hs : a.eval s = .slice (some ⟨gi, 0, none⟩) dl dc) (hx : a.eval x = .slice ao sl sc) (hl : l.length = sl) (hsb : SB w ao sc l) (hb : Blk w gi T (bv cur)) (hc : dl ≤ cur.length) (hne : l ≠ [])
    (h : ∀ w', Blk w' gi T (bv (putAt cur 0 (l.take dl))) → Keep (fun k => k = gi) w w' → wpList Try.prog ops Q rest (a.put o.dst (goInt (min dl sl : Nat))) w') : wpList Try.prog ops Q (o :: rest) a w := by
  obtain ⟨i, hi, _, hz, _⟩ := info_u8
  have hin : (Try.prog.info? 5).map (·.size) = some 1 := by rw [hi]; simp [hz]
  refine wpList_plain hgd fun _ hK => ?_
  unfold Oper.wp execOp
  subst hl
  have hlen : (l.take dl).length = min dl l.length := by simp
  have hth := hb.there (o := 0) (n := min dl l.length) (by rw [bv_length]; omega)
  have key : (Builtin.copy_ #[22, 22] o.type #[.slice (some ⟨gi, 0, none⟩) dl dc, .slice ao l.length sc]).run Try.prog w = .ok (goInt (min dl l.length : Nat)) (w.setCells gi 0 (bv (l.take dl))) := by
    rcases hsb with ⟨_, _, h1⟩ | ⟨_, _, h1⟩ | ⟨b, o', rfl, hr⟩
    · exact absurd h1 hne
    · exact absurd h1 hne
    · have := run_copy_cells (P := Try.prog) w 22 22 o.type 5 gi 0 dl dc ⟨b, o', none⟩ l.length sc (bv (l.take dl)) Try.underlying22 hin (by rw [bv_length, hlen, Nat.min_comm]) (fun j v hv => by
          rw [Addr.add_mid]
          refine hr j v ?_
          rw [bv_get] at hv ⊢
          rw [List.getElem?_take] at hv
          split at hv
          · exact hv
          · cases hv) (fun j hj => (hth j (by rw [bv_length, hlen] at hj; exact hj)).1) (fun j hj => (hth j (by rw [bv_length, hlen] at hj; exact hj)).2) (bv_one _)
      rwa [bv_length, hlen] at this
  simp only [ho, resolve, invoke, builtin, Sem.run_bind, Sem.run_pure, Result.andThen_ok, List.map_toArray, List.map_cons, List.map_nil, hs, hx, key]
  exact hK _ _ (h _ (hb.putB 0 _ (by rw [hlen]; omega)) (Keep.setCells (F := fun k => k = gi) rfl _ _ (Keep.refl _ w)))
set_option maxRecDepth 100000 in
set_option maxHeartbeats 400000 in
theorem sector6_any (ao : Option Addr) (n c : Nat) (b : List UInt8) (hn : n = b.length) (w : World) (hs : SB w ao c b) :
    Calls Try.prog 80 #[.slice ao n c] w fun e w' => ∃ g, e = .returned (.slice (some ⟨g, 0, none⟩) 64 64) ∧ Blk w' g 5 (bv (secB b)) ∧ w.heap.size ≤ g ∧ Below w.heap.size w w' := by
  have HN := hid hn; have HS := hid hs
  clear hn hs
  by_cases h0 : n ≤ 64
  · have HE : Hid (b.take 64 = b) := hid (List.take_of_length_le (by rw [← HN.out]; exact h0))
    go_enter Try.func80, Try.ntmps80
    go_wp2_with (first
      | (refine wpl_makeZ rfl _ _ rfl 64 rfl rfl (by omega) ?_; intro w1 hb1 hm1; have H1 := hid hm1; have HB1 := hid hb1; clear hb1 hm1)
      | (refine wpl_copyB rfl (.tmp 5) (.tmp 6) rfl w.heap.size 0 64 64 5 (zr 64) ao n c b rfl rfl HN.out.symm h0 (HS.out.below HB1.out) H1.out (by simp; omega) ?_; intro w2 h2 hk2; have H2 := hid h2; have HK2 := hid hk2; clear h2 hk2))
    go_ret
    exact ⟨_, rfl, by rw [secB, HE.out]; exact H2.out, Nat.le_refl _, HB1.out.trans (HK2.out.belowB HB1.out.size fun k hk e => by omega)⟩
  · go_enter Try.func80, Try.ntmps80
    go_wp2_with (first
      | (refine wpl_makeZ rfl _ _ rfl 64 rfl rfl (by omega) ?_; intro w1 hb1 hm1; have H1 := hid hm1; have HB1 := hid hb1; clear hb1 hm1)
      | (refine wpl_copyL rfl (.tmp 5) (.tmp 6) rfl w.heap.size 64 64 5 (zr 64) ao n c b rfl rfl HN.out.symm (HS.out.below HB1.out) H1.out (by simp) (fun e => by rw [HN.out, e] at h0; simp at h0) ?_; intro w2 h2 hk2; have H2 := hid h2; have HK2 := hid hk2; clear h2 hk2))
    go_ret
    exact ⟨_, rfl, H2.out, Nat.le_refl _, HB1.out.trans (HK2.out.belowB HB1.out.size fun k hk e => by omega)⟩
end Go.Proofs.Ytlondopgibcikaa
namespace Go.Proofs.Ytlondopgibcikaa
open Go.RowKit Ent

/-- since w, a device at a has been turned; G is its own now -/
structure TurnR (F : Nat → Prop) (w w' : World) (a : Nat) (d : Dev) (G : Nat → Prop) : Prop where
  p : RD w' a G d
  g : ∀ k, G k → grow F w w' k
  k : Keep F w w'
section
variable {F G : Nat → Prop} {w w1 w2 : World} {a : Nat} {d d2 : Dev}
theorem TurnR.start (h : RD w a F d) : TurnR F w w a d F := ⟨h, fun _ => .inl, Keep.refl _ _⟩
theorem TurnR.below (h : TurnR F w w1 a d G) (hb : Below w1.heap.size w1 w2) : TurnR F w w2 a d G :=
  ⟨h.p.below hb, fun k hk => (h.g k hk).imp id fun x => ⟨x.1, Nat.lt_of_lt_of_le x.2 hb.size⟩, h.k.trans (Keep.ofBelow hb)⟩
theorem TurnR.step (h : TurnR F w w1 a d G) (hp : RD w2 a (grow G w1 w2) d2) (hk : Keep G w1 w2) : TurnR F w w2 a d2 (grow G w1 w2) where
  p := hp
  g := fun k hh => by
    rcases hh with hh | hh
    · exact (h.g k hh).imp id fun x => ⟨x.1, Nat.lt_of_lt_of_le x.2 hk.size⟩
    · exact .inr ⟨Nat.le_trans h.k.size hh.1, hh.2⟩
  k := h.k.comp hk (fun _ _ x => x) (fun i hi hg => by
    rcases h.g i hg with x | x
    · exact x
    · omega)
theorem TurnR.lt (h : TurnR F w w1 a d G) (hF : ∀ k, F k → k < w.heap.size) : ∀ k, G k → k < w1.heap.size := fun k hk => by
  rcases h.g k hk with x | x
  · exact Nat.lt_of_lt_of_le (hF k x) h.k.size
  · exact x.2
theorem TurnR.stop (h : TurnR F w w1 a d G) : RD w1 a (grow F w w1) d ∧ Keep F w w1 := ⟨h.p.mono h.g, h.k⟩
theorem TurnR.rebase (h : TurnR F w1 w2 a d G) (hb : Below w.heap.size w w1) : TurnR F w w2 a d G :=
  ⟨h.p, fun k hk => (h.g k hk).imp id fun x => ⟨Nat.le_trans hb.size x.1, x.2⟩, (Keep.ofBelow hb).trans h.k⟩
theorem TurnR.aside {g : Nat} (h : TurnR F w w1 a d G) (hk : Keep (fun j => j = g) w1 w2) (hg : ¬ G g) (hw : w.heap.size ≤ g) : TurnR F w w2 a d G where
  p := h.p.keep hk (fun k hk e => hg (by rw [← e]; exact hk))
  g := fun k hh => (h.g k hh).imp id fun x => ⟨x.1, Nat.lt_of_lt_of_le x.2 hk.size⟩
  k := h.k.comp hk (fun _ _ x => x) (fun i hi e => by omega)
end
theorem sizeR_drewN {W : World} {a : Nat} {F : Nat → Prop} {d : Dev} (h : RD W a F d) (n : Nat) : Calls Try.prog 56 #[ptr a] (W.drewN n) fun e w' => e = .returned (.int .i64 d.img.length) ∧ w' = W.drewN n :=
  sizeR_any _ (h.below (below_drewN (Below.refl _ _) n))
set_option maxRecDepth 100000 in
set_option maxHeartbeats 2000000 in
theorem rcheck_any {a : Nat} {F : Nat → Prop} {d : Dev} (f t g : Int) (w : World) (h : RD w a F d) :
    Calls Try.prog 84 #[ptr a, .agg #[.int .i64 f, .int .i64 t, .int .i64 g]] w fun e w' => e = .returned (.int .i64 (checkOf d f t g)) ∧ Below w.heap.size w w' := by
  have hlen := h.1.len
  obtain ⟨w1, hw1⟩ : ∃ w1, w.alloc (.cells #[.int .i64 f, .int .i64 t, .int .i64 g] 76) = w1 := ⟨_, rfl⟩
  have HW1 := hid hw1
  have HBX : Hid (Blk w1 w.heap.size 76 [.int .i64 f, .int .i64 t, .int .i64 g]) := hid (by rw [← hw1]; exact alloc_new w _)
  have HB : Hid (Below w.heap.size w w1) := hid (by rw [← hw1]; exact fresh_alloc w _)
  have H1 := hid (h.below HB.out)
  clear hw1 h
  unfold ptr at *
  by_cases h1 : f < 0
  · have HC : Hid (checkOf d f t g = 3) := hid (by unfold checkOf; rw [if_pos (.inl h1)])
    have hd1 : decide (f < 0) = true := decide_eq_true h1
    go_enter Try.func84, Try.ntmps84
    go_wp2_with fail
    rw [HW1.out]
    have x0 := HBX.out.cell (j := 0) rfl
    have x1 := HBX.out.cell (j := 1) rfl
    have x2 := HBX.out.cell (j := 2) rfl
    go_quiet (fail)
    go_wp2
    go_ret
    exact ⟨by rw [HC.out]; rfl, below_drewN HB.out _⟩
  have hd1 : decide (f < 0) = false := decide_eq_false h1
  by_cases h2 : t < f
  · have HC : Hid (checkOf d f t g = 3) := hid (by unfold checkOf; rw [if_pos (.inr (.inl h2))])
    have hd2 : decide (t < f) = true := decide_eq_true h2
    go_enter Try.func84, Try.ntmps84
    go_wp2_with fail
    rw [HW1.out]
    have x0 := HBX.out.cell (j := 0) rfl
    have x1 := HBX.out.cell (j := 1) rfl
    have x2 := HBX.out.cell (j := 2) rfl
    go_quiet (fail)
    go_wp2
    go_ret
    exact ⟨by rw [HC.out]; rfl, below_drewN HB.out _⟩
  have hd2 : decide (t < f) = false := decide_eq_false h2
  by_cases h3 : (d.img.length : Int) < t
  · have HC : Hid (checkOf d f t g = 3) := hid (by unfold checkOf; rw [if_pos (.inr (.inr (.inl h3)))])
    have hd3 : decide ((d.img.length : Int) < t) = true := decide_eq_true h3
    go_enter Try.func84, Try.ntmps84
    go_wp2_with fail
    rw [HW1.out]
    have x0 := HBX.out.cell (j := 0) rfl
    have x1 := HBX.out.cell (j := 1) rfl
    have x2 := HBX.out.cell (j := 2) rfl
    go_quiet ((go_at_call 56; exact Calls.quiet_of_same (sizeR_drewN H1.out _)))
    go_wp2
    go_ret
    exact ⟨by rw [HC.out]; rfl, below_drewN HB.out _⟩
  have hd3 : decide ((d.img.length : Int) < t) = false := decide_eq_false h3
  by_cases h4 : g < 1
  · have HC : Hid (checkOf d f t g = 3) := hid (by unfold checkOf; rw [if_pos (.inr (.inr (.inr (.inl h4))))])
    have hd4 : decide (g < 1) = true := decide_eq_true h4
    go_enter Try.func84, Try.ntmps84
    go_wp2_with fail
    rw [HW1.out]
    have x0 := HBX.out.cell (j := 0) rfl
    have x1 := HBX.out.cell (j := 1) rfl
    have x2 := HBX.out.cell (j := 2) rfl
    go_quiet ((go_at_call 56; exact Calls.quiet_of_same (sizeR_drewN H1.out _)))
    go_wp2
    go_ret
    exact ⟨by rw [HC.out]; rfl, below_drewN HB.out _⟩
  have hd4 : decide (g < 1) = false := decide_eq_false h4
  by_cases h5 : 2147483647 < g
  · have HC : Hid (checkOf d f t g = 3) := hid (by unfold checkOf; rw [if_pos (.inr (.inr (.inr (.inr h5))))])
    have hd5 : decide (2147483647 < g) = true := decide_eq_true h5
    go_enter Try.func84, Try.ntmps84
    go_wp2_with fail
    rw [HW1.out]
    have x0 := HBX.out.cell (j := 0) rfl
    have x1 := HBX.out.cell (j := 1) rfl
    have x2 := HBX.out.cell (j := 2) rfl
    go_quiet ((go_at_call 56; exact Calls.quiet_of_same (sizeR_drewN H1.out _)))
    go_wp2
    go_ret
    exact ⟨by rw [HC.out]; rfl, below_drewN HB.out _⟩
  have hd5 : decide (2147483647 < g) = false := decide_eq_false h5
  have HC : Hid (checkOf d f t g = 0) := hid (by unfold checkOf; rw [if_neg (by rintro (h | h | h | h | h) <;> contradiction)])
  go_enter Try.func84, Try.ntmps84
  go_wp2_with fail
  rw [HW1.out]
  have x0 := HBX.out.cell (j := 0) rfl
  have x1 := HBX.out.cell (j := 1) rfl
  have x2 := HBX.out.cell (j := 2) rfl
  go_quiet ((go_at_call 56; exact Calls.quiet_of_same (sizeR_drewN H1.out _)))
  go_wp2
  go_ret
  exact ⟨by rw [HC.out]; rfl, below_drewN HB.out _⟩
set_option maxRecDepth 100000 in
set_option maxHeartbeats 2000000 in
theorem rblank_any {a : Nat} {F : Nat → Prop} {d : Dev} (f t g : Int) (w : World) (h : RD w a F d) (hF : ∀ k, F k → k < w.heap.size) (hlo : d.loose.length ≤ 1073000000) :
    Calls Try.prog 75 #[ptr a, .agg #[.int .i64 f, .int .i64 t, .int .i64 g]] w fun e w' => e = .returned (.int .i64 (blankOf d f t g).1) ∧ RD w' a (grow F w w') (blankOf d f t g).2 ∧ Keep F w w' := by
  have HLEN := hid h.1.len
  obtain ⟨w1, hw1⟩ : ∃ w1, w.alloc (.cells #[.int .i64 f, .int .i64 t, .int .i64 g] 76) = w1 := ⟨_, rfl⟩
  have HW1 := hid hw1
  have HBX : Hid (Blk w1 w.heap.size 76 [.int .i64 f, .int .i64 t, .int .i64 g]) := hid (by rw [← hw1]; exact alloc_new w _)
  have HB1 : Hid (Below w.heap.size w w1) := hid (by rw [← hw1]; exact fresh_alloc w _)
  have H1 := hid (h.below HB1.out)
  have HF := hid hF
  clear hw1 h hF
  unfold ptr
  by_cases hc : checkOf d f t g ≠ 0
  · have HE : Hid (blankOf d f t g = (checkOf d f t g, d)) := hid (by unfold blankOf; rw [if_pos hc])
    have h3 : checkOf d f t g = 3 := (check_code d f t g).resolve_left hc
    have H3 := hid h3
    clear h3 hc
    go_enter Try.func75, Try.ntmps75
    go_wp2_with fail
    rw [HW1.out]
    have x0 := HBX.out.cell (j := 0) rfl
    have x1 := HBX.out.cell (j := 1) rfl
    have x2 := HBX.out.cell (j := 2) rfl
    go_wp2_with fail
    refine (rcheck_any f t g w1 H1.out).mono ?_
    rintro e w2 ⟨rfl, hb2⟩
    rw [H3.out]
    have HB2 := hid hb2
    have HBX2 := hid (HBX.out.below hb2 HBX.out.lt)
    clear hb2 x0 x1 x2
    have x0 := HBX2.out.cell (j := 0) rfl
    go_wp2_with fail
    go_loopw [5, 6] (fun e i wr => e = .int .i64 3 ∧ i = .int .i64 f ∧ wr = w2) (fun _ _ _ => 0)
    case atStart => exact ⟨rfl, rfl, rfl⟩
    case round =>
      obtain ⟨rfl, rfl, hwr⟩ := hrel
      subst wr
      have x1 := HBX2.out.cell (j := 1) rfl
      clear x0
      by_cases hft : f < t
      · go_wp2
        go_ret
        exact ⟨by rw [HE.out]; show _ = Ending.returned (.int .i64 (checkOf d f t g)); rw [H3.out]; rfl, by rw [HE.out]; exact (H1.out.below HB2.out).mono fun _ => .inl, (Keep.ofBelow HB1.out).trans (Keep.ofBelow HB2.out)⟩
      · go_wp2
        go_ret
        exact ⟨by rw [HE.out]; show _ = Ending.returned (.int .i64 (checkOf d f t g)); rw [H3.out]; rfl, by rw [HE.out]; exact (H1.out.below HB2.out).mono fun _ => .inl, (Keep.ofBelow HB1.out).trans (Keep.ofBelow HB2.out)⟩
  obtain ⟨h1, h2, h3, h4, h5⟩ := check_ok hc
  have H0 : Hid (checkOf d f t g = 0) := hid (by simpa using hc)
  have HCN := hid hc
  clear hc
  obtain ⟨n, rfl⟩ : ∃ n : Nat, f = (n : Int) := ⟨f.toNat, by omega⟩
  obtain ⟨m, rfl⟩ : ∃ m : Nat, t = (n : Int) + (m : Int) := ⟨(t - n).toNat, by omega⟩
  have hnm : n + m ≤ 65536 := by have := HLEN.out; omega
  have HE : Hid (blankOf d n (n + m) g = if (blankLoop d n m).1 ≠ 0 then blankLoop d n m else (blankLoop d n m).2.flush) := hid (by
    unfold blankOf; rw [if_neg HCN.out, Int.toNat_natCast, show ((n : Int) + (m : Int) - (n : Int)).toNat = m by omega])
  clear h1 h2 h3
  go_enter Try.func75, Try.ntmps75
  go_wp2_with fail
  rw [HW1.out]
  have x0 := HBX.out.cell (j := 0) rfl
  have x1 := HBX.out.cell (j := 1) rfl
  have x2 := HBX.out.cell (j := 2) rfl
  go_wp2_with fail
  refine (rcheck_any n (n + m) g w1 H1.out).mono ?_
  rintro e w2 ⟨rfl, hb2⟩
  rw [H0.out]
  have H2 := hid (H1.out.below hb2)
  have HB2 := hid hb2
  have HBX2 := hid (HBX.out.below hb2 HBX.out.lt)
  have HSZ := hid HBX2.out.lt
  clear hb2 x0 x1 x2
  have cb0 := HBX2.out.cell (j := 0) rfl
  go_wp2_with fail
  clear cb0
  go_loopw [5, 6] (fun e i wr => ∃ (k : Nat) (c : Int) (d' : Dev) (G : Nat → Prop), k ≤ m ∧ e = .int .i64 c ∧ i = .int .i64 ((n + k : Nat) : Int) ∧ (blankLoop d n m = if c ≠ 0 then (c, d') else blankLoop d' (n + k) (m - k)) ∧ TurnR F w2 wr a d' G ∧ d'.loose.length ≤ d.loose.length + k) (fun _ i _ => n + m - (intOf i).toNat)
  case atStart => exact ⟨0, 0, d, F, Nat.zero_le _, rfl, rfl, rfl, TurnR.start H2.out, Nat.le_refl _⟩
  case round =>
    obtain ⟨k, c, d', G, hk, rfl, rfl, hl, ht, hlo'⟩ := hrel
    have HL := hid hl; have HT := hid ht
    have HBXr := hid (HBX2.out.keep ht.k (fun hh => by have := HF.out _ hh; omega))
    have cb1 := HBXr.out.cell (j := 1) rfl
    have HGL := hid (ht.lt (fun j hj => Nat.lt_trans (HF.out j hj) HSZ.out))
    clear hl ht
    by_cases hlt : k < m
    · have hlt2 : ((n + k : Nat) : Int) < (n : Int) + (m : Int) := by omega
      have hlt3 : ((n : Int) + (k : Int)) < (n : Int) + (m : Int) := by omega
      by_cases hc : c = 0
      · subst hc
        obtain ⟨q, hq⟩ : ∃ q, m - k = q + 1 := ⟨m - k - 1, by omega⟩
        have HL1 : Hid (blankLoop d n m = if (d'.write ((n + k : Nat) : Int) (zr 64)).1 ≠ 0 then d'.write ((n + k : Nat) : Int) (zr 64) else blankLoop (d'.write ((n + k : Nat) : Int) (zr 64)).2 (n + (k + 1)) (m - (k + 1))) := hid (by
          rw [HL.out, if_neg (by simp), hq, blankLoop, show m - (k + 1) = q by omega]; rfl)
        clear hq
        have hlo2 := (write_loose d' ((n + k : Nat) : Int) (zr 64)).1
        go_wp2_with (refine wpl_makeZ rfl (.const (.int .i64 64)) (.const (.int .i64 64)) rfl 64 rfl rfl (by omega) ?_; intro w3 hb3 hm3; have HB3 := hid hb3; have HM3 := hid hm3; clear hb3 hm3)
        refine (writeR_any ((n + k : Nat) : Int) (some ⟨wr.heap.size, 0, none⟩) 64 64 (zr 64) rfl w3 (.inr (.inr ⟨_, 0, rfl, HM3.out.range fun j v hv => by rw [Nat.zero_add]; exact hv⟩)) (fun x hx hh => by cases hx; have := HGL.out _ hh; simp at this) (by omega) (HT.out.below HB3.out).p).mono ?_
        rintro e w4 ⟨rfl, h4, hk4⟩
        obtain ⟨r, hr⟩ : ∃ r, d'.write ((n + k : Nat) : Int) (zr 64) = r := ⟨_, rfl⟩
        rw [hr] at h4 hlo2 HL1 ⊢
        have HT4 := hid ((HT.out.below HB3.out).step h4 hk4)
        clear hr h4 hk4
        have HL2 : Hid (blankLoop d n m = if r.1 ≠ 0 then (r.1, r.2) else blankLoop r.2 (n + (k + 1)) (m - (k + 1))) := hid (by rw [HL1.out])
        go_wp2
        go_roundw
        case rel => exact ⟨k + 1, r.1, r.2, _, by omega, rfl, by go_num, HL2.out, HT4.out, by omega⟩
        case measure => simp [intOf]; omega
      · have hz : (c == 0) = false := by simpa using hc
        have hz2 : (c != 0) = true := by simpa using hc
        have HR : Hid (blankLoop d n m = (c, d')) := hid (by rw [HL.out, if_pos hc])
        have HRE : Hid (blankOf d n (n + m) g = (c, d')) := hid (by rw [HE.out, HR.out, if_pos hc])
        clear hc
        go_wp2
        go_ret
        have hst := (HT.out.rebase (th HB1.out HB2.out)).stop
        exact ⟨by rw [HRE.out]; rfl, by rw [HRE.out]; exact hst.1, hst.2⟩
    · obtain rfl : k = m := by omega
      have hge2 : ¬ ((n + k : Nat) : Int) < (n : Int) + (k : Int) := by omega
      by_cases hc : c = 0
      · subst hc
        have HR : Hid (blankLoop d n k = (0, d')) := hid (by rw [HL.out, if_neg (by simp), Nat.sub_self, blankLoop])
        have HRE : Hid (blankOf d n (n + k) g = d'.flush) := hid (by rw [HE.out, HR.out]; simp)
        go_wp2_with fail
        refine (flushR_any wr (by omega) HT.out.p).mono ?_
        rintro e w4 ⟨rfl, h4, hk4⟩
        have HT4 := hid (HT.out.step (h4.mono fun _ => .inl) hk4)
        clear h4 hk4
        go_wp2
        go_ret
        have hst := (HT4.out.rebase (th HB1.out HB2.out)).stop
        exact ⟨by rw [HRE.out]; rfl, by rw [HRE.out]; exact hst.1, hst.2⟩
      · have hz : (c == 0) = false := by simpa using hc
        have hz2 : (c != 0) = true := by simpa using hc
        have HR : Hid (blankLoop d n k = (c, d')) := hid (by rw [HL.out, if_pos hc])
        have HRE : Hid (blankOf d n (n + k) g = (c, d')) := hid (by rw [HE.out, HR.out, if_pos hc])
        clear hc
        go_wp2
        go_ret
        have hst := (HT.out.rebase (th HB1.out HB2.out)).stop
        exact ⟨by rw [HRE.out]; rfl, by rw [HRE.out]; exact hst.1, hst.2⟩
end Go.Proofs.Ytlondopgibcikaa
namespace Go.Proofs.Ytlondopgibcikaa
open Go.RowKit Ent

theorem sb_cut {w : World} {ro : Option Addr} {rn rc : Nat} {l : List UInt8} (hrn : rn = l.length) (hrc : rn ≤ rc) (hs : SB w ro rc l) (lo hi : Nat) (h1 : lo ≤ hi) (h2 : hi ≤ rn) :
    SB w (if rc = lo then ro else ro.map (·.add (lo * 1))) (rc - lo) ((l.drop lo).take (hi - lo)) := by
  rcases hs with ⟨rfl, rfl, rfl⟩ | ⟨a, rfl, rfl⟩ | ⟨b, o, rfl, hr⟩
  · exact .inl ⟨by simp, by omega, by simp⟩
  · refine .inr (.inl ?_)
    split
    · exact ⟨_, rfl, by simp⟩
    · exact ⟨_, rfl, by simp⟩
  · by_cases hc : rc = lo
    · rw [if_pos hc]
      exact .inr (.inl ⟨_, rfl, by rw [show hi - lo = 0 by omega, List.take_zero]⟩)
    · rw [if_neg hc]
      refine .inr (.inr ⟨b, o + lo, by rw [Option.map_some, Nat.mul_one, Addr.add_mid], fun j v hv => ?_⟩)
      rw [Nat.add_assoc]
      refine hr (lo + j) v ?_
      rw [bv_get] at hv ⊢
      rw [List.getElem?_take] at hv
      split at hv
      · rwa [List.getElem?_drop] at hv
      · cases hv
theorem slice_fact (ro : Option Addr) (rn rc : Nat) (l : List UInt8) (hrn : rn = l.length) (hrc : rn ≤ rc) (lo hi u c : Nat) (ly hz : Int) (ey : ly = (lo : Int)) (ez : hz = (hi : Int)) (h1 : lo ≤ hi) (h2 : hi ≤ rn) (hu : hi - lo = u) (hc : rc - lo = c) :
    ∃ RO, (∀ W, (Instr.sliceAt 22 (.slice ro rn rc) (some (.int .i64 ly)) (some (.int .i64 hz)) none).run Try.prog W = .ok (.slice RO u c) W) ∧ ∀ W, SB W ro rc l → SB W RO c ((l.drop lo).take u) := by
  subst ey; subst ez; subst hu; subst hc
  have ht : Try.prog.underlying 22 = some (.slice (Try.prog.elem 22)) := by simp [Program.elem, Try.underlying22]
  have he : Try.prog.elem 22 = 5 := by simp [Program.elem, Try.underlying22]
  refine ⟨_, fun W => ?_, fun W hs => sb_cut hrn hrc hs lo hi h1 h2⟩
  have hsz : (sizeOf 5).run Try.prog W = .ok 1 W := by kernel_rfl
  have hr := run_slice_lh (P := Try.prog) (w := W) 22 ro rn rc ht .i64 .i64 (lo : Int) (hi : Int) (by omega) (by omega) (by omega)
  rw [he, hsz] at hr
  simp only [Result.andThen, Int.toNat_natCast] at hr
  rw [run_sliceAt_slice (h := ht), hr]
  rfl
theorem own_of_blk {w : World} {g B : Nat} {l : List UInt8} (h : Blk w g 5 (bv l)) (hB : B ≤ g) {n : Nat} (hn : n = l.length) (hm : n ≤ 65536) : w.ownsRow B 5 1 (.slice (some ⟨g, 0, none⟩) n n) n (bv l) := by
  subst hn
  exact ⟨by simp, .inr ⟨g, l.length, (bv l).toArray, rfl, hB, h, Nat.le_refl _, by simp [maxLen]; omega, by simp, by rw [Nat.mul_one]; exact List.take_of_length_le (by simp)⟩⟩
theorem ScanI.sector {B : Nat} {w0 wr w' : World} {vo vr : Value} {out : List (List UInt8)} {rec : List UInt8} {vs : List Value} {Fb : Nat → Prop} (h : ScanI B w0 wr vo vr out rec vs Fb) {g : Nat} {sec : List UInt8} (hl : sec.length = 64) (hb : Blk w' g 5 (bv sec)) (hg : wr.heap.size ≤ g) (hbe : Below wr.heap.size wr w') :
    ScanI B w0 w' vo (.slice (some ⟨g, 0, none⟩) 64 64) out sec vs Fb :=
  { h.below hbe with
    rr := by rw [hl]; exact own_of_blk hb (Nat.le_trans h.bl hg) hl.symm (by omega)
    nr := fun k hk => by
      simp [Value.ownBlock] at hk
      subst hk
      exact ⟨fun hf => by have := (h.fb _ hf).2; omega, fun he => by have := own_lt h.oo _ he; omega⟩ }
theorem recSec_len' (gen at_ : Nat) (rec : List UInt8) (j : Nat) : (recSec gen at_ rec j).length = 64 := logSec_len (List.length_take_le _ _)
/-- a record's sectors -/
def secsOf (gen at_ : Nat) (rec : List UInt8) : List (List UInt8) := (List.range (needOf rec.length)).map (recSec gen at_ rec)
theorem needI_nat {n : Nat} (h : n ≤ 1048576) : needI (n : Int) = (needOf n : Int) := by
  unfold needI
  rw [if_neg (by omega), Int.toNat_natCast]
set_option maxRecDepth 100000 in
set_option maxHeartbeats 2000000 in
theorem rsectors_any (gen index : Nat) (ro : Option Addr) (rn rc : Nat) (rec : List UInt8) (hrn : rn = rec.length) (hrc : rn ≤ rc) (hr : rn ≤ 1048576) (hg : gen < 2147483648) (hi : index ≤ 1073741824) (w : World) (hs : SB w ro rc rec) :
    Calls Try.prog 118 #[.int .i64 gen, .int .i64 index, .slice ro rn rc] w fun e w' => ∃ v, e = .returned v ∧ FreshL w.heap.size w' v (secsOf gen index rec) ∧ Below w.heap.size w w' := by
  have HRN := hid hrn; have HS := hid hs
  obtain ⟨Q, hQ⟩ : ∃ Q, needOf rn = Q := ⟨_, rfl⟩
  have HQ := hid hQ
  have hq1 : 1 ≤ Q := by rw [← hQ]; exact needOf_pos _
  have hq2 : Q ≤ 21400 := by rw [← hQ]; unfold needOf; split <;> omega
  have HQ49 : Hid (∀ k, k < Q → k * 49 ≤ rn) := hid (fun k hk => by rw [← hQ] at hk; unfold needOf at hk; split at hk <;> omega)
  clear hrn hs hQ
  go_enter Try.func118, Try.ntmps118
  go_wp2_with fail
  refine (needR_any rn w).mono ?_
  rintro e w' ⟨rfl, hw'⟩
  subst w'
  rw [needI_nat hr, HQ.out]
  go_wp2_with fail
  go_loopw [8, 9] (fun v8 i wr => ∃ (VO : Value) (k : Nat) (vs : List Value) (Fb : Nat → Prop), VO = v8 ∧ k ≤ Q ∧ i = .int .i64 k ∧ ScanI w.heap.size w wr VO (.slice none 0 0) ((List.range k).map (recSec gen index rec)) [] vs Fb) (fun _ i _ => Q - (intOf i).toNat)
  case atStart => exact ⟨_, 0, [], _, rfl, Nat.zero_le _, rfl, ScanI.start w⟩
  case round =>
    obtain ⟨VO, k, vs, Fb, rfl, hk, rfl, hI⟩ := hrel
    have HI := hid hI
    clear hI
    by_cases hlt : k < Q
    · have hk49 := HQ49.out k hlt
      obtain ⟨hh, hhh⟩ : ∃ h, min rn ((k + 1) * 49) = h := ⟨_, rfl⟩
      have hh1 : k * 49 ≤ hh := by omega
      have hh2 : hh ≤ rn := by omega
      obtain ⟨u, hu⟩ : ∃ u, hh - k * 49 = u := ⟨_, rfl⟩
      obtain ⟨cu, hcu⟩ : ∃ c, rc - k * 49 = c := ⟨_, rfl⟩
      have hh3 : u ≤ 49 := by omega
      have HHH : Hid (min (rn : Int) (((k : Int) + 1) * 49) = (hh : Int)) := hid (by omega)
      have HPART : Hid ((rec.drop (k * 49)).take u = (rec.drop (49 * k)).take 49) := hid (by
        rw [Nat.mul_comm k 49]
        by_cases h9 : u = 49
        · rw [h9]
        · rw [List.take_of_length_le (by simp; rw [← HRN.out]; omega), List.take_of_length_le (by simp; rw [← HRN.out]; omega)])
      have HPL : Hid (u = ((rec.drop (k * 49)).take u).length) := hid (by simp; rw [← HRN.out]; omega)
      have HNK : Hid ((index : Int) + (k : Int) = ((index + k : Nat) : Int)) := hid (by omega)
      obtain ⟨RO, hsl, hsb⟩ := slice_fact ro rn rc rec HRN.out hrc (k * 49) hh u cu ((k : Int) * 49) (min (rn : Int) (((k : Int) + 1) * 49)) (by omega) HHH.out hh1 hh2 hu hcu
      have HSP := hid (hsb wr (HS.out.below HI.out.be))
      clear hhh hu hcu hh1 hh2 hsb
      by_cases q1 : Q = 1
      · have e1 : ((Q : Int) == 1) = true := by simp; omega
        have HKD : Hid (kindOf k (needOf rec.length) = 1) := hid (by rw [← HRN.out, HQ.out]; unfold kindOf; rw [if_pos q1])
        clear q1
        have HSEC : Hid (logSec gen (index + k) 1 ((rec.drop (k * 49)).take u) = recSec gen index rec k) := hid (by
          rw [recSec, HKD.out, HPART.out])
        go_wp2_with fail
        rw [HNK.out]
        refine (rsector_any gen (index + k) 1 RO u cu ((rec.drop (k * 49)).take u) HPL.out (by omega) hg (by omega) (by omega) wr HSP.out).mono ?_
        rintro e w4 ⟨gs, rfl, hm, hgs, hb4⟩
        rw [HSEC.out] at hm
        have HI4 := hid (HI.out.sector (by rw [recSec_len']) hm hgs hb4)
        clear hm hgs hb4
        go_wp2_with (refine wpl_appendR rowL rfl (.tmp 30) (.tmp 47) rfl w.heap.size VO _ vs rfl (HI4.out.below (fresh_alloc w4 _)).oo w4.heap.size rfl [.slice (some ⟨gs, 0, none⟩) 64 64] (alloc_new w4 _) rfl (by intro u hu; simp at hu; subst hu; rfl) (by simp; omega) (HI4.out.below (fresh_alloc w4 _)).bl ?_; intro v7 w7 ho7 hg7 hw7; have HI7 := hid ((HI4.out.below (fresh_alloc w4 (.cells #[.slice (some ⟨gs, 0, none⟩) 64 64] 22))).told ho7 hg7 hw7); clear ho7 hg7 hw7)
        go_roundw
        case rel => exact ⟨v7, k + 1, _, _, rfl, by omega, by go_num, by rw [List.range_succ, List.map_append]; exact HI7.out⟩
        case measure => simp [intOf]; omega
      have e1 : ((Q : Int) == 1) = false := by rw [beq_eq_false_iff_ne]; omega
      by_cases k0 : k = 0
      · have e2 : ((k : Int) == 0) = true := by simp; omega
        have HKD : Hid (kindOf k (needOf rec.length) = 2) := hid (by rw [← HRN.out, HQ.out]; unfold kindOf; rw [if_neg q1, if_pos k0])
        clear k0
        have HSEC : Hid (logSec gen (index + k) 2 ((rec.drop (k * 49)).take u) = recSec gen index rec k) := hid (by
          rw [recSec, HKD.out, HPART.out])
        go_wp2_with fail
        rw [HNK.out]
        refine (rsector_any gen (index + k) 2 RO u cu ((rec.drop (k * 49)).take u) HPL.out (by omega) hg (by omega) (by omega) wr HSP.out).mono ?_
        rintro e w4 ⟨gs, rfl, hm, hgs, hb4⟩
        rw [HSEC.out] at hm
        have HI4 := hid (HI.out.sector (by rw [recSec_len']) hm hgs hb4)
        clear hm hgs hb4
        go_wp2_with (refine wpl_appendR rowL rfl (.tmp 30) (.tmp 47) rfl w.heap.size VO _ vs rfl (HI4.out.below (fresh_alloc w4 _)).oo w4.heap.size rfl [.slice (some ⟨gs, 0, none⟩) 64 64] (alloc_new w4 _) rfl (by intro u hu; simp at hu; subst hu; rfl) (by simp; omega) (HI4.out.below (fresh_alloc w4 _)).bl ?_; intro v7 w7 ho7 hg7 hw7; have HI7 := hid ((HI4.out.below (fresh_alloc w4 (.cells #[.slice (some ⟨gs, 0, none⟩) 64 64] 22))).told ho7 hg7 hw7); clear ho7 hg7 hw7)
        go_roundw
        case rel => exact ⟨v7, k + 1, _, _, rfl, by omega, by go_num, by rw [List.range_succ, List.map_append]; exact HI7.out⟩
        case measure => simp [intOf]; omega
      have e2 : ((k : Int) == 0) = false := by rw [beq_eq_false_iff_ne]; omega
      by_cases kl : k = Q - 1
      · have e3 : ((k : Int) == (Q : Int) - 1) = true := by simp; omega
        have HKD : Hid (kindOf k (needOf rec.length) = 4) := hid (by rw [← HRN.out, HQ.out]; unfold kindOf; rw [if_neg q1, if_neg k0, if_pos kl])
        clear kl
        have HSEC : Hid (logSec gen (index + k) 4 ((rec.drop (k * 49)).take u) = recSec gen index rec k) := hid (by
          rw [recSec, HKD.out, HPART.out])
        go_wp2_with fail
        rw [HNK.out]
        refine (rsector_any gen (index + k) 4 RO u cu ((rec.drop (k * 49)).take u) HPL.out (by omega) hg (by omega) (by omega) wr HSP.out).mono ?_
        rintro e w4 ⟨gs, rfl, hm, hgs, hb4⟩
        rw [HSEC.out] at hm
        have HI4 := hid (HI.out.sector (by rw [recSec_len']) hm hgs hb4)
        clear hm hgs hb4
        go_wp2_with (refine wpl_appendR rowL rfl (.tmp 30) (.tmp 47) rfl w.heap.size VO _ vs rfl (HI4.out.below (fresh_alloc w4 _)).oo w4.heap.size rfl [.slice (some ⟨gs, 0, none⟩) 64 64] (alloc_new w4 _) rfl (by intro u hu; simp at hu; subst hu; rfl) (by simp; omega) (HI4.out.below (fresh_alloc w4 _)).bl ?_; intro v7 w7 ho7 hg7 hw7; have HI7 := hid ((HI4.out.below (fresh_alloc w4 (.cells #[.slice (some ⟨gs, 0, none⟩) 64 64] 22))).told ho7 hg7 hw7); clear ho7 hg7 hw7)
        go_roundw
        case rel => exact ⟨v7, k + 1, _, _, rfl, by omega, by go_num, by rw [List.range_succ, List.map_append]; exact HI7.out⟩
        case measure => simp [intOf]; omega
      have e3 : ((k : Int) == (Q : Int) - 1) = false := by rw [beq_eq_false_iff_ne]; omega
      have HKD : Hid (kindOf k (needOf rec.length) = 3) := hid (by rw [← HRN.out, HQ.out]; unfold kindOf; rw [if_neg q1, if_neg k0, if_neg kl])
      have HSEC : Hid (logSec gen (index + k) 3 ((rec.drop (k * 49)).take u) = recSec gen index rec k) := hid (by
        rw [recSec, HKD.out, HPART.out])
      go_wp2_with fail
      rw [HNK.out]
      refine (rsector_any gen (index + k) 3 RO u cu ((rec.drop (k * 49)).take u) HPL.out (by omega) hg (by omega) (by omega) wr HSP.out).mono ?_
      rintro e w4 ⟨gs, rfl, hm, hgs, hb4⟩
      rw [HSEC.out] at hm
      have HI4 := hid (HI.out.sector (by rw [recSec_len']) hm hgs hb4)
      clear hm hgs hb4
      go_wp2_with (refine wpl_appendR rowL rfl (.tmp 30) (.tmp 47) rfl w.heap.size VO _ vs rfl (HI4.out.below (fresh_alloc w4 _)).oo w4.heap.size rfl [.slice (some ⟨gs, 0, none⟩) 64 64] (alloc_new w4 _) rfl (by intro u hu; simp at hu; subst hu; rfl) (by simp; omega) (HI4.out.below (fresh_alloc w4 _)).bl ?_; intro v7 w7 ho7 hg7 hw7; have HI7 := hid ((HI4.out.below (fresh_alloc w4 (.cells #[.slice (some ⟨gs, 0, none⟩) 64 64] 22))).told ho7 hg7 hw7); clear ho7 hg7 hw7)
      go_roundw
      case rel => exact ⟨v7, k + 1, _, _, rfl, by omega, by go_num, by rw [List.range_succ, List.map_append]; exact HI7.out⟩
      case measure => simp [intOf]; omega
    · obtain rfl : k = Q := by omega
      have HE : Hid (secsOf gen index rec = (List.range k).map (recSec gen index rec)) := hid (by rw [secsOf, ← HRN.out, HQ.out])
      go_wp2
      go_ret
      exact ⟨VO, rfl, by rw [HE.out]; exact HI.out.fresh, HI.out.be⟩
end Go.Proofs.Ytlondopgibcikaa
namespace Go.Proofs.Ytlondopgibcikaa
open Go.RowKit Ent

theorem rneed_any (n : Nat) (h : n ≤ 1048576) (w : World) : Calls Try.prog 62 #[.int .i64 n] w fun e w' => e = .returned (.int .i64 (needOf n)) ∧ w' = w := by
  have := needR_any n w
  rw [needI_nat h] at this
  exact this
theorem secsOf_len (gen at_ : Nat) (rec : List UInt8) : (secsOf gen at_ rec).length = needOf rec.length := by simp [secsOf]
theorem secsOf_at (gen at_ : Nat) (rec : List UInt8) {k : Nat} (h : k < needOf rec.length) : (secsOf gen at_ rec)[k]? = some (recSec gen at_ rec k) := by simp [secsOf, h]
set_option maxRecDepth 100000 in
set_option maxHeartbeats 4000000 in
theorem rwrite_any {a : Nat} {F : Nat → Prop} {d : Dev} (f t g at_ : Int) (ao : Option Addr) (rn rc : Nat) (rec : List UInt8) (hrn : rn = rec.length) (hrc : rn ≤ rc) (hrm : rn ≤ 9223372036854775807) (w : World) (hs : SB w ao rc rec) (h : RD w a F d) (hF : ∀ k, F k → k < w.heap.size) (hlo : d.loose.length ≤ 1073000000) (ha1 : -9223372036854775808 ≤ at_ ∧ at_ ≤ 9223372036854775807) :
    Calls Try.prog 76 #[ptr a, .agg #[.int .i64 f, .int .i64 t, .int .i64 g], .int .i64 at_, .slice ao rn rc] w fun e w' => e = .returned (.tuple #[.int .i64 (logWrite d f t g at_ rec).1.1, .int .i64 (logWrite d f t g at_ rec).1.2]) ∧ RD w' a (grow F w w') (logWrite d f t g at_ rec).2 ∧ Keep F w w' := by
  have HLEN := hid h.1.len
  have HRN := hid hrn
  have HSB := hid hs; have HF := hid hF
  obtain ⟨w1, hw1⟩ : ∃ w1, w.alloc (.cells #[.int .i64 f, .int .i64 t, .int .i64 g] 76) = w1 := ⟨_, rfl⟩
  have HW1 := hid hw1
  have HBX : Hid (Blk w1 w.heap.size 76 [.int .i64 f, .int .i64 t, .int .i64 g]) := hid (by rw [← hw1]; exact alloc_new w _)
  have HB1 : Hid (Below w.heap.size w w1) := hid (by rw [← hw1]; exact fresh_alloc w _)
  have H1 := hid (h.below HB1.out)
  clear hw1 h hF hrn hs
  unfold ptr
  by_cases hc : checkOf d f t g ≠ 0
  · have HE : Hid (logWrite d f t g at_ rec = ((0, checkOf d f t g), d)) := hid (by unfold logWrite; rw [if_pos hc])
    have H3 := hid ((check_code d f t g).resolve_left hc)
    clear hc
    go_enter Try.func76, Try.ntmps76
    go_wp2_with fail
    rw [HW1.out]
    have x0 := HBX.out.cell (j := 0) rfl
    have x1 := HBX.out.cell (j := 1) rfl
    have x2 := HBX.out.cell (j := 2) rfl
    go_wp2_with fail
    refine (rcheck_any f t g w1 H1.out).mono ?_
    rintro e w2 ⟨rfl, hb2⟩
    rw [H3.out]
    clear x0 x1 x2
    have cb0 := (HBX.out.below hb2 HBX.out.lt).cell (j := 0) rfl
    have cb1 := (HBX.out.below hb2 HBX.out.lt).cell (j := 1) rfl
    have HB2 := hid hb2
    clear hb2
    clear cb0 cb1
    go_wp2
    go_ret2
    exact ⟨by rw [HE.out]; show _ = Ending.returned (.tuple #[.int .i64 0, .int .i64 (checkOf d f t g)]); rw [H3.out]; rfl, by rw [HE.out]; exact (H1.out.below HB2.out).mono fun _ => .inl, (Keep.ofBelow HB1.out).trans (Keep.ofBelow HB2.out)⟩
  obtain ⟨h1, h2, h3, h4, h5⟩ := check_ok hc
  have H0 : Hid (checkOf d f t g = 0) := hid (by simpa using hc)
  have HCN := hid hc
  clear hc
  obtain ⟨n, rfl⟩ : ∃ n : Nat, f = (n : Int) := ⟨f.toNat, by omega⟩
  obtain ⟨m, rfl⟩ : ∃ m : Nat, t = (n : Int) + (m : Int) := ⟨(t - n).toNat, by omega⟩
  obtain ⟨gm, rfl⟩ : ∃ gm : Nat, g = (gm : Int) := ⟨g.toNat, by omega⟩
  have hnm : n + m ≤ 65536 := by have := HLEN.out; omega
  have hsub : ((n : Int) + (m : Int) - (n : Int)) = (m : Int) := by omega
  have HSUB := hid hsub
  clear h1 h2 h3
  by_cases ha : at_ < 0 ∨ (m : Int) < at_
  · have HE : Hid (logWrite d n (n + m) gm at_ rec = ((0, 3), d)) := hid (by unfold logWrite; rw [if_neg HCN.out, if_pos (by rw [HSUB.out]; exact ha)])
    by_cases ha0 : at_ < 0
    all_goals
      (try have ha2 : (m : Int) < at_ := by omega)
      clear ha
      go_enter Try.func76, Try.ntmps76
      go_wp2_with fail
      rw [HW1.out]
      have x0 := HBX.out.cell (j := 0) rfl
      have x1 := HBX.out.cell (j := 1) rfl
      have x2 := HBX.out.cell (j := 2) rfl
      go_wp2_with fail
      refine (rcheck_any n (n + m) gm w1 H1.out).mono ?_
      rintro e w2 ⟨rfl, hb2⟩
      rw [H0.out]
      clear x0 x1 x2
      have cb0 := (HBX.out.below hb2 HBX.out.lt).cell (j := 0) rfl
      have cb1 := (HBX.out.below hb2 HBX.out.lt).cell (j := 1) rfl
      have HB2 := hid hb2
      clear hb2
      go_wp2
      go_ret2
      exact ⟨by rw [HE.out]; rfl, by rw [HE.out]; exact (H1.out.below HB2.out).mono fun _ => .inl, (Keep.ofBelow HB1.out).trans (Keep.ofBelow HB2.out)⟩
  obtain ⟨A, rfl⟩ : ∃ A : Nat, at_ = (A : Int) := ⟨at_.toNat, by omega⟩
  have hA : A ≤ m := by omega
  have HAN := hid ha
  clear ha ha1
  by_cases hl : 1048576 < rn
  · have HE : Hid (logWrite d n (n + m) gm A rec = ((0, 4), d)) := hid (by unfold logWrite; rw [if_neg HCN.out, if_neg (by rw [HSUB.out]; exact HAN.out), if_pos (by rw [← HRN.out]; exact hl)])
    go_enter Try.func76, Try.ntmps76
    go_wp2_with fail
    rw [HW1.out]
    have x0 := HBX.out.cell (j := 0) rfl
    have x1 := HBX.out.cell (j := 1) rfl
    have x2 := HBX.out.cell (j := 2) rfl
    go_wp2_with fail
    refine (rcheck_any n (n + m) gm w1 H1.out).mono ?_
    rintro e w2 ⟨rfl, hb2⟩
    rw [H0.out]
    clear x0 x1 x2
    have cb0 := (HBX.out.below hb2 HBX.out.lt).cell (j := 0) rfl
    have cb1 := (HBX.out.below hb2 HBX.out.lt).cell (j := 1) rfl
    have HB2 := hid hb2
    clear hb2
    go_wp2
    go_ret2
    exact ⟨by rw [HE.out]; rfl, by rw [HE.out]; exact (H1.out.below HB2.out).mono fun _ => .inl, (Keep.ofBelow HB1.out).trans (Keep.ofBelow HB2.out)⟩
  have hrn2 : rn ≤ 1048576 := by omega
  clear hl
  obtain ⟨Q, hQ⟩ : ∃ Q, Q = needOf rn := ⟨_, rfl⟩
  have hQ1 : 1 ≤ Q := by rw [hQ]; exact needOf_pos rn
  have HQ := hid hQ
  clear hQ
  by_cases hfull : m < A + Q
  · have HE : Hid (logWrite d n (n + m) gm A rec = ((0, 10), d)) := hid (by unfold logWrite; rw [if_neg HCN.out, if_neg (by rw [HSUB.out]; exact HAN.out), if_neg (by rw [← HRN.out]; omega), if_pos (by rw [HSUB.out, ← HRN.out, ← HQ.out]; omega)])
    have hdec : decide ((m : Int) - (A : Int) < ((needOf rn : Nat) : Int)) = true := decide_eq_true (by rw [← HQ.out]; omega)
    go_enter Try.func76, Try.ntmps76
    go_wp2_with fail
    rw [HW1.out]
    have x0 := HBX.out.cell (j := 0) rfl
    have x1 := HBX.out.cell (j := 1) rfl
    have x2 := HBX.out.cell (j := 2) rfl
    go_wp2_with fail
    refine (rcheck_any n (n + m) gm w1 H1.out).mono ?_
    rintro e w2 ⟨rfl, hb2⟩
    rw [H0.out]
    clear x0 x1 x2
    have cb0 := (HBX.out.below hb2 HBX.out.lt).cell (j := 0) rfl
    have cb1 := (HBX.out.below hb2 HBX.out.lt).cell (j := 1) rfl
    have HB2 := hid hb2
    clear hb2
    have hwr1 : IntKind.i64.wrap ((n : Int) + (m : Int) - (n : Int)) = (m : Int) := by rw [IntWalk.i64_in _ (by omega)]; omega
    have hwr2 : IntKind.i64.wrap ((m : Int) - (A : Int)) = (m : Int) - (A : Int) := IntWalk.i64_in _ (by omega)
    go_wp2_with fail
    go_quiet ((go_at_call 62; exact Calls.quiet_of_same (rneed_any rn hrn2 _)))
    go_wp2
    go_ret2
    exact ⟨by rw [HE.out]; rfl, by rw [HE.out]; exact (H1.out.below (below_drewN HB2.out _)).mono fun _ => .inl, (Keep.ofBelow HB1.out).trans (Keep.ofBelow (below_drewN HB2.out _))⟩
  have HE : Hid (logWrite d n (n + m) gm A rec = if (writeLoop gm A n Q 0 (partsOf rec) d).1 ≠ 0 then ((0, (writeLoop gm A n Q 0 (partsOf rec) d).1), (writeLoop gm A n Q 0 (partsOf rec) d).2) else (((A : Int) + (Q : Nat), 0), (writeLoop gm A n Q 0 (partsOf rec) d).2)) := hid (by
    unfold logWrite
    rw [if_neg HCN.out, if_neg (by rw [HSUB.out]; exact HAN.out), if_neg (by rw [← HRN.out]; omega), if_neg (by rw [HSUB.out, ← HRN.out, ← HQ.out]; omega), ← HRN.out, ← HQ.out]
    simp only [Int.toNat_natCast])
  have hdec : decide ((m : Int) - (A : Int) < ((needOf rn : Nat) : Int)) = false := decide_eq_false (by rw [← HQ.out]; omega)
  go_enter Try.func76, Try.ntmps76
  go_wp2_with fail
  rw [HW1.out]
  have x0 := HBX.out.cell (j := 0) rfl
  have x1 := HBX.out.cell (j := 1) rfl
  have x2 := HBX.out.cell (j := 2) rfl
  go_wp2_with fail
  refine (rcheck_any n (n + m) gm w1 H1.out).mono ?_
  rintro e w2 ⟨rfl, hb2⟩
  rw [H0.out]
  clear x0 x1 x2
  have cb0 := (HBX.out.below hb2 HBX.out.lt).cell (j := 0) rfl
  have cb1 := (HBX.out.below hb2 HBX.out.lt).cell (j := 1) rfl
  have HB2 := hid hb2
  clear hb2
  have hwr1 : IntKind.i64.wrap ((n : Int) + (m : Int) - (n : Int)) = (m : Int) := by rw [IntWalk.i64_in _ (by omega)]; omega
  have hwr2 : IntKind.i64.wrap ((m : Int) - (A : Int)) = (m : Int) - (A : Int) := IntWalk.i64_in _ (by omega)
  go_wp2_with fail
  go_quiet ((go_at_call 62; exact Calls.quiet_of_same (rneed_any rn hrn2 _)))
  clear cb0 cb1 hwr1 hwr2 hdec
  have HBXd := hid ((HBX.out.below HB2.out HBX.out.lt).below (below_drewN (Below.refl _ _) nq) (by exact (HBX.out.below HB2.out HBX.out.lt).lt))
  have cb2 := HBXd.out.cell (j := 2) rfl
  go_wp2_with fail
  clear cb2
  have HB2' : Hid (Below w.heap.size w (w2.drewN nq)) := hid (below_drewN (th HB1.out HB2.out) _)
  refine (rsectors_any gm A ao rn rc rec HRN.out hrc hrn2 (by omega) (by omega) (w2.drewN nq) (HSB.out.below HB2'.out)).mono ?_
  rintro e w3 ⟨v, rfl, ⟨vs, Fb, ho, hrw, hFb, hno⟩, hb3⟩
  rw [secsOf_len, ← HRN.out, ← HQ.out] at ho
  obtain ⟨vo, vc, rfl⟩ := own_slice ho
  obtain ⟨gl, rfl, -, hgl0, -, hcl, -⟩ := own_cell ho (by omega)
  have HCL := hid hcl
  have HRW := hid hrw
  have HFB := hid hFb
  have HB13 : Hid (Below w.heap.size w w3) := hid (th HB2'.out hb3)
  have HBX3 := hid (HBXd.out.below hb3 HBXd.out.lt)
  have H3 := hid ((((H1.out.below HB2.out).below (below_drewN (Below.refl _ _) nq))).below hb3)
  have HGLB : Hid (w.heap.size ≤ gl) := hid (Nat.le_trans HB2'.out.size hgl0)
  have HSZ2 : Hid (w.heap.size ≤ (w2.drewN nq).heap.size) := hid HB2'.out.size
  have HBF : Hid (¬ F w.heap.size) := hid (fun hh => by have := HF.out _ hh; omega)
  clear ho hcl hrw hFb hno hb3 hgl0
  go_wp2_with fail
  go_loopw [12] (fun i wr => ∃ (k : Nat) (d' : Dev) (G : Nat → Prop), k ≤ Q ∧ i = .int .i64 k ∧ writeLoop gm A n Q 0 (partsOf rec) d = writeLoop gm A n Q k ((partsOf rec).drop k) d' ∧ TurnR F w3 wr a d' G ∧ d'.loose.length ≤ d.loose.length + k) (fun i _ => Q - (intOf i).toNat)
  case atStart => exact ⟨0, d, F, Nat.zero_le _, rfl, rfl, TurnR.start H3.out, Nat.le_refl _⟩
  case round =>
    obtain ⟨k, d', G, hk, rfl, hl, ht, hlo'⟩ := hrel
    have HL := hid hl; have HT := hid ht
    have HWR := hid ht.k.size
    clear hl ht
    by_cases hlt : k < Q
    · obtain ⟨part, hpart⟩ : ∃ p, (partsOf rec)[k]? = some p := ⟨_, List.getElem?_eq_getElem (by rw [partsOf_len, ← HRN.out, ← HQ.out]; exact hlt)⟩
      have HDROP : Hid ((partsOf rec).drop k = part :: (partsOf rec).drop (k + 1)) := hid (by
        rw [List.drop_eq_getElem_cons (by rw [partsOf_len, ← HRN.out, ← HQ.out]; exact hlt)]
        congr 1
        exact (List.getElem?_eq_some_iff.1 hpart).2)
      have hpe : part = (rec.drop (49 * k)).take 49 := by
        rw [partsOf_at rec (by rw [← HRN.out, ← HQ.out]; exact hlt)] at hpart
        injection hpart with h; exact h.symm
      obtain ⟨sec, hsec⟩ : ∃ sec, recSec gm A rec k = sec := ⟨_, rfl⟩
      have HSEC : Hid (logSec gm (A + k) (kindOf k Q) part = sec) := hid (by rw [← hsec, recSec, hpe, HQ.out, HRN.out])
      have HSL : Hid (sec.length = 64) := hid (by rw [← hsec]; exact recSec_len' _ _ _ _)
      have hat := secsOf_at gm A rec (k := k) (by rw [← HRN.out, ← HQ.out]; exact hlt)
      rw [hsec] at hat
      obtain ⟨pv, hpv⟩ : ∃ v, vs[k]? = some v := ⟨_, List.getElem?_eq_getElem (by rw [HRW.out.1, secsOf_len, ← HRN.out, ← HQ.out]; exact hlt)⟩
      obtain ⟨lo, cap, rfl, hcap, hsb, -, hlf⟩ := HRW.out.2 k pv sec hpv hat
      rw [HSL.out] at hpv
      have HSB3 : Hid (SB wr lo cap sec) := hid (hsb.keep HT.out.k (fun x hx hh => by
        have h1 := (HFB.out _ (hlf x hx)).1
        have h2 := HF.out _ hh
        have h3 := HSZ2.out
        omega))
      have HNG : Hid (∀ x, lo = some x → ¬ G x.block) := hid (fun x hx hh => by
        have h1 := HFB.out _ (hlf x hx)
        have h3 := HSZ2.out
        rcases HT.out.g _ hh with h4 | h4
        · have h2 := HF.out _ h4
          omega
        · omega)
      have HCW : Hid (∀ w', Keep F w3 w' → w'.cell? ⟨gl, k, none⟩ = some (.slice lo 64 cap)) := hid (fun w' hk' => by
        have h3 := HCL.out k _ hpv
        rw [hk'.cell (World.block_lt_of_cell? w3 _ h3) (fun hh => by
          have h1 := HGLB.out
          have := HF.out _ hh; simp at this; omega)]
        exact h3)
      obtain ⟨na, hna⟩ : ∃ na, na = n + A := ⟨_, rfl⟩
      obtain ⟨nak, hnak⟩ : ∃ nak, nak = n + A + k := ⟨_, rfl⟩
      have hw2 : IntKind.i64.wrap ((n : Int) + (A : Int)) = (na : Int) := by rw [IntWalk.i64_in _ (by omega)]; omega
      have hw3 : IntKind.i64.wrap ((na : Int) + (k : Int)) = (nak : Int) := by rw [IntWalk.i64_in _ (by omega)]; omega
      have HNAK := hid hnak
      clear hpart hpe hsec hat hpv hcap hsb hlf hna hnak
      go_wp2_with fail
      refine wp_region_held_drew (S := fun w' => w'.cell? ⟨w.heap.size, 0, none⟩ = some (.int .i64 (n : Int)) ∧ w'.cell? ⟨gl, k, none⟩ = some (.slice lo 64 cap)) (by kernel_rfl) ⟨(HBX3.out.keep HT.out.k HBF.out).drew.cell (j := 0) rfl, HCW.out _ (HT.out.below (Below.refl _ _).drew).k⟩ (fun hS => ?_)
      refine wpAnyH_take (i := 0) (v := ?v0x1q) (by simp only [List.getElem?_toArray, List.getElem?_cons_zero]; exact rfl) (by kernel_rfl) (by kernel_rfl) (by kernel_rfl) (by exact fun _ _ _ h => h) (Or.inl ⟨by rfl, ?y0x1q⟩) hS ?r0x1q
      case y0x1q => (intro w' hSw; (try dsimp only at hSw); go_simp; (try with_reducible rfl))
      simp only [Act.put, List.setIfInBounds_toArray, List.set_cons_zero, List.set_cons_succ]
      refine wpAnyH_take (i := 1) (v := ?v1x2q) (by simp only [List.getElem?_toArray, List.getElem?_cons_zero, List.getElem?_cons_succ]; exact rfl) (by kernel_rfl) (by kernel_rfl) (by kernel_rfl) (by exact fun _ _ _ h => h) (Or.inl ⟨by rfl, ?y1x2q⟩) hS ?r1x2q
      case y1x2q => (intro w' hSw; (try dsimp only at hSw); go_simp; (try with_reducible rfl))
      simp only [Act.put, List.setIfInBounds_toArray, List.set_cons_zero, List.set_cons_succ]
      refine wpAnyH_take (i := 2) (v := ?v2x3q) (by simp only [List.getElem?_toArray, List.getElem?_cons_zero, List.getElem?_cons_succ]; exact rfl) (by kernel_rfl) (by kernel_rfl) (by kernel_rfl) (by exact fun _ _ _ h => h) (Or.inl ⟨by rfl, ?y2x3q⟩) hS ?r2x3q
      case y2x3q => (intro w' hSw; (try dsimp only at hSw); go_simp; (try with_reducible rfl))
      simp only [Act.put, List.setIfInBounds_toArray, List.set_cons_zero, List.set_cons_succ]
      refine wpAnyH_take (i := 3) (v := ?v3x4q) (by simp only [List.getElem?_toArray, List.getElem?_cons_zero, List.getElem?_cons_succ]; exact rfl) (by kernel_rfl) (by kernel_rfl) (by kernel_rfl) (by exact fun _ _ _ h => h) (Or.inl ⟨by rfl, ?y3x4q⟩) hS ?r3x4q
      case y3x4q => (intro w' hSw; (try dsimp only at hSw); go_simp; (try with_reducible rfl))
      simp only [Act.put, List.setIfInBounds_toArray, List.set_cons_zero, List.set_cons_succ]
      refine wpAnyH_take (i := 4) (v := ?v4x5q) (by simp only [List.getElem?_toArray, List.getElem?_cons_zero, List.getElem?_cons_succ]; exact rfl) (by kernel_rfl) (by kernel_rfl) (by kernel_rfl) (by exact fun _ _ _ h => h) (Or.inl ⟨by rfl, ?y4x5q⟩) hS ?r4x5q
      case y4x5q => (intro w' hSw; (try dsimp only at hSw); go_simp; (try with_reducible rfl))
      simp only [Act.put, List.setIfInBounds_toArray, List.set_cons_zero, List.set_cons_succ]
      refine wpAnyH_take (i := 5) (v := ?v5x6q) (by simp only [List.getElem?_toArray, List.getElem?_cons_zero, List.getElem?_cons_succ]; exact rfl) (by kernel_rfl) (by kernel_rfl) (by kernel_rfl) (by exact fun _ _ _ h => h) (Or.inl ⟨by rfl, ?y5x6q⟩) hS ?r5x6q
      case y5x6q => (intro w' hSw; (try dsimp only at hSw); go_simp; (try with_reducible rfl))
      simp only [Act.put, List.setIfInBounds_toArray, List.set_cons_zero, List.set_cons_succ]
      refine wpAnyH_take (i := 6) (v := ?v6x7q) (by simp only [List.getElem?_toArray, List.getElem?_cons_zero, List.getElem?_cons_succ]; exact rfl) (by kernel_rfl) (by kernel_rfl) (by kernel_rfl) (by exact fun _ _ _ h => h) (Or.inl ⟨by rfl, ?y6x7q⟩) hS ?r6x7q
      case y6x7q => (intro w' hSw; (try dsimp only at hSw); go_simp; (try with_reducible rfl))
      simp only [Act.put, List.setIfInBounds_toArray, List.set_cons_zero, List.set_cons_succ]
      refine wpAnyH_take (i := 7) (v := ?v7x8q) (by simp only [List.getElem?_toArray, List.getElem?_cons_zero, List.getElem?_cons_succ]; exact rfl) (by kernel_rfl) (by kernel_rfl) (by kernel_rfl) (by exact fun _ _ _ h => h) (Or.inl ⟨by rfl, ?y7x8q⟩) hS ?r7x8q
      case y7x8q => (intro w' hSw; (try dsimp only at hSw); go_simp; (try with_reducible rfl))
      simp only [Act.put, List.setIfInBounds_toArray, List.set_cons_zero, List.set_cons_succ]
      refine wpAnyH_take (i := 8) (v := ?v8x9q) (by simp only [List.getElem?_toArray, List.getElem?_cons_zero, List.getElem?_cons_succ]; exact rfl) (by kernel_rfl) (by kernel_rfl) (by kernel_rfl) (by exact fun _ _ _ h => h) (Or.inl ⟨by rfl, ?y8x9q⟩) hS ?r8x9q
      case y8x9q => (intro w' hSw; (try dsimp only at hSw); go_simp; (try with_reducible rfl))
      simp only [Act.put, List.setIfInBounds_toArray, List.set_cons_zero, List.set_cons_succ]
      refine wpAnyH_take (i := 9) (v := ?v9x10q) (by simp only [List.getElem?_toArray, List.getElem?_cons_zero, List.getElem?_cons_succ]; exact rfl) (by kernel_rfl) (by kernel_rfl) (by kernel_rfl) (by exact fun _ _ _ h => h) (Or.inl ⟨by rfl, ?y9x10q⟩) hS ?r9x10q
      case y9x10q => (intro w' hSw; (try dsimp only at hSw); go_simp; (try with_reducible rfl))
      simp only [Act.put, List.setIfInBounds_toArray, List.set_cons_zero, List.set_cons_succ]
      refine wpAnyH_take (i := 10) (v := ?v10x11q) (by simp only [List.getElem?_toArray, List.getElem?_cons_zero, List.getElem?_cons_succ]; exact rfl) (by kernel_rfl) (by kernel_rfl) (by kernel_rfl) (by exact fun _ _ _ h => h) (Or.inl ⟨by rfl, ?y10x11q⟩) hS ?r10x11q
      case y10x11q => (intro w' hSw; (try dsimp only at hSw); go_simp; (try with_reducible rfl))
      simp only [Act.put, List.setIfInBounds_toArray, List.set_cons_zero, List.set_cons_succ]
      refine wpAnyH_ready (rs := [11]) (by kernel_rfl) (by simp) ?_
      refine AllReadyH.cons (by simp only [List.getElem?_toArray, List.getElem?_cons_zero, List.getElem?_cons_succ]; exact rfl) (fun K hK => ?_) AllReadyH.nil
      go_simp
      refine (writeR_any (F := G) (d := d') (nak : Int) lo 64 cap sec HSL.out.symm wr.drew (HSB3.out.below (Below.refl _ _).drew) (fun x hx hh => HNG.out x hx hh) (by omega) (HT.out.below (Below.refl _ _).drew).p).mono ?_
      rintro e w7 ⟨rfl, h7, hk7⟩
      obtain ⟨r, hr⟩ : ∃ r, d'.write (nak : Int) sec = r := ⟨_, rfl⟩
      rw [hr] at h7
      have HT7 := hid ((HT.out.below (Below.refl _ _).drew).step h7 hk7)
      have HR := hid hr
      clear h7 hk7 hr
      refine hK.out _ _ ?k11x12q (fun hS => ?s11x12q)
      case k11x12q => exact ⟨(HBX3.out.keep HT7.out.k HBF.out).cell (j := 0) rfl, HCW.out _ HT7.out.k⟩
      clear hK K
      try simp only [Act.put, List.setIfInBounds_toArray, List.set_cons_zero, List.set_cons_succ]
      refine wpAnyH_take (i := 12) (v := ?v12x13q) (by simp only [List.getElem?_toArray, List.getElem?_cons_zero, List.getElem?_cons_succ]; exact rfl) (by kernel_rfl) (by kernel_rfl) (by kernel_rfl) (by exact fun _ _ _ h => h) (Or.inl ⟨by rfl, ?y12x13q⟩) hS ?r12x13q
      case y12x13q => (intro w' hSw; (try dsimp only at hSw); go_simp; (try with_reducible rfl))
      simp only [Act.put, List.setIfInBounds_toArray, List.set_cons_zero, List.set_cons_succ]
      refine wpAnyH_done (by kernel_rfl) ?_ _
      clear hS
      rw [HR.out]
      have HL1 : Hid (writeLoop gm A n Q 0 (partsOf rec) d = if r.1 ≠ 0 then r else writeLoop gm A n Q (k + 1) ((partsOf rec).drop (k + 1)) r.2) := hid (by
        rw [HL.out, HDROP.out, writeLoop, ← HNAK.out, HSEC.out, HR.out])
      have hlo2 := (write_loose d' (nak : Int) sec).1
      rw [HR.out] at hlo2
      by_cases hc : r.1 = 0
      · have HL2 : Hid (writeLoop gm A n Q 0 (partsOf rec) d = writeLoop gm A n Q (k + 1) ((partsOf rec).drop (k + 1)) r.2) := hid (by rw [HL1.out, if_neg (by simpa using hc)])
        rw [hc]
        clear hc hw2 hw3
        go_wp2
        go_roundw
        case rel => exact ⟨k + 1, r.2, _, by omega, by go_num, HL2.out, HT7.out, by omega⟩
        case measure => simp [intOf]; omega
      · have HRR : Hid (logWrite d n (n + m) gm A rec = ((0, r.1), r.2)) := hid (by rw [HE.out, HL1.out, if_pos hc, if_pos hc])
        have hz : (r.1 == 0) = false := by simpa using hc
        have hz2 : (r.1 != 0) = true := by simpa using hc
        clear hc hw2 hw3
        go_wp2
        go_ret2
        have hst := (HT7.out.rebase (HB13.out)).stop
        exact ⟨by rw [HRR.out]; rfl, by rw [HRR.out]; exact hst.1, hst.2⟩
    · obtain rfl : k = Q := by omega
      have HL0 : Hid (writeLoop gm A n k 0 (partsOf rec) d = (0, d')) := hid (by
        rw [HL.out, List.drop_of_length_le (by rw [partsOf_len, ← HRN.out, ← HQ.out]; exact Nat.le_refl _), writeLoop])
      have HRR : Hid (logWrite d n (n + m) gm A rec = (((A : Int) + (k : Nat), 0), d')) := hid (by rw [HE.out, HL0.out]; simp)
      go_wp2
      go_ret2
      have hst := (HT.out.rebase (HB13.out)).stop
      exact ⟨by rw [HRR.out]; rfl, by rw [HRR.out]; exact hst.1, hst.2⟩
end Go.Proofs.Ytlondopgibcikaa
namespace Go.Proofs.Ytlondopgibcikaa
open Go.RowKit Ent

theorem lstr_eq (l m : List UInt8) : ((⟨l.toArray⟩ : ByteArray) = ⟨m.toArray⟩) ↔ l = m := by simp
theorem wpo_convS {o : Oper} {a : Act} {w : World} {K : Act → World → Prop} {Q : Exit → Act → World → Prop} (x : Operand) (ho : o.op = .convert 22 9 x)
    (g i n c : Nat) (l : List UInt8) (hx : a.eval x = .slice (some ⟨g, i, none⟩) n c) (hn : n = l.length) (hr : w.rangeAt g i (bv l)) (h : K (a.put o.dst (.string ⟨l.toArray⟩)) w) : o.wp Try.prog a w K Q := by
  subst hn
  have := run_convert_bytes_back (P := Try.prog) w 22 9 5 ⟨g, i, none⟩ c l Try.underlying22 Try.underlying5 Try.underlying9 (fun j hj => by
    rw [Addr.add_mid]; exact hr j _ (by simp [bv, hj]))
  unfold Oper.wp execOp
  simp only [ho, hx, Sem.run_bind, this, Result.andThen_ok]
  exact h
theorem wpo_neqS {o : Oper} {a : Act} {w : World} {K : Act → World → Prop} {Q : Exit → Act → World → Prop} (x y : Operand) (ho : o.op = .binOp .neq 9 x y 9) (l m : List UInt8) (hx : a.eval x = .string ⟨l.toArray⟩) (hy : a.eval y = .string ⟨m.toArray⟩)
    (h : K (a.put o.dst (.bool (!sameB l m))) w) : o.wp Try.prog a w K Q := by
  unfold Oper.wp execOp
  simp only [ho, hx, hy]
  by_cases he : l = m
  · subst he
    have : sameB l l = true := by simp [sameB]
    rw [this] at h
    go_simp
    exact h
  · have : sameB l m = false := by simp [sameB, he]
    rw [this] at h
    have h2 : ¬ (⟨l.toArray⟩ : ByteArray) = ⟨m.toArray⟩ := by simpa using he
    have h3 : (l == m) = false := by rw [beq_eq_false_iff_ne]; exact he
    go_simp
    simpa [he, Act.put] using h
set_option maxRecDepth 100000 in
set_option maxHeartbeats 2000000 in
theorem rright_any (g o cap : Nat) (b : List UInt8) (hb : b.length = 64) (hcap : 64 ≤ cap) (gen index : Nat) (hg : gen < 2147483648) (hi : index < 2147483648) (w : World) (hr : w.rangeAt g o (bv b)) :
    Calls Try.prog 120 #[.slice (some ⟨g, o, none⟩) 64 cap, .int .i64 gen, .int .i64 index] w fun e w' => RightRet b gen index g o cap e ∧ Below w.heap.size w w' := by
  obtain ⟨x12, hx12⟩ : ∃ x, b[12]? = some x := ⟨_, List.getElem?_eq_getElem (by omega)⟩
  obtain ⟨x13, hx13⟩ : ∃ x, b[13]? = some x := ⟨_, List.getElem?_eq_getElem (by omega)⟩
  have c12 := rangeAt_byte hr hx12
  have c13 := rangeAt_byte hr hx13
  have hK : (b.getD 12 0).toNat = x12.toNat := by simp [List.getD, hx12]
  have hU : (b.getD 13 0).toNat = x13.toNat := by simp [List.getD, hx13]
  have hk256 := x12.toNat_lt
  have hu256 := x13.toNat_lt
  generalize x12.toNat = K at *
  generalize x13.toNat = U at *
  have hHK := hid hK; have hHU := hid hU
  have HB64 := hid hb
  have HR := hid hr
  have HPR : Hid (w.rangeAt g (o + 14) (bv ((b.drop 14).take U))) := hid (fun j v hv => by
    rw [Nat.add_assoc]
    refine hr (14 + j) v ?_
    rw [bv_get] at hv ⊢
    rw [List.getElem?_take] at hv
    split at hv
    · rwa [List.getElem?_drop] at hv
    · cases hv)
  clear hb hr hx12 hx13 hK hU
  have HPRD : Hid (∀ w' : World, w'.rangeAt g o (bv b) → w'.rangeAt g (o + 14) (bv ((b.drop 14).take U))) := hid (fun w' h j v hv => by
    rw [Nat.add_assoc]
    refine h (14 + j) v ?_
    rw [bv_get] at hv ⊢
    rw [List.getElem?_take] at hv
    split at hv
    · rwa [List.getElem?_drop] at hv
    · cases hv)
  by_cases k0 : K < 1
  · obtain rfl : K = 0 := by omega
    have HBAD : Hid (rightOf b gen index = none) := hid (right_bad hHK.out hHU.out (by omega))
    go_enter Try.func120, Try.ntmps120
    go_wp2_with fail
    go_quiet (fail)
    go_wp2
    go_ret2
    exact ⟨by unfold RightRet; rw [HBAD.out]; rfl, below_drewN (Below.refl _ _) _⟩
  by_cases k5 : 4 < K
  · have HBAD : Hid (rightOf b gen index = none) := hid (right_bad hHK.out hHU.out (by omega))
    go_enter Try.func120, Try.ntmps120
    go_wp2_with fail
    go_quiet (fail)
    go_wp2
    go_ret2
    exact ⟨by unfold RightRet; rw [HBAD.out]; rfl, below_drewN (Below.refl _ _) _⟩
  by_cases u5 : 49 < U
  · have HBAD : Hid (rightOf b gen index = none) := hid (right_bad hHK.out hHU.out (by omega))
    go_enter Try.func120, Try.ntmps120
    go_wp2_with fail
    go_quiet (fail)
    go_wp2
    go_ret2
    exact ⟨by unfold RightRet; rw [HBAD.out]; rfl, below_drewN (Below.refl _ _) _⟩
  by_cases k1 : K = 1
  · subst k1
    have HGOOD := hid (right_good (gen := gen) (index := index) hHK.out hHU.out (by omega))
    have HPL : Hid (((b.drop 14).take U).length = U) := hid (by simp [HB64.out]; omega)
    have HLL : Hid ((logSec gen index 1 ((b.drop 14).take U)).length = 64) := hid (logSec_len (by rw [HPL.out]; omega))
    go_enter Try.func120, Try.ntmps120
    go_wp2_with fail
    go_quiet (fail)
    go_wp2_with fail
    have q0 : IntKind.i64.wrap (14 + (U : Int)) = 14 + (U : Int) := IntWalk.i64_in _ (by omega)
    have q1 : 14 + (U : Int) ≤ (cap : Int) := by omega
    have q2 : max (14 + (U : Int)) 0 = 14 + (U : Int) := by omega
    have q3 : ¬ cap = 14 := by omega
    have q4 : (14 + (U : Int)).toNat - 14 = U := by omega
    have q5 : (0 : Int) ≤ 14 + (U : Int) := by omega
    have q6 : (14 : Int) ≤ 14 + (U : Int) := by omega
    have HBB := hid (below_drewN (Below.refl w.heap.size w) nq)
    refine wp_region_held_drew (S := fun w' => w'.rangeAt g o (bv b)) (by kernel_rfl) ((Keep.ofBelow (F := fun _ => False) HBB.out).range HR.out id) (fun hS => ?_)
    have HBC := hid (HBB.out.trans (Below.refl _ _).drew)
    refine wpAnyH_take (i := 0) (v := ?v0x1z1) (by simp only [List.getElem?_toArray, List.getElem?_cons_zero]; exact rfl) (by kernel_rfl) (by kernel_rfl) (by kernel_rfl) (by exact fun _ _ _ h => h) (Or.inl ⟨by rfl, ?y0x1z1⟩) hS ?r0x1z1
    case y0x1z1 => (intro w' hSw; (try dsimp only at hSw); go_simp; (try with_reducible rfl))
    simp only [Act.put, List.setIfInBounds_toArray, List.set_cons_zero, List.set_cons_succ]
    refine wpAnyH_take (i := 1) (v := ?v1x2z1) (by simp only [List.getElem?_toArray, List.getElem?_cons_zero, List.getElem?_cons_succ]; exact rfl) (by kernel_rfl) (by kernel_rfl) (by kernel_rfl) (by exact fun _ _ _ h => h) (Or.inl ⟨by rfl, ?y1x2z1⟩) hS ?r1x2z1
    case y1x2z1 => (intro w' hSw; (try dsimp only at hSw); go_simp; (try with_reducible rfl))
    simp only [Act.put, List.setIfInBounds_toArray, List.set_cons_zero, List.set_cons_succ]
    refine wpAnyH_take (i := 2) (v := ?v2x3z1) (by simp only [List.getElem?_toArray, List.getElem?_cons_zero, List.getElem?_cons_succ]; exact rfl) (by kernel_rfl) (by kernel_rfl) (by kernel_rfl) (by exact fun _ _ _ h => h) (Or.inl ⟨by rfl, ?y2x3z1⟩) hS ?r2x3z1
    case y2x3z1 => (intro w' hSw; (try dsimp only at hSw); go_simp; (try with_reducible rfl))
    simp only [Act.put, List.setIfInBounds_toArray, List.set_cons_zero, List.set_cons_succ]
    refine wpAnyH_take (i := 3) (v := ?v3x4z1) (by simp only [List.getElem?_toArray, List.getElem?_cons_zero, List.getElem?_cons_succ]; exact rfl) (by kernel_rfl) (by kernel_rfl) (by kernel_rfl) (by exact fun _ _ _ h => h) (Or.inl ⟨by rfl, ?y3x4z1⟩) hS ?r3x4z1
    case y3x4z1 => (intro w' hSw; (try dsimp only at hSw); go_simp; (try with_reducible rfl))
    simp only [Act.put, List.setIfInBounds_toArray, List.set_cons_zero, List.set_cons_succ]
    refine wpAnyH_take (i := 4) (v := ?v4x5z1) (by simp only [List.getElem?_toArray, List.getElem?_cons_zero, List.getElem?_cons_succ]; exact rfl) (by kernel_rfl) (by kernel_rfl) (by kernel_rfl) (by exact fun _ _ _ h => h) (Or.inl ⟨by rfl, ?y4x5z1⟩) hS ?r4x5z1
    case y4x5z1 => (intro w' hSw; (try dsimp only at hSw); go_simp; (try with_reducible rfl))
    simp only [Act.put, List.setIfInBounds_toArray, List.set_cons_zero, List.set_cons_succ]
    refine wpAnyH_take (i := 5) (v := ?v5x6z1) (by simp only [List.getElem?_toArray, List.getElem?_cons_zero, List.getElem?_cons_succ]; exact rfl) (by kernel_rfl) (by kernel_rfl) (by kernel_rfl) (by exact fun _ _ _ h => h) (Or.inl ⟨by rfl, ?y5x6z1⟩) hS ?r5x6z1
    case y5x6z1 => (intro w' hSw; (try dsimp only at hSw); go_simp; (try with_reducible rfl))
    simp only [Act.put, List.setIfInBounds_toArray, List.set_cons_zero, List.set_cons_succ]
    refine wpAnyH_take (i := 6) (v := ?v6x7z1) (by simp only [List.getElem?_toArray, List.getElem?_cons_zero, List.getElem?_cons_succ]; exact rfl) (by kernel_rfl) (by kernel_rfl) (by kernel_rfl) (by exact fun _ _ _ h => h) (Or.inl ⟨by rfl, ?y6x7z1⟩) hS ?r6x7z1
    case y6x7z1 => (intro w' hSw; (try dsimp only at hSw); go_simp; (try with_reducible rfl))
    simp only [Act.put, List.setIfInBounds_toArray, List.set_cons_zero, List.set_cons_succ]
    refine wpAnyH_take (i := 9) (v := ?v9x8z1) (by simp only [List.getElem?_toArray, List.getElem?_cons_zero, List.getElem?_cons_succ]; exact rfl) (by kernel_rfl) (by kernel_rfl) (by kernel_rfl) (by exact fun _ _ _ h => h) (Or.inl ⟨by rfl, ?y9x8z1⟩) hS ?r9x8z1
    case y9x8z1 => (intro w' hSw; (try dsimp only at hSw); go_simp; (try with_reducible rfl))
    simp only [Act.put, List.setIfInBounds_toArray, List.set_cons_zero, List.set_cons_succ]
    refine wpAnyH_ready (rs := [7, 10]) (by kernel_rfl) (by simp) ?_
    refine AllReadyH.cons (by simp only [List.getElem?_toArray, List.getElem?_cons_zero, List.getElem?_cons_succ]; exact rfl) (fun K hK => ?_) (AllReadyH.cons (by simp only [List.getElem?_toArray, List.getElem?_cons_zero, List.getElem?_cons_succ]; exact rfl) (fun K hK => ?_) AllReadyH.nil)
    · go_simp
      refine (rsector_any gen index 1 (some ⟨g, o + 14, none⟩) U (cap - 14) ((b.drop 14).take U) HPL.out.symm (by omega) hg hi (by omega) _ (.inr (.inr ⟨g, o + 14, rfl, HPRD.out _ hS⟩))).mono ?_
      rintro e w5 ⟨gs, rfl, hm, hgs, hb5⟩
      have HM := hid hm
      have HBC := hid (HBC.out.trans (hb5.mono HBC.out.size))
      have hS5 := (Keep.ofBelow (F := fun _ => False) hb5).range hS id
      clear hm hgs hb5
      refine hK.out _ _ ?k7x9z1 (fun hS => ?s7x9z1)
      case k7x9z1 => exact hS5
      clear hK K
      try simp only [Act.put, List.setIfInBounds_toArray, List.set_cons_zero, List.set_cons_succ]
      refine wpAnyH_ready (rs := [8, 10]) (by kernel_rfl) (by simp) ?_
      refine AllReadyH.cons (by simp only [List.getElem?_toArray, List.getElem?_cons_zero, List.getElem?_cons_succ]; exact rfl) (fun K hK => ?_) (AllReadyH.cons (by simp only [List.getElem?_toArray, List.getElem?_cons_zero, List.getElem?_cons_succ]; exact rfl) (fun K hK => ?_) AllReadyH.nil)
      · refine wpo_convS (.tmp 55) rfl gs 0 64 64 (logSec gen index 1 ((b.drop 14).take U)) rfl HLL.out.symm (HM.out.range fun j v hv => by rw [Nat.zero_add]; exact hv) ?_
        refine hK.out _ _ ?k8x10z1 (fun hS => ?s8x10z1)
        case k8x10z1 => exact hS
        clear hK K
        try simp only [Act.put, List.setIfInBounds_toArray, List.set_cons_zero, List.set_cons_succ]
        refine wpAnyH_ready (rs := [10]) (by kernel_rfl) (by simp) ?_
        refine AllReadyH.cons (by simp only [List.getElem?_toArray, List.getElem?_cons_zero, List.getElem?_cons_succ]; exact rfl) (fun K hK => ?_) AllReadyH.nil
        refine wpo_convS (.tmp 57) rfl g o 64 cap b rfl HB64.out.symm hS ?_
        refine hK.out _ _ ?k10x11z1 (fun hS => ?s10x11z1)
        case k10x11z1 => exact hS
        clear hK K
        try simp only [Act.put, List.setIfInBounds_toArray, List.set_cons_zero, List.set_cons_succ]
        refine wpAnyH_ready (rs := [11]) (by kernel_rfl) (by simp) ?_
        refine AllReadyH.cons (by simp only [List.getElem?_toArray, List.getElem?_cons_zero, List.getElem?_cons_succ]; exact rfl) (fun K hK => ?_) AllReadyH.nil
        refine wpo_neqS (.tmp 56) (.tmp 58) rfl (logSec gen index 1 ((b.drop 14).take U)) b rfl rfl ?_
        refine hK.out _ _ ?k11x12z1 (fun hS => ?s11x12z1)
        case k11x12z1 => exact hS
        clear hK K
        try simp only [Act.put, List.setIfInBounds_toArray, List.set_cons_zero, List.set_cons_succ]
        refine wpAnyH_done (by kernel_rfl) ?_ _
        clear hS
        rcases HGOOD.out with ⟨hs, hr⟩ | ⟨hs, hr⟩
        · have HR2 := hid hr
          rw [hs]
          clear hs hr
          go_wp2_with fail
          go_quiet (fail)
          go_wp2
          go_ret2
          exact ⟨by unfold RightRet; rw [HR2.out]; show _ = Ending.returned (.tuple #[.int .i64 ((1 : Nat) : Int), .slice (some ⟨g, o + 14, none⟩) ((b.drop 14).take U).length (cap - 14)]); rw [HPL.out]; rfl, below_drewN HBC.out _⟩
        · have HR2 := hid hr
          rw [hs]
          clear hs hr
          go_wp2
          go_ret2
          exact ⟨by unfold RightRet; rw [HR2.out]; rfl, HBC.out⟩
      · refine wpo_convS (.tmp 57) rfl g o 64 cap b rfl HB64.out.symm hS ?_
        refine hK.out _ _ ?k10x13z1 (fun hS => ?s10x13z1)
        case k10x13z1 => exact hS
        clear hK K
        try simp only [Act.put, List.setIfInBounds_toArray, List.set_cons_zero, List.set_cons_succ]
        refine wpAnyH_ready (rs := [8]) (by kernel_rfl) (by simp) ?_
        refine AllReadyH.cons (by simp only [List.getElem?_toArray, List.getElem?_cons_zero, List.getElem?_cons_succ]; exact rfl) (fun K hK => ?_) AllReadyH.nil
        refine wpo_convS (.tmp 55) rfl gs 0 64 64 (logSec gen index 1 ((b.drop 14).take U)) rfl HLL.out.symm (HM.out.range fun j v hv => by rw [Nat.zero_add]; exact hv) ?_
        refine hK.out _ _ ?k8x14z1 (fun hS => ?s8x14z1)
        case k8x14z1 => exact hS
        clear hK K
        try simp only [Act.put, List.setIfInBounds_toArray, List.set_cons_zero, List.set_cons_succ]
        refine wpAnyH_ready (rs := [11]) (by kernel_rfl) (by simp) ?_
        refine AllReadyH.cons (by simp only [List.getElem?_toArray, List.getElem?_cons_zero, List.getElem?_cons_succ]; exact rfl) (fun K hK => ?_) AllReadyH.nil
        refine wpo_neqS (.tmp 56) (.tmp 58) rfl (logSec gen index 1 ((b.drop 14).take U)) b rfl rfl ?_
        refine hK.out _ _ ?k11x15z1 (fun hS => ?s11x15z1)
        case k11x15z1 => exact hS
        clear hK K
        try simp only [Act.put, List.setIfInBounds_toArray, List.set_cons_zero, List.set_cons_succ]
        refine wpAnyH_done (by kernel_rfl) ?_ _
        clear hS
        rcases HGOOD.out with ⟨hs, hr⟩ | ⟨hs, hr⟩
        · have HR2 := hid hr
          rw [hs]
          clear hs hr
          go_wp2_with fail
          go_quiet (fail)
          go_wp2
          go_ret2
          exact ⟨by unfold RightRet; rw [HR2.out]; show _ = Ending.returned (.tuple #[.int .i64 ((1 : Nat) : Int), .slice (some ⟨g, o + 14, none⟩) ((b.drop 14).take U).length (cap - 14)]); rw [HPL.out]; rfl, below_drewN HBC.out _⟩
        · have HR2 := hid hr
          rw [hs]
          clear hs hr
          go_wp2
          go_ret2
          exact ⟨by unfold RightRet; rw [HR2.out]; rfl, HBC.out⟩
    · refine wpo_convS (.tmp 57) rfl g o 64 cap b rfl HB64.out.symm hS ?_
      refine hK.out _ _ ?k10x16z1 (fun hS => ?s10x16z1)
      case k10x16z1 => exact hS
      clear hK K
      try simp only [Act.put, List.setIfInBounds_toArray, List.set_cons_zero, List.set_cons_succ]
      refine wpAnyH_ready (rs := [7]) (by kernel_rfl) (by simp) ?_
      refine AllReadyH.cons (by simp only [List.getElem?_toArray, List.getElem?_cons_zero, List.getElem?_cons_succ]; exact rfl) (fun K hK => ?_) AllReadyH.nil
      go_simp
      refine (rsector_any gen index 1 (some ⟨g, o + 14, none⟩) U (cap - 14) ((b.drop 14).take U) HPL.out.symm (by omega) hg hi (by omega) _ (.inr (.inr ⟨g, o + 14, rfl, HPRD.out _ hS⟩))).mono ?_
      rintro e w5 ⟨gs, rfl, hm, hgs, hb5⟩
      have HM := hid hm
      have HBC := hid (HBC.out.trans (hb5.mono HBC.out.size))
      have hS5 := (Keep.ofBelow (F := fun _ => False) hb5).range hS id
      clear hm hgs hb5
      refine hK.out _ _ ?k7x17z1 (fun hS => ?s7x17z1)
      case k7x17z1 => exact hS5
      clear hK K
      try simp only [Act.put, List.setIfInBounds_toArray, List.set_cons_zero, List.set_cons_succ]
      refine wpAnyH_ready (rs := [8]) (by kernel_rfl) (by simp) ?_
      refine AllReadyH.cons (by simp only [List.getElem?_toArray, List.getElem?_cons_zero, List.getElem?_cons_succ]; exact rfl) (fun K hK => ?_) AllReadyH.nil
      refine wpo_convS (.tmp 55) rfl gs 0 64 64 (logSec gen index 1 ((b.drop 14).take U)) rfl HLL.out.symm (HM.out.range fun j v hv => by rw [Nat.zero_add]; exact hv) ?_
      refine hK.out _ _ ?k8x18z1 (fun hS => ?s8x18z1)
      case k8x18z1 => exact hS
      clear hK K
      try simp only [Act.put, List.setIfInBounds_toArray, List.set_cons_zero, List.set_cons_succ]
      refine wpAnyH_ready (rs := [11]) (by kernel_rfl) (by simp) ?_
      refine AllReadyH.cons (by simp only [List.getElem?_toArray, List.getElem?_cons_zero, List.getElem?_cons_succ]; exact rfl) (fun K hK => ?_) AllReadyH.nil
      refine wpo_neqS (.tmp 56) (.tmp 58) rfl (logSec gen index 1 ((b.drop 14).take U)) b rfl rfl ?_
      refine hK.out _ _ ?k11x19z1 (fun hS => ?s11x19z1)
      case k11x19z1 => exact hS
      clear hK K
      try simp only [Act.put, List.setIfInBounds_toArray, List.set_cons_zero, List.set_cons_succ]
      refine wpAnyH_done (by kernel_rfl) ?_ _
      clear hS
      rcases HGOOD.out with ⟨hs, hr⟩ | ⟨hs, hr⟩
      · have HR2 := hid hr
        rw [hs]
        clear hs hr
        go_wp2_with fail
        go_quiet (fail)
        go_wp2
        go_ret2
        exact ⟨by unfold RightRet; rw [HR2.out]; show _ = Ending.returned (.tuple #[.int .i64 ((1 : Nat) : Int), .slice (some ⟨g, o + 14, none⟩) ((b.drop 14).take U).length (cap - 14)]); rw [HPL.out]; rfl, below_drewN HBC.out _⟩
      · have HR2 := hid hr
        rw [hs]
        clear hs hr
        go_wp2
        go_ret2
        exact ⟨by unfold RightRet; rw [HR2.out]; rfl, HBC.out⟩
  by_cases k2 : K = 2
  · subst k2
    by_cases u9 : U = 49
    · have e9 : ((U : Int) == 49) = true := by simp; omega
      have e8 : ((U : Int) != 49) = false := by simp; omega
      have u48 : 49 ≤ U := by omega
      clear u9
      have HGOOD := hid (right_good (gen := gen) (index := index) hHK.out hHU.out (by omega))
      have HPL : Hid (((b.drop 14).take U).length = U) := hid (by simp [HB64.out]; omega)
      have HLL : Hid ((logSec gen index 2 ((b.drop 14).take U)).length = 64) := hid (logSec_len (by rw [HPL.out]; omega))
      go_enter Try.func120, Try.ntmps120
      go_wp2_with fail
      go_quiet (fail)
      go_wp2_with fail
      have q0 : IntKind.i64.wrap (14 + (U : Int)) = 14 + (U : Int) := IntWalk.i64_in _ (by omega)
      have q1 : 14 + (U : Int) ≤ (cap : Int) := by omega
      have q2 : max (14 + (U : Int)) 0 = 14 + (U : Int) := by omega
      have q3 : ¬ cap = 14 := by omega
      have q4 : (14 + (U : Int)).toNat - 14 = U := by omega
      have q5 : (0 : Int) ≤ 14 + (U : Int) := by omega
      have q6 : (14 : Int) ≤ 14 + (U : Int) := by omega
      have HBB := hid (below_drewN (Below.refl w.heap.size w) nq)
      refine wp_region_held_drew (S := fun w' => w'.rangeAt g o (bv b)) (by kernel_rfl) ((Keep.ofBelow (F := fun _ => False) HBB.out).range HR.out id) (fun hS => ?_)
      have HBC := hid (HBB.out.trans (Below.refl _ _).drew)
      refine wpAnyH_take (i := 0) (v := ?v0x1z2) (by simp only [List.getElem?_toArray, List.getElem?_cons_zero]; exact rfl) (by kernel_rfl) (by kernel_rfl) (by kernel_rfl) (by exact fun _ _ _ h => h) (Or.inl ⟨by rfl, ?y0x1z2⟩) hS ?r0x1z2
      case y0x1z2 => (intro w' hSw; (try dsimp only at hSw); go_simp; (try with_reducible rfl))
      simp only [Act.put, List.setIfInBounds_toArray, List.set_cons_zero, List.set_cons_succ]
      refine wpAnyH_take (i := 1) (v := ?v1x2z2) (by simp only [List.getElem?_toArray, List.getElem?_cons_zero, List.getElem?_cons_succ]; exact rfl) (by kernel_rfl) (by kernel_rfl) (by kernel_rfl) (by exact fun _ _ _ h => h) (Or.inl ⟨by rfl, ?y1x2z2⟩) hS ?r1x2z2
      case y1x2z2 => (intro w' hSw; (try dsimp only at hSw); go_simp; (try with_reducible rfl))
      simp only [Act.put, List.setIfInBounds_toArray, List.set_cons_zero, List.set_cons_succ]
      refine wpAnyH_take (i := 2) (v := ?v2x3z2) (by simp only [List.getElem?_toArray, List.getElem?_cons_zero, List.getElem?_cons_succ]; exact rfl) (by kernel_rfl) (by kernel_rfl) (by kernel_rfl) (by exact fun _ _ _ h => h) (Or.inl ⟨by rfl, ?y2x3z2⟩) hS ?r2x3z2
      case y2x3z2 => (intro w' hSw; (try dsimp only at hSw); go_simp; (try with_reducible rfl))
      simp only [Act.put, List.setIfInBounds_toArray, List.set_cons_zero, List.set_cons_succ]
      refine wpAnyH_take (i := 3) (v := ?v3x4z2) (by simp only [List.getElem?_toArray, List.getElem?_cons_zero, List.getElem?_cons_succ]; exact rfl) (by kernel_rfl) (by kernel_rfl) (by kernel_rfl) (by exact fun _ _ _ h => h) (Or.inl ⟨by rfl, ?y3x4z2⟩) hS ?r3x4z2
      case y3x4z2 => (intro w' hSw; (try dsimp only at hSw); go_simp; (try with_reducible rfl))
      simp only [Act.put, List.setIfInBounds_toArray, List.set_cons_zero, List.set_cons_succ]
      refine wpAnyH_take (i := 4) (v := ?v4x5z2) (by simp only [List.getElem?_toArray, List.getElem?_cons_zero, List.getElem?_cons_succ]; exact rfl) (by kernel_rfl) (by kernel_rfl) (by kernel_rfl) (by exact fun _ _ _ h => h) (Or.inl ⟨by rfl, ?y4x5z2⟩) hS ?r4x5z2
      case y4x5z2 => (intro w' hSw; (try dsimp only at hSw); go_simp; (try with_reducible rfl))
      simp only [Act.put, List.setIfInBounds_toArray, List.set_cons_zero, List.set_cons_succ]
      refine wpAnyH_take (i := 5) (v := ?v5x6z2) (by simp only [List.getElem?_toArray, List.getElem?_cons_zero, List.getElem?_cons_succ]; exact rfl) (by kernel_rfl) (by kernel_rfl) (by kernel_rfl) (by exact fun _ _ _ h => h) (Or.inl ⟨by rfl, ?y5x6z2⟩) hS ?r5x6z2
      case y5x6z2 => (intro w' hSw; (try dsimp only at hSw); go_simp; (try with_reducible rfl))
      simp only [Act.put, List.setIfInBounds_toArray, List.set_cons_zero, List.set_cons_succ]
      refine wpAnyH_take (i := 6) (v := ?v6x7z2) (by simp only [List.getElem?_toArray, List.getElem?_cons_zero, List.getElem?_cons_succ]; exact rfl) (by kernel_rfl) (by kernel_rfl) (by kernel_rfl) (by exact fun _ _ _ h => h) (Or.inl ⟨by rfl, ?y6x7z2⟩) hS ?r6x7z2
      case y6x7z2 => (intro w' hSw; (try dsimp only at hSw); go_simp; (try with_reducible rfl))
      simp only [Act.put, List.setIfInBounds_toArray, List.set_cons_zero, List.set_cons_succ]
      refine wpAnyH_take (i := 9) (v := ?v9x8z2) (by simp only [List.getElem?_toArray, List.getElem?_cons_zero, List.getElem?_cons_succ]; exact rfl) (by kernel_rfl) (by kernel_rfl) (by kernel_rfl) (by exact fun _ _ _ h => h) (Or.inl ⟨by rfl, ?y9x8z2⟩) hS ?r9x8z2
      case y9x8z2 => (intro w' hSw; (try dsimp only at hSw); go_simp; (try with_reducible rfl))
      simp only [Act.put, List.setIfInBounds_toArray, List.set_cons_zero, List.set_cons_succ]
      refine wpAnyH_ready (rs := [7, 10]) (by kernel_rfl) (by simp) ?_
      refine AllReadyH.cons (by simp only [List.getElem?_toArray, List.getElem?_cons_zero, List.getElem?_cons_succ]; exact rfl) (fun K hK => ?_) (AllReadyH.cons (by simp only [List.getElem?_toArray, List.getElem?_cons_zero, List.getElem?_cons_succ]; exact rfl) (fun K hK => ?_) AllReadyH.nil)
      · go_simp
        refine (rsector_any gen index 2 (some ⟨g, o + 14, none⟩) U (cap - 14) ((b.drop 14).take U) HPL.out.symm (by omega) hg hi (by omega) _ (.inr (.inr ⟨g, o + 14, rfl, HPRD.out _ hS⟩))).mono ?_
        rintro e w5 ⟨gs, rfl, hm, hgs, hb5⟩
        have HM := hid hm
        have HBC := hid (HBC.out.trans (hb5.mono HBC.out.size))
        have hS5 := (Keep.ofBelow (F := fun _ => False) hb5).range hS id
        clear hm hgs hb5
        refine hK.out _ _ ?k7x9z2 (fun hS => ?s7x9z2)
        case k7x9z2 => exact hS5
        clear hK K
        try simp only [Act.put, List.setIfInBounds_toArray, List.set_cons_zero, List.set_cons_succ]
        refine wpAnyH_ready (rs := [8, 10]) (by kernel_rfl) (by simp) ?_
        refine AllReadyH.cons (by simp only [List.getElem?_toArray, List.getElem?_cons_zero, List.getElem?_cons_succ]; exact rfl) (fun K hK => ?_) (AllReadyH.cons (by simp only [List.getElem?_toArray, List.getElem?_cons_zero, List.getElem?_cons_succ]; exact rfl) (fun K hK => ?_) AllReadyH.nil)
        · refine wpo_convS (.tmp 55) rfl gs 0 64 64 (logSec gen index 2 ((b.drop 14).take U)) rfl HLL.out.symm (HM.out.range fun j v hv => by rw [Nat.zero_add]; exact hv) ?_
          refine hK.out _ _ ?k8x10z2 (fun hS => ?s8x10z2)
          case k8x10z2 => exact hS
          clear hK K
          try simp only [Act.put, List.setIfInBounds_toArray, List.set_cons_zero, List.set_cons_succ]
          refine wpAnyH_ready (rs := [10]) (by kernel_rfl) (by simp) ?_
          refine AllReadyH.cons (by simp only [List.getElem?_toArray, List.getElem?_cons_zero, List.getElem?_cons_succ]; exact rfl) (fun K hK => ?_) AllReadyH.nil
          refine wpo_convS (.tmp 57) rfl g o 64 cap b rfl HB64.out.symm hS ?_
          refine hK.out _ _ ?k10x11z2 (fun hS => ?s10x11z2)
          case k10x11z2 => exact hS
          clear hK K
          try simp only [Act.put, List.setIfInBounds_toArray, List.set_cons_zero, List.set_cons_succ]
          refine wpAnyH_ready (rs := [11]) (by kernel_rfl) (by simp) ?_
          refine AllReadyH.cons (by simp only [List.getElem?_toArray, List.getElem?_cons_zero, List.getElem?_cons_succ]; exact rfl) (fun K hK => ?_) AllReadyH.nil
          refine wpo_neqS (.tmp 56) (.tmp 58) rfl (logSec gen index 2 ((b.drop 14).take U)) b rfl rfl ?_
          refine hK.out _ _ ?k11x12z2 (fun hS => ?s11x12z2)
          case k11x12z2 => exact hS
          clear hK K
          try simp only [Act.put, List.setIfInBounds_toArray, List.set_cons_zero, List.set_cons_succ]
          refine wpAnyH_done (by kernel_rfl) ?_ _
          clear hS
          rcases HGOOD.out with ⟨hs, hr⟩ | ⟨hs, hr⟩
          · have HR2 := hid hr
            rw [hs]
            clear hs hr
            go_wp2_with fail
            go_quiet (fail)
            go_wp2
            go_ret2
            exact ⟨by unfold RightRet; rw [HR2.out]; show _ = Ending.returned (.tuple #[.int .i64 ((2 : Nat) : Int), .slice (some ⟨g, o + 14, none⟩) ((b.drop 14).take U).length (cap - 14)]); rw [HPL.out]; rfl, below_drewN HBC.out _⟩
          · have HR2 := hid hr
            rw [hs]
            clear hs hr
            go_wp2
            go_ret2
            exact ⟨by unfold RightRet; rw [HR2.out]; rfl, HBC.out⟩
        · refine wpo_convS (.tmp 57) rfl g o 64 cap b rfl HB64.out.symm hS ?_
          refine hK.out _ _ ?k10x13z2 (fun hS => ?s10x13z2)
          case k10x13z2 => exact hS
          clear hK K
          try simp only [Act.put, List.setIfInBounds_toArray, List.set_cons_zero, List.set_cons_succ]
          refine wpAnyH_ready (rs := [8]) (by kernel_rfl) (by simp) ?_
          refine AllReadyH.cons (by simp only [List.getElem?_toArray, List.getElem?_cons_zero, List.getElem?_cons_succ]; exact rfl) (fun K hK => ?_) AllReadyH.nil
          refine wpo_convS (.tmp 55) rfl gs 0 64 64 (logSec gen index 2 ((b.drop 14).take U)) rfl HLL.out.symm (HM.out.range fun j v hv => by rw [Nat.zero_add]; exact hv) ?_
          refine hK.out _ _ ?k8x14z2 (fun hS => ?s8x14z2)
          case k8x14z2 => exact hS
          clear hK K
          try simp only [Act.put, List.setIfInBounds_toArray, List.set_cons_zero, List.set_cons_succ]
          refine wpAnyH_ready (rs := [11]) (by kernel_rfl) (by simp) ?_
          refine AllReadyH.cons (by simp only [List.getElem?_toArray, List.getElem?_cons_zero, List.getElem?_cons_succ]; exact rfl) (fun K hK => ?_) AllReadyH.nil
          refine wpo_neqS (.tmp 56) (.tmp 58) rfl (logSec gen index 2 ((b.drop 14).take U)) b rfl rfl ?_
          refine hK.out _ _ ?k11x15z2 (fun hS => ?s11x15z2)
          case k11x15z2 => exact hS
          clear hK K
          try simp only [Act.put, List.setIfInBounds_toArray, List.set_cons_zero, List.set_cons_succ]
          refine wpAnyH_done (by kernel_rfl) ?_ _
          clear hS
          rcases HGOOD.out with ⟨hs, hr⟩ | ⟨hs, hr⟩
          · have HR2 := hid hr
            rw [hs]
            clear hs hr
            go_wp2_with fail
            go_quiet (fail)
            go_wp2
            go_ret2
            exact ⟨by unfold RightRet; rw [HR2.out]; show _ = Ending.returned (.tuple #[.int .i64 ((2 : Nat) : Int), .slice (some ⟨g, o + 14, none⟩) ((b.drop 14).take U).length (cap - 14)]); rw [HPL.out]; rfl, below_drewN HBC.out _⟩
          · have HR2 := hid hr
            rw [hs]
            clear hs hr
            go_wp2
            go_ret2
            exact ⟨by unfold RightRet; rw [HR2.out]; rfl, HBC.out⟩
      · refine wpo_convS (.tmp 57) rfl g o 64 cap b rfl HB64.out.symm hS ?_
        refine hK.out _ _ ?k10x16z2 (fun hS => ?s10x16z2)
        case k10x16z2 => exact hS
        clear hK K
        try simp only [Act.put, List.setIfInBounds_toArray, List.set_cons_zero, List.set_cons_succ]
        refine wpAnyH_ready (rs := [7]) (by kernel_rfl) (by simp) ?_
        refine AllReadyH.cons (by simp only [List.getElem?_toArray, List.getElem?_cons_zero, List.getElem?_cons_succ]; exact rfl) (fun K hK => ?_) AllReadyH.nil
        go_simp
        refine (rsector_any gen index 2 (some ⟨g, o + 14, none⟩) U (cap - 14) ((b.drop 14).take U) HPL.out.symm (by omega) hg hi (by omega) _ (.inr (.inr ⟨g, o + 14, rfl, HPRD.out _ hS⟩))).mono ?_
        rintro e w5 ⟨gs, rfl, hm, hgs, hb5⟩
        have HM := hid hm
        have HBC := hid (HBC.out.trans (hb5.mono HBC.out.size))
        have hS5 := (Keep.ofBelow (F := fun _ => False) hb5).range hS id
        clear hm hgs hb5
        refine hK.out _ _ ?k7x17z2 (fun hS => ?s7x17z2)
        case k7x17z2 => exact hS5
        clear hK K
        try simp only [Act.put, List.setIfInBounds_toArray, List.set_cons_zero, List.set_cons_succ]
        refine wpAnyH_ready (rs := [8]) (by kernel_rfl) (by simp) ?_
        refine AllReadyH.cons (by simp only [List.getElem?_toArray, List.getElem?_cons_zero, List.getElem?_cons_succ]; exact rfl) (fun K hK => ?_) AllReadyH.nil
        refine wpo_convS (.tmp 55) rfl gs 0 64 64 (logSec gen index 2 ((b.drop 14).take U)) rfl HLL.out.symm (HM.out.range fun j v hv => by rw [Nat.zero_add]; exact hv) ?_
        refine hK.out _ _ ?k8x18z2 (fun hS => ?s8x18z2)
        case k8x18z2 => exact hS
        clear hK K
        try simp only [Act.put, List.setIfInBounds_toArray, List.set_cons_zero, List.set_cons_succ]
        refine wpAnyH_ready (rs := [11]) (by kernel_rfl) (by simp) ?_
        refine AllReadyH.cons (by simp only [List.getElem?_toArray, List.getElem?_cons_zero, List.getElem?_cons_succ]; exact rfl) (fun K hK => ?_) AllReadyH.nil
        refine wpo_neqS (.tmp 56) (.tmp 58) rfl (logSec gen index 2 ((b.drop 14).take U)) b rfl rfl ?_
        refine hK.out _ _ ?k11x19z2 (fun hS => ?s11x19z2)
        case k11x19z2 => exact hS
        clear hK K
        try simp only [Act.put, List.setIfInBounds_toArray, List.set_cons_zero, List.set_cons_succ]
        refine wpAnyH_done (by kernel_rfl) ?_ _
        clear hS
        rcases HGOOD.out with ⟨hs, hr⟩ | ⟨hs, hr⟩
        · have HR2 := hid hr
          rw [hs]
          clear hs hr
          go_wp2_with fail
          go_quiet (fail)
          go_wp2
          go_ret2
          exact ⟨by unfold RightRet; rw [HR2.out]; show _ = Ending.returned (.tuple #[.int .i64 ((2 : Nat) : Int), .slice (some ⟨g, o + 14, none⟩) ((b.drop 14).take U).length (cap - 14)]); rw [HPL.out]; rfl, below_drewN HBC.out _⟩
        · have HR2 := hid hr
          rw [hs]
          clear hs hr
          go_wp2
          go_ret2
          exact ⟨by unfold RightRet; rw [HR2.out]; rfl, HBC.out⟩
    · have e9 : ((U : Int) == 49) = false := by rw [beq_eq_false_iff_ne]; omega
      have e8 : ((U : Int) != 49) = true := by simp; omega
      have HBAD : Hid (rightOf b gen index = none) := hid (right_bad hHK.out hHU.out (by omega))
      go_enter Try.func120, Try.ntmps120
      go_wp2_with fail
      go_quiet (fail)
      go_wp2
      go_ret2
      exact ⟨by unfold RightRet; rw [HBAD.out]; rfl, below_drewN (Below.refl _ _) _⟩
  by_cases k3 : K = 3
  · subst k3
    by_cases u9 : U = 49
    · have e9 : ((U : Int) == 49) = true := by simp; omega
      have e8 : ((U : Int) != 49) = false := by simp; omega
      have u48 : 49 ≤ U := by omega
      clear u9
      have HGOOD := hid (right_good (gen := gen) (index := index) hHK.out hHU.out (by omega))
      have HPL : Hid (((b.drop 14).take U).length = U) := hid (by simp [HB64.out]; omega)
      have HLL : Hid ((logSec gen index 3 ((b.drop 14).take U)).length = 64) := hid (logSec_len (by rw [HPL.out]; omega))
      go_enter Try.func120, Try.ntmps120
      go_wp2_with fail
      go_quiet (fail)
      go_wp2_with fail
      have q0 : IntKind.i64.wrap (14 + (U : Int)) = 14 + (U : Int) := IntWalk.i64_in _ (by omega)
      have q1 : 14 + (U : Int) ≤ (cap : Int) := by omega
      have q2 : max (14 + (U : Int)) 0 = 14 + (U : Int) := by omega
      have q3 : ¬ cap = 14 := by omega
      have q4 : (14 + (U : Int)).toNat - 14 = U := by omega
      have q5 : (0 : Int) ≤ 14 + (U : Int) := by omega
      have q6 : (14 : Int) ≤ 14 + (U : Int) := by omega
      have HBB := hid (below_drewN (Below.refl w.heap.size w) nq)
      refine wp_region_held_drew (S := fun w' => w'.rangeAt g o (bv b)) (by kernel_rfl) ((Keep.ofBelow (F := fun _ => False) HBB.out).range HR.out id) (fun hS => ?_)
      have HBC := hid (HBB.out.trans (Below.refl _ _).drew)
      refine wpAnyH_take (i := 0) (v := ?v0x1z3) (by simp only [List.getElem?_toArray, List.getElem?_cons_zero]; exact rfl) (by kernel_rfl) (by kernel_rfl) (by kernel_rfl) (by exact fun _ _ _ h => h) (Or.inl ⟨by rfl, ?y0x1z3⟩) hS ?r0x1z3
      case y0x1z3 => (intro w' hSw; (try dsimp only at hSw); go_simp; (try with_reducible rfl))
      simp only [Act.put, List.setIfInBounds_toArray, List.set_cons_zero, List.set_cons_succ]
      refine wpAnyH_take (i := 1) (v := ?v1x2z3) (by simp only [List.getElem?_toArray, List.getElem?_cons_zero, List.getElem?_cons_succ]; exact rfl) (by kernel_rfl) (by kernel_rfl) (by kernel_rfl) (by exact fun _ _ _ h => h) (Or.inl ⟨by rfl, ?y1x2z3⟩) hS ?r1x2z3
      case y1x2z3 => (intro w' hSw; (try dsimp only at hSw); go_simp; (try with_reducible rfl))
      simp only [Act.put, List.setIfInBounds_toArray, List.set_cons_zero, List.set_cons_succ]
      refine wpAnyH_take (i := 2) (v := ?v2x3z3) (by simp only [List.getElem?_toArray, List.getElem?_cons_zero, List.getElem?_cons_succ]; exact rfl) (by kernel_rfl) (by kernel_rfl) (by kernel_rfl) (by exact fun _ _ _ h => h) (Or.inl ⟨by rfl, ?y2x3z3⟩) hS ?r2x3z3
      case y2x3z3 => (intro w' hSw; (try dsimp only at hSw); go_simp; (try with_reducible rfl))
      simp only [Act.put, List.setIfInBounds_toArray, List.set_cons_zero, List.set_cons_succ]
      refine wpAnyH_take (i := 3) (v := ?v3x4z3) (by simp only [List.getElem?_toArray, List.getElem?_cons_zero, List.getElem?_cons_succ]; exact rfl) (by kernel_rfl) (by kernel_rfl) (by kernel_rfl) (by exact fun _ _ _ h => h) (Or.inl ⟨by rfl, ?y3x4z3⟩) hS ?r3x4z3
      case y3x4z3 => (intro w' hSw; (try dsimp only at hSw); go_simp; (try with_reducible rfl))
      simp only [Act.put, List.setIfInBounds_toArray, List.set_cons_zero, List.set_cons_succ]
      refine wpAnyH_take (i := 4) (v := ?v4x5z3) (by simp only [List.getElem?_toArray, List.getElem?_cons_zero, List.getElem?_cons_succ]; exact rfl) (by kernel_rfl) (by kernel_rfl) (by kernel_rfl) (by exact fun _ _ _ h => h) (Or.inl ⟨by rfl, ?y4x5z3⟩) hS ?r4x5z3
      case y4x5z3 => (intro w' hSw; (try dsimp only at hSw); go_simp; (try with_reducible rfl))
      simp only [Act.put, List.setIfInBounds_toArray, List.set_cons_zero, List.set_cons_succ]
      refine wpAnyH_take (i := 5) (v := ?v5x6z3) (by simp only [List.getElem?_toArray, List.getElem?_cons_zero, List.getElem?_cons_succ]; exact rfl) (by kernel_rfl) (by kernel_rfl) (by kernel_rfl) (by exact fun _ _ _ h => h) (Or.inl ⟨by rfl, ?y5x6z3⟩) hS ?r5x6z3
      case y5x6z3 => (intro w' hSw; (try dsimp only at hSw); go_simp; (try with_reducible rfl))
      simp only [Act.put, List.setIfInBounds_toArray, List.set_cons_zero, List.set_cons_succ]
      refine wpAnyH_take (i := 6) (v := ?v6x7z3) (by simp only [List.getElem?_toArray, List.getElem?_cons_zero, List.getElem?_cons_succ]; exact rfl) (by kernel_rfl) (by kernel_rfl) (by kernel_rfl) (by exact fun _ _ _ h => h) (Or.inl ⟨by rfl, ?y6x7z3⟩) hS ?r6x7z3
      case y6x7z3 => (intro w' hSw; (try dsimp only at hSw); go_simp; (try with_reducible rfl))
      simp only [Act.put, List.setIfInBounds_toArray, List.set_cons_zero, List.set_cons_succ]
      refine wpAnyH_take (i := 9) (v := ?v9x8z3) (by simp only [List.getElem?_toArray, List.getElem?_cons_zero, List.getElem?_cons_succ]; exact rfl) (by kernel_rfl) (by kernel_rfl) (by kernel_rfl) (by exact fun _ _ _ h => h) (Or.inl ⟨by rfl, ?y9x8z3⟩) hS ?r9x8z3
      case y9x8z3 => (intro w' hSw; (try dsimp only at hSw); go_simp; (try with_reducible rfl))
      simp only [Act.put, List.setIfInBounds_toArray, List.set_cons_zero, List.set_cons_succ]
      refine wpAnyH_ready (rs := [7, 10]) (by kernel_rfl) (by simp) ?_
      refine AllReadyH.cons (by simp only [List.getElem?_toArray, List.getElem?_cons_zero, List.getElem?_cons_succ]; exact rfl) (fun K hK => ?_) (AllReadyH.cons (by simp only [List.getElem?_toArray, List.getElem?_cons_zero, List.getElem?_cons_succ]; exact rfl) (fun K hK => ?_) AllReadyH.nil)
      · go_simp
        refine (rsector_any gen index 3 (some ⟨g, o + 14, none⟩) U (cap - 14) ((b.drop 14).take U) HPL.out.symm (by omega) hg hi (by omega) _ (.inr (.inr ⟨g, o + 14, rfl, HPRD.out _ hS⟩))).mono ?_
        rintro e w5 ⟨gs, rfl, hm, hgs, hb5⟩
        have HM := hid hm
        have HBC := hid (HBC.out.trans (hb5.mono HBC.out.size))
        have hS5 := (Keep.ofBelow (F := fun _ => False) hb5).range hS id
        clear hm hgs hb5
        refine hK.out _ _ ?k7x9z3 (fun hS => ?s7x9z3)
        case k7x9z3 => exact hS5
        clear hK K
        try simp only [Act.put, List.setIfInBounds_toArray, List.set_cons_zero, List.set_cons_succ]
        refine wpAnyH_ready (rs := [8, 10]) (by kernel_rfl) (by simp) ?_
        refine AllReadyH.cons (by simp only [List.getElem?_toArray, List.getElem?_cons_zero, List.getElem?_cons_succ]; exact rfl) (fun K hK => ?_) (AllReadyH.cons (by simp only [List.getElem?_toArray, List.getElem?_cons_zero, List.getElem?_cons_succ]; exact rfl) (fun K hK => ?_) AllReadyH.nil)
        · refine wpo_convS (.tmp 55) rfl gs 0 64 64 (logSec gen index 3 ((b.drop 14).take U)) rfl HLL.out.symm (HM.out.range fun j v hv => by rw [Nat.zero_add]; exact hv) ?_
          refine hK.out _ _ ?k8x10z3 (fun hS => ?s8x10z3)
          case k8x10z3 => exact hS
          clear hK K
          try simp only [Act.put, List.setIfInBounds_toArray, List.set_cons_zero, List.set_cons_succ]
          refine wpAnyH_ready (rs := [10]) (by kernel_rfl) (by simp) ?_
          refine AllReadyH.cons (by simp only [List.getElem?_toArray, List.getElem?_cons_zero, List.getElem?_cons_succ]; exact rfl) (fun K hK => ?_) AllReadyH.nil
          refine wpo_convS (.tmp 57) rfl g o 64 cap b rfl HB64.out.symm hS ?_
          refine hK.out _ _ ?k10x11z3 (fun hS => ?s10x11z3)
          case k10x11z3 => exact hS
          clear hK K
          try simp only [Act.put, List.setIfInBounds_toArray, List.set_cons_zero, List.set_cons_succ]
          refine wpAnyH_ready (rs := [11]) (by kernel_rfl) (by simp) ?_
          refine AllReadyH.cons (by simp only [List.getElem?_toArray, List.getElem?_cons_zero, List.getElem?_cons_succ]; exact rfl) (fun K hK => ?_) AllReadyH.nil
          refine wpo_neqS (.tmp 56) (.tmp 58) rfl (logSec gen index 3 ((b.drop 14).take U)) b rfl rfl ?_
          refine hK.out _ _ ?k11x12z3 (fun hS => ?s11x12z3)
          case k11x12z3 => exact hS
          clear hK K
          try simp only [Act.put, List.setIfInBounds_toArray, List.set_cons_zero, List.set_cons_succ]
          refine wpAnyH_done (by kernel_rfl) ?_ _
          clear hS
          rcases HGOOD.out with ⟨hs, hr⟩ | ⟨hs, hr⟩
          · have HR2 := hid hr
            rw [hs]
            clear hs hr
            go_wp2_with fail
            go_quiet (fail)
            go_wp2
            go_ret2
            exact ⟨by unfold RightRet; rw [HR2.out]; show _ = Ending.returned (.tuple #[.int .i64 ((3 : Nat) : Int), .slice (some ⟨g, o + 14, none⟩) ((b.drop 14).take U).length (cap - 14)]); rw [HPL.out]; rfl, below_drewN HBC.out _⟩
          · have HR2 := hid hr
            rw [hs]
            clear hs hr
            go_wp2
            go_ret2
            exact ⟨by unfold RightRet; rw [HR2.out]; rfl, HBC.out⟩
        · refine wpo_convS (.tmp 57) rfl g o 64 cap b rfl HB64.out.symm hS ?_
          refine hK.out _ _ ?k10x13z3 (fun hS => ?s10x13z3)
          case k10x13z3 => exact hS
          clear hK K
          try simp only [Act.put, List.setIfInBounds_toArray, List.set_cons_zero, List.set_cons_succ]
          refine wpAnyH_ready (rs := [8]) (by kernel_rfl) (by simp) ?_
          refine AllReadyH.cons (by simp only [List.getElem?_toArray, List.getElem?_cons_zero, List.getElem?_cons_succ]; exact rfl) (fun K hK => ?_) AllReadyH.nil
          refine wpo_convS (.tmp 55) rfl gs 0 64 64 (logSec gen index 3 ((b.drop 14).take U)) rfl HLL.out.symm (HM.out.range fun j v hv => by rw [Nat.zero_add]; exact hv) ?_
          refine hK.out _ _ ?k8x14z3 (fun hS => ?s8x14z3)
          case k8x14z3 => exact hS
          clear hK K
          try simp only [Act.put, List.setIfInBounds_toArray, List.set_cons_zero, List.set_cons_succ]
          refine wpAnyH_ready (rs := [11]) (by kernel_rfl) (by simp) ?_
          refine AllReadyH.cons (by simp only [List.getElem?_toArray, List.getElem?_cons_zero, List.getElem?_cons_succ]; exact rfl) (fun K hK => ?_) AllReadyH.nil
          refine wpo_neqS (.tmp 56) (.tmp 58) rfl (logSec gen index 3 ((b.drop 14).take U)) b rfl rfl ?_
          refine hK.out _ _ ?k11x15z3 (fun hS => ?s11x15z3)
          case k11x15z3 => exact hS
          clear hK K
          try simp only [Act.put, List.setIfInBounds_toArray, List.set_cons_zero, List.set_cons_succ]
          refine wpAnyH_done (by kernel_rfl) ?_ _
          clear hS
          rcases HGOOD.out with ⟨hs, hr⟩ | ⟨hs, hr⟩
          · have HR2 := hid hr
            rw [hs]
            clear hs hr
            go_wp2_with fail
            go_quiet (fail)
            go_wp2
            go_ret2
            exact ⟨by unfold RightRet; rw [HR2.out]; show _ = Ending.returned (.tuple #[.int .i64 ((3 : Nat) : Int), .slice (some ⟨g, o + 14, none⟩) ((b.drop 14).take U).length (cap - 14)]); rw [HPL.out]; rfl, below_drewN HBC.out _⟩
          · have HR2 := hid hr
            rw [hs]
            clear hs hr
            go_wp2
            go_ret2
            exact ⟨by unfold RightRet; rw [HR2.out]; rfl, HBC.out⟩
      · refine wpo_convS (.tmp 57) rfl g o 64 cap b rfl HB64.out.symm hS ?_
        refine hK.out _ _ ?k10x16z3 (fun hS => ?s10x16z3)
        case k10x16z3 => exact hS
        clear hK K
        try simp only [Act.put, List.setIfInBounds_toArray, List.set_cons_zero, List.set_cons_succ]
        refine wpAnyH_ready (rs := [7]) (by kernel_rfl) (by simp) ?_
        refine AllReadyH.cons (by simp only [List.getElem?_toArray, List.getElem?_cons_zero, List.getElem?_cons_succ]; exact rfl) (fun K hK => ?_) AllReadyH.nil
        go_simp
        refine (rsector_any gen index 3 (some ⟨g, o + 14, none⟩) U (cap - 14) ((b.drop 14).take U) HPL.out.symm (by omega) hg hi (by omega) _ (.inr (.inr ⟨g, o + 14, rfl, HPRD.out _ hS⟩))).mono ?_
        rintro e w5 ⟨gs, rfl, hm, hgs, hb5⟩
        have HM := hid hm
        have HBC := hid (HBC.out.trans (hb5.mono HBC.out.size))
        have hS5 := (Keep.ofBelow (F := fun _ => False) hb5).range hS id
        clear hm hgs hb5
        refine hK.out _ _ ?k7x17z3 (fun hS => ?s7x17z3)
        case k7x17z3 => exact hS5
        clear hK K
        try simp only [Act.put, List.setIfInBounds_toArray, List.set_cons_zero, List.set_cons_succ]
        refine wpAnyH_ready (rs := [8]) (by kernel_rfl) (by simp) ?_
        refine AllReadyH.cons (by simp only [List.getElem?_toArray, List.getElem?_cons_zero, List.getElem?_cons_succ]; exact rfl) (fun K hK => ?_) AllReadyH.nil
        refine wpo_convS (.tmp 55) rfl gs 0 64 64 (logSec gen index 3 ((b.drop 14).take U)) rfl HLL.out.symm (HM.out.range fun j v hv => by rw [Nat.zero_add]; exact hv) ?_
        refine hK.out _ _ ?k8x18z3 (fun hS => ?s8x18z3)
        case k8x18z3 => exact hS
        clear hK K
        try simp only [Act.put, List.setIfInBounds_toArray, List.set_cons_zero, List.set_cons_succ]
        refine wpAnyH_ready (rs := [11]) (by kernel_rfl) (by simp) ?_
        refine AllReadyH.cons (by simp only [List.getElem?_toArray, List.getElem?_cons_zero, List.getElem?_cons_succ]; exact rfl) (fun K hK => ?_) AllReadyH.nil
        refine wpo_neqS (.tmp 56) (.tmp 58) rfl (logSec gen index 3 ((b.drop 14).take U)) b rfl rfl ?_
        refine hK.out _ _ ?k11x19z3 (fun hS => ?s11x19z3)
        case k11x19z3 => exact hS
        clear hK K
        try simp only [Act.put, List.setIfInBounds_toArray, List.set_cons_zero, List.set_cons_succ]
        refine wpAnyH_done (by kernel_rfl) ?_ _
        clear hS
        rcases HGOOD.out with ⟨hs, hr⟩ | ⟨hs, hr⟩
        · have HR2 := hid hr
          rw [hs]
          clear hs hr
          go_wp2_with fail
          go_quiet (fail)
          go_wp2
          go_ret2
          exact ⟨by unfold RightRet; rw [HR2.out]; show _ = Ending.returned (.tuple #[.int .i64 ((3 : Nat) : Int), .slice (some ⟨g, o + 14, none⟩) ((b.drop 14).take U).length (cap - 14)]); rw [HPL.out]; rfl, below_drewN HBC.out _⟩
        · have HR2 := hid hr
          rw [hs]
          clear hs hr
          go_wp2
          go_ret2
          exact ⟨by unfold RightRet; rw [HR2.out]; rfl, HBC.out⟩
    · have e9 : ((U : Int) == 49) = false := by rw [beq_eq_false_iff_ne]; omega
      have e8 : ((U : Int) != 49) = true := by simp; omega
      have HBAD : Hid (rightOf b gen index = none) := hid (right_bad hHK.out hHU.out (by omega))
      go_enter Try.func120, Try.ntmps120
      go_wp2_with fail
      go_quiet (fail)
      go_wp2
      go_ret2
      exact ⟨by unfold RightRet; rw [HBAD.out]; rfl, below_drewN (Below.refl _ _) _⟩
  by_cases k4 : K = 4
  · subst k4
    by_cases u9 : U = 0
    · subst u9
      have HBAD : Hid (rightOf b gen index = none) := hid (right_bad hHK.out hHU.out (by omega))
      go_enter Try.func120, Try.ntmps120
      go_wp2_with fail
      go_quiet (fail)
      go_wp2
      go_ret2
      exact ⟨by unfold RightRet; rw [HBAD.out]; rfl, below_drewN (Below.refl _ _) _⟩
    · have e9 : ((U : Int) == 0) = false := by rw [beq_eq_false_iff_ne]; omega
      have HGOOD := hid (right_good (gen := gen) (index := index) hHK.out hHU.out (by omega))
      have HPL : Hid (((b.drop 14).take U).length = U) := hid (by simp [HB64.out]; omega)
      have HLL : Hid ((logSec gen index 4 ((b.drop 14).take U)).length = 64) := hid (logSec_len (by rw [HPL.out]; omega))
      go_enter Try.func120, Try.ntmps120
      go_wp2_with fail
      go_quiet (fail)
      go_wp2_with fail
      have q0 : IntKind.i64.wrap (14 + (U : Int)) = 14 + (U : Int) := IntWalk.i64_in _ (by omega)
      have q1 : 14 + (U : Int) ≤ (cap : Int) := by omega
      have q2 : max (14 + (U : Int)) 0 = 14 + (U : Int) := by omega
      have q3 : ¬ cap = 14 := by omega
      have q4 : (14 + (U : Int)).toNat - 14 = U := by omega
      have q5 : (0 : Int) ≤ 14 + (U : Int) := by omega
      have q6 : (14 : Int) ≤ 14 + (U : Int) := by omega
      have HBB := hid (below_drewN (Below.refl w.heap.size w) nq)
      refine wp_region_held_drew (S := fun w' => w'.rangeAt g o (bv b)) (by kernel_rfl) ((Keep.ofBelow (F := fun _ => False) HBB.out).range HR.out id) (fun hS => ?_)
      have HBC := hid (HBB.out.trans (Below.refl _ _).drew)
      refine wpAnyH_take (i := 0) (v := ?v0x1z4) (by simp only [List.getElem?_toArray, List.getElem?_cons_zero]; exact rfl) (by kernel_rfl) (by kernel_rfl) (by kernel_rfl) (by exact fun _ _ _ h => h) (Or.inl ⟨by rfl, ?y0x1z4⟩) hS ?r0x1z4
      case y0x1z4 => (intro w' hSw; (try dsimp only at hSw); go_simp; (try with_reducible rfl))
      simp only [Act.put, List.setIfInBounds_toArray, List.set_cons_zero, List.set_cons_succ]
      refine wpAnyH_take (i := 1) (v := ?v1x2z4) (by simp only [List.getElem?_toArray, List.getElem?_cons_zero, List.getElem?_cons_succ]; exact rfl) (by kernel_rfl) (by kernel_rfl) (by kernel_rfl) (by exact fun _ _ _ h => h) (Or.inl ⟨by rfl, ?y1x2z4⟩) hS ?r1x2z4
      case y1x2z4 => (intro w' hSw; (try dsimp only at hSw); go_simp; (try with_reducible rfl))
      simp only [Act.put, List.setIfInBounds_toArray, List.set_cons_zero, List.set_cons_succ]
      refine wpAnyH_take (i := 2) (v := ?v2x3z4) (by simp only [List.getElem?_toArray, List.getElem?_cons_zero, List.getElem?_cons_succ]; exact rfl) (by kernel_rfl) (by kernel_rfl) (by kernel_rfl) (by exact fun _ _ _ h => h) (Or.inl ⟨by rfl, ?y2x3z4⟩) hS ?r2x3z4
      case y2x3z4 => (intro w' hSw; (try dsimp only at hSw); go_simp; (try with_reducible rfl))
      simp only [Act.put, List.setIfInBounds_toArray, List.set_cons_zero, List.set_cons_succ]
      refine wpAnyH_take (i := 3) (v := ?v3x4z4) (by simp only [List.getElem?_toArray, List.getElem?_cons_zero, List.getElem?_cons_succ]; exact rfl) (by kernel_rfl) (by kernel_rfl) (by kernel_rfl) (by exact fun _ _ _ h => h) (Or.inl ⟨by rfl, ?y3x4z4⟩) hS ?r3x4z4
      case y3x4z4 => (intro w' hSw; (try dsimp only at hSw); go_simp; (try with_reducible rfl))
      simp only [Act.put, List.setIfInBounds_toArray, List.set_cons_zero, List.set_cons_succ]
      refine wpAnyH_take (i := 4) (v := ?v4x5z4) (by simp only [List.getElem?_toArray, List.getElem?_cons_zero, List.getElem?_cons_succ]; exact rfl) (by kernel_rfl) (by kernel_rfl) (by kernel_rfl) (by exact fun _ _ _ h => h) (Or.inl ⟨by rfl, ?y4x5z4⟩) hS ?r4x5z4
      case y4x5z4 => (intro w' hSw; (try dsimp only at hSw); go_simp; (try with_reducible rfl))
      simp only [Act.put, List.setIfInBounds_toArray, List.set_cons_zero, List.set_cons_succ]
      refine wpAnyH_take (i := 5) (v := ?v5x6z4) (by simp only [List.getElem?_toArray, List.getElem?_cons_zero, List.getElem?_cons_succ]; exact rfl) (by kernel_rfl) (by kernel_rfl) (by kernel_rfl) (by exact fun _ _ _ h => h) (Or.inl ⟨by rfl, ?y5x6z4⟩) hS ?r5x6z4
      case y5x6z4 => (intro w' hSw; (try dsimp only at hSw); go_simp; (try with_reducible rfl))
      simp only [Act.put, List.setIfInBounds_toArray, List.set_cons_zero, List.set_cons_succ]
      refine wpAnyH_take (i := 6) (v := ?v6x7z4) (by simp only [List.getElem?_toArray, List.getElem?_cons_zero, List.getElem?_cons_succ]; exact rfl) (by kernel_rfl) (by kernel_rfl) (by kernel_rfl) (by exact fun _ _ _ h => h) (Or.inl ⟨by rfl, ?y6x7z4⟩) hS ?r6x7z4
      case y6x7z4 => (intro w' hSw; (try dsimp only at hSw); go_simp; (try with_reducible rfl))
      simp only [Act.put, List.setIfInBounds_toArray, List.set_cons_zero, List.set_cons_succ]
      refine wpAnyH_take (i := 9) (v := ?v9x8z4) (by simp only [List.getElem?_toArray, List.getElem?_cons_zero, List.getElem?_cons_succ]; exact rfl) (by kernel_rfl) (by kernel_rfl) (by kernel_rfl) (by exact fun _ _ _ h => h) (Or.inl ⟨by rfl, ?y9x8z4⟩) hS ?r9x8z4
      case y9x8z4 => (intro w' hSw; (try dsimp only at hSw); go_simp; (try with_reducible rfl))
      simp only [Act.put, List.setIfInBounds_toArray, List.set_cons_zero, List.set_cons_succ]
      refine wpAnyH_ready (rs := [7, 10]) (by kernel_rfl) (by simp) ?_
      refine AllReadyH.cons (by simp only [List.getElem?_toArray, List.getElem?_cons_zero, List.getElem?_cons_succ]; exact rfl) (fun K hK => ?_) (AllReadyH.cons (by simp only [List.getElem?_toArray, List.getElem?_cons_zero, List.getElem?_cons_succ]; exact rfl) (fun K hK => ?_) AllReadyH.nil)
      · go_simp
        refine (rsector_any gen index 4 (some ⟨g, o + 14, none⟩) U (cap - 14) ((b.drop 14).take U) HPL.out.symm (by omega) hg hi (by omega) _ (.inr (.inr ⟨g, o + 14, rfl, HPRD.out _ hS⟩))).mono ?_
        rintro e w5 ⟨gs, rfl, hm, hgs, hb5⟩
        have HM := hid hm
        have HBC := hid (HBC.out.trans (hb5.mono HBC.out.size))
        have hS5 := (Keep.ofBelow (F := fun _ => False) hb5).range hS id
        clear hm hgs hb5
        refine hK.out _ _ ?k7x9z4 (fun hS => ?s7x9z4)
        case k7x9z4 => exact hS5
        clear hK K
        try simp only [Act.put, List.setIfInBounds_toArray, List.set_cons_zero, List.set_cons_succ]
        refine wpAnyH_ready (rs := [8, 10]) (by kernel_rfl) (by simp) ?_
        refine AllReadyH.cons (by simp only [List.getElem?_toArray, List.getElem?_cons_zero, List.getElem?_cons_succ]; exact rfl) (fun K hK => ?_) (AllReadyH.cons (by simp only [List.getElem?_toArray, List.getElem?_cons_zero, List.getElem?_cons_succ]; exact rfl) (fun K hK => ?_) AllReadyH.nil)
        · refine wpo_convS (.tmp 55) rfl gs 0 64 64 (logSec gen index 4 ((b.drop 14).take U)) rfl HLL.out.symm (HM.out.range fun j v hv => by rw [Nat.zero_add]; exact hv) ?_
          refine hK.out _ _ ?k8x10z4 (fun hS => ?s8x10z4)
          case k8x10z4 => exact hS
          clear hK K
          try simp only [Act.put, List.setIfInBounds_toArray, List.set_cons_zero, List.set_cons_succ]
          refine wpAnyH_ready (rs := [10]) (by kernel_rfl) (by simp) ?_
          refine AllReadyH.cons (by simp only [List.getElem?_toArray, List.getElem?_cons_zero, List.getElem?_cons_succ]; exact rfl) (fun K hK => ?_) AllReadyH.nil
          refine wpo_convS (.tmp 57) rfl g o 64 cap b rfl HB64.out.symm hS ?_
          refine hK.out _ _ ?k10x11z4 (fun hS => ?s10x11z4)
          case k10x11z4 => exact hS
          clear hK K
          try simp only [Act.put, List.setIfInBounds_toArray, List.set_cons_zero, List.set_cons_succ]
          refine wpAnyH_ready (rs := [11]) (by kernel_rfl) (by simp) ?_
          refine AllReadyH.cons (by simp only [List.getElem?_toArray, List.getElem?_cons_zero, List.getElem?_cons_succ]; exact rfl) (fun K hK => ?_) AllReadyH.nil
          refine wpo_neqS (.tmp 56) (.tmp 58) rfl (logSec gen index 4 ((b.drop 14).take U)) b rfl rfl ?_
          refine hK.out _ _ ?k11x12z4 (fun hS => ?s11x12z4)
          case k11x12z4 => exact hS
          clear hK K
          try simp only [Act.put, List.setIfInBounds_toArray, List.set_cons_zero, List.set_cons_succ]
          refine wpAnyH_done (by kernel_rfl) ?_ _
          clear hS
          rcases HGOOD.out with ⟨hs, hr⟩ | ⟨hs, hr⟩
          · have HR2 := hid hr
            rw [hs]
            clear hs hr
            go_wp2_with fail
            go_quiet (fail)
            go_wp2
            go_ret2
            exact ⟨by unfold RightRet; rw [HR2.out]; show _ = Ending.returned (.tuple #[.int .i64 ((4 : Nat) : Int), .slice (some ⟨g, o + 14, none⟩) ((b.drop 14).take U).length (cap - 14)]); rw [HPL.out]; rfl, below_drewN HBC.out _⟩
          · have HR2 := hid hr
            rw [hs]
            clear hs hr
            go_wp2
            go_ret2
            exact ⟨by unfold RightRet; rw [HR2.out]; rfl, HBC.out⟩
        · refine wpo_convS (.tmp 57) rfl g o 64 cap b rfl HB64.out.symm hS ?_
          refine hK.out _ _ ?k10x13z4 (fun hS => ?s10x13z4)
          case k10x13z4 => exact hS
          clear hK K
          try simp only [Act.put, List.setIfInBounds_toArray, List.set_cons_zero, List.set_cons_succ]
          refine wpAnyH_ready (rs := [8]) (by kernel_rfl) (by simp) ?_
          refine AllReadyH.cons (by simp only [List.getElem?_toArray, List.getElem?_cons_zero, List.getElem?_cons_succ]; exact rfl) (fun K hK => ?_) AllReadyH.nil
          refine wpo_convS (.tmp 55) rfl gs 0 64 64 (logSec gen index 4 ((b.drop 14).take U)) rfl HLL.out.symm (HM.out.range fun j v hv => by rw [Nat.zero_add]; exact hv) ?_
          refine hK.out _ _ ?k8x14z4 (fun hS => ?s8x14z4)
          case k8x14z4 => exact hS
          clear hK K
          try simp only [Act.put, List.setIfInBounds_toArray, List.set_cons_zero, List.set_cons_succ]
          refine wpAnyH_ready (rs := [11]) (by kernel_rfl) (by simp) ?_
          refine AllReadyH.cons (by simp only [List.getElem?_toArray, List.getElem?_cons_zero, List.getElem?_cons_succ]; exact rfl) (fun K hK => ?_) AllReadyH.nil
          refine wpo_neqS (.tmp 56) (.tmp 58) rfl (logSec gen index 4 ((b.drop 14).take U)) b rfl rfl ?_
          refine hK.out _ _ ?k11x15z4 (fun hS => ?s11x15z4)
          case k11x15z4 => exact hS
          clear hK K
          try simp only [Act.put, List.setIfInBounds_toArray, List.set_cons_zero, List.set_cons_succ]
          refine wpAnyH_done (by kernel_rfl) ?_ _
          clear hS
          rcases HGOOD.out with ⟨hs, hr⟩ | ⟨hs, hr⟩
          · have HR2 := hid hr
            rw [hs]
            clear hs hr
            go_wp2_with fail
            go_quiet (fail)
            go_wp2
            go_ret2
            exact ⟨by unfold RightRet; rw [HR2.out]; show _ = Ending.returned (.tuple #[.int .i64 ((4 : Nat) : Int), .slice (some ⟨g, o + 14, none⟩) ((b.drop 14).take U).length (cap - 14)]); rw [HPL.out]; rfl, below_drewN HBC.out _⟩
          · have HR2 := hid hr
            rw [hs]
            clear hs hr
            go_wp2
            go_ret2
            exact ⟨by unfold RightRet; rw [HR2.out]; rfl, HBC.out⟩
      · refine wpo_convS (.tmp 57) rfl g o 64 cap b rfl HB64.out.symm hS ?_
        refine hK.out _ _ ?k10x16z4 (fun hS => ?s10x16z4)
        case k10x16z4 => exact hS
        clear hK K
        try simp only [Act.put, List.setIfInBounds_toArray, List.set_cons_zero, List.set_cons_succ]
        refine wpAnyH_ready (rs := [7]) (by kernel_rfl) (by simp) ?_
        refine AllReadyH.cons (by simp only [List.getElem?_toArray, List.getElem?_cons_zero, List.getElem?_cons_succ]; exact rfl) (fun K hK => ?_) AllReadyH.nil
        go_simp
        refine (rsector_any gen index 4 (some ⟨g, o + 14, none⟩) U (cap - 14) ((b.drop 14).take U) HPL.out.symm (by omega) hg hi (by omega) _ (.inr (.inr ⟨g, o + 14, rfl, HPRD.out _ hS⟩))).mono ?_
        rintro e w5 ⟨gs, rfl, hm, hgs, hb5⟩
        have HM := hid hm
        have HBC := hid (HBC.out.trans (hb5.mono HBC.out.size))
        have hS5 := (Keep.ofBelow (F := fun _ => False) hb5).range hS id
        clear hm hgs hb5
        refine hK.out _ _ ?k7x17z4 (fun hS => ?s7x17z4)
        case k7x17z4 => exact hS5
        clear hK K
        try simp only [Act.put, List.setIfInBounds_toArray, List.set_cons_zero, List.set_cons_succ]
        refine wpAnyH_ready (rs := [8]) (by kernel_rfl) (by simp) ?_
        refine AllReadyH.cons (by simp only [List.getElem?_toArray, List.getElem?_cons_zero, List.getElem?_cons_succ]; exact rfl) (fun K hK => ?_) AllReadyH.nil
        refine wpo_convS (.tmp 55) rfl gs 0 64 64 (logSec gen index 4 ((b.drop 14).take U)) rfl HLL.out.symm (HM.out.range fun j v hv => by rw [Nat.zero_add]; exact hv) ?_
        refine hK.out _ _ ?k8x18z4 (fun hS => ?s8x18z4)
        case k8x18z4 => exact hS
        clear hK K
        try simp only [Act.put, List.setIfInBounds_toArray, List.set_cons_zero, List.set_cons_succ]
        refine wpAnyH_ready (rs := [11]) (by kernel_rfl) (by simp) ?_
        refine AllReadyH.cons (by simp only [List.getElem?_toArray, List.getElem?_cons_zero, List.getElem?_cons_succ]; exact rfl) (fun K hK => ?_) AllReadyH.nil
        refine wpo_neqS (.tmp 56) (.tmp 58) rfl (logSec gen index 4 ((b.drop 14).take U)) b rfl rfl ?_
        refine hK.out _ _ ?k11x19z4 (fun hS => ?s11x19z4)
        case k11x19z4 => exact hS
        clear hK K
        try simp only [Act.put, List.setIfInBounds_toArray, List.set_cons_zero, List.set_cons_succ]
        refine wpAnyH_done (by kernel_rfl) ?_ _
        clear hS
        rcases HGOOD.out with ⟨hs, hr⟩ | ⟨hs, hr⟩
        · have HR2 := hid hr
          rw [hs]
          clear hs hr
          go_wp2_with fail
          go_quiet (fail)
          go_wp2
          go_ret2
          exact ⟨by unfold RightRet; rw [HR2.out]; show _ = Ending.returned (.tuple #[.int .i64 ((4 : Nat) : Int), .slice (some ⟨g, o + 14, none⟩) ((b.drop 14).take U).length (cap - 14)]); rw [HPL.out]; rfl, below_drewN HBC.out _⟩
        · have HR2 := hid hr
          rw [hs]
          clear hs hr
          go_wp2
          go_ret2
          exact ⟨by unfold RightRet; rw [HR2.out]; rfl, HBC.out⟩
  omega
end Go.Proofs.Ytlondopgibcikaa
namespace Go.Proofs.Ytlondopgibcikaa
open Go.RowKit Ent

set_option maxRecDepth 100000 in
set_option maxHeartbeats 4000000 in
theorem rscan_any {a : Nat} {F : Nat → Prop} {d : Dev} (f t g : Int) (w : World) (h : RD w a F d) (hlo : d.loose.length ≤ 1073741824) :
    Calls Try.prog 82 #[ptr a, .agg #[.int .i64 f, .int .i64 t, .int .i64 g]] w fun e w' => ∃ v, e = .returned (.tuple #[v, .int .i64 (logScan d f t g).2.1, .int .i64 (logScan d f t g).2.2]) ∧ FreshL w.heap.size w' v (logScan d f t g).1 ∧ Below w.heap.size w w' := by
  have HOK := hid h.1
  obtain ⟨w1, hw1⟩ : ∃ w1, w.alloc (.cells #[.int .i64 f, .int .i64 t, .int .i64 g] 76) = w1 := ⟨_, rfl⟩
  have HW1 := hid hw1
  have HBX : Hid (Blk w1 w.heap.size 76 [.int .i64 f, .int .i64 t, .int .i64 g]) := hid (by rw [← hw1]; exact alloc_new w _)
  have HB1 : Hid (Below w.heap.size w w1) := hid (by rw [← hw1]; exact fresh_alloc w _)
  have H1 := hid (h.below HB1.out)
  clear hw1 h
  unfold ptr
  by_cases hc : checkOf d f t g ≠ 0
  · have HE : Hid (logScan d f t g = ([], 0, checkOf d f t g)) := hid (by unfold logScan; rw [if_pos hc])
    have H3 := hid ((check_code d f t g).resolve_left hc)
    clear hc
    go_enter Try.func82, Try.ntmps82
    go_wp2_with fail
    rw [HW1.out]
    have x0 := HBX.out.cell (j := 0) rfl
    have x1 := HBX.out.cell (j := 1) rfl
    have x2 := HBX.out.cell (j := 2) rfl
    go_wp2_with fail
    clear x0 x1 x2
    refine (rcheck_any f t g w1 H1.out).mono ?_
    rintro e w2 ⟨rfl, hb2⟩
    have HB2 := hid (th HB1.out hb2)
    have H2 := hid (H1.out.below hb2)
    have HBX2 := hid (HBX.out.below hb2 HBX.out.lt)
    clear hb2
    rw [H3.out]
    go_wp2
    go_ret3
    exact ⟨_, by rw [HE.out]; show _ = Ending.returned (.tuple #[_, .int .i64 0, .int .i64 (checkOf d f t g)]); rw [H3.out]; rfl, by rw [HE.out]; exact FreshL.nil _ _, HB2.out⟩
  obtain ⟨h1, h2, h3, h4, h5⟩ := check_ok hc
  have H0 : Hid (checkOf d f t g = 0) := hid (by simpa using hc)
  have HCN := hid hc
  clear hc
  obtain ⟨n, rfl⟩ : ∃ n : Nat, f = (n : Int) := ⟨f.toNat, by omega⟩
  obtain ⟨m, rfl⟩ : ∃ m : Nat, t = (n : Int) + (m : Int) := ⟨(t - n).toNat, by omega⟩
  obtain ⟨gm, rfl⟩ : ∃ gm : Nat, g = (gm : Int) := ⟨g.toNat, by omega⟩
  have hnm : n + m ≤ d.img.length := by omega
  have hlen := HOK.out.len
  have hsub : ((n : Int) + (m : Int) - (n : Int)) = (m : Int) := by omega
  have HSUB := hid hsub
  clear h1 h2 h3 hsub
  cases hout : d.out
  rotate_left
  · have HE : Hid (logScan d n (n + m) gm = ([], 0, 22)) := hid (by unfold logScan; rw [if_neg HCN.out, hout]; rfl)
    have HO := hid hout
    clear hout
    go_enter Try.func82, Try.ntmps82
    go_wp2_with fail
    rw [HW1.out]
    have x0 := HBX.out.cell (j := 0) rfl
    have x1 := HBX.out.cell (j := 1) rfl
    have x2 := HBX.out.cell (j := 2) rfl
    go_wp2_with fail
    clear x0 x1 x2
    refine (rcheck_any n (n + m) gm w1 H1.out).mono ?_
    rintro e w2 ⟨rfl, hb2⟩
    have HB2 := hid (th HB1.out hb2)
    have H2 := hid (H1.out.below hb2)
    have HBX2 := hid (HBX.out.below hb2 HBX.out.lt)
    clear hb2
    rw [H0.out]
    go_wp2_with fail
    refine (outR_any w2 H2.out).mono ?_
    rintro e w' ⟨rfl, hw'⟩
    subst w'
    rw [HO.out]
    go_wp2
    go_ret3
    exact ⟨_, by rw [HE.out]; rfl, by rw [HE.out]; exact FreshL.nil _ _, HB2.out⟩
  have HE : Hid (logScan d n (n + m) gm = ((scanLoop d n gm m 0 [] 0 [] false).1, ((scanLoop d n gm m 0 [] 0 [] false).2 : Int), 0)) := hid (by
    unfold logScan
    rw [if_neg HCN.out, hout, HSUB.out]
    simp only [Int.toNat_natCast]; rfl)
  have HO := hid hout
  clear hout
  go_enter Try.func82, Try.ntmps82
  go_wp2_with fail
  rw [HW1.out]
  have x0 := HBX.out.cell (j := 0) rfl
  have x1 := HBX.out.cell (j := 1) rfl
  have x2 := HBX.out.cell (j := 2) rfl
  go_wp2_with fail
  clear x0 x1 x2
  refine (rcheck_any n (n + m) gm w1 H1.out).mono ?_
  rintro e w2 ⟨rfl, hb2⟩
  have HB2 := hid (th HB1.out hb2)
  have H2 := hid (H1.out.below hb2)
  have HBX2 := hid (HBX.out.below hb2 HBX.out.lt)
  clear hb2
  rw [H0.out]
  go_wp2_with fail
  refine (outR_any w2 H2.out).mono ?_
  rintro e w' ⟨rfl, hw'⟩
  subst w'
  rw [HO.out]
  go_wp2_with fail
  go_loopw [8, 9, 10, 11] (fun v8 nx v10 i wr => ∃ (vo vr : Value) (k : Nat) (out : List (List UInt8)) (next : Nat) (rec : List UInt8) (vs : List Value) (Fb : Nat → Prop), vo = v8 ∧ vr = v10 ∧ k ≤ m ∧ i = .int .i64 k ∧ nx = .int .i64 next ∧ next ≤ k ∧ ScanI w2.heap.size w2 wr vo vr out rec vs Fb ∧ scanLoop d n gm m 0 [] 0 [] false = scanLoop d n gm (m - k) k out next rec (decide (next < k)) ∧ out.length ≤ k ∧ rec.length ≤ 49 * k) (fun _ _ _ i _ => m - (intOf i).toNat)
  case atStart => exact ⟨_, _, 0, [], 0, [], [], _, rfl, rfl, Nat.zero_le _, rfl, rfl, Nat.le_refl _, ScanI.start w2, rfl, Nat.le_refl _, Nat.le_refl _⟩
  case round =>
    obtain ⟨vo, vr, k, out, next, rec, vs, Fb, rfl, rfl, hk, rfl, rfl, hnk, hI, hl, hol, hrl⟩ := hrel
    have HI := hid hI; have HL := hid hl
    have HBr := hid (HBX2.out.below hI.be HBX2.out.lt)
    have HP := hid (H2.out.below hI.be)
    have cb0 := HBr.out.cell (j := 0) rfl
    have cb1 := HBr.out.cell (j := 1) rfl
    have cb2 := HBr.out.cell (j := 2) rfl
    clear hI hl
    by_cases hlt : k < m
    · have HNK : Hid ((n : Int) + (k : Int) = ((n + k : Nat) : Int)) := hid (by omega)
      have hsub1 : decide ((k : Int) < (n : Int) + (m : Int) - (n : Int)) = true := by simp; omega
      have HB64 := hid (read_len HOK.out HO.out (show n + k < d.img.length by omega))
      have HSTEP : Hid (scanLoop d n gm (m - k) k out next rec (decide (next < k)) = match rightOf (d.read ((n + k : Nat) : Int)).1 gm k with
        | none => (out, next)
        | some (kd, p) => if (decide (next < k)) ≠ decide (kd = 3 ∨ kd = 4) then (out, next) else if kd = 2 ∨ kd = 3 then scanLoop d n gm (m - (k + 1)) (k + 1) out next (rec ++ p) true else scanLoop d n gm (m - (k + 1)) (k + 1) (out ++ [rec ++ p]) (k + 1) [] false) := hid (by
          rw [show m - k = (m - (k + 1)) + 1 by omega, scanLoop]; first | done | rfl)
      go_wp2_with fail
      refine (readR_any ((n : Int) + (k : Int)) wr HP.out hlo).mono ?_
      rintro e w4 ⟨v, rfl, hf, hb4⟩
      rw [HNK.out] at hf ⊢
      obtain ⟨b, hbq⟩ : ∃ b, (d.read ((n + k : Nat) : Int)).1 = b := ⟨_, rfl⟩
      rw [hbq] at hf HB64 HSTEP
      obtain ⟨ao, cap, rfl, hcap, hsb, -⟩ := hf
      rw [HB64.out] at hcap ⊢
      obtain ⟨gb, ob, rfl, hrg⟩ : ∃ g o, ao = some ⟨g, o, none⟩ ∧ w4.rangeAt g o (bv b) := by
        rcases hsb with ⟨_, _, h⟩ | ⟨_, _, h⟩ | ⟨g, o, h1, h2⟩
        · have := HB64.out; rw [h] at this; simp at this
        · have := HB64.out; rw [h] at this; simp at this
        · exact ⟨g, o, h1, h2⟩
      have HRG := hid hrg
      have HI4 := hid (HI.out.below hb4)
      have cb24 : w4.cell? ⟨w.heap.size, 2, none⟩ = some (.int .i64 (gm : Int)) := by rw [hb4.cell (World.block_lt_of_cell? wr _ cb2)]; exact cb2
      clear hsb hrg hb4 hbq
      go_wp2_with fail
      refine (rright_any gb ob cap b HB64.out hcap gm k (by omega) (by omega) w4 HRG.out).mono ?_
      rintro e w5 ⟨hR, hb5⟩
      have HI5 := hid (HI4.out.below hb5)
      have HRG5 := hid ((Keep.ofBelow (F := fun _ => False) hb5).range HRG.out id)
      clear hb5
      unfold RightRet at hR
      rcases hro0 : rightOf b gm k with _ | ⟨kd, p⟩
      · have hro := hid hro0
        rw [hro0] at hR
        subst hR
        clear hro0
        have HSL : Hid (scanLoop d n gm m 0 [] 0 [] false = (out, next)) := hid (by rw [HL.out, HSTEP.out, hro.out])
        go_wp2
        go_ret3
        exact ⟨vo, by rw [HE.out, HSL.out]; rfl, by rw [HE.out, HSL.out]; exact (HI5.out.fresh).base HB2.out.size, HB2.out.trans (HI5.out.be.mono HB2.out.size)⟩
      · have hkd := right_kind hro0
        obtain ⟨u, hu⟩ := right_part hro0
        have hro := hid hro0
        rw [hro0] at hR
        subst hR
        have hp49 := hkd.2.2
        have HSBP : Hid (SB w5 (some ⟨gb, ob + 14, none⟩) (cap - 14) p) := hid (.inr (.inr ⟨gb, ob + 14, rfl, fun j v hv => by
          rw [Nat.add_assoc]
          refine HRG5.out (14 + j) v ?_
          rw [bv_get] at hv ⊢
          rw [hu, List.getElem?_take] at hv
          split at hv
          · rwa [List.getElem?_drop] at hv
          · cases hv⟩))
        clear hro0 hu
        obtain rfl | rfl | rfl | rfl : kd = 1 ∨ kd = 2 ∨ kd = 3 ∨ kd = 4 := by omega
        all_goals clear hkd
        all_goals by_cases hbg : next < k
        · have HBG : Hid (decide (next < k) = true) := hid (by simp; omega)
          have hbg2 : decide ((next : Int) < (k : Int)) = true := by simp; omega
          have HSL : Hid (scanLoop d n gm m 0 [] 0 [] false = (out, next)) := hid (by rw [HL.out, HSTEP.out, hro.out]; simp [HBG.out])
          go_wp2
          go_ret3
          exact ⟨vo, by rw [HE.out, HSL.out]; rfl, by rw [HE.out, HSL.out]; exact (HI5.out.fresh).base HB2.out.size, HB2.out.trans (HI5.out.be.mono HB2.out.size)⟩
        · have HBG : Hid (decide (next < k) = false) := hid (by simp; omega)
          have hbg2 : decide ((next : Int) < (k : Int)) = false := by simp; omega
          have HSL : Hid (scanLoop d n gm m 0 [] 0 [] false = scanLoop d n gm (m - (k + 1)) (k + 1) (out ++ [rec ++ p]) (k + 1) [] (decide (k + 1 < k + 1))) := hid (by rw [HL.out, HSTEP.out, hro.out]; simp [HBG.out])
          go_wp2_with (first | (refine wpl_append_at rfl (.tmp 66) (.tmp 67) rfl w2.heap.size vr rec.length rec p rfl HI5.out.rr (some ⟨gb, ob + 14, none⟩) p.length (cap - 14) rfl rfl HSBP.out (by omega) HI5.out.bl ?_; intro v6 w6 ho6 hg6 hw6; obtain ⟨a6, c6, rfl⟩ := own_slice ho6; have HI6 := hid (HI5.out.grew ho6 hg6 hw6); clear ho6 hg6 hw6) | (refine wpl_appendR rowL rfl (.tmp 75) (.tmp 77) rfl w2.heap.size vo out.length vs rfl (HI6.out.below (fresh_alloc w6 _)).oo w6.heap.size rfl [.slice a6 (rec.length + p.length) c6] (alloc_new w6 _) rfl (by intro u hu; simp at hu; subst hu; rfl) (by omega) (HI6.out.below (fresh_alloc w6 _)).bl ?_; intro v7 w7 ho7 hg7 hw7; have HI7 := hid ((HI6.out.below (fresh_alloc w6 (.cells #[.slice a6 (rec.length + p.length) c6] 22))).told ho7 hg7 hw7); clear ho7 hg7 hw7))
          go_roundw
          case rel => exact ⟨_, _, k + 1, out ++ [rec ++ p], k + 1, [], vs ++ [.slice a6 (rec.length + p.length) c6], _, rfl, rfl, by omega, by go_num, by go_num, by omega, HI7.out, HSL.out, by rw [List.length_append]; simp; omega, by simp⟩
          case measure => simp [intOf]; omega
        · have HBG : Hid (decide (next < k) = true) := hid (by simp; omega)
          have hbg2 : decide ((next : Int) < (k : Int)) = true := by simp; omega
          have HSL : Hid (scanLoop d n gm m 0 [] 0 [] false = (out, next)) := hid (by rw [HL.out, HSTEP.out, hro.out]; simp [HBG.out])
          go_wp2
          go_ret3
          exact ⟨vo, by rw [HE.out, HSL.out]; rfl, by rw [HE.out, HSL.out]; exact (HI5.out.fresh).base HB2.out.size, HB2.out.trans (HI5.out.be.mono HB2.out.size)⟩
        · have HBG : Hid (decide (next < k) = false) := hid (by simp; omega)
          have hbg2 : decide ((next : Int) < (k : Int)) = false := by simp; omega
          have HSL : Hid (scanLoop d n gm m 0 [] 0 [] false = scanLoop d n gm (m - (k + 1)) (k + 1) out next (rec ++ p) (decide (next < k + 1))) := hid (by rw [HL.out, HSTEP.out, hro.out]; rw [show decide (next < k + 1) = true from decide_eq_true (by omega)]; simp [HBG.out])
          go_wp2_with (refine wpl_append_at rfl (.tmp 66) (.tmp 67) rfl w2.heap.size vr rec.length rec p rfl HI5.out.rr (some ⟨gb, ob + 14, none⟩) p.length (cap - 14) rfl rfl HSBP.out (by omega) HI5.out.bl ?_; intro v6 w6 ho6 hg6 hw6; obtain ⟨a6, c6, rfl⟩ := own_slice ho6; have HI6 := hid (HI5.out.grew ho6 hg6 hw6); clear ho6 hg6 hw6)
          go_roundw
          case rel => exact ⟨_, _, k + 1, out, next, rec ++ p, vs, Fb, rfl, rfl, by omega, by go_num, rfl, by omega, HI6.out, HSL.out, by omega, by rw [List.length_append]; omega⟩
          case measure => simp [intOf]; omega
        · have HBG : Hid (decide (next < k) = true) := hid (by simp; omega)
          have hbg2 : decide ((next : Int) < (k : Int)) = true := by simp; omega
          have HSL : Hid (scanLoop d n gm m 0 [] 0 [] false = scanLoop d n gm (m - (k + 1)) (k + 1) out next (rec ++ p) (decide (next < k + 1))) := hid (by rw [HL.out, HSTEP.out, hro.out]; rw [show decide (next < k + 1) = true from decide_eq_true (by omega)]; simp [HBG.out])
          go_wp2_with (refine wpl_append_at rfl (.tmp 66) (.tmp 67) rfl w2.heap.size vr rec.length rec p rfl HI5.out.rr (some ⟨gb, ob + 14, none⟩) p.length (cap - 14) rfl rfl HSBP.out (by omega) HI5.out.bl ?_; intro v6 w6 ho6 hg6 hw6; obtain ⟨a6, c6, rfl⟩ := own_slice ho6; have HI6 := hid (HI5.out.grew ho6 hg6 hw6); clear ho6 hg6 hw6)
          go_roundw
          case rel => exact ⟨_, _, k + 1, out, next, rec ++ p, vs, Fb, rfl, rfl, by omega, by go_num, rfl, by omega, HI6.out, HSL.out, by omega, by rw [List.length_append]; omega⟩
          case measure => simp [intOf]; omega
        · have HBG : Hid (decide (next < k) = false) := hid (by simp; omega)
          have hbg2 : decide ((next : Int) < (k : Int)) = false := by simp; omega
          have HSL : Hid (scanLoop d n gm m 0 [] 0 [] false = (out, next)) := hid (by rw [HL.out, HSTEP.out, hro.out]; simp [HBG.out])
          go_wp2
          go_ret3
          exact ⟨vo, by rw [HE.out, HSL.out]; rfl, by rw [HE.out, HSL.out]; exact (HI5.out.fresh).base HB2.out.size, HB2.out.trans (HI5.out.be.mono HB2.out.size)⟩
        · have HBG : Hid (decide (next < k) = true) := hid (by simp; omega)
          have hbg2 : decide ((next : Int) < (k : Int)) = true := by simp; omega
          have HSL : Hid (scanLoop d n gm m 0 [] 0 [] false = scanLoop d n gm (m - (k + 1)) (k + 1) (out ++ [rec ++ p]) (k + 1) [] (decide (k + 1 < k + 1))) := hid (by rw [HL.out, HSTEP.out, hro.out]; simp [HBG.out])
          go_wp2_with (first | (refine wpl_append_at rfl (.tmp 66) (.tmp 67) rfl w2.heap.size vr rec.length rec p rfl HI5.out.rr (some ⟨gb, ob + 14, none⟩) p.length (cap - 14) rfl rfl HSBP.out (by omega) HI5.out.bl ?_; intro v6 w6 ho6 hg6 hw6; obtain ⟨a6, c6, rfl⟩ := own_slice ho6; have HI6 := hid (HI5.out.grew ho6 hg6 hw6); clear ho6 hg6 hw6) | (refine wpl_appendR rowL rfl (.tmp 75) (.tmp 77) rfl w2.heap.size vo out.length vs rfl (HI6.out.below (fresh_alloc w6 _)).oo w6.heap.size rfl [.slice a6 (rec.length + p.length) c6] (alloc_new w6 _) rfl (by intro u hu; simp at hu; subst hu; rfl) (by omega) (HI6.out.below (fresh_alloc w6 _)).bl ?_; intro v7 w7 ho7 hg7 hw7; have HI7 := hid ((HI6.out.below (fresh_alloc w6 (.cells #[.slice a6 (rec.length + p.length) c6] 22))).told ho7 hg7 hw7); clear ho7 hg7 hw7))
          go_roundw
          case rel => exact ⟨_, _, k + 1, out ++ [rec ++ p], k + 1, [], vs ++ [.slice a6 (rec.length + p.length) c6], _, rfl, rfl, by omega, by go_num, by go_num, by omega, HI7.out, HSL.out, by rw [List.length_append]; simp; omega, by simp⟩
          case measure => simp [intOf]; omega
        · have HBG : Hid (decide (next < k) = false) := hid (by simp; omega)
          have hbg2 : decide ((next : Int) < (k : Int)) = false := by simp; omega
          have HSL : Hid (scanLoop d n gm m 0 [] 0 [] false = (out, next)) := hid (by rw [HL.out, HSTEP.out, hro.out]; simp [HBG.out])
          go_wp2
          go_ret3
          exact ⟨vo, by rw [HE.out, HSL.out]; rfl, by rw [HE.out, HSL.out]; exact (HI5.out.fresh).base HB2.out.size, HB2.out.trans (HI5.out.be.mono HB2.out.size)⟩
    · have hk9 : k = m := by omega
      have hsub2 : decide ((k : Int) < (n : Int) + (m : Int) - (n : Int)) = false := by simp; omega
      have HSL : Hid (scanLoop d n gm m 0 [] 0 [] false = (out, next)) := hid (by rw [HL.out, hk9, Nat.sub_self, scanLoop])
      go_wp2
      go_ret3
      exact ⟨vo, by rw [HE.out, HSL.out]; rfl, by rw [HE.out, HSL.out]; exact (HI.out.fresh).base HB2.out.size, HB2.out.trans (HI.out.be.mono HB2.out.size)⟩
end Go.Proofs.Ytlondopgibcikaa
namespace Go.Proofs.Ytlondopgibcikaa
open Go.RowKit Ent

theorem FreshL.below {B : Nat} {w w' : World} {v : Value} {L : List (List UInt8)} (h : FreshL B w v L) (hb : Below w.heap.size w w') : FreshL B w' v L := by
  obtain ⟨vs, Fb, h1, h2, h3, h4⟩ := h
  exact ⟨vs, Fb, owns_below h1 hb, h2.keep (Keep.ofBelow (F := fun _ => False) hb) (fun _ _ => id), fun k hk => ⟨(h3 k hk).1, Nat.lt_of_lt_of_le (h3 k hk).2 hb.size⟩, h4⟩
section
variable {B : Nat} {w0 w w1 : World} {As : List Asset} {a : Nat} {d : Dev}
theorem St.rlog_blank (h : St B w0 w As) (i : Nat) (hi : As[i]? = some (rdev a d)) (f t g : Int) (hlo : d.loose.length ≤ 1073000000) :
    Calls Try.prog 75 #[ptr a, .agg #[.int .i64 f, .int .i64 t, .int .i64 g]] w fun e w' => e = .returned (.int .i64 (blankOf d f t g).1) ∧ St B w0 w' (As.set i (rdev a (blankOf d f t g).2)) := by
  obtain ⟨F, hA, hF, ho, hcl⟩ := h.open i hi
  refine (rblank_any f t g w hA (fun k hk => (hF k hk).2) hlo).mono ?_
  rintro e w' ⟨he, hp, hk⟩
  exact ⟨he, hcl w' _ _ hk (good_rdev _ _) hp (fun _ h => h)⟩
theorem St.rlog_write (h : St B w0 w As) (i : Nat) (hi : As[i]? = some (rdev a d)) (f t g at_ : Int) (ao : Option Addr) (rn rc : Nat) (rec : List UInt8) (hrn : rn = rec.length) (hrc : rn ≤ rc) (hrm : rn ≤ 9223372036854775807) (hs : SB w ao rc rec) (hlo : d.loose.length ≤ 1073000000) (ha1 : -9223372036854775808 ≤ at_ ∧ at_ ≤ 9223372036854775807) :
    Calls Try.prog 76 #[ptr a, .agg #[.int .i64 f, .int .i64 t, .int .i64 g], .int .i64 at_, .slice ao rn rc] w fun e w' => e = .returned (.tuple #[.int .i64 (logWrite d f t g at_ rec).1.1, .int .i64 (logWrite d f t g at_ rec).1.2]) ∧ St B w0 w' (As.set i (rdev a (logWrite d f t g at_ rec).2)) := by
  obtain ⟨F, hA, hF, ho, hcl⟩ := h.open i hi
  refine (rwrite_any f t g at_ ao rn rc rec hrn hrc hrm w hs hA (fun k hk => (hF k hk).2) hlo ha1).mono ?_
  rintro e w' ⟨he, hp, hk⟩
  exact ⟨he, hcl w' _ _ hk (good_rdev _ _) hp (fun _ h => h)⟩
theorem St.rlog_scan (h : St B w0 w As) (i : Nat) (hi : As[i]? = some (rdev a d)) (f t g : Int) (hlo : d.loose.length ≤ 1073000000) :
    Calls Try.prog 82 #[ptr a, .agg #[.int .i64 f, .int .i64 t, .int .i64 g]] w fun e w' => ∃ v, e = .returned (.tuple #[v, .int .i64 (logScan d f t g).2.1, .int .i64 (logScan d f t g).2.2]) ∧ FreshL w.heap.size w' v (logScan d f t g).1 ∧ Below w.heap.size w w' := by
  obtain ⟨F, hA, _⟩ := h.open i hi
  exact rscan_any f t g w hA (by omega)
theorem St.rlog_check (h : St B w0 w As) (i : Nat) (hi : As[i]? = some (rdev a d)) (f t g : Int) :
    Calls Try.prog 84 #[ptr a, .agg #[.int .i64 f, .int .i64 t, .int .i64 g]] w fun e w' => e = .returned (.int .i64 (checkOf d f t g)) ∧ Below w.heap.size w w' := by
  obtain ⟨F, hA, _⟩ := h.open i hi
  exact rcheck_any f t g w hA
/-- bytes at the head of a row of one's own are written into the log -/
theorem St.log_write4 (h : St B w0 w As) (i : Nat) (hi : As[i]? = some (dev a d)) (f t g at_ : Int) (j : Nat) (hij : i ≠ j) (gl m c rn : Nat) (rec tail : List UInt8) (hj : As[j]? = some (ownA 5 1 (.slice (some ⟨gl, 0, none⟩) m c) m (bv (rec ++ tail)))) (hrn : rn = rec.length) (hrm : rn ≤ 1073741824) (hlo : d.loose.length ≤ 1073000000) (ha1 : -9223372036854775808 ≤ at_ ∧ at_ ≤ 9223372036854775807) :
    Calls Try.prog 64 #[ptr a, .agg #[.int .i64 f, .int .i64 t, .int .i64 g], .int .i64 at_, .slice (some ⟨gl, 0, none⟩) rn c] w fun e w' => e = .returned (.tuple #[.int .i64 (logWrite d f t g at_ rec).1.1, .int .i64 (logWrite d f t g at_ rec).1.2]) ∧ St B w0 w' (As.set i (dev a (logWrite d f t g at_ rec).2)) := by
  obtain ⟨F, hA, hF, ho, hcl⟩ := h.open i hi
  obtain ⟨G, hG, _, hFG⟩ := ho j _ hij hj
  obtain ⟨hl, hc, hr⟩ := own_range hG.1
  have hs := range_split hr
  refine (logWrite_any f t g at_ (some ⟨gl, 0, none⟩) rn c rec hrn (by rw [List.length_append] at hl; omega) (by omega) w (.inr (.inr ⟨gl, 0, rfl, hs.1⟩)) (fun _ x hx hf => by injection hx with hx; subst hx; exact hFG _ hf (hG.2 gl rfl)) hA (fun k hk => (hF k hk).2) hlo ha1).mono ?_
  rintro e w' ⟨he, hp, hk⟩
  exact ⟨he, hcl w' _ _ hk (good_dev _ _) hp (fun _ h => h)⟩
/-- a new row of one's own -/
theorem St.addRow (h : St B w0 w As) (hb : Below w.heap.size w w1) {T : TypeId} {s : Nat} {v : Value} {q : Nat} {vs : List Value} (ho : w1.ownsRow w.heap.size T s v q vs) : St B w0 w1 (As ++ [ownA T s v q vs]) :=
  h.add hb (F := fun k => v.ownBlock = some k) (good_ownA _ _ _ _ _) ⟨owns_mono ho (Nat.zero_le _), fun _ hk => hk⟩ (fun k hk => ho.lt k hk)
/-- .. is written over, and forgotten -/
theorem St.ownLost (h : St B w0 w As) (i : Nat) {T : TypeId} {s : Nat} {v : Value} {q : Nat} {vs : List Value} (hi : As[i]? = some (ownA T s v q vs)) (hk : Keep (fun k => v.ownBlock = some k) w w1) : St B w0 w1 (As.set i noA) := by
  obtain ⟨F, hA, hF, _, hcl⟩ := h.open i hi
  exact hcl w1 _ F (hk.mono fun k _ e => hA.2 k e) good_noA trivial (fun k hk => .inl hk)
end
theorem scan_short (d : Dev) (base gen M : Nat) : ∀ (m i : Nat) (out : List (List UInt8)) (next : Nat) (rec : List UInt8) (b : Bool), (∀ l ∈ out, l.length ≤ M) → rec.length + 49 * m ≤ M → ∀ l ∈ (scanLoop d base gen m i out next rec b).1, l.length ≤ M
  | 0, _, out, _, _, _, h, _ => h
  | m + 1, i, out, next, rec, b, h, hr => by
    rw [scanLoop]
    rcases hro : rightOf (d.read ((base + i : Nat) : Int)).1 gen i with _ | ⟨k, p⟩
    · exact h
    · have h49 := (right_kind hro).2.2
      simp only
      split
      · exact h
      · split
        · exact scan_short d base gen M m _ _ _ _ _ h (by rw [List.length_append]; omega)
        · refine scan_short d base gen M m _ _ _ _ _ (fun l hl => ?_) (by simp; omega)
          rcases List.mem_append.1 hl with hl | hl
          · exact h l hl
          · simp at hl; subst hl; rw [List.length_append]; omega
theorem logScan_short {d : Dev} (h : d.ok) (f t g : Int) : ∀ l ∈ (logScan d f t g).1, l.length ≤ 3211264 := by
  have := h.len
  unfold logScan
  split
  · simp
  · rename_i hc
    have hc := check_ok hc
    split
    · simp
    · exact scan_short d _ _ _ _ 0 [] 0 [] false (by simp) (by simp; omega)
theorem blankLoop_loose : ∀ (m : Nat) (d : Dev) (i : Nat), (blankLoop d i m).2.loose.length ≤ d.loose.length + m ∧ (blankLoop d i m).2.img.length = d.img.length
  | 0, d, i => ⟨Nat.le_refl _, rfl⟩
  | m + 1, d, i => by
    have h1 := write_loose d (i : Int) (zr 64)
    rw [blankLoop]
    split
    · exact ⟨by omega, h1.2⟩
    · have h2 := blankLoop_loose m (d.write (i : Int) (zr 64)).2 (i + 1)
      exact ⟨by omega, by rw [h2.2, h1.2]⟩
theorem blank_loose (d : Dev) (f t g : Int) : (blankOf d f t g).2.loose.length ≤ d.loose.length + d.img.length ∧ (blankOf d f t g).2.img.length = d.img.length := by
  unfold blankOf
  split
  · exact ⟨Nat.le_add_right _ _, rfl⟩
  · rename_i hc
    obtain ⟨c1, c2, c3, -, -⟩ := check_ok hc
    have h9 : (t - f).toNat ≤ d.img.length := by omega
    have h1 := blankLoop_loose (t - f).toNat d f.toNat
    split
    · exact ⟨by omega, h1.2⟩
    · have h2 := flush_loose (blankLoop d f.toNat (t - f).toNat).2
      exact ⟨by omega, by rw [h2.2, h1.2]⟩
theorem writeLoop_loose (gen at_ base many : Nat) : ∀ (ps : List (List UInt8)) (i : Nat) (d : Dev), (writeLoop gen at_ base many i ps d).2.loose.length ≤ d.loose.length + ps.length ∧ (writeLoop gen at_ base many i ps d).2.img.length = d.img.length
  | [], i, d => ⟨Nat.le_refl _, rfl⟩
  | p :: ps, i, d => by
    have h1 := write_loose d ((base + at_ + i : Nat) : Int) (logSec gen (at_ + i) (kindOf i many) p)
    rw [writeLoop]
    split
    · exact ⟨by rw [List.length_cons]; omega, h1.2⟩
    · have h2 := writeLoop_loose gen at_ base many ps (i + 1) (d.write ((base + at_ + i : Nat) : Int) (logSec gen (at_ + i) (kindOf i many) p)).2
      exact ⟨by rw [List.length_cons]; omega, by rw [h2.2, h1.2]⟩
theorem lwrite_loose (d : Dev) (f t g at_ : Int) (rec : List UInt8) : (logWrite d f t g at_ rec).2.loose.length ≤ d.loose.length + d.img.length ∧ (logWrite d f t g at_ rec).2.img.length = d.img.length := by
  unfold logWrite
  split
  · exact ⟨Nat.le_add_right _ _, rfl⟩
  · rename_i hc
    have hc := check_ok hc
    split
    · exact ⟨Nat.le_add_right _ _, rfl⟩
    · split
      · exact ⟨Nat.le_add_right _ _, rfl⟩
      · split
        · exact ⟨Nat.le_add_right _ _, rfl⟩
        · rename_i ha _ hf
          have h1 := writeLoop_loose g.toNat at_.toNat f.toNat (needOf rec.length) (partsOf rec) 0 d
          rw [partsOf_len] at h1
          split <;> exact ⟨by simp only; omega, h1.2⟩
/-- what an act makes of a device -/
def act6 (d : Dev) (x : Act6) : Dev :=
  if x.kind = 0 then (blankOf d x.f x.t x.g).2 else if x.kind = 1 then (logWrite d x.f x.t x.g x.n x.b).2 else if x.kind = 2 then d.flush.2 else if x.kind = 3 then (d.crash x.keep x.n).2
  else if x.kind = 4 then (d.setFuse x.n).2 else if x.kind = 5 then (d.write x.n (secB x.b)).2 else d
theorem act6_loose (d : Dev) (x : Act6) : (act6 d x).loose.length ≤ d.loose.length + d.img.length + 1 ∧ (act6 d x).img.length = d.img.length := by
  unfold act6
  split
  · have := blank_loose d x.f x.t x.g; exact ⟨by omega, this.2⟩
  · split
    · have := lwrite_loose d x.f x.t x.g x.n x.b; exact ⟨by omega, this.2⟩
    · split
      · have := flush_loose d; exact ⟨by omega, this.2⟩
      · split
        · have := crash_loose d x.keep x.n; exact ⟨by omega, this.2⟩
        · split
          · rw [(fuse_loose _ _).1, (fuse_loose _ _).2]; exact ⟨by omega, rfl⟩
          · split
            · have := write_loose d x.n (secB x.b); exact ⟨by omega, this.2⟩
            · exact ⟨by omega, rfl⟩
end Go.Proofs.Ytlondopgibcikaa
