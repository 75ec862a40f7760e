/- The document's vault (entrepotref07): area, right. The greatest generation that was found: cmp.Compare, slices.MaxFunc. The greatest generation that was found: slices.MaxFunc. -/
import Derived.Test.YtlondopgibcikaaGreatRows
import Derived.Test.YtlondopgibcikaaGreatG01
import Derived.Test.YtlondopgibcikaaGreatG02
import Derived.Test.YtlondopgibcikaaGreatG06
import Derived.Test.YtlondopgibcikaaGreatG07
import Derived.Test.YtlondopgibcikaaGreatG13
import Derived.Test.YtlondopgibcikaaGreatG14
import Derived.Test.YtlondopgibcikaaGreatG21
import Derived.Test.YtlondopgibcikaaGreatG22
import Derived.Test.YtlondopgibcikaaGreatG23
import Derived.Test.YtlondopgibcikaaGreatG26
import Derived.WalkKit
import Derived.WalkSpells
import Derived.WalkLawsBesides
import Derived.Deep.RegionHeld3
import Derived.Deep.QuietTactic
import Derived.BigQuiet
namespace Go.Proofs.YtlondopgibcikaaGreat
open Go.RowKit Ent
set_option maxRecDepth 100000 in
set_option maxHeartbeats 400000 in
theorem rarea_any (gen n : Nat) (hg : gen ≤ 2147483648) (hn : 2 ≤ n) (hlen : n ≤ 65536) (w : World) :
    Calls Tryz.prog 78 #[.int .i64 gen, .int .i64 n] w fun e w' => e = .returned (.agg #[.int .i64 (fromOf n gen : Nat), .int .i64 (fromOf n gen + halfOf n : Nat), .int .i64 gen]) ∧ Below w.heap.size w w' := by
  obtain ⟨hf, hhf⟩ : ∃ hf, halfOf n = hf := ⟨_, rfl⟩
  obtain ⟨fr, hfr⟩ : ∃ fr, fromOf n gen = fr := ⟨_, rfl⟩
  obtain ⟨r, hr⟩ : ∃ r, gen % 2 = r := ⟨_, rfl⟩
  have hr2 : r < 2 := by omega
  have HR : Hid ((gen : Int) % 2 = (r : Int)) := hid (by omega)
  have HH : Hid (((n : Int) - 2) / 2 = (hf : Int)) := hid (by rw [← hhf, halfOf]; omega)
  have hhfb : hf ≤ 65536 := by rw [← hhf]; unfold halfOf; omega
  have HF2 : Hid (2 + (r : Int) * (hf : Int) = (fr : Int)) := hid (by
    rw [← hfr, fromOf, hr, hhf]; push_cast; rfl)
  have hfrb : fr ≤ 131072 := by
    rw [← hfr, fromOf, hr, hhf]
    have : r * hf ≤ 1 * 65536 := Nat.mul_le_mul (by omega) hhfb
    omega
  have E1 : Hid (wrap64 (2 + wrap64 ((gen : Int) % 2 * (((n : Int) - 2) / 2))) = (fr : Int)) := hid (by
    have h1 : (r : Int) * (hf : Int) ≤ 65536 := by
      have : r * hf ≤ 1 * 65536 := Nat.mul_le_mul (by omega) hhfb
      omega
    have h0 : (0 : Int) ≤ (r : Int) * (hf : Int) := Int.mul_nonneg (by omega) (by omega)
    rw [HR.out, HH.out, IntWalk.wrap64_in ((r : Int) * (hf : Int)) (by omega), HF2.out, IntWalk.wrap64_in _ (by omega)])
  have E2 : Hid (wrap64 ((fr : Int) + (((n : Int) - 2) / 2)) = ((fr + hf : Nat) : Int)) := hid (by
    rw [HH.out, IntWalk.wrap64_in _ (by omega)]; omega)
  rw [hhf, hfr]
  clear hhf hfr hr
  go_enter Tryz.func78, Tryz.ntmps78
  go_wp2_with fail
  rw [E1.out, E2.out]
  refine bodyPost_ret (results_cell_row rfl _ _ w.heap.size 99 #[.int .i64 (fr : Nat), .int .i64 (fr + hf : Nat), .int .i64 gen] (0, 0) _ rfl (alloc_new w _) Tryz.underlying99 rfl (by kernel_rfl)) rfl ⟨rfl, fresh_alloc w _⟩
/-- the generation that a sector tells, if it is a superblock; or none -/
def rightG (b : List UInt8) (n : Nat) : Nat := if isSup b n then genOf b else 0
theorem isSup_sec (b : List UInt8) (n : Nat) : isSup b n = (decide (1 ≤ genOf b) && decide (genOf b ≤ 2147483647) && sameB b (supSec (genOf b) n)) := by
  unfold isSup supSec
  congr 1
  rw [Bool.eq_iff_iff, Bool.and_eq_true, same_iff, same_iff, same_iff]
  have hh := supHalf_len (genOf b) n
  generalize supHalf (genOf b) n = H at hh ⊢
  constructor
  · rintro ⟨h1, h2⟩
    have h3 : b.take 32 ++ b.drop 32 = b := List.take_append_drop 32 b
    rw [← h2, h1] at h3
    exact h3.symm
  · intro h
    have t1 : (H ++ H).take 32 = H := List.take_left' hh
    have t2 : (H ++ H).drop 32 = H := List.drop_left' hh
    rw [h]
    exact ⟨t1, by rw [t1, t2]⟩
theorem or24 (a b : Nat) (hb : b < 16777216) : a * 16777216 ||| b = a * 16777216 + b := by
  have := Nat.two_pow_add_eq_or_of_lt (i := 24) (b := b) (by simpa only [Nat.reducePow] using hb) a
  simp only [Nat.reducePow] at this
  rw [Nat.mul_comm a, this]
theorem or16 (a b : Nat) (hb : b < 65536) : a * 65536 ||| b = a * 65536 + b := by
  have := Nat.two_pow_add_eq_or_of_lt (i := 16) (b := b) (by simpa only [Nat.reducePow] using hb) a
  simp only [Nat.reducePow] at this
  rw [Nat.mul_comm a, this]
theorem or8 (a b : Nat) (hb : b < 256) : a * 256 ||| b = a * 256 + b := by
  have := Nat.two_pow_add_eq_or_of_lt (i := 8) (b := b) (by simpa only [Nat.reducePow] using hb) a
  simp only [Nat.reducePow] at this
  rw [Nat.mul_comm a, this]
theorem genOf_at {l : List UInt8} {x4 x5 x6 x7 : UInt8} (h4 : l[4]? = some x4) (h5 : l[5]? = some x5) (h6 : l[6]? = some x6) (h7 : l[7]? = some x7) : genOf l = ((x4.toNat * 256 + x5.toNat) * 256 + x6.toNat) * 256 + x7.toNat := by
  have : (l.drop 4).take 4 = [x4, x5, x6, x7] := by
    apply List.ext_getElem?
    intro i
    rw [List.getElem?_take, List.getElem?_drop]
    rcases (by omega : i = 0 ∨ i = 1 ∨ i = 2 ∨ i = 3 ∨ 4 ≤ i) with rfl | rfl | rfl | rfl | h
    · simpa using h4
    · simpa using h5
    · simpa using h6
    · simpa using h7
    · rw [if_neg (by omega)]; simp; omega
  unfold genOf
  rw [this]
  simp [numOf]
set_option maxRecDepth 100000 in
set_option maxHeartbeats 1000000 in
theorem r7right_any (ao : Option Addr) (cap : Nat) (l : List UInt8) (n : Nat) (hl : l.length = 64) (hn : n ≤ 65536) (w : World) (hs : SB w ao cap l) :
    Calls Tryz.prog 114 #[.slice ao 64 cap, .int .i64 n] w fun e w' => e = .returned (.int .i64 (rightG l n : Nat)) ∧ Below w.heap.size w w' := by
  obtain ⟨x4, h4⟩ : ∃ x, l[4]? = some x := ⟨_, List.getElem?_eq_getElem (by omega)⟩
  obtain ⟨x5, h5⟩ : ∃ x, l[5]? = some x := ⟨_, List.getElem?_eq_getElem (by omega)⟩
  obtain ⟨x6, h6⟩ : ∃ x, l[6]? = some x := ⟨_, List.getElem?_eq_getElem (by omega)⟩
  obtain ⟨x7, h7⟩ : ∃ x, l[7]? = some x := ⟨_, List.getElem?_eq_getElem (by omega)⟩
  have hgen := genOf_at h4 h5 h6 h7
  have hgl := genOf_lt l
  have hSup := isSup_sec l n
  obtain ⟨b, o, rfl, hr⟩ : ∃ b o, ao = some ⟨b, o, none⟩ ∧ w.rangeAt b o (bv l) := by
    rcases hs with ⟨rfl, rfl, rfl⟩ | ⟨a, rfl, rfl⟩ | ⟨b, o, rfl, hr⟩
    · simp at hl
    · simp at hl
    · exact ⟨b, o, rfl, hr⟩
  have c4 := rangeAt_byte hr h4
  have c5 := rangeAt_byte hr h5
  have c6 := rangeAt_byte hr h6
  have c7 := rangeAt_byte hr h7
  have b4 := x4.toNat_lt
  have b5 := x5.toNat_lt
  have b6 := x6.toNat_lt
  have b7 := x7.toNat_lt
  generalize x4.toNat = y4 at *
  generalize x5.toNat = y5 at *
  generalize x6.toNat = y6 at *
  generalize x7.toNat = y7 at *
  obtain ⟨s1, hs1⟩ : ∃ s1, y4 * 16777216 + y5 * 65536 = s1 := ⟨_, rfl⟩
  obtain ⟨s2, hs2⟩ : ∃ s2, s1 + y6 * 256 = s2 := ⟨_, rfl⟩
  obtain ⟨s3, hs3⟩ : ∃ s3, s2 + y7 = s3 := ⟨_, rfl⟩
  have o1 : bits BinOp.or IntKind.i64 ((y4 : Int) * 16777216) ((y5 : Int) * 65536) = (s1 : Int) := by
    have := i64_or_nat (y4 * 16777216) (y5 * 65536) (by omega) (by omega)
    rw [or24 _ _ (by omega), hs1] at this
    rw [← this]; congr 1
  have o2 : bits BinOp.or IntKind.i64 (s1 : Int) ((y6 : Int) * 256) = (s2 : Int) := by
    have := i64_or_nat s1 (y6 * 256) (by omega) (by omega)
    rw [show s1 ||| y6 * 256 = s2 by rw [← hs2, show s1 = (y4 * 256 + y5) * 65536 by omega, or16 _ _ (by omega)]] at this
    rw [← this]; congr 1
  have o3 : bits BinOp.or IntKind.i64 (s2 : Int) (y7 : Int) = (s3 : Int) := by
    have := i64_or_nat s2 y7 (by omega) (by omega)
    rw [show s2 ||| y7 = s3 by rw [← hs3, show s2 = ((y4 * 256 + y5) * 256 + y6) * 256 by omega, or8 _ _ (by omega)]] at this
    exact this
  have HG : Hid (genOf l = s3) := hid (by omega)
  have hs3b : s3 < 4294967296 := by rw [← HG.out]; exact hgl
  rw [HG.out] at hSup
  have HL := hid hl; have HSUP := hid hSup
  have HRT : Hid (rightG l n = if isSup l n then s3 else 0) := hid (by unfold rightG; rw [HG.out])
  have HS : Hid (SB w (some ⟨b, o, none⟩) cap l) := hid (.inr (.inr ⟨b, o, rfl, hr⟩))
  clear hs1 hs2 hs3 hgen hgl h4 h5 h6 h7 hr hl hSup hs
  by_cases g1 : s3 < 1
  · have hd1 : decide ((s3 : Int) < 1) = true := decide_eq_true (by omega)
    have HE : Hid (rightG l n = 0) := hid (by rw [HRT.out, HSUP.out, show decide (1 ≤ s3) = false from decide_eq_false (by omega)]; rfl)
    go_enter Tryz.func114, Tryz.ntmps114
    go_wp2_with fail
    go_quiet (fail)
    go_wp2
    go_ret
    exact ⟨by rw [HE.out]; rfl, below_drewN (Below.refl _ _) _⟩
  · have hd1 : decide ((s3 : Int) < 1) = false := decide_eq_false (by omega)
    by_cases g2 : 2147483647 < s3
    · have hd2 : decide ((2147483647 : Int) < (s3 : Int)) = true := decide_eq_true (by omega)
      have HE : Hid (rightG l n = 0) := hid (by rw [HRT.out, HSUP.out, show decide (s3 ≤ 2147483647) = false from decide_eq_false (by omega), Bool.and_false]; rfl)
      go_enter Tryz.func114, Tryz.ntmps114
      go_wp2_with fail
      go_quiet (fail)
      go_wp2
      go_ret
      exact ⟨by rw [HE.out]; rfl, below_drewN (Below.refl _ _) _⟩
    · have hd2 : decide ((2147483647 : Int) < (s3 : Int)) = false := decide_eq_false (by omega)
      have HE : Hid (rightG l n = if sameB l (supSec s3 n) then s3 else 0) := hid (by rw [HRT.out, HSUP.out, show decide (1 ≤ s3) = true from decide_eq_true (by omega), show decide (s3 ≤ 2147483647) = true from decide_eq_true (by omega)]; rfl)
      go_enter Tryz.func114, Tryz.ntmps114
      go_wp2_with fail
      go_quiet (fail)
      go_wp2_with fail
      refine (rsuper_any s3 n (by omega) (by omega) _).mono ?_
      rintro e w2 ⟨v, rfl, ho, hb⟩
      obtain ⟨a2, c2, rfl, _, hs2⟩ := SB.ofOwns ho
      have HB2 : Hid (Below w.heap.size w w2) := hid (th (below_drewN (Below.refl _ _) _) hb)
      have HS1 := hid (HS.out.below HB2.out)
      have HS2 := hid hs2
      clear ho hb hs2
      go_wp2_with fail
      refine (same_any (some ⟨b, o, none⟩) a2 64 64 cap c2 l (supSec s3 n) HL.out.symm (supSec_len s3 n).symm w2 HS1.out HS2.out).mono ?_
      rintro e w3 ⟨rfl, hw3⟩
      subst w3
      rcases hsm : sameB l (supSec s3 n) with _ | _
      · have HE2 : Hid (rightG l n = 0) := hid (by rw [HE.out, hsm]; rfl)
        go_wp2
        go_ret
        exact ⟨by rw [HE2.out]; rfl, HB2.out⟩
      · have HE2 : Hid (rightG l n = s3) := hid (by rw [HE.out, hsm]; rfl)
        go_wp2
        go_ret
        exact ⟨by rw [HE2.out]; rfl, HB2.out⟩
end Go.Proofs.YtlondopgibcikaaGreat
namespace Go.Proofs.YtlondopgibcikaaGreat
open Go.RowKit Ent
def cmpOf (x y : Int) : Int := if x < y then -1 else if y < x then 1 else 0
set_option maxRecDepth 100000 in
theorem nan_any (x : Int) (w : World) : Calls Tryz.prog 97 #[.int .i64 x] w fun e w' => e = .returned (.bool false) ∧ w' = w := by
  go_enter Tryz.func97, Tryz.ntmps97
  go_wp2
  go_ret
  exact ⟨rfl, rfl⟩
set_option maxRecDepth 100000 in
theorem cmp_any (x y : Int) (w : World) : Calls Tryz.prog 61 #[.int .i64 x, .int .i64 y] w fun e w' => e = .returned (.int .i64 (cmpOf x y)) ∧ w' = w := by
  by_cases h1 : x < y
  · have q1 : decide (x < y) = true := decide_eq_true h1
    have HE : Hid (cmpOf x y = -1) := hid (by unfold cmpOf; rw [if_pos h1])
    clear h1
    go_enter Tryz.func61, Tryz.ntmps61
    go_wp2_with fail
    refine (nan_any x w).mono ?_
    rintro e w' ⟨rfl, hw'⟩
    subst w'
    go_wp2_with fail
    refine (nan_any y w).mono ?_
    rintro e w' ⟨rfl, hw'⟩
    subst w'
    go_wp2
    go_ret
    rw [HE.out]
    exact ⟨rfl, rfl⟩
  · have q1 : decide (x < y) = false := decide_eq_false h1
    by_cases h2 : y < x
    · have q2 : decide (y < x) = true := decide_eq_true h2
      have HE : Hid (cmpOf x y = 1) := hid (by unfold cmpOf; rw [if_neg h1, if_pos h2])
      clear h1 h2
      go_enter Tryz.func61, Tryz.ntmps61
      go_wp2_with fail
      refine (nan_any x w).mono ?_
      rintro e w' ⟨rfl, hw'⟩
      subst w'
      go_wp2_with fail
      refine (nan_any y w).mono ?_
      rintro e w' ⟨rfl, hw'⟩
      subst w'
      go_wp2
      go_ret
      rw [HE.out]
      exact ⟨rfl, rfl⟩
    · have q2 : decide (y < x) = false := decide_eq_false h2
      have HE : Hid (cmpOf x y = 0) := hid (by unfold cmpOf; rw [if_neg h1, if_neg h2])
      clear h1 h2
      go_enter Tryz.func61, Tryz.ntmps61
      go_wp2_with fail
      refine (nan_any x w).mono ?_
      rintro e w' ⟨rfl, hw'⟩
      subst w'
      go_wp2_with fail
      refine (nan_any y w).mono ?_
      rintro e w' ⟨rfl, hw'⟩
      subst w'
      go_wp2
      go_ret
      rw [HE.out]
      exact ⟨rfl, rfl⟩
set_option maxRecDepth 100000 in
theorem open1_any (x y : Int) (w : World) : Calls Tryz.prog 60 #[.agg #[.int .i64 x], .agg #[.int .i64 y]] w fun e w' => e = .returned (.int .i64 (cmpOf x y)) ∧ Below w.heap.size w w' := by
  go_enter Tryz.func60, Tryz.ntmps60
  go_wp2_with fail
  refine (cmp_any x y _).mono ?_
  rintro e w' ⟨rfl, hw'⟩
  subst w'
  go_wp2
  go_ret
  exact ⟨rfl, ((Below.refl _ _).alloc (Nat.le_refl _) _).alloc (by rw [World.size_alloc]; omega) _⟩
end Go.Proofs.YtlondopgibcikaaGreat
namespace Go.Proofs.YtlondopgibcikaaGreat
open Go.RowKit Ent
/-- the greatest of some -/
def maxOf (gs : List Nat) : Nat := gs.foldl max 0
theorem maxOf_take {gs : List Nat} {k x : Nat} (h : gs[k]? = some x) : maxOf (gs.take (k + 1)) = max (maxOf (gs.take k)) x := by
  unfold maxOf
  rw [List.take_add_one, h, Option.toList_some, List.foldl_append]
  rfl
set_option maxRecDepth 100000 in
set_option maxHeartbeats 1000000 in
theorem maxfunc_any (g o n c : Nat) (gs : List Nat) (hn : n = gs.length) (hn1 : 1 ≤ n) (hb : n ≤ 1000) (w : World) (hc : ∀ (k x : Nat), gs[k]? = some x → w.cell? ⟨g, o + k, none⟩ = some (.int .i64 (x : Nat))) :
    Calls Tryz.prog 59 #[.slice (some ⟨g, o, none⟩) n c, .func (.func 60) #[] #[]] w fun e w' => e = .returned (.agg #[.int .i64 (maxOf gs : Nat)]) ∧ Below w.heap.size w w' := by
  obtain ⟨x0, hx0⟩ : ∃ x, gs[0]? = some x := ⟨_, List.getElem?_eq_getElem (by omega)⟩
  have c0 : w.cell? ⟨g, o, none⟩ = some (.int .i64 (x0 : Nat)) := hc 0 x0 hx0
  obtain ⟨w1, hw1⟩ : ∃ w1, w.alloc (.cells #[.int .i64 0] 91) = w1 := ⟨_, rfl⟩
  obtain ⟨b1, hb1⟩ : ∃ b1, w.heap.size = b1 := ⟨_, rfl⟩
  have h1 : Blk w1 b1 91 [.int .i64 0] := by rw [← hw1, ← hb1]; exact alloc_new _ _
  have c1 : w1.cell? ⟨g, o, none⟩ = some (.int .i64 (x0 : Nat)) := by rw [← hw1]; exact alc c0 _
  obtain ⟨bm, hbm⟩ : ∃ bm, w1.heap.size = bm := ⟨_, rfl⟩
  obtain ⟨w2, hw2⟩ : ∃ w2, w1.alloc (.cells #[.int .i64 (x0 : Nat)] 91) = w2 := ⟨_, rfl⟩
  have h2 : Blk w2 bm 91 [.int .i64 (x0 : Nat)] := by rw [← hw2, ← hbm]; exact alloc_new _ _
  have h21 : Blk w2 b1 91 [.int .i64 0] := by rw [← hw2]; exact h1.alloc _
  have hbw : Below w.heap.size w w2 := by rw [← hw2, ← hw1]; exact (fresh_alloc w _).alloc (by rw [World.size_alloc]; omega) _
  have hlt0 : b1 < bm := by rw [← hb1, ← hbm, ← hw1, World.size_alloc]; omega
  have H2 := hid h2; have H21 := hid h21; have HBW := hid hbw; have HW1 := hid hw1; have HW2 := hid hw2; have HB1 := hid hb1
  have HBM : Hid (b1 + 1 = bm) := hid (by rw [← hb1, ← hbm, ← hw1, World.size_alloc])
  have HBB : Hid (w1.heap.size = bm) := hid hbm
  have HBG : Hid (w.heap.size ≤ bm) := hid (by rw [hb1]; omega)
  have HB1G : Hid (w.heap.size ≤ b1) := hid (by rw [hb1]; exact Nat.le_refl _)
  have HNE : Hid (b1 ≠ bm) := hid (by omega)
  have HC := hid hc; have HN := hid hn
  have q0 : decide ((n : Int) < 1) = false := decide_eq_false (by omega)
  have HM1 : Hid (x0 = maxOf (gs.take 1)) := hid (by rw [maxOf_take hx0]; simp [maxOf])
  clear hc hn hx0 h1 h2 h21 hbw hw1 hw2 hb1 hbm
  go_enter Tryz.func59, Tryz.ntmps59
  go_upto_region 3 with fail
  rw [HW1.out, HB1.out]
  go_upto_region 5 with fail
  rw [HBB.out, HW2.out]
  go_loopw [6] (fun i wr => ∃ (k m : Nat), 1 ≤ k ∧ k ≤ n ∧ i = .int .i64 k ∧ Blk wr bm 91 [.int .i64 m] ∧ m = maxOf (gs.take k) ∧ Below w.heap.size w wr ∧ Blk wr b1 91 [.int .i64 0]) (fun i _ => n - (intOf i).toNat)
  case atStart => exact ⟨1, x0, by omega, by omega, rfl, H2.out, HM1.out, HBW.out, H21.out⟩
  case round =>
    obtain ⟨k, m, hk1, hk, rfl, hm, hmm, hbe, hkb⟩ := hrel
    have HK := hid hkb; have HM := hid hm; have HMM := hid hmm; have HB := hid hbe
    clear hm hmm hbe hkb
    by_cases hlt : k < n
    · obtain ⟨y, hy⟩ : ∃ x, gs[k]? = some x := ⟨_, List.getElem?_eq_getElem (by rw [← HN.out]; exact hlt)⟩
      have cx := (HB.out.cell (World.block_lt_of_cell? _ _ (HC.out k y hy))).trans (HC.out k y hy)
      have cm := HM.out.cell (j := 0) rfl
      have HX := hid hy
      clear hy
      go_upto_region 7 with fail
      refine wp_region_held_drew (S := fun w' => w'.cell? ⟨g, o + k, none⟩ = some (.int .i64 (y : Nat)) ∧ w'.cell? ⟨bm, 0, none⟩ = some (.int .i64 (m : Nat))) (by kernel_rfl) ⟨cx, cm⟩ (fun hS => ?_)
      refine tkH (i := 0) (v := ?v0x1z) (y := Or.inl ⟨by rfl, ?y0x1z⟩) (s := hS) (h := ?r0x1z)
      case y0x1z => (intro w' hSw; (try dsimp only at hSw); go_simp; (try with_reducible rfl))
      simp only [Act.put, sA, sB, sC]
      refine tkH (i := 1) (v := ?v1x2z) (y := Or.inl ⟨by rfl, ?y1x2z⟩) (s := hS) (h := ?r1x2z)
      case y1x2z => (intro w' hSw; (try dsimp only at hSw); go_simp; (try with_reducible rfl))
      simp only [Act.put, sA, sB, sC]
      refine tkH (i := 2) (v := ?v2x3z) (y := Or.inl ⟨by rfl, ?y2x3z⟩) (s := hS) (h := ?r2x3z)
      case y2x3z => (intro w' hSw; (try dsimp only at hSw); go_simp; (try with_reducible rfl))
      simp only [Act.put, sA, sB, sC]
      refine tkH (i := 3) (v := ?v3x4z) (y := Or.inl ⟨by rfl, ?y3x4z⟩) (s := hS) (h := ?r3x4z)
      case y3x4z => (intro w' hSw; (try dsimp only at hSw); go_simp; (try with_reducible rfl))
      simp only [Act.put, sA, sB, sC]
      refine tkH (i := 4) (v := ?v4x5z) (y := Or.inl ⟨by rfl, ?y4x5z⟩) (s := hS) (h := ?r4x5z)
      case y4x5z => (intro w' hSw; (try dsimp only at hSw); go_simp; (try with_reducible rfl))
      simp only [Act.put, sA, sB, sC]
      refine tkH (i := 5) (v := ?v5x6z) (y := Or.inl ⟨by rfl, ?y5x6z⟩) (s := hS) (h := ?r5x6z)
      case y5x6z => (intro w' hSw; (try dsimp only at hSw); go_simp; (try with_reducible rfl))
      simp only [Act.put, sA, sB, sC]
      refine rdH (i := 6) (h := fun K hK => ?_)
      go_simp
      refine (open1_any (y : Nat) (m : Nat) _).mono ?_
      rintro e w5 ⟨rfl, hb5⟩
      have hb5 := (Below.refl wr.heap.size wr).drew.trans hb5
      have hS5 := And.intro ((hb5.cell (World.block_lt_of_cell? _ _ hS.1)).trans hS.1) ((hb5.cell (World.block_lt_of_cell? _ _ hS.2)).trans hS.2)
      have HB5 := hid hb5
      clear hb5
      refine hK.out _ _ ?k6x7z (fun hS => ?s6x7z)
      case k6x7z => exact hS5
      clear hK K
      try simp only [Act.put, sA, sB, sC]
      refine tkH (i := 7) (v := ?v7x8z) (y := Or.inl ⟨by rfl, ?y7x8z⟩) (s := hS) (h := ?r7x8z)
      case y7x8z => (intro w' hSw; (try dsimp only at hSw); go_simp; (try with_reducible rfl))
      simp only [Act.put, sA, sB, sC]
      refine wpAnyH_done (by kernel_rfl) ?_ _
      clear hS hS5
      have HM5 := hid (HM.out.below HB5.out HM.out.lt)
      have HB6 := hid (HB.out.trans (HB5.out.mono HB.out.size))
      by_cases hlt2 : m < y
      · have q2 : decide ((0 : Int) < cmpOf (y : Nat) (m : Nat)) = true := decide_eq_true (by unfold cmpOf; rw [if_neg (by omega), if_pos (by omega)]; omega)
        have cy := (HB5.out.cell (World.block_lt_of_cell? _ _ cx)).trans cx
        have cm5 := HM5.out.cell (j := 0) rfl
        have fm5 := HM5.out.free 0
        simp only [q2]
        go_wp2_with fail
        go_roundw
        case rel => exact ⟨k + 1, y, by omega, by omega, by go_num, HM5.out.set 0 _, by rw [maxOf_take HX.out, ← HMM.out]; exact (Nat.max_eq_right (by omega)).symm, HB6.out.setCell HBG.out _, (HK.out.below HB5.out HK.out.lt).other _ _ HNE.out⟩
        case measure => simp [intOf]; omega
      · have q2 : decide ((0 : Int) < cmpOf (y : Nat) (m : Nat)) = false := decide_eq_false (by
          unfold cmpOf
          split
          · omega
          · rw [if_neg (by omega)]; omega)
        simp only [q2]
        go_wp2_with fail
        go_roundw
        case rel => exact ⟨k + 1, m, by omega, by omega, by go_num, HM5.out, by rw [maxOf_take HX.out, ← HMM.out]; exact (Nat.max_eq_left (by omega)).symm, HB6.out, HK.out.below HB5.out HK.out.lt⟩
        case measure => simp [intOf]; omega
    · obtain rfl : k = n := by omega
      have cm := HM.out.cell (j := 0) rfl
      have ck := HK.out.cell (j := 0) rfl
      have fk := HK.out.free 0
      have HE : Hid (m = maxOf gs) := hid (by rw [HMM.out, List.take_of_length_le (by rw [← HN.out]; exact Nat.le_refl _)])
      go_wp2_with fail
      rw [HE.out]
      refine bodyPost_ret (results_cell_row rfl _ _ b1 91 #[.int .i64 (maxOf gs : Nat)] (0, 0) _ rfl (HK.out.set 0 (.int .i64 (maxOf gs : Nat))) Tryz.underlying91 rfl (by kernel_rfl)) rfl ⟨rfl, HB.out.setCell HB1G.out _⟩
end Go.Proofs.YtlondopgibcikaaGreat
