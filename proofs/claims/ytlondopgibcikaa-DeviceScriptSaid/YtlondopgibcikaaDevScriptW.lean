/- The walk of DeviceScript. -/
import Derived.Test.YtlondopgibcikaaRows
import Derived.Test.YtlondopgibcikaaHeap
import Derived.Test.YtlondopgibcikaaKit
import Derived.Test.YtlondopgibcikaaDev
import Derived.Test.YtlondopgibcikaaDevW
import Derived.Test.YtlondopgibcikaaDevV
import Derived.Test.YtlondopgibcikaaDevU
import Derived.Test.YtlondopgibcikaaDevT
import Derived.Test.YtlondopgibcikaaDevC
import Derived.Test.YtlondopgibcikaaLaw05
import Derived.Test.YtlondopgibcikaaDevKnown
import Derived.Test.YtlondopgibcikaaLL
import Derived.Test.YtlondopgibcikaaRef5
import Derived.Test.YtlondopgibcikaaRef5b
import Derived.Test.YtlondopgibcikaaRef5c
import Derived.Test.YtlondopgibcikaaRef5d
import Derived.Test.YtlondopgibcikaaRef5e
import Derived.Test.YtlondopgibcikaaSt
import Derived.Test.YtlondopgibcikaaSt2
import Derived.Test.YtlondopgibcikaaAct5
import Derived.Test.YtlondopgibcikaaAct5b
import Derived.WalkKit
import Derived.WalkSpells
import Derived.WalkLawsBesides
import Derived.Deep.RegionHeld3
namespace Go.Proofs.Ytlondopgibcikaa
open Go.RowKit Ent

theorem long5_false {l : List Act5} (h : long5 l = false) : l.length ≤ 60 ∧ ∀ (k : Nat) (x : Act5), l[k]? = some x → x.keep.length ≤ 60 := by
  unfold long5 at h
  rw [Bool.or_eq_false_iff] at h
  obtain ⟨h1, h2⟩ := h
  have h3 : l.length ≤ 60 := by simpa using h2
  refine ⟨h3, fun k x hx => ?_⟩
  rw [List.any_eq_false] at h1
  have hk := (List.getElem?_eq_some_iff.1 hx).1
  have := h1 x (by
    have : (l.take 61)[k]? = some x := by rw [List.getElem?_take, if_pos (by omega)]; exact hx
    exact List.mem_of_getElem? this)
  simpa using this
theorem sec_short {L : List (List UInt8)} (h : S64 L) (i : Int) : (secOf L i).1.length ≤ 64 := by
  unfold secOf
  split
  · simp
  · rename_i hh
    obtain ⟨k, rfl, hk⟩ := has_nat (by simpa using hh)
    simp only [Int.toNat_natCast]
    rw [List.getD_eq_getElem?_getD, List.getElem?_eq_getElem hk]
    exact Nat.le_of_eq (h _ (List.getElem_mem hk))
theorem read_short {d : Dev} (h : d.ok) (i : Int) : (d.read i).1.length ≤ 64 := by
  unfold Dev.read
  split
  · simp
  · exact sec_short h.now64 i
theorem image_short {d : Dev} (h : d.ok) (i : Int) : (d.image i).1.length ≤ 64 := sec_short h.s64 i
set_option maxRecDepth 100000 in
set_option maxHeartbeats 4000000 in
theorem deviceScript_walk (n : Int) (ao : Option Addr) (m c : Nat) (l : List Act5) (w : World) (hn1 : -9223372036854775808 ≤ n) (hn2 : n ≤ 9223372036854775807) (hm : m = l.length) (hmx : m ≤ 9223372036854775807) (hl : AL5 w ao l) :
    Calls Try.prog 10 #[.int .i64 n, .slice ao m c] w fun e w' => e = .returned (.bool true) ∧ Below w.heap.size w w' := by
  have HM := hid hm
  clear hm
  have HL := hid hl
  clear hl
  cases hlong : long5 l
  rotate_left
  · have HLONG := hid hlong
    clear hlong
    go_enter Try.func10, Try.ntmps10
    go_wp2_with fail
    refine (long5_any ao m c l HM.out hmx w HL.out).mono ?_
    rintro e w' ⟨rfl, rfl⟩
    rw [HLONG.out]
    go_wp2_with fail
    refine (awake5_any w').mono ?_
    rintro e w1 ⟨rfl, hb⟩
    have HB := hid hb
    clear hb
    go_wp2
    go_ret
    exact ⟨rfl, HB.out⟩
  have HLONG := hid hlong
  have HF := hid (long5_false hlong)
  clear hlong
  by_cases hbig : 12 < n ∧ n ≤ 65536
  · obtain ⟨hb1, hb2⟩ := hbig
    go_enter Try.func10, Try.ntmps10
    go_wp2_with fail
    refine (long5_any ao m c l HM.out hmx w HL.out).mono ?_
    rintro e w' ⟨rfl, rfl⟩
    rw [HLONG.out]
    go_wp2_with fail
    refine (awake5_any w').mono ?_
    rintro e w1 ⟨rfl, hb⟩
    have HB := hid hb
    clear hb
    go_wp2
    go_ret
    exact ⟨rfl, HB.out⟩
  by_cases hbad : n < 1 ∨ 65536 < n
  · by_cases h1 : n < 1
    all_goals
      (try have h2 : 65536 < n := by omega)
      (try have h3 : n ≤ 12 := by omega)
      clear hbig
      have HBAD := hid hbad
      clear hbad
      go_enter Try.func10, Try.ntmps10
      go_wp2_with fail
      refine (long5_any ao m c l HM.out hmx w HL.out).mono ?_
      rintro e w' ⟨rfl, rfl⟩
      rw [HLONG.out]
      go_wp2_with fail
      refine (new_bad n HBAD.out w').mono ?_
      rintro e w' ⟨rfl, rfl⟩
      go_wp2_with fail
      refine (newR_bad n HBAD.out w').mono ?_
      rintro e w' ⟨rfl, rfl⟩
      go_wp2_with fail
      go_loopw [9] (fun i wr => i = .int .i64 0 ∧ w' = wr) (fun _ _ => 0)
      case atStart => exact ⟨rfl, rfl⟩
      case round =>
        obtain ⟨rfl, rfl⟩ := hrel
        go_wp2_with fail
        refine (awake5_any w').mono ?_
        rintro e w1 ⟨rfl, hb⟩
        have HB := hid hb
        clear hb
        go_wp2
        go_ret
        exact ⟨rfl, HB.out⟩
  obtain ⟨q, rfl⟩ : ∃ q : Nat, n = (q : Int) := ⟨n.toNat, by omega⟩
  have hq1 : 1 ≤ q := by omega
  have hq2 : q ≤ 12 := by omega
  clear hbig hbad hn1 hn2
  go_enter Try.func10, Try.ntmps10
  go_wp2_with fail
  refine (long5_any ao m c l HM.out hmx w HL.out).mono ?_
  rintro e w' ⟨rfl, rfl⟩
  rw [HLONG.out]
  go_wp2_with fail
  refine ((St.start w').dev_new q hq1 (by omega)).mono ?_
  rintro e w1 ⟨a, rfl, h1⟩
  have H1 := hid h1
  clear h1
  unfold ptr
  go_wp2_with fail
  refine (H1.out.rdev_new q hq1 (by omega)).mono ?_
  rintro e w2 ⟨b, rfl, h2⟩
  have H2 : Hid (St w'.heap.size w' w2 [dev a (Dev.new q), rdev b (Dev.new q)]) := hid h2
  clear h2
  unfold ptr
  go_wp2_with fail
  go_loopw [9] (fun i wr => ∃ (k : Nat) (d : Dev), k ≤ m ∧ i = .int .i64 k ∧ St w'.heap.size w' wr [dev a d, rdev b d] ∧ d.loose.length ≤ k ∧ d.img.length = q) (fun i _ => m - (intOf i).toNat)
  case atStart => exact ⟨0, Dev.new q, Nat.zero_le _, rfl, H2.out, Nat.le_refl _, by simp [Dev.new]⟩
  case round =>
    obtain ⟨k, d, hk, rfl, hst, hlo, hlen⟩ := hrel
    have HS := hid hst
    have HLEN := hid hlen
    clear hst hlen
    by_cases hlt : k < m
    · obtain ⟨x, hx⟩ : ∃ x, l[k]? = some x := ⟨_, List.getElem?_eq_getElem (by rw [← HM.out]; exact hlt)⟩
      have hft0 : x.fits w' := by obtain ⟨_, _, _, h, _⟩ := HL.out.at hx; exact h
      obtain ⟨bo, o, rfl, hft, hc⟩ := (HL.out.below HS.out.be).at hx
      have c0 := hc 0 _ rfl
      have c1 := hc 1 _ rfl
      have c2 := hc 2 _ rfl
      have c3 := hc 3 _ rfl
      rw [Nat.add_zero] at c0
      have HFT := hid hft0
      have HKP := hid (HF.out.2 k x hx)
      have hl60 : m ≤ 60 := by rw [HM.out]; exact HF.out.1
      clear hx hft hft0 hc
      go_wp2_with fail
      refine (acted5_any HS.out x HFT.out HKP.out (by omega)).mono ?_
      rintro e w3 ⟨rfl, h3⟩
      have hal := act5_loose d x
      obtain ⟨d', hd'⟩ : ∃ d', act5 d x = d' := ⟨_, rfl⟩
      rw [hd'] at h3 hal
      have H3 := hid h3
      have hlo' : d'.loose.length ≤ k + 1 := by omega
      have HLEN' : Hid (d'.img.length = q) := hid (by rw [hal.2, HLEN.out])
      have HOK := hid (h3.ok 0 rfl)
      clear h3 hal hd' hlo HFT HKP c0 c1 c2 c3
      go_wp2_with fail
      refine (H3.out.dev_size 0 rfl).mono ?_
      rintro e w' ⟨rfl, rfl⟩
      go_wp2_with fail
      refine (H3.out.rdev_size 1 rfl).mono ?_
      rintro e w' ⟨rfl, rfl⟩
      go_wp2_with fail
      refine (H3.out.dev_out 0 rfl).mono ?_
      rintro e w' ⟨rfl, rfl⟩
      go_wp2_with fail
      refine (H3.out.rdev_out 1 rfl).mono ?_
      rintro e w' ⟨rfl, rfl⟩
      go_wp2_with fail
      refine (H3.out.dev_loose 0 rfl).mono ?_
      rintro e w' ⟨rfl, rfl⟩
      go_wp2_with fail
      refine (H3.out.rdev_loose 1 rfl).mono ?_
      rintro e w' ⟨rfl, rfl⟩
      go_wp2_with fail
      obtain ⟨w8, hw8⟩ : ∃ w8 : World, w8 = w' := ⟨_, rfl⟩
      rw [← hw8] at H3 ⊢
      clear hw8
      go_loopw [10] (fun i wr => ∃ j : Int, -1 ≤ j ∧ j ≤ (q : Int) + 1 ∧ i = .int .i64 j ∧ Below w8.heap.size w8 wr) (fun i _ => ((q : Int) + 1 - intOf i).toNat)
      case atStart => exact ⟨-1, by omega, by omega, rfl, Below.refl _ _⟩
      case round =>
        obtain ⟨j, hj1, hj2, rfl, hb⟩ := hrel
        have HB := hid hb
        clear hb
        by_cases hjq : j ≤ (q : Int)
        · have hrs := read_short HOK.out j
          have his := image_short HOK.out j
          go_wp2_with fail
          refine ((H3.out.below HB.out).dev_read 0 rfl j).mono ?_
          rintro e w4 ⟨v, rfl, a1, p1, rfl, -, s1, wb1, f1, b1⟩
          have HS1 := hid s1; have HW1 := hid wb1; have HF1 := hid f1; have HB1 := hid b1
          clear s1 wb1 f1 b1
          go_wp2_with fail
          refine (((H3.out.below HB.out).below HB1.out).rdev_read 1 rfl j (by omega)).mono ?_
          rintro e w5 ⟨v, rfl, a2, p2, rfl, -, s2, wb2, f2, b2⟩
          have HS2 := hid s2; have HB2 := hid b2
          clear s2 wb2 f2 b2
          go_wp2_with fail
          refine ((((H3.out.below HB.out).below HB1.out).below HB2.out).dev_image 0 rfl j).mono ?_
          rintro e w6 ⟨v, rfl, a3, p3, rfl, -, s3, wb3, f3, b3⟩
          have HS3 := hid s3; have HW3 := hid wb3; have HF3 := hid f3; have HB3 := hid b3
          clear s3 wb3 f3 b3
          go_wp2_with fail
          refine (((((H3.out.below HB.out).below HB1.out).below HB2.out).below HB3.out).rdev_image 1 rfl j).mono ?_
          rintro e w7 ⟨v, rfl, a4, p4, rfl, -, s4, wb4, f4, b4⟩
          have HS4 := hid s4; have HB4 := hid b4
          clear s4 wb4 f4 b4
          go_wp2_with fail
          refine (same_any a1 a2 _ _ p1 p2 (d'.read j).1 (d'.read j).1 rfl rfl w7 (((HS1.out.below HB2.out).below HB3.out).below HB4.out) ((HS2.out.below HB3.out).below HB4.out)).mono ?_
          rintro e w' ⟨rfl, rfl⟩
          rw [same_self]
          go_wp2_with fail
          refine (same_any a3 a4 _ _ p3 p4 (d'.image j).1 (d'.image j).1 rfl rfl w7 (HS3.out.below HB4.out) HS4.out).mono ?_
          rintro e w' ⟨rfl, rfl⟩
          rw [same_self]
          go_wp2_with fail
          refine (over_any a1 _ p1 (by omega) w7 (((HW1.out.below HB2.out).below HB3.out).below HB4.out)).mono ?_
          rintro e w10 ⟨rfl, hk10⟩
          have HK10 : Hid (Below wr.heap.size wr w10) := hid ((th (th (th HB1.out HB2.out) HB3.out) HB4.out).trans (hk10.belowB (by have := (th (th (th HB1.out HB2.out) HB3.out) HB4.out).size; omega) (fun i hi hF => by
            obtain ⟨y, hy, he, _⟩ := hF
            have := (HF1.out y hy).1; omega)))
          have HW10 : Hid (WB w10 a3 (d'.image j).1.length) := hid ((HW3.out.below HB4.out).keep hk10 (fun y hy hF => by
            obtain ⟨z, hz, he, _⟩ := hF
            have h1 := (HF1.out z hz).2; have h3 := (HF3.out y hy).1; have h4 := HB2.out.size
            omega))
          clear hk10
          go_wp2_with fail
          refine (over_any a3 _ p3 (by omega) w10 HW10.out).mono ?_
          rintro e w11 ⟨rfl, hk11⟩
          have HK11 : Hid (Below wr.heap.size wr w11) := hid (HK10.out.trans (hk11.belowB HK10.out.size (fun i hi hF => by
            obtain ⟨y, hy, he, _⟩ := hF
            have h1 := (HF3.out y hy).1; have h2 := (th HB1.out HB2.out).size; omega)))
          clear hk11
          go_wp2
          go_roundw
          case rel => exact ⟨j + 1, by omega, by omega, rfl, th HB.out HK11.out⟩
          case measure => simp [intOf]; omega
        · have hj9 : j = (q : Int) + 1 := by omega
          go_wp2
          go_roundw
          case rel => exact ⟨k + 1, d', by omega, by go_num, H3.out.below HB.out, by omega, HLEN'.out⟩
          case measure => simp [intOf]; omega
    · go_wp2_with fail
      refine (awake5_any wr).mono ?_
      rintro e w3 ⟨rfl, hb⟩
      have HB := hid hb
      clear hb
      go_wp2
      go_ret
      exact ⟨rfl, HS.out.be.trans (HB.out.mono HS.out.bl)⟩
end Go.Proofs.Ytlondopgibcikaa
