/- LogInside: the walk. -/
import Derived.Test.YtlondopgibcikaaRows
import Derived.Test.YtlondopgibcikaaHeap
import Derived.Test.YtlondopgibcikaaKit
import Derived.Test.YtlondopgibcikaaCrcV
import Derived.Test.YtlondopgibcikaaCrcPartsW
import Derived.Test.YtlondopgibcikaaDev
import Derived.Test.YtlondopgibcikaaDevW
import Derived.Test.YtlondopgibcikaaDevV
import Derived.Test.YtlondopgibcikaaDevU
import Derived.Test.YtlondopgibcikaaDevT
import Derived.Test.YtlondopgibcikaaDevC
import Derived.Test.YtlondopgibcikaaLaw05
import Derived.Test.YtlondopgibcikaaLL
import Derived.Test.YtlondopgibcikaaSt
import Derived.Test.YtlondopgibcikaaSt2
import Derived.Test.YtlondopgibcikaaLogP
import Derived.Test.YtlondopgibcikaaLogW
import Derived.Test.YtlondopgibcikaaLogX
import Derived.Test.YtlondopgibcikaaLogY
import Derived.Test.YtlondopgibcikaaLogZ
import Derived.Test.YtlondopgibcikaaLogB
import Derived.Test.YtlondopgibcikaaLogS
import Derived.Test.YtlondopgibcikaaLogS2
import Derived.Test.YtlondopgibcikaaLogT
import Derived.Test.YtlondopgibcikaaLogT2
import Derived.Test.YtlondopgibcikaaLaw06
import Derived.Test.YtlondopgibcikaaLaw06b
import Derived.Test.YtlondopgibcikaaLaw06c
import Derived.Test.YtlondopgibcikaaLogQ
import Derived.Test.YtlondopgibcikaaLogR
import Derived.Test.YtlondopgibcikaaLogD
import Derived.Test.YtlondopgibcikaaLogE
import Derived.Test.YtlondopgibcikaaRoom
import Derived.Test.YtlondopgibcikaaSt3
import Derived.WalkKit
import Derived.WalkSpells
import Derived.WalkLawsBesides
import Derived.Deep.RegionHeld3
import Derived.Deep.QuietTactic
import Derived.BigQuiet
namespace Go.Proofs.Ytlondopgibcikaa
open Go.RowKit Ent

/-- what the law finds, plainly -/
theorem inside_plain (rec : List UInt8) (T : Nat) (hr : rec.length ≤ 100) (hT : T < 5) :
    ∃ (n m : Nat) (D1 D2 D3 : Dev) (b : List UInt8), 1 ≤ n ∧ n ≤ 3 ∧ m ≤ 40 ∧ Fine D1 41 ∧
      logWrite (Dev.new 41) 0 40 9 0 rec = (((n : Int), 0), D1) ∧
      logWrite D1 0 40 9 n (insideOf D1 n (T + 1) 0) = (((m : Int), 0), D2) ∧
      hasB D2 0 40 9 m [rec, insideOf D1 n (T + 1) 0] = true ∧
      D2.read 0 = (b, 0) ∧ D2.write m b = (0, D3) ∧ hasB D3 0 40 9 m [rec, insideOf D1 n (T + 1) 0] = true ∧
      D1.loose.length ≤ 1000 ∧ D2.loose.length ≤ 1000 ∧ b.length = 64 := by
  have h0 := LogD.new (n := 41) (f := 0) (t := 40) (g := 9) (by omega) (by omega) (by omega) (by omega) (by omega)
  have hn1 := needOf_pos rec.length
  have hn2 : needOf rec.length ≤ 3 := by unfold needOf; split <;> omega
  have w1 := h0.write (r := rec) (by omega) (by rw [needsOf_nil]; omega)
  have h1 := h0.written (r := rec) (by rw [needsOf_nil]; omega)
  have ne1 : needsOf ([] ++ [rec]) = needOf rec.length := by simp [needsOf]
  have l1 : ({ Dev.new 41 with loose := (Dev.new 41).loose ++ recWs 9 (needsOf []) 0 rec } : Dev).loose.length = needOf rec.length := by
    show (recWs 9 (needsOf []) 0 rec).length = _
    rw [recWs, runW_len]
  obtain ⟨D1, hD1⟩ : ∃ D1, ({ Dev.new 41 with loose := (Dev.new 41).loose ++ recWs 9 (needsOf []) 0 rec } : Dev) = D1 := ⟨_, rfl⟩
  rw [hD1] at w1 h1 l1
  rw [ne1] at w1
  have hil := insideOf_len h1.fine (m := needOf rec.length) (by omega) (T + 1) (i := 0) (by omega)
  obtain ⟨I, hI⟩ : ∃ I, insideOf D1 (needOf rec.length) (T + 1) 0 = I := ⟨_, rfl⟩
  rw [hI] at hil
  have hmul : (T + 1) * needOf rec.length ≤ 5 * 3 := Nat.mul_le_mul (by omega) hn2
  have hi1 := needOf_pos I.length
  have hi2 : needOf I.length ≤ 20 := by unfold needOf; split <;> omega
  have hroom : needsOf ([] ++ [rec]) + needOf I.length ≤ 40 - 0 := by rw [ne1]; omega
  have w2 := h1.write (r := I) (by omega) hroom
  have h2 := h1.written (r := I) hroom
  have l2 : ({ D1 with loose := D1.loose ++ recWs 9 (needsOf ([] ++ [rec])) 0 I } : Dev).loose.length = needOf rec.length + needOf I.length := by
    show (D1.loose ++ recWs 9 (needsOf ([] ++ [rec])) 0 I).length = _
    rw [List.length_append, l1, recWs, runW_len]
  obtain ⟨D2, hD2⟩ : ∃ D2, ({ D1 with loose := D1.loose ++ recWs 9 (needsOf ([] ++ [rec])) 0 I } : Dev) = D2 := ⟨_, rfl⟩
  rw [hD2] at w2 h2 l2
  have ne2 : needsOf ([] ++ [rec] ++ [I]) = needOf rec.length + needOf I.length := by simp [needsOf]
  obtain ⟨k, p, hs⟩ := h2.lies.at 0 (Nat.le_refl _) (by rw [ne2]; omega)
  have h64 := secAt_len h2.fine (base := 0) (i := 0) (by omega)
  have hal := h2.alien (b := secAt D2 0 0) h64 (by
    rw [hs]
    exact wrong_sec (by omega) (by omega) (by omega) (by rw [ne2]; omega) (.inr (by rw [ne2]; omega)))
  rw [ne2] at w2
  rw [ne1] at w2
  have hsc := h2.scan
  rw [ne2] at hal hsc
  simp only [Nat.zero_add] at hal
  have hrd := read_sec h2.fine (base := 0) (i := 0) (by omega)
  refine ⟨needOf rec.length, needOf rec.length + needOf I.length, D1, D2, { D2 with loose := D2.loose ++ [(needOf rec.length + needOf I.length, secAt D2 0 0)] }, secAt D2 0 0, hn1, hn2, by omega, h1.fine, w1, ?_, ?_, hrd, ?_, ?_, by omega, by omega, h64⟩
  · rw [hI]; exact w2
  · rw [hI]; exact hsc
  · exact hal.1
  · rw [hI]; exact hal.2
set_option maxRecDepth 100000 in
set_option maxHeartbeats 1000000 in
theorem logInside_walk (ro : Option Addr) (rn rc : Nat) (rec : List UInt8) (times : Int) (w : World) (hrn : rn = rec.length) (hrc : rn ≤ rc) (hrm : rn ≤ 9223372036854775807) (hs : SB w ro rc rec) (ht : -9223372036854775808 ≤ times ∧ times ≤ 9223372036854775807) :
    Calls Try.prog 16 #[.slice ro rn rc, .int .i64 times] w fun e w' => e = .returned (.bool true) ∧ Below w.heap.size w w' := by
  have HRN := hid hrn; have HS := hid hs; have HTM := hid ht
  obtain ⟨T, hT, eT⟩ := pick_nat times 5 (by omega)
  have ET : Hid (times % 5 = (T : Int)) := hid eT
  clear hrn hs eT ht
  go_enter Try.func16, Try.ntmps16
  go_wp2_with fail
  refine (known6_any w (St.start w)).mono ?_
  rintro e w1 ⟨rfl, As, h1⟩
  have HB1 : Hid (Below w.heap.size w w1) := hid h1.be
  clear h1
  by_cases hlong : 100 < rn
  · go_wp2
    go_ret
    exact ⟨rfl, HB1.out⟩
  obtain ⟨n, m, D1, D2, D3, b, hn1, hn2, hm, F1, E1, E2, E3, E4, E5, E6, L1, L2, LB⟩ := inside_plain rec T (by rw [← HRN.out]; omega) hT
  have F1 := hid F1; have E1 := hid E1; have E2 := hid E2; have E3 := hid E3; have E4 := hid E4; have E5 := hid E5; have E6 := hid E6; have L1 := hid L1; have L2 := hid L2; have LB := hid LB
  go_wp2_with fail
  refine (room_any 0 40 9 (by omega) (by omega) (by omega) w1 (St.start w1)).mono ?_
  rintro e w2 ⟨a, rfl, h2⟩
  have H2 : Hid (St w1.heap.size w1 w2 [noA, noA, dev a (Dev.new 41)]) := hid h2
  clear h2
  unfold ptr
  obtain ⟨w3, hw3⟩ : ∃ w3, w2.alloc (.cells #[.int .i64 0, .int .i64 40, .int .i64 9] 76) = w3 := ⟨_, rfl⟩
  have HW3 := hid hw3
  have H3 : Hid (St w1.heap.size w1 w3 [noA, noA, dev a (Dev.new 41), blkA w2.heap.size 76 [.int .i64 0, .int .i64 40, .int .i64 9]]) := hid (by
    have := H2.out.box 76 [.int .i64 0, .int .i64 40, .int .i64 9]
    rw [show w2.alloc (.cells [Value.int .i64 0, .int .i64 40, .int .i64 9].toArray 76) = w3 from HW3.out] at this
    exact this)
  clear hw3
  go_wp2_with fail
  rw [HW3.out]
  have x0 := (H3.out.blk 3 rfl).cell (j := 0) rfl
  have x1 := (H3.out.blk 3 rfl).cell (j := 1) rfl
  have x2 := (H3.out.blk 3 rfl).cell (j := 2) rfl
  go_wp2_with fail
  have HS3 := hid (HS.out.below (HB1.out.trans (H3.out.be.mono HB1.out.size)))
  refine (H3.out.log_write2 (Below.refl _ _) 2 rfl 0 40 9 0 ro rn rc rec HRN.out hrc hrm HS3.out (fun hne x hx => .inl (Nat.lt_of_lt_of_le (sb_lt HS.out hne x hx) HB1.out.size)) (by simp [Dev.new]) (by omega)).mono ?_
  rintro e w4 ⟨he, h4⟩
  obtain rfl : e = .returned (.tuple #[.int .i64 (n : Int), .int .i64 0]) := by rw [he, E1.out]
  have H4 : Hid (St w1.heap.size w1 w4 [noA, noA, dev a D1, blkA w2.heap.size 76 [.int .i64 0, .int .i64 40, .int .i64 9]]) := hid (by rw [E1.out] at h4; exact h4)
  clear h4 x0 x1 x2 he
  go_wp2_with fail
  go_loopw [10, 11] (fun v10 i wr => ∃ (VO : Value) (k q : Nat), VO = v10 ∧ k ≤ T + 1 ∧ i = .int .i64 k ∧ wr.ownsRow w4.heap.size 5 1 VO q (bv (insideOf D1 n k 0)) ∧ Below w4.heap.size w4 wr) (fun _ i _ => T + 1 - (intOf i).toNat)
  case atStart => exact ⟨_, 0, 0, rfl, Nat.zero_le _, rfl, by rw [insideOf_zero]; exact World.ownsRow_nil _ _ _ _, Below.refl _ _⟩
  case round =>
    obtain ⟨VO, k, q, rfl, hk, rfl, ho, hb⟩ := hrel
    have HO := hid ho; have HB := hid hb
    clear ho hb
    by_cases hlt : k < T + 1
    · go_wp2_with fail
      refine (pick_any times 5 (by omega) (by omega) HTM.out.1 HTM.out.2 wr).mono ?_
      rintro e w' ⟨rfl, rfl⟩
      rw [ET.out]
      go_wp2_with fail
      rw [show decide (k ≤ T) = true by simp; omega]
      go_loopw [10, 12] (fun v10 i wr => ∃ (VO : Value) (j q : Nat), VO = v10 ∧ j ≤ n ∧ i = .int .i64 j ∧ wr.ownsRow w4.heap.size 5 1 VO q (bv (insideOf D1 n k j)) ∧ Below w4.heap.size w4 wr) (fun _ i _ => n - (intOf i).toNat)
      case atStart => exact ⟨_, 0, q, rfl, Nat.zero_le _, rfl, HO.out, HB.out⟩
      case round =>
        obtain ⟨VO, j, q, rfl, hj, rfl, ho, hb⟩ := hrel
        have HO := hid ho; have HB := hid hb
        clear ho hb
        have HQ : Hid (q ≤ 64 * 18) := hid (by
          have h1 := HO.out.1
          rw [bv_length, insideOf_len F1.out (by omega) k hj, Nat.mul_one] at h1
          have : k * n ≤ 5 * 3 := Nat.mul_le_mul (by omega) hn2
          omega)
        by_cases hlj : j < n
        · have HR : Hid (D1.read (j : Int) = (secAt D1 0 j, 0)) := hid (by
            have := read_sec F1.out (base := 0) (i := j) (by omega)
            rw [Nat.zero_add] at this; exact this)
          have HL : Hid ((secAt D1 0 j).length = 64) := hid (secAt_len F1.out (by omega))
          go_wp2_with fail
          refine ((H4.out.below HB.out).dev_read 2 rfl j).mono ?_
          rintro e w5 ⟨v, he, ao, cap, rfl, hcap, hsb, -, -, hb5⟩
          rw [HR.out] at he hsb hcap
          rw [HL.out] at he hcap
          subst he
          have HSB := hid hsb; have HO5 := hid (owns_below HO.out hb5); have HB5 := hid (HB.out.trans (hb5.mono HB.out.size))
          clear hsb hb5 hcap
          go_wp2_with (refine wpl_append rfl (.tmp 58) (.tmp 59) rfl w4.heap.size _ _ _ (secAt D1 0 j) rfl HO5.out ao 64 cap rfl HL.out.symm HSB.out (by have := HQ.out; omega) (by have := HB5.out.size; exact this) ?_; intro v2 w6 ho2 hg2 _; have HO2 := hid ho2; have HB2 := hid (below_grown HB5.out HO5.out hg2 (Nat.le_refl _)); clear ho2 hg2)
          go_roundw
          case rel => exact ⟨_, j + 1, _, rfl, by omega, by go_num, by rw [insideOf_succ]; exact HO2.out, HB2.out⟩
          case measure => simp [intOf]; omega
        · obtain rfl : j = n := by omega
          go_wp2
          go_roundw
          case rel => exact ⟨_, k + 1, q, rfl, by omega, by go_num, by rw [← insideOf_round]; exact HO.out, HB.out⟩
          case measure => simp [intOf]; omega
    · obtain rfl : k = T + 1 := by omega
      go_wp2_with fail
      refine (pick_any times 5 (by omega) (by omega) HTM.out.1 HTM.out.2 wr).mono ?_
      rintro e w' ⟨rfl, rfl⟩
      rw [ET.out]
      have HQ : Hid (q ≤ 64 * 18) := hid (by
        have h1 := HO.out.1
        rw [bv_length, insideOf_len F1.out (by omega) (T + 1) (i := 0) (by omega), Nat.mul_one] at h1
        have : (T + 1) * n ≤ 5 * 3 := Nat.mul_le_mul (by omega) hn2
        omega)
      obtain ⟨I, hI⟩ : ∃ I, insideOf D1 n (T + 1) 0 = I := ⟨_, rfl⟩
      have HI := hid hI
      obtain ⟨ao, cs, rfl, hnn, hcc, hss, -, hgg⟩ := own_all HO.out
      rw [HI.out] at hnn hss
      have HN := hid hnn
      have hqm := HQ.out
      have H5 : Hid (St w1.heap.size w1 wr [noA, noA, dev a D1, blkA w2.heap.size 76 [.int .i64 0, .int .i64 40, .int .i64 9], sbA ao cs I]) := hid (H4.out.addSB HB.out hss hgg)
      rw [HI.out] at E2 E3 E6
      clear hss hgg hnn HO
      have x0 := (H5.out.blk 3 rfl).cell (j := 0) rfl
      have x1 := (H5.out.blk 3 rfl).cell (j := 1) rfl
      have x2 := (H5.out.blk 3 rfl).cell (j := 2) rfl
      go_wp2_with fail
      refine (H5.out.log_write3 2 rfl 0 40 9 n 4 (by omega) ao q cs I rfl HN.out hcc (by omega) (Nat.le_trans L1.out (by omega)) (by omega)).mono ?_
      rintro e w6 ⟨he, h6⟩
      obtain rfl : e = .returned (.tuple #[.int .i64 (m : Int), .int .i64 0]) := by rw [he, E2.out]
      have H6 : Hid (St w1.heap.size w1 w6 [noA, noA, dev a D2, blkA w2.heap.size 76 [.int .i64 0, .int .i64 40, .int .i64 9], sbA ao cs I]) := hid (by rw [E2.out] at h6; exact h6)
      clear h6 x0 x1 x2 he
      have x0 := (H6.out.blk 3 rfl).cell (j := 0) rfl
      have x1 := (H6.out.blk 3 rfl).cell (j := 1) rfl
      have x2 := (H6.out.blk 3 rfl).cell (j := 2) rfl
      have HS6 := hid (HS.out.below (HB1.out.trans (H6.out.be.mono HB1.out.size)))
      go_wp2_with fail
      refine (H6.out.log_has (fresh_alloc w6 _) 2 rfl 0 40 9 m _ 2 2 [rec, I] rfl (by omega) (LR.laid2 w6 _ _ ro ao rc cs rec I (congrArg (fun z => Value.slice ro z rc) HRN.out) (congrArg (fun z => Value.slice ao z cs) HN.out) (by rw [← HRN.out]; exact hrc) (by rw [← HN.out]; exact hcc) _ HS6.out (H6.out.sb 4 rfl) rfl)).mono ?_
      rintro e w7 ⟨he, h7⟩
      obtain rfl : e = .returned (.bool true) := by rw [he, E3.out]
      have H7 := hid h7
      clear h7 x0 x1 x2 he
      go_wp2_with fail
      refine (H7.out.dev_read 2 rfl 0).mono ?_
      rintro e w8 ⟨v, he, bo, bc, rfl, hcap, hsb, -, hgg, hb8⟩
      rw [E4.out] at he hsb hcap
      simp only [LB.out] at he hcap
      subst he
      have H8 : Hid (St w1.heap.size w1 w8 [noA, noA, dev a D2, blkA w2.heap.size 76 [.int .i64 0, .int .i64 40, .int .i64 9], sbA ao cs I, sbA bo bc b]) := hid (H7.out.addSB hb8 hsb hgg)
      clear hsb hgg hb8 hcap
      go_wp2_with fail
      refine (H8.out.dev_write3 2 rfl m 5 (by omega) bo 64 bc b rfl LB.out.symm (Nat.le_trans L2.out (by omega))).mono ?_
      rintro e w9 ⟨he, h9⟩
      obtain rfl : e = .returned (.int .i64 0) := by rw [he, E5.out]
      have H9 : Hid (St w1.heap.size w1 w9 [noA, noA, dev a D3, blkA w2.heap.size 76 [.int .i64 0, .int .i64 40, .int .i64 9], sbA ao cs I, sbA bo bc b]) := hid (by rw [E5.out] at h9; exact h9)
      clear h9 he
      have x0 := (H9.out.blk 3 rfl).cell (j := 0) rfl
      have x1 := (H9.out.blk 3 rfl).cell (j := 1) rfl
      have x2 := (H9.out.blk 3 rfl).cell (j := 2) rfl
      have HS9 := hid (HS.out.below (HB1.out.trans (H9.out.be.mono HB1.out.size)))
      go_wp2_with fail
      refine (H9.out.log_has (fresh_alloc w9 _) 2 rfl 0 40 9 m _ 2 2 [rec, I] rfl (by omega) (LR.laid2 w9 _ _ ro ao rc cs rec I (congrArg (fun z => Value.slice ro z rc) HRN.out) (congrArg (fun z => Value.slice ao z cs) HN.out) (by rw [← HRN.out]; exact hrc) (by rw [← HN.out]; exact hcc) _ HS9.out (H9.out.sb 4 rfl) rfl)).mono ?_
      rintro e w10 ⟨he, h10⟩
      obtain rfl : e = .returned (.bool true) := by rw [he, E6.out]
      have H10 := hid (HB1.out.trans (h10.be.mono HB1.out.size))
      clear h10 x0 x1 x2 he
      go_wp2
      go_ret
      exact ⟨rfl, H10.out⟩
end Go.Proofs.Ytlondopgibcikaa
