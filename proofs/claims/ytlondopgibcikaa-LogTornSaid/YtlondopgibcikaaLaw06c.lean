/- Layer 6's helper many; LogKnown. -/
import Derived.Test.YtlondopgibcikaaRows
import Derived.Test.YtlondopgibcikaaHeap
import Derived.Test.YtlondopgibcikaaKit
import Derived.Test.YtlondopgibcikaaCrcV
import Derived.Test.YtlondopgibcikaaDev
import Derived.Test.YtlondopgibcikaaDevW
import Derived.Test.YtlondopgibcikaaDevV
import Derived.Test.YtlondopgibcikaaDevU
import Derived.Test.YtlondopgibcikaaDevT
import Derived.Test.YtlondopgibcikaaDevC
import Derived.Test.YtlondopgibcikaaLaw05
import Derived.Test.YtlondopgibcikaaLL
import Derived.Test.YtlondopgibcikaaSt
import Derived.Test.YtlondopgibcikaaSt2
import Derived.Test.YtlondopgibcikaaLogP
import Derived.Test.YtlondopgibcikaaLogW
import Derived.Test.YtlondopgibcikaaLogX
import Derived.Test.YtlondopgibcikaaLogY
import Derived.Test.YtlondopgibcikaaLogZ
import Derived.Test.YtlondopgibcikaaLogB
import Derived.Test.YtlondopgibcikaaLogS
import Derived.Test.YtlondopgibcikaaLogS2
import Derived.Test.YtlondopgibcikaaLogT
import Derived.Test.YtlondopgibcikaaLogT2
import Derived.Test.YtlondopgibcikaaLaw06
import Derived.Test.YtlondopgibcikaaLaw06b
import Derived.Test.YtlondopgibcikaaDevKnown
import Derived.WalkKit
import Derived.WalkSpells
import Derived.WalkLawsBesides
import Derived.Deep.RegionHeld3
import Derived.Deep.QuietTactic
import Derived.BigQuiet
namespace Go.Proofs.Ytlondopgibcikaa
open Go.RowKit Ent

def manyL (n : Nat) : List UInt8 := (List.range n).map fun i => UInt8.ofNat (i * 7)
theorem manyL_succ (n : Nat) : manyL (n + 1) = manyL n ++ [UInt8.ofNat (n * 7)] := by simp [manyL, List.range_succ]
@[simp] theorem manyL_len (n : Nat) : (manyL n).length = n := by simp [manyL]
theorem byte7 (k : Nat) : (k : Int) * 7 % 256 = ((UInt8.ofNat (k * 7)).toNat : Int) := by
  simp
set_option maxRecDepth 100000 in
set_option maxHeartbeats 400000 in
theorem many_any (n : Nat) (hn : n ≤ 1048576) (w : World) :
    Calls Try.prog 70 #[.int .i64 n] w fun e w' => ∃ v, e = .returned v ∧ w'.ownsRow w.heap.size 5 1 v n (bv (manyL n)) ∧ Below w.heap.size w w' := by
  go_enter Try.func70, Try.ntmps70
  go_wp2_with fail
  go_loopw [3, 4] (fun v3 i wr => ∃ (VO : Value) (k : Nat), VO = v3 ∧ k ≤ n ∧ i = .int .i64 k ∧ wr.ownsRow w.heap.size 5 1 VO k (bv (manyL k)) ∧ Below w.heap.size w wr) (fun _ i _ => n - (intOf i).toNat)
  case atStart => exact ⟨_, 0, rfl, Nat.zero_le _, rfl, World.ownsRow_nil _ _ _ _, Below.refl _ _⟩
  case round =>
    obtain ⟨VO, k, rfl, hk, rfl, ho, hb⟩ := hrel
    have HO := hid ho; have HB := hid hb
    clear ho hb
    by_cases hlt : k < n
    · have HSB : Hid (SB (wr.alloc (.cells #[.int .u8 ((k : Int) * 7 % 256)] 5)) (some ⟨wr.heap.size, 0, none⟩) 1 [UInt8.ofNat (k * 7)]) := hid (by rw [byte7]; exact SB.laid wr [UInt8.ofNat (k * 7)] _ 1)
      go_wp2_with (refine wpl_append rfl (.tmp 10) (.tmp 14) rfl w.heap.size _ _ _ [UInt8.ofNat (k * 7)] rfl (HO.out.alloc _) (some ⟨wr.heap.size, 0, none⟩) 1 1 rfl rfl HSB.out (by omega) (by have := HB.out.size; simp; omega) ?_; intro v2 w2 ho2 hg2 _; have HO2 := hid ho2; have HB2 := hid (below_grown (HB.out.alloc HB.out.size _) (HO.out.alloc _) hg2 (Nat.le_refl _)); clear ho2 hg2)
      go_roundw
      case rel => exact ⟨_, k + 1, rfl, by omega, by go_num, by rw [manyL_succ]; exact HO2.out, HB2.out⟩
      case measure => simp [intOf]; omega
    · have hk9 : k = n := by omega
      subst hk9
      go_wp2
      go_ret
      exact ⟨_, rfl, HO.out, HB.out⟩
def n61 : Dev := (logWrite m63 1 4 7 1 (manyL 50)).2
def n62 : Dev := (logWrite n61 1 4 7 3 []).2
def n63 : Dev := n62.flush.2
def n64 : Dev := (n61.crash [true] 63).2
theorem nf1 : (logWrite m63 1 4 7 1 (manyL 50)).1 = (3, 0) := by decide +kernel
theorem nf2 : (logWrite n61 1 4 7 3 []).1 = (0, 10) := by decide +kernel
theorem nf3 : n62.flush.1 = 0 := by decide +kernel
theorem nf4 : hasB n63 1 4 7 3 [[97, 98, 99], manyL 50] = true := by decide +kernel
theorem nf5 : hasB n63 1 4 8 0 [] = true := by decide +kernel
theorem nf6 : checkOf n63 2 5 7 = 3 := by decide +kernel
theorem nf7 : checkOf n63 1 4 0 = 3 := by decide +kernel
theorem nf8 : (n61.crash [true] 63).1 = 0 := by decide +kernel
theorem nf9 : hasB n64 1 4 7 1 [[97, 98, 99]] = true := by decide +kernel
theorem nl1 : m63.loose.length ≤ 1073000000 := by decide +kernel
theorem nl2 : n61.loose.length ≤ 1073000000 := by decide +kernel
section
variable {B : Nat} {w0 w w1 : World} {As : List Asset} {a : Nat} {d : Dev}
theorem St.dev_crash2 (h : St B w0 w As) (hb : Below w.heap.size w w1) (i : Nat) (hi : As[i]? = some (dev a d)) (ko : Option Addr) (kn kc : Nat) (keep : List Bool) (hkn : kn = keep.length) (torn : Int) (hbl : BL w1 ko keep) (hap : ∀ x, ko = some x → x.block < B ∨ w.heap.size ≤ x.block) (hkb : kn ≤ 1073741824) (hlo : d.loose.length ≤ 1073741824) :
    Calls Try.prog 39 #[ptr a, .slice ko kn kc, .int .i64 torn] w1 fun e w' => e = .returned (.int .i64 (d.crash keep torn).1) ∧ St B w0 w' (As.set i (dev a (d.crash keep torn).2)) := by
  obtain ⟨F, hA, hF, hcl⟩ := h.open2 hb i hi
  refine (lift_crash ko kn kc keep hkn torn w1 hbl (fun _ x hx hF' => by rcases hap x hx with h | h <;> have := hF _ hF' <;> omega) hkb hlo hA).mono ?_
  rintro e w' ⟨he, hp, hk⟩
  exact ⟨he, hcl w' _ _ hk (good_dev _ _) hp (fun _ h => .inl h)⟩
end
set_option maxRecDepth 100000 in
set_option maxHeartbeats 1000000 in
theorem known6_any {B : Nat} {w0 : World} (w : World) (h : St B w0 w []) : Calls Try.prog 14 #[] w fun e w' => e = .returned (.bool true) ∧ ∃ As, St B w0 w' As := by
  have H0 := hid h
  clear h
  go_enter Try.func14, Try.ntmps14
  go_wp2_with fail
  refine (made6_any w H0.out).mono ?_
  rintro e w1 ⟨a, rfl, h1⟩
  have H1 := hid h1
  clear h1
  unfold ptr
  go_wp2_with fail
  refine (made6_any w1 H1.out).mono ?_
  rintro e w2 ⟨b, rfl, h2⟩
  have H2 : Hid (St B w0 w2 [dev a m63, dev b m63]) := hid h2
  clear h2
  unfold ptr
  go_wp2_with fail
  refine (area6_any 7 w2).mono ?_
  rintro e w3 ⟨rfl, hb⟩
  have H3 := hid (H2.out.below hb)
  clear hb
  go_wp2_with fail
  refine (many_any 50 (by omega) w3).mono ?_
  rintro e w4 ⟨v, rfl, ho, hb⟩
  obtain ⟨ao, cs, rfl, hnn, hcc, hss, -, hgg⟩ := own_all ho
  have HS4 := hid hss; have HC4 := hid hcc; have HG4 := hid hgg
  have HB4 := hid hb
  clear ho hb hnn hss hcc hgg
  go_wp2_with fail
  refine (H3.out.log_write2 HB4.out 0 rfl 1 4 7 1 ao 50 cs (manyL 50) rfl HC4.out (by omega) HS4.out (fun _ x hx => .inr (HG4.out x hx).1) nl1 (by omega)).mono ?_
  rintro e w5 ⟨rfl, h'⟩
  have H5 : Hid (St B w0 w5 [dev a n61, dev b m63]) := hid h'
  clear h'
  rw [nf1]
  go_wp2_with fail
  refine (area6_any 7 w5).mono ?_
  rintro e w6 ⟨rfl, hb⟩
  have H6 := hid (H5.out.below hb)
  clear hb
  go_wp2_with fail
  refine (H6.out.log_write2 (Below.refl _ _) 0 rfl 1 4 7 3 none 0 0 [] rfl (by omega) (by omega) (SB.nil _) (by rintro _ x ⟨⟩) nl2 (by omega)).mono ?_
  rintro e w7 ⟨rfl, h'⟩
  have H7 : Hid (St B w0 w7 [dev a n62, dev b m63]) := hid h'
  clear h'
  rw [nf2]
  go_wp2_with fail
  refine (H7.out.dev_flush 0 rfl).mono ?_
  rintro e w8 ⟨rfl, h'⟩
  have H8 : Hid (St B w0 w8 [dev a n63, dev b m63]) := hid h'
  clear h'
  rw [nf3]
  have kc := fun (w : World) (C : Array Value) (n c : Nat) => Lib.run_convert_bytes_const (P := Try.prog) w 22 5 C n c Try.underlying22 Try.underlying5
  go_wp2_with fail
  refine (area6_any 7 w8).mono ?_
  rintro e w9 ⟨rfl, hb⟩
  have H9 := hid (H8.out.below hb)
  clear hb
  go_wp2_with fail
  refine (many_any 50 (by omega) (w9.alloc (Obj.cells #[Value.int IntKind.u8 97, Value.int IntKind.u8 98, Value.int IntKind.u8 99] 5 (3, 4)))).mono ?_
  rintro e w10 ⟨v, rfl, ho, hb⟩
  obtain ⟨ao, cs, rfl, hnn, hcc, hss, -, hgg⟩ := own_all ho
  have HSA := hid ((SB.laid w9 [97, 98, 99] 5 3 (fr := (3, 4))).below hb)
  have HSM := hid hss; have HCM := hid hcc
  have HBM := hid ((fresh_alloc w9 (Obj.cells #[Value.int IntKind.u8 97, Value.int IntKind.u8 98, Value.int IntKind.u8 99] 5 (3, 4))).trans (hb.mono (by simp)))
  clear ho hb hnn hss hcc hgg
  go_wp2_with fail
  refine (H9.out.log_has (HBM.out.alloc HBM.out.size _) 0 rfl 1 4 7 3 _ 2 2 [[97, 98, 99], manyL 50] rfl (by omega) (LR.laid2 _ _ _ _ _ 3 cs [97, 98, 99] (manyL 50) rfl rfl (by decide) HCM.out _ HSA.out HSM.out rfl)).mono ?_
  rintro e w11 ⟨rfl, h'⟩
  have H11 := hid h'
  clear h' HSA HSM HCM HBM
  rw [nf4]
  go_wp2_with fail
  refine (area6_any 8 w11).mono ?_
  rintro e w12 ⟨rfl, hb⟩
  have H12 := hid (H11.out.below hb)
  clear hb
  go_wp2_with fail
  refine (H12.out.log_has (Below.refl _ _) 0 rfl 1 4 8 0 none 0 0 [] rfl (by omega) (.inl rfl)).mono ?_
  rintro e w13 ⟨rfl, h'⟩
  have H13 := hid h'
  clear h'
  rw [nf5]
  go_wp2_with fail
  refine (H13.out.log_check 0 rfl 2 5 7).mono ?_
  rintro e w14 ⟨rfl, hb⟩
  have H14 := hid (H13.out.below hb)
  clear hb
  rw [nf6]
  go_wp2_with fail
  refine (area6_any 0 w14).mono ?_
  rintro e w15 ⟨rfl, hb⟩
  have H15 := hid (H14.out.below hb)
  clear hb
  go_wp2_with fail
  refine (H15.out.log_check 0 rfl 1 4 0).mono ?_
  rintro e w16 ⟨rfl, hb⟩
  have H16 := hid (H15.out.below hb)
  clear hb
  rw [nf7]
  go_wp2_with fail
  refine (need_any 0 (by omega) w16).mono ?_
  rintro e w17 ⟨rfl, hwq⟩
  have H17 : Hid (St B w0 w17 [dev a n63, dev b m63]) := hid (by rw [hwq]; exact H16.out)
  clear hwq
  rw [show needOf 0 = 1 from rfl]
  go_wp2_with fail
  refine (need_any 49 (by omega) w17).mono ?_
  rintro e w18 ⟨rfl, hwq⟩
  have H18 : Hid (St B w0 w18 [dev a n63, dev b m63]) := hid (by rw [hwq]; exact H17.out)
  clear hwq
  rw [show needOf 49 = 1 from rfl]
  go_wp2_with fail
  refine (need_bad (-1) (by omega) w18).mono ?_
  rintro e w19 ⟨rfl, hwq⟩
  have H19 : Hid (St B w0 w19 [dev a n63, dev b m63]) := hid (by rw [hwq]; exact H18.out)
  clear hwq
  go_wp2_with fail
  refine (area6_any 7 w19).mono ?_
  rintro e w20 ⟨rfl, hb⟩
  have H20 := hid (H19.out.below hb)
  clear hb
  go_wp2_with fail
  refine (many_any 50 (by omega) w20).mono ?_
  rintro e w21 ⟨v, rfl, ho, hb⟩
  obtain ⟨ao, cs, rfl, hnn, hcc, hss, -, hgg⟩ := own_all ho
  have HS21 := hid hss; have HC21 := hid hcc; have HG21 := hid hgg
  have HB21 := hid hb
  clear ho hb hnn hss hcc hgg
  go_wp2_with fail
  refine (H20.out.log_write2 HB21.out 1 rfl 1 4 7 1 ao 50 cs (manyL 50) rfl HC21.out (by omega) HS21.out (fun _ x hx => .inr (HG21.out x hx).1) nl1 (by omega)).mono ?_
  rintro e w22 ⟨rfl, h'⟩
  have H22 : Hid (St B w0 w22 [dev a n63, dev b n61]) := hid h'
  clear h'
  rw [nf1]
  go_wp2_with fail
  refine (awake6_any w22).mono ?_
  rintro e w23 ⟨rfl, hb⟩
  have H23 := hid (H22.out.below hb)
  clear hb
  go_wp2_with fail
  refine (H23.out.dev_crash2 (fresh_alloc w23 _) 1 rfl _ 1 1 [true] rfl 63 (BL.laid w23 [true] _) (by rintro x ⟨⟩; exact .inr (Nat.le_refl _)) (by omega) (Nat.le_trans nl2 (by omega))).mono ?_
  rintro e w24 ⟨rfl, h'⟩
  have H24 : Hid (St B w0 w24 [dev a n63, dev b n64]) := hid h'
  clear h'
  rw [nf8]
  go_wp2_with fail
  refine (area6_any 7 w24).mono ?_
  rintro e w25 ⟨rfl, hb⟩
  have H25 := hid (H24.out.below hb)
  clear hb
  go_wp2_with fail
  refine (H25.out.log_has ((fresh_alloc w25 (Obj.cells #[Value.int IntKind.u8 97, Value.int IntKind.u8 98, Value.int IntKind.u8 99] 5 (3, 4))).alloc (by simp) _) 1 rfl 1 4 7 1 _ 1 1 [[97, 98, 99]] rfl (by omega) (LR.laid1 _ _ _ 3 [97, 98, 99] rfl (by decide) _ (SB.laid w25 [97, 98, 99] _ _) (by simp))).mono ?_
  rintro e w26 ⟨rfl, h'⟩
  have H26 := hid h'
  clear h'
  rw [nf9]
  go_wp2
  go_ret
  exact ⟨rfl, _, H26.out⟩
theorem logKnown_walk (w : World) : Calls Try.prog 14 #[] w fun e w' => e = .returned (.bool true) ∧ Below w.heap.size w w' :=
  (known6_any w (St.start w)).mono fun _ _ ⟨h1, _, h2⟩ => ⟨h1, h2.be⟩
end Go.Proofs.Ytlondopgibcikaa
