/- The walk of the log's right. (Printed by wip/log2.py.) -/
import Derived.Test.YtlondopgibcikaaRows
import Derived.Test.YtlondopgibcikaaHeap
import Derived.Test.YtlondopgibcikaaKit
import Derived.Test.YtlondopgibcikaaCrcV
import Derived.Test.YtlondopgibcikaaDev
import Derived.Test.YtlondopgibcikaaDevW
import Derived.Test.YtlondopgibcikaaDevV
import Derived.Test.YtlondopgibcikaaDevU
import Derived.Test.YtlondopgibcikaaDevC
import Derived.Test.YtlondopgibcikaaLaw05
import Derived.Test.YtlondopgibcikaaLL
import Derived.Test.YtlondopgibcikaaLogP
import Derived.Test.YtlondopgibcikaaLogW
import Derived.Test.YtlondopgibcikaaLogX
import Derived.Test.YtlondopgibcikaaLogY
import Derived.WalkKit
import Derived.WalkSpells
import Derived.WalkLawsBesides
import Derived.Deep.RegionHeld3
import Derived.Deep.QuietTactic
import Derived.BigQuiet
namespace Go.Proofs.Ytlondopgibcikaa
open Go.RowKit Ent

/-- what is told of a sector -/
def RightRet (b : List UInt8) (gen index g o cap : Nat) (e : Ending) : Prop :=
  match rightOf b gen index with
  | none => e = .returned (.tuple #[.int .i64 0, .slice none 0 0])
  | some (k, p) => e = .returned (.tuple #[.int .i64 (k : Int), .slice (some ⟨g, o + 14, none⟩) p.length (cap - 14)])
theorem right_bad {b : List UInt8} {gen index K U : Nat} (hK : (b.getD 12 0).toNat = K) (hU : (b.getD 13 0).toNat = U) (h : (K < 1 ∨ 4 < K) ∨ 49 < U ∨ (K = 2 ∨ K = 3) ∧ U ≠ 49 ∨ K = 4 ∧ U = 0) : rightOf b gen index = none := by
  unfold rightOf
  simp only [hK, hU]
  rw [if_pos h]
theorem right_good {b : List UInt8} {gen index K U : Nat} (hK : (b.getD 12 0).toNat = K) (hU : (b.getD 13 0).toNat = U) (h : ¬ ((K < 1 ∨ 4 < K) ∨ 49 < U ∨ (K = 2 ∨ K = 3) ∧ U ≠ 49 ∨ K = 4 ∧ U = 0)) :
    (sameB (logSec gen index K ((b.drop 14).take U)) b = true ∧ rightOf b gen index = some (K, (b.drop 14).take U)) ∨ (sameB (logSec gen index K ((b.drop 14).take U)) b = false ∧ rightOf b gen index = none) := by
  unfold rightOf sameB
  simp only [hK, hU]
  rw [if_neg h]
  by_cases he : logSec gen index K ((b.drop 14).take U) = b
  · left; rw [if_pos he]; exact ⟨decide_eq_true he, rfl⟩
  · right; rw [if_neg he]; exact ⟨decide_eq_false he, rfl⟩
set_option maxRecDepth 100000 in
set_option maxHeartbeats 4000000 in
theorem right_any (g o cap : Nat) (b : List UInt8) (hb : b.length = 64) (hcap : 64 ≤ cap) (gen index : Nat) (hg : gen < 4294967296) (hi : index < 4294967296) (w : World) (hr : w.rangeAt g o (bv b)) :
    Calls Try.prog 117 #[.slice (some ⟨g, o, none⟩) 64 cap, .int .i64 gen, .int .i64 index] w fun e w' => RightRet b gen index g o cap e ∧ Below w.heap.size w w' := by
  obtain ⟨x12, hx12⟩ : ∃ x, b[12]? = some x := ⟨_, List.getElem?_eq_getElem (by omega)⟩
  obtain ⟨x13, hx13⟩ : ∃ x, b[13]? = some x := ⟨_, List.getElem?_eq_getElem (by omega)⟩
  have c12 := rangeAt_byte hr hx12
  have c13 := rangeAt_byte hr hx13
  have hK : (b.getD 12 0).toNat = x12.toNat := by simp [List.getD, hx12]
  have hU : (b.getD 13 0).toNat = x13.toNat := by simp [List.getD, hx13]
  have hk256 := x12.toNat_lt
  have hu256 := x13.toNat_lt
  generalize x12.toNat = K at *
  generalize x13.toNat = U at *
  have hHK := hid hK; have hHU := hid hU
  have HB64 := hid hb
  have HR := hid hr
  have HPR : Hid (w.rangeAt g (o + 14) (bv ((b.drop 14).take U))) := hid (fun j v hv => by
    rw [Nat.add_assoc]
    refine hr (14 + j) v ?_
    rw [bv_get] at hv ⊢
    rw [List.getElem?_take] at hv
    split at hv
    · rwa [List.getElem?_drop] at hv
    · cases hv)
  clear hb hr hx12 hx13 hK hU
  by_cases k2 : K = 2
  · subst k2
    by_cases hul : U < 49
    · have HBAD : Hid (rightOf b gen index = none) := hid (right_bad hHK.out hHU.out (by omega))
      go_enter Try.func117, Try.ntmps117
      go_wp2_with fail
      go_quiet (fail)
      go_wp2
      go_ret2
      exact ⟨by unfold RightRet; rw [HBAD.out]; rfl, below_drewN (Below.refl _ _) _⟩
    by_cases hum : 49 < U
    · have HBAD : Hid (rightOf b gen index = none) := hid (right_bad hHK.out hHU.out (by omega))
      go_enter Try.func117, Try.ntmps117
      go_wp2_with fail
      go_quiet (fail)
      go_wp2
      go_ret2
      exact ⟨by unfold RightRet; rw [HBAD.out]; rfl, below_drewN (Below.refl _ _) _⟩
    have HGOOD := hid (right_good (gen := gen) (index := index) hHK.out hHU.out (by omega))
    have HLL : Hid ((logSec gen index 2 ((b.drop 14).take U)).length = 64) := hid (logSec_len (by simp; omega))
    have HPL : Hid (((b.drop 14).take U).length = U) := hid (by simp [HB64.out]; omega)
    go_enter Try.func117, Try.ntmps117
    go_wp2_with fail
    go_quiet (fail)
    go_wp2_with fail
    refine (lmade_any gen index 2 (some ⟨g, o + 14, none⟩) U (cap - 14) ((b.drop 14).take U) (by simp [HB64.out]; omega) (by omega) hg hi (by omega) (w.drewN nq) (.inr (.inr ⟨g, o + 14, rfl, HPR.out⟩))).mono ?_
    rintro e w2 ⟨rfl, hb2⟩
    have HB2 : Hid (Below w.heap.size w w2) := hid ((below_drewN (Below.refl _ _) _).trans hb2)
    clear hb2
    go_wp2_with (refine wpl_store_new rfl 145 (.tmp 13) (.tmp 46) rfl _ _ (bv (logSec gen index 2 ((b.drop 14).take U))) rfl rfl (by rw [bv_length, HLL.out]; exact logsec_info) (by rw [bv_length, HLL.out]; kernel_rfl) (bv_one _) ?_; intro w3 h3 hb3; have H3 := hid h3; have HB3 := hid (th HB2.out hb3); clear h3 hb3)
    refine (equal_any (some ⟨w2.heap.size, 0, none⟩) (some ⟨g, o, none⟩) 64 64 64 cap (logSec gen index 2 ((b.drop 14).take U)) b HLL.out.symm HB64.out.symm (by omega) (by omega) _ (.inr (.inr ⟨w2.heap.size, 0, rfl, H3.out.range fun j v hv => by rw [Nat.zero_add]; exact hv⟩)) (.inr (.inr ⟨g, o, rfl, (Keep.ofBelow (F := fun _ => False) HB3.out).range HR.out id⟩))).mono ?_
    rintro e w4 ⟨rfl, hb4⟩
    have HB4 := hid (th HB3.out hb4)
    clear hb4
    rcases HGOOD.out with ⟨hs, hr⟩ | ⟨hs, hr⟩
    all_goals
      have HR2 := hid hr
      rw [hs]
      clear hs hr
      go_wp2
      go_ret2
      exact ⟨by unfold RightRet; rw [HR2.out]; first | rfl | (show _ = Ending.returned (.tuple #[.int .i64 ((2 : Nat) : Int), .slice (some ⟨g, o + 14, none⟩) ((b.drop 14).take U).length (cap - 14)]); rw [HPL.out]; rfl), HB4.out⟩
  have e2 : ((K : Int) == 2) = false := by rw [beq_eq_false_iff_ne]; omega
  by_cases k3 : K = 3
  · subst k3
    clear k2 e2
    by_cases hul : U < 49
    · have HBAD : Hid (rightOf b gen index = none) := hid (right_bad hHK.out hHU.out (by omega))
      go_enter Try.func117, Try.ntmps117
      go_wp2_with fail
      go_quiet (fail)
      go_wp2
      go_ret2
      exact ⟨by unfold RightRet; rw [HBAD.out]; rfl, below_drewN (Below.refl _ _) _⟩
    by_cases hum : 49 < U
    · have HBAD : Hid (rightOf b gen index = none) := hid (right_bad hHK.out hHU.out (by omega))
      go_enter Try.func117, Try.ntmps117
      go_wp2_with fail
      go_quiet (fail)
      go_wp2
      go_ret2
      exact ⟨by unfold RightRet; rw [HBAD.out]; rfl, below_drewN (Below.refl _ _) _⟩
    have HGOOD := hid (right_good (gen := gen) (index := index) hHK.out hHU.out (by omega))
    have HLL : Hid ((logSec gen index 3 ((b.drop 14).take U)).length = 64) := hid (logSec_len (by simp; omega))
    have HPL : Hid (((b.drop 14).take U).length = U) := hid (by simp [HB64.out]; omega)
    go_enter Try.func117, Try.ntmps117
    go_wp2_with fail
    go_quiet (fail)
    go_wp2_with fail
    refine (lmade_any gen index 3 (some ⟨g, o + 14, none⟩) U (cap - 14) ((b.drop 14).take U) (by simp [HB64.out]; omega) (by omega) hg hi (by omega) (w.drewN nq) (.inr (.inr ⟨g, o + 14, rfl, HPR.out⟩))).mono ?_
    rintro e w2 ⟨rfl, hb2⟩
    have HB2 : Hid (Below w.heap.size w w2) := hid ((below_drewN (Below.refl _ _) _).trans hb2)
    clear hb2
    go_wp2_with (refine wpl_store_new rfl 145 (.tmp 13) (.tmp 46) rfl _ _ (bv (logSec gen index 3 ((b.drop 14).take U))) rfl rfl (by rw [bv_length, HLL.out]; exact logsec_info) (by rw [bv_length, HLL.out]; kernel_rfl) (bv_one _) ?_; intro w3 h3 hb3; have H3 := hid h3; have HB3 := hid (th HB2.out hb3); clear h3 hb3)
    refine (equal_any (some ⟨w2.heap.size, 0, none⟩) (some ⟨g, o, none⟩) 64 64 64 cap (logSec gen index 3 ((b.drop 14).take U)) b HLL.out.symm HB64.out.symm (by omega) (by omega) _ (.inr (.inr ⟨w2.heap.size, 0, rfl, H3.out.range fun j v hv => by rw [Nat.zero_add]; exact hv⟩)) (.inr (.inr ⟨g, o, rfl, (Keep.ofBelow (F := fun _ => False) HB3.out).range HR.out id⟩))).mono ?_
    rintro e w4 ⟨rfl, hb4⟩
    have HB4 := hid (th HB3.out hb4)
    clear hb4
    rcases HGOOD.out with ⟨hs, hr⟩ | ⟨hs, hr⟩
    all_goals
      have HR2 := hid hr
      rw [hs]
      clear hs hr
      go_wp2
      go_ret2
      exact ⟨by unfold RightRet; rw [HR2.out]; first | rfl | (show _ = Ending.returned (.tuple #[.int .i64 ((3 : Nat) : Int), .slice (some ⟨g, o + 14, none⟩) ((b.drop 14).take U).length (cap - 14)]); rw [HPL.out]; rfl), HB4.out⟩
  have e3 : ((K : Int) == 3) = false := by rw [beq_eq_false_iff_ne]; omega
  by_cases k4 : K = 4
  · subst k4
    clear k2 e2 k3 e3
    by_cases hul : U < 1
    · have HBAD : Hid (rightOf b gen index = none) := hid (right_bad hHK.out hHU.out (by omega))
      go_enter Try.func117, Try.ntmps117
      go_wp2_with fail
      go_quiet (fail)
      go_wp2
      go_ret2
      exact ⟨by unfold RightRet; rw [HBAD.out]; rfl, below_drewN (Below.refl _ _) _⟩
    by_cases hum : 49 < U
    · have HBAD : Hid (rightOf b gen index = none) := hid (right_bad hHK.out hHU.out (by omega))
      go_enter Try.func117, Try.ntmps117
      go_wp2_with fail
      go_quiet (fail)
      go_wp2
      go_ret2
      exact ⟨by unfold RightRet; rw [HBAD.out]; rfl, below_drewN (Below.refl _ _) _⟩
    have HGOOD := hid (right_good (gen := gen) (index := index) hHK.out hHU.out (by omega))
    have HLL : Hid ((logSec gen index 4 ((b.drop 14).take U)).length = 64) := hid (logSec_len (by simp; omega))
    have HPL : Hid (((b.drop 14).take U).length = U) := hid (by simp [HB64.out]; omega)
    go_enter Try.func117, Try.ntmps117
    go_wp2_with fail
    go_quiet (fail)
    go_wp2_with fail
    refine (lmade_any gen index 4 (some ⟨g, o + 14, none⟩) U (cap - 14) ((b.drop 14).take U) (by simp [HB64.out]; omega) (by omega) hg hi (by omega) (w.drewN nq) (.inr (.inr ⟨g, o + 14, rfl, HPR.out⟩))).mono ?_
    rintro e w2 ⟨rfl, hb2⟩
    have HB2 : Hid (Below w.heap.size w w2) := hid ((below_drewN (Below.refl _ _) _).trans hb2)
    clear hb2
    go_wp2_with (refine wpl_store_new rfl 145 (.tmp 13) (.tmp 46) rfl _ _ (bv (logSec gen index 4 ((b.drop 14).take U))) rfl rfl (by rw [bv_length, HLL.out]; exact logsec_info) (by rw [bv_length, HLL.out]; kernel_rfl) (bv_one _) ?_; intro w3 h3 hb3; have H3 := hid h3; have HB3 := hid (th HB2.out hb3); clear h3 hb3)
    refine (equal_any (some ⟨w2.heap.size, 0, none⟩) (some ⟨g, o, none⟩) 64 64 64 cap (logSec gen index 4 ((b.drop 14).take U)) b HLL.out.symm HB64.out.symm (by omega) (by omega) _ (.inr (.inr ⟨w2.heap.size, 0, rfl, H3.out.range fun j v hv => by rw [Nat.zero_add]; exact hv⟩)) (.inr (.inr ⟨g, o, rfl, (Keep.ofBelow (F := fun _ => False) HB3.out).range HR.out id⟩))).mono ?_
    rintro e w4 ⟨rfl, hb4⟩
    have HB4 := hid (th HB3.out hb4)
    clear hb4
    rcases HGOOD.out with ⟨hs, hr⟩ | ⟨hs, hr⟩
    all_goals
      have HR2 := hid hr
      rw [hs]
      clear hs hr
      go_wp2
      go_ret2
      exact ⟨by unfold RightRet; rw [HR2.out]; first | rfl | (show _ = Ending.returned (.tuple #[.int .i64 ((4 : Nat) : Int), .slice (some ⟨g, o + 14, none⟩) ((b.drop 14).take U).length (cap - 14)]); rw [HPL.out]; rfl), HB4.out⟩
  have e4 : ((K : Int) == 4) = false := by rw [beq_eq_false_iff_ne]; omega
  by_cases k1 : K = 1
  · subst k1
    clear k2 e2 k3 e3 k4 e4
    by_cases hum : 49 < U
    · have HBAD : Hid (rightOf b gen index = none) := hid (right_bad hHK.out hHU.out (by omega))
      go_enter Try.func117, Try.ntmps117
      go_wp2_with fail
      go_quiet (fail)
      go_wp2
      go_ret2
      exact ⟨by unfold RightRet; rw [HBAD.out]; rfl, below_drewN (Below.refl _ _) _⟩
    have HGOOD := hid (right_good (gen := gen) (index := index) hHK.out hHU.out (by omega))
    have HLL : Hid ((logSec gen index 1 ((b.drop 14).take U)).length = 64) := hid (logSec_len (by simp; omega))
    have HPL : Hid (((b.drop 14).take U).length = U) := hid (by simp [HB64.out]; omega)
    go_enter Try.func117, Try.ntmps117
    go_wp2_with fail
    go_quiet (fail)
    go_wp2_with fail
    refine (lmade_any gen index 1 (some ⟨g, o + 14, none⟩) U (cap - 14) ((b.drop 14).take U) (by simp [HB64.out]; omega) (by omega) hg hi (by omega) (w.drewN nq) (.inr (.inr ⟨g, o + 14, rfl, HPR.out⟩))).mono ?_
    rintro e w2 ⟨rfl, hb2⟩
    have HB2 : Hid (Below w.heap.size w w2) := hid ((below_drewN (Below.refl _ _) _).trans hb2)
    clear hb2
    go_wp2_with (refine wpl_store_new rfl 145 (.tmp 13) (.tmp 46) rfl _ _ (bv (logSec gen index 1 ((b.drop 14).take U))) rfl rfl (by rw [bv_length, HLL.out]; exact logsec_info) (by rw [bv_length, HLL.out]; kernel_rfl) (bv_one _) ?_; intro w3 h3 hb3; have H3 := hid h3; have HB3 := hid (th HB2.out hb3); clear h3 hb3)
    refine (equal_any (some ⟨w2.heap.size, 0, none⟩) (some ⟨g, o, none⟩) 64 64 64 cap (logSec gen index 1 ((b.drop 14).take U)) b HLL.out.symm HB64.out.symm (by omega) (by omega) _ (.inr (.inr ⟨w2.heap.size, 0, rfl, H3.out.range fun j v hv => by rw [Nat.zero_add]; exact hv⟩)) (.inr (.inr ⟨g, o, rfl, (Keep.ofBelow (F := fun _ => False) HB3.out).range HR.out id⟩))).mono ?_
    rintro e w4 ⟨rfl, hb4⟩
    have HB4 := hid (th HB3.out hb4)
    clear hb4
    rcases HGOOD.out with ⟨hs, hr⟩ | ⟨hs, hr⟩
    all_goals
      have HR2 := hid hr
      rw [hs]
      clear hs hr
      go_wp2
      go_ret2
      exact ⟨by unfold RightRet; rw [HR2.out]; first | rfl | (show _ = Ending.returned (.tuple #[.int .i64 ((1 : Nat) : Int), .slice (some ⟨g, o + 14, none⟩) ((b.drop 14).take U).length (cap - 14)]); rw [HPL.out]; rfl), HB4.out⟩
  have e1 : ((K : Int) == 1) = false := by rw [beq_eq_false_iff_ne]; omega
  have HBAD : Hid (rightOf b gen index = none) := hid (right_bad hHK.out hHU.out (by omega))
  clear k1 k2 k3 k4
  go_enter Try.func117, Try.ntmps117
  go_wp2_with fail
  go_quiet (fail)
  go_wp2
  go_ret2
  exact ⟨by unfold RightRet; rw [HBAD.out]; rfl, below_drewN (Below.refl _ _) _⟩
end Go.Proofs.Ytlondopgibcikaa
