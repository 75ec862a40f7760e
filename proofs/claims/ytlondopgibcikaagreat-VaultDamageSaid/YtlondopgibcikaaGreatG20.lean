/- The document's right. -/
import Derived.Test.YtlondopgibcikaaGreatRows
import Derived.Test.YtlondopgibcikaaGreatG01
import Derived.Test.YtlondopgibcikaaGreatG02
import Derived.Test.YtlondopgibcikaaGreatG07
import Derived.Test.YtlondopgibcikaaGreatG08
import Derived.Test.YtlondopgibcikaaGreatG13
import Derived.Test.YtlondopgibcikaaGreatG17
import Derived.WalkKit
import Derived.WalkSpells
import Derived.WalkLawsBesides
import Derived.Deep.RegionHeld3
import Derived.Deep.QuietTactic
import Derived.BigQuiet
import Derived.Laws.IdiomStrings
namespace Go.Proofs.YtlondopgibcikaaGreat
open Go.RowKit Ent
theorem wpo_convS {o : Oper} {a : Act} {w : World} {K : Act → World → Prop} {Q : Exit → Act → World → Prop} (x : Operand) (ho : o.op = .convert 44 9 x)
    (g i n c : Nat) (l : List UInt8) (hx : a.eval x = .slice (some ⟨g, i, none⟩) n c) (hn : n = l.length) (hr : w.rangeAt g i (bv l)) (h : K (a.put o.dst (.string ⟨l.toArray⟩)) w) : o.wp Tryz.prog a w K Q := by
  subst hn
  have := run_convert_bytes_back (P := Tryz.prog) w 44 9 5 ⟨g, i, none⟩ c l Tryz.underlying44 Tryz.underlying5 Tryz.underlying9 (fun j hj => by
    rw [Addr.add_mid]; exact hr j _ (by simp [bv, hj]))
  unfold Oper.wp execOp
  simp only [ho, hx, Sem.run_bind, this, Result.andThen_ok]
  exact h
theorem wpo_neqS {o : Oper} {a : Act} {w : World} {K : Act → World → Prop} {Q : Exit → Act → World → Prop} (x y : Operand) (ho : o.op = .binOp .neq 9 x y 9) (l m : List UInt8) (hx : a.eval x = .string ⟨l.toArray⟩) (hy : a.eval y = .string ⟨m.toArray⟩)
    (h : K (a.put o.dst (.bool (!sameB l m))) w) : o.wp Tryz.prog a w K Q := by
  unfold Oper.wp execOp
  simp only [ho, hx, hy]
  by_cases he : l = m
  · subst he
    have : sameB l l = true := by simp [sameB]
    rw [this] at h
    go_simp
    exact h
  · have : sameB l m = false := by simp [sameB, he]
    rw [this] at h
    have h2 : ¬ (⟨l.toArray⟩ : ByteArray) = ⟨m.toArray⟩ := by simpa using he
    have h3 : (l == m) = false := by rw [beq_eq_false_iff_ne]; exact he
    go_simp
    simpa [he, Act.put] using h
set_option maxRecDepth 100000 in
set_option maxHeartbeats 2000000 in
theorem rright_any (g o cap : Nat) (b : List UInt8) (hb : b.length = 64) (hcap : 64 ≤ cap) (gen index : Nat) (hg : gen < 2147483648) (hi : index < 2147483648) (w : World) (hr : w.rangeAt g o (bv b)) :
    Calls Tryz.prog 115 #[.slice (some ⟨g, o, none⟩) 64 cap, .int .i64 gen, .int .i64 index] w fun e w' => RightRet b gen index g o cap e ∧ Below w.heap.size w w' := by
  obtain ⟨x12, hx12⟩ : ∃ x, b[12]? = some x := ⟨_, List.getElem?_eq_getElem (by omega)⟩
  obtain ⟨x13, hx13⟩ : ∃ x, b[13]? = some x := ⟨_, List.getElem?_eq_getElem (by omega)⟩
  have c12 := rangeAt_byte hr hx12
  have c13 := rangeAt_byte hr hx13
  have hK : (b.getD 12 0).toNat = x12.toNat := by simp [List.getD, hx12]
  have hU : (b.getD 13 0).toNat = x13.toNat := by simp [List.getD, hx13]
  have hk256 := x12.toNat_lt
  have hu256 := x13.toNat_lt
  generalize x12.toNat = K at *
  generalize x13.toNat = U at *
  have hHK := hid hK; have hHU := hid hU
  have HB64 := hid hb
  have HR := hid hr
  have HPR : Hid (w.rangeAt g (o + 14) (bv ((b.drop 14).take U))) := hid (fun j v hv => by
    rw [Nat.add_assoc]
    refine hr (14 + j) v ?_
    rw [bv_get] at hv ⊢
    rw [List.getElem?_take] at hv
    split at hv
    · rwa [List.getElem?_drop] at hv
    · cases hv)
  clear hb hr hx12 hx13 hK hU
  have HPRD : Hid (∀ w' : World, w'.rangeAt g o (bv b) → w'.rangeAt g (o + 14) (bv ((b.drop 14).take U))) := hid (fun w' h j v hv => by
    rw [Nat.add_assoc]
    refine h (14 + j) v ?_
    rw [bv_get] at hv ⊢
    rw [List.getElem?_take] at hv
    split at hv
    · rwa [List.getElem?_drop] at hv
    · cases hv)
  by_cases k0 : K < 1
  · obtain rfl : K = 0 := by omega
    have HBAD : Hid (rightOf b gen index = none) := hid (right_bad hHK.out hHU.out (by omega))
    go_enter Tryz.func115, Tryz.ntmps115
    go_wp2_with fail
    go_quiet (fail)
    go_wp2
    go_ret2
    exact ⟨by unfold RightRet; rw [HBAD.out]; rfl, below_drewN (Below.refl _ _) _⟩
  by_cases k5 : 4 < K
  · have HBAD : Hid (rightOf b gen index = none) := hid (right_bad hHK.out hHU.out (by omega))
    go_enter Tryz.func115, Tryz.ntmps115
    go_wp2_with fail
    go_quiet (fail)
    go_wp2
    go_ret2
    exact ⟨by unfold RightRet; rw [HBAD.out]; rfl, below_drewN (Below.refl _ _) _⟩
  by_cases u5 : 49 < U
  · have HBAD : Hid (rightOf b gen index = none) := hid (right_bad hHK.out hHU.out (by omega))
    go_enter Tryz.func115, Tryz.ntmps115
    go_wp2_with fail
    go_quiet (fail)
    go_wp2
    go_ret2
    exact ⟨by unfold RightRet; rw [HBAD.out]; rfl, below_drewN (Below.refl _ _) _⟩
  by_cases k1 : K = 1
  · subst k1
    have HGOOD := hid (right_good (gen := gen) (index := index) hHK.out hHU.out (by omega))
    have HPL : Hid (((b.drop 14).take U).length = U) := hid (by simp [HB64.out]; omega)
    have HLL : Hid ((logSec gen index 1 ((b.drop 14).take U)).length = 64) := hid (logSec_len (by rw [HPL.out]; omega))
    go_enter Tryz.func115, Tryz.ntmps115
    go_wp2_with fail
    go_quiet (fail)
    go_wp2_with fail
    have q0 : IntKind.i64.wrap (14 + (U : Int)) = 14 + (U : Int) := IntWalk.i64_in _ (by omega)
    have q1 : 14 + (U : Int) ≤ (cap : Int) := by omega
    have q2 : max (14 + (U : Int)) 0 = 14 + (U : Int) := by omega
    have q3 : ¬ cap = 14 := by omega
    have q4 : (14 + (U : Int)).toNat - 14 = U := by omega
    have q5 : (0 : Int) ≤ 14 + (U : Int) := by omega
    have q6 : (14 : Int) ≤ 14 + (U : Int) := by omega
    have HBB := hid (below_drewN (Below.refl w.heap.size w) nq)
    refine wp_region_held_drew (S := fun w' => w'.rangeAt g o (bv b)) (by kernel_rfl) ((Keep.ofBelow (F := fun _ => False) HBB.out).range HR.out id) (fun hS => ?_)
    have HBC := hid (HBB.out.trans (Below.refl _ _).drew)
    refine tkH (i := 0) (v := ?v0x1z1) (y := Or.inl ⟨by rfl, ?y0x1z1⟩) (s := hS) (h := ?r0x1z1)
    case y0x1z1 => (intro w' hSw; (try dsimp only at hSw); go_simp; (try with_reducible rfl))
    simp only [Act.put, sA, sB, sC]
    refine tkH (i := 1) (v := ?v1x2z1) (y := Or.inl ⟨by rfl, ?y1x2z1⟩) (s := hS) (h := ?r1x2z1)
    case y1x2z1 => (intro w' hSw; (try dsimp only at hSw); go_simp; (try with_reducible rfl))
    simp only [Act.put, sA, sB, sC]
    refine tkH (i := 2) (v := ?v2x3z1) (y := Or.inl ⟨by rfl, ?y2x3z1⟩) (s := hS) (h := ?r2x3z1)
    case y2x3z1 => (intro w' hSw; (try dsimp only at hSw); go_simp; (try with_reducible rfl))
    simp only [Act.put, sA, sB, sC]
    refine tkH (i := 3) (v := ?v3x4z1) (y := Or.inl ⟨by rfl, ?y3x4z1⟩) (s := hS) (h := ?r3x4z1)
    case y3x4z1 => (intro w' hSw; (try dsimp only at hSw); go_simp; (try with_reducible rfl))
    simp only [Act.put, sA, sB, sC]
    refine tkH (i := 4) (v := ?v4x5z1) (y := Or.inl ⟨by rfl, ?y4x5z1⟩) (s := hS) (h := ?r4x5z1)
    case y4x5z1 => (intro w' hSw; (try dsimp only at hSw); go_simp; (try with_reducible rfl))
    simp only [Act.put, sA, sB, sC]
    refine tkH (i := 5) (v := ?v5x6z1) (y := Or.inl ⟨by rfl, ?y5x6z1⟩) (s := hS) (h := ?r5x6z1)
    case y5x6z1 => (intro w' hSw; (try dsimp only at hSw); go_simp; (try with_reducible rfl))
    simp only [Act.put, sA, sB, sC]
    refine tkH (i := 6) (v := ?v6x7z1) (y := Or.inl ⟨by rfl, ?y6x7z1⟩) (s := hS) (h := ?r6x7z1)
    case y6x7z1 => (intro w' hSw; (try dsimp only at hSw); go_simp; (try with_reducible rfl))
    simp only [Act.put, sA, sB, sC]
    refine tkH (i := 9) (v := ?v9x8z1) (y := Or.inl ⟨by rfl, ?y9x8z1⟩) (s := hS) (h := ?r9x8z1)
    case y9x8z1 => (intro w' hSw; (try dsimp only at hSw); go_simp; (try with_reducible rfl))
    simp only [Act.put, sA, sB, sC]
    refine wpAnyH_ready (rs := [7, 10]) (by kernel_rfl) (by simp) ?_
    refine AllReadyH.cons (by simp only [List.getElem?_toArray, List.getElem?_cons_zero, List.getElem?_cons_succ]; exact rfl) (fun K hK => ?_) (AllReadyH.cons (by simp only [List.getElem?_toArray, List.getElem?_cons_zero, List.getElem?_cons_succ]; exact rfl) (fun K hK => ?_) AllReadyH.nil)
    · go_simp
      refine (rsector_any gen index 1 (some ⟨g, o + 14, none⟩) U (cap - 14) ((b.drop 14).take U) HPL.out.symm (by omega) hg hi (by omega) _ (.inr (.inr ⟨g, o + 14, rfl, HPRD.out _ hS⟩))).mono ?_
      rintro e w5 ⟨gs, rfl, hm, hgs, hb5⟩
      have HM := hid hm
      have HBC := hid (HBC.out.trans (hb5.mono HBC.out.size))
      have hS5 := (Keep.ofBelow (F := fun _ => False) hb5).range hS id
      clear hm hgs hb5
      refine hK.out _ _ ?k7x9z1 (fun hS => ?s7x9z1)
      case k7x9z1 => exact hS5
      clear hK K
      try simp only [Act.put, sA, sB, sC]
      refine wpAnyH_ready (rs := [8, 10]) (by kernel_rfl) (by simp) ?_
      refine AllReadyH.cons (by simp only [List.getElem?_toArray, List.getElem?_cons_zero, List.getElem?_cons_succ]; exact rfl) (fun K hK => ?_) (AllReadyH.cons (by simp only [List.getElem?_toArray, List.getElem?_cons_zero, List.getElem?_cons_succ]; exact rfl) (fun K hK => ?_) AllReadyH.nil)
      · refine wpo_convS (.tmp 55) rfl gs 0 64 64 (logSec gen index 1 ((b.drop 14).take U)) rfl HLL.out.symm (HM.out.range fun j v hv => by rw [Nat.zero_add]; exact hv) ?_
        refine hK.out _ _ ?k8x10z1 (fun hS => ?s8x10z1)
        case k8x10z1 => exact hS
        clear hK K
        try simp only [Act.put, sA, sB, sC]
        refine rdH (i := 10) (h := fun K hK => ?_)
        refine wpo_convS (.tmp 57) rfl g o 64 cap b rfl HB64.out.symm hS ?_
        refine hK.out _ _ ?k10x11z1 (fun hS => ?s10x11z1)
        case k10x11z1 => exact hS
        clear hK K
        try simp only [Act.put, sA, sB, sC]
        refine rdH (i := 11) (h := fun K hK => ?_)
        refine wpo_neqS (.tmp 56) (.tmp 58) rfl (logSec gen index 1 ((b.drop 14).take U)) b rfl rfl ?_
        refine hK.out _ _ ?k11x12z1 (fun hS => ?s11x12z1)
        case k11x12z1 => exact hS
        clear hK K
        try simp only [Act.put, sA, sB, sC]
        refine wpAnyH_done (by kernel_rfl) ?_ _
        clear hS
        rcases HGOOD.out with ⟨hs, hr⟩ | ⟨hs, hr⟩
        · have HR2 := hid hr
          rw [hs]
          clear hs hr
          go_wp2_with fail
          go_quiet (fail)
          go_wp2
          go_ret2
          exact ⟨by unfold RightRet; rw [HR2.out]; show _ = Ending.returned (.tuple #[.int .i64 ((1 : Nat) : Int), .slice (some ⟨g, o + 14, none⟩) ((b.drop 14).take U).length (cap - 14)]); rw [HPL.out]; rfl, below_drewN HBC.out _⟩
        · have HR2 := hid hr
          rw [hs]
          clear hs hr
          go_wp2
          go_ret2
          exact ⟨by unfold RightRet; rw [HR2.out]; rfl, HBC.out⟩
      · refine wpo_convS (.tmp 57) rfl g o 64 cap b rfl HB64.out.symm hS ?_
        refine hK.out _ _ ?k10x13z1 (fun hS => ?s10x13z1)
        case k10x13z1 => exact hS
        clear hK K
        try simp only [Act.put, sA, sB, sC]
        refine rdH (i := 8) (h := fun K hK => ?_)
        refine wpo_convS (.tmp 55) rfl gs 0 64 64 (logSec gen index 1 ((b.drop 14).take U)) rfl HLL.out.symm (HM.out.range fun j v hv => by rw [Nat.zero_add]; exact hv) ?_
        refine hK.out _ _ ?k8x14z1 (fun hS => ?s8x14z1)
        case k8x14z1 => exact hS
        clear hK K
        try simp only [Act.put, sA, sB, sC]
        refine rdH (i := 11) (h := fun K hK => ?_)
        refine wpo_neqS (.tmp 56) (.tmp 58) rfl (logSec gen index 1 ((b.drop 14).take U)) b rfl rfl ?_
        refine hK.out _ _ ?k11x15z1 (fun hS => ?s11x15z1)
        case k11x15z1 => exact hS
        clear hK K
        try simp only [Act.put, sA, sB, sC]
        refine wpAnyH_done (by kernel_rfl) ?_ _
        clear hS
        rcases HGOOD.out with ⟨hs, hr⟩ | ⟨hs, hr⟩
        · have HR2 := hid hr
          rw [hs]
          clear hs hr
          go_wp2_with fail
          go_quiet (fail)
          go_wp2
          go_ret2
          exact ⟨by unfold RightRet; rw [HR2.out]; show _ = Ending.returned (.tuple #[.int .i64 ((1 : Nat) : Int), .slice (some ⟨g, o + 14, none⟩) ((b.drop 14).take U).length (cap - 14)]); rw [HPL.out]; rfl, below_drewN HBC.out _⟩
        · have HR2 := hid hr
          rw [hs]
          clear hs hr
          go_wp2
          go_ret2
          exact ⟨by unfold RightRet; rw [HR2.out]; rfl, HBC.out⟩
    · refine wpo_convS (.tmp 57) rfl g o 64 cap b rfl HB64.out.symm hS ?_
      refine hK.out _ _ ?k10x16z1 (fun hS => ?s10x16z1)
      case k10x16z1 => exact hS
      clear hK K
      try simp only [Act.put, sA, sB, sC]
      refine rdH (i := 7) (h := fun K hK => ?_)
      go_simp
      refine (rsector_any gen index 1 (some ⟨g, o + 14, none⟩) U (cap - 14) ((b.drop 14).take U) HPL.out.symm (by omega) hg hi (by omega) _ (.inr (.inr ⟨g, o + 14, rfl, HPRD.out _ hS⟩))).mono ?_
      rintro e w5 ⟨gs, rfl, hm, hgs, hb5⟩
      have HM := hid hm
      have HBC := hid (HBC.out.trans (hb5.mono HBC.out.size))
      have hS5 := (Keep.ofBelow (F := fun _ => False) hb5).range hS id
      clear hm hgs hb5
      refine hK.out _ _ ?k7x17z1 (fun hS => ?s7x17z1)
      case k7x17z1 => exact hS5
      clear hK K
      try simp only [Act.put, sA, sB, sC]
      refine rdH (i := 8) (h := fun K hK => ?_)
      refine wpo_convS (.tmp 55) rfl gs 0 64 64 (logSec gen index 1 ((b.drop 14).take U)) rfl HLL.out.symm (HM.out.range fun j v hv => by rw [Nat.zero_add]; exact hv) ?_
      refine hK.out _ _ ?k8x18z1 (fun hS => ?s8x18z1)
      case k8x18z1 => exact hS
      clear hK K
      try simp only [Act.put, sA, sB, sC]
      refine rdH (i := 11) (h := fun K hK => ?_)
      refine wpo_neqS (.tmp 56) (.tmp 58) rfl (logSec gen index 1 ((b.drop 14).take U)) b rfl rfl ?_
      refine hK.out _ _ ?k11x19z1 (fun hS => ?s11x19z1)
      case k11x19z1 => exact hS
      clear hK K
      try simp only [Act.put, sA, sB, sC]
      refine wpAnyH_done (by kernel_rfl) ?_ _
      clear hS
      rcases HGOOD.out with ⟨hs, hr⟩ | ⟨hs, hr⟩
      · have HR2 := hid hr
        rw [hs]
        clear hs hr
        go_wp2_with fail
        go_quiet (fail)
        go_wp2
        go_ret2
        exact ⟨by unfold RightRet; rw [HR2.out]; show _ = Ending.returned (.tuple #[.int .i64 ((1 : Nat) : Int), .slice (some ⟨g, o + 14, none⟩) ((b.drop 14).take U).length (cap - 14)]); rw [HPL.out]; rfl, below_drewN HBC.out _⟩
      · have HR2 := hid hr
        rw [hs]
        clear hs hr
        go_wp2
        go_ret2
        exact ⟨by unfold RightRet; rw [HR2.out]; rfl, HBC.out⟩
  by_cases k2 : K = 2
  · subst k2
    by_cases u9 : U = 49
    · have e9 : ((U : Int) == 49) = true := by simp; omega
      have e8 : ((U : Int) != 49) = false := by simp; omega
      have u48 : 49 ≤ U := by omega
      clear u9
      have HGOOD := hid (right_good (gen := gen) (index := index) hHK.out hHU.out (by omega))
      have HPL : Hid (((b.drop 14).take U).length = U) := hid (by simp [HB64.out]; omega)
      have HLL : Hid ((logSec gen index 2 ((b.drop 14).take U)).length = 64) := hid (logSec_len (by rw [HPL.out]; omega))
      go_enter Tryz.func115, Tryz.ntmps115
      go_wp2_with fail
      go_quiet (fail)
      go_wp2_with fail
      have q0 : IntKind.i64.wrap (14 + (U : Int)) = 14 + (U : Int) := IntWalk.i64_in _ (by omega)
      have q1 : 14 + (U : Int) ≤ (cap : Int) := by omega
      have q2 : max (14 + (U : Int)) 0 = 14 + (U : Int) := by omega
      have q3 : ¬ cap = 14 := by omega
      have q4 : (14 + (U : Int)).toNat - 14 = U := by omega
      have q5 : (0 : Int) ≤ 14 + (U : Int) := by omega
      have q6 : (14 : Int) ≤ 14 + (U : Int) := by omega
      have HBB := hid (below_drewN (Below.refl w.heap.size w) nq)
      refine wp_region_held_drew (S := fun w' => w'.rangeAt g o (bv b)) (by kernel_rfl) ((Keep.ofBelow (F := fun _ => False) HBB.out).range HR.out id) (fun hS => ?_)
      have HBC := hid (HBB.out.trans (Below.refl _ _).drew)
      refine tkH (i := 0) (v := ?v0x1z2) (y := Or.inl ⟨by rfl, ?y0x1z2⟩) (s := hS) (h := ?r0x1z2)
      case y0x1z2 => (intro w' hSw; (try dsimp only at hSw); go_simp; (try with_reducible rfl))
      simp only [Act.put, sA, sB, sC]
      refine tkH (i := 1) (v := ?v1x2z2) (y := Or.inl ⟨by rfl, ?y1x2z2⟩) (s := hS) (h := ?r1x2z2)
      case y1x2z2 => (intro w' hSw; (try dsimp only at hSw); go_simp; (try with_reducible rfl))
      simp only [Act.put, sA, sB, sC]
      refine tkH (i := 2) (v := ?v2x3z2) (y := Or.inl ⟨by rfl, ?y2x3z2⟩) (s := hS) (h := ?r2x3z2)
      case y2x3z2 => (intro w' hSw; (try dsimp only at hSw); go_simp; (try with_reducible rfl))
      simp only [Act.put, sA, sB, sC]
      refine tkH (i := 3) (v := ?v3x4z2) (y := Or.inl ⟨by rfl, ?y3x4z2⟩) (s := hS) (h := ?r3x4z2)
      case y3x4z2 => (intro w' hSw; (try dsimp only at hSw); go_simp; (try with_reducible rfl))
      simp only [Act.put, sA, sB, sC]
      refine tkH (i := 4) (v := ?v4x5z2) (y := Or.inl ⟨by rfl, ?y4x5z2⟩) (s := hS) (h := ?r4x5z2)
      case y4x5z2 => (intro w' hSw; (try dsimp only at hSw); go_simp; (try with_reducible rfl))
      simp only [Act.put, sA, sB, sC]
      refine tkH (i := 5) (v := ?v5x6z2) (y := Or.inl ⟨by rfl, ?y5x6z2⟩) (s := hS) (h := ?r5x6z2)
      case y5x6z2 => (intro w' hSw; (try dsimp only at hSw); go_simp; (try with_reducible rfl))
      simp only [Act.put, sA, sB, sC]
      refine tkH (i := 6) (v := ?v6x7z2) (y := Or.inl ⟨by rfl, ?y6x7z2⟩) (s := hS) (h := ?r6x7z2)
      case y6x7z2 => (intro w' hSw; (try dsimp only at hSw); go_simp; (try with_reducible rfl))
      simp only [Act.put, sA, sB, sC]
      refine tkH (i := 9) (v := ?v9x8z2) (y := Or.inl ⟨by rfl, ?y9x8z2⟩) (s := hS) (h := ?r9x8z2)
      case y9x8z2 => (intro w' hSw; (try dsimp only at hSw); go_simp; (try with_reducible rfl))
      simp only [Act.put, sA, sB, sC]
      refine wpAnyH_ready (rs := [7, 10]) (by kernel_rfl) (by simp) ?_
      refine AllReadyH.cons (by simp only [List.getElem?_toArray, List.getElem?_cons_zero, List.getElem?_cons_succ]; exact rfl) (fun K hK => ?_) (AllReadyH.cons (by simp only [List.getElem?_toArray, List.getElem?_cons_zero, List.getElem?_cons_succ]; exact rfl) (fun K hK => ?_) AllReadyH.nil)
      · go_simp
        refine (rsector_any gen index 2 (some ⟨g, o + 14, none⟩) U (cap - 14) ((b.drop 14).take U) HPL.out.symm (by omega) hg hi (by omega) _ (.inr (.inr ⟨g, o + 14, rfl, HPRD.out _ hS⟩))).mono ?_
        rintro e w5 ⟨gs, rfl, hm, hgs, hb5⟩
        have HM := hid hm
        have HBC := hid (HBC.out.trans (hb5.mono HBC.out.size))
        have hS5 := (Keep.ofBelow (F := fun _ => False) hb5).range hS id
        clear hm hgs hb5
        refine hK.out _ _ ?k7x9z2 (fun hS => ?s7x9z2)
        case k7x9z2 => exact hS5
        clear hK K
        try simp only [Act.put, sA, sB, sC]
        refine wpAnyH_ready (rs := [8, 10]) (by kernel_rfl) (by simp) ?_
        refine AllReadyH.cons (by simp only [List.getElem?_toArray, List.getElem?_cons_zero, List.getElem?_cons_succ]; exact rfl) (fun K hK => ?_) (AllReadyH.cons (by simp only [List.getElem?_toArray, List.getElem?_cons_zero, List.getElem?_cons_succ]; exact rfl) (fun K hK => ?_) AllReadyH.nil)
        · refine wpo_convS (.tmp 55) rfl gs 0 64 64 (logSec gen index 2 ((b.drop 14).take U)) rfl HLL.out.symm (HM.out.range fun j v hv => by rw [Nat.zero_add]; exact hv) ?_
          refine hK.out _ _ ?k8x10z2 (fun hS => ?s8x10z2)
          case k8x10z2 => exact hS
          clear hK K
          try simp only [Act.put, sA, sB, sC]
          refine rdH (i := 10) (h := fun K hK => ?_)
          refine wpo_convS (.tmp 57) rfl g o 64 cap b rfl HB64.out.symm hS ?_
          refine hK.out _ _ ?k10x11z2 (fun hS => ?s10x11z2)
          case k10x11z2 => exact hS
          clear hK K
          try simp only [Act.put, sA, sB, sC]
          refine rdH (i := 11) (h := fun K hK => ?_)
          refine wpo_neqS (.tmp 56) (.tmp 58) rfl (logSec gen index 2 ((b.drop 14).take U)) b rfl rfl ?_
          refine hK.out _ _ ?k11x12z2 (fun hS => ?s11x12z2)
          case k11x12z2 => exact hS
          clear hK K
          try simp only [Act.put, sA, sB, sC]
          refine wpAnyH_done (by kernel_rfl) ?_ _
          clear hS
          rcases HGOOD.out with ⟨hs, hr⟩ | ⟨hs, hr⟩
          · have HR2 := hid hr
            rw [hs]
            clear hs hr
            go_wp2_with fail
            go_quiet (fail)
            go_wp2
            go_ret2
            exact ⟨by unfold RightRet; rw [HR2.out]; show _ = Ending.returned (.tuple #[.int .i64 ((2 : Nat) : Int), .slice (some ⟨g, o + 14, none⟩) ((b.drop 14).take U).length (cap - 14)]); rw [HPL.out]; rfl, below_drewN HBC.out _⟩
          · have HR2 := hid hr
            rw [hs]
            clear hs hr
            go_wp2
            go_ret2
            exact ⟨by unfold RightRet; rw [HR2.out]; rfl, HBC.out⟩
        · refine wpo_convS (.tmp 57) rfl g o 64 cap b rfl HB64.out.symm hS ?_
          refine hK.out _ _ ?k10x13z2 (fun hS => ?s10x13z2)
          case k10x13z2 => exact hS
          clear hK K
          try simp only [Act.put, sA, sB, sC]
          refine rdH (i := 8) (h := fun K hK => ?_)
          refine wpo_convS (.tmp 55) rfl gs 0 64 64 (logSec gen index 2 ((b.drop 14).take U)) rfl HLL.out.symm (HM.out.range fun j v hv => by rw [Nat.zero_add]; exact hv) ?_
          refine hK.out _ _ ?k8x14z2 (fun hS => ?s8x14z2)
          case k8x14z2 => exact hS
          clear hK K
          try simp only [Act.put, sA, sB, sC]
          refine rdH (i := 11) (h := fun K hK => ?_)
          refine wpo_neqS (.tmp 56) (.tmp 58) rfl (logSec gen index 2 ((b.drop 14).take U)) b rfl rfl ?_
          refine hK.out _ _ ?k11x15z2 (fun hS => ?s11x15z2)
          case k11x15z2 => exact hS
          clear hK K
          try simp only [Act.put, sA, sB, sC]
          refine wpAnyH_done (by kernel_rfl) ?_ _
          clear hS
          rcases HGOOD.out with ⟨hs, hr⟩ | ⟨hs, hr⟩
          · have HR2 := hid hr
            rw [hs]
            clear hs hr
            go_wp2_with fail
            go_quiet (fail)
            go_wp2
            go_ret2
            exact ⟨by unfold RightRet; rw [HR2.out]; show _ = Ending.returned (.tuple #[.int .i64 ((2 : Nat) : Int), .slice (some ⟨g, o + 14, none⟩) ((b.drop 14).take U).length (cap - 14)]); rw [HPL.out]; rfl, below_drewN HBC.out _⟩
          · have HR2 := hid hr
            rw [hs]
            clear hs hr
            go_wp2
            go_ret2
            exact ⟨by unfold RightRet; rw [HR2.out]; rfl, HBC.out⟩
      · refine wpo_convS (.tmp 57) rfl g o 64 cap b rfl HB64.out.symm hS ?_
        refine hK.out _ _ ?k10x16z2 (fun hS => ?s10x16z2)
        case k10x16z2 => exact hS
        clear hK K
        try simp only [Act.put, sA, sB, sC]
        refine rdH (i := 7) (h := fun K hK => ?_)
        go_simp
        refine (rsector_any gen index 2 (some ⟨g, o + 14, none⟩) U (cap - 14) ((b.drop 14).take U) HPL.out.symm (by omega) hg hi (by omega) _ (.inr (.inr ⟨g, o + 14, rfl, HPRD.out _ hS⟩))).mono ?_
        rintro e w5 ⟨gs, rfl, hm, hgs, hb5⟩
        have HM := hid hm
        have HBC := hid (HBC.out.trans (hb5.mono HBC.out.size))
        have hS5 := (Keep.ofBelow (F := fun _ => False) hb5).range hS id
        clear hm hgs hb5
        refine hK.out _ _ ?k7x17z2 (fun hS => ?s7x17z2)
        case k7x17z2 => exact hS5
        clear hK K
        try simp only [Act.put, sA, sB, sC]
        refine rdH (i := 8) (h := fun K hK => ?_)
        refine wpo_convS (.tmp 55) rfl gs 0 64 64 (logSec gen index 2 ((b.drop 14).take U)) rfl HLL.out.symm (HM.out.range fun j v hv => by rw [Nat.zero_add]; exact hv) ?_
        refine hK.out _ _ ?k8x18z2 (fun hS => ?s8x18z2)
        case k8x18z2 => exact hS
        clear hK K
        try simp only [Act.put, sA, sB, sC]
        refine rdH (i := 11) (h := fun K hK => ?_)
        refine wpo_neqS (.tmp 56) (.tmp 58) rfl (logSec gen index 2 ((b.drop 14).take U)) b rfl rfl ?_
        refine hK.out _ _ ?k11x19z2 (fun hS => ?s11x19z2)
        case k11x19z2 => exact hS
        clear hK K
        try simp only [Act.put, sA, sB, sC]
        refine wpAnyH_done (by kernel_rfl) ?_ _
        clear hS
        rcases HGOOD.out with ⟨hs, hr⟩ | ⟨hs, hr⟩
        · have HR2 := hid hr
          rw [hs]
          clear hs hr
          go_wp2_with fail
          go_quiet (fail)
          go_wp2
          go_ret2
          exact ⟨by unfold RightRet; rw [HR2.out]; show _ = Ending.returned (.tuple #[.int .i64 ((2 : Nat) : Int), .slice (some ⟨g, o + 14, none⟩) ((b.drop 14).take U).length (cap - 14)]); rw [HPL.out]; rfl, below_drewN HBC.out _⟩
        · have HR2 := hid hr
          rw [hs]
          clear hs hr
          go_wp2
          go_ret2
          exact ⟨by unfold RightRet; rw [HR2.out]; rfl, HBC.out⟩
    · have e9 : ((U : Int) == 49) = false := by rw [beq_eq_false_iff_ne]; omega
      have e8 : ((U : Int) != 49) = true := by simp; omega
      have HBAD : Hid (rightOf b gen index = none) := hid (right_bad hHK.out hHU.out (by omega))
      go_enter Tryz.func115, Tryz.ntmps115
      go_wp2_with fail
      go_quiet (fail)
      go_wp2
      go_ret2
      exact ⟨by unfold RightRet; rw [HBAD.out]; rfl, below_drewN (Below.refl _ _) _⟩
  by_cases k3 : K = 3
  · subst k3
    by_cases u9 : U = 49
    · have e9 : ((U : Int) == 49) = true := by simp; omega
      have e8 : ((U : Int) != 49) = false := by simp; omega
      have u48 : 49 ≤ U := by omega
      clear u9
      have HGOOD := hid (right_good (gen := gen) (index := index) hHK.out hHU.out (by omega))
      have HPL : Hid (((b.drop 14).take U).length = U) := hid (by simp [HB64.out]; omega)
      have HLL : Hid ((logSec gen index 3 ((b.drop 14).take U)).length = 64) := hid (logSec_len (by rw [HPL.out]; omega))
      go_enter Tryz.func115, Tryz.ntmps115
      go_wp2_with fail
      go_quiet (fail)
      go_wp2_with fail
      have q0 : IntKind.i64.wrap (14 + (U : Int)) = 14 + (U : Int) := IntWalk.i64_in _ (by omega)
      have q1 : 14 + (U : Int) ≤ (cap : Int) := by omega
      have q2 : max (14 + (U : Int)) 0 = 14 + (U : Int) := by omega
      have q3 : ¬ cap = 14 := by omega
      have q4 : (14 + (U : Int)).toNat - 14 = U := by omega
      have q5 : (0 : Int) ≤ 14 + (U : Int) := by omega
      have q6 : (14 : Int) ≤ 14 + (U : Int) := by omega
      have HBB := hid (below_drewN (Below.refl w.heap.size w) nq)
      refine wp_region_held_drew (S := fun w' => w'.rangeAt g o (bv b)) (by kernel_rfl) ((Keep.ofBelow (F := fun _ => False) HBB.out).range HR.out id) (fun hS => ?_)
      have HBC := hid (HBB.out.trans (Below.refl _ _).drew)
      refine tkH (i := 0) (v := ?v0x1z3) (y := Or.inl ⟨by rfl, ?y0x1z3⟩) (s := hS) (h := ?r0x1z3)
      case y0x1z3 => (intro w' hSw; (try dsimp only at hSw); go_simp; (try with_reducible rfl))
      simp only [Act.put, sA, sB, sC]
      refine tkH (i := 1) (v := ?v1x2z3) (y := Or.inl ⟨by rfl, ?y1x2z3⟩) (s := hS) (h := ?r1x2z3)
      case y1x2z3 => (intro w' hSw; (try dsimp only at hSw); go_simp; (try with_reducible rfl))
      simp only [Act.put, sA, sB, sC]
      refine tkH (i := 2) (v := ?v2x3z3) (y := Or.inl ⟨by rfl, ?y2x3z3⟩) (s := hS) (h := ?r2x3z3)
      case y2x3z3 => (intro w' hSw; (try dsimp only at hSw); go_simp; (try with_reducible rfl))
      simp only [Act.put, sA, sB, sC]
      refine tkH (i := 3) (v := ?v3x4z3) (y := Or.inl ⟨by rfl, ?y3x4z3⟩) (s := hS) (h := ?r3x4z3)
      case y3x4z3 => (intro w' hSw; (try dsimp only at hSw); go_simp; (try with_reducible rfl))
      simp only [Act.put, sA, sB, sC]
      refine tkH (i := 4) (v := ?v4x5z3) (y := Or.inl ⟨by rfl, ?y4x5z3⟩) (s := hS) (h := ?r4x5z3)
      case y4x5z3 => (intro w' hSw; (try dsimp only at hSw); go_simp; (try with_reducible rfl))
      simp only [Act.put, sA, sB, sC]
      refine tkH (i := 5) (v := ?v5x6z3) (y := Or.inl ⟨by rfl, ?y5x6z3⟩) (s := hS) (h := ?r5x6z3)
      case y5x6z3 => (intro w' hSw; (try dsimp only at hSw); go_simp; (try with_reducible rfl))
      simp only [Act.put, sA, sB, sC]
      refine tkH (i := 6) (v := ?v6x7z3) (y := Or.inl ⟨by rfl, ?y6x7z3⟩) (s := hS) (h := ?r6x7z3)
      case y6x7z3 => (intro w' hSw; (try dsimp only at hSw); go_simp; (try with_reducible rfl))
      simp only [Act.put, sA, sB, sC]
      refine tkH (i := 9) (v := ?v9x8z3) (y := Or.inl ⟨by rfl, ?y9x8z3⟩) (s := hS) (h := ?r9x8z3)
      case y9x8z3 => (intro w' hSw; (try dsimp only at hSw); go_simp; (try with_reducible rfl))
      simp only [Act.put, sA, sB, sC]
      refine wpAnyH_ready (rs := [7, 10]) (by kernel_rfl) (by simp) ?_
      refine AllReadyH.cons (by simp only [List.getElem?_toArray, List.getElem?_cons_zero, List.getElem?_cons_succ]; exact rfl) (fun K hK => ?_) (AllReadyH.cons (by simp only [List.getElem?_toArray, List.getElem?_cons_zero, List.getElem?_cons_succ]; exact rfl) (fun K hK => ?_) AllReadyH.nil)
      · go_simp
        refine (rsector_any gen index 3 (some ⟨g, o + 14, none⟩) U (cap - 14) ((b.drop 14).take U) HPL.out.symm (by omega) hg hi (by omega) _ (.inr (.inr ⟨g, o + 14, rfl, HPRD.out _ hS⟩))).mono ?_
        rintro e w5 ⟨gs, rfl, hm, hgs, hb5⟩
        have HM := hid hm
        have HBC := hid (HBC.out.trans (hb5.mono HBC.out.size))
        have hS5 := (Keep.ofBelow (F := fun _ => False) hb5).range hS id
        clear hm hgs hb5
        refine hK.out _ _ ?k7x9z3 (fun hS => ?s7x9z3)
        case k7x9z3 => exact hS5
        clear hK K
        try simp only [Act.put, sA, sB, sC]
        refine wpAnyH_ready (rs := [8, 10]) (by kernel_rfl) (by simp) ?_
        refine AllReadyH.cons (by simp only [List.getElem?_toArray, List.getElem?_cons_zero, List.getElem?_cons_succ]; exact rfl) (fun K hK => ?_) (AllReadyH.cons (by simp only [List.getElem?_toArray, List.getElem?_cons_zero, List.getElem?_cons_succ]; exact rfl) (fun K hK => ?_) AllReadyH.nil)
        · refine wpo_convS (.tmp 55) rfl gs 0 64 64 (logSec gen index 3 ((b.drop 14).take U)) rfl HLL.out.symm (HM.out.range fun j v hv => by rw [Nat.zero_add]; exact hv) ?_
          refine hK.out _ _ ?k8x10z3 (fun hS => ?s8x10z3)
          case k8x10z3 => exact hS
          clear hK K
          try simp only [Act.put, sA, sB, sC]
          refine rdH (i := 10) (h := fun K hK => ?_)
          refine wpo_convS (.tmp 57) rfl g o 64 cap b rfl HB64.out.symm hS ?_
          refine hK.out _ _ ?k10x11z3 (fun hS => ?s10x11z3)
          case k10x11z3 => exact hS
          clear hK K
          try simp only [Act.put, sA, sB, sC]
          refine rdH (i := 11) (h := fun K hK => ?_)
          refine wpo_neqS (.tmp 56) (.tmp 58) rfl (logSec gen index 3 ((b.drop 14).take U)) b rfl rfl ?_
          refine hK.out _ _ ?k11x12z3 (fun hS => ?s11x12z3)
          case k11x12z3 => exact hS
          clear hK K
          try simp only [Act.put, sA, sB, sC]
          refine wpAnyH_done (by kernel_rfl) ?_ _
          clear hS
          rcases HGOOD.out with ⟨hs, hr⟩ | ⟨hs, hr⟩
          · have HR2 := hid hr
            rw [hs]
            clear hs hr
            go_wp2_with fail
            go_quiet (fail)
            go_wp2
            go_ret2
            exact ⟨by unfold RightRet; rw [HR2.out]; show _ = Ending.returned (.tuple #[.int .i64 ((3 : Nat) : Int), .slice (some ⟨g, o + 14, none⟩) ((b.drop 14).take U).length (cap - 14)]); rw [HPL.out]; rfl, below_drewN HBC.out _⟩
          · have HR2 := hid hr
            rw [hs]
            clear hs hr
            go_wp2
            go_ret2
            exact ⟨by unfold RightRet; rw [HR2.out]; rfl, HBC.out⟩
        · refine wpo_convS (.tmp 57) rfl g o 64 cap b rfl HB64.out.symm hS ?_
          refine hK.out _ _ ?k10x13z3 (fun hS => ?s10x13z3)
          case k10x13z3 => exact hS
          clear hK K
          try simp only [Act.put, sA, sB, sC]
          refine rdH (i := 8) (h := fun K hK => ?_)
          refine wpo_convS (.tmp 55) rfl gs 0 64 64 (logSec gen index 3 ((b.drop 14).take U)) rfl HLL.out.symm (HM.out.range fun j v hv => by rw [Nat.zero_add]; exact hv) ?_
          refine hK.out _ _ ?k8x14z3 (fun hS => ?s8x14z3)
          case k8x14z3 => exact hS
          clear hK K
          try simp only [Act.put, sA, sB, sC]
          refine rdH (i := 11) (h := fun K hK => ?_)
          refine wpo_neqS (.tmp 56) (.tmp 58) rfl (logSec gen index 3 ((b.drop 14).take U)) b rfl rfl ?_
          refine hK.out _ _ ?k11x15z3 (fun hS => ?s11x15z3)
          case k11x15z3 => exact hS
          clear hK K
          try simp only [Act.put, sA, sB, sC]
          refine wpAnyH_done (by kernel_rfl) ?_ _
          clear hS
          rcases HGOOD.out with ⟨hs, hr⟩ | ⟨hs, hr⟩
          · have HR2 := hid hr
            rw [hs]
            clear hs hr
            go_wp2_with fail
            go_quiet (fail)
            go_wp2
            go_ret2
            exact ⟨by unfold RightRet; rw [HR2.out]; show _ = Ending.returned (.tuple #[.int .i64 ((3 : Nat) : Int), .slice (some ⟨g, o + 14, none⟩) ((b.drop 14).take U).length (cap - 14)]); rw [HPL.out]; rfl, below_drewN HBC.out _⟩
          · have HR2 := hid hr
            rw [hs]
            clear hs hr
            go_wp2
            go_ret2
            exact ⟨by unfold RightRet; rw [HR2.out]; rfl, HBC.out⟩
      · refine wpo_convS (.tmp 57) rfl g o 64 cap b rfl HB64.out.symm hS ?_
        refine hK.out _ _ ?k10x16z3 (fun hS => ?s10x16z3)
        case k10x16z3 => exact hS
        clear hK K
        try simp only [Act.put, sA, sB, sC]
        refine rdH (i := 7) (h := fun K hK => ?_)
        go_simp
        refine (rsector_any gen index 3 (some ⟨g, o + 14, none⟩) U (cap - 14) ((b.drop 14).take U) HPL.out.symm (by omega) hg hi (by omega) _ (.inr (.inr ⟨g, o + 14, rfl, HPRD.out _ hS⟩))).mono ?_
        rintro e w5 ⟨gs, rfl, hm, hgs, hb5⟩
        have HM := hid hm
        have HBC := hid (HBC.out.trans (hb5.mono HBC.out.size))
        have hS5 := (Keep.ofBelow (F := fun _ => False) hb5).range hS id
        clear hm hgs hb5
        refine hK.out _ _ ?k7x17z3 (fun hS => ?s7x17z3)
        case k7x17z3 => exact hS5
        clear hK K
        try simp only [Act.put, sA, sB, sC]
        refine rdH (i := 8) (h := fun K hK => ?_)
        refine wpo_convS (.tmp 55) rfl gs 0 64 64 (logSec gen index 3 ((b.drop 14).take U)) rfl HLL.out.symm (HM.out.range fun j v hv => by rw [Nat.zero_add]; exact hv) ?_
        refine hK.out _ _ ?k8x18z3 (fun hS => ?s8x18z3)
        case k8x18z3 => exact hS
        clear hK K
        try simp only [Act.put, sA, sB, sC]
        refine rdH (i := 11) (h := fun K hK => ?_)
        refine wpo_neqS (.tmp 56) (.tmp 58) rfl (logSec gen index 3 ((b.drop 14).take U)) b rfl rfl ?_
        refine hK.out _ _ ?k11x19z3 (fun hS => ?s11x19z3)
        case k11x19z3 => exact hS
        clear hK K
        try simp only [Act.put, sA, sB, sC]
        refine wpAnyH_done (by kernel_rfl) ?_ _
        clear hS
        rcases HGOOD.out with ⟨hs, hr⟩ | ⟨hs, hr⟩
        · have HR2 := hid hr
          rw [hs]
          clear hs hr
          go_wp2_with fail
          go_quiet (fail)
          go_wp2
          go_ret2
          exact ⟨by unfold RightRet; rw [HR2.out]; show _ = Ending.returned (.tuple #[.int .i64 ((3 : Nat) : Int), .slice (some ⟨g, o + 14, none⟩) ((b.drop 14).take U).length (cap - 14)]); rw [HPL.out]; rfl, below_drewN HBC.out _⟩
        · have HR2 := hid hr
          rw [hs]
          clear hs hr
          go_wp2
          go_ret2
          exact ⟨by unfold RightRet; rw [HR2.out]; rfl, HBC.out⟩
    · have e9 : ((U : Int) == 49) = false := by rw [beq_eq_false_iff_ne]; omega
      have e8 : ((U : Int) != 49) = true := by simp; omega
      have HBAD : Hid (rightOf b gen index = none) := hid (right_bad hHK.out hHU.out (by omega))
      go_enter Tryz.func115, Tryz.ntmps115
      go_wp2_with fail
      go_quiet (fail)
      go_wp2
      go_ret2
      exact ⟨by unfold RightRet; rw [HBAD.out]; rfl, below_drewN (Below.refl _ _) _⟩
  by_cases k4 : K = 4
  · subst k4
    by_cases u9 : U = 0
    · subst u9
      have HBAD : Hid (rightOf b gen index = none) := hid (right_bad hHK.out hHU.out (by omega))
      go_enter Tryz.func115, Tryz.ntmps115
      go_wp2_with fail
      go_quiet (fail)
      go_wp2
      go_ret2
      exact ⟨by unfold RightRet; rw [HBAD.out]; rfl, below_drewN (Below.refl _ _) _⟩
    · have e9 : ((U : Int) == 0) = false := by rw [beq_eq_false_iff_ne]; omega
      have HGOOD := hid (right_good (gen := gen) (index := index) hHK.out hHU.out (by omega))
      have HPL : Hid (((b.drop 14).take U).length = U) := hid (by simp [HB64.out]; omega)
      have HLL : Hid ((logSec gen index 4 ((b.drop 14).take U)).length = 64) := hid (logSec_len (by rw [HPL.out]; omega))
      go_enter Tryz.func115, Tryz.ntmps115
      go_wp2_with fail
      go_quiet (fail)
      go_wp2_with fail
      have q0 : IntKind.i64.wrap (14 + (U : Int)) = 14 + (U : Int) := IntWalk.i64_in _ (by omega)
      have q1 : 14 + (U : Int) ≤ (cap : Int) := by omega
      have q2 : max (14 + (U : Int)) 0 = 14 + (U : Int) := by omega
      have q3 : ¬ cap = 14 := by omega
      have q4 : (14 + (U : Int)).toNat - 14 = U := by omega
      have q5 : (0 : Int) ≤ 14 + (U : Int) := by omega
      have q6 : (14 : Int) ≤ 14 + (U : Int) := by omega
      have HBB := hid (below_drewN (Below.refl w.heap.size w) nq)
      refine wp_region_held_drew (S := fun w' => w'.rangeAt g o (bv b)) (by kernel_rfl) ((Keep.ofBelow (F := fun _ => False) HBB.out).range HR.out id) (fun hS => ?_)
      have HBC := hid (HBB.out.trans (Below.refl _ _).drew)
      refine tkH (i := 0) (v := ?v0x1z4) (y := Or.inl ⟨by rfl, ?y0x1z4⟩) (s := hS) (h := ?r0x1z4)
      case y0x1z4 => (intro w' hSw; (try dsimp only at hSw); go_simp; (try with_reducible rfl))
      simp only [Act.put, sA, sB, sC]
      refine tkH (i := 1) (v := ?v1x2z4) (y := Or.inl ⟨by rfl, ?y1x2z4⟩) (s := hS) (h := ?r1x2z4)
      case y1x2z4 => (intro w' hSw; (try dsimp only at hSw); go_simp; (try with_reducible rfl))
      simp only [Act.put, sA, sB, sC]
      refine tkH (i := 2) (v := ?v2x3z4) (y := Or.inl ⟨by rfl, ?y2x3z4⟩) (s := hS) (h := ?r2x3z4)
      case y2x3z4 => (intro w' hSw; (try dsimp only at hSw); go_simp; (try with_reducible rfl))
      simp only [Act.put, sA, sB, sC]
      refine tkH (i := 3) (v := ?v3x4z4) (y := Or.inl ⟨by rfl, ?y3x4z4⟩) (s := hS) (h := ?r3x4z4)
      case y3x4z4 => (intro w' hSw; (try dsimp only at hSw); go_simp; (try with_reducible rfl))
      simp only [Act.put, sA, sB, sC]
      refine tkH (i := 4) (v := ?v4x5z4) (y := Or.inl ⟨by rfl, ?y4x5z4⟩) (s := hS) (h := ?r4x5z4)
      case y4x5z4 => (intro w' hSw; (try dsimp only at hSw); go_simp; (try with_reducible rfl))
      simp only [Act.put, sA, sB, sC]
      refine tkH (i := 5) (v := ?v5x6z4) (y := Or.inl ⟨by rfl, ?y5x6z4⟩) (s := hS) (h := ?r5x6z4)
      case y5x6z4 => (intro w' hSw; (try dsimp only at hSw); go_simp; (try with_reducible rfl))
      simp only [Act.put, sA, sB, sC]
      refine tkH (i := 6) (v := ?v6x7z4) (y := Or.inl ⟨by rfl, ?y6x7z4⟩) (s := hS) (h := ?r6x7z4)
      case y6x7z4 => (intro w' hSw; (try dsimp only at hSw); go_simp; (try with_reducible rfl))
      simp only [Act.put, sA, sB, sC]
      refine tkH (i := 9) (v := ?v9x8z4) (y := Or.inl ⟨by rfl, ?y9x8z4⟩) (s := hS) (h := ?r9x8z4)
      case y9x8z4 => (intro w' hSw; (try dsimp only at hSw); go_simp; (try with_reducible rfl))
      simp only [Act.put, sA, sB, sC]
      refine wpAnyH_ready (rs := [7, 10]) (by kernel_rfl) (by simp) ?_
      refine AllReadyH.cons (by simp only [List.getElem?_toArray, List.getElem?_cons_zero, List.getElem?_cons_succ]; exact rfl) (fun K hK => ?_) (AllReadyH.cons (by simp only [List.getElem?_toArray, List.getElem?_cons_zero, List.getElem?_cons_succ]; exact rfl) (fun K hK => ?_) AllReadyH.nil)
      · go_simp
        refine (rsector_any gen index 4 (some ⟨g, o + 14, none⟩) U (cap - 14) ((b.drop 14).take U) HPL.out.symm (by omega) hg hi (by omega) _ (.inr (.inr ⟨g, o + 14, rfl, HPRD.out _ hS⟩))).mono ?_
        rintro e w5 ⟨gs, rfl, hm, hgs, hb5⟩
        have HM := hid hm
        have HBC := hid (HBC.out.trans (hb5.mono HBC.out.size))
        have hS5 := (Keep.ofBelow (F := fun _ => False) hb5).range hS id
        clear hm hgs hb5
        refine hK.out _ _ ?k7x9z4 (fun hS => ?s7x9z4)
        case k7x9z4 => exact hS5
        clear hK K
        try simp only [Act.put, sA, sB, sC]
        refine wpAnyH_ready (rs := [8, 10]) (by kernel_rfl) (by simp) ?_
        refine AllReadyH.cons (by simp only [List.getElem?_toArray, List.getElem?_cons_zero, List.getElem?_cons_succ]; exact rfl) (fun K hK => ?_) (AllReadyH.cons (by simp only [List.getElem?_toArray, List.getElem?_cons_zero, List.getElem?_cons_succ]; exact rfl) (fun K hK => ?_) AllReadyH.nil)
        · refine wpo_convS (.tmp 55) rfl gs 0 64 64 (logSec gen index 4 ((b.drop 14).take U)) rfl HLL.out.symm (HM.out.range fun j v hv => by rw [Nat.zero_add]; exact hv) ?_
          refine hK.out _ _ ?k8x10z4 (fun hS => ?s8x10z4)
          case k8x10z4 => exact hS
          clear hK K
          try simp only [Act.put, sA, sB, sC]
          refine rdH (i := 10) (h := fun K hK => ?_)
          refine wpo_convS (.tmp 57) rfl g o 64 cap b rfl HB64.out.symm hS ?_
          refine hK.out _ _ ?k10x11z4 (fun hS => ?s10x11z4)
          case k10x11z4 => exact hS
          clear hK K
          try simp only [Act.put, sA, sB, sC]
          refine rdH (i := 11) (h := fun K hK => ?_)
          refine wpo_neqS (.tmp 56) (.tmp 58) rfl (logSec gen index 4 ((b.drop 14).take U)) b rfl rfl ?_
          refine hK.out _ _ ?k11x12z4 (fun hS => ?s11x12z4)
          case k11x12z4 => exact hS
          clear hK K
          try simp only [Act.put, sA, sB, sC]
          refine wpAnyH_done (by kernel_rfl) ?_ _
          clear hS
          rcases HGOOD.out with ⟨hs, hr⟩ | ⟨hs, hr⟩
          · have HR2 := hid hr
            rw [hs]
            clear hs hr
            go_wp2_with fail
            go_quiet (fail)
            go_wp2
            go_ret2
            exact ⟨by unfold RightRet; rw [HR2.out]; show _ = Ending.returned (.tuple #[.int .i64 ((4 : Nat) : Int), .slice (some ⟨g, o + 14, none⟩) ((b.drop 14).take U).length (cap - 14)]); rw [HPL.out]; rfl, below_drewN HBC.out _⟩
          · have HR2 := hid hr
            rw [hs]
            clear hs hr
            go_wp2
            go_ret2
            exact ⟨by unfold RightRet; rw [HR2.out]; rfl, HBC.out⟩
        · refine wpo_convS (.tmp 57) rfl g o 64 cap b rfl HB64.out.symm hS ?_
          refine hK.out _ _ ?k10x13z4 (fun hS => ?s10x13z4)
          case k10x13z4 => exact hS
          clear hK K
          try simp only [Act.put, sA, sB, sC]
          refine rdH (i := 8) (h := fun K hK => ?_)
          refine wpo_convS (.tmp 55) rfl gs 0 64 64 (logSec gen index 4 ((b.drop 14).take U)) rfl HLL.out.symm (HM.out.range fun j v hv => by rw [Nat.zero_add]; exact hv) ?_
          refine hK.out _ _ ?k8x14z4 (fun hS => ?s8x14z4)
          case k8x14z4 => exact hS
          clear hK K
          try simp only [Act.put, sA, sB, sC]
          refine rdH (i := 11) (h := fun K hK => ?_)
          refine wpo_neqS (.tmp 56) (.tmp 58) rfl (logSec gen index 4 ((b.drop 14).take U)) b rfl rfl ?_
          refine hK.out _ _ ?k11x15z4 (fun hS => ?s11x15z4)
          case k11x15z4 => exact hS
          clear hK K
          try simp only [Act.put, sA, sB, sC]
          refine wpAnyH_done (by kernel_rfl) ?_ _
          clear hS
          rcases HGOOD.out with ⟨hs, hr⟩ | ⟨hs, hr⟩
          · have HR2 := hid hr
            rw [hs]
            clear hs hr
            go_wp2_with fail
            go_quiet (fail)
            go_wp2
            go_ret2
            exact ⟨by unfold RightRet; rw [HR2.out]; show _ = Ending.returned (.tuple #[.int .i64 ((4 : Nat) : Int), .slice (some ⟨g, o + 14, none⟩) ((b.drop 14).take U).length (cap - 14)]); rw [HPL.out]; rfl, below_drewN HBC.out _⟩
          · have HR2 := hid hr
            rw [hs]
            clear hs hr
            go_wp2
            go_ret2
            exact ⟨by unfold RightRet; rw [HR2.out]; rfl, HBC.out⟩
      · refine wpo_convS (.tmp 57) rfl g o 64 cap b rfl HB64.out.symm hS ?_
        refine hK.out _ _ ?k10x16z4 (fun hS => ?s10x16z4)
        case k10x16z4 => exact hS
        clear hK K
        try simp only [Act.put, sA, sB, sC]
        refine rdH (i := 7) (h := fun K hK => ?_)
        go_simp
        refine (rsector_any gen index 4 (some ⟨g, o + 14, none⟩) U (cap - 14) ((b.drop 14).take U) HPL.out.symm (by omega) hg hi (by omega) _ (.inr (.inr ⟨g, o + 14, rfl, HPRD.out _ hS⟩))).mono ?_
        rintro e w5 ⟨gs, rfl, hm, hgs, hb5⟩
        have HM := hid hm
        have HBC := hid (HBC.out.trans (hb5.mono HBC.out.size))
        have hS5 := (Keep.ofBelow (F := fun _ => False) hb5).range hS id
        clear hm hgs hb5
        refine hK.out _ _ ?k7x17z4 (fun hS => ?s7x17z4)
        case k7x17z4 => exact hS5
        clear hK K
        try simp only [Act.put, sA, sB, sC]
        refine rdH (i := 8) (h := fun K hK => ?_)
        refine wpo_convS (.tmp 55) rfl gs 0 64 64 (logSec gen index 4 ((b.drop 14).take U)) rfl HLL.out.symm (HM.out.range fun j v hv => by rw [Nat.zero_add]; exact hv) ?_
        refine hK.out _ _ ?k8x18z4 (fun hS => ?s8x18z4)
        case k8x18z4 => exact hS
        clear hK K
        try simp only [Act.put, sA, sB, sC]
        refine rdH (i := 11) (h := fun K hK => ?_)
        refine wpo_neqS (.tmp 56) (.tmp 58) rfl (logSec gen index 4 ((b.drop 14).take U)) b rfl rfl ?_
        refine hK.out _ _ ?k11x19z4 (fun hS => ?s11x19z4)
        case k11x19z4 => exact hS
        clear hK K
        try simp only [Act.put, sA, sB, sC]
        refine wpAnyH_done (by kernel_rfl) ?_ _
        clear hS
        rcases HGOOD.out with ⟨hs, hr⟩ | ⟨hs, hr⟩
        · have HR2 := hid hr
          rw [hs]
          clear hs hr
          go_wp2_with fail
          go_quiet (fail)
          go_wp2
          go_ret2
          exact ⟨by unfold RightRet; rw [HR2.out]; show _ = Ending.returned (.tuple #[.int .i64 ((4 : Nat) : Int), .slice (some ⟨g, o + 14, none⟩) ((b.drop 14).take U).length (cap - 14)]); rw [HPL.out]; rfl, below_drewN HBC.out _⟩
        · have HR2 := hid hr
          rw [hs]
          clear hs hr
          go_wp2
          go_ret2
          exact ⟨by unfold RightRet; rw [HR2.out]; rfl, HBC.out⟩
  omega
end Go.Proofs.YtlondopgibcikaaGreat
