/- Law 7: stands. -/
import Derived.Test.YtlondopgibcikaaGreatRows
import Derived.Test.YtlondopgibcikaaGreatG01
import Derived.Test.YtlondopgibcikaaGreatG02
import Derived.Test.YtlondopgibcikaaGreatG06
import Derived.Test.YtlondopgibcikaaGreatG07
import Derived.Test.YtlondopgibcikaaGreatG08
import Derived.Test.YtlondopgibcikaaGreatG09
import Derived.Test.YtlondopgibcikaaGreatG10
import Derived.Test.YtlondopgibcikaaGreatG13
import Derived.Test.YtlondopgibcikaaGreatG16
import Derived.Test.YtlondopgibcikaaGreatG17
import Derived.Test.YtlondopgibcikaaGreatG18
import Derived.Test.YtlondopgibcikaaGreatG19
import Derived.Test.YtlondopgibcikaaGreatG21
import Derived.Test.YtlondopgibcikaaGreatG23
import Derived.Test.YtlondopgibcikaaGreatG24
import Derived.Test.YtlondopgibcikaaGreatG25
import Derived.Test.YtlondopgibcikaaGreatG26
import Derived.Test.YtlondopgibcikaaGreatG27
import Derived.Test.YtlondopgibcikaaGreatG28
import Derived.Test.YtlondopgibcikaaGreatG29
import Derived.Test.YtlondopgibcikaaGreatG30
import Derived.Test.YtlondopgibcikaaGreatG31
import Derived.Test.YtlondopgibcikaaGreatG32
import Derived.Test.YtlondopgibcikaaGreatG33
import Derived.Test.YtlondopgibcikaaGreatG34
import Derived.Test.YtlondopgibcikaaGreatG35
import Derived.Test.YtlondopgibcikaaGreatG36
import Derived.Test.YtlondopgibcikaaGreatG37
import Derived.Test.YtlondopgibcikaaGreatG38
import Derived.WalkKit
import Derived.WalkSpells
import Derived.WalkLawsBesides
import Derived.Deep.RegionHeld3
import Derived.Deep.QuietTactic
import Derived.BigQuiet
namespace Go.Proofs.YtlondopgibcikaaGreat
open Go.RowKit Ent
theorem St.rvlist {B : Nat} {w0 w : World} {As : List Asset} (h : St B w0 w As) (j : Nat) {v a : Nat} {s : VS} (hj : As[j]? = some (rvA v a s)) : ∃ lo c, Blk w v 77 (vCells a s.gen s.next (.slice lo s.L.length c) s.br) ∧ LR w lo s.L := by
  obtain ⟨F, ⟨vl, G, hb, _, hl, _⟩, _⟩ := h.open j hj
  obtain ⟨lo, c, rfl, hlr⟩ := listA_lst hl
  exact ⟨lo, c, hb, hlr.lr⟩
theorem sameB_refl (l : List UInt8) : sameB l l = true := by simp [sameB]
set_option maxRecDepth 100000 in
set_option maxHeartbeats 4000000 in
theorem stands_any {B : Nat} {w0 w : World} {a c p : Nat} {d : Dev} {o : Option VS} (h : Scn B w0 w a c p d o) (hn : d.img.length ≤ 1000) (hf : ∀ s, o = some s → 2 ≤ d.img.length ∧ fitV s) :
    Calls Tryz.prog 11 #[ptr p] w fun e w' => e = .returned (.bool true) ∧ Scn B w0 w' a c p d o := by
  obtain ⟨n, hnn⟩ : ∃ n, d.img.length = n := ⟨_, rfl⟩
  have HN := hid hnn
  rw [hnn] at hn
  clear hnn
  rcases o with _ | s
  · obtain ⟨w6, hw6⟩ : ∃ w6, w = w6 := ⟨_, rfl⟩
    rw [hw6] at h ⊢
    have SC := hid h
    have HP : Hid (St B w0 w6 (pairL a c p d (.pointer none) (.pointer none))) := hid h
    have c3 := (HP.out.blk 2 rfl).cell (j := 3) rfl
    clear h hw6 hf
    unfold ptr
    go_enter Tryz.func11, Tryz.ntmps11
    go_wp2_with fail
    go_loopw [4] (fun i wr => ∃ k : Nat, k ≤ n ∧ i = .int .i64 k ∧ Below w6.heap.size w6 wr) (fun i _ => n - (intOf i).toNat)
    case atStart => exact ⟨0, by omega, rfl, Below.refl _ _⟩
    case round =>
      obtain ⟨k, hk, rfl, hb⟩ := hrel
      have HB := hid hb
      have HP' := hid (HP.out.below hb)
      have hbp := HP'.out.blk 2 rfl
      have c0 := hbp.cell (j := 0) rfl
      have c2 := hbp.cell (j := 2) rfl
      unfold ptr at c0 c2
      clear hb hbp
      go_wp2_with fail
      refine (HP'.out.rdev_size 1 rfl).mono ?_
      rintro e w' ⟨rfl, hw'⟩
      subst w'
      rw [HN.out]
      by_cases hlt : k < n
      · go_wp2_with fail
        refine (HP'.out.dev_image 0 rfl (k : Int)).mono ?_
        rintro e w7 ⟨v1, rfl, a3, p3, rfl, -, s3, wb3, f3, b3⟩
        have HS3 := hid s3; have HB3 := hid b3
        have c2 := (b3.cell (World.block_lt_of_cell? _ _ c2)).trans c2
        clear s3 wb3 f3 b3
        go_wp2_with fail
        refine ((HP'.out.below HB3.out).rdev_image 1 rfl (k : Int)).mono ?_
        rintro e w8 ⟨v2, rfl, a4, p4, rfl, -, s4, wb4, f4, b4⟩
        have HS4 := hid s4; have HB4 := hid b4
        clear s4 wb4 f4 b4
        go_wp2_with fail
        refine (same_any a3 a4 _ _ p3 p4 (d.image (k : Int)).1 (d.image (k : Int)).1 rfl rfl w8 (HS3.out.below HB4.out) HS4.out).mono ?_
        rintro e w9 ⟨rfl, hw9⟩
        subst hw9
        rw [sameB_refl]
        go_wp2
        go_roundw
        case rel => exact ⟨k + 1, by omega, by go_num, th HB.out (th HB3.out HB4.out)⟩
        case measure => simp [intOf]; omega
      · have hkn : k = n := by omega
        clear hlt
        go_upto_region 13 with fail
        refine wp_region_held_drew (S := fun w' => w'.cell? ⟨p, 0, none⟩ = some (.pointer (some ⟨a, 0, none⟩)) ∧ w'.cell? ⟨p, 2, none⟩ = some (.pointer (some ⟨c, 0, none⟩))) (by kernel_rfl) ⟨c0, c2⟩ (fun hS => ?_)
        have HPD := hid (HP'.out.below (Below.refl _ _).drew)
        refine tkH (i := 0) (v := ?v0x1t) (y := Or.inl ⟨by rfl, ?y0x1t⟩) (s := hS) (h := ?r0x1t)
        case y0x1t => (intro w' hSw; (try dsimp only at hSw); go_simp; (try with_reducible rfl))
        simp only [Act.put, sA, sB, sC]
        refine tkH (i := 1) (v := ?v1x2t) (y := Or.inl ⟨by rfl, ?y1x2t⟩) (s := hS) (h := ?r1x2t)
        case y1x2t => (intro w' hSw; (try dsimp only at hSw); go_simp; (try with_reducible rfl))
        simp only [Act.put, sA, sB, sC]
        refine tkH (i := 2) (v := ?v2x3t) (y := Or.inl ⟨by rfl, ?y2x3t⟩) (s := hS) (h := ?r2x3t)
        case y2x3t => (intro w' hSw; (try dsimp only at hSw); go_simp; (try with_reducible rfl))
        simp only [Act.put, sA, sB, sC]
        refine tkH (i := 3) (v := ?v3x4t) (y := Or.inl ⟨by rfl, ?y3x4t⟩) (s := hS) (h := ?r3x4t)
        case y3x4t => (intro w' hSw; (try dsimp only at hSw); go_simp; (try with_reducible rfl))
        simp only [Act.put, sA, sB, sC]
        refine tkH (i := 5) (v := ?v5x5t) (y := Or.inl ⟨by rfl, ?y5x5t⟩) (s := hS) (h := ?r5x5t)
        case y5x5t => (intro w' hSw; (try dsimp only at hSw); go_simp; (try with_reducible rfl))
        simp only [Act.put, sA, sB, sC]
        refine tkH (i := 6) (v := ?v6x6t) (y := Or.inl ⟨by rfl, ?y6x6t⟩) (s := hS) (h := ?r6x6t)
        case y6x6t => (intro w' hSw; (try dsimp only at hSw); go_simp; (try with_reducible rfl))
        simp only [Act.put, sA, sB, sC]
        refine tkH (i := 7) (v := ?v7x7t) (y := Or.inl ⟨by rfl, ?y7x7t⟩) (s := hS) (h := ?r7x7t)
        case y7x7t => (intro w' hSw; (try dsimp only at hSw); go_simp; (try with_reducible rfl))
        simp only [Act.put, sA, sB, sC]
        refine tkH (i := 8) (v := ?v8x8t) (y := Or.inl ⟨by rfl, ?y8x8t⟩) (s := hS) (h := ?r8x8t)
        case y8x8t => (intro w' hSw; (try dsimp only at hSw); go_simp; (try with_reducible rfl))
        simp only [Act.put, sA, sB, sC]
        refine rdH (i := 4) (h := fun K hK => ?_)
        go_simp
        refine (HPD.out.dev_loose 0 rfl).mono ?_
        rintro e w' ⟨rfl, hw'⟩
        subst w'
        refine hK.out _ _ ?k4x9t (fun hS => ?s4x9t)
        case k4x9t => exact hS
        clear hK K
        try simp only [Act.put, sA, sB, sC]
        refine rdH (i := 9) (h := fun K hK => ?_)
        go_simp
        refine (HPD.out.rdev_loose 1 rfl).mono ?_
        rintro e w' ⟨rfl, hw'⟩
        subst w'
        refine hK.out _ _ ?k9x10t (fun hS => ?s9x10t)
        case k9x10t => exact hS
        clear hK K
        try simp only [Act.put, sA, sB, sC]
        refine tkH (i := 10) (v := ?v10x11t) (y := Or.inl ⟨by rfl, ?y10x11t⟩) (s := hS) (h := ?r10x11t)
        case y10x11t => (intro w' hSw; (try dsimp only at hSw); go_simp; (try with_reducible rfl))
        simp only [Act.put, sA, sB, sC]
        refine tkH (i := 11) (v := ?v11x12t) (y := Or.inl ⟨by rfl, ?y11x12t⟩) (s := hS) (h := ?r11x12t)
        case y11x12t => (intro w' hSw; (try dsimp only at hSw); go_simp; (try with_reducible rfl))
        simp only [Act.put, sA, sB, sC]
        refine tkH (i := 12) (v := ?v12x13t) (y := Or.inl ⟨by rfl, ?y12x13t⟩) (s := hS) (h := ?r12x13t)
        case y12x13t => (intro w' hSw; (try dsimp only at hSw); go_simp; (try with_reducible rfl))
        simp only [Act.put, sA, sB, sC]
        refine tkH (i := 13) (v := ?v13x14t) (y := Or.inl ⟨by rfl, ?y13x14t⟩) (s := hS) (h := ?r13x14t)
        case y13x14t => (intro w' hSw; (try dsimp only at hSw); go_simp; (try with_reducible rfl))
        simp only [Act.put, sA, sB, sC]
        refine tkH (i := 14) (v := ?v14x15t) (y := Or.inl ⟨by rfl, ?y14x15t⟩) (s := hS) (h := ?r14x15t)
        case y14x15t => (intro w' hSw; (try dsimp only at hSw); go_simp; (try with_reducible rfl))
        simp only [Act.put, sA, sB, sC]
        refine tkH (i := 15) (v := ?v15x16t) (y := Or.inl ⟨by rfl, ?y15x16t⟩) (s := hS) (h := ?r15x16t)
        case y15x16t => (intro w' hSw; (try dsimp only at hSw); go_simp; (try with_reducible rfl))
        simp only [Act.put, sA, sB, sC]
        refine tkH (i := 17) (v := ?v17x17t) (y := Or.inl ⟨by rfl, ?y17x17t⟩) (s := hS) (h := ?r17x17t)
        case y17x17t => (intro w' hSw; (try dsimp only at hSw); go_simp; (try with_reducible rfl))
        simp only [Act.put, sA, sB, sC]
        refine tkH (i := 18) (v := ?v18x18t) (y := Or.inl ⟨by rfl, ?y18x18t⟩) (s := hS) (h := ?r18x18t)
        case y18x18t => (intro w' hSw; (try dsimp only at hSw); go_simp; (try with_reducible rfl))
        simp only [Act.put, sA, sB, sC]
        refine tkH (i := 19) (v := ?v19x19t) (y := Or.inl ⟨by rfl, ?y19x19t⟩) (s := hS) (h := ?r19x19t)
        case y19x19t => (intro w' hSw; (try dsimp only at hSw); go_simp; (try with_reducible rfl))
        simp only [Act.put, sA, sB, sC]
        refine tkH (i := 20) (v := ?v20x20t) (y := Or.inl ⟨by rfl, ?y20x20t⟩) (s := hS) (h := ?r20x20t)
        case y20x20t => (intro w' hSw; (try dsimp only at hSw); go_simp; (try with_reducible rfl))
        simp only [Act.put, sA, sB, sC]
        refine rdH (i := 16) (h := fun K hK => ?_)
        go_simp
        try (refine if_wanted (by first | rfl | kernel_rfl) ?_; go_simp)
        refine (HPD.out.dev_out 0 rfl).mono ?_
        rintro e w' ⟨rfl, hw'⟩
        subst w'
        refine hK.out _ _ ?k16x21t (fun hS => ?s16x21t)
        case k16x21t => exact hS
        clear hK K
        try simp only [Act.put, sA, sB, sC]
        refine rdH (i := 21) (h := fun K hK => ?_)
        go_simp
        try (refine if_wanted (by first | rfl | kernel_rfl) ?_; go_simp)
        refine (HPD.out.rdev_out 1 rfl).mono ?_
        rintro e w' ⟨rfl, hw'⟩
        subst w'
        refine hK.out _ _ ?k21x22t (fun hS => ?s21x22t)
        case k21x22t => exact hS
        clear hK K
        try simp only [Act.put, sA, sB, sC]
        refine tkH (i := 22) (v := ?v22x23t) (y := Or.inl ⟨by rfl, ?y22x23t⟩) (s := hS) (h := ?r22x23t)
        case y22x23t => (intro w' hSw; (try dsimp only at hSw); go_simp; (try with_reducible rfl))
        simp only [Act.put, sA, sB, sC]
        refine tkH (i := 23) (v := ?v23x24t) (y := Or.inl ⟨by rfl, ?y23x24t⟩) (s := hS) (h := ?r23x24t)
        case y23x24t => (intro w' hSw; (try dsimp only at hSw); go_simp; (try with_reducible rfl))
        simp only [Act.put, sA, sB, sC]
        refine tkH (i := 24) (v := ?v24x25t) (y := Or.inl ⟨by rfl, ?y24x25t⟩) (s := hS) (h := ?r24x25t)
        case y24x25t => (intro w' hSw; (try dsimp only at hSw); go_simp; (try with_reducible rfl))
        simp only [Act.put, sA, sB, sC]
        refine wpAnyH_done (by kernel_rfl) ?_ _
        go_wp2
        go_ret
        exact ⟨rfl, (SC.out.below HB.out).below (Below.refl _ _).drew⟩
  · obtain ⟨hn2, hfit⟩ := hf s rfl
    obtain ⟨v, u, h⟩ := h
    obtain ⟨len, hlen⟩ : ∃ len, len = s.L.length := ⟨_, rfl⟩
    have hlb := hfit.2.2.1
    rw [← hlen] at hlb
    have hgb := hfit.2.1
    have H := hid h; have HLEN := hid hlen; have HFIT := hid hfit
    have hbp := h.blk 2 rfl
    have c1 := hbp.cell (j := 1) rfl
    have c3 := hbp.cell (j := 3) rfl
    clear h hf hlen hfit hbp
    unfold ptr at c1 c3 ⊢
    go_enter Tryz.func11, Tryz.ntmps11
    go_wp2_with fail
    refine (H.out.v_records 3 rfl HFIT.out).mono ?_
    rintro e w1 ⟨r, rfl, hf1, hb1⟩
    obtain ⟨ro, rc, rfl, hlr⟩ := hf1.lr
    have H1 := hid (H.out.below hb1)
    obtain ⟨lo2, c2, hu, hlr2⟩ := H1.out.rvlist 4 rfl
    have HLR := hid hlr; have HLR2 := hid hlr2; have HB1 := hid hb1; have HF := hid hf1
    rw [← HLEN.out] at hu HF
    simp only [← HLEN.out]
    have hbp := H1.out.blk 2 rfl
    have hS00 : w1.cell? ⟨p, 1, none⟩ = some (.pointer (some ⟨v, 0, none⟩)) ∧ w1.cell? ⟨p, 3, none⟩ = some (.pointer (some ⟨u, 0, none⟩)) ∧ w1.cell? ⟨u, 3, none⟩ = some (.slice lo2 len c2) ∧ w1.cell? ⟨u, 1, none⟩ = some (.int .i64 (s.gen : Nat)) := ⟨hbp.cell (j := 1) rfl, hbp.cell (j := 3) rfl, hu.cell (j := 3) rfl, hu.cell (j := 1) rfl⟩
    clear hlr hlr2 hb1 hf1 hbp hu c1 c3
    go_upto_region 3 with fail
    refine wp_region_held_drew (S := fun w' => w'.cell? ⟨p, 1, none⟩ = some (.pointer (some ⟨v, 0, none⟩)) ∧ w'.cell? ⟨p, 3, none⟩ = some (.pointer (some ⟨u, 0, none⟩)) ∧ w'.cell? ⟨u, 3, none⟩ = some (.slice lo2 len c2) ∧ w'.cell? ⟨u, 1, none⟩ = some (.int .i64 (s.gen : Nat))) (by kernel_rfl) hS00 (fun hS => ?_)
    refine tkH (i := 0) (v := ?v0x1s) (y := Or.inl ⟨by rfl, ?y0x1s⟩) (s := hS) (h := ?r0x1s)
    case y0x1s => (intro w' hSw; (try dsimp only at hSw); go_simp; (try with_reducible rfl))
    simp only [Act.put, sA, sB, sC]
    refine tkH (i := 1) (v := ?v1x2s) (y := Or.inl ⟨by rfl, ?y1x2s⟩) (s := hS) (h := ?r1x2s)
    case y1x2s => (intro w' hSw; (try dsimp only at hSw); go_simp; (try with_reducible rfl))
    simp only [Act.put, sA, sB, sC]
    refine tkH (i := 2) (v := ?v2x3s) (y := Or.inl ⟨by rfl, ?y2x3s⟩) (s := hS) (h := ?r2x3s)
    case y2x3s => (intro w' hSw; (try dsimp only at hSw); go_simp; (try with_reducible rfl))
    simp only [Act.put, sA, sB, sC]
    refine tkH (i := 3) (v := ?v3x4s) (y := Or.inl ⟨by rfl, ?y3x4s⟩) (s := hS) (h := ?r3x4s)
    case y3x4s => (intro w' hSw; (try dsimp only at hSw); go_simp; (try with_reducible rfl))
    simp only [Act.put, sA, sB, sC]
    refine tkH (i := 4) (v := ?v4x5s) (y := Or.inl ⟨by rfl, ?y4x5s⟩) (s := hS) (h := ?r4x5s)
    case y4x5s => (intro w' hSw; (try dsimp only at hSw); go_simp; (try with_reducible rfl))
    simp only [Act.put, sA, sB, sC]
    refine tkH (i := 5) (v := ?v5x6s) (y := Or.inl ⟨by rfl, ?y5x6s⟩) (s := hS) (h := ?r5x6s)
    case y5x6s => (intro w' hSw; (try dsimp only at hSw); go_simp; (try with_reducible rfl))
    simp only [Act.put, sA, sB, sC]
    refine tkH (i := 6) (v := ?v6x7s) (y := Or.inl ⟨by rfl, ?y6x7s⟩) (s := hS) (h := ?r6x7s)
    case y6x7s => (intro w' hSw; (try dsimp only at hSw); go_simp; (try with_reducible rfl))
    simp only [Act.put, sA, sB, sC]
    refine tkH (i := 7) (v := ?v7x8s) (y := Or.inl ⟨by rfl, ?y7x8s⟩) (s := hS) (h := ?r7x8s)
    case y7x8s => (intro w' hSw; (try dsimp only at hSw); go_simp; (try with_reducible rfl))
    simp only [Act.put, sA, sB, sC]
    refine rdH (i := 8) (h := fun K hK => ?_)
    go_simp
    refine (sameLists_any ro lo2 len len rc c2 s.L s.L HLEN.out HLEN.out (by omega) (by omega) _ (HLR.out.below (Below.refl _ _).drew) (HLR2.out.below (Below.refl _ _).drew)).mono ?_
    rintro e w3 ⟨rfl, hb3⟩
    rw [sameL_refl]
    have hb3 := th (Below.refl w1.heap.size w1).drew hb3
    have hS3 := And.intro ((hb3.cell (World.block_lt_of_cell? _ _ hS00.1)).trans hS00.1) (And.intro ((hb3.cell (World.block_lt_of_cell? _ _ hS00.2.1)).trans hS00.2.1) (And.intro ((hb3.cell (World.block_lt_of_cell? _ _ hS00.2.2.1)).trans hS00.2.2.1) ((hb3.cell (World.block_lt_of_cell? _ _ hS00.2.2.2)).trans hS00.2.2.2)))
    have HB3 := hid hb3
    clear hb3
    refine hK.out _ _ ?k8x9s (fun hS => ?s8x9s)
    case k8x9s => exact hS3
    clear hK K
    try simp only [Act.put, sA, sB, sC]
    refine tkH (i := 9) (v := ?v9x10s) (y := Or.inl ⟨by rfl, ?y9x10s⟩) (s := hS) (h := ?r9x10s)
    case y9x10s => (intro w' hSw; (try dsimp only at hSw); go_simp; (try with_reducible rfl))
    simp only [Act.put, sA, sB, sC]
    refine tkH (i := 10) (v := ?v10x11s) (y := Or.inl ⟨by rfl, ?y10x11s⟩) (s := hS) (h := ?r10x11s)
    case y10x11s => (intro w' hSw; (try dsimp only at hSw); go_simp; (try with_reducible rfl))
    simp only [Act.put, sA, sB, sC]
    refine tkH (i := 11) (v := ?v11x12s) (y := Or.inl ⟨by rfl, ?y11x12s⟩) (s := hS) (h := ?r11x12s)
    case y11x12s => (intro w' hSw; (try dsimp only at hSw); go_simp; (try with_reducible rfl))
    simp only [Act.put, sA, sB, sC]
    refine tkH (i := 12) (v := ?v12x13s) (y := Or.inl ⟨by rfl, ?y12x13s⟩) (s := hS) (h := ?r12x13s)
    case y12x13s => (intro w' hSw; (try dsimp only at hSw); go_simp; (try with_reducible rfl))
    simp only [Act.put, sA, sB, sC]
    refine tkH (i := 13) (v := ?v13x14s) (y := Or.inl ⟨by rfl, ?y13x14s⟩) (s := hS) (h := ?r13x14s)
    case y13x14s => (intro w' hSw; (try dsimp only at hSw); go_simp; (try with_reducible rfl))
    simp only [Act.put, sA, sB, sC]
    refine tkH (i := 14) (v := ?v14x15s) (y := Or.inl ⟨by rfl, ?y14x15s⟩) (s := hS) (h := ?r14x15s)
    case y14x15s => (intro w' hSw; (try dsimp only at hSw); go_simp; (try with_reducible rfl))
    simp only [Act.put, sA, sB, sC]
    refine tkH (i := 16) (v := ?v16x16s) (y := Or.inl ⟨by rfl, ?y16x16s⟩) (s := hS) (h := ?r16x16s)
    case y16x16s => (intro w' hSw; (try dsimp only at hSw); go_simp; (try with_reducible rfl))
    simp only [Act.put, sA, sB, sC]
    refine tkH (i := 17) (v := ?v17x17s) (y := Or.inl ⟨by rfl, ?y17x17s⟩) (s := hS) (h := ?r17x17s)
    case y17x17s => (intro w' hSw; (try dsimp only at hSw); go_simp; (try with_reducible rfl))
    simp only [Act.put, sA, sB, sC]
    refine tkH (i := 18) (v := ?v18x18s) (y := Or.inl ⟨by rfl, ?y18x18s⟩) (s := hS) (h := ?r18x18s)
    case y18x18s => (intro w' hSw; (try dsimp only at hSw); go_simp; (try with_reducible rfl))
    simp only [Act.put, sA, sB, sC]
    refine tkH (i := 19) (v := ?v19x19s) (y := Or.inl ⟨by rfl, ?y19x19s⟩) (s := hS) (h := ?r19x19s)
    case y19x19s => (intro w' hSw; (try dsimp only at hSw); go_simp; (try with_reducible rfl))
    simp only [Act.put, sA, sB, sC]
    refine tkH (i := 20) (v := ?v20x20s) (y := Or.inl ⟨by rfl, ?y20x20s⟩) (s := hS) (h := ?r20x20s)
    case y20x20s => (intro w' hSw; (try dsimp only at hSw); go_simp; (try with_reducible rfl))
    simp only [Act.put, sA, sB, sC]
    refine tkH (i := 21) (v := ?v21x21s) (y := Or.inl ⟨by rfl, ?y21x21s⟩) (s := hS) (h := ?r21x21s)
    case y21x21s => (intro w' hSw; (try dsimp only at hSw); go_simp; (try with_reducible rfl))
    simp only [Act.put, sA, sB, sC]
    refine tkH (i := 22) (v := ?v22x22s) (y := Or.inl ⟨by rfl, ?y22x22s⟩) (s := hS) (h := ?r22x22s)
    case y22x22s => (intro w' hSw; (try dsimp only at hSw); go_simp; (try with_reducible rfl))
    simp only [Act.put, sA, sB, sC]
    refine rdH (i := 15) (h := fun K hK => ?_)
    go_simp
    try (refine if_wanted (by first | rfl | kernel_rfl) ?_; go_simp)
    refine ((H1.out.below HB3.out).v_gen 3 rfl).mono ?_
    rintro e w' ⟨rfl, hw'⟩
    subst w'
    refine hK.out _ _ ?k15x23s (fun hS => ?s15x23s)
    case k15x23s => exact hS
    clear hK K
    try simp only [Act.put, sA, sB, sC]
    refine tkH (i := 23) (v := ?v23x24s) (y := Or.inl ⟨by rfl, ?y23x24s⟩) (s := hS) (h := ?r23x24s)
    case y23x24s => (intro w' hSw; (try dsimp only at hSw); go_simp; (try with_reducible rfl))
    simp only [Act.put, sA, sB, sC]
    refine tkH (i := 24) (v := ?v24x25s) (y := Or.inl ⟨by rfl, ?y24x25s⟩) (s := hS) (h := ?r24x25s)
    case y24x25s => (intro w' hSw; (try dsimp only at hSw); go_simp; (try with_reducible rfl))
    simp only [Act.put, sA, sB, sC]
    refine tkH (i := 25) (v := ?v25x26s) (y := Or.inl ⟨by rfl, ?y25x26s⟩) (s := hS) (h := ?r25x26s)
    case y25x26s => (intro w' hSw; (try dsimp only at hSw); go_simp; (try with_reducible rfl))
    simp only [Act.put, sA, sB, sC]
    refine tkH (i := 26) (v := ?v26x27s) (y := Or.inl ⟨by rfl, ?y26x27s⟩) (s := hS) (h := ?r26x27s)
    case y26x27s => (intro w' hSw; (try dsimp only at hSw); go_simp; (try with_reducible rfl))
    simp only [Act.put, sA, sB, sC]
    refine tkH (i := 27) (v := ?v27x28s) (y := Or.inl ⟨by rfl, ?y27x28s⟩) (s := hS) (h := ?r27x28s)
    case y27x28s => (intro w' hSw; (try dsimp only at hSw); go_simp; (try with_reducible rfl))
    simp only [Act.put, sA, sB, sC]
    refine tkH (i := 28) (v := ?v28x29s) (y := Or.inl ⟨by rfl, ?y28x29s⟩) (s := hS) (h := ?r28x29s)
    case y28x29s => (intro w' hSw; (try dsimp only at hSw); go_simp; (try with_reducible rfl))
    simp only [Act.put, sA, sB, sC]
    refine tkH (i := 29) (v := ?v29x30s) (y := Or.inl ⟨by rfl, ?y29x30s⟩) (s := hS) (h := ?r29x30s)
    case y29x30s => (intro w' hSw; (try dsimp only at hSw); go_simp; (try with_reducible rfl))
    simp only [Act.put, sA, sB, sC]
    refine tkH (i := 31) (v := ?v31x31s) (y := Or.inl ⟨by rfl, ?y31x31s⟩) (s := hS) (h := ?r31x31s)
    case y31x31s => (intro w' hSw; (try dsimp only at hSw); go_simp; (try with_reducible rfl))
    simp only [Act.put, sA, sB, sC]
    refine tkH (i := 32) (v := ?v32x32s) (y := Or.inl ⟨by rfl, ?y32x32s⟩) (s := hS) (h := ?r32x32s)
    case y32x32s => (intro w' hSw; (try dsimp only at hSw); go_simp; (try with_reducible rfl))
    simp only [Act.put, sA, sB, sC]
    refine tkH (i := 33) (v := ?v33x33s) (y := Or.inl ⟨by rfl, ?y33x33s⟩) (s := hS) (h := ?r33x33s)
    case y33x33s => (intro w' hSw; (try dsimp only at hSw); go_simp; (try with_reducible rfl))
    simp only [Act.put, sA, sB, sC]
    refine tkH (i := 34) (v := ?v34x34s) (y := Or.inl ⟨by rfl, ?y34x34s⟩) (s := hS) (h := ?r34x34s)
    case y34x34s => (intro w' hSw; (try dsimp only at hSw); go_simp; (try with_reducible rfl))
    simp only [Act.put, sA, sB, sC]
    refine rdH (i := 30) (h := fun K hK => ?_)
    go_simp
    try (refine if_wanted (by first | rfl | kernel_rfl) ?_; go_simp)
    obtain ⟨vl3, hv3⟩ := (H1.out.below HB3.out).vault 3 rfl
    refine (vfree_any (H1.out.below HB3.out) 0 rfl v s.gen s.next vl3 s.br hv3 (by omega) hn2 HFIT.out.1).mono ?_
    rintro e w4 ⟨rfl, hb4⟩
    rw [HN.out]
    have hb4 := th HB3.out hb4
    have hS4 := And.intro ((hb4.cell (World.block_lt_of_cell? _ _ hS00.1)).trans hS00.1) (And.intro ((hb4.cell (World.block_lt_of_cell? _ _ hS00.2.1)).trans hS00.2.1) (And.intro ((hb4.cell (World.block_lt_of_cell? _ _ hS00.2.2.1)).trans hS00.2.2.1) ((hb4.cell (World.block_lt_of_cell? _ _ hS00.2.2.2)).trans hS00.2.2.2)))
    have HB4 := hid hb4
    clear hb4 hv3
    refine hK.out _ _ ?k30x35s (fun hS => ?s30x35s)
    case k30x35s => exact hS4
    clear hK K
    try simp only [Act.put, sA, sB, sC]
    refine rdH (i := 35) (h := fun K hK => ?_)
    go_simp
    try (refine if_wanted (by first | rfl | kernel_rfl) ?_; go_simp)
    obtain ⟨vl4, hv4⟩ := (H1.out.below HB4.out).rvault 4 rfl
    refine (rfree_any (H1.out.below HB4.out) 1 rfl u s.gen s.next vl4 s.br hv4 hn2 HFIT.out.1).mono ?_
    rintro e w5 ⟨rfl, hb5⟩
    rw [HN.out]
    have hb5 := th HB4.out hb5
    have hS5 := And.intro ((hb5.cell (World.block_lt_of_cell? _ _ hS00.1)).trans hS00.1) (And.intro ((hb5.cell (World.block_lt_of_cell? _ _ hS00.2.1)).trans hS00.2.1) (And.intro ((hb5.cell (World.block_lt_of_cell? _ _ hS00.2.2.1)).trans hS00.2.2.1) ((hb5.cell (World.block_lt_of_cell? _ _ hS00.2.2.2)).trans hS00.2.2.2)))
    have HB5 := hid hb5
    clear hb5 hv4
    refine hK.out _ _ ?k35x36s (fun hS => ?s35x36s)
    case k35x36s => exact hS5
    clear hK K
    try simp only [Act.put, sA, sB, sC]
    refine tkH (i := 36) (v := ?v36x37s) (y := Or.inl ⟨by rfl, ?y36x37s⟩) (s := hS) (h := ?r36x37s)
    case y36x37s => (intro w' hSw; (try dsimp only at hSw); go_simp; (try with_reducible rfl))
    simp only [Act.put, sA, sB, sC]
    refine tkH (i := 37) (v := ?v37x38s) (y := Or.inl ⟨by rfl, ?y37x38s⟩) (s := hS) (h := ?r37x38s)
    case y37x38s => (intro w' hSw; (try dsimp only at hSw); go_simp; (try with_reducible rfl))
    simp only [Act.put, sA, sB, sC]
    refine wpAnyH_done (by kernel_rfl) ?_ _
    clear hS hS3 hS4 hS5
    go_wp2_with fail
    refine (overLists_any _ s.L (by have := HFIT.out.2.2.1; omega) HFIT.out.2.2.2 w5 (HF.out.below HB5.out)).mono ?_
    rintro e w6 ⟨rfl, hk6⟩
    have HB6 : Hid (Below w.heap.size w w6) := hid ((th HB1.out HB5.out).trans (hk6.belowB (th HB1.out HB5.out).size (fun i hi hF => by omega)))
    have SC : Hid (Scn B w0 w6 a c p d (some s)) := hid ⟨v, u, H.out.below HB6.out⟩
    have HP : Hid (St B w0 w6 (pairL a c p d (ptr v) (ptr u))) := hid (H.out.below HB6.out).drop_post
    clear hk6 HB6
    go_wp2_with fail
    go_loopw [4] (fun i wr => ∃ k : Nat, k ≤ n ∧ i = .int .i64 k ∧ Below w6.heap.size w6 wr) (fun i _ => n - (intOf i).toNat)
    case atStart => exact ⟨0, by omega, rfl, Below.refl _ _⟩
    case round =>
      obtain ⟨k, hk, rfl, hb⟩ := hrel
      have HB := hid hb
      have HP' := hid (HP.out.below hb)
      have hbp := HP'.out.blk 2 rfl
      have c0 := hbp.cell (j := 0) rfl
      have c2 := hbp.cell (j := 2) rfl
      unfold ptr at c0 c2
      clear hb hbp
      go_wp2_with fail
      refine (HP'.out.rdev_size 1 rfl).mono ?_
      rintro e w' ⟨rfl, hw'⟩
      subst w'
      rw [HN.out]
      by_cases hlt : k < n
      · go_wp2_with fail
        refine (HP'.out.dev_image 0 rfl (k : Int)).mono ?_
        rintro e w7 ⟨v1, rfl, a3, p3, rfl, -, s3, wb3, f3, b3⟩
        have HS3 := hid s3; have HB3 := hid b3
        have c2 := (b3.cell (World.block_lt_of_cell? _ _ c2)).trans c2
        clear s3 wb3 f3 b3
        go_wp2_with fail
        refine ((HP'.out.below HB3.out).rdev_image 1 rfl (k : Int)).mono ?_
        rintro e w8 ⟨v2, rfl, a4, p4, rfl, -, s4, wb4, f4, b4⟩
        have HS4 := hid s4; have HB4 := hid b4
        clear s4 wb4 f4 b4
        go_wp2_with fail
        refine (same_any a3 a4 _ _ p3 p4 (d.image (k : Int)).1 (d.image (k : Int)).1 rfl rfl w8 (HS3.out.below HB4.out) HS4.out).mono ?_
        rintro e w9 ⟨rfl, hw9⟩
        subst hw9
        rw [sameB_refl]
        go_wp2
        go_roundw
        case rel => exact ⟨k + 1, by omega, by go_num, th HB.out (th HB3.out HB4.out)⟩
        case measure => simp [intOf]; omega
      · have hkn : k = n := by omega
        clear hlt
        go_upto_region 13 with fail
        refine wp_region_held_drew (S := fun w' => w'.cell? ⟨p, 0, none⟩ = some (.pointer (some ⟨a, 0, none⟩)) ∧ w'.cell? ⟨p, 2, none⟩ = some (.pointer (some ⟨c, 0, none⟩))) (by kernel_rfl) ⟨c0, c2⟩ (fun hS => ?_)
        have HPD := hid (HP'.out.below (Below.refl _ _).drew)
        refine tkH (i := 0) (v := ?v0x1t2) (y := Or.inl ⟨by rfl, ?y0x1t2⟩) (s := hS) (h := ?r0x1t2)
        case y0x1t2 => (intro w' hSw; (try dsimp only at hSw); go_simp; (try with_reducible rfl))
        simp only [Act.put, sA, sB, sC]
        refine tkH (i := 1) (v := ?v1x2t2) (y := Or.inl ⟨by rfl, ?y1x2t2⟩) (s := hS) (h := ?r1x2t2)
        case y1x2t2 => (intro w' hSw; (try dsimp only at hSw); go_simp; (try with_reducible rfl))
        simp only [Act.put, sA, sB, sC]
        refine tkH (i := 2) (v := ?v2x3t2) (y := Or.inl ⟨by rfl, ?y2x3t2⟩) (s := hS) (h := ?r2x3t2)
        case y2x3t2 => (intro w' hSw; (try dsimp only at hSw); go_simp; (try with_reducible rfl))
        simp only [Act.put, sA, sB, sC]
        refine tkH (i := 3) (v := ?v3x4t2) (y := Or.inl ⟨by rfl, ?y3x4t2⟩) (s := hS) (h := ?r3x4t2)
        case y3x4t2 => (intro w' hSw; (try dsimp only at hSw); go_simp; (try with_reducible rfl))
        simp only [Act.put, sA, sB, sC]
        refine tkH (i := 5) (v := ?v5x5t2) (y := Or.inl ⟨by rfl, ?y5x5t2⟩) (s := hS) (h := ?r5x5t2)
        case y5x5t2 => (intro w' hSw; (try dsimp only at hSw); go_simp; (try with_reducible rfl))
        simp only [Act.put, sA, sB, sC]
        refine tkH (i := 6) (v := ?v6x6t2) (y := Or.inl ⟨by rfl, ?y6x6t2⟩) (s := hS) (h := ?r6x6t2)
        case y6x6t2 => (intro w' hSw; (try dsimp only at hSw); go_simp; (try with_reducible rfl))
        simp only [Act.put, sA, sB, sC]
        refine tkH (i := 7) (v := ?v7x7t2) (y := Or.inl ⟨by rfl, ?y7x7t2⟩) (s := hS) (h := ?r7x7t2)
        case y7x7t2 => (intro w' hSw; (try dsimp only at hSw); go_simp; (try with_reducible rfl))
        simp only [Act.put, sA, sB, sC]
        refine tkH (i := 8) (v := ?v8x8t2) (y := Or.inl ⟨by rfl, ?y8x8t2⟩) (s := hS) (h := ?r8x8t2)
        case y8x8t2 => (intro w' hSw; (try dsimp only at hSw); go_simp; (try with_reducible rfl))
        simp only [Act.put, sA, sB, sC]
        refine rdH (i := 4) (h := fun K hK => ?_)
        go_simp
        refine (HPD.out.dev_loose 0 rfl).mono ?_
        rintro e w' ⟨rfl, hw'⟩
        subst w'
        refine hK.out _ _ ?k4x9t2 (fun hS => ?s4x9t2)
        case k4x9t2 => exact hS
        clear hK K
        try simp only [Act.put, sA, sB, sC]
        refine rdH (i := 9) (h := fun K hK => ?_)
        go_simp
        refine (HPD.out.rdev_loose 1 rfl).mono ?_
        rintro e w' ⟨rfl, hw'⟩
        subst w'
        refine hK.out _ _ ?k9x10t2 (fun hS => ?s9x10t2)
        case k9x10t2 => exact hS
        clear hK K
        try simp only [Act.put, sA, sB, sC]
        refine tkH (i := 10) (v := ?v10x11t2) (y := Or.inl ⟨by rfl, ?y10x11t2⟩) (s := hS) (h := ?r10x11t2)
        case y10x11t2 => (intro w' hSw; (try dsimp only at hSw); go_simp; (try with_reducible rfl))
        simp only [Act.put, sA, sB, sC]
        refine tkH (i := 11) (v := ?v11x12t2) (y := Or.inl ⟨by rfl, ?y11x12t2⟩) (s := hS) (h := ?r11x12t2)
        case y11x12t2 => (intro w' hSw; (try dsimp only at hSw); go_simp; (try with_reducible rfl))
        simp only [Act.put, sA, sB, sC]
        refine tkH (i := 12) (v := ?v12x13t2) (y := Or.inl ⟨by rfl, ?y12x13t2⟩) (s := hS) (h := ?r12x13t2)
        case y12x13t2 => (intro w' hSw; (try dsimp only at hSw); go_simp; (try with_reducible rfl))
        simp only [Act.put, sA, sB, sC]
        refine tkH (i := 13) (v := ?v13x14t2) (y := Or.inl ⟨by rfl, ?y13x14t2⟩) (s := hS) (h := ?r13x14t2)
        case y13x14t2 => (intro w' hSw; (try dsimp only at hSw); go_simp; (try with_reducible rfl))
        simp only [Act.put, sA, sB, sC]
        refine tkH (i := 14) (v := ?v14x15t2) (y := Or.inl ⟨by rfl, ?y14x15t2⟩) (s := hS) (h := ?r14x15t2)
        case y14x15t2 => (intro w' hSw; (try dsimp only at hSw); go_simp; (try with_reducible rfl))
        simp only [Act.put, sA, sB, sC]
        refine tkH (i := 15) (v := ?v15x16t2) (y := Or.inl ⟨by rfl, ?y15x16t2⟩) (s := hS) (h := ?r15x16t2)
        case y15x16t2 => (intro w' hSw; (try dsimp only at hSw); go_simp; (try with_reducible rfl))
        simp only [Act.put, sA, sB, sC]
        refine tkH (i := 17) (v := ?v17x17t2) (y := Or.inl ⟨by rfl, ?y17x17t2⟩) (s := hS) (h := ?r17x17t2)
        case y17x17t2 => (intro w' hSw; (try dsimp only at hSw); go_simp; (try with_reducible rfl))
        simp only [Act.put, sA, sB, sC]
        refine tkH (i := 18) (v := ?v18x18t2) (y := Or.inl ⟨by rfl, ?y18x18t2⟩) (s := hS) (h := ?r18x18t2)
        case y18x18t2 => (intro w' hSw; (try dsimp only at hSw); go_simp; (try with_reducible rfl))
        simp only [Act.put, sA, sB, sC]
        refine tkH (i := 19) (v := ?v19x19t2) (y := Or.inl ⟨by rfl, ?y19x19t2⟩) (s := hS) (h := ?r19x19t2)
        case y19x19t2 => (intro w' hSw; (try dsimp only at hSw); go_simp; (try with_reducible rfl))
        simp only [Act.put, sA, sB, sC]
        refine tkH (i := 20) (v := ?v20x20t2) (y := Or.inl ⟨by rfl, ?y20x20t2⟩) (s := hS) (h := ?r20x20t2)
        case y20x20t2 => (intro w' hSw; (try dsimp only at hSw); go_simp; (try with_reducible rfl))
        simp only [Act.put, sA, sB, sC]
        refine rdH (i := 16) (h := fun K hK => ?_)
        go_simp
        try (refine if_wanted (by first | rfl | kernel_rfl) ?_; go_simp)
        refine (HPD.out.dev_out 0 rfl).mono ?_
        rintro e w' ⟨rfl, hw'⟩
        subst w'
        refine hK.out _ _ ?k16x21t2 (fun hS => ?s16x21t2)
        case k16x21t2 => exact hS
        clear hK K
        try simp only [Act.put, sA, sB, sC]
        refine rdH (i := 21) (h := fun K hK => ?_)
        go_simp
        try (refine if_wanted (by first | rfl | kernel_rfl) ?_; go_simp)
        refine (HPD.out.rdev_out 1 rfl).mono ?_
        rintro e w' ⟨rfl, hw'⟩
        subst w'
        refine hK.out _ _ ?k21x22t2 (fun hS => ?s21x22t2)
        case k21x22t2 => exact hS
        clear hK K
        try simp only [Act.put, sA, sB, sC]
        refine tkH (i := 22) (v := ?v22x23t2) (y := Or.inl ⟨by rfl, ?y22x23t2⟩) (s := hS) (h := ?r22x23t2)
        case y22x23t2 => (intro w' hSw; (try dsimp only at hSw); go_simp; (try with_reducible rfl))
        simp only [Act.put, sA, sB, sC]
        refine tkH (i := 23) (v := ?v23x24t2) (y := Or.inl ⟨by rfl, ?y23x24t2⟩) (s := hS) (h := ?r23x24t2)
        case y23x24t2 => (intro w' hSw; (try dsimp only at hSw); go_simp; (try with_reducible rfl))
        simp only [Act.put, sA, sB, sC]
        refine tkH (i := 24) (v := ?v24x25t2) (y := Or.inl ⟨by rfl, ?y24x25t2⟩) (s := hS) (h := ?r24x25t2)
        case y24x25t2 => (intro w' hSw; (try dsimp only at hSw); go_simp; (try with_reducible rfl))
        simp only [Act.put, sA, sB, sC]
        refine wpAnyH_done (by kernel_rfl) ?_ _
        go_wp2
        go_ret
        exact ⟨rfl, (SC.out.below HB.out).below (Below.refl _ _).drew⟩
end Go.Proofs.YtlondopgibcikaaGreat
