/- The walks of the document's device: Write, Flush, Crash, New. -/
import Derived.Test.YtlondopgibcikaaGreatRows
import Derived.Test.YtlondopgibcikaaGreatG01
import Derived.Test.YtlondopgibcikaaGreatG02
import Derived.Test.YtlondopgibcikaaGreatG03
import Derived.Test.YtlondopgibcikaaGreatG04
import Derived.Test.YtlondopgibcikaaGreatG05
import Derived.Test.YtlondopgibcikaaGreatG06
import Derived.Test.YtlondopgibcikaaGreatG07
import Derived.Test.YtlondopgibcikaaGreatG08
import Derived.Test.YtlondopgibcikaaGreatG09
import Derived.WalkKit
import Derived.WalkSpells
import Derived.WalkLawsBesides
import Derived.Deep.RegionHeld3
namespace Go.Proofs.YtlondopgibcikaaGreat
open Go.RowKit Ent
set_option maxRecDepth 100000 in
set_option maxHeartbeats 1000000 in
theorem writeR_any {a : Nat} {F : Nat → Prop} {d : Dev} (i : Int) (bo : Option Addr) (n c : Nat) (b : List UInt8) (hn : n = b.length) (w : World) (hb : SB w bo c b) (hbF : ∀ x, bo = some x → ¬ F x.block) (hlo : d.loose.length ≤ 1073741824) (h : RD w a F d) :
    Calls Tryz.prog 14 #[ptr a, .int .i64 i, .slice bo n c] w fun e w' => e = .returned (.int .i64 (d.write i b).1) ∧ RD w' a (grow F w w') (d.write i b).2 ∧ Keep F w w' := by
  have HD := hid h
  obtain ⟨ho, vL, vW, vsL, vsW, fused, fuse, Fb, h, hf⟩ := h
  obtain ⟨⟨aL, cL, rfl⟩, aW, cW, rfl⟩ := h.row
  have c0 := h.hd.cell (j := 0) rfl
  have c4 := h.hd.cell (j := 4) rfl
  have H := hid h
  have HO := hid ho
  have HF := hid hf
  cases hout : d.out
  rotate_left
  · have hs : d.write i b = (22, d) := by unfold Dev.write; rw [hout]; rfl
    rw [hs]
    rw [hout] at c4
    clear h hf hs hout ho hn
    unfold ptr
    go_enter Tryz.func14, Tryz.ntmps14
    go_wp2
    go_ret
    exact ⟨rfl, HD.out.mono fun _ => .inl, Keep.refl _ _⟩
  have hlen := ho.len
  rw [hout] at c4
  have HOUT := hid hout
  rcases has_cases d.img.length i with ⟨hi, hh⟩ | ⟨hi, hi0, hh⟩ | ⟨k, rfl, hk, hh⟩
  rotate_right
  · by_cases h64 : b.length = 64
    · obtain rfl : n = 64 := hn.trans h64
      clear hn
      cases ht : d.through.1
      · have hs : d.write k b = (22, d.through.2) := by unfold Dev.write; rw [hout]; simp [hh, h64, ht]
        rw [hs]
        have HT := hid ht
        clear h hf hs hout ho hh ht h64
        unfold ptr
        go_enter Tryz.func14, Tryz.ntmps14
        go_wp2_with fail
        refine (throughR_any w H.out HF.out HOUT.out).mono ?_
        rintro e w1 ⟨rfl, ⟨fuse', h1, hf1⟩, hk1⟩
        rw [HT.out]
        have HE : Hid (RD w1 a (grow F w w1) d.through.2) := hid ⟨ok_through HO.out, _, _, _, _, _, _, _, by rw [through_img, through_loose]; exact h1.mono fun _ => .inl, hf1⟩
        have HK := hid (hk1.mono (G := F) fun k _ e => by rw [e]; exact H.out.fa)
        clear h1 hf1 hk1
        go_wp2
        go_ret
        exact ⟨rfl, HE.out, HK.out⟩
      · have hs : d.write k b = (0, { d.through.2 with loose := d.loose ++ [(k, b)] }) := by unfold Dev.write; rw [hout]; simp [hh, h64, ht]
        rw [hs]
        have HT := hid ht; have H64 := hid h64
        clear h hf hs hout ho hh ht h64
        unfold ptr
        go_enter Tryz.func14, Tryz.ntmps14
        go_wp2_with fail
        refine (throughR_any w H.out HF.out HOUT.out).mono ?_
        rintro e w1 ⟨rfl, ⟨fuse', h1, hf1⟩, hk1⟩
        rw [HT.out]
        have H1 := hid h1; have HF1 := hid hf1
        have HK := hid (hk1.mono (G := F) fun k _ e => by rw [e]; exact H.out.fa)
        have HB1 := hid (hb.keep HK.out hbF)
        clear h1 hf1 hk1
        go_wp2_with fail
        refine wp_region_held_drew (S := fun _ => True) (by kernel_rfl) trivial (fun hS => ?_)
        refine tkH (i := 0) (v := ?v0x1) (y := Or.inl ⟨by rfl, ?y0x1⟩) (s := hS) (h := ?r0x1)
        case y0x1 => (intro w' hSw; (try dsimp only at hSw); go_simp; (try with_reducible rfl))
        simp only [Act.put, sA, sB, sC]
        refine tkH (i := 1) (v := ?v1x2) (y := Or.inl ⟨by rfl, ?y1x2⟩) (s := hS) (h := ?r1x2)
        case y1x2 => (intro w' hSw; (try dsimp only at hSw); go_simp; (try with_reducible rfl))
        simp only [Act.put, sA, sB, sC]
        refine tkH (i := 2) (v := ?v2x3) (y := Or.inl ⟨by rfl, ?y2x3⟩) (s := hS) (h := ?r2x3)
        case y2x3 => (intro w' hSw; (try dsimp only at hSw); go_simp; (try with_reducible rfl))
        simp only [Act.put, sA, sB, sC]
        refine tkH (i := 3) (v := ?v3x4) (y := Or.inl ⟨by rfl, ?y3x4⟩) (s := hS) (h := ?r3x4)
        case y3x4 => (intro w' hSw; (try dsimp only at hSw); go_simp; (try with_reducible rfl))
        simp only [Act.put, sA, sB, sC]
        refine tkH (i := 5) (v := ?v5x5) (y := Or.inl ⟨by rfl, ?y5x5⟩) (s := hS) (h := ?r5x5)
        case y5x5 => (intro w' hSw; (try dsimp only at hSw); go_simp; (try with_reducible rfl))
        simp only [Act.put, sA, sB, sC]
        refine tkH (i := 7) (v := ?v7x6) (y := Or.inl ⟨by rfl, ?y7x6⟩) (s := hS) (h := ?r7x6)
        case y7x6 => (intro w' hSw; (try dsimp only at hSw); go_simp; (try with_reducible rfl))
        simp only [Act.put, sA, sB, sC]
        refine wpAnyH_ready (rs := [4, 6]) (by kernel_rfl) (by simp) ?_
        refine AllReadyH.cons (by simp only [List.getElem?_toArray, List.getElem?_cons_zero, List.getElem?_cons_succ]; exact rfl) (fun K hK => ?_) (AllReadyH.cons (by simp only [List.getElem?_toArray, List.getElem?_cons_zero, List.getElem?_cons_succ]; exact rfl) (fun K hK => ?_) AllReadyH.nil)
        · have hc1 := H1.out.hd.cell (j := 1) rfl
          have hca := alc hc1
          try have hc2 := (H1.out.below HB2.out).hd.cell (j := 1) rfl
          try have hc3 := (H1.out.below HB3.out).hd.cell (j := 1) rfl
          go_simp
          clear hca
          refine hK.out _ _ ?k4x7 (fun hS => ?s4x7)
          case k4x7 => exact trivial
          clear hK K
          try simp only [Act.put, sA, sB, sC]
          refine rdH (i := 6) (h := fun K hK => ?_)
          go_simp
          refine hK.out _ _ ?k6x8 (fun hS => ?s6x8)
          case k6x8 => exact trivial
          clear hK K
          try simp only [Act.put, sA, sB, sC]
          refine rdH (i := 8) (h := fun K hK => ?_)
          refine wpo_append (.tmp 38) (.tmp 39) rfl w1.heap.size _ 0 [] b rfl (owns_empty w1.drew) bo 64 c rfl H64.out.symm ((HB1.out.below (Below.refl _ _).drew).below ((Below.refl _ _).alloc (Nat.le_refl _) _)) (by omega) (by simp) ?_
          intro v2 w2 ho2 hg2 hne
          have HB2 : Hid (Below w1.heap.size w1 w2) := hid (below_grown (((Below.refl _ _).drew).alloc (Nat.le_refl _) _) (owns_empty w1.drew) hg2 (Nat.le_refl _))
          have HO2 := hid (Fresh.ofOwns ho2)
          clear hg2 hne ho2
          obtain ⟨ao2, cap2, rfl, -⟩ := HO2.out
          refine hK.out _ _ ?k8x9 (fun hS => ?s8x9)
          case k8x9 => exact trivial
          clear hK K
          try simp only [Act.put, sA, sB, sC]
          refine tkH (i := 9) (v := ?v9x10) (y := Or.inl ⟨by rfl, ?y9x10⟩) (s := hS) (h := ?r9x10)
          case y9x10 => (intro w' hSw; (try dsimp only at hSw); go_simp; (try with_reducible rfl))
          simp only [Act.put, sA, sB, sC]
          refine rdH (i := 10) (h := fun K hK => ?_)
          refine wpo_layR rowW (.tmp 41) rfl (.agg #[.int .i64 (k : Int), .slice ao2 ([] ++ b).length cap2]) rfl rfl ?_
          intro w3 hb3 hc3
          have HB3 : Hid (Below w1.heap.size w1 w3) := hid (th HB2.out hb3)
          have HS3 : Hid (SS w3 (fun k => w1.heap.size ≤ k ∧ k < w3.heap.size) (.slice ao2 ([] ++ b).length cap2) b) := hid (((SS.fresh HO2.out).keep (Keep.ofBelow (F := fun _ => False) hb3) (fun _ _ => id)).mono fun k hk => ⟨hk.1, Nat.lt_of_lt_of_le hk.2 hb3.size⟩)
          have HC3 := hid hc3
          clear hb3 hc3
          refine hK.out _ _ ?k10x11 (fun hS => ?s10x11)
          case k10x11 => exact trivial
          clear hK K
          try simp only [Act.put, sA, sB, sC]
          refine rdH (i := 11) (h := fun K hK => ?_)
          refine wpo_appendR rowW (.tmp 36) (.tmp 42) rfl 0 (.slice aW d.loose.length cW) d.loose.length vsW rfl (H1.out.below HB3.out).oW w2.heap.size rfl _ HC3.out rfl (by intro u hu; simp [Value.cells] at hu; rcases hu with rfl | rfl <;> rfl) hlo (Nat.zero_le _) ?_
          intro v4 w4 ho4 hg4 hw4
          obtain ⟨ao4, c4, rfl⟩ := own_slice ho4
          have HE := hid (H1.out.appended HB3.out k HS3.out ho4 hg4 hw4)
          have HD4 := hid (((H1.out.below HB3.out).hd).keep ((Keep.refl (fun k => (Value.slice aW d.loose.length cW).ownBlock = some k) w3).grown hg4 (fun k hk _ => hk)) (fun e => (H1.out.fW _ e).2.2 rfl))
          clear ho4 hg4 hw4
          refine hK.out _ _ ?k11x12 (fun hS => ?s11x12)
          case k11x12 => exact trivial
          clear hK K
          try simp only [Act.put, sA, sB, sC]
          refine tkH (i := 12) (v := ?v12x13) (y := Or.inl ⟨by rfl, ?y12x13⟩) (s := hS) (h := ?r12x13)
          case y12x13 => (intro w' hSw; (try dsimp only at hSw); go_simp; (try with_reducible rfl))
          simp only [Act.put, sA, sB, sC]
          refine tkH (i := 13) (v := ?v13x14) (y := Or.inl ⟨by rfl, ?y13x14⟩) (s := hS) (h := ?r13x14)
          case y13x14 => (intro w' hSw; (try dsimp only at hSw); go_simp; (try with_reducible rfl))
          simp only [Act.put, sA, sB, sC]
          refine rdH (i := 14) (h := fun K hK => ?_)
          have hc4 := HD4.out.cell (j := 1) rfl
          have hf4 := HD4.out.free 1
          go_simp
          refine hK.out _ _ ?k14x15 (fun hS => ?s14x15)
          case k14x15 => exact trivial
          clear hK K
          try simp only [Act.put]
          refine wpAnyH_done (by kernel_rfl) ?_ _
          clear hS
          go_wp2
          go_ret
          obtain ⟨he, hke⟩ := HE.out
          exact ⟨rfl, ⟨by rw [through_img']; exact ok_loose HO.out hk H64.out, _, _, _, _, _, _, _, by rw [through_img']; exact (he.mono (fun j hj => hj.imp id fun hj => ⟨Nat.le_trans HK.out.size hj.1, by simpa using hj.2⟩)), HF1.out⟩, HK.out.trans hke⟩
        · go_simp
          refine hK.out _ _ ?k6x16 (fun hS => ?s6x16)
          case k6x16 => exact trivial
          clear hK K
          try simp only [Act.put, sA, sB, sC]
          refine wpAnyH_ready (rs := [4, 8]) (by kernel_rfl) (by simp) ?_
          refine AllReadyH.cons (by simp only [List.getElem?_toArray, List.getElem?_cons_zero, List.getElem?_cons_succ]; exact rfl) (fun K hK => ?_) (AllReadyH.cons (by simp only [List.getElem?_toArray, List.getElem?_cons_zero, List.getElem?_cons_succ]; exact rfl) (fun K hK => ?_) AllReadyH.nil)
          · have hc1 := H1.out.hd.cell (j := 1) rfl
            have hca := alc hc1
            try have hc2 := (H1.out.below HB2.out).hd.cell (j := 1) rfl
            try have hc3 := (H1.out.below HB3.out).hd.cell (j := 1) rfl
            go_simp
            clear hca
            refine hK.out _ _ ?k4x17 (fun hS => ?s4x17)
            case k4x17 => exact trivial
            clear hK K
            try simp only [Act.put, sA, sB, sC]
            refine rdH (i := 8) (h := fun K hK => ?_)
            refine wpo_append (.tmp 38) (.tmp 39) rfl w1.heap.size _ 0 [] b rfl (owns_empty w1.drew) bo 64 c rfl H64.out.symm ((HB1.out.below (Below.refl _ _).drew).below ((Below.refl _ _).alloc (Nat.le_refl _) _)) (by omega) (by simp) ?_
            intro v2 w2 ho2 hg2 hne
            have HB2 : Hid (Below w1.heap.size w1 w2) := hid (below_grown (((Below.refl _ _).drew).alloc (Nat.le_refl _) _) (owns_empty w1.drew) hg2 (Nat.le_refl _))
            have HO2 := hid (Fresh.ofOwns ho2)
            clear hg2 hne ho2
            obtain ⟨ao2, cap2, rfl, -⟩ := HO2.out
            refine hK.out _ _ ?k8x18 (fun hS => ?s8x18)
            case k8x18 => exact trivial
            clear hK K
            try simp only [Act.put, sA, sB, sC]
            refine tkH (i := 9) (v := ?v9x19) (y := Or.inl ⟨by rfl, ?y9x19⟩) (s := hS) (h := ?r9x19)
            case y9x19 => (intro w' hSw; (try dsimp only at hSw); go_simp; (try with_reducible rfl))
            simp only [Act.put, sA, sB, sC]
            refine rdH (i := 10) (h := fun K hK => ?_)
            refine wpo_layR rowW (.tmp 41) rfl (.agg #[.int .i64 (k : Int), .slice ao2 ([] ++ b).length cap2]) rfl rfl ?_
            intro w3 hb3 hc3
            have HB3 : Hid (Below w1.heap.size w1 w3) := hid (th HB2.out hb3)
            have HS3 : Hid (SS w3 (fun k => w1.heap.size ≤ k ∧ k < w3.heap.size) (.slice ao2 ([] ++ b).length cap2) b) := hid (((SS.fresh HO2.out).keep (Keep.ofBelow (F := fun _ => False) hb3) (fun _ _ => id)).mono fun k hk => ⟨hk.1, Nat.lt_of_lt_of_le hk.2 hb3.size⟩)
            have HC3 := hid hc3
            clear hb3 hc3
            refine hK.out _ _ ?k10x20 (fun hS => ?s10x20)
            case k10x20 => exact trivial
            clear hK K
            try simp only [Act.put, sA, sB, sC]
            refine rdH (i := 11) (h := fun K hK => ?_)
            refine wpo_appendR rowW (.tmp 36) (.tmp 42) rfl 0 (.slice aW d.loose.length cW) d.loose.length vsW rfl (H1.out.below HB3.out).oW w2.heap.size rfl _ HC3.out rfl (by intro u hu; simp [Value.cells] at hu; rcases hu with rfl | rfl <;> rfl) hlo (Nat.zero_le _) ?_
            intro v4 w4 ho4 hg4 hw4
            obtain ⟨ao4, c4, rfl⟩ := own_slice ho4
            have HE := hid (H1.out.appended HB3.out k HS3.out ho4 hg4 hw4)
            have HD4 := hid (((H1.out.below HB3.out).hd).keep ((Keep.refl (fun k => (Value.slice aW d.loose.length cW).ownBlock = some k) w3).grown hg4 (fun k hk _ => hk)) (fun e => (H1.out.fW _ e).2.2 rfl))
            clear ho4 hg4 hw4
            refine hK.out _ _ ?k11x21 (fun hS => ?s11x21)
            case k11x21 => exact trivial
            clear hK K
            try simp only [Act.put, sA, sB, sC]
            refine tkH (i := 12) (v := ?v12x22) (y := Or.inl ⟨by rfl, ?y12x22⟩) (s := hS) (h := ?r12x22)
            case y12x22 => (intro w' hSw; (try dsimp only at hSw); go_simp; (try with_reducible rfl))
            simp only [Act.put, sA, sB, sC]
            refine tkH (i := 13) (v := ?v13x23) (y := Or.inl ⟨by rfl, ?y13x23⟩) (s := hS) (h := ?r13x23)
            case y13x23 => (intro w' hSw; (try dsimp only at hSw); go_simp; (try with_reducible rfl))
            simp only [Act.put, sA, sB, sC]
            refine rdH (i := 14) (h := fun K hK => ?_)
            have hc4 := HD4.out.cell (j := 1) rfl
            have hf4 := HD4.out.free 1
            go_simp
            refine hK.out _ _ ?k14x24 (fun hS => ?s14x24)
            case k14x24 => exact trivial
            clear hK K
            try simp only [Act.put]
            refine wpAnyH_done (by kernel_rfl) ?_ _
            clear hS
            go_wp2
            go_ret
            obtain ⟨he, hke⟩ := HE.out
            exact ⟨rfl, ⟨by rw [through_img']; exact ok_loose HO.out hk H64.out, _, _, _, _, _, _, _, by rw [through_img']; exact (he.mono (fun j hj => hj.imp id fun hj => ⟨Nat.le_trans HK.out.size hj.1, by simpa using hj.2⟩)), HF1.out⟩, HK.out.trans hke⟩
          · refine wpo_append (.tmp 38) (.tmp 39) rfl w1.heap.size _ 0 [] b rfl (owns_empty w1.drew) bo 64 c rfl H64.out.symm ((HB1.out.below (Below.refl _ _).drew).below ((Below.refl _ _).alloc (Nat.le_refl _) _)) (by omega) (by simp) ?_
            intro v2 w2 ho2 hg2 hne
            have HB2 : Hid (Below w1.heap.size w1 w2) := hid (below_grown (((Below.refl _ _).drew).alloc (Nat.le_refl _) _) (owns_empty w1.drew) hg2 (Nat.le_refl _))
            have HO2 := hid (Fresh.ofOwns ho2)
            clear hg2 hne ho2
            obtain ⟨ao2, cap2, rfl, -⟩ := HO2.out
            refine hK.out _ _ ?k8x25 (fun hS => ?s8x25)
            case k8x25 => exact trivial
            clear hK K
            try simp only [Act.put, sA, sB, sC]
            refine tkH (i := 9) (v := ?v9x26) (y := Or.inl ⟨by rfl, ?y9x26⟩) (s := hS) (h := ?r9x26)
            case y9x26 => (intro w' hSw; (try dsimp only at hSw); go_simp; (try with_reducible rfl))
            simp only [Act.put, sA, sB, sC]
            refine wpAnyH_ready (rs := [4, 10]) (by kernel_rfl) (by simp) ?_
            refine AllReadyH.cons (by simp only [List.getElem?_toArray, List.getElem?_cons_zero, List.getElem?_cons_succ]; exact rfl) (fun K hK => ?_) (AllReadyH.cons (by simp only [List.getElem?_toArray, List.getElem?_cons_zero, List.getElem?_cons_succ]; exact rfl) (fun K hK => ?_) AllReadyH.nil)
            · have hc1 := H1.out.hd.cell (j := 1) rfl
              have hca := alc hc1
              try have hc2 := (H1.out.below HB2.out).hd.cell (j := 1) rfl
              try have hc3 := (H1.out.below HB3.out).hd.cell (j := 1) rfl
              go_simp
              clear hca
              refine hK.out _ _ ?k4x27 (fun hS => ?s4x27)
              case k4x27 => exact trivial
              clear hK K
              try simp only [Act.put, sA, sB, sC]
              refine rdH (i := 10) (h := fun K hK => ?_)
              refine wpo_layR rowW (.tmp 41) rfl (.agg #[.int .i64 (k : Int), .slice ao2 ([] ++ b).length cap2]) rfl rfl ?_
              intro w3 hb3 hc3
              have HB3 : Hid (Below w1.heap.size w1 w3) := hid (th HB2.out hb3)
              have HS3 : Hid (SS w3 (fun k => w1.heap.size ≤ k ∧ k < w3.heap.size) (.slice ao2 ([] ++ b).length cap2) b) := hid (((SS.fresh HO2.out).keep (Keep.ofBelow (F := fun _ => False) hb3) (fun _ _ => id)).mono fun k hk => ⟨hk.1, Nat.lt_of_lt_of_le hk.2 hb3.size⟩)
              have HC3 := hid hc3
              clear hb3 hc3
              refine hK.out _ _ ?k10x28 (fun hS => ?s10x28)
              case k10x28 => exact trivial
              clear hK K
              try simp only [Act.put, sA, sB, sC]
              refine rdH (i := 11) (h := fun K hK => ?_)
              refine wpo_appendR rowW (.tmp 36) (.tmp 42) rfl 0 (.slice aW d.loose.length cW) d.loose.length vsW rfl (H1.out.below HB3.out).oW w2.heap.size rfl _ HC3.out rfl (by intro u hu; simp [Value.cells] at hu; rcases hu with rfl | rfl <;> rfl) hlo (Nat.zero_le _) ?_
              intro v4 w4 ho4 hg4 hw4
              obtain ⟨ao4, c4, rfl⟩ := own_slice ho4
              have HE := hid (H1.out.appended HB3.out k HS3.out ho4 hg4 hw4)
              have HD4 := hid (((H1.out.below HB3.out).hd).keep ((Keep.refl (fun k => (Value.slice aW d.loose.length cW).ownBlock = some k) w3).grown hg4 (fun k hk _ => hk)) (fun e => (H1.out.fW _ e).2.2 rfl))
              clear ho4 hg4 hw4
              refine hK.out _ _ ?k11x29 (fun hS => ?s11x29)
              case k11x29 => exact trivial
              clear hK K
              try simp only [Act.put, sA, sB, sC]
              refine tkH (i := 12) (v := ?v12x30) (y := Or.inl ⟨by rfl, ?y12x30⟩) (s := hS) (h := ?r12x30)
              case y12x30 => (intro w' hSw; (try dsimp only at hSw); go_simp; (try with_reducible rfl))
              simp only [Act.put, sA, sB, sC]
              refine tkH (i := 13) (v := ?v13x31) (y := Or.inl ⟨by rfl, ?y13x31⟩) (s := hS) (h := ?r13x31)
              case y13x31 => (intro w' hSw; (try dsimp only at hSw); go_simp; (try with_reducible rfl))
              simp only [Act.put, sA, sB, sC]
              refine rdH (i := 14) (h := fun K hK => ?_)
              have hc4 := HD4.out.cell (j := 1) rfl
              have hf4 := HD4.out.free 1
              go_simp
              refine hK.out _ _ ?k14x32 (fun hS => ?s14x32)
              case k14x32 => exact trivial
              clear hK K
              try simp only [Act.put]
              refine wpAnyH_done (by kernel_rfl) ?_ _
              clear hS
              go_wp2
              go_ret
              obtain ⟨he, hke⟩ := HE.out
              exact ⟨rfl, ⟨by rw [through_img']; exact ok_loose HO.out hk H64.out, _, _, _, _, _, _, _, by rw [through_img']; exact (he.mono (fun j hj => hj.imp id fun hj => ⟨Nat.le_trans HK.out.size hj.1, by simpa using hj.2⟩)), HF1.out⟩, HK.out.trans hke⟩
            · refine wpo_layR rowW (.tmp 41) rfl (.agg #[.int .i64 (k : Int), .slice ao2 ([] ++ b).length cap2]) rfl rfl ?_
              intro w3 hb3 hc3
              have HB3 : Hid (Below w1.heap.size w1 w3) := hid (th HB2.out hb3)
              have HS3 : Hid (SS w3 (fun k => w1.heap.size ≤ k ∧ k < w3.heap.size) (.slice ao2 ([] ++ b).length cap2) b) := hid (((SS.fresh HO2.out).keep (Keep.ofBelow (F := fun _ => False) hb3) (fun _ _ => id)).mono fun k hk => ⟨hk.1, Nat.lt_of_lt_of_le hk.2 hb3.size⟩)
              have HC3 := hid hc3
              clear hb3 hc3
              refine hK.out _ _ ?k10x33 (fun hS => ?s10x33)
              case k10x33 => exact trivial
              clear hK K
              try simp only [Act.put, sA, sB, sC]
              refine rdH (i := 4) (h := fun K hK => ?_)
              have hc1 := H1.out.hd.cell (j := 1) rfl
              have hca := alc hc1
              try have hc2 := (H1.out.below HB2.out).hd.cell (j := 1) rfl
              try have hc3 := (H1.out.below HB3.out).hd.cell (j := 1) rfl
              go_simp
              clear hca
              refine hK.out _ _ ?k4x34 (fun hS => ?s4x34)
              case k4x34 => exact trivial
              clear hK K
              try simp only [Act.put, sA, sB, sC]
              refine rdH (i := 11) (h := fun K hK => ?_)
              refine wpo_appendR rowW (.tmp 36) (.tmp 42) rfl 0 (.slice aW d.loose.length cW) d.loose.length vsW rfl (H1.out.below HB3.out).oW w2.heap.size rfl _ HC3.out rfl (by intro u hu; simp [Value.cells] at hu; rcases hu with rfl | rfl <;> rfl) hlo (Nat.zero_le _) ?_
              intro v4 w4 ho4 hg4 hw4
              obtain ⟨ao4, c4, rfl⟩ := own_slice ho4
              have HE := hid (H1.out.appended HB3.out k HS3.out ho4 hg4 hw4)
              have HD4 := hid (((H1.out.below HB3.out).hd).keep ((Keep.refl (fun k => (Value.slice aW d.loose.length cW).ownBlock = some k) w3).grown hg4 (fun k hk _ => hk)) (fun e => (H1.out.fW _ e).2.2 rfl))
              clear ho4 hg4 hw4
              refine hK.out _ _ ?k11x35 (fun hS => ?s11x35)
              case k11x35 => exact trivial
              clear hK K
              try simp only [Act.put, sA, sB, sC]
              refine tkH (i := 12) (v := ?v12x36) (y := Or.inl ⟨by rfl, ?y12x36⟩) (s := hS) (h := ?r12x36)
              case y12x36 => (intro w' hSw; (try dsimp only at hSw); go_simp; (try with_reducible rfl))
              simp only [Act.put, sA, sB, sC]
              refine tkH (i := 13) (v := ?v13x37) (y := Or.inl ⟨by rfl, ?y13x37⟩) (s := hS) (h := ?r13x37)
              case y13x37 => (intro w' hSw; (try dsimp only at hSw); go_simp; (try with_reducible rfl))
              simp only [Act.put, sA, sB, sC]
              refine rdH (i := 14) (h := fun K hK => ?_)
              have hc4 := HD4.out.cell (j := 1) rfl
              have hf4 := HD4.out.free 1
              go_simp
              refine hK.out _ _ ?k14x38 (fun hS => ?s14x38)
              case k14x38 => exact trivial
              clear hK K
              try simp only [Act.put]
              refine wpAnyH_done (by kernel_rfl) ?_ _
              clear hS
              go_wp2
              go_ret
              obtain ⟨he, hke⟩ := HE.out
              exact ⟨rfl, ⟨by rw [through_img']; exact ok_loose HO.out hk H64.out, _, _, _, _, _, _, _, by rw [through_img']; exact (he.mono (fun j hj => hj.imp id fun hj => ⟨Nat.le_trans HK.out.size hj.1, by simpa using hj.2⟩)), HF1.out⟩, HK.out.trans hke⟩
    · have hs : d.write k b = (2, d) := by unfold Dev.write; rw [hout]; simp [hh, h64]
      rw [hs]
      have hn64 : n ≠ 64 := by omega
      clear h hf hs hout ho hh h64 hn
      unfold ptr
      go_enter Tryz.func14, Tryz.ntmps14
      go_wp2
      go_ret
      exact ⟨rfl, HD.out.mono fun _ => .inl, Keep.refl _ _⟩
  all_goals
    have hs : d.write i b = (3, d) := by unfold Dev.write; rw [hout]; simp [hh]
    rw [hs]
    clear h hf hs hout ho hh hn
    unfold ptr
    go_enter Tryz.func14, Tryz.ntmps14
    go_wp2
    go_ret
    exact ⟨rfl, HD.out.mono fun _ => .inl, Keep.refl _ _⟩
set_option maxRecDepth 100000 in
set_option maxHeartbeats 1000000 in
theorem flushR_any {a : Nat} {F : Nat → Prop} {d : Dev} (w : World) (hlo : d.loose.length ≤ 1073741824) (h : RD w a F d) :
    Calls Tryz.prog 17 #[ptr a] w fun e w' => e = .returned (.int .i64 d.flush.1) ∧ RD w' a F d.flush.2 ∧ Keep F w w' := by
  have HD := hid h
  obtain ⟨ho, vL, vW, vsL, vsW, fused, fuse, Fb, h, hf⟩ := h
  obtain ⟨⟨aL, cL, rfl⟩, aW, cW, rfl⟩ := h.row
  have c4 := h.hd.cell (j := 4) rfl
  have H := hid h
  have HO := hid ho
  have HF := hid hf
  have hpos := ho.pos
  obtain ⟨g, rfl, -⟩ := own_cell h.oL (by omega)
  cases hout : d.out
  rotate_left
  · have hs : d.flush = (22, d) := by unfold Dev.flush; rw [hout]; rfl
    rw [hs]
    rw [hout] at c4
    clear h hf hs hout ho
    unfold ptr
    go_enter Tryz.func17, Tryz.ntmps17
    go_wp2
    go_ret
    exact ⟨rfl, HD.out, Keep.refl _ _⟩
  have hlen := ho.len
  rw [hout] at c4
  have HOUT := hid hout
  cases ht : d.through.1
  · have hs : d.flush = (22, d.through.2) := by unfold Dev.flush; rw [hout]; simp [ht]
    rw [hs]
    have HT := hid ht
    clear h hf hs hout ho ht
    unfold ptr
    go_enter Tryz.func17, Tryz.ntmps17
    go_wp2_with fail
    refine (throughR_any w H.out HF.out HOUT.out).mono ?_
    rintro e w1 ⟨rfl, ⟨fuse', h1, hf1⟩, hk1⟩
    rw [HT.out]
    have HE : Hid (RD w1 a F d.through.2) := hid ⟨ok_through HO.out, _, _, _, _, _, _, _, by rw [through_img, through_loose]; exact h1, hf1⟩
    have HK := hid (hk1.mono (G := F) fun k _ e => by rw [e]; exact H.out.fa)
    clear h1 hf1 hk1
    go_wp2
    go_ret
    exact ⟨rfl, HE.out, HK.out⟩
  · have hs : d.flush = (0, { img := d.now, loose := [], fuse := d.through.2.fuse, out := d.through.2.out }) := by unfold Dev.flush; rw [hout]; simp [ht]
    rw [hs]
    have HT := hid ht
    clear h hf hs hout ho ht
    unfold ptr
    go_enter Tryz.func17, Tryz.ntmps17
    go_wp2_with fail
    refine (throughR_any w H.out HF.out HOUT.out).mono ?_
    rintro e w1 ⟨rfl, ⟨fuse', h1, hf1⟩, hk1⟩
    rw [HT.out]
    have H1 := hid h1; have HF1 := hid hf1
    have HK := hid (hk1.mono (G := F) fun k _ e => by rw [e]; exact H.out.fa)
    have HFG := hid (H.out.fL g rfl).1
    have HFA := hid H.out.fa
    clear h1 hf1 hk1
    go_wp2_with fail
    go_loopw [3] (fun i wr => ∃ (k : Nat) (L : List (List UInt8)) (vs : List Value), k ≤ d.loose.length ∧ i = .int .i64 k ∧ laidOver d.img (d.loose.take k) = L ∧ RR wr a (.slice (some ⟨g, 0, none⟩) d.img.length cL) (.slice aW d.loose.length cW) vs vsW fused fuse' F Fb L d.loose d.through.2.out ∧ Keep F w wr) (fun i _ => d.loose.length - (intOf i).toNat)
    case atStart => exact ⟨0, d.img, vsL, Nat.zero_le _, rfl, rfl, H1.out, HK.out⟩
    case round =>
      obtain ⟨k, L, vs, hk, rfl, hL, hr, hkk⟩ := hrel
      have HLL : Hid (d.img.length = L.length) := hid (by rw [← hL, laid_len])
      have HL := hid hL; have HR := hid hr; have HK := hid hkk
      have c1 := hr.hd.cell (j := 1) rfl
      have c0 := hr.hd.cell (j := 0) rfl
      clear hL hr hkk
      by_cases hlt : k < d.loose.length
      · obtain ⟨x, hx⟩ : ∃ x, d.loose[k]? = some x := ⟨_, List.getElem?_eq_getElem hlt⟩
        obtain ⟨gw, rfl, _, ca, u, cb, hss⟩ := HR.out.wr rfl hx
        have HSS := hid hss
        obtain ⟨ao, cap, rfl, hcap, hsb, -⟩ := hss
        have hx64 := HO.out.lo x (List.mem_of_getElem? hx)
        have HX := hid hx; have H64 := hid hx64.2
        rw [hx64.2] at cb HSS
        have hxl := hx64.1
        have hoL := HR.out.oL
        rw [← HLL.out] at hoL
        obtain ⟨_, hg, _, _, _, hcl, hfl⟩ := own_cell hoL (by omega)
        injection hg with hg; injection hg with hg; subst hg
        clear hoL
        obtain ⟨v0, hv0⟩ : ∃ v, vs[x.1]? = some v := ⟨_, List.getElem?_eq_getElem (by rw [HR.out.rL.1, ← HLL.out]; exact hxl)⟩
        have cg := hcl _ _ hv0
        have fg := hfl x.1
        have HN1 : Hid (∀ j, (⟨g, x.1, none⟩ : Addr) ≠ ⟨a, j, none⟩) := hid (by intro j e; injection e with e; exact (HR.out.fL g rfl).2.2 e)
        have HN2 : Hid (∀ j, (⟨g, x.1, none⟩ : Addr) ≠ ⟨gw, j, none⟩) := hid (by intro j e; injection e with e; exact HR.out.LW g rfl (by rw [e]; rfl))
        clear hx hsb hx64 hcap hcl hfl hv0
        go_wp2_with fail
        refine wp_region_held_drew (S := fun w' => w'.cell? ⟨a, 0, none⟩ = some (.slice (some ⟨g, 0, none⟩) d.img.length cL) ∧ w'.cell? ⟨a, 1, none⟩ = some (.slice (some ⟨gw, 0, none⟩) d.loose.length cW) ∧ w'.cell? ⟨gw, k * 2, none⟩ = some (.int .i64 (x.1 : Int)) ∧ w'.cell? ⟨gw, k * 2 + 1, none⟩ = some (.slice ao 64 cap)) (by kernel_rfl) ⟨c0, c1, ca, cb⟩ (fun hS => ?_)
        refine tkH (i := 0) (v := ?v0x1) (y := Or.inl ⟨by rfl, ?y0x1⟩) (s := hS) (h := ?r0x1)
        case y0x1 => (intro w' hSw; (try dsimp only at hSw); go_simp; (try with_reducible rfl))
        simp only [Act.put, sA, sB, sC]
        refine tkH (i := 1) (v := ?v1x2) (y := Or.inl ⟨by rfl, ?y1x2⟩) (s := hS) (h := ?r1x2)
        case y1x2 => (intro w' hSw; (try dsimp only at hSw); go_simp; (try with_reducible rfl))
        simp only [Act.put, sA, sB, sC]
        refine tkH (i := 2) (v := ?v2x3) (y := Or.inl ⟨by rfl, ?y2x3⟩) (s := hS) (h := ?r2x3)
        case y2x3 => (intro w' hSw; (try dsimp only at hSw); go_simp; (try with_reducible rfl))
        simp only [Act.put, sA, sB, sC]
        refine tkH (i := 3) (v := ?v3x4) (y := Or.inl ⟨by rfl, ?y3x4⟩) (s := hS) (h := ?r3x4)
        case y3x4 => (intro w' hSw; (try dsimp only at hSw); go_simp; (try with_reducible rfl))
        simp only [Act.put, sA, sB, sC]
        refine tkH (i := 4) (v := ?v4x5) (y := Or.inl ⟨by rfl, ?y4x5⟩) (s := hS) (h := ?r4x5)
        case y4x5 => (intro w' hSw; (try dsimp only at hSw); go_simp; (try with_reducible rfl))
        simp only [Act.put, sA, sB, sC]
        refine tkH (i := 5) (v := ?v5x6) (y := Or.inl ⟨by rfl, ?y5x6⟩) (s := hS) (h := ?r5x6)
        case y5x6 => (intro w' hSw; (try dsimp only at hSw); go_simp; (try with_reducible rfl))
        simp only [Act.put, sA, sB, sC]
        refine tkH (i := 6) (v := ?v6x7) (y := Or.inl ⟨by rfl, ?y6x7⟩) (s := hS) (h := ?r6x7)
        case y6x7 => (intro w' hSw; (try dsimp only at hSw); go_simp; (try with_reducible rfl))
        simp only [Act.put, sA, sB, sC]
        refine tkH (i := 7) (v := ?v7x8) (y := Or.inl ⟨by rfl, ?y7x8⟩) (s := hS) (h := ?r7x8)
        case y7x8 => (intro w' hSw; (try dsimp only at hSw); go_simp; (try with_reducible rfl))
        simp only [Act.put, sA, sB, sC]
        refine tkH (i := 8) (v := ?v8x9) (y := Or.inl ⟨by rfl, ?y8x9⟩) (s := hS) (h := ?r8x9)
        case y8x9 => (intro w' hSw; (try dsimp only at hSw); go_simp; (try with_reducible rfl))
        simp only [Act.put, sA, sB, sC]
        refine tkH (i := 9) (v := ?v9x10) (y := Or.inl ⟨by rfl, ?y9x10⟩) (s := hS) (h := ?r9x10)
        case y9x10 => (intro w' hSw; (try dsimp only at hSw); go_simp; (try with_reducible rfl))
        simp only [Act.put, sA, sB, sC]
        refine tkH (i := 10) (v := ?v10x11) (y := Or.inl ⟨by rfl, ?y10x11⟩) (s := hS) (h := ?r10x11)
        case y10x11 => (intro w' hSw; (try dsimp only at hSw); go_simp; (try with_reducible rfl))
        simp only [Act.put, sA, sB, sC]
        refine tkH (i := 11) (v := ?v11x12) (y := Or.inl ⟨by rfl, ?y11x12⟩) (s := hS) (h := ?r11x12)
        case y11x12 => (intro w' hSw; (try dsimp only at hSw); go_simp; (try with_reducible rfl))
        simp only [Act.put, sA, sB, sC]
        refine tkH (i := 12) (v := ?v12x13) (y := Or.inl ⟨by rfl, ?y12x13⟩) (s := hS) (h := ?r12x13)
        case y12x13 => (intro w' hSw; (try dsimp only at hSw); go_simp; (try with_reducible rfl))
        simp only [Act.put, sA, sB, sC]
        refine tkH (i := 13) (v := ?v13x14) (y := Or.inl ⟨by rfl, ?y13x14⟩) (s := hS) (h := ?r13x14)
        case y13x14 => (intro w' hSw; (try dsimp only at hSw); go_simp; (try with_reducible rfl))
        simp only [Act.put, sA, sB, sC]
        refine tkH (i := 14) (v := ?v14x15) (y := Or.inl ⟨by rfl, ?y14x15⟩) (s := hS) (h := ?r14x15)
        case y14x15 => (intro w' hSw; (try dsimp only at hSw); go_simp; (try with_reducible rfl))
        simp only [Act.put, sA, sB, sC]
        refine tkH (i := 15) (v := ?v15x16) (y := Or.inl ⟨by rfl, ?y15x16⟩) (s := hS) (h := ?r15x16)
        case y15x16 => (intro w' hSw; (try dsimp only at hSw); go_simp; (try with_reducible rfl))
        simp only [Act.put, sA, sB, sC]
        refine tkH (i := 16) (v := ?v16x17) (y := Or.inl ⟨by rfl, ?y16x17⟩) (s := hS) (h := ?r16x17)
        case y16x17 => (intro w' hSw; (try dsimp only at hSw); go_simp; (try with_reducible rfl))
        simp only [Act.put, sA, sB, sC]
        refine tkH (i := 17) (v := ?v17x18) (y := Or.inl ⟨by rfl, ?y17x18⟩) (s := hS) (h := ?r17x18)
        case y17x18 => (intro w' hSw; (try dsimp only at hSw); go_simp; (try with_reducible rfl))
        simp only [Act.put, sA, sB, sC]
        refine tkH (i := 18) (v := ?v18x19) (y := Or.inl ⟨by rfl, ?y18x19⟩) (s := hS) (h := ?r18x19)
        case y18x19 => (intro w' hSw; (try dsimp only at hSw); go_simp; (try with_reducible rfl))
        simp only [Act.put, sA, sB, sC]
        refine tkH (i := 19) (v := ?v19x20) (y := Or.inl ⟨by rfl, ?y19x20⟩) (s := hS) (h := ?r19x20)
        case y19x20 => (intro w' hSw; (try dsimp only at hSw); go_simp; (try with_reducible rfl))
        simp only [Act.put, sA, sB, sC]
        refine tkH (i := 20) (v := ?v20x21) (y := Or.inl ⟨by rfl, ?y20x21⟩) (s := hS) (h := ?r20x21)
        case y20x21 => (intro w' hSw; (try dsimp only at hSw); go_simp; (try with_reducible rfl))
        simp only [Act.put, sA, sB, sC]
        refine rdH (i := 21) (h := fun K hK => ?_)
        go_simp
        refine hK.out _ _ ?k21x22 (fun hS => ?s21x22)
        case k21x22 => exact ⟨(World.cell?_setCell_other wr _ _ _ (HN1.out 0)).trans hS.1, (World.cell?_setCell_other wr _ _ _ (HN1.out 1)).trans hS.2.1, (World.cell?_setCell_other wr _ _ _ (HN2.out _)).trans hS.2.2.1, (World.cell?_setCell_other wr _ _ _ (HN2.out _)).trans hS.2.2.2⟩
        clear hK K
        try simp only [Act.put]
        refine wpAnyH_done (by kernel_rfl) ?_ _
        clear hS
        go_wp2
        go_roundw
        case rel => exact ⟨k + 1, L.set x.1 x.2, _, by omega, by go_num, by rw [laid_take _ _ _ HX.out, HL.out], (HR.out.setL HLL.out x.1 HSS.out).drew, (Keep.setCell (p := ⟨g, x.1, none⟩) HK.out HFG.out _).drew⟩
        case measure => simp [intOf]; omega
      · have hk9 : k = d.loose.length := by omega
        have HNOW : Hid (L = d.now) := hid (by rw [← HL.out, hk9, List.take_of_length_le (Nat.le_refl _)]; rfl)
        have f1 := HR.out.hd.free 1
        go_wp2
        go_ret
        have hka : Keep (fun k => k = a) wr (wr.setCell ⟨a, 1, none⟩ (.slice none 0 0)) := (Keep.refl (fun k => k = a) wr).setCell (p := ⟨a, 1, none⟩) rfl _
        exact ⟨rfl, ⟨ok_flushed HO.out, _, _, _, _, _, _, _, by rw [← HNOW.out]; exact HR.out.cleared hka (HR.out.hd.set 1 _), HF1.out⟩, HK.out.trans (hka.mono fun k _ e => by rw [e]; exact HFA.out)⟩
end Go.Proofs.YtlondopgibcikaaGreat
