/- The walks of the document's device: New. (Printed by wip/ref5.py.) -/
import Derived.Test.YtlondopgibcikaaRows
import Derived.Test.YtlondopgibcikaaHeap
import Derived.Test.YtlondopgibcikaaKit
import Derived.Test.YtlondopgibcikaaDev
import Derived.Test.YtlondopgibcikaaDevW
import Derived.Test.YtlondopgibcikaaDevV
import Derived.Test.YtlondopgibcikaaDevU
import Derived.Test.YtlondopgibcikaaDevT
import Derived.Test.YtlondopgibcikaaDevC
import Derived.Test.YtlondopgibcikaaLaw05
import Derived.Test.YtlondopgibcikaaLL
import Derived.Test.YtlondopgibcikaaRef5
import Derived.Test.YtlondopgibcikaaRef5b
import Derived.WalkKit
import Derived.WalkSpells
import Derived.WalkLawsBesides
import Derived.Deep.RegionHeld3
namespace Go.Proofs.Ytlondopgibcikaa
open Go.RowKit Ent

set_option maxRecDepth 100000 in
set_option maxHeartbeats 1000000 in
theorem newR_bad (n : Int) (hn : n < 1 ∨ 65536 < n) (w : World) :
    Calls Try.prog 53 #[.int .i64 n] w fun e w' => e = .returned (.tuple #[.pointer none, .int .i64 3]) ∧ w' = w := by
  by_cases h1 : n < 1
  all_goals
    (try have h2 : 65536 < n := by omega)
    go_enter Try.func53, Try.ntmps53
    go_wp2
    go_ret2
    exact ⟨rfl, rfl⟩
set_option maxRecDepth 100000 in
set_option maxHeartbeats 1000000 in
theorem newR_any (n : Nat) (hn1 : 1 ≤ n) (hn2 : n ≤ 65536) (w : World) :
    Calls Try.prog 53 #[.int .i64 n] w fun e w' => ∃ a, e = .returned (.tuple #[ptr a, .int .i64 0]) ∧ RD w' a (fun k => w.heap.size ≤ k ∧ k < w'.heap.size) (Dev.new n) ∧ Below w.heap.size w w' := by
  go_enter Try.func53, Try.ntmps53
  go_wp2_with fail
  go_loopw [5] (fun i wr => ∃ (k : Nat) (aL : Option Addr) (cL : Nat) (vs : List Value) (Fb : Nat → Prop), k ≤ n ∧ i = .int .i64 k ∧ RR wr w.heap.size (.slice aL k cL) (.slice none 0 0) vs [] false 0 (fun j => w.heap.size ≤ j ∧ j < wr.heap.size) Fb (List.replicate k (List.replicate 64 0)) [] false ∧ Below w.heap.size w wr) (fun i _ => n - (intOf i).toNat)
  case atStart => exact ⟨0, none, 0, [], _, Nat.zero_le _, rfl, RR.fresh w, (Below.refl _ _).alloc (Nat.le_refl _) _⟩
  case round =>
    obtain ⟨k, aL, cL, vs, Fb, hk, rfl, hr, hb⟩ := hrel
    have HR := hid hr; have HB := hid hb
    clear hr hb
    by_cases hlt : k < n
    · go_wp2_with fail
      refine wp_region_held_drew (S := fun _ => True) (by kernel_rfl) trivial (fun hS => ?_)
      refine wpAnyH_take (i := 0) (v := ?v0x1) (by simp only [List.getElem?_toArray, List.getElem?_cons_zero]; exact rfl) (by kernel_rfl) (by kernel_rfl) (by kernel_rfl) (by exact fun _ _ _ h => h) (Or.inl ⟨by rfl, ?y0x1⟩) hS ?r0x1
      case y0x1 => (intro w' hSw; (try dsimp only at hSw); go_simp; (try with_reducible rfl))
      simp only [Act.put, List.setIfInBounds_toArray, List.set_cons_zero, List.set_cons_succ]
      refine wpAnyH_take (i := 1) (v := ?v1x2) (by simp only [List.getElem?_toArray, List.getElem?_cons_zero, List.getElem?_cons_succ]; exact rfl) (by kernel_rfl) (by kernel_rfl) (by kernel_rfl) (by exact fun _ _ _ h => h) (Or.inl ⟨by rfl, ?y1x2⟩) hS ?r1x2
      case y1x2 => (intro w' hSw; (try dsimp only at hSw); go_simp; (try with_reducible rfl))
      simp only [Act.put, List.setIfInBounds_toArray, List.set_cons_zero, List.set_cons_succ]
      refine wpAnyH_take (i := 2) (v := ?v2x3) (by simp only [List.getElem?_toArray, List.getElem?_cons_zero, List.getElem?_cons_succ]; exact rfl) (by kernel_rfl) (by kernel_rfl) (by kernel_rfl) (by exact fun _ _ _ h => h) (Or.inl ⟨by rfl, ?y2x3⟩) hS ?r2x3
      case y2x3 => (intro w' hSw; (try dsimp only at hSw); go_simp; (try with_reducible rfl))
      simp only [Act.put, List.setIfInBounds_toArray, List.set_cons_zero, List.set_cons_succ]
      refine wpAnyH_take (i := 3) (v := ?v3x4) (by simp only [List.getElem?_toArray, List.getElem?_cons_zero, List.getElem?_cons_succ]; exact rfl) (by kernel_rfl) (by kernel_rfl) (by kernel_rfl) (by exact fun _ _ _ h => h) (Or.inl ⟨by rfl, ?y3x4⟩) hS ?r3x4
      case y3x4 => (intro w' hSw; (try dsimp only at hSw); go_simp; (try with_reducible rfl))
      simp only [Act.put, List.setIfInBounds_toArray, List.set_cons_zero, List.set_cons_succ]
      refine wpAnyH_ready (rs := [4, 5]) (by kernel_rfl) (by simp) ?_
      refine AllReadyH.cons (by simp only [List.getElem?_toArray, List.getElem?_cons_zero, List.getElem?_cons_succ]; exact rfl) (fun K hK => ?_) (AllReadyH.cons (by simp only [List.getElem?_toArray, List.getElem?_cons_zero, List.getElem?_cons_succ]; exact rfl) (fun K hK => ?_) AllReadyH.nil)
      · have hc1 := HR.out.hd.cell (j := 0) rfl
        have hca := alc hc1
        try have hc2 := (HR.out.below HB2.out).hd.cell (j := 0) rfl
        try have hc3 := (HR.out.below HB3.out).hd.cell (j := 0) rfl
        go_simp
        clear hca
        refine hK.out _ _ ?k4x5 (fun hS => ?s4x5)
        case k4x5 => exact trivial
        clear hK K
        try simp only [Act.put, List.setIfInBounds_toArray, List.set_cons_zero, List.set_cons_succ]
        refine wpAnyH_ready (rs := [5]) (by kernel_rfl) (by simp) ?_
        refine AllReadyH.cons (by simp only [List.getElem?_toArray, List.getElem?_cons_zero, List.getElem?_cons_succ]; exact rfl) (fun K hK => ?_) AllReadyH.nil
        refine wpo_make (.const (.int .i64 64)) (.const (.int .i64 64)) rfl 64 rfl rfl (by omega) ?_
        intro w2 hb2 hc2
        have HB2 : Hid (Below wr.heap.size wr w2) := hid (((Below.refl _ wr).drew).trans hb2)
        have HC2 : Hid (Blk w2 wr.heap.size 5 (bv (List.replicate 64 0))) := hid hc2
        clear hb2 hc2
        refine hK.out _ _ ?k5x6 (fun hS => ?s5x6)
        case k5x6 => exact trivial
        clear hK K
        try simp only [Act.put, List.setIfInBounds_toArray, List.set_cons_zero, List.set_cons_succ]
        refine wpAnyH_ready (rs := [6]) (by kernel_rfl) (by simp) ?_
        refine AllReadyH.cons (by simp only [List.getElem?_toArray, List.getElem?_cons_zero, List.getElem?_cons_succ]; exact rfl) (fun K hK => ?_) AllReadyH.nil
        refine wpo_layR rowL (.tmp 24) rfl (.slice (some ⟨wr.heap.size, 0, none⟩) 64 64) rfl rfl ?_
        intro w3 hb3 hc3
        have HB3 : Hid (Below wr.heap.size wr w3) := hid (th HB2.out hb3)
        have HS3 : Hid (SS w3 (fun k => wr.heap.size ≤ k ∧ k < w3.heap.size) (.slice (some ⟨wr.heap.size, 0, none⟩) 64 64) (List.replicate 64 0)) := hid (SS.fresh (Fresh.blk (l := List.replicate 64 0) (HC2.out.below hb3 HC2.out.lt) (Nat.le_refl _)))
        have HC3 := hid hc3
        clear hb3 hc3
        refine hK.out _ _ ?k6x7 (fun hS => ?s6x7)
        case k6x7 => exact trivial
        clear hK K
        try simp only [Act.put, List.setIfInBounds_toArray, List.set_cons_zero, List.set_cons_succ]
        refine wpAnyH_ready (rs := [7]) (by kernel_rfl) (by simp) ?_
        refine AllReadyH.cons (by simp only [List.getElem?_toArray, List.getElem?_cons_zero, List.getElem?_cons_succ]; exact rfl) (fun K hK => ?_) AllReadyH.nil
        refine wpo_appendR rowL (.tmp 23) (.tmp 25) rfl 0 (.slice aL k cL) k vs rfl (by have := (HR.out.below HB3.out).oL; rwa [List.length_replicate] at this) w2.heap.size rfl _ HC3.out rfl (by intro u hu; simp [Value.cells] at hu; subst hu; rfl) (by omega) (Nat.zero_le _) ?_
        intro v4 w4 ho4 hg4 hw4
        obtain ⟨ao4, c4, rfl⟩ := own_slice ho4
        have HE := hid (HR.out.appendedL HB3.out HS3.out (by rw [List.length_replicate]; exact ho4) hg4 hw4)
        have HD4 := hid (((HR.out.below HB3.out).hd).keep ((Keep.refl (fun j => (Value.slice aL k cL).ownBlock = some j) w3).grown hg4 (fun k hk _ => hk)) (fun e => (HR.out.fL _ e).2.2 rfl))
        clear ho4 hg4 hw4
        refine hK.out _ _ ?k7x8 (fun hS => ?s7x8)
        case k7x8 => exact trivial
        clear hK K
        try simp only [Act.put, List.setIfInBounds_toArray, List.set_cons_zero, List.set_cons_succ]
        refine wpAnyH_take (i := 8) (v := ?v8x9) (by simp only [List.getElem?_toArray, List.getElem?_cons_zero, List.getElem?_cons_succ]; exact rfl) (by kernel_rfl) (by kernel_rfl) (by kernel_rfl) (by exact fun _ _ _ h => h) (Or.inl ⟨by rfl, ?y8x9⟩) hS ?r8x9
        case y8x9 => (intro w' hSw; (try dsimp only at hSw); go_simp; (try with_reducible rfl))
        simp only [Act.put, List.setIfInBounds_toArray, List.set_cons_zero, List.set_cons_succ]
        refine wpAnyH_take (i := 9) (v := ?v9x10) (by simp only [List.getElem?_toArray, List.getElem?_cons_zero, List.getElem?_cons_succ]; exact rfl) (by kernel_rfl) (by kernel_rfl) (by kernel_rfl) (by exact fun _ _ _ h => h) (Or.inl ⟨by rfl, ?y9x10⟩) hS ?r9x10
        case y9x10 => (intro w' hSw; (try dsimp only at hSw); go_simp; (try with_reducible rfl))
        simp only [Act.put, List.setIfInBounds_toArray, List.set_cons_zero, List.set_cons_succ]
        refine wpAnyH_ready (rs := [10]) (by kernel_rfl) (by simp) ?_
        refine AllReadyH.cons (by simp only [List.getElem?_toArray, List.getElem?_cons_zero, List.getElem?_cons_succ]; exact rfl) (fun K hK => ?_) AllReadyH.nil
        have hc4 := HD4.out.cell (j := 0) rfl
        have hf4 := HD4.out.free 0
        go_simp
        refine hK.out _ _ ?k10x11 (fun hS => ?s10x11)
        case k10x11 => exact trivial
        clear hK K
        try simp only [Act.put]
        refine wpAnyH_done (by kernel_rfl) ?_ _
        clear hS
        go_wp2
        go_roundw
        case rel =>
          obtain ⟨he, hke⟩ := HE.out
          refine ⟨k + 1, ao4, c4, vs ++ [.slice (some ⟨wr.heap.size, 0, none⟩) 64 64], grow Fb wr w3, by omega, by go_num, ?_, ?_⟩
          · rw [show List.replicate (k + 1) (List.replicate 64 (0 : UInt8)) = List.replicate k (List.replicate 64 0) ++ [List.replicate 64 0] by rw [List.replicate_succ']]
            exact he.mono (fun j hj => by
              rcases hj with hj | hj
              · exact ⟨hj.1, Nat.lt_of_lt_of_le hj.2 hke.size⟩
              · exact ⟨by have := HB.out.size; omega, by simpa using hj.2⟩)
          · exact HB.out.trans (hke.belowB HB.out.size (fun j hj hF => by omega))
        case measure => simp [intOf]; omega
      · refine wpo_make (.const (.int .i64 64)) (.const (.int .i64 64)) rfl 64 rfl rfl (by omega) ?_
        intro w2 hb2 hc2
        have HB2 : Hid (Below wr.heap.size wr w2) := hid (((Below.refl _ wr).drew).trans hb2)
        have HC2 : Hid (Blk w2 wr.heap.size 5 (bv (List.replicate 64 0))) := hid hc2
        clear hb2 hc2
        refine hK.out _ _ ?k5x12 (fun hS => ?s5x12)
        case k5x12 => exact trivial
        clear hK K
        try simp only [Act.put, List.setIfInBounds_toArray, List.set_cons_zero, List.set_cons_succ]
        refine wpAnyH_ready (rs := [4, 6]) (by kernel_rfl) (by simp) ?_
        refine AllReadyH.cons (by simp only [List.getElem?_toArray, List.getElem?_cons_zero, List.getElem?_cons_succ]; exact rfl) (fun K hK => ?_) (AllReadyH.cons (by simp only [List.getElem?_toArray, List.getElem?_cons_zero, List.getElem?_cons_succ]; exact rfl) (fun K hK => ?_) AllReadyH.nil)
        · have hc1 := HR.out.hd.cell (j := 0) rfl
          have hca := alc hc1
          try have hc2 := (HR.out.below HB2.out).hd.cell (j := 0) rfl
          try have hc3 := (HR.out.below HB3.out).hd.cell (j := 0) rfl
          go_simp
          clear hca
          refine hK.out _ _ ?k4x13 (fun hS => ?s4x13)
          case k4x13 => exact trivial
          clear hK K
          try simp only [Act.put, List.setIfInBounds_toArray, List.set_cons_zero, List.set_cons_succ]
          refine wpAnyH_ready (rs := [6]) (by kernel_rfl) (by simp) ?_
          refine AllReadyH.cons (by simp only [List.getElem?_toArray, List.getElem?_cons_zero, List.getElem?_cons_succ]; exact rfl) (fun K hK => ?_) AllReadyH.nil
          refine wpo_layR rowL (.tmp 24) rfl (.slice (some ⟨wr.heap.size, 0, none⟩) 64 64) rfl rfl ?_
          intro w3 hb3 hc3
          have HB3 : Hid (Below wr.heap.size wr w3) := hid (th HB2.out hb3)
          have HS3 : Hid (SS w3 (fun k => wr.heap.size ≤ k ∧ k < w3.heap.size) (.slice (some ⟨wr.heap.size, 0, none⟩) 64 64) (List.replicate 64 0)) := hid (SS.fresh (Fresh.blk (l := List.replicate 64 0) (HC2.out.below hb3 HC2.out.lt) (Nat.le_refl _)))
          have HC3 := hid hc3
          clear hb3 hc3
          refine hK.out _ _ ?k6x14 (fun hS => ?s6x14)
          case k6x14 => exact trivial
          clear hK K
          try simp only [Act.put, List.setIfInBounds_toArray, List.set_cons_zero, List.set_cons_succ]
          refine wpAnyH_ready (rs := [7]) (by kernel_rfl) (by simp) ?_
          refine AllReadyH.cons (by simp only [List.getElem?_toArray, List.getElem?_cons_zero, List.getElem?_cons_succ]; exact rfl) (fun K hK => ?_) AllReadyH.nil
          refine wpo_appendR rowL (.tmp 23) (.tmp 25) rfl 0 (.slice aL k cL) k vs rfl (by have := (HR.out.below HB3.out).oL; rwa [List.length_replicate] at this) w2.heap.size rfl _ HC3.out rfl (by intro u hu; simp [Value.cells] at hu; subst hu; rfl) (by omega) (Nat.zero_le _) ?_
          intro v4 w4 ho4 hg4 hw4
          obtain ⟨ao4, c4, rfl⟩ := own_slice ho4
          have HE := hid (HR.out.appendedL HB3.out HS3.out (by rw [List.length_replicate]; exact ho4) hg4 hw4)
          have HD4 := hid (((HR.out.below HB3.out).hd).keep ((Keep.refl (fun j => (Value.slice aL k cL).ownBlock = some j) w3).grown hg4 (fun k hk _ => hk)) (fun e => (HR.out.fL _ e).2.2 rfl))
          clear ho4 hg4 hw4
          refine hK.out _ _ ?k7x15 (fun hS => ?s7x15)
          case k7x15 => exact trivial
          clear hK K
          try simp only [Act.put, List.setIfInBounds_toArray, List.set_cons_zero, List.set_cons_succ]
          refine wpAnyH_take (i := 8) (v := ?v8x16) (by simp only [List.getElem?_toArray, List.getElem?_cons_zero, List.getElem?_cons_succ]; exact rfl) (by kernel_rfl) (by kernel_rfl) (by kernel_rfl) (by exact fun _ _ _ h => h) (Or.inl ⟨by rfl, ?y8x16⟩) hS ?r8x16
          case y8x16 => (intro w' hSw; (try dsimp only at hSw); go_simp; (try with_reducible rfl))
          simp only [Act.put, List.setIfInBounds_toArray, List.set_cons_zero, List.set_cons_succ]
          refine wpAnyH_take (i := 9) (v := ?v9x17) (by simp only [List.getElem?_toArray, List.getElem?_cons_zero, List.getElem?_cons_succ]; exact rfl) (by kernel_rfl) (by kernel_rfl) (by kernel_rfl) (by exact fun _ _ _ h => h) (Or.inl ⟨by rfl, ?y9x17⟩) hS ?r9x17
          case y9x17 => (intro w' hSw; (try dsimp only at hSw); go_simp; (try with_reducible rfl))
          simp only [Act.put, List.setIfInBounds_toArray, List.set_cons_zero, List.set_cons_succ]
          refine wpAnyH_ready (rs := [10]) (by kernel_rfl) (by simp) ?_
          refine AllReadyH.cons (by simp only [List.getElem?_toArray, List.getElem?_cons_zero, List.getElem?_cons_succ]; exact rfl) (fun K hK => ?_) AllReadyH.nil
          have hc4 := HD4.out.cell (j := 0) rfl
          have hf4 := HD4.out.free 0
          go_simp
          refine hK.out _ _ ?k10x18 (fun hS => ?s10x18)
          case k10x18 => exact trivial
          clear hK K
          try simp only [Act.put]
          refine wpAnyH_done (by kernel_rfl) ?_ _
          clear hS
          go_wp2
          go_roundw
          case rel =>
            obtain ⟨he, hke⟩ := HE.out
            refine ⟨k + 1, ao4, c4, vs ++ [.slice (some ⟨wr.heap.size, 0, none⟩) 64 64], grow Fb wr w3, by omega, by go_num, ?_, ?_⟩
            · rw [show List.replicate (k + 1) (List.replicate 64 (0 : UInt8)) = List.replicate k (List.replicate 64 0) ++ [List.replicate 64 0] by rw [List.replicate_succ']]
              exact he.mono (fun j hj => by
                rcases hj with hj | hj
                · exact ⟨hj.1, Nat.lt_of_lt_of_le hj.2 hke.size⟩
                · exact ⟨by have := HB.out.size; omega, by simpa using hj.2⟩)
            · exact HB.out.trans (hke.belowB HB.out.size (fun j hj hF => by omega))
          case measure => simp [intOf]; omega
        · refine wpo_layR rowL (.tmp 24) rfl (.slice (some ⟨wr.heap.size, 0, none⟩) 64 64) rfl rfl ?_
          intro w3 hb3 hc3
          have HB3 : Hid (Below wr.heap.size wr w3) := hid (th HB2.out hb3)
          have HS3 : Hid (SS w3 (fun k => wr.heap.size ≤ k ∧ k < w3.heap.size) (.slice (some ⟨wr.heap.size, 0, none⟩) 64 64) (List.replicate 64 0)) := hid (SS.fresh (Fresh.blk (l := List.replicate 64 0) (HC2.out.below hb3 HC2.out.lt) (Nat.le_refl _)))
          have HC3 := hid hc3
          clear hb3 hc3
          refine hK.out _ _ ?k6x19 (fun hS => ?s6x19)
          case k6x19 => exact trivial
          clear hK K
          try simp only [Act.put, List.setIfInBounds_toArray, List.set_cons_zero, List.set_cons_succ]
          refine wpAnyH_ready (rs := [4]) (by kernel_rfl) (by simp) ?_
          refine AllReadyH.cons (by simp only [List.getElem?_toArray, List.getElem?_cons_zero, List.getElem?_cons_succ]; exact rfl) (fun K hK => ?_) AllReadyH.nil
          have hc1 := HR.out.hd.cell (j := 0) rfl
          have hca := alc hc1
          try have hc2 := (HR.out.below HB2.out).hd.cell (j := 0) rfl
          try have hc3 := (HR.out.below HB3.out).hd.cell (j := 0) rfl
          go_simp
          clear hca
          refine hK.out _ _ ?k4x20 (fun hS => ?s4x20)
          case k4x20 => exact trivial
          clear hK K
          try simp only [Act.put, List.setIfInBounds_toArray, List.set_cons_zero, List.set_cons_succ]
          refine wpAnyH_ready (rs := [7]) (by kernel_rfl) (by simp) ?_
          refine AllReadyH.cons (by simp only [List.getElem?_toArray, List.getElem?_cons_zero, List.getElem?_cons_succ]; exact rfl) (fun K hK => ?_) AllReadyH.nil
          refine wpo_appendR rowL (.tmp 23) (.tmp 25) rfl 0 (.slice aL k cL) k vs rfl (by have := (HR.out.below HB3.out).oL; rwa [List.length_replicate] at this) w2.heap.size rfl _ HC3.out rfl (by intro u hu; simp [Value.cells] at hu; subst hu; rfl) (by omega) (Nat.zero_le _) ?_
          intro v4 w4 ho4 hg4 hw4
          obtain ⟨ao4, c4, rfl⟩ := own_slice ho4
          have HE := hid (HR.out.appendedL HB3.out HS3.out (by rw [List.length_replicate]; exact ho4) hg4 hw4)
          have HD4 := hid (((HR.out.below HB3.out).hd).keep ((Keep.refl (fun j => (Value.slice aL k cL).ownBlock = some j) w3).grown hg4 (fun k hk _ => hk)) (fun e => (HR.out.fL _ e).2.2 rfl))
          clear ho4 hg4 hw4
          refine hK.out _ _ ?k7x21 (fun hS => ?s7x21)
          case k7x21 => exact trivial
          clear hK K
          try simp only [Act.put, List.setIfInBounds_toArray, List.set_cons_zero, List.set_cons_succ]
          refine wpAnyH_take (i := 8) (v := ?v8x22) (by simp only [List.getElem?_toArray, List.getElem?_cons_zero, List.getElem?_cons_succ]; exact rfl) (by kernel_rfl) (by kernel_rfl) (by kernel_rfl) (by exact fun _ _ _ h => h) (Or.inl ⟨by rfl, ?y8x22⟩) hS ?r8x22
          case y8x22 => (intro w' hSw; (try dsimp only at hSw); go_simp; (try with_reducible rfl))
          simp only [Act.put, List.setIfInBounds_toArray, List.set_cons_zero, List.set_cons_succ]
          refine wpAnyH_take (i := 9) (v := ?v9x23) (by simp only [List.getElem?_toArray, List.getElem?_cons_zero, List.getElem?_cons_succ]; exact rfl) (by kernel_rfl) (by kernel_rfl) (by kernel_rfl) (by exact fun _ _ _ h => h) (Or.inl ⟨by rfl, ?y9x23⟩) hS ?r9x23
          case y9x23 => (intro w' hSw; (try dsimp only at hSw); go_simp; (try with_reducible rfl))
          simp only [Act.put, List.setIfInBounds_toArray, List.set_cons_zero, List.set_cons_succ]
          refine wpAnyH_ready (rs := [10]) (by kernel_rfl) (by simp) ?_
          refine AllReadyH.cons (by simp only [List.getElem?_toArray, List.getElem?_cons_zero, List.getElem?_cons_succ]; exact rfl) (fun K hK => ?_) AllReadyH.nil
          have hc4 := HD4.out.cell (j := 0) rfl
          have hf4 := HD4.out.free 0
          go_simp
          refine hK.out _ _ ?k10x24 (fun hS => ?s10x24)
          case k10x24 => exact trivial
          clear hK K
          try simp only [Act.put]
          refine wpAnyH_done (by kernel_rfl) ?_ _
          clear hS
          go_wp2
          go_roundw
          case rel =>
            obtain ⟨he, hke⟩ := HE.out
            refine ⟨k + 1, ao4, c4, vs ++ [.slice (some ⟨wr.heap.size, 0, none⟩) 64 64], grow Fb wr w3, by omega, by go_num, ?_, ?_⟩
            · rw [show List.replicate (k + 1) (List.replicate 64 (0 : UInt8)) = List.replicate k (List.replicate 64 0) ++ [List.replicate 64 0] by rw [List.replicate_succ']]
              exact he.mono (fun j hj => by
                rcases hj with hj | hj
                · exact ⟨hj.1, Nat.lt_of_lt_of_le hj.2 hke.size⟩
                · exact ⟨by have := HB.out.size; omega, by simpa using hj.2⟩)
            · exact HB.out.trans (hke.belowB HB.out.size (fun j hj hF => by omega))
          case measure => simp [intOf]; omega
    · have hk9 : n = k := by omega
      subst hk9
      go_wp2
      go_ret2
      exact ⟨w.heap.size, rfl, ⟨Dev.new_ok hn1 hn2, _, _, _, _, _, _, _, HR.out, .inl ⟨rfl, rfl⟩⟩, HB.out⟩
end Go.Proofs.Ytlondopgibcikaa
