/- The walks of the document's device: New. Calls of the second devices (entrepotref05) among assets. The walk of the log's right. -/
import Derived.Test.YtlondopgibcikaaGreatRows
import Derived.Test.YtlondopgibcikaaGreatG01
import Derived.Test.YtlondopgibcikaaGreatG02
import Derived.Test.YtlondopgibcikaaGreatG03
import Derived.Test.YtlondopgibcikaaGreatG04
import Derived.Test.YtlondopgibcikaaGreatG05
import Derived.Test.YtlondopgibcikaaGreatG06
import Derived.Test.YtlondopgibcikaaGreatG07
import Derived.Test.YtlondopgibcikaaGreatG08
import Derived.Test.YtlondopgibcikaaGreatG09
import Derived.Test.YtlondopgibcikaaGreatG11
import Derived.Test.YtlondopgibcikaaGreatG12
import Derived.WalkKit
import Derived.WalkSpells
import Derived.WalkLawsBesides
import Derived.Deep.RegionHeld3
import Derived.Deep.QuietTactic
import Derived.BigQuiet
namespace Go.Proofs.YtlondopgibcikaaGreat
open Go.RowKit Ent
set_option maxRecDepth 100000 in
set_option maxHeartbeats 1000000 in
theorem newR_any (n : Nat) (hn1 : 1 ≤ n) (hn2 : n ≤ 65536) (w : World) :
    Calls Tryz.prog 9 #[.int .i64 n] w fun e w' => ∃ a, e = .returned (.tuple #[ptr a, .int .i64 0]) ∧ RD w' a (fun k => w.heap.size ≤ k ∧ k < w'.heap.size) (Dev.new n) ∧ Below w.heap.size w w' := by
  go_enter Tryz.func9, Tryz.ntmps9
  go_wp2_with fail
  go_loopw [5] (fun i wr => ∃ (k : Nat) (aL : Option Addr) (cL : Nat) (vs : List Value) (Fb : Nat → Prop), k ≤ n ∧ i = .int .i64 k ∧ RR wr w.heap.size (.slice aL k cL) (.slice none 0 0) vs [] false 0 (fun j => w.heap.size ≤ j ∧ j < wr.heap.size) Fb (List.replicate k (List.replicate 64 0)) [] false ∧ Below w.heap.size w wr) (fun i _ => n - (intOf i).toNat)
  case atStart => exact ⟨0, none, 0, [], _, Nat.zero_le _, rfl, RR.fresh w, (Below.refl _ _).alloc (Nat.le_refl _) _⟩
  case round =>
    obtain ⟨k, aL, cL, vs, Fb, hk, rfl, hr, hb⟩ := hrel
    have HR := hid hr; have HB := hid hb
    clear hr hb
    by_cases hlt : k < n
    · go_wp2_with fail
      refine wp_region_held_drew (S := fun _ => True) (by kernel_rfl) trivial (fun hS => ?_)
      refine tkH (i := 0) (v := ?v0x1) (y := Or.inl ⟨by rfl, ?y0x1⟩) (s := hS) (h := ?r0x1)
      case y0x1 => (intro w' hSw; (try dsimp only at hSw); go_simp; (try with_reducible rfl))
      simp only [Act.put, sA, sB, sC]
      refine tkH (i := 1) (v := ?v1x2) (y := Or.inl ⟨by rfl, ?y1x2⟩) (s := hS) (h := ?r1x2)
      case y1x2 => (intro w' hSw; (try dsimp only at hSw); go_simp; (try with_reducible rfl))
      simp only [Act.put, sA, sB, sC]
      refine tkH (i := 2) (v := ?v2x3) (y := Or.inl ⟨by rfl, ?y2x3⟩) (s := hS) (h := ?r2x3)
      case y2x3 => (intro w' hSw; (try dsimp only at hSw); go_simp; (try with_reducible rfl))
      simp only [Act.put, sA, sB, sC]
      refine tkH (i := 3) (v := ?v3x4) (y := Or.inl ⟨by rfl, ?y3x4⟩) (s := hS) (h := ?r3x4)
      case y3x4 => (intro w' hSw; (try dsimp only at hSw); go_simp; (try with_reducible rfl))
      simp only [Act.put, sA, sB, sC]
      refine wpAnyH_ready (rs := [4, 5]) (by kernel_rfl) (by simp) ?_
      refine AllReadyH.cons (by simp only [List.getElem?_toArray, List.getElem?_cons_zero, List.getElem?_cons_succ]; exact rfl) (fun K hK => ?_) (AllReadyH.cons (by simp only [List.getElem?_toArray, List.getElem?_cons_zero, List.getElem?_cons_succ]; exact rfl) (fun K hK => ?_) AllReadyH.nil)
      · have hc1 := HR.out.hd.cell (j := 0) rfl
        have hca := alc hc1
        try have hc2 := (HR.out.below HB2.out).hd.cell (j := 0) rfl
        try have hc3 := (HR.out.below HB3.out).hd.cell (j := 0) rfl
        go_simp
        clear hca
        refine hK.out _ _ ?k4x5 (fun hS => ?s4x5)
        case k4x5 => exact trivial
        clear hK K
        try simp only [Act.put, sA, sB, sC]
        refine rdH (i := 5) (h := fun K hK => ?_)
        refine wpo_make (.const (.int .i64 64)) (.const (.int .i64 64)) rfl 64 rfl rfl (by omega) ?_
        intro w2 hb2 hc2
        have HB2 : Hid (Below wr.heap.size wr w2) := hid (((Below.refl _ wr).drew).trans hb2)
        have HC2 : Hid (Blk w2 wr.heap.size 5 (bv (List.replicate 64 0))) := hid hc2
        clear hb2 hc2
        refine hK.out _ _ ?k5x6 (fun hS => ?s5x6)
        case k5x6 => exact trivial
        clear hK K
        try simp only [Act.put, sA, sB, sC]
        refine rdH (i := 6) (h := fun K hK => ?_)
        refine wpo_layR rowL (.tmp 24) rfl (.slice (some ⟨wr.heap.size, 0, none⟩) 64 64) rfl rfl ?_
        intro w3 hb3 hc3
        have HB3 : Hid (Below wr.heap.size wr w3) := hid (th HB2.out hb3)
        have HS3 : Hid (SS w3 (fun k => wr.heap.size ≤ k ∧ k < w3.heap.size) (.slice (some ⟨wr.heap.size, 0, none⟩) 64 64) (List.replicate 64 0)) := hid (SS.fresh (Fresh.blk (l := List.replicate 64 0) (HC2.out.below hb3 HC2.out.lt) (Nat.le_refl _)))
        have HC3 := hid hc3
        clear hb3 hc3
        refine hK.out _ _ ?k6x7 (fun hS => ?s6x7)
        case k6x7 => exact trivial
        clear hK K
        try simp only [Act.put, sA, sB, sC]
        refine rdH (i := 7) (h := fun K hK => ?_)
        refine wpo_appendR rowL (.tmp 23) (.tmp 25) rfl 0 (.slice aL k cL) k vs rfl (by have := (HR.out.below HB3.out).oL; rwa [List.length_replicate] at this) w2.heap.size rfl _ HC3.out rfl (by intro u hu; simp [Value.cells] at hu; subst hu; rfl) (by omega) (Nat.zero_le _) ?_
        intro v4 w4 ho4 hg4 hw4
        obtain ⟨ao4, c4, rfl⟩ := own_slice ho4
        have HE := hid (HR.out.appendedL HB3.out HS3.out (by rw [List.length_replicate]; exact ho4) hg4 hw4)
        have HD4 := hid (((HR.out.below HB3.out).hd).keep ((Keep.refl (fun j => (Value.slice aL k cL).ownBlock = some j) w3).grown hg4 (fun k hk _ => hk)) (fun e => (HR.out.fL _ e).2.2 rfl))
        clear ho4 hg4 hw4
        refine hK.out _ _ ?k7x8 (fun hS => ?s7x8)
        case k7x8 => exact trivial
        clear hK K
        try simp only [Act.put, sA, sB, sC]
        refine tkH (i := 8) (v := ?v8x9) (y := Or.inl ⟨by rfl, ?y8x9⟩) (s := hS) (h := ?r8x9)
        case y8x9 => (intro w' hSw; (try dsimp only at hSw); go_simp; (try with_reducible rfl))
        simp only [Act.put, sA, sB, sC]
        refine tkH (i := 9) (v := ?v9x10) (y := Or.inl ⟨by rfl, ?y9x10⟩) (s := hS) (h := ?r9x10)
        case y9x10 => (intro w' hSw; (try dsimp only at hSw); go_simp; (try with_reducible rfl))
        simp only [Act.put, sA, sB, sC]
        refine rdH (i := 10) (h := fun K hK => ?_)
        have hc4 := HD4.out.cell (j := 0) rfl
        have hf4 := HD4.out.free 0
        go_simp
        refine hK.out _ _ ?k10x11 (fun hS => ?s10x11)
        case k10x11 => exact trivial
        clear hK K
        try simp only [Act.put]
        refine wpAnyH_done (by kernel_rfl) ?_ _
        clear hS
        go_wp2
        go_roundw
        case rel =>
          obtain ⟨he, hke⟩ := HE.out
          refine ⟨k + 1, ao4, c4, vs ++ [.slice (some ⟨wr.heap.size, 0, none⟩) 64 64], grow Fb wr w3, by omega, by go_num, ?_, ?_⟩
          · rw [show List.replicate (k + 1) (List.replicate 64 (0 : UInt8)) = List.replicate k (List.replicate 64 0) ++ [List.replicate 64 0] by rw [List.replicate_succ']]
            exact he.mono (fun j hj => by
              rcases hj with hj | hj
              · exact ⟨hj.1, Nat.lt_of_lt_of_le hj.2 hke.size⟩
              · exact ⟨by have := HB.out.size; omega, by simpa using hj.2⟩)
          · exact HB.out.trans (hke.belowB HB.out.size (fun j hj hF => by omega))
        case measure => simp [intOf]; omega
      · refine wpo_make (.const (.int .i64 64)) (.const (.int .i64 64)) rfl 64 rfl rfl (by omega) ?_
        intro w2 hb2 hc2
        have HB2 : Hid (Below wr.heap.size wr w2) := hid (((Below.refl _ wr).drew).trans hb2)
        have HC2 : Hid (Blk w2 wr.heap.size 5 (bv (List.replicate 64 0))) := hid hc2
        clear hb2 hc2
        refine hK.out _ _ ?k5x12 (fun hS => ?s5x12)
        case k5x12 => exact trivial
        clear hK K
        try simp only [Act.put, sA, sB, sC]
        refine wpAnyH_ready (rs := [4, 6]) (by kernel_rfl) (by simp) ?_
        refine AllReadyH.cons (by simp only [List.getElem?_toArray, List.getElem?_cons_zero, List.getElem?_cons_succ]; exact rfl) (fun K hK => ?_) (AllReadyH.cons (by simp only [List.getElem?_toArray, List.getElem?_cons_zero, List.getElem?_cons_succ]; exact rfl) (fun K hK => ?_) AllReadyH.nil)
        · have hc1 := HR.out.hd.cell (j := 0) rfl
          have hca := alc hc1
          try have hc2 := (HR.out.below HB2.out).hd.cell (j := 0) rfl
          try have hc3 := (HR.out.below HB3.out).hd.cell (j := 0) rfl
          go_simp
          clear hca
          refine hK.out _ _ ?k4x13 (fun hS => ?s4x13)
          case k4x13 => exact trivial
          clear hK K
          try simp only [Act.put, sA, sB, sC]
          refine rdH (i := 6) (h := fun K hK => ?_)
          refine wpo_layR rowL (.tmp 24) rfl (.slice (some ⟨wr.heap.size, 0, none⟩) 64 64) rfl rfl ?_
          intro w3 hb3 hc3
          have HB3 : Hid (Below wr.heap.size wr w3) := hid (th HB2.out hb3)
          have HS3 : Hid (SS w3 (fun k => wr.heap.size ≤ k ∧ k < w3.heap.size) (.slice (some ⟨wr.heap.size, 0, none⟩) 64 64) (List.replicate 64 0)) := hid (SS.fresh (Fresh.blk (l := List.replicate 64 0) (HC2.out.below hb3 HC2.out.lt) (Nat.le_refl _)))
          have HC3 := hid hc3
          clear hb3 hc3
          refine hK.out _ _ ?k6x14 (fun hS => ?s6x14)
          case k6x14 => exact trivial
          clear hK K
          try simp only [Act.put, sA, sB, sC]
          refine rdH (i := 7) (h := fun K hK => ?_)
          refine wpo_appendR rowL (.tmp 23) (.tmp 25) rfl 0 (.slice aL k cL) k vs rfl (by have := (HR.out.below HB3.out).oL; rwa [List.length_replicate] at this) w2.heap.size rfl _ HC3.out rfl (by intro u hu; simp [Value.cells] at hu; subst hu; rfl) (by omega) (Nat.zero_le _) ?_
          intro v4 w4 ho4 hg4 hw4
          obtain ⟨ao4, c4, rfl⟩ := own_slice ho4
          have HE := hid (HR.out.appendedL HB3.out HS3.out (by rw [List.length_replicate]; exact ho4) hg4 hw4)
          have HD4 := hid (((HR.out.below HB3.out).hd).keep ((Keep.refl (fun j => (Value.slice aL k cL).ownBlock = some j) w3).grown hg4 (fun k hk _ => hk)) (fun e => (HR.out.fL _ e).2.2 rfl))
          clear ho4 hg4 hw4
          refine hK.out _ _ ?k7x15 (fun hS => ?s7x15)
          case k7x15 => exact trivial
          clear hK K
          try simp only [Act.put, sA, sB, sC]
          refine tkH (i := 8) (v := ?v8x16) (y := Or.inl ⟨by rfl, ?y8x16⟩) (s := hS) (h := ?r8x16)
          case y8x16 => (intro w' hSw; (try dsimp only at hSw); go_simp; (try with_reducible rfl))
          simp only [Act.put, sA, sB, sC]
          refine tkH (i := 9) (v := ?v9x17) (y := Or.inl ⟨by rfl, ?y9x17⟩) (s := hS) (h := ?r9x17)
          case y9x17 => (intro w' hSw; (try dsimp only at hSw); go_simp; (try with_reducible rfl))
          simp only [Act.put, sA, sB, sC]
          refine rdH (i := 10) (h := fun K hK => ?_)
          have hc4 := HD4.out.cell (j := 0) rfl
          have hf4 := HD4.out.free 0
          go_simp
          refine hK.out _ _ ?k10x18 (fun hS => ?s10x18)
          case k10x18 => exact trivial
          clear hK K
          try simp only [Act.put]
          refine wpAnyH_done (by kernel_rfl) ?_ _
          clear hS
          go_wp2
          go_roundw
          case rel =>
            obtain ⟨he, hke⟩ := HE.out
            refine ⟨k + 1, ao4, c4, vs ++ [.slice (some ⟨wr.heap.size, 0, none⟩) 64 64], grow Fb wr w3, by omega, by go_num, ?_, ?_⟩
            · rw [show List.replicate (k + 1) (List.replicate 64 (0 : UInt8)) = List.replicate k (List.replicate 64 0) ++ [List.replicate 64 0] by rw [List.replicate_succ']]
              exact he.mono (fun j hj => by
                rcases hj with hj | hj
                · exact ⟨hj.1, Nat.lt_of_lt_of_le hj.2 hke.size⟩
                · exact ⟨by have := HB.out.size; omega, by simpa using hj.2⟩)
            · exact HB.out.trans (hke.belowB HB.out.size (fun j hj hF => by omega))
          case measure => simp [intOf]; omega
        · refine wpo_layR rowL (.tmp 24) rfl (.slice (some ⟨wr.heap.size, 0, none⟩) 64 64) rfl rfl ?_
          intro w3 hb3 hc3
          have HB3 : Hid (Below wr.heap.size wr w3) := hid (th HB2.out hb3)
          have HS3 : Hid (SS w3 (fun k => wr.heap.size ≤ k ∧ k < w3.heap.size) (.slice (some ⟨wr.heap.size, 0, none⟩) 64 64) (List.replicate 64 0)) := hid (SS.fresh (Fresh.blk (l := List.replicate 64 0) (HC2.out.below hb3 HC2.out.lt) (Nat.le_refl _)))
          have HC3 := hid hc3
          clear hb3 hc3
          refine hK.out _ _ ?k6x19 (fun hS => ?s6x19)
          case k6x19 => exact trivial
          clear hK K
          try simp only [Act.put, sA, sB, sC]
          refine rdH (i := 4) (h := fun K hK => ?_)
          have hc1 := HR.out.hd.cell (j := 0) rfl
          have hca := alc hc1
          try have hc2 := (HR.out.below HB2.out).hd.cell (j := 0) rfl
          try have hc3 := (HR.out.below HB3.out).hd.cell (j := 0) rfl
          go_simp
          clear hca
          refine hK.out _ _ ?k4x20 (fun hS => ?s4x20)
          case k4x20 => exact trivial
          clear hK K
          try simp only [Act.put, sA, sB, sC]
          refine rdH (i := 7) (h := fun K hK => ?_)
          refine wpo_appendR rowL (.tmp 23) (.tmp 25) rfl 0 (.slice aL k cL) k vs rfl (by have := (HR.out.below HB3.out).oL; rwa [List.length_replicate] at this) w2.heap.size rfl _ HC3.out rfl (by intro u hu; simp [Value.cells] at hu; subst hu; rfl) (by omega) (Nat.zero_le _) ?_
          intro v4 w4 ho4 hg4 hw4
          obtain ⟨ao4, c4, rfl⟩ := own_slice ho4
          have HE := hid (HR.out.appendedL HB3.out HS3.out (by rw [List.length_replicate]; exact ho4) hg4 hw4)
          have HD4 := hid (((HR.out.below HB3.out).hd).keep ((Keep.refl (fun j => (Value.slice aL k cL).ownBlock = some j) w3).grown hg4 (fun k hk _ => hk)) (fun e => (HR.out.fL _ e).2.2 rfl))
          clear ho4 hg4 hw4
          refine hK.out _ _ ?k7x21 (fun hS => ?s7x21)
          case k7x21 => exact trivial
          clear hK K
          try simp only [Act.put, sA, sB, sC]
          refine tkH (i := 8) (v := ?v8x22) (y := Or.inl ⟨by rfl, ?y8x22⟩) (s := hS) (h := ?r8x22)
          case y8x22 => (intro w' hSw; (try dsimp only at hSw); go_simp; (try with_reducible rfl))
          simp only [Act.put, sA, sB, sC]
          refine tkH (i := 9) (v := ?v9x23) (y := Or.inl ⟨by rfl, ?y9x23⟩) (s := hS) (h := ?r9x23)
          case y9x23 => (intro w' hSw; (try dsimp only at hSw); go_simp; (try with_reducible rfl))
          simp only [Act.put, sA, sB, sC]
          refine rdH (i := 10) (h := fun K hK => ?_)
          have hc4 := HD4.out.cell (j := 0) rfl
          have hf4 := HD4.out.free 0
          go_simp
          refine hK.out _ _ ?k10x24 (fun hS => ?s10x24)
          case k10x24 => exact trivial
          clear hK K
          try simp only [Act.put]
          refine wpAnyH_done (by kernel_rfl) ?_ _
          clear hS
          go_wp2
          go_roundw
          case rel =>
            obtain ⟨he, hke⟩ := HE.out
            refine ⟨k + 1, ao4, c4, vs ++ [.slice (some ⟨wr.heap.size, 0, none⟩) 64 64], grow Fb wr w3, by omega, by go_num, ?_, ?_⟩
            · rw [show List.replicate (k + 1) (List.replicate 64 (0 : UInt8)) = List.replicate k (List.replicate 64 0) ++ [List.replicate 64 0] by rw [List.replicate_succ']]
              exact he.mono (fun j hj => by
                rcases hj with hj | hj
                · exact ⟨hj.1, Nat.lt_of_lt_of_le hj.2 hke.size⟩
                · exact ⟨by have := HB.out.size; omega, by simpa using hj.2⟩)
            · exact HB.out.trans (hke.belowB HB.out.size (fun j hj hF => by omega))
          case measure => simp [intOf]; omega
    · have hk9 : n = k := by omega
      subst hk9
      go_wp2
      go_ret2
      exact ⟨w.heap.size, rfl, ⟨Dev.new_ok hn1 hn2, _, _, _, _, _, _, _, HR.out, .inl ⟨rfl, rfl⟩⟩, HB.out⟩
end Go.Proofs.YtlondopgibcikaaGreat
namespace Go.Proofs.YtlondopgibcikaaGreat
open Go.RowKit Ent
def rdev (a : Nat) (d : Dev) : Asset := fun w F => RD w a F d
theorem good_rdev (a : Nat) (d : Dev) : Good (rdev a d) := ⟨fun h hk hG => RD.keep h hk hG⟩
section
variable {B : Nat} {w0 w : World} {As : List Asset} {a : Nat} {d : Dev}
theorem St.rdev_flush (h : St B w0 w As) (i : Nat) (hi : As[i]? = some (rdev a d)) (hlo : d.loose.length ≤ 1073741824) :
    Calls Tryz.prog 17 #[ptr a] w fun e w' => e = .returned (.int .i64 d.flush.1) ∧ St B w0 w' (As.set i (rdev a d.flush.2)) := by
  obtain ⟨F, hA, hF, ho, hcl⟩ := h.open i hi
  refine (flushR_any w hlo hA).mono ?_
  rintro e w' ⟨he, hp, hk⟩
  exact ⟨he, hcl w' _ _ hk (good_rdev _ _) hp (fun _ h => .inl h)⟩
theorem St.rdev_fuse (h : St B w0 w As) (i : Nat) (hi : As[i]? = some (rdev a d)) (n : Int) (h1 : -9223372036854775808 ≤ n) (h2 : n ≤ 9223372036854775807) :
    Calls Tryz.prog 33 #[ptr a, .int .i64 n] w fun e w' => e = .returned (.int .i64 (d.setFuse n).1) ∧ St B w0 w' (As.set i (rdev a (d.setFuse n).2)) := by
  obtain ⟨F, hA, hF, ho, hcl⟩ := h.open i hi
  refine (fuseR_any n h1 h2 w hA).mono ?_
  rintro e w' ⟨he, hp, hk⟩
  exact ⟨he, hcl w' _ _ hk (good_rdev _ _) hp (fun _ h => .inl h)⟩
theorem St.okR (h : St B w0 w As) (i : Nat) (hi : As[i]? = some (rdev a d)) : d.ok := by
  obtain ⟨F, hA, _⟩ := h.open i hi
  exact hA.1
theorem St.rdev_crash (h : St B w0 w As) (i : Nat) (hi : As[i]? = some (rdev a d)) (ko : Option Addr) (kn kc : Nat) (keep : List Bool) (hkn : kn = keep.length) (torn : Int) (hbl : BL w ko keep) (hap : keep ≠ [] → Apart B As i ko) (hkb : kn ≤ 1073741824) (hlo : d.loose.length ≤ 1073741824) (hok : (d.crash keep torn).2.ok) :
    Calls Tryz.prog 35 #[ptr a, .slice ko kn kc, .int .i64 torn] w fun e w' => e = .returned (.int .i64 (d.crash keep torn).1) ∧ St B w0 w' (As.set i (rdev a (d.crash keep torn).2)) := by
  obtain ⟨F, hA, hF, ho, hcl⟩ := h.open i hi
  refine (crashR_any ko kn kc keep hkn torn w hbl (fun hne => (hap hne).not hF ho) hkb hlo hA hok).mono ?_
  rintro e w' ⟨he, hp, hk⟩
  exact ⟨he, hcl w' _ _ hk (good_rdev _ _) hp (fun _ h => h)⟩
theorem St.rdev_new (h : St B w0 w As) (n : Nat) (h1 : 1 ≤ n) (h2 : n ≤ 65536) :
    Calls Tryz.prog 9 #[.int .i64 n] w fun e w' => ∃ a, e = .returned (.tuple #[ptr a, .int .i64 0]) ∧ St B w0 w' (As ++ [rdev a (Dev.new n)]) := by
  refine (newR_any n h1 h2 w).mono ?_
  rintro e w' ⟨a, he, hp, hb⟩
  exact ⟨a, he, h.add hb (good_rdev _ _) hp (fun _ h => h)⟩
theorem St.rdev_size (h : St B w0 w As) (i : Nat) (hi : As[i]? = some (rdev a d)) :
    Calls Tryz.prog 42 #[ptr a] w fun e w' => e = .returned (.int .i64 d.img.length) ∧ w' = w := by
  obtain ⟨F, hA, _⟩ := h.open i hi; exact sizeR_any w hA
theorem St.rdev_out (h : St B w0 w As) (i : Nat) (hi : As[i]? = some (rdev a d)) :
    Calls Tryz.prog 48 #[ptr a] w fun e w' => e = .returned (.bool d.out) ∧ w' = w := by
  obtain ⟨F, hA, _⟩ := h.open i hi; exact outR_any w hA
theorem St.rdev_loose (h : St B w0 w As) (i : Nat) (hi : As[i]? = some (rdev a d)) :
    Calls Tryz.prog 46 #[ptr a] w fun e w' => e = .returned (.int .i64 d.loose.length) ∧ w' = w := by
  obtain ⟨F, hA, _⟩ := h.open i hi; exact looseR_any w hA
theorem St.rdev_read (h : St B w0 w As) (i : Nat) (hi : As[i]? = some (rdev a d)) (n : Int) (hlo : d.loose.length ≤ 1073741824) :
    Calls Tryz.prog 113 #[ptr a, .int .i64 n] w fun e w' => ∃ v, e = .returned (.tuple #[v, .int .i64 (d.read n).2]) ∧ Told w w' v (d.read n).1 := by
  obtain ⟨F, hA, _⟩ := h.open i hi
  refine (readR_any n w hA hlo).mono ?_
  rintro e w' ⟨v, he, hf, hb⟩; exact ⟨v, he, told_of hf hb⟩
theorem St.rdev_image (h : St B w0 w As) (i : Nat) (hi : As[i]? = some (rdev a d)) (n : Int) :
    Calls Tryz.prog 43 #[ptr a, .int .i64 n] w fun e w' => ∃ v, e = .returned (.tuple #[v, .int .i64 (d.image n).2]) ∧ Told w w' v (d.image n).1 := by
  obtain ⟨F, hA, _⟩ := h.open i hi
  refine (imageR_any n w hA).mono ?_
  rintro e w' ⟨v, he, hf, hb⟩; exact ⟨v, he, told_of hf hb⟩
end
end Go.Proofs.YtlondopgibcikaaGreat
namespace Go.Proofs.YtlondopgibcikaaGreat
open Go.RowKit Ent
/-- what is told of a sector -/
def RightRet (b : List UInt8) (gen index g o cap : Nat) (e : Ending) : Prop :=
  match rightOf b gen index with
  | none => e = .returned (.tuple #[.int .i64 0, .slice none 0 0])
  | some (k, p) => e = .returned (.tuple #[.int .i64 (k : Int), .slice (some ⟨g, o + 14, none⟩) p.length (cap - 14)])
theorem right_bad {b : List UInt8} {gen index K U : Nat} (hK : (b.getD 12 0).toNat = K) (hU : (b.getD 13 0).toNat = U) (h : (K < 1 ∨ 4 < K) ∨ 49 < U ∨ (K = 2 ∨ K = 3) ∧ U ≠ 49 ∨ K = 4 ∧ U = 0) : rightOf b gen index = none := by
  unfold rightOf
  simp only [hK, hU]
  rw [if_pos h]
theorem right_good {b : List UInt8} {gen index K U : Nat} (hK : (b.getD 12 0).toNat = K) (hU : (b.getD 13 0).toNat = U) (h : ¬ ((K < 1 ∨ 4 < K) ∨ 49 < U ∨ (K = 2 ∨ K = 3) ∧ U ≠ 49 ∨ K = 4 ∧ U = 0)) :
    (sameB (logSec gen index K ((b.drop 14).take U)) b = true ∧ rightOf b gen index = some (K, (b.drop 14).take U)) ∨ (sameB (logSec gen index K ((b.drop 14).take U)) b = false ∧ rightOf b gen index = none) := by
  unfold rightOf sameB
  simp only [hK, hU]
  rw [if_neg h]
  by_cases he : logSec gen index K ((b.drop 14).take U) = b
  · left; rw [if_pos he]; exact ⟨decide_eq_true he, rfl⟩
  · right; rw [if_neg he]; exact ⟨decide_eq_false he, rfl⟩
set_option maxRecDepth 100000 in
set_option maxHeartbeats 4000000 in
theorem right_any (g o cap : Nat) (b : List UInt8) (hb : b.length = 64) (hcap : 64 ≤ cap) (gen index : Nat) (hg : gen < 4294967296) (hi : index < 4294967296) (w : World) (hr : w.rangeAt g o (bv b)) :
    Calls Tryz.prog 99 #[.slice (some ⟨g, o, none⟩) 64 cap, .int .i64 gen, .int .i64 index] w fun e w' => RightRet b gen index g o cap e ∧ Below w.heap.size w w' := by
  obtain ⟨x12, hx12⟩ : ∃ x, b[12]? = some x := ⟨_, List.getElem?_eq_getElem (by omega)⟩
  obtain ⟨x13, hx13⟩ : ∃ x, b[13]? = some x := ⟨_, List.getElem?_eq_getElem (by omega)⟩
  have c12 := rangeAt_byte hr hx12
  have c13 := rangeAt_byte hr hx13
  have hK : (b.getD 12 0).toNat = x12.toNat := by simp [List.getD, hx12]
  have hU : (b.getD 13 0).toNat = x13.toNat := by simp [List.getD, hx13]
  have hk256 := x12.toNat_lt
  have hu256 := x13.toNat_lt
  generalize x12.toNat = K at *
  generalize x13.toNat = U at *
  have hHK := hid hK; have hHU := hid hU
  have HB64 := hid hb
  have HR := hid hr
  have HPR : Hid (w.rangeAt g (o + 14) (bv ((b.drop 14).take U))) := hid (fun j v hv => by
    rw [Nat.add_assoc]
    refine hr (14 + j) v ?_
    rw [bv_get] at hv ⊢
    rw [List.getElem?_take] at hv
    split at hv
    · rwa [List.getElem?_drop] at hv
    · cases hv)
  clear hb hr hx12 hx13 hK hU
  by_cases k2 : K = 2
  · subst k2
    by_cases hul : U < 49
    · have HBAD : Hid (rightOf b gen index = none) := hid (right_bad hHK.out hHU.out (by omega))
      go_enter Tryz.func99, Tryz.ntmps99
      go_wp2_with fail
      go_quiet (fail)
      go_wp2
      go_ret2
      exact ⟨by unfold RightRet; rw [HBAD.out]; rfl, below_drewN (Below.refl _ _) _⟩
    by_cases hum : 49 < U
    · have HBAD : Hid (rightOf b gen index = none) := hid (right_bad hHK.out hHU.out (by omega))
      go_enter Tryz.func99, Tryz.ntmps99
      go_wp2_with fail
      go_quiet (fail)
      go_wp2
      go_ret2
      exact ⟨by unfold RightRet; rw [HBAD.out]; rfl, below_drewN (Below.refl _ _) _⟩
    have HGOOD := hid (right_good (gen := gen) (index := index) hHK.out hHU.out (by omega))
    have HLL : Hid ((logSec gen index 2 ((b.drop 14).take U)).length = 64) := hid (logSec_len (by simp; omega))
    have HPL : Hid (((b.drop 14).take U).length = U) := hid (by simp [HB64.out]; omega)
    go_enter Tryz.func99, Tryz.ntmps99
    go_wp2_with fail
    go_quiet (fail)
    go_wp2_with fail
    refine (lmade_any gen index 2 (some ⟨g, o + 14, none⟩) U (cap - 14) ((b.drop 14).take U) (by simp [HB64.out]; omega) (by omega) hg hi (by omega) (w.drewN nq) (.inr (.inr ⟨g, o + 14, rfl, HPR.out⟩))).mono ?_
    rintro e w2 ⟨rfl, hb2⟩
    have HB2 : Hid (Below w.heap.size w w2) := hid ((below_drewN (Below.refl _ _) _).trans hb2)
    clear hb2
    go_wp2_with (refine wpl_store_new rfl 127 (.tmp 13) (.tmp 46) rfl _ _ (bv (logSec gen index 2 ((b.drop 14).take U))) rfl rfl (by rw [bv_length, HLL.out]; exact logsec_info) (by rw [bv_length, HLL.out]; kernel_rfl) (bv_one _) ?_; intro w3 h3 hb3; have H3 := hid h3; have HB3 := hid (th HB2.out hb3); clear h3 hb3)
    refine (equal_any (some ⟨w2.heap.size, 0, none⟩) (some ⟨g, o, none⟩) 64 64 64 cap (logSec gen index 2 ((b.drop 14).take U)) b HLL.out.symm HB64.out.symm (by omega) (by omega) _ (.inr (.inr ⟨w2.heap.size, 0, rfl, H3.out.range fun j v hv => by rw [Nat.zero_add]; exact hv⟩)) (.inr (.inr ⟨g, o, rfl, (Keep.ofBelow (F := fun _ => False) HB3.out).range HR.out id⟩))).mono ?_
    rintro e w4 ⟨rfl, hb4⟩
    have HB4 := hid (th HB3.out hb4)
    clear hb4
    rcases HGOOD.out with ⟨hs, hr⟩ | ⟨hs, hr⟩
    all_goals
      have HR2 := hid hr
      rw [hs]
      clear hs hr
      go_wp2
      go_ret2
      exact ⟨by unfold RightRet; rw [HR2.out]; first | rfl | (show _ = Ending.returned (.tuple #[.int .i64 ((2 : Nat) : Int), .slice (some ⟨g, o + 14, none⟩) ((b.drop 14).take U).length (cap - 14)]); rw [HPL.out]; rfl), HB4.out⟩
  have e2 : ((K : Int) == 2) = false := by rw [beq_eq_false_iff_ne]; omega
  by_cases k3 : K = 3
  · subst k3
    clear k2 e2
    by_cases hul : U < 49
    · have HBAD : Hid (rightOf b gen index = none) := hid (right_bad hHK.out hHU.out (by omega))
      go_enter Tryz.func99, Tryz.ntmps99
      go_wp2_with fail
      go_quiet (fail)
      go_wp2
      go_ret2
      exact ⟨by unfold RightRet; rw [HBAD.out]; rfl, below_drewN (Below.refl _ _) _⟩
    by_cases hum : 49 < U
    · have HBAD : Hid (rightOf b gen index = none) := hid (right_bad hHK.out hHU.out (by omega))
      go_enter Tryz.func99, Tryz.ntmps99
      go_wp2_with fail
      go_quiet (fail)
      go_wp2
      go_ret2
      exact ⟨by unfold RightRet; rw [HBAD.out]; rfl, below_drewN (Below.refl _ _) _⟩
    have HGOOD := hid (right_good (gen := gen) (index := index) hHK.out hHU.out (by omega))
    have HLL : Hid ((logSec gen index 3 ((b.drop 14).take U)).length = 64) := hid (logSec_len (by simp; omega))
    have HPL : Hid (((b.drop 14).take U).length = U) := hid (by simp [HB64.out]; omega)
    go_enter Tryz.func99, Tryz.ntmps99
    go_wp2_with fail
    go_quiet (fail)
    go_wp2_with fail
    refine (lmade_any gen index 3 (some ⟨g, o + 14, none⟩) U (cap - 14) ((b.drop 14).take U) (by simp [HB64.out]; omega) (by omega) hg hi (by omega) (w.drewN nq) (.inr (.inr ⟨g, o + 14, rfl, HPR.out⟩))).mono ?_
    rintro e w2 ⟨rfl, hb2⟩
    have HB2 : Hid (Below w.heap.size w w2) := hid ((below_drewN (Below.refl _ _) _).trans hb2)
    clear hb2
    go_wp2_with (refine wpl_store_new rfl 127 (.tmp 13) (.tmp 46) rfl _ _ (bv (logSec gen index 3 ((b.drop 14).take U))) rfl rfl (by rw [bv_length, HLL.out]; exact logsec_info) (by rw [bv_length, HLL.out]; kernel_rfl) (bv_one _) ?_; intro w3 h3 hb3; have H3 := hid h3; have HB3 := hid (th HB2.out hb3); clear h3 hb3)
    refine (equal_any (some ⟨w2.heap.size, 0, none⟩) (some ⟨g, o, none⟩) 64 64 64 cap (logSec gen index 3 ((b.drop 14).take U)) b HLL.out.symm HB64.out.symm (by omega) (by omega) _ (.inr (.inr ⟨w2.heap.size, 0, rfl, H3.out.range fun j v hv => by rw [Nat.zero_add]; exact hv⟩)) (.inr (.inr ⟨g, o, rfl, (Keep.ofBelow (F := fun _ => False) HB3.out).range HR.out id⟩))).mono ?_
    rintro e w4 ⟨rfl, hb4⟩
    have HB4 := hid (th HB3.out hb4)
    clear hb4
    rcases HGOOD.out with ⟨hs, hr⟩ | ⟨hs, hr⟩
    all_goals
      have HR2 := hid hr
      rw [hs]
      clear hs hr
      go_wp2
      go_ret2
      exact ⟨by unfold RightRet; rw [HR2.out]; first | rfl | (show _ = Ending.returned (.tuple #[.int .i64 ((3 : Nat) : Int), .slice (some ⟨g, o + 14, none⟩) ((b.drop 14).take U).length (cap - 14)]); rw [HPL.out]; rfl), HB4.out⟩
  have e3 : ((K : Int) == 3) = false := by rw [beq_eq_false_iff_ne]; omega
  by_cases k4 : K = 4
  · subst k4
    clear k2 e2 k3 e3
    by_cases hul : U < 1
    · have HBAD : Hid (rightOf b gen index = none) := hid (right_bad hHK.out hHU.out (by omega))
      go_enter Tryz.func99, Tryz.ntmps99
      go_wp2_with fail
      go_quiet (fail)
      go_wp2
      go_ret2
      exact ⟨by unfold RightRet; rw [HBAD.out]; rfl, below_drewN (Below.refl _ _) _⟩
    by_cases hum : 49 < U
    · have HBAD : Hid (rightOf b gen index = none) := hid (right_bad hHK.out hHU.out (by omega))
      go_enter Tryz.func99, Tryz.ntmps99
      go_wp2_with fail
      go_quiet (fail)
      go_wp2
      go_ret2
      exact ⟨by unfold RightRet; rw [HBAD.out]; rfl, below_drewN (Below.refl _ _) _⟩
    have HGOOD := hid (right_good (gen := gen) (index := index) hHK.out hHU.out (by omega))
    have HLL : Hid ((logSec gen index 4 ((b.drop 14).take U)).length = 64) := hid (logSec_len (by simp; omega))
    have HPL : Hid (((b.drop 14).take U).length = U) := hid (by simp [HB64.out]; omega)
    go_enter Tryz.func99, Tryz.ntmps99
    go_wp2_with fail
    go_quiet (fail)
    go_wp2_with fail
    refine (lmade_any gen index 4 (some ⟨g, o + 14, none⟩) U (cap - 14) ((b.drop 14).take U) (by simp [HB64.out]; omega) (by omega) hg hi (by omega) (w.drewN nq) (.inr (.inr ⟨g, o + 14, rfl, HPR.out⟩))).mono ?_
    rintro e w2 ⟨rfl, hb2⟩
    have HB2 : Hid (Below w.heap.size w w2) := hid ((below_drewN (Below.refl _ _) _).trans hb2)
    clear hb2
    go_wp2_with (refine wpl_store_new rfl 127 (.tmp 13) (.tmp 46) rfl _ _ (bv (logSec gen index 4 ((b.drop 14).take U))) rfl rfl (by rw [bv_length, HLL.out]; exact logsec_info) (by rw [bv_length, HLL.out]; kernel_rfl) (bv_one _) ?_; intro w3 h3 hb3; have H3 := hid h3; have HB3 := hid (th HB2.out hb3); clear h3 hb3)
    refine (equal_any (some ⟨w2.heap.size, 0, none⟩) (some ⟨g, o, none⟩) 64 64 64 cap (logSec gen index 4 ((b.drop 14).take U)) b HLL.out.symm HB64.out.symm (by omega) (by omega) _ (.inr (.inr ⟨w2.heap.size, 0, rfl, H3.out.range fun j v hv => by rw [Nat.zero_add]; exact hv⟩)) (.inr (.inr ⟨g, o, rfl, (Keep.ofBelow (F := fun _ => False) HB3.out).range HR.out id⟩))).mono ?_
    rintro e w4 ⟨rfl, hb4⟩
    have HB4 := hid (th HB3.out hb4)
    clear hb4
    rcases HGOOD.out with ⟨hs, hr⟩ | ⟨hs, hr⟩
    all_goals
      have HR2 := hid hr
      rw [hs]
      clear hs hr
      go_wp2
      go_ret2
      exact ⟨by unfold RightRet; rw [HR2.out]; first | rfl | (show _ = Ending.returned (.tuple #[.int .i64 ((4 : Nat) : Int), .slice (some ⟨g, o + 14, none⟩) ((b.drop 14).take U).length (cap - 14)]); rw [HPL.out]; rfl), HB4.out⟩
  have e4 : ((K : Int) == 4) = false := by rw [beq_eq_false_iff_ne]; omega
  by_cases k1 : K = 1
  · subst k1
    clear k2 e2 k3 e3 k4 e4
    by_cases hum : 49 < U
    · have HBAD : Hid (rightOf b gen index = none) := hid (right_bad hHK.out hHU.out (by omega))
      go_enter Tryz.func99, Tryz.ntmps99
      go_wp2_with fail
      go_quiet (fail)
      go_wp2
      go_ret2
      exact ⟨by unfold RightRet; rw [HBAD.out]; rfl, below_drewN (Below.refl _ _) _⟩
    have HGOOD := hid (right_good (gen := gen) (index := index) hHK.out hHU.out (by omega))
    have HLL : Hid ((logSec gen index 1 ((b.drop 14).take U)).length = 64) := hid (logSec_len (by simp; omega))
    have HPL : Hid (((b.drop 14).take U).length = U) := hid (by simp [HB64.out]; omega)
    go_enter Tryz.func99, Tryz.ntmps99
    go_wp2_with fail
    go_quiet (fail)
    go_wp2_with fail
    refine (lmade_any gen index 1 (some ⟨g, o + 14, none⟩) U (cap - 14) ((b.drop 14).take U) (by simp [HB64.out]; omega) (by omega) hg hi (by omega) (w.drewN nq) (.inr (.inr ⟨g, o + 14, rfl, HPR.out⟩))).mono ?_
    rintro e w2 ⟨rfl, hb2⟩
    have HB2 : Hid (Below w.heap.size w w2) := hid ((below_drewN (Below.refl _ _) _).trans hb2)
    clear hb2
    go_wp2_with (refine wpl_store_new rfl 127 (.tmp 13) (.tmp 46) rfl _ _ (bv (logSec gen index 1 ((b.drop 14).take U))) rfl rfl (by rw [bv_length, HLL.out]; exact logsec_info) (by rw [bv_length, HLL.out]; kernel_rfl) (bv_one _) ?_; intro w3 h3 hb3; have H3 := hid h3; have HB3 := hid (th HB2.out hb3); clear h3 hb3)
    refine (equal_any (some ⟨w2.heap.size, 0, none⟩) (some ⟨g, o, none⟩) 64 64 64 cap (logSec gen index 1 ((b.drop 14).take U)) b HLL.out.symm HB64.out.symm (by omega) (by omega) _ (.inr (.inr ⟨w2.heap.size, 0, rfl, H3.out.range fun j v hv => by rw [Nat.zero_add]; exact hv⟩)) (.inr (.inr ⟨g, o, rfl, (Keep.ofBelow (F := fun _ => False) HB3.out).range HR.out id⟩))).mono ?_
    rintro e w4 ⟨rfl, hb4⟩
    have HB4 := hid (th HB3.out hb4)
    clear hb4
    rcases HGOOD.out with ⟨hs, hr⟩ | ⟨hs, hr⟩
    all_goals
      have HR2 := hid hr
      rw [hs]
      clear hs hr
      go_wp2
      go_ret2
      exact ⟨by unfold RightRet; rw [HR2.out]; first | rfl | (show _ = Ending.returned (.tuple #[.int .i64 ((1 : Nat) : Int), .slice (some ⟨g, o + 14, none⟩) ((b.drop 14).take U).length (cap - 14)]); rw [HPL.out]; rfl), HB4.out⟩
  have e1 : ((K : Int) == 1) = false := by rw [beq_eq_false_iff_ne]; omega
  have HBAD : Hid (rightOf b gen index = none) := hid (right_bad hHK.out hHU.out (by omega))
  clear k1 k2 k3 k4
  go_enter Tryz.func99, Tryz.ntmps99
  go_wp2_with fail
  go_quiet (fail)
  go_wp2
  go_ret2
  exact ⟨by unfold RightRet; rw [HBAD.out]; rfl, below_drewN (Below.refl _ _) _⟩
end Go.Proofs.YtlondopgibcikaaGreat
