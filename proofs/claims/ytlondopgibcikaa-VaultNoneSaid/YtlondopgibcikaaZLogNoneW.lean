/- LogNone: the walk. -/
import Derived.Test.YtlondopgibcikaaRows
import Derived.Test.YtlondopgibcikaaGBase
import Derived.Test.YtlondopgibcikaaGDevice
import Derived.Test.YtlondopgibcikaaGRefDev
import Derived.Test.YtlondopgibcikaaGLogA
import Derived.Test.YtlondopgibcikaaGLogC
import Derived.Test.YtlondopgibcikaaZDevNone
import Derived.WalkKit
import Derived.WalkSpells
import Derived.WalkLawsBesides
import Derived.Deep.RegionHeld3
import Derived.Deep.QuietTactic
import Derived.BigQuiet
namespace Go.Proofs.Ytlondopgibcikaa
open Go.RowKit Ent

theorem NoneDev.below {w w' : World} {v : Value} (h : NoneDev w v) (hb : Below w.heap.size w w') : NoneDev w' v := by
  rcases h with h | ⟨a, h1, h2⟩
  · exact .inl h
  · exact .inr ⟨a, h1, by rw [hb.cell (World.block_lt_of_cell? w _ h2)]; exact h2⟩
set_option maxRecDepth 100000 in
set_option maxHeartbeats 400000 in
theorem none6_check (f t g : Int) (v : Value) (w : World) (h : NoneDev w v) :
    Calls Try.prog 66 #[v, .agg #[.int .i64 f, .int .i64 t, .int .i64 g]] w fun e w' => e = .returned (.int .i64 1) ∧ Below w.heap.size w w' := by
  obtain ⟨w1, hw1⟩ : ∃ w1, w.alloc (.cells #[.int .i64 f, .int .i64 t, .int .i64 g] 76) = w1 := ⟨_, rfl⟩
  have HW1 := hid hw1
  have HBX : Hid (Blk w1 w.heap.size 76 [.int .i64 f, .int .i64 t, .int .i64 g]) := hid (by rw [← hw1]; exact alloc_new w _)
  have HB1 : Hid (Below w.heap.size w w1) := hid (by rw [← hw1]; exact fresh_alloc w _)
  have H1 := hid (h.below HB1.out)
  clear hw1 h
  go_enter Try.func66, Try.ntmps66
  go_wp2_with fail
  rw [HW1.out]
  go_wp2_with fail
  refine (none_size v w1 H1.out).mono ?_
  rintro e w' ⟨rfl, rfl⟩
  have HBB := HB1
  go_wp2
  go_ret
  exact ⟨rfl, HBB.out⟩
set_option maxRecDepth 100000 in
set_option maxHeartbeats 400000 in
theorem none6_blank (f t g : Int) (v : Value) (w : World) (h : NoneDev w v) :
    Calls Try.prog 67 #[v, .agg #[.int .i64 f, .int .i64 t, .int .i64 g]] w fun e w' => e = .returned (.int .i64 1) ∧ Below w.heap.size w w' := by
  obtain ⟨w1, hw1⟩ : ∃ w1, w.alloc (.cells #[.int .i64 f, .int .i64 t, .int .i64 g] 76) = w1 := ⟨_, rfl⟩
  have HW1 := hid hw1
  have HBX : Hid (Blk w1 w.heap.size 76 [.int .i64 f, .int .i64 t, .int .i64 g]) := hid (by rw [← hw1]; exact alloc_new w _)
  have HB1 : Hid (Below w.heap.size w w1) := hid (by rw [← hw1]; exact fresh_alloc w _)
  have H1 := hid (h.below HB1.out)
  clear hw1 h
  go_enter Try.func67, Try.ntmps67
  go_wp2_with fail
  rw [HW1.out]
  have x0 := HBX.out.cell (j := 0) rfl
  have x1 := HBX.out.cell (j := 1) rfl
  have x2 := HBX.out.cell (j := 2) rfl
  go_wp2_with fail
  refine (none6_check f t g v w1 H1.out).mono ?_
  rintro e w2 ⟨rfl, hb2⟩
  have HBB := hid (HB1.out.trans (hb2.mono HB1.out.size))
  clear x0 x1 x2 hb2
  go_wp2
  go_ret
  exact ⟨rfl, HBB.out⟩
set_option maxRecDepth 100000 in
set_option maxHeartbeats 400000 in
theorem none6_write (f t g : Int) (at_ : Int) (ao : Option Addr) (m c : Nat) (v : Value) (w : World) (h : NoneDev w v) :
    Calls Try.prog 64 #[v, .agg #[.int .i64 f, .int .i64 t, .int .i64 g], .int .i64 at_, .slice ao m c] w fun e w' => e = .returned (.tuple #[.int .i64 0, .int .i64 1]) ∧ Below w.heap.size w w' := by
  obtain ⟨w1, hw1⟩ : ∃ w1, w.alloc (.cells #[.int .i64 f, .int .i64 t, .int .i64 g] 76) = w1 := ⟨_, rfl⟩
  have HW1 := hid hw1
  have HBX : Hid (Blk w1 w.heap.size 76 [.int .i64 f, .int .i64 t, .int .i64 g]) := hid (by rw [← hw1]; exact alloc_new w _)
  have HB1 : Hid (Below w.heap.size w w1) := hid (by rw [← hw1]; exact fresh_alloc w _)
  have H1 := hid (h.below HB1.out)
  clear hw1 h
  go_enter Try.func64, Try.ntmps64
  go_wp2_with fail
  rw [HW1.out]
  have x0 := HBX.out.cell (j := 0) rfl
  have x1 := HBX.out.cell (j := 1) rfl
  have x2 := HBX.out.cell (j := 2) rfl
  go_wp2_with fail
  refine (none6_check f t g v w1 H1.out).mono ?_
  rintro e w2 ⟨rfl, hb2⟩
  have HBB := hid (HB1.out.trans (hb2.mono HB1.out.size))
  clear x0 x1 x2 hb2
  go_wp2
  go_ret2
  exact ⟨rfl, HBB.out⟩
set_option maxRecDepth 100000 in
set_option maxHeartbeats 400000 in
theorem none6_scan (f t g : Int) (v : Value) (w : World) (h : NoneDev w v) :
    Calls Try.prog 65 #[v, .agg #[.int .i64 f, .int .i64 t, .int .i64 g]] w fun e w' => e = .returned (.tuple #[.slice none 0 0, .int .i64 0, .int .i64 1]) ∧ Below w.heap.size w w' := by
  obtain ⟨w1, hw1⟩ : ∃ w1, w.alloc (.cells #[.int .i64 f, .int .i64 t, .int .i64 g] 76) = w1 := ⟨_, rfl⟩
  have HW1 := hid hw1
  have HBX : Hid (Blk w1 w.heap.size 76 [.int .i64 f, .int .i64 t, .int .i64 g]) := hid (by rw [← hw1]; exact alloc_new w _)
  have HB1 : Hid (Below w.heap.size w w1) := hid (by rw [← hw1]; exact fresh_alloc w _)
  have H1 := hid (h.below HB1.out)
  clear hw1 h
  go_enter Try.func65, Try.ntmps65
  go_wp2_with fail
  rw [HW1.out]
  have x0 := HBX.out.cell (j := 0) rfl
  have x1 := HBX.out.cell (j := 1) rfl
  have x2 := HBX.out.cell (j := 2) rfl
  go_step3
  go_wp2_with fail
  refine (none6_check f t g v w1 H1.out).mono ?_
  rintro e w2 ⟨rfl, hb2⟩
  have HBB := hid (HB1.out.trans (hb2.mono HB1.out.size))
  clear x0 x1 x2 hb2
  go_wp2
  ((try rw [Exit.noGoto_ret]); go_ret3)
  exact ⟨rfl, HBB.out⟩
set_option maxRecDepth 100000 in
set_option maxHeartbeats 1000000 in
theorem logNone_walk (f t g at_ : Int) (ao : Option Addr) (m c : Nat) (hm : m ≤ 9223372036854775807) (w : World) :
    Calls Try.prog 13 #[.agg #[.int .i64 f, .int .i64 t, .int .i64 g], .int .i64 at_, .slice ao m c] w fun e w' => e = .returned (.bool true) ∧ Below w.heap.size w w' := by
  obtain ⟨w1, hw1⟩ : ∃ w1, w.alloc (.cells #[.int .i64 f, .int .i64 t, .int .i64 g] 76) = w1 := ⟨_, rfl⟩
  have HW1 := hid hw1
  have HBX : Hid (Blk w1 w.heap.size 76 [.int .i64 f, .int .i64 t, .int .i64 g]) := hid (by rw [← hw1]; exact alloc_new w _)
  have HB1 : Hid (Below w.heap.size w w1) := hid (by rw [← hw1]; exact fresh_alloc w _)
  have hz : w1.heap.size = w.heap.size + 1 := by rw [← hw1]; simp
  have HZ := hid hz
  clear hw1
  by_cases hbig : 100 < m
  · go_enter Try.func13, Try.ntmps13
    go_wp2_with fail
    rw [HW1.out]
    go_wp2_with fail
    refine (awake6_any w1).mono ?_
    rintro e w2 ⟨rfl, hb⟩
    have HB := hid (HB1.out.trans (hb.mono HB1.out.size))
    clear hb
    go_wp2
    go_ret
    exact ⟨rfl, HB.out⟩
  · obtain ⟨w3, hw3⟩ : ∃ w3, (w1.alloc (.cells #[.slice none 0 0, .slice none 0 0, .slice none 0 0, .nilFunc, .int .i64 0, .bool false] 70)).alloc (.cells #[.pointer none, ptr w1.heap.size] 41) = w3 := ⟨_, rfl⟩
    have HW := hid hw3
    have HB3 : Hid (Below w1.heap.size w1 w3) := hid (by
      have h1 := fresh_alloc w1 (.cells #[.slice none 0 0, .slice none 0 0, .slice none 0 0, .nilFunc, .int .i64 0, .bool false] 70)
      have := h1.alloc h1.size (.cells #[.pointer none, ptr w1.heap.size] 41)
      rw [hw3] at this; exact this)
    have HBX3 := hid (HBX.out.below HB3.out HBX.out.lt)
    have HV : Hid (∀ k : Nat, k < 2 → ∃ v, w3.cell? ⟨w1.heap.size + 1, k, none⟩ = some v ∧ NoneDev w3 v) := hid (by
      intro k hlt
      rw [← hw3]
      have h1 := alloc_new (w1.alloc (.cells #[.slice none 0 0, .slice none 0 0, .slice none 0 0, .nilFunc, .int .i64 0, .bool false] 70)) (.cells #[.pointer none, ptr w1.heap.size] 41)
      rw [show (w1.alloc (.cells #[.slice none 0 0, .slice none 0 0, .slice none 0 0, .nilFunc, .int .i64 0, .bool false] 70)).heap.size = w1.heap.size + 1 by simp] at h1
      match k, hlt with
      | 0, _ => exact ⟨_, cell_blk h1 rfl, .inl rfl⟩
      | 1, _ => exact ⟨_, cell_blk h1 rfl, .inr ⟨_, rfl, cell_blk (alloc_old (alloc_new w1 _) _) rfl⟩⟩)
    clear hw3
    unfold ptr at HW
    rw [hz] at HW HV
    clear hz
    go_enter Try.func13, Try.ntmps13
    go_wp2_with fail
    rw [HW1.out, HW.out]
    clear HW1
    go_loopw [8] (fun i wr => ∃ k : Nat, k ≤ 2 ∧ i = .int .i64 k ∧ Below w3.heap.size w3 wr) (fun i _ => 2 - (intOf i).toNat)
    case atStart => exact ⟨0, by omega, rfl, Below.refl _ _⟩
    case round =>
      obtain ⟨k, hk, rfl, hbr⟩ := hrel
      have HBR := hid hbr
      have HBr := hid (HBX3.out.below hbr HBX3.out.lt)
      clear hbr
      by_cases hlt : k < 2
      · obtain ⟨v, hv0, hN⟩ := HV.out k hlt
        have hv : wr.cell? ⟨w.heap.size + 1 + 1, k, none⟩ = some v := by rw [HBR.out.cell (World.block_lt_of_cell? w3 _ hv0)]; exact hv0
        have HN := hid (hN.below HBR.out)
        clear hN hv0
        have x0 := HBr.out.cell (j := 0) rfl
        have x1 := HBr.out.cell (j := 1) rfl
        have x2 := HBr.out.cell (j := 2) rfl
        go_wp2_with fail
        refine (none6_write f t g at_ ao m c v wr HN.out).mono ?_
        rintro e wa ⟨rfl, hb⟩
        have HNa := hid (HN.out.below hb); have HBa := hid (HBr.out.below hb HBr.out.lt); have HRa := hid (th HBR.out hb)
        clear x0 x1 x2 hb hv
        have x0 := HBa.out.cell (j := 0) rfl
        have x1 := HBa.out.cell (j := 1) rfl
        have x2 := HBa.out.cell (j := 2) rfl
        go_wp2_with fail
        refine (none6_scan f t g v wa HNa.out).mono ?_
        rintro e wb ⟨rfl, hb⟩
        have HNb := hid (HNa.out.below hb); have HBb := hid (HBa.out.below hb HBa.out.lt); have HRb := hid (th HRa.out hb)
        clear x0 x1 x2 hb
        have x0 := HBb.out.cell (j := 0) rfl
        have x1 := HBb.out.cell (j := 1) rfl
        have x2 := HBb.out.cell (j := 2) rfl
        go_wp2_with fail
        refine (none6_check f t g v wb HNb.out).mono ?_
        rintro e wc ⟨rfl, hb⟩
        have HNc := hid (HNb.out.below hb); have HBc := hid (HBb.out.below hb HBb.out.lt); have HRc := hid (th HRb.out hb)
        clear x0 x1 x2 hb
        have x0 := HBc.out.cell (j := 0) rfl
        have x1 := HBc.out.cell (j := 1) rfl
        have x2 := HBc.out.cell (j := 2) rfl
        go_wp2_with fail
        refine (none6_blank f t g v wc HNc.out).mono ?_
        rintro e wd ⟨rfl, hb⟩
        have HRd := hid (th HRc.out hb)
        clear x0 x1 x2 hb
        go_wp2
        go_roundw
        case rel => exact ⟨k + 1, by omega, by go_num, HRd.out⟩
        case measure => simp [intOf]; omega
      · have hk8 : k = 2 := by omega
        subst hk8
        have HB : Hid (Below w.heap.size w wr) := hid (HB1.out.trans (((HB3.out.trans (HBR.out.mono HB3.out.size))).mono HB1.out.size))
        go_wp2_with fail
        refine (awake6_any wr).mono ?_
        rintro e w9 ⟨rfl, hb⟩
        have HB := hid (th HB.out hb)
        clear hb
        go_wp2
        go_ret
        exact ⟨rfl, HB.out⟩
end Go.Proofs.Ytlondopgibcikaa
