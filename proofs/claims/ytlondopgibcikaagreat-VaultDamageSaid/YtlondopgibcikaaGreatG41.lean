/- Law 7: acted. -/
import Derived.Test.YtlondopgibcikaaGreatRows
import Derived.Test.YtlondopgibcikaaGreatG01
import Derived.Test.YtlondopgibcikaaGreatG02
import Derived.Test.YtlondopgibcikaaGreatG06
import Derived.Test.YtlondopgibcikaaGreatG07
import Derived.Test.YtlondopgibcikaaGreatG08
import Derived.Test.YtlondopgibcikaaGreatG09
import Derived.Test.YtlondopgibcikaaGreatG10
import Derived.Test.YtlondopgibcikaaGreatG13
import Derived.Test.YtlondopgibcikaaGreatG16
import Derived.Test.YtlondopgibcikaaGreatG17
import Derived.Test.YtlondopgibcikaaGreatG18
import Derived.Test.YtlondopgibcikaaGreatG19
import Derived.Test.YtlondopgibcikaaGreatG21
import Derived.Test.YtlondopgibcikaaGreatG23
import Derived.Test.YtlondopgibcikaaGreatG24
import Derived.Test.YtlondopgibcikaaGreatG25
import Derived.Test.YtlondopgibcikaaGreatG26
import Derived.Test.YtlondopgibcikaaGreatG27
import Derived.Test.YtlondopgibcikaaGreatG28
import Derived.Test.YtlondopgibcikaaGreatG29
import Derived.Test.YtlondopgibcikaaGreatG30
import Derived.Test.YtlondopgibcikaaGreatG31
import Derived.Test.YtlondopgibcikaaGreatG32
import Derived.Test.YtlondopgibcikaaGreatG33
import Derived.Test.YtlondopgibcikaaGreatG34
import Derived.Test.YtlondopgibcikaaGreatG35
import Derived.Test.YtlondopgibcikaaGreatG36
import Derived.Test.YtlondopgibcikaaGreatG37
import Derived.Test.YtlondopgibcikaaGreatG38
import Derived.Test.YtlondopgibcikaaGreatG39
import Derived.WalkKit
import Derived.WalkSpells
import Derived.WalkLawsBesides
import Derived.Deep.RegionHeld3
import Derived.Deep.QuietTactic
import Derived.BigQuiet
namespace Go.Proofs.YtlondopgibcikaaGreat
open Go.RowKit Ent
theorem bl_lt9 {w : World} {ao : Option Addr} {l : List Bool} (h : BL w ao l) (hne : l ≠ []) : ∀ a, ao = some a → a.block < w.heap.size := by
  intro a ha
  rcases h with h | ⟨b, o, hb, hr⟩
  · exact absurd h hne
  · rw [hb] at ha; injection ha with ha; subst ha
    obtain ⟨x, l', rfl⟩ := List.exists_cons_of_ne_nil hne
    exact World.block_lt_of_cell? w _ (hr 0 _ rfl)
set_option maxRecDepth 100000 in
set_option maxHeartbeats 4000000 in
theorem acted2_any0 {w0 w : World} {a c p : Nat} {d : Dev} {x y : Value} (kind n : Int) (lo : Option Addr) (lc : Nat) (L : List (List UInt8)) (ko : Option Addr) (kc : Nat) (keep : List Bool) (hx : (Act7.mk kind n lo lc L ko kc keep).fits w0) (hL8 : L.length ≤ 8) (hL200 : ∀ r ∈ L, r.length ≤ 200)
    (h : St w0.heap.size w0 w (pairL a c p d x y)) (hkind : kind = 2) :
    Calls Tryz.prog 10 #[ptr p, .agg (Act7.mk kind n lo lc L ko kc keep).cells.toArray] w fun e w' => e = .returned (.bool true) ∧ St w0.heap.size w0 w' (pairL a c p (d.setFuse n).2 x y) := by
  subst hkind
  obtain ⟨m, hm⟩ : ∃ m, L.length = m := ⟨_, rfl⟩
  obtain ⟨q, hq⟩ : ∃ q, keep.length = q := ⟨_, rfl⟩
  obtain ⟨bx, hbx⟩ : ∃ bx, w.heap.size = bx := ⟨_, rfl⟩
  obtain ⟨w1, hw1⟩ : ∃ w1, w.alloc (.cells #[.int .i64 2, .int .i64 n, .slice lo m lc, .slice ko q kc] 42) = w1 := ⟨_, rfl⟩
  have h1 : St w0.heap.size w0 w1 (pairL a c p d x y ++ [blkA bx 42 [.int .i64 2, .int .i64 n, .slice lo m lc, .slice ko q kc]]) := by rw [← hw1, ← hbx]; exact h.box _ _
  have HX := hid hx; have H1 := hid h1; have HW1 := hid hw1; have HBX := hid hbx; have HM := hid hm; have HQ := hid hq; have HL200 := hid hL200
  have HLR : Hid (LR w1 lo L) := hid (hx.lr.below h1.be)
  rw [hm] at hL8
  unfold Act7.cells ptr
  dsimp only
  rw [hm, hq]
  skip
  clear h h1 hx hm hq hw1 hbx hL200
  go_enter Tryz.func10, Tryz.ntmps10
  go_upto_region 1 with fail
  rw [HW1.out, HBX.out]
  have cx2 := (H1.out.blk 3 rfl).cell (j := 2) rfl
  go_wp2_with fail
  refine (copyLists_any lo m lc L HM.out.symm (by omega) (fun l hl => by have := HL200.out l hl; omega) w1 HLR.out).mono ?_
  rintro e w2 ⟨vL, rfl, hf2, hb2⟩
  obtain ⟨vo, vc, rfl, _⟩ := listA_lst hf2.listA
  rw [HM.out] at hf2 ⊢
  have HF2 := hid hf2; have HB2 := hid hb2
  clear hf2 hb2 cx2
  have H2 := hid (H1.out.below HB2.out)
  have hp0 := H2.out.blk 2 rfl
  have hx0 := H2.out.blk 3 rfl
  have hS0 : w2.cell? ⟨p, 0, none⟩ = some (.pointer (some ⟨a, 0, none⟩)) ∧ w2.cell? ⟨p, 2, none⟩ = some (.pointer (some ⟨c, 0, none⟩)) ∧ w2.cell? ⟨bx, 1, none⟩ = some (.int .i64 n) := ⟨hp0.cell (j := 0) rfl, hp0.cell (j := 2) rfl, hx0.cell (j := 1) rfl⟩
  clear hp0 hx0
  have cx0 := (H2.out.blk 3 rfl).cell (j := 0) rfl
  go_upto_region 17 with fail
  refine wp_region_held_drew (S := fun w' => w'.cell? ⟨p, 0, none⟩ = some (.pointer (some ⟨a, 0, none⟩)) ∧ w'.cell? ⟨p, 2, none⟩ = some (.pointer (some ⟨c, 0, none⟩)) ∧ w'.cell? ⟨bx, 1, none⟩ = some (.int .i64 n)) (by kernel_rfl) hS0 (fun hS => ?_)
  refine tkH (i := 0) (v := ?v0x1f) (y := Or.inl ⟨by rfl, ?y0x1f⟩) (s := hS) (h := ?r0x1f)
  case y0x1f => (intro w' hSw; (try dsimp only at hSw); go_simp; (try with_reducible rfl))
  simp only [Act.put, sA, sB, sC]
  refine tkH (i := 1) (v := ?v1x2f) (y := Or.inl ⟨by rfl, ?y1x2f⟩) (s := hS) (h := ?r1x2f)
  case y1x2f => (intro w' hSw; (try dsimp only at hSw); go_simp; (try with_reducible rfl))
  simp only [Act.put, sA, sB, sC]
  refine tkH (i := 2) (v := ?v2x3f) (y := Or.inl ⟨by rfl, ?y2x3f⟩) (s := hS) (h := ?r2x3f)
  case y2x3f => (intro w' hSw; (try dsimp only at hSw); go_simp; (try with_reducible rfl))
  simp only [Act.put, sA, sB, sC]
  refine tkH (i := 3) (v := ?v3x4f) (y := Or.inl ⟨by rfl, ?y3x4f⟩) (s := hS) (h := ?r3x4f)
  case y3x4f => (intro w' hSw; (try dsimp only at hSw); go_simp; (try with_reducible rfl))
  simp only [Act.put, sA, sB, sC]
  refine tkH (i := 4) (v := ?v4x5f) (y := Or.inl ⟨by rfl, ?y4x5f⟩) (s := hS) (h := ?r4x5f)
  case y4x5f => (intro w' hSw; (try dsimp only at hSw); go_simp; (try with_reducible rfl))
  simp only [Act.put, sA, sB, sC]
  refine tkH (i := 5) (v := ?v5x6f) (y := Or.inl ⟨by rfl, ?y5x6f⟩) (s := hS) (h := ?r5x6f)
  case y5x6f => (intro w' hSw; (try dsimp only at hSw); go_simp; (try with_reducible rfl))
  simp only [Act.put, sA, sB, sC]
  refine tkH (i := 7) (v := ?v7x7f) (y := Or.inl ⟨by rfl, ?y7x7f⟩) (s := hS) (h := ?r7x7f)
  case y7x7f => (intro w' hSw; (try dsimp only at hSw); go_simp; (try with_reducible rfl))
  simp only [Act.put, sA, sB, sC]
  refine tkH (i := 8) (v := ?v8x8f) (y := Or.inl ⟨by rfl, ?y8x8f⟩) (s := hS) (h := ?r8x8f)
  case y8x8f => (intro w' hSw; (try dsimp only at hSw); go_simp; (try with_reducible rfl))
  simp only [Act.put, sA, sB, sC]
  refine tkH (i := 9) (v := ?v9x9f) (y := Or.inl ⟨by rfl, ?y9x9f⟩) (s := hS) (h := ?r9x9f)
  case y9x9f => (intro w' hSw; (try dsimp only at hSw); go_simp; (try with_reducible rfl))
  simp only [Act.put, sA, sB, sC]
  refine tkH (i := 10) (v := ?v10x10f) (y := Or.inl ⟨by rfl, ?y10x10f⟩) (s := hS) (h := ?r10x10f)
  case y10x10f => (intro w' hSw; (try dsimp only at hSw); go_simp; (try with_reducible rfl))
  simp only [Act.put, sA, sB, sC]
  refine tkH (i := 11) (v := ?v11x11f) (y := Or.inl ⟨by rfl, ?y11x11f⟩) (s := hS) (h := ?r11x11f)
  case y11x11f => (intro w' hSw; (try dsimp only at hSw); go_simp; (try with_reducible rfl))
  simp only [Act.put, sA, sB, sC]
  refine tkH (i := 12) (v := ?v12x12f) (y := Or.inl ⟨by rfl, ?y12x12f⟩) (s := hS) (h := ?r12x12f)
  case y12x12f => (intro w' hSw; (try dsimp only at hSw); go_simp; (try with_reducible rfl))
  simp only [Act.put, sA, sB, sC]
  refine rdH (i := 6) (h := fun K hK => ?_)
  go_simp
  have H2d := hid (H2.out.below (Below.refl _ _).drew)
  refine (H2d.out.dev_fuse 0 rfl n HX.out.n1.1 HX.out.n1.2).mono ?_
  rintro e w5 ⟨rfl, h5⟩
  have h5 : St w0.heap.size w0 w5 [dev a (d.setFuse n).2, rdev c d, blkA p 37 [ptr a, x, ptr c, y], blkA bx 42 [.int .i64 2, .int .i64 n, .slice lo m lc, .slice ko q kc]] := h5
  have H5 := hid h5
  have hp5 := h5.blk 2 rfl
  have hx5 := h5.blk 3 rfl
  have hS5 : w5.cell? ⟨p, 0, none⟩ = some (.pointer (some ⟨a, 0, none⟩)) ∧ w5.cell? ⟨p, 2, none⟩ = some (.pointer (some ⟨c, 0, none⟩)) ∧ w5.cell? ⟨bx, 1, none⟩ = some (.int .i64 n) := ⟨hp5.cell (j := 0) rfl, hp5.cell (j := 2) rfl, hx5.cell (j := 1) rfl⟩
  clear hp5 hx5
  clear h5
  refine hK.out _ _ ?k6x13f (fun hS => ?s6x13f)
  case k6x13f => exact hS5
  clear hK K
  try simp only [Act.put, sA, sB, sC]
  refine rdH (i := 13) (h := fun K hK => ?_)
  go_simp
  refine (H5.out.rdev_fuse 1 rfl n HX.out.n1.1 HX.out.n1.2).mono ?_
  rintro e w7 ⟨rfl, h7⟩
  have h7 : St w0.heap.size w0 w7 [dev a (d.setFuse n).2, rdev c (d.setFuse n).2, blkA p 37 [ptr a, x, ptr c, y], blkA bx 42 [.int .i64 2, .int .i64 n, .slice lo m lc, .slice ko q kc]] := h7
  have H7 := hid h7
  have hp7 := h7.blk 2 rfl
  have hx7 := h7.blk 3 rfl
  have hS7 : w7.cell? ⟨p, 0, none⟩ = some (.pointer (some ⟨a, 0, none⟩)) ∧ w7.cell? ⟨p, 2, none⟩ = some (.pointer (some ⟨c, 0, none⟩)) ∧ w7.cell? ⟨bx, 1, none⟩ = some (.int .i64 n) := ⟨hp7.cell (j := 0) rfl, hp7.cell (j := 2) rfl, hx7.cell (j := 1) rfl⟩
  clear hp7 hx7
  clear h7
  refine hK.out _ _ ?k13x14f (fun hS => ?s13x14f)
  case k13x14f => exact hS7
  clear hK K
  try simp only [Act.put, sA, sB, sC]
  refine tkH (i := 14) (v := ?v14x15f) (y := Or.inl ⟨by rfl, ?y14x15f⟩) (s := hS) (h := ?r14x15f)
  case y14x15f => (intro w' hSw; (try dsimp only at hSw); go_simp; (try with_reducible rfl))
  simp only [Act.put, sA, sB, sC]
  refine tkH (i := 15) (v := ?v15x16f) (y := Or.inl ⟨by rfl, ?y15x16f⟩) (s := hS) (h := ?r15x16f)
  case y15x16f => (intro w' hSw; (try dsimp only at hSw); go_simp; (try with_reducible rfl))
  simp only [Act.put, sA, sB, sC]
  refine wpAnyH_done (by kernel_rfl) ?_ _
  clear hS hS5 hS7
  go_wp2
  go_ret
  exact ⟨rfl, H7.out.take 3⟩
set_option maxRecDepth 100000 in
set_option maxHeartbeats 4000000 in
theorem acted2_any2 {w0 w : World} {a c p : Nat} {d : Dev} {x y : Value} {A0 A1 : Asset} (kind n : Int) (lo : Option Addr) (lc : Nat) (L : List (List UInt8)) (ko : Option Addr) (kc : Nat) (keep : List Bool) (hx : (Act7.mk kind n lo lc L ko kc keep).fits w0) (hL8 : L.length ≤ 8) (hL200 : ∀ r ∈ L, r.length ≤ 200)
    (h : St w0.heap.size w0 w (pairL a c p d x y ++ [A0, A1])) (hkind : kind = 2) :
    Calls Tryz.prog 10 #[ptr p, .agg (Act7.mk kind n lo lc L ko kc keep).cells.toArray] w fun e w' => e = .returned (.bool true) ∧ St w0.heap.size w0 w' (pairL a c p (d.setFuse n).2 x y ++ [A0, A1]) := by
  subst hkind
  obtain ⟨m, hm⟩ : ∃ m, L.length = m := ⟨_, rfl⟩
  obtain ⟨q, hq⟩ : ∃ q, keep.length = q := ⟨_, rfl⟩
  obtain ⟨bx, hbx⟩ : ∃ bx, w.heap.size = bx := ⟨_, rfl⟩
  obtain ⟨w1, hw1⟩ : ∃ w1, w.alloc (.cells #[.int .i64 2, .int .i64 n, .slice lo m lc, .slice ko q kc] 42) = w1 := ⟨_, rfl⟩
  have h1 : St w0.heap.size w0 w1 (pairL a c p d x y ++ [A0, A1] ++ [blkA bx 42 [.int .i64 2, .int .i64 n, .slice lo m lc, .slice ko q kc]]) := by rw [← hw1, ← hbx]; exact h.box _ _
  have HX := hid hx; have H1 := hid h1; have HW1 := hid hw1; have HBX := hid hbx; have HM := hid hm; have HQ := hid hq; have HL200 := hid hL200
  have HLR : Hid (LR w1 lo L) := hid (hx.lr.below h1.be)
  rw [hm] at hL8
  unfold Act7.cells ptr
  dsimp only
  rw [hm, hq]
  skip
  clear h h1 hx hm hq hw1 hbx hL200
  go_enter Tryz.func10, Tryz.ntmps10
  go_upto_region 1 with fail
  rw [HW1.out, HBX.out]
  have cx2 := (H1.out.blk 5 rfl).cell (j := 2) rfl
  go_wp2_with fail
  refine (copyLists_any lo m lc L HM.out.symm (by omega) (fun l hl => by have := HL200.out l hl; omega) w1 HLR.out).mono ?_
  rintro e w2 ⟨vL, rfl, hf2, hb2⟩
  obtain ⟨vo, vc, rfl, _⟩ := listA_lst hf2.listA
  rw [HM.out] at hf2 ⊢
  have HF2 := hid hf2; have HB2 := hid hb2
  clear hf2 hb2 cx2
  have H2 := hid (H1.out.below HB2.out)
  have hp0 := H2.out.blk 2 rfl
  have hx0 := H2.out.blk 5 rfl
  have hS0 : w2.cell? ⟨p, 0, none⟩ = some (.pointer (some ⟨a, 0, none⟩)) ∧ w2.cell? ⟨p, 2, none⟩ = some (.pointer (some ⟨c, 0, none⟩)) ∧ w2.cell? ⟨bx, 1, none⟩ = some (.int .i64 n) := ⟨hp0.cell (j := 0) rfl, hp0.cell (j := 2) rfl, hx0.cell (j := 1) rfl⟩
  clear hp0 hx0
  have cx0 := (H2.out.blk 5 rfl).cell (j := 0) rfl
  go_upto_region 17 with fail
  refine wp_region_held_drew (S := fun w' => w'.cell? ⟨p, 0, none⟩ = some (.pointer (some ⟨a, 0, none⟩)) ∧ w'.cell? ⟨p, 2, none⟩ = some (.pointer (some ⟨c, 0, none⟩)) ∧ w'.cell? ⟨bx, 1, none⟩ = some (.int .i64 n)) (by kernel_rfl) hS0 (fun hS => ?_)
  refine tkH (i := 0) (v := ?v0x1f) (y := Or.inl ⟨by rfl, ?y0x1f⟩) (s := hS) (h := ?r0x1f)
  case y0x1f => (intro w' hSw; (try dsimp only at hSw); go_simp; (try with_reducible rfl))
  simp only [Act.put, sA, sB, sC]
  refine tkH (i := 1) (v := ?v1x2f) (y := Or.inl ⟨by rfl, ?y1x2f⟩) (s := hS) (h := ?r1x2f)
  case y1x2f => (intro w' hSw; (try dsimp only at hSw); go_simp; (try with_reducible rfl))
  simp only [Act.put, sA, sB, sC]
  refine tkH (i := 2) (v := ?v2x3f) (y := Or.inl ⟨by rfl, ?y2x3f⟩) (s := hS) (h := ?r2x3f)
  case y2x3f => (intro w' hSw; (try dsimp only at hSw); go_simp; (try with_reducible rfl))
  simp only [Act.put, sA, sB, sC]
  refine tkH (i := 3) (v := ?v3x4f) (y := Or.inl ⟨by rfl, ?y3x4f⟩) (s := hS) (h := ?r3x4f)
  case y3x4f => (intro w' hSw; (try dsimp only at hSw); go_simp; (try with_reducible rfl))
  simp only [Act.put, sA, sB, sC]
  refine tkH (i := 4) (v := ?v4x5f) (y := Or.inl ⟨by rfl, ?y4x5f⟩) (s := hS) (h := ?r4x5f)
  case y4x5f => (intro w' hSw; (try dsimp only at hSw); go_simp; (try with_reducible rfl))
  simp only [Act.put, sA, sB, sC]
  refine tkH (i := 5) (v := ?v5x6f) (y := Or.inl ⟨by rfl, ?y5x6f⟩) (s := hS) (h := ?r5x6f)
  case y5x6f => (intro w' hSw; (try dsimp only at hSw); go_simp; (try with_reducible rfl))
  simp only [Act.put, sA, sB, sC]
  refine tkH (i := 7) (v := ?v7x7f) (y := Or.inl ⟨by rfl, ?y7x7f⟩) (s := hS) (h := ?r7x7f)
  case y7x7f => (intro w' hSw; (try dsimp only at hSw); go_simp; (try with_reducible rfl))
  simp only [Act.put, sA, sB, sC]
  refine tkH (i := 8) (v := ?v8x8f) (y := Or.inl ⟨by rfl, ?y8x8f⟩) (s := hS) (h := ?r8x8f)
  case y8x8f => (intro w' hSw; (try dsimp only at hSw); go_simp; (try with_reducible rfl))
  simp only [Act.put, sA, sB, sC]
  refine tkH (i := 9) (v := ?v9x9f) (y := Or.inl ⟨by rfl, ?y9x9f⟩) (s := hS) (h := ?r9x9f)
  case y9x9f => (intro w' hSw; (try dsimp only at hSw); go_simp; (try with_reducible rfl))
  simp only [Act.put, sA, sB, sC]
  refine tkH (i := 10) (v := ?v10x10f) (y := Or.inl ⟨by rfl, ?y10x10f⟩) (s := hS) (h := ?r10x10f)
  case y10x10f => (intro w' hSw; (try dsimp only at hSw); go_simp; (try with_reducible rfl))
  simp only [Act.put, sA, sB, sC]
  refine tkH (i := 11) (v := ?v11x11f) (y := Or.inl ⟨by rfl, ?y11x11f⟩) (s := hS) (h := ?r11x11f)
  case y11x11f => (intro w' hSw; (try dsimp only at hSw); go_simp; (try with_reducible rfl))
  simp only [Act.put, sA, sB, sC]
  refine tkH (i := 12) (v := ?v12x12f) (y := Or.inl ⟨by rfl, ?y12x12f⟩) (s := hS) (h := ?r12x12f)
  case y12x12f => (intro w' hSw; (try dsimp only at hSw); go_simp; (try with_reducible rfl))
  simp only [Act.put, sA, sB, sC]
  refine rdH (i := 6) (h := fun K hK => ?_)
  go_simp
  have H2d := hid (H2.out.below (Below.refl _ _).drew)
  refine (H2d.out.dev_fuse 0 rfl n HX.out.n1.1 HX.out.n1.2).mono ?_
  rintro e w5 ⟨rfl, h5⟩
  have h5 : St w0.heap.size w0 w5 [dev a (d.setFuse n).2, rdev c d, blkA p 37 [ptr a, x, ptr c, y], A0, A1, blkA bx 42 [.int .i64 2, .int .i64 n, .slice lo m lc, .slice ko q kc]] := h5
  have H5 := hid h5
  have hp5 := h5.blk 2 rfl
  have hx5 := h5.blk 5 rfl
  have hS5 : w5.cell? ⟨p, 0, none⟩ = some (.pointer (some ⟨a, 0, none⟩)) ∧ w5.cell? ⟨p, 2, none⟩ = some (.pointer (some ⟨c, 0, none⟩)) ∧ w5.cell? ⟨bx, 1, none⟩ = some (.int .i64 n) := ⟨hp5.cell (j := 0) rfl, hp5.cell (j := 2) rfl, hx5.cell (j := 1) rfl⟩
  clear hp5 hx5
  clear h5
  refine hK.out _ _ ?k6x13f (fun hS => ?s6x13f)
  case k6x13f => exact hS5
  clear hK K
  try simp only [Act.put, sA, sB, sC]
  refine rdH (i := 13) (h := fun K hK => ?_)
  go_simp
  refine (H5.out.rdev_fuse 1 rfl n HX.out.n1.1 HX.out.n1.2).mono ?_
  rintro e w7 ⟨rfl, h7⟩
  have h7 : St w0.heap.size w0 w7 [dev a (d.setFuse n).2, rdev c (d.setFuse n).2, blkA p 37 [ptr a, x, ptr c, y], A0, A1, blkA bx 42 [.int .i64 2, .int .i64 n, .slice lo m lc, .slice ko q kc]] := h7
  have H7 := hid h7
  have hp7 := h7.blk 2 rfl
  have hx7 := h7.blk 5 rfl
  have hS7 : w7.cell? ⟨p, 0, none⟩ = some (.pointer (some ⟨a, 0, none⟩)) ∧ w7.cell? ⟨p, 2, none⟩ = some (.pointer (some ⟨c, 0, none⟩)) ∧ w7.cell? ⟨bx, 1, none⟩ = some (.int .i64 n) := ⟨hp7.cell (j := 0) rfl, hp7.cell (j := 2) rfl, hx7.cell (j := 1) rfl⟩
  clear hp7 hx7
  clear h7
  refine hK.out _ _ ?k13x14f (fun hS => ?s13x14f)
  case k13x14f => exact hS7
  clear hK K
  try simp only [Act.put, sA, sB, sC]
  refine tkH (i := 14) (v := ?v14x15f) (y := Or.inl ⟨by rfl, ?y14x15f⟩) (s := hS) (h := ?r14x15f)
  case y14x15f => (intro w' hSw; (try dsimp only at hSw); go_simp; (try with_reducible rfl))
  simp only [Act.put, sA, sB, sC]
  refine tkH (i := 15) (v := ?v15x16f) (y := Or.inl ⟨by rfl, ?y15x16f⟩) (s := hS) (h := ?r15x16f)
  case y15x16f => (intro w' hSw; (try dsimp only at hSw); go_simp; (try with_reducible rfl))
  simp only [Act.put, sA, sB, sC]
  refine wpAnyH_done (by kernel_rfl) ?_ _
  clear hS hS5 hS7
  go_wp2
  go_ret
  exact ⟨rfl, H7.out.take 5⟩
set_option maxRecDepth 100000 in
set_option maxHeartbeats 4000000 in
theorem acted3_any {w0 w : World} {a c p : Nat} {d : Dev} {x y : Value} (kind n : Int) (lo : Option Addr) (lc : Nat) (L : List (List UInt8)) (ko : Option Addr) (kc : Nat) (keep : List Bool) (hx : (Act7.mk kind n lo lc L ko kc keep).fits w0) (hL8 : L.length ≤ 8) (hL200 : ∀ r ∈ L, r.length ≤ 200) (hk60 : keep.length ≤ 60)
    (h : St w0.heap.size w0 w (pairL a c p d x y)) (hkind : kind = 3) (hn : d.img.length ≤ 1000) (hlo : d.loose.length ≤ 100000000) :
    Calls Tryz.prog 10 #[ptr p, .agg (Act7.mk kind n lo lc L ko kc keep).cells.toArray] w fun e w' => e = .returned (.bool true) ∧ Scn w0.heap.size w0 w' a c p (openD (d.crash keep n).2).2.1 (openD (d.crash keep n).2).2.2 ∧ (d.crash keep n).2.ok := by
  subst hkind
  have HCL := hid (crash_loose d keep n)
  obtain ⟨m, hm⟩ : ∃ m, L.length = m := ⟨_, rfl⟩
  obtain ⟨q, hq⟩ : ∃ q, keep.length = q := ⟨_, rfl⟩
  obtain ⟨bx, hbx⟩ : ∃ bx, w.heap.size = bx := ⟨_, rfl⟩
  obtain ⟨w1, hw1⟩ : ∃ w1, w.alloc (.cells #[.int .i64 3, .int .i64 n, .slice lo m lc, .slice ko q kc] 42) = w1 := ⟨_, rfl⟩
  have h1 : St w0.heap.size w0 w1 (pairL a c p d x y ++ [blkA bx 42 [.int .i64 3, .int .i64 n, .slice lo m lc, .slice ko q kc]]) := by rw [← hw1, ← hbx]; exact h.box _ _
  have HX := hid hx; have H1 := hid h1; have HW1 := hid hw1; have HBX := hid hbx; have HM := hid hm; have HQ := hid hq; have HL200 := hid hL200
  have HLR : Hid (LR w1 lo L) := hid (hx.lr.below h1.be)
  rw [hm] at hL8
  unfold Act7.cells ptr
  dsimp only
  rw [hm, hq]
  rw [hq] at hk60
  clear h h1 hx hm hq hw1 hbx hL200
  go_enter Tryz.func10, Tryz.ntmps10
  go_upto_region 1 with fail
  rw [HW1.out, HBX.out]
  have cx2 := (H1.out.blk 3 rfl).cell (j := 2) rfl
  go_wp2_with fail
  refine (copyLists_any lo m lc L HM.out.symm (by omega) (fun l hl => by have := HL200.out l hl; omega) w1 HLR.out).mono ?_
  rintro e w2 ⟨vL, rfl, hf2, hb2⟩
  obtain ⟨vo, vc, rfl, _⟩ := listA_lst hf2.listA
  rw [HM.out] at hf2 ⊢
  have HF2 := hid hf2; have HB2 := hid hb2
  clear hf2 hb2 cx2
  have H2 := hid (H1.out.below HB2.out)
  have hp0 := H2.out.blk 2 rfl
  have hx0 := H2.out.blk 3 rfl
  have hS0 : w2.cell? ⟨p, 0, none⟩ = some (.pointer (some ⟨a, 0, none⟩)) ∧ w2.cell? ⟨p, 2, none⟩ = some (.pointer (some ⟨c, 0, none⟩)) ∧ w2.cell? ⟨bx, 1, none⟩ = some (.int .i64 n) ∧ w2.cell? ⟨bx, 3, none⟩ = some (.slice ko q kc) := ⟨hp0.cell (j := 0) rfl, hp0.cell (j := 2) rfl, hx0.cell (j := 1) rfl, hx0.cell (j := 3) rfl⟩
  clear hp0 hx0
  have cx0 := (H2.out.blk 3 rfl).cell (j := 0) rfl
  go_upto_region 19 with fail
  refine wp_region_held_drew (S := fun w' => w'.cell? ⟨p, 0, none⟩ = some (.pointer (some ⟨a, 0, none⟩)) ∧ w'.cell? ⟨p, 2, none⟩ = some (.pointer (some ⟨c, 0, none⟩)) ∧ w'.cell? ⟨bx, 1, none⟩ = some (.int .i64 n) ∧ w'.cell? ⟨bx, 3, none⟩ = some (.slice ko q kc)) (by kernel_rfl) hS0 (fun hS => ?_)
  refine tkH (i := 0) (v := ?v0x1c) (y := Or.inl ⟨by rfl, ?y0x1c⟩) (s := hS) (h := ?r0x1c)
  case y0x1c => (intro w' hSw; (try dsimp only at hSw); go_simp; (try with_reducible rfl))
  simp only [Act.put, sA, sB, sC]
  refine tkH (i := 1) (v := ?v1x2c) (y := Or.inl ⟨by rfl, ?y1x2c⟩) (s := hS) (h := ?r1x2c)
  case y1x2c => (intro w' hSw; (try dsimp only at hSw); go_simp; (try with_reducible rfl))
  simp only [Act.put, sA, sB, sC]
  refine tkH (i := 2) (v := ?v2x3c) (y := Or.inl ⟨by rfl, ?y2x3c⟩) (s := hS) (h := ?r2x3c)
  case y2x3c => (intro w' hSw; (try dsimp only at hSw); go_simp; (try with_reducible rfl))
  simp only [Act.put, sA, sB, sC]
  refine tkH (i := 3) (v := ?v3x4c) (y := Or.inl ⟨by rfl, ?y3x4c⟩) (s := hS) (h := ?r3x4c)
  case y3x4c => (intro w' hSw; (try dsimp only at hSw); go_simp; (try with_reducible rfl))
  simp only [Act.put, sA, sB, sC]
  refine tkH (i := 4) (v := ?v4x5c) (y := Or.inl ⟨by rfl, ?y4x5c⟩) (s := hS) (h := ?r4x5c)
  case y4x5c => (intro w' hSw; (try dsimp only at hSw); go_simp; (try with_reducible rfl))
  simp only [Act.put, sA, sB, sC]
  refine tkH (i := 5) (v := ?v5x6c) (y := Or.inl ⟨by rfl, ?y5x6c⟩) (s := hS) (h := ?r5x6c)
  case y5x6c => (intro w' hSw; (try dsimp only at hSw); go_simp; (try with_reducible rfl))
  simp only [Act.put, sA, sB, sC]
  refine tkH (i := 6) (v := ?v6x7c) (y := Or.inl ⟨by rfl, ?y6x7c⟩) (s := hS) (h := ?r6x7c)
  case y6x7c => (intro w' hSw; (try dsimp only at hSw); go_simp; (try with_reducible rfl))
  simp only [Act.put, sA, sB, sC]
  refine tkH (i := 7) (v := ?v7x8c) (y := Or.inl ⟨by rfl, ?y7x8c⟩) (s := hS) (h := ?r7x8c)
  case y7x8c => (intro w' hSw; (try dsimp only at hSw); go_simp; (try with_reducible rfl))
  simp only [Act.put, sA, sB, sC]
  refine tkH (i := 9) (v := ?v9x9c) (y := Or.inl ⟨by rfl, ?y9x9c⟩) (s := hS) (h := ?r9x9c)
  case y9x9c => (intro w' hSw; (try dsimp only at hSw); go_simp; (try with_reducible rfl))
  simp only [Act.put, sA, sB, sC]
  refine tkH (i := 10) (v := ?v10x10c) (y := Or.inl ⟨by rfl, ?y10x10c⟩) (s := hS) (h := ?r10x10c)
  case y10x10c => (intro w' hSw; (try dsimp only at hSw); go_simp; (try with_reducible rfl))
  simp only [Act.put, sA, sB, sC]
  refine tkH (i := 11) (v := ?v11x11c) (y := Or.inl ⟨by rfl, ?y11x11c⟩) (s := hS) (h := ?r11x11c)
  case y11x11c => (intro w' hSw; (try dsimp only at hSw); go_simp; (try with_reducible rfl))
  simp only [Act.put, sA, sB, sC]
  refine tkH (i := 12) (v := ?v12x12c) (y := Or.inl ⟨by rfl, ?y12x12c⟩) (s := hS) (h := ?r12x12c)
  case y12x12c => (intro w' hSw; (try dsimp only at hSw); go_simp; (try with_reducible rfl))
  simp only [Act.put, sA, sB, sC]
  refine tkH (i := 13) (v := ?v13x13c) (y := Or.inl ⟨by rfl, ?y13x13c⟩) (s := hS) (h := ?r13x13c)
  case y13x13c => (intro w' hSw; (try dsimp only at hSw); go_simp; (try with_reducible rfl))
  simp only [Act.put, sA, sB, sC]
  refine tkH (i := 14) (v := ?v14x14c) (y := Or.inl ⟨by rfl, ?y14x14c⟩) (s := hS) (h := ?r14x14c)
  case y14x14c => (intro w' hSw; (try dsimp only at hSw); go_simp; (try with_reducible rfl))
  simp only [Act.put, sA, sB, sC]
  refine tkH (i := 15) (v := ?v15x15c) (y := Or.inl ⟨by rfl, ?y15x15c⟩) (s := hS) (h := ?r15x15c)
  case y15x15c => (intro w' hSw; (try dsimp only at hSw); go_simp; (try with_reducible rfl))
  simp only [Act.put, sA, sB, sC]
  refine tkH (i := 16) (v := ?v16x16c) (y := Or.inl ⟨by rfl, ?y16x16c⟩) (s := hS) (h := ?r16x16c)
  case y16x16c => (intro w' hSw; (try dsimp only at hSw); go_simp; (try with_reducible rfl))
  simp only [Act.put, sA, sB, sC]
  refine rdH (i := 8) (h := fun K hK => ?_)
  go_simp
  have H2d := hid (H2.out.below (Below.refl _ _).drew)
  refine (H2d.out.dev_crash 0 rfl ko q kc keep HQ.out.symm n (HX.out.bl.below H2d.out.be) (fun hne => .inl (bl_lt9 HX.out.bl hne)) (by omega) (by omega)).mono ?_
  rintro e w5 ⟨rfl, h5⟩
  have h5 : St w0.heap.size w0 w5 [dev a (d.crash keep n).2, rdev c d, blkA p 37 [ptr a, x, ptr c, y], blkA bx 42 [.int .i64 3, .int .i64 n, .slice lo m lc, .slice ko q kc]] := h5
  have H5 := hid h5
  have hp5 := h5.blk 2 rfl
  have hx5 := h5.blk 3 rfl
  have hS5 : w5.cell? ⟨p, 0, none⟩ = some (.pointer (some ⟨a, 0, none⟩)) ∧ w5.cell? ⟨p, 2, none⟩ = some (.pointer (some ⟨c, 0, none⟩)) ∧ w5.cell? ⟨bx, 1, none⟩ = some (.int .i64 n) ∧ w5.cell? ⟨bx, 3, none⟩ = some (.slice ko q kc) := ⟨hp5.cell (j := 0) rfl, hp5.cell (j := 2) rfl, hx5.cell (j := 1) rfl, hx5.cell (j := 3) rfl⟩
  clear hp5 hx5
  clear h5
  refine hK.out _ _ ?k8x17c (fun hS => ?s8x17c)
  case k8x17c => exact hS5
  clear hK K
  try simp only [Act.put, sA, sB, sC]
  refine rdH (i := 17) (h := fun K hK => ?_)
  go_simp
  refine (H5.out.rdev_crash 1 rfl ko q kc keep HQ.out.symm n (HX.out.bl.below H5.out.be) (fun hne => .inl (bl_lt9 HX.out.bl hne)) (by omega) (by omega) (H5.out.ok 0 rfl)).mono ?_
  rintro e w7 ⟨rfl, h7⟩
  have h7 : St w0.heap.size w0 w7 (pairL a c p (d.crash keep n).2 x y ++ [blkA bx 42 [.int .i64 3, .int .i64 n, .slice lo m lc, .slice ko q kc]]) := h7
  have H7 := hid h7
  have hp7 := h7.blk 2 rfl
  have hx7 := h7.blk 3 rfl
  have hS7 : w7.cell? ⟨p, 0, none⟩ = some (.pointer (some ⟨a, 0, none⟩)) ∧ w7.cell? ⟨p, 2, none⟩ = some (.pointer (some ⟨c, 0, none⟩)) ∧ w7.cell? ⟨bx, 1, none⟩ = some (.int .i64 n) ∧ w7.cell? ⟨bx, 3, none⟩ = some (.slice ko q kc) := ⟨hp7.cell (j := 0) rfl, hp7.cell (j := 2) rfl, hx7.cell (j := 1) rfl, hx7.cell (j := 3) rfl⟩
  clear hp7 hx7
  clear h7
  refine hK.out _ _ ?k17x18c (fun hS => ?s17x18c)
  case k17x18c => exact hS7
  clear hK K
  try simp only [Act.put, sA, sB, sC]
  refine tkH (i := 18) (v := ?v18x19c) (y := Or.inl ⟨by rfl, ?y18x19c⟩) (s := hS) (h := ?r18x19c)
  case y18x19c => (intro w' hSw; (try dsimp only at hSw); go_simp; (try with_reducible rfl))
  simp only [Act.put, sA, sB, sC]
  refine tkH (i := 19) (v := ?v19x20c) (y := Or.inl ⟨by rfl, ?y19x20c⟩) (s := hS) (h := ?r19x20c)
  case y19x20c => (intro w' hSw; (try dsimp only at hSw); go_simp; (try with_reducible rfl))
  simp only [Act.put, sA, sB, sC]
  refine tkH (i := 20) (v := ?v20x21c) (y := Or.inl ⟨by rfl, ?y20x21c⟩) (s := hS) (h := ?r20x21c)
  case y20x21c => (intro w' hSw; (try dsimp only at hSw); go_simp; (try with_reducible rfl))
  simp only [Act.put, sA, sB, sC]
  refine rdH (i := 21) (h := fun K hK => ?_)
  go_simp
  try (refine if_wanted (by first | rfl | kernel_rfl) ?_; go_simp)
  refine (opens_any H7.out (by rw [HCL.out.2]; exact hn) (Nat.le_trans HCL.out.1 hlo)).mono ?_
  rintro e w8 ⟨rfl, h8⟩
  have H8 := hid h8
  obtain ⟨x8, y8, h9⟩ := h8.pair
  have hp8 := h9.blk 2 rfl
  have hx8 := h9.blk 3 rfl
  have hS8 : w8.cell? ⟨p, 0, none⟩ = some (.pointer (some ⟨a, 0, none⟩)) ∧ w8.cell? ⟨p, 2, none⟩ = some (.pointer (some ⟨c, 0, none⟩)) ∧ w8.cell? ⟨bx, 1, none⟩ = some (.int .i64 n) ∧ w8.cell? ⟨bx, 3, none⟩ = some (.slice ko q kc) := ⟨hp8.cell (j := 0) rfl, hp8.cell (j := 2) rfl, hx8.cell (j := 1) rfl, hx8.cell (j := 3) rfl⟩
  clear hp8 hx8
  clear h8 h9
  refine hK.out _ _ ?k21x22c (fun hS => ?s21x22c)
  case k21x22c => exact hS8
  clear hK K
  try simp only [Act.put, sA, sB, sC]
  refine tkH (i := 22) (v := ?v22x23c) (y := Or.inl ⟨by rfl, ?y22x23c⟩) (s := hS) (h := ?r22x23c)
  case y22x23c => (intro w' hSw; (try dsimp only at hSw); go_simp; (try with_reducible rfl))
  simp only [Act.put, sA, sB, sC]
  refine tkH (i := 23) (v := ?v23x24c) (y := Or.inl ⟨by rfl, ?y23x24c⟩) (s := hS) (h := ?r23x24c)
  case y23x24c => (intro w' hSw; (try dsimp only at hSw); go_simp; (try with_reducible rfl))
  simp only [Act.put, sA, sB, sC]
  refine wpAnyH_done (by kernel_rfl) ?_ _
  clear hS hS5 hS7 hS8
  go_wp2
  go_ret
  exact ⟨rfl, H8.out.drop, H7.out.ok 0 rfl⟩
set_option maxRecDepth 100000 in
set_option maxHeartbeats 4000000 in
theorem acted4_any {w0 w : World} {a c p : Nat} {d : Dev} {x y : Value} (kind n : Int) (lo : Option Addr) (lc : Nat) (L : List (List UInt8)) (ko : Option Addr) (kc : Nat) (keep : List Bool) (hx : (Act7.mk kind n lo lc L ko kc keep).fits w0) (hL8 : L.length ≤ 8) (hL200 : ∀ r ∈ L, r.length ≤ 200)
    (h : St w0.heap.size w0 w (pairL a c p d x y)) (hkind : kind = 4) (hn : d.img.length ≤ 1000) (hlo : d.loose.length ≤ 100000000) :
    Calls Tryz.prog 10 #[ptr p, .agg (Act7.mk kind n lo lc L ko kc keep).cells.toArray] w fun e w' => e = .returned (.bool true) ∧ Scn w0.heap.size w0 w' a c p (openD d).2.1 (openD d).2.2 := by
  subst hkind
  obtain ⟨m, hm⟩ : ∃ m, L.length = m := ⟨_, rfl⟩
  obtain ⟨q, hq⟩ : ∃ q, keep.length = q := ⟨_, rfl⟩
  obtain ⟨bx, hbx⟩ : ∃ bx, w.heap.size = bx := ⟨_, rfl⟩
  obtain ⟨w1, hw1⟩ : ∃ w1, w.alloc (.cells #[.int .i64 4, .int .i64 n, .slice lo m lc, .slice ko q kc] 42) = w1 := ⟨_, rfl⟩
  have h1 : St w0.heap.size w0 w1 (pairL a c p d x y ++ [blkA bx 42 [.int .i64 4, .int .i64 n, .slice lo m lc, .slice ko q kc]]) := by rw [← hw1, ← hbx]; exact h.box _ _
  have HX := hid hx; have H1 := hid h1; have HW1 := hid hw1; have HBX := hid hbx; have HM := hid hm; have HQ := hid hq; have HL200 := hid hL200
  have HLR : Hid (LR w1 lo L) := hid (hx.lr.below h1.be)
  rw [hm] at hL8
  unfold Act7.cells ptr
  dsimp only
  rw [hm, hq]
  skip
  clear h h1 hx hm hq hw1 hbx hL200
  go_enter Tryz.func10, Tryz.ntmps10
  go_upto_region 1 with fail
  rw [HW1.out, HBX.out]
  have cx2 := (H1.out.blk 3 rfl).cell (j := 2) rfl
  go_wp2_with fail
  refine (copyLists_any lo m lc L HM.out.symm (by omega) (fun l hl => by have := HL200.out l hl; omega) w1 HLR.out).mono ?_
  rintro e w2 ⟨vL, rfl, hf2, hb2⟩
  obtain ⟨vo, vc, rfl, _⟩ := listA_lst hf2.listA
  rw [HM.out] at hf2 ⊢
  have HF2 := hid hf2; have HB2 := hid hb2
  clear hf2 hb2 cx2
  have H2 := hid (H1.out.below HB2.out)
  have cx0 := (H2.out.blk 3 rfl).cell (j := 0) rfl
  go_wp2_with fail
  refine (opens_any H2.out hn hlo).mono ?_
  rintro e w8 ⟨rfl, h8⟩
  have H8 := hid h8
  clear h8
  go_wp2
  go_ret
  exact ⟨rfl, H8.out.drop⟩
set_option maxRecDepth 100000 in
set_option maxHeartbeats 4000000 in
theorem acted5_any {w0 w : World} {a c p : Nat} {d : Dev} {x y : Value} (kind n : Int) (lo : Option Addr) (lc : Nat) (L : List (List UInt8)) (ko : Option Addr) (kc : Nat) (keep : List Bool) (hx : (Act7.mk kind n lo lc L ko kc keep).fits w0) (hL8 : L.length ≤ 8) (hL200 : ∀ r ∈ L, r.length ≤ 200)
    (h : St w0.heap.size w0 w (pairL a c p d x y)) (hkind : kind = 5) (hn : d.img.length ≤ 1000) (hlo : d.loose.length ≤ 90000000) :
    Calls Tryz.prog 10 #[ptr p, .agg (Act7.mk kind n lo lc L ko kc keep).cells.toArray] w fun e w' => e = .returned (.bool true) ∧ Scn w0.heap.size w0 w' a c p (openD (formatD d).2).2.1 (openD (formatD d).2).2.2 ∧ (formatD d).2.ok := by
  subst hkind
  have HCL := hid (format_loose d)
  obtain ⟨m, hm⟩ : ∃ m, L.length = m := ⟨_, rfl⟩
  obtain ⟨q, hq⟩ : ∃ q, keep.length = q := ⟨_, rfl⟩
  obtain ⟨bx, hbx⟩ : ∃ bx, w.heap.size = bx := ⟨_, rfl⟩
  obtain ⟨w1, hw1⟩ : ∃ w1, w.alloc (.cells #[.int .i64 5, .int .i64 n, .slice lo m lc, .slice ko q kc] 42) = w1 := ⟨_, rfl⟩
  have h1 : St w0.heap.size w0 w1 (pairL a c p d x y ++ [blkA bx 42 [.int .i64 5, .int .i64 n, .slice lo m lc, .slice ko q kc]]) := by rw [← hw1, ← hbx]; exact h.box _ _
  have HX := hid hx; have H1 := hid h1; have HW1 := hid hw1; have HBX := hid hbx; have HM := hid hm; have HQ := hid hq; have HL200 := hid hL200
  have HLR : Hid (LR w1 lo L) := hid (hx.lr.below h1.be)
  rw [hm] at hL8
  unfold Act7.cells ptr
  dsimp only
  rw [hm, hq]
  skip
  clear h h1 hx hm hq hw1 hbx hL200
  go_enter Tryz.func10, Tryz.ntmps10
  go_upto_region 1 with fail
  rw [HW1.out, HBX.out]
  have cx2 := (H1.out.blk 3 rfl).cell (j := 2) rfl
  go_wp2_with fail
  refine (copyLists_any lo m lc L HM.out.symm (by omega) (fun l hl => by have := HL200.out l hl; omega) w1 HLR.out).mono ?_
  rintro e w2 ⟨vL, rfl, hf2, hb2⟩
  obtain ⟨vo, vc, rfl, _⟩ := listA_lst hf2.listA
  rw [HM.out] at hf2 ⊢
  have HF2 := hid hf2; have HB2 := hid hb2
  clear hf2 hb2 cx2
  have H2 := hid (H1.out.below HB2.out)
  have hp0 := H2.out.blk 2 rfl
  have hS0 : w2.cell? ⟨p, 0, none⟩ = some (.pointer (some ⟨a, 0, none⟩)) ∧ w2.cell? ⟨p, 2, none⟩ = some (.pointer (some ⟨c, 0, none⟩)) := ⟨hp0.cell (j := 0) rfl, hp0.cell (j := 2) rfl⟩
  clear hp0
  have cx0 := (H2.out.blk 3 rfl).cell (j := 0) rfl
  go_upto_region 23 with fail
  refine wp_region_held_drew (S := fun w' => w'.cell? ⟨p, 0, none⟩ = some (.pointer (some ⟨a, 0, none⟩)) ∧ w'.cell? ⟨p, 2, none⟩ = some (.pointer (some ⟨c, 0, none⟩))) (by kernel_rfl) hS0 (fun hS => ?_)
  refine tkH (i := 0) (v := ?v0x1g) (y := Or.inl ⟨by rfl, ?y0x1g⟩) (s := hS) (h := ?r0x1g)
  case y0x1g => (intro w' hSw; (try dsimp only at hSw); go_simp; (try with_reducible rfl))
  simp only [Act.put, sA, sB, sC]
  refine tkH (i := 1) (v := ?v1x2g) (y := Or.inl ⟨by rfl, ?y1x2g⟩) (s := hS) (h := ?r1x2g)
  case y1x2g => (intro w' hSw; (try dsimp only at hSw); go_simp; (try with_reducible rfl))
  simp only [Act.put, sA, sB, sC]
  refine tkH (i := 2) (v := ?v2x3g) (y := Or.inl ⟨by rfl, ?y2x3g⟩) (s := hS) (h := ?r2x3g)
  case y2x3g => (intro w' hSw; (try dsimp only at hSw); go_simp; (try with_reducible rfl))
  simp only [Act.put, sA, sB, sC]
  refine tkH (i := 3) (v := ?v3x4g) (y := Or.inl ⟨by rfl, ?y3x4g⟩) (s := hS) (h := ?r3x4g)
  case y3x4g => (intro w' hSw; (try dsimp only at hSw); go_simp; (try with_reducible rfl))
  simp only [Act.put, sA, sB, sC]
  refine tkH (i := 5) (v := ?v5x5g) (y := Or.inl ⟨by rfl, ?y5x5g⟩) (s := hS) (h := ?r5x5g)
  case y5x5g => (intro w' hSw; (try dsimp only at hSw); go_simp; (try with_reducible rfl))
  simp only [Act.put, sA, sB, sC]
  refine tkH (i := 6) (v := ?v6x6g) (y := Or.inl ⟨by rfl, ?y6x6g⟩) (s := hS) (h := ?r6x6g)
  case y6x6g => (intro w' hSw; (try dsimp only at hSw); go_simp; (try with_reducible rfl))
  simp only [Act.put, sA, sB, sC]
  refine tkH (i := 7) (v := ?v7x7g) (y := Or.inl ⟨by rfl, ?y7x7g⟩) (s := hS) (h := ?r7x7g)
  case y7x7g => (intro w' hSw; (try dsimp only at hSw); go_simp; (try with_reducible rfl))
  simp only [Act.put, sA, sB, sC]
  refine tkH (i := 8) (v := ?v8x8g) (y := Or.inl ⟨by rfl, ?y8x8g⟩) (s := hS) (h := ?r8x8g)
  case y8x8g => (intro w' hSw; (try dsimp only at hSw); go_simp; (try with_reducible rfl))
  simp only [Act.put, sA, sB, sC]
  refine rdH (i := 4) (h := fun K hK => ?_)
  go_simp
  have H2d := hid (H2.out.below (Below.refl _ _).drew)
  refine (vformat_any H2d.out 0 rfl (by omega)).mono ?_
  rintro e w5 ⟨rfl, h5⟩
  have h5 : St w0.heap.size w0 w5 [dev a (formatD d).2, rdev c d, blkA p 37 [ptr a, x, ptr c, y], blkA bx 42 [.int .i64 5, .int .i64 n, .slice lo m lc, .slice ko q kc]] := h5
  have H5 := hid h5
  have hp5 := h5.blk 2 rfl
  have hS5 : w5.cell? ⟨p, 0, none⟩ = some (.pointer (some ⟨a, 0, none⟩)) ∧ w5.cell? ⟨p, 2, none⟩ = some (.pointer (some ⟨c, 0, none⟩)) := ⟨hp5.cell (j := 0) rfl, hp5.cell (j := 2) rfl⟩
  clear hp5
  clear h5
  refine hK.out _ _ ?k4x9g (fun hS => ?s4x9g)
  case k4x9g => exact hS5
  clear hK K
  try simp only [Act.put, sA, sB, sC]
  refine rdH (i := 9) (h := fun K hK => ?_)
  go_simp
  refine (rformat_any H5.out 1 rfl (by omega)).mono ?_
  rintro e w7 ⟨rfl, h7⟩
  have h7 : St w0.heap.size w0 w7 (pairL a c p (formatD d).2 x y ++ [blkA bx 42 [.int .i64 5, .int .i64 n, .slice lo m lc, .slice ko q kc]]) := h7
  have H7 := hid h7
  have hp7 := h7.blk 2 rfl
  have hS7 : w7.cell? ⟨p, 0, none⟩ = some (.pointer (some ⟨a, 0, none⟩)) ∧ w7.cell? ⟨p, 2, none⟩ = some (.pointer (some ⟨c, 0, none⟩)) := ⟨hp7.cell (j := 0) rfl, hp7.cell (j := 2) rfl⟩
  clear hp7
  clear h7
  refine hK.out _ _ ?k9x10g (fun hS => ?s9x10g)
  case k9x10g => exact hS7
  clear hK K
  try simp only [Act.put, sA, sB, sC]
  refine tkH (i := 10) (v := ?v10x11g) (y := Or.inl ⟨by rfl, ?y10x11g⟩) (s := hS) (h := ?r10x11g)
  case y10x11g => (intro w' hSw; (try dsimp only at hSw); go_simp; (try with_reducible rfl))
  simp only [Act.put, sA, sB, sC]
  refine tkH (i := 11) (v := ?v11x12g) (y := Or.inl ⟨by rfl, ?y11x12g⟩) (s := hS) (h := ?r11x12g)
  case y11x12g => (intro w' hSw; (try dsimp only at hSw); go_simp; (try with_reducible rfl))
  simp only [Act.put, sA, sB, sC]
  refine tkH (i := 12) (v := ?v12x13g) (y := Or.inl ⟨by rfl, ?y12x13g⟩) (s := hS) (h := ?r12x13g)
  case y12x13g => (intro w' hSw; (try dsimp only at hSw); go_simp; (try with_reducible rfl))
  simp only [Act.put, sA, sB, sC]
  refine rdH (i := 13) (h := fun K hK => ?_)
  go_simp
  try (refine if_wanted (by first | rfl | kernel_rfl) ?_; go_simp)
  refine (opens_any H7.out (by rw [HCL.out.2]; exact hn) (by have := HCL.out.1; omega)).mono ?_
  rintro e w8 ⟨rfl, h8⟩
  have H8 := hid h8
  obtain ⟨x8, y8, h9⟩ := h8.pair
  have hp8 := h9.blk 2 rfl
  have hS8 : w8.cell? ⟨p, 0, none⟩ = some (.pointer (some ⟨a, 0, none⟩)) ∧ w8.cell? ⟨p, 2, none⟩ = some (.pointer (some ⟨c, 0, none⟩)) := ⟨hp8.cell (j := 0) rfl, hp8.cell (j := 2) rfl⟩
  clear hp8
  clear h8 h9
  refine hK.out _ _ ?k13x14g (fun hS => ?s13x14g)
  case k13x14g => exact hS8
  clear hK K
  try simp only [Act.put, sA, sB, sC]
  refine tkH (i := 14) (v := ?v14x15g) (y := Or.inl ⟨by rfl, ?y14x15g⟩) (s := hS) (h := ?r14x15g)
  case y14x15g => (intro w' hSw; (try dsimp only at hSw); go_simp; (try with_reducible rfl))
  simp only [Act.put, sA, sB, sC]
  refine tkH (i := 15) (v := ?v15x16g) (y := Or.inl ⟨by rfl, ?y15x16g⟩) (s := hS) (h := ?r15x16g)
  case y15x16g => (intro w' hSw; (try dsimp only at hSw); go_simp; (try with_reducible rfl))
  simp only [Act.put, sA, sB, sC]
  refine wpAnyH_done (by kernel_rfl) ?_ _
  clear hS hS5 hS7 hS8
  go_wp2
  go_ret
  exact ⟨rfl, H8.out.drop, H7.out.ok 0 rfl⟩
set_option maxRecDepth 100000 in
set_option maxHeartbeats 4000000 in
theorem acted6_any0 {w0 w : World} {a c p : Nat} {d : Dev} {x y : Value} (kind n : Int) (lo : Option Addr) (lc : Nat) (L : List (List UInt8)) (ko : Option Addr) (kc : Nat) (keep : List Bool) (hx : (Act7.mk kind n lo lc L ko kc keep).fits w0) (hL8 : L.length ≤ 8) (hL200 : ∀ r ∈ L, r.length ≤ 200)
    (h : St w0.heap.size w0 w (pairL a c p d x y)) (k0 : kind ≠ 0) (k1 : kind ≠ 1) (k2 : kind ≠ 2) (k3 : kind ≠ 3) (k4 : kind ≠ 4) (k5 : kind ≠ 5) :
    Calls Tryz.prog 10 #[ptr p, .agg (Act7.mk kind n lo lc L ko kc keep).cells.toArray] w fun e w' => e = .returned (.bool true) ∧ St w0.heap.size w0 w' (pairL a c p d x y) := by
  have q0 : (kind == 0) = false := by simpa using k0
  have q1 : (kind == 1) = false := by simpa using k1
  have q2 : (kind == 2) = false := by simpa using k2
  have q3 : (kind == 3) = false := by simpa using k3
  have q4 : (kind == 4) = false := by simpa using k4
  have q5 : (kind == 5) = false := by simpa using k5
  clear k0 k1 k2 k3 k4 k5
  obtain ⟨m, hm⟩ : ∃ m, L.length = m := ⟨_, rfl⟩
  obtain ⟨q, hq⟩ : ∃ q, keep.length = q := ⟨_, rfl⟩
  obtain ⟨bx, hbx⟩ : ∃ bx, w.heap.size = bx := ⟨_, rfl⟩
  obtain ⟨w1, hw1⟩ : ∃ w1, w.alloc (.cells #[.int .i64 kind, .int .i64 n, .slice lo m lc, .slice ko q kc] 42) = w1 := ⟨_, rfl⟩
  have h1 : St w0.heap.size w0 w1 (pairL a c p d x y ++ [blkA bx 42 [.int .i64 kind, .int .i64 n, .slice lo m lc, .slice ko q kc]]) := by rw [← hw1, ← hbx]; exact h.box _ _
  have HX := hid hx; have H1 := hid h1; have HW1 := hid hw1; have HBX := hid hbx; have HM := hid hm; have HQ := hid hq; have HL200 := hid hL200
  have HLR : Hid (LR w1 lo L) := hid (hx.lr.below h1.be)
  rw [hm] at hL8
  unfold Act7.cells ptr
  dsimp only
  rw [hm, hq]
  skip
  clear h h1 hx hm hq hw1 hbx hL200
  go_enter Tryz.func10, Tryz.ntmps10
  go_upto_region 1 with fail
  rw [HW1.out, HBX.out]
  have cx2 := (H1.out.blk 3 rfl).cell (j := 2) rfl
  go_wp2_with fail
  refine (copyLists_any lo m lc L HM.out.symm (by omega) (fun l hl => by have := HL200.out l hl; omega) w1 HLR.out).mono ?_
  rintro e w2 ⟨vL, rfl, hf2, hb2⟩
  obtain ⟨vo, vc, rfl, _⟩ := listA_lst hf2.listA
  rw [HM.out] at hf2 ⊢
  have HF2 := hid hf2; have HB2 := hid hb2
  clear hf2 hb2 cx2
  have H2 := hid (H1.out.below HB2.out)
  have cx0 := (H2.out.blk 3 rfl).cell (j := 0) rfl
  go_wp2
  go_ret
  exact ⟨rfl, H2.out.take 3⟩
set_option maxRecDepth 100000 in
set_option maxHeartbeats 4000000 in
theorem acted6_any2 {w0 w : World} {a c p : Nat} {d : Dev} {x y : Value} {A0 A1 : Asset} (kind n : Int) (lo : Option Addr) (lc : Nat) (L : List (List UInt8)) (ko : Option Addr) (kc : Nat) (keep : List Bool) (hx : (Act7.mk kind n lo lc L ko kc keep).fits w0) (hL8 : L.length ≤ 8) (hL200 : ∀ r ∈ L, r.length ≤ 200)
    (h : St w0.heap.size w0 w (pairL a c p d x y ++ [A0, A1])) (k0 : kind ≠ 0) (k1 : kind ≠ 1) (k2 : kind ≠ 2) (k3 : kind ≠ 3) (k4 : kind ≠ 4) (k5 : kind ≠ 5) :
    Calls Tryz.prog 10 #[ptr p, .agg (Act7.mk kind n lo lc L ko kc keep).cells.toArray] w fun e w' => e = .returned (.bool true) ∧ St w0.heap.size w0 w' (pairL a c p d x y ++ [A0, A1]) := by
  have q0 : (kind == 0) = false := by simpa using k0
  have q1 : (kind == 1) = false := by simpa using k1
  have q2 : (kind == 2) = false := by simpa using k2
  have q3 : (kind == 3) = false := by simpa using k3
  have q4 : (kind == 4) = false := by simpa using k4
  have q5 : (kind == 5) = false := by simpa using k5
  clear k0 k1 k2 k3 k4 k5
  obtain ⟨m, hm⟩ : ∃ m, L.length = m := ⟨_, rfl⟩
  obtain ⟨q, hq⟩ : ∃ q, keep.length = q := ⟨_, rfl⟩
  obtain ⟨bx, hbx⟩ : ∃ bx, w.heap.size = bx := ⟨_, rfl⟩
  obtain ⟨w1, hw1⟩ : ∃ w1, w.alloc (.cells #[.int .i64 kind, .int .i64 n, .slice lo m lc, .slice ko q kc] 42) = w1 := ⟨_, rfl⟩
  have h1 : St w0.heap.size w0 w1 (pairL a c p d x y ++ [A0, A1] ++ [blkA bx 42 [.int .i64 kind, .int .i64 n, .slice lo m lc, .slice ko q kc]]) := by rw [← hw1, ← hbx]; exact h.box _ _
  have HX := hid hx; have H1 := hid h1; have HW1 := hid hw1; have HBX := hid hbx; have HM := hid hm; have HQ := hid hq; have HL200 := hid hL200
  have HLR : Hid (LR w1 lo L) := hid (hx.lr.below h1.be)
  rw [hm] at hL8
  unfold Act7.cells ptr
  dsimp only
  rw [hm, hq]
  skip
  clear h h1 hx hm hq hw1 hbx hL200
  go_enter Tryz.func10, Tryz.ntmps10
  go_upto_region 1 with fail
  rw [HW1.out, HBX.out]
  have cx2 := (H1.out.blk 5 rfl).cell (j := 2) rfl
  go_wp2_with fail
  refine (copyLists_any lo m lc L HM.out.symm (by omega) (fun l hl => by have := HL200.out l hl; omega) w1 HLR.out).mono ?_
  rintro e w2 ⟨vL, rfl, hf2, hb2⟩
  obtain ⟨vo, vc, rfl, _⟩ := listA_lst hf2.listA
  rw [HM.out] at hf2 ⊢
  have HF2 := hid hf2; have HB2 := hid hb2
  clear hf2 hb2 cx2
  have H2 := hid (H1.out.below HB2.out)
  have cx0 := (H2.out.blk 5 rfl).cell (j := 0) rfl
  go_wp2
  go_ret
  exact ⟨rfl, H2.out.take 5⟩
theorem acted7_any {w0 w : World} {a c p : Nat} {d : Dev} {o : Option VS} (h : Scn w0.heap.size w0 w a c p d o) (x : Act7) (hx : x.fits w0) (hL8 : x.L.length ≤ 8) (hL200 : ∀ r ∈ x.L, r.length ≤ 200) (hk60 : x.keep.length ≤ 60) (hn : d.img.length ≤ 1000) (hlo : d.loose.length ≤ 90000000) (hf : ∀ s, o = some s → 2 ≤ d.img.length ∧ fitV s) :
    Calls Tryz.prog 10 #[ptr p, .agg x.cells.toArray] w fun e w' => e = .returned (.bool true) ∧ Scn w0.heap.size w0 w' a c p (act7 d o x).1 (act7 d o x).2 ∧ (x.kind = 3 → (d.crash x.keep x.n).2.ok) ∧ (x.kind = 5 → (formatD d).2.ok) := by
  obtain ⟨kind, n, lo, lc, L, ko, kc, keep⟩ := x
  dsimp only at hL8 hL200 hk60
  unfold act7
  dsimp only
  by_cases k0 : kind = 0
  · rw [if_pos k0]
    rcases o with _ | s
    · refine (acted0n_any kind n lo lc L ko kc keep hx hL8 hL200 h k0).mono ?_
      rintro e w' ⟨rfl, h'⟩
      exact ⟨rfl, h', fun h => absurd h (by omega), fun h => absurd h (by omega)⟩
    · obtain ⟨v, u, h⟩ := h
      obtain ⟨hn2, hs⟩ := hf s rfl
      refine (acted0s_any kind n lo lc L ko kc keep hx hL8 hL200 h k0 hs hn2 (by omega)).mono ?_
      rintro e w' ⟨rfl, h'⟩
      exact ⟨rfl, h', fun h => absurd h (by omega), fun h => absurd h (by omega)⟩
  rw [if_neg k0]
  by_cases k1 : kind = 1
  · rw [if_pos k1]
    rcases o with _ | s
    · refine (acted1n_any kind n lo lc L ko kc keep hx hL8 hL200 h k1).mono ?_
      rintro e w' ⟨rfl, h'⟩
      exact ⟨rfl, h', fun h => absurd h (by omega), fun h => absurd h (by omega)⟩
    · obtain ⟨v, u, h⟩ := h
      obtain ⟨hn2, hs⟩ := hf s rfl
      refine (acted1s_any kind n lo lc L ko kc keep hx hL8 hL200 h k1 hs hn2 (by omega)).mono ?_
      rintro e w' ⟨rfl, h'⟩
      exact ⟨rfl, h', fun h => absurd h (by omega), fun h => absurd h (by omega)⟩
  rw [if_neg k1]
  by_cases k2 : kind = 2
  · rw [if_pos k2]
    rcases o with _ | s
    · refine (acted2_any0 kind n lo lc L ko kc keep hx hL8 hL200 h k2).mono ?_
      rintro e w' ⟨rfl, h'⟩
      exact ⟨rfl, h', fun h => absurd h (by omega), fun h => absurd h (by omega)⟩
    · obtain ⟨v, u, h⟩ := h
      refine (acted2_any2 kind n lo lc L ko kc keep hx hL8 hL200 h k2).mono ?_
      rintro e w' ⟨rfl, h'⟩
      exact ⟨rfl, ⟨v, u, h'⟩, fun h => absurd h (by omega), fun h => absurd h (by omega)⟩
  rw [if_neg k2]
  by_cases k3 : kind = 3
  · rw [if_pos k3]
    obtain ⟨x, y, h⟩ := h.pair
    refine (acted3_any kind n lo lc L ko kc keep hx hL8 hL200 hk60 h k3 hn (by omega)).mono ?_
    rintro e w' ⟨rfl, h'⟩
    exact ⟨rfl, h'.1, fun _ => h'.2, fun h => absurd h (by omega)⟩
  rw [if_neg k3]
  by_cases k4 : kind = 4
  · rw [if_pos k4]
    obtain ⟨x, y, h⟩ := h.pair
    refine (acted4_any kind n lo lc L ko kc keep hx hL8 hL200 h k4 hn (by omega)).mono ?_
    rintro e w' ⟨rfl, h'⟩
    exact ⟨rfl, h', fun h => absurd h (by omega), fun h => absurd h (by omega)⟩
  rw [if_neg k4]
  by_cases k5 : kind = 5
  · rw [if_pos k5]
    obtain ⟨x, y, h⟩ := h.pair
    refine (acted5_any kind n lo lc L ko kc keep hx hL8 hL200 h k5 hn hlo).mono ?_
    rintro e w' ⟨rfl, h'⟩
    exact ⟨rfl, h'.1, fun h => absurd h (by omega), fun _ => h'.2⟩
  rw [if_neg k5]
  rcases o with _ | s
  · refine (acted6_any0 kind n lo lc L ko kc keep hx hL8 hL200 h k0 k1 k2 k3 k4 k5).mono ?_
    rintro e w' ⟨rfl, h'⟩
    exact ⟨rfl, h', fun h => absurd h (by omega), fun h => absurd h (by omega)⟩
  · obtain ⟨v, u, h⟩ := h
    refine (acted6_any2 kind n lo lc L ko kc keep hx hL8 hL200 h k0 k1 k2 k3 k4 k5).mono ?_
    rintro e w' ⟨rfl, h'⟩
    exact ⟨rfl, ⟨v, u, h'⟩, fun h => absurd h (by omega), fun h => absurd h (by omega)⟩
end Go.Proofs.YtlondopgibcikaaGreat
