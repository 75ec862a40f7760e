/- The walk of acted: an act is answered alike. (Printed by wip/act5.py.) -/
import Derived.Test.YtlondopgibcikaaRows
import Derived.Test.YtlondopgibcikaaHeap
import Derived.Test.YtlondopgibcikaaKit
import Derived.Test.YtlondopgibcikaaDev
import Derived.Test.YtlondopgibcikaaDevW
import Derived.Test.YtlondopgibcikaaDevV
import Derived.Test.YtlondopgibcikaaDevU
import Derived.Test.YtlondopgibcikaaDevT
import Derived.Test.YtlondopgibcikaaDevC
import Derived.Test.YtlondopgibcikaaLaw05
import Derived.Test.YtlondopgibcikaaLL
import Derived.Test.YtlondopgibcikaaRef5
import Derived.Test.YtlondopgibcikaaRef5b
import Derived.Test.YtlondopgibcikaaRef5c
import Derived.Test.YtlondopgibcikaaRef5d
import Derived.Test.YtlondopgibcikaaRef5e
import Derived.Test.YtlondopgibcikaaSt
import Derived.Test.YtlondopgibcikaaSt2
import Derived.Test.YtlondopgibcikaaAct5
import Derived.WalkKit
import Derived.WalkSpells
import Derived.WalkLawsBesides
import Derived.Deep.RegionHeld3
namespace Go.Proofs.Ytlondopgibcikaa
open Go.RowKit Ent

theorem sb_blk {B : Nat} {w0 w : World} {As : List Asset} (h : St B w0 w As) (i : Nat) {g : Nat} {T : TypeId} {l : List UInt8} {c : Nat} (hi : As[i]? = some (blkA g T (bv l))) : SB w (some ⟨g, 0, none⟩) c l :=
  .inr (.inr ⟨g, 0, rfl, fun j v hv => by rw [Nat.zero_add]; exact (h.blk i hi).cell hv⟩)
theorem wb_blk {B : Nat} {w0 w : World} {As : List Asset} (h : St B w0 w As) (i : Nat) {g : Nat} {T : TypeId} {l : List UInt8} (hi : As[i]? = some (blkA g T (bv l))) : WB w (some ⟨g, 0, none⟩) l.length :=
  .inr ⟨g, 0, rfl, fun j hj => by
    rw [Nat.zero_add]
    exact ⟨⟨l[j], (h.blk i hi).cell (by rw [bv_get, List.getElem?_eq_getElem hj]; rfl)⟩, (h.blk i hi).free j⟩⟩
theorem act_cells {w : World} {g : Nat} {k n x y : Value} (h : Blk w g 65 [k, n, x, y]) : w.cell? ⟨g, 1, none⟩ = some n ∧ w.cell? ⟨g, 2, none⟩ = some x ∧ w.cell? ⟨g, 3, none⟩ = some y :=
  ⟨h.cell (j := 1) rfl, h.cell (j := 2) rfl, h.cell (j := 3) rfl⟩
theorem St.drew {B : Nat} {w0 w : World} {As : List Asset} (h : St B w0 w As) : St B w0 w.drew As := h.below (Below.refl _ _).drew
theorem wpo_make8 {o : Oper} {a : Act} {w : World} {K : Act → World → Prop} {Q : Exit → Act → World → Prop} (l c : Operand) (ho : o.op = .makeSlice 22 l c) (n : Nat) (hl : a.eval l = .int .u8 n) (hc : a.eval c = .int .u8 n) (hn : n ≤ 65536)
    (h : ∀ w', Below w.heap.size w w' → Blk w' w.heap.size 5 (bv (List.replicate n 0)) → K (a.put o.dst (.slice (some ⟨w.heap.size, 0, none⟩) n n)) w') : o.wp Try.prog a w K Q := by
  obtain ⟨i, hi, hz, hsz, hby⟩ := info_u8
  have hr := run_makeSlice (P := Try.prog) w 22 5 i _ Try.underlying22 hi hz .u8 .u8 (n : Int) (n : Int) (by omega) (by omega) (by rw [hsz]; simp; omega) (by rw [hby]; omega) (by omega)
  have hm : madeCells (Value.cells (.int .u8 0)) (n * 1) = (bv (List.replicate n 0)).toArray := by
    rw [Nat.mul_one]; have := made_zeros n; rw [← this]
  rw [hsz, Int.toNat_natCast, hm] at hr
  unfold Oper.wp execOp
  simp only [ho, hl, hc, hr, Sem.run_bind, Sem.run_pure, Result.andThen_ok]
  exact h _ (fresh_alloc w _) (alloc_new w _)
theorem act5_0 (d : Dev) (n : Int) (x : UInt8) (ko : Option Addr) (kc : Nat) (keep : List Bool) : act5 d ⟨0, n, x, ko, kc, keep⟩ = (d.write n (rep 64 x)).2 := rfl
theorem act5_1 (d : Dev) (n : Int) (x : UInt8) (ko : Option Addr) (kc : Nat) (keep : List Bool) : act5 d ⟨1, n, x, ko, kc, keep⟩ = d.flush.2 := rfl
theorem act5_2 (d : Dev) (n : Int) (x : UInt8) (ko : Option Addr) (kc : Nat) (keep : List Bool) : act5 d ⟨2, n, x, ko, kc, keep⟩ = (d.setFuse n).2 := rfl
theorem act5_3 (d : Dev) (n : Int) (x : UInt8) (ko : Option Addr) (kc : Nat) (keep : List Bool) : act5 d ⟨3, n, x, ko, kc, keep⟩ = (d.crash keep n).2 := rfl
theorem act5_4 (d : Dev) (n : Int) (x : UInt8) (ko : Option Addr) (kc : Nat) (keep : List Bool) : act5 d ⟨4, n, x, ko, kc, keep⟩ = (d.write n (List.replicate x.toNat 0)).2 := rfl
set_option maxRecDepth 100000 in
set_option maxHeartbeats 4000000 in
theorem acted5_any {w0 w : World} {a b : Nat} {d : Dev} (h : St w0.heap.size w0 w [dev a d, rdev b d]) (act : Act5) (hf : act.fits w0) (hk60 : act.keep.length ≤ 60) (hlo : d.loose.length ≤ 1000000) :
    Calls Try.prog 54 #[ptr a, ptr b, .agg #[.int .i64 act.kind, .int .i64 act.n, .int .u8 (act.b.toNat : Int), .slice act.ko act.keep.length act.kc]] w fun e w' => e = .returned (.bool true) ∧ St w0.heap.size w0 w' [dev a (act5 d act), rdev b (act5 d act)] := by
  obtain ⟨kind, n, x, ko, kc, keep⟩ := act
  obtain ⟨⟨hk1, hk2⟩, ⟨hn1, hn2⟩, hbl, -⟩ := hf
  dsimp only at hk1 hk2 hn1 hn2 hbl hk60
  dsimp only
  have HOLD : Hid (keep ≠ [] → ∀ y, ko = some y → y.block < w0.heap.size) := hid (fun hne y hy => by
    rcases hbl with h | ⟨b, o, h, hr⟩
    · exact absurd h hne
    · rw [h] at hy; cases hy
      obtain ⟨b0, hb0⟩ : ∃ b0, keep[0]? = some b0 := ⟨_, List.getElem?_eq_getElem (List.length_pos_iff.2 hne)⟩
      have := World.block_lt_of_cell? w0 _ (hr 0 _ (by rw [bbv_get, hb0]; rfl))
      simpa using this)
  have HBL := hid hbl
  have H0 := hid h
  have hx : (x.toNat : Int) < 256 := byte_lt x
  obtain ⟨w1, hw1⟩ : ∃ w1, w.alloc (.cells #[.int .i64 kind, .int .i64 n, .int .u8 (x.toNat : Int), .slice ko keep.length kc] 65) = w1 := ⟨_, rfl⟩
  have HW1 := hid hw1
  have H1 : Hid (St w0.heap.size w0 w1 [dev a d, rdev b d, blkA w.heap.size 65 [.int .i64 kind, .int .i64 n, .int .u8 (x.toNat : Int), .slice ko keep.length kc]]) := hid (by rw [← hw1]; exact h.box _ [.int .i64 kind, .int .i64 n, .int .u8 (x.toNat : Int), .slice ko keep.length kc])
  clear hw1
  have HBX := hid (H1.out.blk 2 rfl)
  clear h hbl
  unfold ptr
  by_cases k0 : kind = 0
  · subst k0
    go_enter Try.func54, Try.ntmps54
    go_wp2_with fail
    rw [HW1.out]
    refine (full_any x 64 (by decide) _).mono ?_
    rintro e w2 ⟨rfl, hm2, hb2⟩
    have H2 := hid (H1.out.addBlk hb2 hm2 (Nat.le_refl _))
    have HBX := hid (H2.out.blk 2 rfl)
    clear hm2 hb2
    go_wp2_with fail
    refine wp_region_held_drew (S := fun w' => w'.cell? ⟨w.heap.size, 1, none⟩ = some (.int .i64 n) ∧ w'.cell? ⟨w.heap.size, 2, none⟩ = some (.int .u8 (x.toNat : Int)) ∧ w'.cell? ⟨w.heap.size, 3, none⟩ = some (.slice ko keep.length kc)) (by kernel_rfl) (act_cells HBX.out) (fun hS => ?_)
    refine wpAnyH_take (i := 0) (v := ?v0x1) (by simp only [List.getElem?_toArray, List.getElem?_cons_zero]; exact rfl) (by kernel_rfl) (by kernel_rfl) (by kernel_rfl) (by exact fun _ _ _ h => h) (Or.inl ⟨by rfl, ?y0x1⟩) hS ?r0x1
    case y0x1 => (intro w' hSw; (try dsimp only at hSw); go_simp; (try with_reducible rfl))
    simp only [Act.put, List.setIfInBounds_toArray, List.set_cons_zero, List.set_cons_succ]
    refine wpAnyH_take (i := 1) (v := ?v1x2) (by simp only [List.getElem?_toArray, List.getElem?_cons_zero, List.getElem?_cons_succ]; exact rfl) (by kernel_rfl) (by kernel_rfl) (by kernel_rfl) (by exact fun _ _ _ h => h) (Or.inl ⟨by rfl, ?y1x2⟩) hS ?r1x2
    case y1x2 => (intro w' hSw; (try dsimp only at hSw); go_simp; (try with_reducible rfl))
    simp only [Act.put, List.setIfInBounds_toArray, List.set_cons_zero, List.set_cons_succ]
    refine wpAnyH_take (i := 2) (v := ?v2x3) (by simp only [List.getElem?_toArray, List.getElem?_cons_zero, List.getElem?_cons_succ]; exact rfl) (by kernel_rfl) (by kernel_rfl) (by kernel_rfl) (by exact fun _ _ _ h => h) (Or.inl ⟨by rfl, ?y2x3⟩) hS ?r2x3
    case y2x3 => (intro w' hSw; (try dsimp only at hSw); go_simp; (try with_reducible rfl))
    simp only [Act.put, List.setIfInBounds_toArray, List.set_cons_zero, List.set_cons_succ]
    refine wpAnyH_take (i := 3) (v := ?v3x4) (by simp only [List.getElem?_toArray, List.getElem?_cons_zero, List.getElem?_cons_succ]; exact rfl) (by kernel_rfl) (by kernel_rfl) (by kernel_rfl) (by exact fun _ _ _ h => h) (Or.inl ⟨by rfl, ?y3x4⟩) hS ?r3x4
    case y3x4 => (intro w' hSw; (try dsimp only at hSw); go_simp; (try with_reducible rfl))
    simp only [Act.put, List.setIfInBounds_toArray, List.set_cons_zero, List.set_cons_succ]
    refine wpAnyH_take (i := 5) (v := ?v5x5) (by simp only [List.getElem?_toArray, List.getElem?_cons_zero, List.getElem?_cons_succ]; exact rfl) (by kernel_rfl) (by kernel_rfl) (by kernel_rfl) (by exact fun _ _ _ h => h) (Or.inl ⟨by rfl, ?y5x5⟩) hS ?r5x5
    case y5x5 => (intro w' hSw; (try dsimp only at hSw); go_simp; (try with_reducible rfl))
    simp only [Act.put, List.setIfInBounds_toArray, List.set_cons_zero, List.set_cons_succ]
    refine wpAnyH_take (i := 6) (v := ?v6x6) (by simp only [List.getElem?_toArray, List.getElem?_cons_zero, List.getElem?_cons_succ]; exact rfl) (by kernel_rfl) (by kernel_rfl) (by kernel_rfl) (by exact fun _ _ _ h => h) (Or.inl ⟨by rfl, ?y6x6⟩) hS ?r6x6
    case y6x6 => (intro w' hSw; (try dsimp only at hSw); go_simp; (try with_reducible rfl))
    simp only [Act.put, List.setIfInBounds_toArray, List.set_cons_zero, List.set_cons_succ]
    refine wpAnyH_take (i := 7) (v := ?v7x7) (by simp only [List.getElem?_toArray, List.getElem?_cons_zero, List.getElem?_cons_succ]; exact rfl) (by kernel_rfl) (by kernel_rfl) (by kernel_rfl) (by exact fun _ _ _ h => h) (Or.inl ⟨by rfl, ?y7x7⟩) hS ?r7x7
    case y7x7 => (intro w' hSw; (try dsimp only at hSw); go_simp; (try with_reducible rfl))
    simp only [Act.put, List.setIfInBounds_toArray, List.set_cons_zero, List.set_cons_succ]
    refine wpAnyH_take (i := 8) (v := ?v8x8) (by simp only [List.getElem?_toArray, List.getElem?_cons_zero, List.getElem?_cons_succ]; exact rfl) (by kernel_rfl) (by kernel_rfl) (by kernel_rfl) (by exact fun _ _ _ h => h) (Or.inl ⟨by rfl, ?y8x8⟩) hS ?r8x8
    case y8x8 => (intro w' hSw; (try dsimp only at hSw); go_simp; (try with_reducible rfl))
    simp only [Act.put, List.setIfInBounds_toArray, List.set_cons_zero, List.set_cons_succ]
    refine wpAnyH_take (i := 9) (v := ?v9x9) (by simp only [List.getElem?_toArray, List.getElem?_cons_zero, List.getElem?_cons_succ]; exact rfl) (by kernel_rfl) (by kernel_rfl) (by kernel_rfl) (by exact fun _ _ _ h => h) (Or.inl ⟨by rfl, ?y9x9⟩) hS ?r9x9
    case y9x9 => (intro w' hSw; (try dsimp only at hSw); go_simp; (try with_reducible rfl))
    simp only [Act.put, List.setIfInBounds_toArray, List.set_cons_zero, List.set_cons_succ]
    refine wpAnyH_ready (rs := [4]) (by kernel_rfl) (by simp) ?_
    refine AllReadyH.cons (by simp only [List.getElem?_toArray, List.getElem?_cons_zero, List.getElem?_cons_succ]; exact rfl) (fun K hK => ?_) AllReadyH.nil
    go_simp
    refine (H2.out.drew.dev_write 0 rfl n (some ⟨w1.heap.size, 0, none⟩) 64 64 (rep 64 x) (by simp) (sb_blk H2.out.drew 3 rfl) (.inr ⟨3, _, _, _, by decide, rfl, fun y hy => by cases hy; rfl⟩) (by omega)).mono ?_
    rintro e w3 ⟨rfl, h3⟩
    have H3 := hid h3
    clear h3
    refine hK.out _ _ ?k4x10 (fun hS => ?s4x10)
    case k4x10 => exact act_cells (H3.out.blk 2 rfl)
    clear hK K
    try simp only [Act.put, List.setIfInBounds_toArray, List.set_cons_zero, List.set_cons_succ]
    refine wpAnyH_ready (rs := [10]) (by kernel_rfl) (by simp) ?_
    refine AllReadyH.cons (by simp only [List.getElem?_toArray, List.getElem?_cons_zero, List.getElem?_cons_succ]; exact rfl) (fun K hK => ?_) AllReadyH.nil
    go_simp
    refine (full_any x 64 (by decide) w3).mono ?_
    rintro e w4 ⟨rfl, hm4, hb4⟩
    have H4 := hid (H3.out.addBlk hb4 hm4 (Nat.le_refl _))
    clear hm4 hb4
    refine hK.out _ _ ?k10x11 (fun hS => ?s10x11)
    case k10x11 => exact act_cells (H4.out.blk 2 rfl)
    clear hK K
    try simp only [Act.put, List.setIfInBounds_toArray, List.set_cons_zero, List.set_cons_succ]
    refine wpAnyH_ready (rs := [11]) (by kernel_rfl) (by simp) ?_
    refine AllReadyH.cons (by simp only [List.getElem?_toArray, List.getElem?_cons_zero, List.getElem?_cons_succ]; exact rfl) (fun K hK => ?_) AllReadyH.nil
    go_simp
    refine (H4.out.rdev_write 1 rfl n (some ⟨w3.heap.size, 0, none⟩) 64 64 (rep 64 x) (by simp) (sb_blk H4.out 4 rfl) (.inr ⟨4, _, _, _, by decide, rfl, fun y hy => by cases hy; rfl⟩) (by omega)).mono ?_
    rintro e w5 ⟨rfl, h5⟩
    have H5 := hid h5
    clear h5
    refine hK.out _ _ ?k11x12 (fun hS => ?s11x12)
    case k11x12 => exact act_cells (H5.out.blk 2 rfl)
    clear hK K
    try simp only [Act.put, List.setIfInBounds_toArray, List.set_cons_zero, List.set_cons_succ]
    refine wpAnyH_take (i := 12) (v := ?v12x13) (by simp only [List.getElem?_toArray, List.getElem?_cons_zero, List.getElem?_cons_succ]; exact rfl) (by kernel_rfl) (by kernel_rfl) (by kernel_rfl) (by exact fun _ _ _ h => h) (Or.inl ⟨by rfl, ?y12x13⟩) hS ?r12x13
    case y12x13 => (intro w' hSw; (try dsimp only at hSw); go_simp; (try with_reducible rfl))
    simp only [Act.put, List.setIfInBounds_toArray, List.set_cons_zero, List.set_cons_succ]
    refine wpAnyH_take (i := 13) (v := ?v13x14) (by simp only [List.getElem?_toArray, List.getElem?_cons_zero, List.getElem?_cons_succ]; exact rfl) (by kernel_rfl) (by kernel_rfl) (by kernel_rfl) (by exact fun _ _ _ h => h) (Or.inl ⟨by rfl, ?y13x14⟩) hS ?r13x14
    case y13x14 => (intro w' hSw; (try dsimp only at hSw); go_simp; (try with_reducible rfl))
    simp only [Act.put, List.setIfInBounds_toArray, List.set_cons_zero, List.set_cons_succ]
    refine wpAnyH_done (by kernel_rfl) ?_ _
    clear hS
    have HWB := hid (wb_blk H5.out 3 rfl)
    go_wp2_with fail
    refine (over_any (some ⟨w1.heap.size, 0, none⟩) 64 64 (by omega) w5 HWB.out).mono ?_
    rintro e w6 ⟨rfl, hk6⟩
    have H6 := hid (H5.out.blkLost 3 rfl (hk6.mono fun k _ hk => by obtain ⟨y, hy, hk, _⟩ := hk; cases hy; exact hk))
    clear hk6
    go_wp2
    go_ret
    exact ⟨by simp, by have := H6.out.take 2; rw [act5_0]; exact this⟩
  have e0 : (kind == 0) = false := by simpa using k0
  by_cases k1 : kind = 1
  · subst k1
    clear k0
    go_enter Try.func54, Try.ntmps54
    go_wp2_with fail
    rw [HW1.out]
    refine (H1.out.dev_flush 0 rfl).mono ?_
    rintro e w3 ⟨rfl, h3⟩
    have H3 := hid h3
    clear h3
    go_wp2_with fail
    refine (H3.out.rdev_flush 1 rfl (by omega)).mono ?_
    rintro e w5 ⟨rfl, h5⟩
    have H5 := hid h5
    clear h5
    go_wp2
    go_ret
    exact ⟨by simp, by have := H5.out.take 2; rw [act5_1]; exact this⟩
  have e1 : (kind == 1) = false := by simpa using k1
  by_cases k2 : kind = 2
  · subst k2
    clear k0 k1
    go_enter Try.func54, Try.ntmps54
    go_wp2_with fail
    rw [HW1.out]
    refine wp_region_held_drew (S := fun w' => w'.cell? ⟨w.heap.size, 1, none⟩ = some (.int .i64 n) ∧ w'.cell? ⟨w.heap.size, 2, none⟩ = some (.int .u8 (x.toNat : Int)) ∧ w'.cell? ⟨w.heap.size, 3, none⟩ = some (.slice ko keep.length kc)) (by kernel_rfl) (act_cells HBX.out) (fun hS => ?_)
    refine wpAnyH_take (i := 0) (v := ?v0x1f) (by simp only [List.getElem?_toArray, List.getElem?_cons_zero]; exact rfl) (by kernel_rfl) (by kernel_rfl) (by kernel_rfl) (by exact fun _ _ _ h => h) (Or.inl ⟨by rfl, ?y0x1f⟩) hS ?r0x1f
    case y0x1f => (intro w' hSw; (try dsimp only at hSw); go_simp; (try with_reducible rfl))
    simp only [Act.put, List.setIfInBounds_toArray, List.set_cons_zero, List.set_cons_succ]
    refine wpAnyH_take (i := 1) (v := ?v1x2f) (by simp only [List.getElem?_toArray, List.getElem?_cons_zero, List.getElem?_cons_succ]; exact rfl) (by kernel_rfl) (by kernel_rfl) (by kernel_rfl) (by exact fun _ _ _ h => h) (Or.inl ⟨by rfl, ?y1x2f⟩) hS ?r1x2f
    case y1x2f => (intro w' hSw; (try dsimp only at hSw); go_simp; (try with_reducible rfl))
    simp only [Act.put, List.setIfInBounds_toArray, List.set_cons_zero, List.set_cons_succ]
    refine wpAnyH_take (i := 2) (v := ?v2x3f) (by simp only [List.getElem?_toArray, List.getElem?_cons_zero, List.getElem?_cons_succ]; exact rfl) (by kernel_rfl) (by kernel_rfl) (by kernel_rfl) (by exact fun _ _ _ h => h) (Or.inl ⟨by rfl, ?y2x3f⟩) hS ?r2x3f
    case y2x3f => (intro w' hSw; (try dsimp only at hSw); go_simp; (try with_reducible rfl))
    simp only [Act.put, List.setIfInBounds_toArray, List.set_cons_zero, List.set_cons_succ]
    refine wpAnyH_take (i := 4) (v := ?v4x4f) (by simp only [List.getElem?_toArray, List.getElem?_cons_zero, List.getElem?_cons_succ]; exact rfl) (by kernel_rfl) (by kernel_rfl) (by kernel_rfl) (by exact fun _ _ _ h => h) (Or.inl ⟨by rfl, ?y4x4f⟩) hS ?r4x4f
    case y4x4f => (intro w' hSw; (try dsimp only at hSw); go_simp; (try with_reducible rfl))
    simp only [Act.put, List.setIfInBounds_toArray, List.set_cons_zero, List.set_cons_succ]
    refine wpAnyH_take (i := 5) (v := ?v5x5f) (by simp only [List.getElem?_toArray, List.getElem?_cons_zero, List.getElem?_cons_succ]; exact rfl) (by kernel_rfl) (by kernel_rfl) (by kernel_rfl) (by exact fun _ _ _ h => h) (Or.inl ⟨by rfl, ?y5x5f⟩) hS ?r5x5f
    case y5x5f => (intro w' hSw; (try dsimp only at hSw); go_simp; (try with_reducible rfl))
    simp only [Act.put, List.setIfInBounds_toArray, List.set_cons_zero, List.set_cons_succ]
    refine wpAnyH_take (i := 6) (v := ?v6x6f) (by simp only [List.getElem?_toArray, List.getElem?_cons_zero, List.getElem?_cons_succ]; exact rfl) (by kernel_rfl) (by kernel_rfl) (by kernel_rfl) (by exact fun _ _ _ h => h) (Or.inl ⟨by rfl, ?y6x6f⟩) hS ?r6x6f
    case y6x6f => (intro w' hSw; (try dsimp only at hSw); go_simp; (try with_reducible rfl))
    simp only [Act.put, List.setIfInBounds_toArray, List.set_cons_zero, List.set_cons_succ]
    refine wpAnyH_ready (rs := [3]) (by kernel_rfl) (by simp) ?_
    refine AllReadyH.cons (by simp only [List.getElem?_toArray, List.getElem?_cons_zero, List.getElem?_cons_succ]; exact rfl) (fun K hK => ?_) AllReadyH.nil
    go_simp
    refine (H1.out.drew.dev_fuse 0 rfl n hn1 hn2).mono ?_
    rintro e w3 ⟨rfl, h3⟩
    have H3 := hid h3
    clear h3
    refine hK.out _ _ ?k3x7f (fun hS => ?s3x7f)
    case k3x7f => exact act_cells (H3.out.blk 2 rfl)
    clear hK K
    try simp only [Act.put, List.setIfInBounds_toArray, List.set_cons_zero, List.set_cons_succ]
    refine wpAnyH_ready (rs := [7]) (by kernel_rfl) (by simp) ?_
    refine AllReadyH.cons (by simp only [List.getElem?_toArray, List.getElem?_cons_zero, List.getElem?_cons_succ]; exact rfl) (fun K hK => ?_) AllReadyH.nil
    go_simp
    refine (H3.out.rdev_fuse 1 rfl n hn1 hn2).mono ?_
    rintro e w5 ⟨rfl, h5⟩
    have H5 := hid h5
    clear h5
    refine hK.out _ _ ?k7x8f (fun hS => ?s7x8f)
    case k7x8f => exact act_cells (H5.out.blk 2 rfl)
    clear hK K
    try simp only [Act.put, List.setIfInBounds_toArray, List.set_cons_zero, List.set_cons_succ]
    refine wpAnyH_take (i := 8) (v := ?v8x9f) (by simp only [List.getElem?_toArray, List.getElem?_cons_zero, List.getElem?_cons_succ]; exact rfl) (by kernel_rfl) (by kernel_rfl) (by kernel_rfl) (by exact fun _ _ _ h => h) (Or.inl ⟨by rfl, ?y8x9f⟩) hS ?r8x9f
    case y8x9f => (intro w' hSw; (try dsimp only at hSw); go_simp; (try with_reducible rfl))
    simp only [Act.put, List.setIfInBounds_toArray, List.set_cons_zero, List.set_cons_succ]
    refine wpAnyH_take (i := 9) (v := ?v9x10f) (by simp only [List.getElem?_toArray, List.getElem?_cons_zero, List.getElem?_cons_succ]; exact rfl) (by kernel_rfl) (by kernel_rfl) (by kernel_rfl) (by exact fun _ _ _ h => h) (Or.inl ⟨by rfl, ?y9x10f⟩) hS ?r9x10f
    case y9x10f => (intro w' hSw; (try dsimp only at hSw); go_simp; (try with_reducible rfl))
    simp only [Act.put, List.setIfInBounds_toArray, List.set_cons_zero, List.set_cons_succ]
    refine wpAnyH_done (by kernel_rfl) ?_ _
    clear hS
    go_wp2
    go_ret
    exact ⟨by simp, by have := H5.out.take 2; rw [act5_2]; exact this⟩
  have e2 : (kind == 2) = false := by simpa using k2
  by_cases k3 : kind = 3
  · subst k3
    clear k0 k1 k2
    go_enter Try.func54, Try.ntmps54
    go_wp2_with fail
    rw [HW1.out]
    refine wp_region_held_drew (S := fun w' => w'.cell? ⟨w.heap.size, 1, none⟩ = some (.int .i64 n) ∧ w'.cell? ⟨w.heap.size, 2, none⟩ = some (.int .u8 (x.toNat : Int)) ∧ w'.cell? ⟨w.heap.size, 3, none⟩ = some (.slice ko keep.length kc)) (by kernel_rfl) (act_cells HBX.out) (fun hS => ?_)
    refine wpAnyH_take (i := 0) (v := ?v0x1c) (by simp only [List.getElem?_toArray, List.getElem?_cons_zero]; exact rfl) (by kernel_rfl) (by kernel_rfl) (by kernel_rfl) (by exact fun _ _ _ h => h) (Or.inl ⟨by rfl, ?y0x1c⟩) hS ?r0x1c
    case y0x1c => (intro w' hSw; (try dsimp only at hSw); go_simp; (try with_reducible rfl))
    simp only [Act.put, List.setIfInBounds_toArray, List.set_cons_zero, List.set_cons_succ]
    refine wpAnyH_take (i := 1) (v := ?v1x2c) (by simp only [List.getElem?_toArray, List.getElem?_cons_zero, List.getElem?_cons_succ]; exact rfl) (by kernel_rfl) (by kernel_rfl) (by kernel_rfl) (by exact fun _ _ _ h => h) (Or.inl ⟨by rfl, ?y1x2c⟩) hS ?r1x2c
    case y1x2c => (intro w' hSw; (try dsimp only at hSw); go_simp; (try with_reducible rfl))
    simp only [Act.put, List.setIfInBounds_toArray, List.set_cons_zero, List.set_cons_succ]
    refine wpAnyH_take (i := 2) (v := ?v2x3c) (by simp only [List.getElem?_toArray, List.getElem?_cons_zero, List.getElem?_cons_succ]; exact rfl) (by kernel_rfl) (by kernel_rfl) (by kernel_rfl) (by exact fun _ _ _ h => h) (Or.inl ⟨by rfl, ?y2x3c⟩) hS ?r2x3c
    case y2x3c => (intro w' hSw; (try dsimp only at hSw); go_simp; (try with_reducible rfl))
    simp only [Act.put, List.setIfInBounds_toArray, List.set_cons_zero, List.set_cons_succ]
    refine wpAnyH_take (i := 3) (v := ?v3x4c) (by simp only [List.getElem?_toArray, List.getElem?_cons_zero, List.getElem?_cons_succ]; exact rfl) (by kernel_rfl) (by kernel_rfl) (by kernel_rfl) (by exact fun _ _ _ h => h) (Or.inl ⟨by rfl, ?y3x4c⟩) hS ?r3x4c
    case y3x4c => (intro w' hSw; (try dsimp only at hSw); go_simp; (try with_reducible rfl))
    simp only [Act.put, List.setIfInBounds_toArray, List.set_cons_zero, List.set_cons_succ]
    refine wpAnyH_take (i := 4) (v := ?v4x5c) (by simp only [List.getElem?_toArray, List.getElem?_cons_zero, List.getElem?_cons_succ]; exact rfl) (by kernel_rfl) (by kernel_rfl) (by kernel_rfl) (by exact fun _ _ _ h => h) (Or.inl ⟨by rfl, ?y4x5c⟩) hS ?r4x5c
    case y4x5c => (intro w' hSw; (try dsimp only at hSw); go_simp; (try with_reducible rfl))
    simp only [Act.put, List.setIfInBounds_toArray, List.set_cons_zero, List.set_cons_succ]
    refine wpAnyH_take (i := 6) (v := ?v6x6c) (by simp only [List.getElem?_toArray, List.getElem?_cons_zero, List.getElem?_cons_succ]; exact rfl) (by kernel_rfl) (by kernel_rfl) (by kernel_rfl) (by exact fun _ _ _ h => h) (Or.inl ⟨by rfl, ?y6x6c⟩) hS ?r6x6c
    case y6x6c => (intro w' hSw; (try dsimp only at hSw); go_simp; (try with_reducible rfl))
    simp only [Act.put, List.setIfInBounds_toArray, List.set_cons_zero, List.set_cons_succ]
    refine wpAnyH_take (i := 7) (v := ?v7x7c) (by simp only [List.getElem?_toArray, List.getElem?_cons_zero, List.getElem?_cons_succ]; exact rfl) (by kernel_rfl) (by kernel_rfl) (by kernel_rfl) (by exact fun _ _ _ h => h) (Or.inl ⟨by rfl, ?y7x7c⟩) hS ?r7x7c
    case y7x7c => (intro w' hSw; (try dsimp only at hSw); go_simp; (try with_reducible rfl))
    simp only [Act.put, List.setIfInBounds_toArray, List.set_cons_zero, List.set_cons_succ]
    refine wpAnyH_take (i := 8) (v := ?v8x8c) (by simp only [List.getElem?_toArray, List.getElem?_cons_zero, List.getElem?_cons_succ]; exact rfl) (by kernel_rfl) (by kernel_rfl) (by kernel_rfl) (by exact fun _ _ _ h => h) (Or.inl ⟨by rfl, ?y8x8c⟩) hS ?r8x8c
    case y8x8c => (intro w' hSw; (try dsimp only at hSw); go_simp; (try with_reducible rfl))
    simp only [Act.put, List.setIfInBounds_toArray, List.set_cons_zero, List.set_cons_succ]
    refine wpAnyH_take (i := 9) (v := ?v9x9c) (by simp only [List.getElem?_toArray, List.getElem?_cons_zero, List.getElem?_cons_succ]; exact rfl) (by kernel_rfl) (by kernel_rfl) (by kernel_rfl) (by exact fun _ _ _ h => h) (Or.inl ⟨by rfl, ?y9x9c⟩) hS ?r9x9c
    case y9x9c => (intro w' hSw; (try dsimp only at hSw); go_simp; (try with_reducible rfl))
    simp only [Act.put, List.setIfInBounds_toArray, List.set_cons_zero, List.set_cons_succ]
    refine wpAnyH_take (i := 10) (v := ?v10x10c) (by simp only [List.getElem?_toArray, List.getElem?_cons_zero, List.getElem?_cons_succ]; exact rfl) (by kernel_rfl) (by kernel_rfl) (by kernel_rfl) (by exact fun _ _ _ h => h) (Or.inl ⟨by rfl, ?y10x10c⟩) hS ?r10x10c
    case y10x10c => (intro w' hSw; (try dsimp only at hSw); go_simp; (try with_reducible rfl))
    simp only [Act.put, List.setIfInBounds_toArray, List.set_cons_zero, List.set_cons_succ]
    refine wpAnyH_ready (rs := [5]) (by kernel_rfl) (by simp) ?_
    refine AllReadyH.cons (by simp only [List.getElem?_toArray, List.getElem?_cons_zero, List.getElem?_cons_succ]; exact rfl) (fun K hK => ?_) AllReadyH.nil
    go_simp
    refine (H1.out.drew.dev_crash 0 rfl ko keep.length kc keep rfl n (HBL.out.below H1.out.drew.be) (fun hne => .inl (HOLD.out hne)) (by omega) (by omega)).mono ?_
    rintro e w3 ⟨rfl, h3⟩
    have H3 := hid h3
    have HOK := hid (h3.ok 0 rfl)
    clear h3
    refine hK.out _ _ ?k5x11c (fun hS => ?s5x11c)
    case k5x11c => exact act_cells (H3.out.blk 2 rfl)
    clear hK K
    try simp only [Act.put, List.setIfInBounds_toArray, List.set_cons_zero, List.set_cons_succ]
    refine wpAnyH_ready (rs := [11]) (by kernel_rfl) (by simp) ?_
    refine AllReadyH.cons (by simp only [List.getElem?_toArray, List.getElem?_cons_zero, List.getElem?_cons_succ]; exact rfl) (fun K hK => ?_) AllReadyH.nil
    go_simp
    refine (H3.out.rdev_crash 1 rfl ko keep.length kc keep rfl n (HBL.out.below H3.out.be) (fun hne => .inl (HOLD.out hne)) (by omega) (by omega) HOK.out).mono ?_
    rintro e w5 ⟨rfl, h5⟩
    have H5 := hid h5
    clear h5
    refine hK.out _ _ ?k11x12c (fun hS => ?s11x12c)
    case k11x12c => exact act_cells (H5.out.blk 2 rfl)
    clear hK K
    try simp only [Act.put, List.setIfInBounds_toArray, List.set_cons_zero, List.set_cons_succ]
    refine wpAnyH_take (i := 12) (v := ?v12x13c) (by simp only [List.getElem?_toArray, List.getElem?_cons_zero, List.getElem?_cons_succ]; exact rfl) (by kernel_rfl) (by kernel_rfl) (by kernel_rfl) (by exact fun _ _ _ h => h) (Or.inl ⟨by rfl, ?y12x13c⟩) hS ?r12x13c
    case y12x13c => (intro w' hSw; (try dsimp only at hSw); go_simp; (try with_reducible rfl))
    simp only [Act.put, List.setIfInBounds_toArray, List.set_cons_zero, List.set_cons_succ]
    refine wpAnyH_take (i := 13) (v := ?v13x14c) (by simp only [List.getElem?_toArray, List.getElem?_cons_zero, List.getElem?_cons_succ]; exact rfl) (by kernel_rfl) (by kernel_rfl) (by kernel_rfl) (by exact fun _ _ _ h => h) (Or.inl ⟨by rfl, ?y13x14c⟩) hS ?r13x14c
    case y13x14c => (intro w' hSw; (try dsimp only at hSw); go_simp; (try with_reducible rfl))
    simp only [Act.put, List.setIfInBounds_toArray, List.set_cons_zero, List.set_cons_succ]
    refine wpAnyH_done (by kernel_rfl) ?_ _
    clear hS
    go_wp2
    go_ret
    exact ⟨by simp, by have := H5.out.take 2; rw [act5_3]; exact this⟩
  have e3 : (kind == 3) = false := by simpa using k3
  by_cases k4 : kind = 4
  · subst k4
    clear k0 k1 k2 k3
    go_enter Try.func54, Try.ntmps54
    go_wp2_with fail
    rw [HW1.out]
    have HC := hid H1.out.drew
    refine wp_region_held_drew (S := fun w' => w'.cell? ⟨w.heap.size, 1, none⟩ = some (.int .i64 n) ∧ w'.cell? ⟨w.heap.size, 2, none⟩ = some (.int .u8 (x.toNat : Int)) ∧ w'.cell? ⟨w.heap.size, 3, none⟩ = some (.slice ko keep.length kc)) (by kernel_rfl) (act_cells HBX.out) (fun hS => ?_)
    refine wpAnyH_take (i := 0) (v := ?v0x1m) (by simp only [List.getElem?_toArray, List.getElem?_cons_zero]; exact rfl) (by kernel_rfl) (by kernel_rfl) (by kernel_rfl) (by exact fun _ _ _ h => h) (Or.inl ⟨by rfl, ?y0x1m⟩) hS ?r0x1m
    case y0x1m => (intro w' hSw; (try dsimp only at hSw); go_simp; (try with_reducible rfl))
    simp only [Act.put, List.setIfInBounds_toArray, List.set_cons_zero, List.set_cons_succ]
    refine wpAnyH_take (i := 1) (v := ?v1x2m) (by simp only [List.getElem?_toArray, List.getElem?_cons_zero, List.getElem?_cons_succ]; exact rfl) (by kernel_rfl) (by kernel_rfl) (by kernel_rfl) (by exact fun _ _ _ h => h) (Or.inl ⟨by rfl, ?y1x2m⟩) hS ?r1x2m
    case y1x2m => (intro w' hSw; (try dsimp only at hSw); go_simp; (try with_reducible rfl))
    simp only [Act.put, List.setIfInBounds_toArray, List.set_cons_zero, List.set_cons_succ]
    refine wpAnyH_take (i := 2) (v := ?v2x3m) (by simp only [List.getElem?_toArray, List.getElem?_cons_zero, List.getElem?_cons_succ]; exact rfl) (by kernel_rfl) (by kernel_rfl) (by kernel_rfl) (by exact fun _ _ _ h => h) (Or.inl ⟨by rfl, ?y2x3m⟩) hS ?r2x3m
    case y2x3m => (intro w' hSw; (try dsimp only at hSw); go_simp; (try with_reducible rfl))
    simp only [Act.put, List.setIfInBounds_toArray, List.set_cons_zero, List.set_cons_succ]
    refine wpAnyH_take (i := 3) (v := ?v3x4m) (by simp only [List.getElem?_toArray, List.getElem?_cons_zero, List.getElem?_cons_succ]; exact rfl) (by kernel_rfl) (by kernel_rfl) (by kernel_rfl) (by exact fun _ _ _ h => h) (Or.inl ⟨by rfl, ?y3x4m⟩) hS ?r3x4m
    case y3x4m => (intro w' hSw; (try dsimp only at hSw); go_simp; (try with_reducible rfl))
    simp only [Act.put, List.setIfInBounds_toArray, List.set_cons_zero, List.set_cons_succ]
    refine wpAnyH_take (i := 4) (v := ?v4x5m) (by simp only [List.getElem?_toArray, List.getElem?_cons_zero, List.getElem?_cons_succ]; exact rfl) (by kernel_rfl) (by kernel_rfl) (by kernel_rfl) (by exact fun _ _ _ h => h) (Or.inl ⟨by rfl, ?y4x5m⟩) hS ?r4x5m
    case y4x5m => (intro w' hSw; (try dsimp only at hSw); go_simp; (try with_reducible rfl))
    simp only [Act.put, List.setIfInBounds_toArray, List.set_cons_zero, List.set_cons_succ]
    refine wpAnyH_take (i := 7) (v := ?v7x6m) (by simp only [List.getElem?_toArray, List.getElem?_cons_zero, List.getElem?_cons_succ]; exact rfl) (by kernel_rfl) (by kernel_rfl) (by kernel_rfl) (by exact fun _ _ _ h => h) (Or.inl ⟨by rfl, ?y7x6m⟩) hS ?r7x6m
    case y7x6m => (intro w' hSw; (try dsimp only at hSw); go_simp; (try with_reducible rfl))
    simp only [Act.put, List.setIfInBounds_toArray, List.set_cons_zero, List.set_cons_succ]
    refine wpAnyH_take (i := 8) (v := ?v8x7m) (by simp only [List.getElem?_toArray, List.getElem?_cons_zero, List.getElem?_cons_succ]; exact rfl) (by kernel_rfl) (by kernel_rfl) (by kernel_rfl) (by exact fun _ _ _ h => h) (Or.inl ⟨by rfl, ?y8x7m⟩) hS ?r8x7m
    case y8x7m => (intro w' hSw; (try dsimp only at hSw); go_simp; (try with_reducible rfl))
    simp only [Act.put, List.setIfInBounds_toArray, List.set_cons_zero, List.set_cons_succ]
    refine wpAnyH_take (i := 9) (v := ?v9x8m) (by simp only [List.getElem?_toArray, List.getElem?_cons_zero, List.getElem?_cons_succ]; exact rfl) (by kernel_rfl) (by kernel_rfl) (by kernel_rfl) (by exact fun _ _ _ h => h) (Or.inl ⟨by rfl, ?y9x8m⟩) hS ?r9x8m
    case y9x8m => (intro w' hSw; (try dsimp only at hSw); go_simp; (try with_reducible rfl))
    simp only [Act.put, List.setIfInBounds_toArray, List.set_cons_zero, List.set_cons_succ]
    refine wpAnyH_take (i := 10) (v := ?v10x9m) (by simp only [List.getElem?_toArray, List.getElem?_cons_zero, List.getElem?_cons_succ]; exact rfl) (by kernel_rfl) (by kernel_rfl) (by kernel_rfl) (by exact fun _ _ _ h => h) (Or.inl ⟨by rfl, ?y10x9m⟩) hS ?r10x9m
    case y10x9m => (intro w' hSw; (try dsimp only at hSw); go_simp; (try with_reducible rfl))
    simp only [Act.put, List.setIfInBounds_toArray, List.set_cons_zero, List.set_cons_succ]
    refine wpAnyH_take (i := 11) (v := ?v11x10m) (by simp only [List.getElem?_toArray, List.getElem?_cons_zero, List.getElem?_cons_succ]; exact rfl) (by kernel_rfl) (by kernel_rfl) (by kernel_rfl) (by exact fun _ _ _ h => h) (Or.inl ⟨by rfl, ?y11x10m⟩) hS ?r11x10m
    case y11x10m => (intro w' hSw; (try dsimp only at hSw); go_simp; (try with_reducible rfl))
    simp only [Act.put, List.setIfInBounds_toArray, List.set_cons_zero, List.set_cons_succ]
    refine wpAnyH_ready (rs := [5, 12]) (by kernel_rfl) (by simp) ?_
    refine AllReadyH.cons (by simp only [List.getElem?_toArray, List.getElem?_cons_zero, List.getElem?_cons_succ]; exact rfl) (fun K hK => ?_) (AllReadyH.cons (by simp only [List.getElem?_toArray, List.getElem?_cons_zero, List.getElem?_cons_succ]; exact rfl) (fun K hK => ?_) AllReadyH.nil)
    · refine wpo_make8 (.tmp 71) (.tmp 71) rfl x.toNat rfl rfl (by omega) ?_
      intro w2 hb2 hm2
      have HC := hid (HC.out.addBlk hb2 hm2 (Nat.le_refl _))
      clear hb2 hm2
      refine hK.out _ _ ?k5x11m (fun hS => ?s5x11m)
      case k5x11m => exact act_cells (HC.out.blk 2 rfl)
      clear hK K
      try simp only [Act.put, List.setIfInBounds_toArray, List.set_cons_zero, List.set_cons_succ]
      refine wpAnyH_ready (rs := [6, 12]) (by kernel_rfl) (by simp) ?_
      refine AllReadyH.cons (by simp only [List.getElem?_toArray, List.getElem?_cons_zero, List.getElem?_cons_succ]; exact rfl) (fun K hK => ?_) (AllReadyH.cons (by simp only [List.getElem?_toArray, List.getElem?_cons_zero, List.getElem?_cons_succ]; exact rfl) (fun K hK => ?_) AllReadyH.nil)
      · go_simp
        refine (HC.out.dev_write 0 rfl n _ x.toNat x.toNat (List.replicate x.toNat 0) (by simp) ?_ ?_ (by omega)).mono ?_
        · first | exact sb_blk HC.out 3 rfl | exact sb_blk HC.out 4 rfl
        · first | exact .inr ⟨3, _, _, _, by decide, rfl, fun y hy => by cases hy; rfl⟩ | exact .inr ⟨4, _, _, _, by decide, rfl, fun y hy => by cases hy; rfl⟩
        rintro e w3 ⟨rfl, h3⟩
        have HC := hid h3
        clear h3
        refine hK.out _ _ ?k6x12m (fun hS => ?s6x12m)
        case k6x12m => exact act_cells (HC.out.blk 2 rfl)
        clear hK K
        try simp only [Act.put, List.setIfInBounds_toArray, List.set_cons_zero, List.set_cons_succ]
        refine wpAnyH_ready (rs := [12]) (by kernel_rfl) (by simp) ?_
        refine AllReadyH.cons (by simp only [List.getElem?_toArray, List.getElem?_cons_zero, List.getElem?_cons_succ]; exact rfl) (fun K hK => ?_) AllReadyH.nil
        refine wpo_make8 (.tmp 78) (.tmp 78) rfl x.toNat rfl rfl (by omega) ?_
        intro w2 hb2 hm2
        have HC := hid (HC.out.addBlk hb2 hm2 (Nat.le_refl _))
        clear hb2 hm2
        refine hK.out _ _ ?k12x13m (fun hS => ?s12x13m)
        case k12x13m => exact act_cells (HC.out.blk 2 rfl)
        clear hK K
        try simp only [Act.put, List.setIfInBounds_toArray, List.set_cons_zero, List.set_cons_succ]
        refine wpAnyH_ready (rs := [13]) (by kernel_rfl) (by simp) ?_
        refine AllReadyH.cons (by simp only [List.getElem?_toArray, List.getElem?_cons_zero, List.getElem?_cons_succ]; exact rfl) (fun K hK => ?_) AllReadyH.nil
        go_simp
        refine (HC.out.rdev_write 1 rfl n _ x.toNat x.toNat (List.replicate x.toNat 0) (by simp) ?_ ?_ (by omega)).mono ?_
        · first | exact sb_blk HC.out 3 rfl | exact sb_blk HC.out 4 rfl
        · first | exact .inr ⟨3, _, _, _, by decide, rfl, fun y hy => by cases hy; rfl⟩ | exact .inr ⟨4, _, _, _, by decide, rfl, fun y hy => by cases hy; rfl⟩
        rintro e w3 ⟨rfl, h3⟩
        have HC := hid h3
        clear h3
        refine hK.out _ _ ?k13x14m (fun hS => ?s13x14m)
        case k13x14m => exact act_cells (HC.out.blk 2 rfl)
        clear hK K
        try simp only [Act.put, List.setIfInBounds_toArray, List.set_cons_zero, List.set_cons_succ]
        refine wpAnyH_take (i := 14) (v := ?v14x15m) (by simp only [List.getElem?_toArray, List.getElem?_cons_zero, List.getElem?_cons_succ]; exact rfl) (by kernel_rfl) (by kernel_rfl) (by kernel_rfl) (by exact fun _ _ _ h => h) (Or.inl ⟨by rfl, ?y14x15m⟩) hS ?r14x15m
        case y14x15m => (intro w' hSw; (try dsimp only at hSw); go_simp; (try with_reducible rfl))
        simp only [Act.put, List.setIfInBounds_toArray, List.set_cons_zero, List.set_cons_succ]
        refine wpAnyH_take (i := 15) (v := ?v15x16m) (by simp only [List.getElem?_toArray, List.getElem?_cons_zero, List.getElem?_cons_succ]; exact rfl) (by kernel_rfl) (by kernel_rfl) (by kernel_rfl) (by exact fun _ _ _ h => h) (Or.inl ⟨by rfl, ?y15x16m⟩) hS ?r15x16m
        case y15x16m => (intro w' hSw; (try dsimp only at hSw); go_simp; (try with_reducible rfl))
        simp only [Act.put, List.setIfInBounds_toArray, List.set_cons_zero, List.set_cons_succ]
        refine wpAnyH_done (by kernel_rfl) ?_ _
        clear hS
        go_wp2
        go_ret
        exact ⟨by simp, by have := HC.out.take 2; rw [act5_4]; exact this⟩
      · refine wpo_make8 (.tmp 78) (.tmp 78) rfl x.toNat rfl rfl (by omega) ?_
        intro w2 hb2 hm2
        have HC := hid (HC.out.addBlk hb2 hm2 (Nat.le_refl _))
        clear hb2 hm2
        refine hK.out _ _ ?k12x17m (fun hS => ?s12x17m)
        case k12x17m => exact act_cells (HC.out.blk 2 rfl)
        clear hK K
        try simp only [Act.put, List.setIfInBounds_toArray, List.set_cons_zero, List.set_cons_succ]
        refine wpAnyH_ready (rs := [6]) (by kernel_rfl) (by simp) ?_
        refine AllReadyH.cons (by simp only [List.getElem?_toArray, List.getElem?_cons_zero, List.getElem?_cons_succ]; exact rfl) (fun K hK => ?_) AllReadyH.nil
        go_simp
        refine (HC.out.dev_write 0 rfl n _ x.toNat x.toNat (List.replicate x.toNat 0) (by simp) ?_ ?_ (by omega)).mono ?_
        · first | exact sb_blk HC.out 3 rfl | exact sb_blk HC.out 4 rfl
        · first | exact .inr ⟨3, _, _, _, by decide, rfl, fun y hy => by cases hy; rfl⟩ | exact .inr ⟨4, _, _, _, by decide, rfl, fun y hy => by cases hy; rfl⟩
        rintro e w3 ⟨rfl, h3⟩
        have HC := hid h3
        clear h3
        refine hK.out _ _ ?k6x18m (fun hS => ?s6x18m)
        case k6x18m => exact act_cells (HC.out.blk 2 rfl)
        clear hK K
        try simp only [Act.put, List.setIfInBounds_toArray, List.set_cons_zero, List.set_cons_succ]
        refine wpAnyH_ready (rs := [13]) (by kernel_rfl) (by simp) ?_
        refine AllReadyH.cons (by simp only [List.getElem?_toArray, List.getElem?_cons_zero, List.getElem?_cons_succ]; exact rfl) (fun K hK => ?_) AllReadyH.nil
        go_simp
        refine (HC.out.rdev_write 1 rfl n _ x.toNat x.toNat (List.replicate x.toNat 0) (by simp) ?_ ?_ (by omega)).mono ?_
        · first | exact sb_blk HC.out 3 rfl | exact sb_blk HC.out 4 rfl
        · first | exact .inr ⟨3, _, _, _, by decide, rfl, fun y hy => by cases hy; rfl⟩ | exact .inr ⟨4, _, _, _, by decide, rfl, fun y hy => by cases hy; rfl⟩
        rintro e w3 ⟨rfl, h3⟩
        have HC := hid h3
        clear h3
        refine hK.out _ _ ?k13x19m (fun hS => ?s13x19m)
        case k13x19m => exact act_cells (HC.out.blk 2 rfl)
        clear hK K
        try simp only [Act.put, List.setIfInBounds_toArray, List.set_cons_zero, List.set_cons_succ]
        refine wpAnyH_take (i := 14) (v := ?v14x20m) (by simp only [List.getElem?_toArray, List.getElem?_cons_zero, List.getElem?_cons_succ]; exact rfl) (by kernel_rfl) (by kernel_rfl) (by kernel_rfl) (by exact fun _ _ _ h => h) (Or.inl ⟨by rfl, ?y14x20m⟩) hS ?r14x20m
        case y14x20m => (intro w' hSw; (try dsimp only at hSw); go_simp; (try with_reducible rfl))
        simp only [Act.put, List.setIfInBounds_toArray, List.set_cons_zero, List.set_cons_succ]
        refine wpAnyH_take (i := 15) (v := ?v15x21m) (by simp only [List.getElem?_toArray, List.getElem?_cons_zero, List.getElem?_cons_succ]; exact rfl) (by kernel_rfl) (by kernel_rfl) (by kernel_rfl) (by exact fun _ _ _ h => h) (Or.inl ⟨by rfl, ?y15x21m⟩) hS ?r15x21m
        case y15x21m => (intro w' hSw; (try dsimp only at hSw); go_simp; (try with_reducible rfl))
        simp only [Act.put, List.setIfInBounds_toArray, List.set_cons_zero, List.set_cons_succ]
        refine wpAnyH_done (by kernel_rfl) ?_ _
        clear hS
        go_wp2
        go_ret
        exact ⟨by simp, by have := HC.out.take 2; rw [act5_4]; exact this⟩
    · refine wpo_make8 (.tmp 78) (.tmp 78) rfl x.toNat rfl rfl (by omega) ?_
      intro w2 hb2 hm2
      have HC := hid (HC.out.addBlk hb2 hm2 (Nat.le_refl _))
      clear hb2 hm2
      refine hK.out _ _ ?k12x22m (fun hS => ?s12x22m)
      case k12x22m => exact act_cells (HC.out.blk 2 rfl)
      clear hK K
      try simp only [Act.put, List.setIfInBounds_toArray, List.set_cons_zero, List.set_cons_succ]
      refine wpAnyH_ready (rs := [5]) (by kernel_rfl) (by simp) ?_
      refine AllReadyH.cons (by simp only [List.getElem?_toArray, List.getElem?_cons_zero, List.getElem?_cons_succ]; exact rfl) (fun K hK => ?_) AllReadyH.nil
      refine wpo_make8 (.tmp 71) (.tmp 71) rfl x.toNat rfl rfl (by omega) ?_
      intro w2 hb2 hm2
      have HC := hid (HC.out.addBlk hb2 hm2 (Nat.le_refl _))
      clear hb2 hm2
      refine hK.out _ _ ?k5x23m (fun hS => ?s5x23m)
      case k5x23m => exact act_cells (HC.out.blk 2 rfl)
      clear hK K
      try simp only [Act.put, List.setIfInBounds_toArray, List.set_cons_zero, List.set_cons_succ]
      refine wpAnyH_ready (rs := [6]) (by kernel_rfl) (by simp) ?_
      refine AllReadyH.cons (by simp only [List.getElem?_toArray, List.getElem?_cons_zero, List.getElem?_cons_succ]; exact rfl) (fun K hK => ?_) AllReadyH.nil
      go_simp
      refine (HC.out.dev_write 0 rfl n _ x.toNat x.toNat (List.replicate x.toNat 0) (by simp) ?_ ?_ (by omega)).mono ?_
      · first | exact sb_blk HC.out 3 rfl | exact sb_blk HC.out 4 rfl
      · first | exact .inr ⟨3, _, _, _, by decide, rfl, fun y hy => by cases hy; rfl⟩ | exact .inr ⟨4, _, _, _, by decide, rfl, fun y hy => by cases hy; rfl⟩
      rintro e w3 ⟨rfl, h3⟩
      have HC := hid h3
      clear h3
      refine hK.out _ _ ?k6x24m (fun hS => ?s6x24m)
      case k6x24m => exact act_cells (HC.out.blk 2 rfl)
      clear hK K
      try simp only [Act.put, List.setIfInBounds_toArray, List.set_cons_zero, List.set_cons_succ]
      refine wpAnyH_ready (rs := [13]) (by kernel_rfl) (by simp) ?_
      refine AllReadyH.cons (by simp only [List.getElem?_toArray, List.getElem?_cons_zero, List.getElem?_cons_succ]; exact rfl) (fun K hK => ?_) AllReadyH.nil
      go_simp
      refine (HC.out.rdev_write 1 rfl n _ x.toNat x.toNat (List.replicate x.toNat 0) (by simp) ?_ ?_ (by omega)).mono ?_
      · first | exact sb_blk HC.out 3 rfl | exact sb_blk HC.out 4 rfl
      · first | exact .inr ⟨3, _, _, _, by decide, rfl, fun y hy => by cases hy; rfl⟩ | exact .inr ⟨4, _, _, _, by decide, rfl, fun y hy => by cases hy; rfl⟩
      rintro e w3 ⟨rfl, h3⟩
      have HC := hid h3
      clear h3
      refine hK.out _ _ ?k13x25m (fun hS => ?s13x25m)
      case k13x25m => exact act_cells (HC.out.blk 2 rfl)
      clear hK K
      try simp only [Act.put, List.setIfInBounds_toArray, List.set_cons_zero, List.set_cons_succ]
      refine wpAnyH_take (i := 14) (v := ?v14x26m) (by simp only [List.getElem?_toArray, List.getElem?_cons_zero, List.getElem?_cons_succ]; exact rfl) (by kernel_rfl) (by kernel_rfl) (by kernel_rfl) (by exact fun _ _ _ h => h) (Or.inl ⟨by rfl, ?y14x26m⟩) hS ?r14x26m
      case y14x26m => (intro w' hSw; (try dsimp only at hSw); go_simp; (try with_reducible rfl))
      simp only [Act.put, List.setIfInBounds_toArray, List.set_cons_zero, List.set_cons_succ]
      refine wpAnyH_take (i := 15) (v := ?v15x27m) (by simp only [List.getElem?_toArray, List.getElem?_cons_zero, List.getElem?_cons_succ]; exact rfl) (by kernel_rfl) (by kernel_rfl) (by kernel_rfl) (by exact fun _ _ _ h => h) (Or.inl ⟨by rfl, ?y15x27m⟩) hS ?r15x27m
      case y15x27m => (intro w' hSw; (try dsimp only at hSw); go_simp; (try with_reducible rfl))
      simp only [Act.put, List.setIfInBounds_toArray, List.set_cons_zero, List.set_cons_succ]
      refine wpAnyH_done (by kernel_rfl) ?_ _
      clear hS
      go_wp2
      go_ret
      exact ⟨by simp, by have := HC.out.take 2; rw [act5_4]; exact this⟩
  have e4 : (kind == 4) = false := by simpa using k4
  have HA : Hid (act5 d ⟨kind, n, x, ko, kc, keep⟩ = d) := hid (by unfold act5; simp [k0, k1, k2, k3, k4])
  clear k0 k1 k2 k3 k4
  go_enter Try.func54, Try.ntmps54
  go_wp2
  go_ret
  rw [HW1.out]
  exact ⟨rfl, by have := H1.out.take 2; rw [HA.out]; exact this⟩
end Go.Proofs.Ytlondopgibcikaa
