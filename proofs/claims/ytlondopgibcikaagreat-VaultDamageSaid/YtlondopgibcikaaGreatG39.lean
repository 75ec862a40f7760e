/- Law 7: acted, kinds 0 and 1. -/
import Derived.Test.YtlondopgibcikaaGreatRows
import Derived.Test.YtlondopgibcikaaGreatG01
import Derived.Test.YtlondopgibcikaaGreatG02
import Derived.Test.YtlondopgibcikaaGreatG06
import Derived.Test.YtlondopgibcikaaGreatG07
import Derived.Test.YtlondopgibcikaaGreatG08
import Derived.Test.YtlondopgibcikaaGreatG09
import Derived.Test.YtlondopgibcikaaGreatG10
import Derived.Test.YtlondopgibcikaaGreatG13
import Derived.Test.YtlondopgibcikaaGreatG16
import Derived.Test.YtlondopgibcikaaGreatG17
import Derived.Test.YtlondopgibcikaaGreatG18
import Derived.Test.YtlondopgibcikaaGreatG19
import Derived.Test.YtlondopgibcikaaGreatG21
import Derived.Test.YtlondopgibcikaaGreatG23
import Derived.Test.YtlondopgibcikaaGreatG24
import Derived.Test.YtlondopgibcikaaGreatG25
import Derived.Test.YtlondopgibcikaaGreatG26
import Derived.Test.YtlondopgibcikaaGreatG27
import Derived.Test.YtlondopgibcikaaGreatG28
import Derived.Test.YtlondopgibcikaaGreatG29
import Derived.Test.YtlondopgibcikaaGreatG30
import Derived.Test.YtlondopgibcikaaGreatG31
import Derived.Test.YtlondopgibcikaaGreatG32
import Derived.Test.YtlondopgibcikaaGreatG33
import Derived.Test.YtlondopgibcikaaGreatG34
import Derived.Test.YtlondopgibcikaaGreatG35
import Derived.Test.YtlondopgibcikaaGreatG36
import Derived.Test.YtlondopgibcikaaGreatG37
import Derived.Test.YtlondopgibcikaaGreatG38
import Derived.WalkKit
import Derived.WalkSpells
import Derived.WalkLawsBesides
import Derived.Deep.RegionHeld3
import Derived.Deep.QuietTactic
import Derived.BigQuiet
namespace Go.Proofs.YtlondopgibcikaaGreat
open Go.RowKit Ent
/-- bytes of one's own -/
def swA (v : Value) (l : List UInt8) : Asset := fun w F => SW w F v l
theorem good_swA (v : Value) (l : List UInt8) : Good (swA v l) := ⟨fun h hk hG => SW.keep h hk hG⟩
theorem St.swOver {B : Nat} {w0 w : World} {As : List Asset} (h : St B w0 w As) (i : Nat) {ao : Option Addr} {n c : Nat} {l : List UInt8} (hi : As[i]? = some (swA (.slice ao n c) l)) (hn : n = l.length) (hb : n ≤ 1073741824) :
    Calls Tryz.prog 27 #[.slice ao n c] w fun e w' => e = .returned (.tuple #[]) ∧ St B w0 w' (As.set i noA) := by
  obtain ⟨F, ⟨ao', cap, hv, _, _, hwb, hF2⟩, hF, _, hcl⟩ := h.open i hi
  injection hv with h1 h2 h3
  subst h1
  refine (over2_any ao n c hb w (by rw [hn]; exact hwb)).mono ?_
  rintro e w' ⟨rfl, hk, _⟩
  exact ⟨rfl, hcl w' noA F (hk.mono fun k _ ⟨a, h1, h2, _⟩ => by rw [h2]; exact hF2 a h1) good_noA trivial (fun k hk => .inl hk)⟩
theorem St.listOver {B : Nat} {w0 w : World} {As : List Asset} (h : St B w0 w As) (i : Nat) {v : Value} {L : List (List UInt8)} (hi : As[i]? = some (listA v L)) (hn : L.length ≤ 1073741824) (hl : ∀ l ∈ L, l.length ≤ 1073741824) :
    Calls Tryz.prog 31 #[v] w fun e w' => e = .returned (.tuple #[]) ∧ St B w0 w' (As.set i noA) := by
  obtain ⟨F, hA, hF, _, hcl⟩ := h.open i hi
  refine (overA_any v L hn hl w hA).mono ?_
  rintro e w' ⟨rfl, hk⟩
  exact ⟨rfl, hcl w' noA F hk good_noA trivial (fun k hk => .inl hk)⟩
theorem St.listLr {B : Nat} {w0 w : World} {As : List Asset} (h : St B w0 w As) (i : Nat) {ao : Option Addr} {n c : Nat} {L : List (List UInt8)} (hi : As[i]? = some (listA (.slice ao n c) L)) : LR w ao L := by
  obtain ⟨F, hA, _⟩ := h.open i hi
  obtain ⟨lo, c', hv, hlr⟩ := listA_lst hA
  injection hv with h1 _ _
  rw [h1]; exact hlr.lr
theorem listA_lrf {w : World} {F : Nat → Prop} {ao : Option Addr} {n c : Nat} {L : List (List UInt8)} (h : listA (.slice ao n c) L w F) : LRF w F ao L := by
  obtain ⟨lo, c', hv, hlr⟩ := listA_lst h
  injection hv with h1 _ _
  rw [h1]; exact hlr
set_option maxRecDepth 100000 in
set_option maxHeartbeats 4000000 in
theorem acted0n_any {w0 w : World} {a c p : Nat} {d : Dev} (kind n : Int) (lo : Option Addr) (lc : Nat) (L : List (List UInt8)) (ko : Option Addr) (kc : Nat) (keep : List Bool) (hx : (Act7.mk kind n lo lc L ko kc keep).fits w0) (hL8 : L.length ≤ 8) (hL200 : ∀ r ∈ L, r.length ≤ 200)
    (h : St w0.heap.size w0 w (pairL a c p d (.pointer none) (.pointer none))) (hkind : kind = 0) :
    Calls Tryz.prog 10 #[ptr p, .agg (Act7.mk kind n lo lc L ko kc keep).cells.toArray] w fun e w' => e = .returned (.bool true) ∧ St w0.heap.size w0 w' (pairL a c p d (.pointer none) (.pointer none)) := by
  subst hkind
  obtain ⟨m, hm⟩ : ∃ m, L.length = m := ⟨_, rfl⟩
  obtain ⟨q, hq⟩ : ∃ q, keep.length = q := ⟨_, rfl⟩
  obtain ⟨bx, hbx⟩ : ∃ bx, w.heap.size = bx := ⟨_, rfl⟩
  obtain ⟨w1, hw1⟩ : ∃ w1, w.alloc (.cells #[.int .i64 0, .int .i64 n, .slice lo m lc, .slice ko q kc] 42) = w1 := ⟨_, rfl⟩
  have h1 : St w0.heap.size w0 w1 (pairL a c p d (.pointer none) (.pointer none) ++ [blkA bx 42 [.int .i64 0, .int .i64 n, .slice lo m lc, .slice ko q kc]]) := by rw [← hw1, ← hbx]; exact h.box _ _
  have HX := hid hx; have H1 := hid h1; have HW1 := hid hw1; have HBX := hid hbx; have HM := hid hm; have HQ := hid hq; have HL200 := hid hL200
  have HLR : Hid (LR w1 lo L) := hid (hx.lr.below h1.be)
  rw [hm] at hL8
  unfold Act7.cells ptr
  dsimp only
  rw [hm, hq]
  obtain ⟨ro, rc, hfa, hrc, hrs, hrb⟩ := hx.first
  obtain ⟨rec, hrec⟩ : ∃ rec, firstR (Act7.mk 0 n lo lc L ko kc keep) = rec := ⟨_, rfl⟩
  rw [hrec] at hrc hrs hrb
  obtain ⟨rn, hrn⟩ : ∃ rn, rec.length = rn := ⟨_, rfl⟩
  rw [hrn] at hrc
  have hr200 : rn ≤ 200 := by
    rw [← hrn, ← hrec]
    rcases L with _ | ⟨r, L⟩
    · simp [firstR]
    · exact hL200 r List.mem_cons_self
  have HFIRST : Hid (∀ w', Below w0.heap.size w0 w' → Calls Tryz.prog 25 #[.agg #[.int .i64 0, .int .i64 n, .slice lo m lc, .slice ko q kc]] w' fun e w2 => e = .returned (.slice ro rn rc) ∧ Below w'.heap.size w' w2) := hid (fun w' hb => by
    have := first7_at (Act7.mk 0 n lo lc L ko kc keep) ro rc w' (hfa.below hb)
    rw [hrec, hrn] at this
    unfold Act7.cells at this
    dsimp only at this
    rw [hm, hq] at this
    exact this)
  have HREC := hid hrec; have HRN := hid hrn; have HRS := hid hrs; have HRB := hid hrb
  clear hfa hrec hrn hrs hrb
  clear h h1 hx hm hq hw1 hbx hL200
  go_enter Tryz.func10, Tryz.ntmps10
  go_upto_region 1 with fail
  rw [HW1.out, HBX.out]
  have cx2 := (H1.out.blk 3 rfl).cell (j := 2) rfl
  go_wp2_with fail
  refine (copyLists_any lo m lc L HM.out.symm (by omega) (fun l hl => by have := HL200.out l hl; omega) w1 HLR.out).mono ?_
  rintro e w2 ⟨vL, rfl, hf2, hb2⟩
  obtain ⟨vo, vc, rfl, _⟩ := listA_lst hf2.listA
  rw [HM.out] at hf2 ⊢
  have HF2 := hid hf2; have HB2 := hid hb2
  clear hf2 hb2 cx2
  have H2 := hid (H1.out.below HB2.out)
  have hbp := H2.out.blk 2 rfl
  have hbb := H2.out.blk 3 rfl
  have c3 := hbp.cell (j := 3) rfl
  have hS00 : w2.cell? ⟨p, 1, none⟩ = some (.pointer none) ∧ w2.cell? ⟨bx, 0, none⟩ = some (.int .i64 0) ∧ w2.cell? ⟨bx, 1, none⟩ = some (.int .i64 n) ∧ w2.cell? ⟨bx, 2, none⟩ = some (.slice lo m lc) ∧ w2.cell? ⟨bx, 3, none⟩ = some (.slice ko q kc) := ⟨hbp.cell (j := 1) rfl, hbb.cell (j := 0) rfl, hbb.cell (j := 1) rfl, hbb.cell (j := 2) rfl, hbb.cell (j := 3) rfl⟩
  have cx0 := hS00.2.1
  clear hbp hbb
  go_upto_region 5 with fail
  refine wp_region_held_drew (S := fun w' => w'.cell? ⟨p, 1, none⟩ = some (.pointer none) ∧ w'.cell? ⟨bx, 0, none⟩ = some (.int .i64 0) ∧ w'.cell? ⟨bx, 1, none⟩ = some (.int .i64 n) ∧ w'.cell? ⟨bx, 2, none⟩ = some (.slice lo m lc) ∧ w'.cell? ⟨bx, 3, none⟩ = some (.slice ko q kc)) (by kernel_rfl) hS00 (fun hS => ?_)
  refine tkH (i := 0) (v := ?v0x1n) (y := Or.inl ⟨by rfl, ?y0x1n⟩) (s := hS) (h := ?r0x1n)
  case y0x1n => (intro w' hSw; (try dsimp only at hSw); go_simp; (try with_reducible rfl))
  simp only [Act.put, sA, sB, sC]
  refine tkH (i := 1) (v := ?v1x2n) (y := Or.inl ⟨by rfl, ?y1x2n⟩) (s := hS) (h := ?r1x2n)
  case y1x2n => (intro w' hSw; (try dsimp only at hSw); go_simp; (try with_reducible rfl))
  simp only [Act.put, sA, sB, sC]
  refine tkH (i := 2) (v := ?v2x3n) (y := Or.inl ⟨by rfl, ?y2x3n⟩) (s := hS) (h := ?r2x3n)
  case y2x3n => (intro w' hSw; (try dsimp only at hSw); go_simp; (try with_reducible rfl))
  simp only [Act.put, sA, sB, sC]
  refine tkH (i := 3) (v := ?v3x4n) (y := Or.inl ⟨by rfl, ?y3x4n⟩) (s := hS) (h := ?r3x4n)
  case y3x4n => (intro w' hSw; (try dsimp only at hSw); go_simp; (try with_reducible rfl))
  simp only [Act.put, sA, sB, sC]
  refine tkH (i := 4) (v := ?v4x5n) (y := Or.inl ⟨by rfl, ?y4x5n⟩) (s := hS) (h := ?r4x5n)
  case y4x5n => (intro w' hSw; (try dsimp only at hSw); go_simp; (try with_reducible rfl))
  simp only [Act.put, sA, sB, sC]
  refine rdH (i := 5) (h := fun K hK => ?_)
  go_simp
  refine (HFIRST.out _ (H2.out.be.trans ((Below.refl _ _).drew.mono H2.out.bl))).mono ?_
  rintro e w3 ⟨rfl, hb3⟩
  have hb3 := th (Below.refl w2.heap.size w2).drew hb3
  have hS3 : w3.cell? ⟨p, 1, none⟩ = some (.pointer none) ∧ w3.cell? ⟨bx, 0, none⟩ = some (.int .i64 0) ∧ w3.cell? ⟨bx, 1, none⟩ = some (.int .i64 n) ∧ w3.cell? ⟨bx, 2, none⟩ = some (.slice lo m lc) ∧ w3.cell? ⟨bx, 3, none⟩ = some (.slice ko q kc) := ⟨(hb3.cell (World.block_lt_of_cell? _ _ hS00.1)).trans hS00.1, (hb3.cell (World.block_lt_of_cell? _ _ hS00.2.1)).trans hS00.2.1, (hb3.cell (World.block_lt_of_cell? _ _ hS00.2.2.1)).trans hS00.2.2.1, (hb3.cell (World.block_lt_of_cell? _ _ hS00.2.2.2.1)).trans hS00.2.2.2.1, (hb3.cell (World.block_lt_of_cell? _ _ hS00.2.2.2.2)).trans hS00.2.2.2.2⟩
  have HB3 := hid hb3
  clear hb3
  refine hK.out _ _ ?k5x6n (fun hS => ?s5x6n)
  case k5x6n => exact hS3
  clear hK K
  try simp only [Act.put, sA, sB, sC]
  refine rdH (i := 6) (h := fun K hK => ?_)
  go_simp
  refine (none7_append (.pointer none) ro rn rc w3 (.inl rfl)).mono ?_
  rintro e w4 ⟨rfl, hb4⟩
  have hb4 := th HB3.out hb4
  have hS4 : w4.cell? ⟨p, 1, none⟩ = some (.pointer none) ∧ w4.cell? ⟨bx, 0, none⟩ = some (.int .i64 0) ∧ w4.cell? ⟨bx, 1, none⟩ = some (.int .i64 n) ∧ w4.cell? ⟨bx, 2, none⟩ = some (.slice lo m lc) ∧ w4.cell? ⟨bx, 3, none⟩ = some (.slice ko q kc) := ⟨(hb4.cell (World.block_lt_of_cell? _ _ hS00.1)).trans hS00.1, (hb4.cell (World.block_lt_of_cell? _ _ hS00.2.1)).trans hS00.2.1, (hb4.cell (World.block_lt_of_cell? _ _ hS00.2.2.1)).trans hS00.2.2.1, (hb4.cell (World.block_lt_of_cell? _ _ hS00.2.2.2.1)).trans hS00.2.2.2.1, (hb4.cell (World.block_lt_of_cell? _ _ hS00.2.2.2.2)).trans hS00.2.2.2.2⟩
  have HB4 := hid hb4
  clear hb4
  refine hK.out _ _ ?k6x7n (fun hS => ?s6x7n)
  case k6x7n => exact hS4
  clear hK K
  try simp only [Act.put, sA, sB, sC]
  refine tkH (i := 7) (v := ?v7x8n) (y := Or.inl ⟨by rfl, ?y7x8n⟩) (s := hS) (h := ?r7x8n)
  case y7x8n => (intro w' hSw; (try dsimp only at hSw); go_simp; (try with_reducible rfl))
  simp only [Act.put, sA, sB, sC]
  refine tkH (i := 8) (v := ?v8x9n) (y := Or.inl ⟨by rfl, ?y8x9n⟩) (s := hS) (h := ?r8x9n)
  case y8x9n => (intro w' hSw; (try dsimp only at hSw); go_simp; (try with_reducible rfl))
  simp only [Act.put, sA, sB, sC]
  refine wpAnyH_done (by kernel_rfl) ?_ _
  go_wp2
  go_ret
  exact ⟨rfl, (H2.out.below HB4.out).drop_post⟩
theorem sw_lent {w : World} {F : Nat → Prop} {ao : Option Addr} {n c : Nat} {l : List UInt8} (h : swA (.slice ao n c) l w F) : SB w ao c l ∧ (l ≠ [] → ∀ x, ao = some x → F x.block) := by
  obtain ⟨ao', cap, hv, _, hs, _, hF⟩ := h
  injection hv with h1 _ h3
  rw [h1, h3]
  exact ⟨hs, fun _ => hF⟩
set_option maxRecDepth 100000 in
set_option maxHeartbeats 4000000 in
theorem acted0s_any {w0 w : World} {a c p : Nat} {d : Dev} {s : VS} {v u : Nat} (kind n : Int) (lo : Option Addr) (lc : Nat) (L : List (List UInt8)) (ko : Option Addr) (kc : Nat) (keep : List Bool) (hx : (Act7.mk kind n lo lc L ko kc keep).fits w0) (hL8 : L.length ≤ 8) (hL200 : ∀ r ∈ L, r.length ≤ 200)
    (h : St w0.heap.size w0 w (pairL a c p d (ptr v) (ptr u) ++ [vsA v a s, rvA u c s])) (hkind : kind = 0) (hf : fitV s) (hn2 : 2 ≤ d.img.length) (hlo : d.loose.length ≤ 100000000) :
    Calls Tryz.prog 10 #[ptr p, .agg (Act7.mk kind n lo lc L ko kc keep).cells.toArray] w fun e w' => e = .returned (.bool true) ∧ ∃ v u, St w0.heap.size w0 w' (pairL a c p (appendV d s (firstR (Act7.mk kind n lo lc L ko kc keep))).2.1 (ptr v) (ptr u) ++ [vsA v a (appendV d s (firstR (Act7.mk kind n lo lc L ko kc keep))).2.2, rvA u c (appendV d s (firstR (Act7.mk kind n lo lc L ko kc keep))).2.2]) := by
  subst hkind
  have HFIT := hid hf
  clear hf
  obtain ⟨m, hm⟩ : ∃ m, L.length = m := ⟨_, rfl⟩
  obtain ⟨q, hq⟩ : ∃ q, keep.length = q := ⟨_, rfl⟩
  obtain ⟨bx, hbx⟩ : ∃ bx, w.heap.size = bx := ⟨_, rfl⟩
  obtain ⟨w1, hw1⟩ : ∃ w1, w.alloc (.cells #[.int .i64 0, .int .i64 n, .slice lo m lc, .slice ko q kc] 42) = w1 := ⟨_, rfl⟩
  have h1 : St w0.heap.size w0 w1 (pairL a c p d (ptr v) (ptr u) ++ [vsA v a s, rvA u c s] ++ [blkA bx 42 [.int .i64 0, .int .i64 n, .slice lo m lc, .slice ko q kc]]) := by rw [← hw1, ← hbx]; exact h.box _ _
  have HX := hid hx; have H1 := hid h1; have HW1 := hid hw1; have HBX := hid hbx; have HM := hid hm; have HQ := hid hq; have HL200 := hid hL200
  have HLR : Hid (LR w1 lo L) := hid (hx.lr.below h1.be)
  rw [hm] at hL8
  unfold Act7.cells ptr
  dsimp only
  rw [hm, hq]
  obtain ⟨ro, rc, hfa, hrc, hrs, hrb⟩ := hx.first
  obtain ⟨rec, hrec⟩ : ∃ rec, firstR (Act7.mk 0 n lo lc L ko kc keep) = rec := ⟨_, rfl⟩
  rw [hrec] at hrc hrs hrb
  obtain ⟨rn, hrn⟩ : ∃ rn, rec.length = rn := ⟨_, rfl⟩
  rw [hrn] at hrc
  have hr200 : rn ≤ 200 := by
    rw [← hrn, ← hrec]
    rcases L with _ | ⟨r, L⟩
    · simp [firstR]
    · exact hL200 r List.mem_cons_self
  have HFIRST : Hid (∀ w', Below w0.heap.size w0 w' → Calls Tryz.prog 25 #[.agg #[.int .i64 0, .int .i64 n, .slice lo m lc, .slice ko q kc]] w' fun e w2 => e = .returned (.slice ro rn rc) ∧ Below w'.heap.size w' w2) := hid (fun w' hb => by
    have := first7_at (Act7.mk 0 n lo lc L ko kc keep) ro rc w' (hfa.below hb)
    rw [hrec, hrn] at this
    unfold Act7.cells at this
    dsimp only at this
    rw [hm, hq] at this
    exact this)
  have HREC := hid hrec; have HRN := hid hrn; have HRS := hid hrs; have HRB := hid hrb
  clear hfa hrec hrn hrs hrb
  rw [HREC.out]
  clear h h1 hx hm hq hw1 hbx hL200
  go_enter Tryz.func10, Tryz.ntmps10
  go_upto_region 1 with fail
  rw [HW1.out, HBX.out]
  have cx2 := (H1.out.blk 5 rfl).cell (j := 2) rfl
  go_wp2_with fail
  refine (copyLists_any lo m lc L HM.out.symm (by omega) (fun l hl => by have := HL200.out l hl; omega) w1 HLR.out).mono ?_
  rintro e w2 ⟨vL, rfl, hf2, hb2⟩
  obtain ⟨vo, vc, rfl, _⟩ := listA_lst hf2.listA
  rw [HM.out] at hf2 ⊢
  have HF2 := hid hf2; have HB2 := hid hb2
  clear hf2 hb2 cx2
  have H2 := hid (H1.out.below HB2.out)
  have hbp := H2.out.blk 2 rfl
  have hbb := H2.out.blk 5 rfl
  have c3 := hbp.cell (j := 3) rfl
  have hS00 : w2.cell? ⟨p, 1, none⟩ = some (.pointer (some ⟨v, 0, none⟩)) ∧ w2.cell? ⟨p, 3, none⟩ = some (.pointer (some ⟨u, 0, none⟩)) ∧ w2.cell? ⟨bx, 0, none⟩ = some (.int .i64 0) ∧ w2.cell? ⟨bx, 1, none⟩ = some (.int .i64 n) ∧ w2.cell? ⟨bx, 2, none⟩ = some (.slice lo m lc) ∧ w2.cell? ⟨bx, 3, none⟩ = some (.slice ko q kc) := ⟨hbp.cell (j := 1) rfl, hbp.cell (j := 3) rfl, hbb.cell (j := 0) rfl, hbb.cell (j := 1) rfl, hbb.cell (j := 2) rfl, hbb.cell (j := 3) rfl⟩
  obtain ⟨cx0, cx1, cx2, cx3⟩ := hS00.2.2
  clear hbp hbb hS00
  unfold ptr at c3
  go_wp2_with fail
  refine (HFIRST.out _ H2.out.be).mono ?_
  rintro e w3 ⟨rfl, hb3⟩
  have H3 := hid (H2.out.below hb3)
  clear hb3 c3 cx0 cx1 cx2 cx3
  go_wp2_with fail
  refine (copy_any ro rn rc rec HRN.out.symm (by omega) w3 (HRS.out.below H3.out.be)).mono ?_
  rintro e w4 ⟨v4, rfl, ho4, hne4, hb4⟩
  rw [HRN.out] at ho4
  obtain ⟨vo2, vc2, rfl⟩ := own_slice ho4
  have hvc2 : rn ≤ vc2 := by
    obtain ⟨_, _, hv, _, hc, _⟩ := own_all ho4
    injection hv with _ _ h3
    rw [h3]; exact hc
  have hsw : SW w4 (fun k => w3.heap.size ≤ k ∧ k < w4.heap.size) (.slice vo2 rn vc2) rec := by
    obtain ⟨ao', cap, hv, _, hc, hs, hwb, _⟩ := own_all ho4
    rw [hv]
    refine ⟨ao', cap, by rw [HRN.out], by rw [HRN.out]; exact hc, hs, by rw [HRN.out]; exact hwb, fun x hx => ?_⟩
    exact ⟨owns_ge ho4 _ (by rw [hv, hx]; rfl), own_lt ho4 _ (by rw [hv, hx]; rfl)⟩
  have h4 : St w0.heap.size w0 w4 [dev a d, rdev c d, blkA p 37 [ptr a, ptr v, ptr c, ptr u], vsA v a s, rvA u c s, blkA bx 42 [.int .i64 0, .int .i64 n, .slice lo m lc, .slice ko q kc], swA (.slice vo2 rn vc2) rec] := H3.out.add hb4 (good_swA _ _) hsw (fun k hk => hk)
  have H4 := hid h4
  have hp4 := h4.blk 2 rfl
  have hx4 := h4.blk 5 rfl
  have hS00 : w4.cell? ⟨p, 1, none⟩ = some (.pointer (some ⟨v, 0, none⟩)) ∧ w4.cell? ⟨p, 3, none⟩ = some (.pointer (some ⟨u, 0, none⟩)) ∧ w4.cell? ⟨bx, 0, none⟩ = some (.int .i64 0) ∧ w4.cell? ⟨bx, 1, none⟩ = some (.int .i64 n) ∧ w4.cell? ⟨bx, 2, none⟩ = some (.slice lo m lc) ∧ w4.cell? ⟨bx, 3, none⟩ = some (.slice ko q kc) := ⟨hp4.cell (j := 1) rfl, hp4.cell (j := 3) rfl, hx4.cell (j := 0) rfl, hx4.cell (j := 1) rfl, hx4.cell (j := 2) rfl, hx4.cell (j := 3) rfl⟩
  clear ho4 hne4 hb4 hsw h4 hp4 hx4
  go_upto_region 7 with fail
  refine wp_region_held_drew (S := fun w' => w'.cell? ⟨p, 1, none⟩ = some (.pointer (some ⟨v, 0, none⟩)) ∧ w'.cell? ⟨p, 3, none⟩ = some (.pointer (some ⟨u, 0, none⟩)) ∧ w'.cell? ⟨bx, 0, none⟩ = some (.int .i64 0) ∧ w'.cell? ⟨bx, 1, none⟩ = some (.int .i64 n) ∧ w'.cell? ⟨bx, 2, none⟩ = some (.slice lo m lc) ∧ w'.cell? ⟨bx, 3, none⟩ = some (.slice ko q kc)) (by kernel_rfl) hS00 (fun hS => ?_)
  refine tkH (i := 0) (v := ?v0x1o) (y := Or.inl ⟨by rfl, ?y0x1o⟩) (s := hS) (h := ?r0x1o)
  case y0x1o => (intro w' hSw; (try dsimp only at hSw); go_simp; (try with_reducible rfl))
  simp only [Act.put, sA, sB, sC]
  refine tkH (i := 1) (v := ?v1x2o) (y := Or.inl ⟨by rfl, ?y1x2o⟩) (s := hS) (h := ?r1x2o)
  case y1x2o => (intro w' hSw; (try dsimp only at hSw); go_simp; (try with_reducible rfl))
  simp only [Act.put, sA, sB, sC]
  refine tkH (i := 2) (v := ?v2x3o) (y := Or.inl ⟨by rfl, ?y2x3o⟩) (s := hS) (h := ?r2x3o)
  case y2x3o => (intro w' hSw; (try dsimp only at hSw); go_simp; (try with_reducible rfl))
  simp only [Act.put, sA, sB, sC]
  refine tkH (i := 3) (v := ?v3x4o) (y := Or.inl ⟨by rfl, ?y3x4o⟩) (s := hS) (h := ?r3x4o)
  case y3x4o => (intro w' hSw; (try dsimp only at hSw); go_simp; (try with_reducible rfl))
  simp only [Act.put, sA, sB, sC]
  refine tkH (i := 4) (v := ?v4x5o) (y := Or.inl ⟨by rfl, ?y4x5o⟩) (s := hS) (h := ?r4x5o)
  case y4x5o => (intro w' hSw; (try dsimp only at hSw); go_simp; (try with_reducible rfl))
  simp only [Act.put, sA, sB, sC]
  refine tkH (i := 6) (v := ?v6x6o) (y := Or.inl ⟨by rfl, ?y6x6o⟩) (s := hS) (h := ?r6x6o)
  case y6x6o => (intro w' hSw; (try dsimp only at hSw); go_simp; (try with_reducible rfl))
  simp only [Act.put, sA, sB, sC]
  refine tkH (i := 7) (v := ?v7x7o) (y := Or.inl ⟨by rfl, ?y7x7o⟩) (s := hS) (h := ?r7x7o)
  case y7x7o => (intro w' hSw; (try dsimp only at hSw); go_simp; (try with_reducible rfl))
  simp only [Act.put, sA, sB, sC]
  refine tkH (i := 8) (v := ?v8x8o) (y := Or.inl ⟨by rfl, ?y8x8o⟩) (s := hS) (h := ?r8x8o)
  case y8x8o => (intro w' hSw; (try dsimp only at hSw); go_simp; (try with_reducible rfl))
  simp only [Act.put, sA, sB, sC]
  refine tkH (i := 9) (v := ?v9x9o) (y := Or.inl ⟨by rfl, ?y9x9o⟩) (s := hS) (h := ?r9x9o)
  case y9x9o => (intro w' hSw; (try dsimp only at hSw); go_simp; (try with_reducible rfl))
  simp only [Act.put, sA, sB, sC]
  refine tkH (i := 10) (v := ?v10x10o) (y := Or.inl ⟨by rfl, ?y10x10o⟩) (s := hS) (h := ?r10x10o)
  case y10x10o => (intro w' hSw; (try dsimp only at hSw); go_simp; (try with_reducible rfl))
  simp only [Act.put, sA, sB, sC]
  refine rdH (i := 5) (h := fun K hK => ?_)
  go_simp
  have H4d := hid (H4.out.below (Below.refl _ _).drew)
  refine (vappend_any H4d.out 0 rfl 3 v s rfl (by decide) vo2 rn vc2 rec HRN.out.symm hvc2 (by omega) (.inr ⟨6, _, by decide, by decide, rfl, fun w F hA => sw_lent hA⟩) HFIT.out.2.1 HFIT.out.1 HFIT.out.2.2.1 hn2 hlo).mono ?_
  rintro e w5 ⟨rfl, h5⟩
  have h5 : St w0.heap.size w0 w5 [dev a (appendV d s rec).2.1, rdev c d, blkA p 37 [ptr a, ptr v, ptr c, ptr u], vsA v a (appendV d s rec).2.2, rvA u c s, blkA bx 42 [.int .i64 0, .int .i64 n, .slice lo m lc, .slice ko q kc], swA (.slice vo2 rn vc2) rec] := h5
  have H5 := hid h5
  have hp5 := h5.blk 2 rfl
  have hx5 := h5.blk 5 rfl
  have hS5 : w5.cell? ⟨p, 1, none⟩ = some (.pointer (some ⟨v, 0, none⟩)) ∧ w5.cell? ⟨p, 3, none⟩ = some (.pointer (some ⟨u, 0, none⟩)) ∧ w5.cell? ⟨bx, 0, none⟩ = some (.int .i64 0) ∧ w5.cell? ⟨bx, 1, none⟩ = some (.int .i64 n) ∧ w5.cell? ⟨bx, 2, none⟩ = some (.slice lo m lc) ∧ w5.cell? ⟨bx, 3, none⟩ = some (.slice ko q kc) := ⟨hp5.cell (j := 1) rfl, hp5.cell (j := 3) rfl, hx5.cell (j := 0) rfl, hx5.cell (j := 1) rfl, hx5.cell (j := 2) rfl, hx5.cell (j := 3) rfl⟩
  clear h5 hp5 hx5
  refine hK.out _ _ ?k5x11o (fun hS => ?s5x11o)
  case k5x11o => exact hS5
  clear hK K
  try simp only [Act.put, sA, sB, sC]
  refine rdH (i := 11) (h := fun K hK => ?_)
  go_simp
  refine (HFIRST.out _ H5.out.be).mono ?_
  rintro e w6 ⟨rfl, hb6⟩
  have H6 := hid (H5.out.below hb6)
  have hp6 := H6.out.blk 2 rfl
  have hx6 := H6.out.blk 5 rfl
  have hS6 : w6.cell? ⟨p, 1, none⟩ = some (.pointer (some ⟨v, 0, none⟩)) ∧ w6.cell? ⟨p, 3, none⟩ = some (.pointer (some ⟨u, 0, none⟩)) ∧ w6.cell? ⟨bx, 0, none⟩ = some (.int .i64 0) ∧ w6.cell? ⟨bx, 1, none⟩ = some (.int .i64 n) ∧ w6.cell? ⟨bx, 2, none⟩ = some (.slice lo m lc) ∧ w6.cell? ⟨bx, 3, none⟩ = some (.slice ko q kc) := ⟨hp6.cell (j := 1) rfl, hp6.cell (j := 3) rfl, hx6.cell (j := 0) rfl, hx6.cell (j := 1) rfl, hx6.cell (j := 2) rfl, hx6.cell (j := 3) rfl⟩
  clear hb6 hp6 hx6
  refine hK.out _ _ ?k11x12o (fun hS => ?s11x12o)
  case k11x12o => exact hS6
  clear hK K
  try simp only [Act.put, sA, sB, sC]
  refine rdH (i := 12) (h := fun K hK => ?_)
  go_simp
  refine (rappend_any H6.out 1 rfl 4 u s rfl (by decide) ro rn rc rec HRN.out.symm hrc (by omega) (.inl ⟨HRS.out, HRB.out⟩) HFIT.out.2.1 HFIT.out.1 HFIT.out.2.2.1 hn2 hlo).mono ?_
  rintro e w7 ⟨rfl, h7⟩
  have h7 : St w0.heap.size w0 w7 [dev a (appendV d s rec).2.1, rdev c (appendV d s rec).2.1, blkA p 37 [ptr a, ptr v, ptr c, ptr u], vsA v a (appendV d s rec).2.2, rvA u c (appendV d s rec).2.2, blkA bx 42 [.int .i64 0, .int .i64 n, .slice lo m lc, .slice ko q kc], swA (.slice vo2 rn vc2) rec] := h7
  have H7 := hid h7
  have hp7 := h7.blk 2 rfl
  have hx7 := h7.blk 5 rfl
  have hS7 : w7.cell? ⟨p, 1, none⟩ = some (.pointer (some ⟨v, 0, none⟩)) ∧ w7.cell? ⟨p, 3, none⟩ = some (.pointer (some ⟨u, 0, none⟩)) ∧ w7.cell? ⟨bx, 0, none⟩ = some (.int .i64 0) ∧ w7.cell? ⟨bx, 1, none⟩ = some (.int .i64 n) ∧ w7.cell? ⟨bx, 2, none⟩ = some (.slice lo m lc) ∧ w7.cell? ⟨bx, 3, none⟩ = some (.slice ko q kc) := ⟨hp7.cell (j := 1) rfl, hp7.cell (j := 3) rfl, hx7.cell (j := 0) rfl, hx7.cell (j := 1) rfl, hx7.cell (j := 2) rfl, hx7.cell (j := 3) rfl⟩
  clear h7 hp7 hx7
  refine hK.out _ _ ?k12x13o (fun hS => ?s12x13o)
  case k12x13o => exact hS7
  clear hK K
  try simp only [Act.put, sA, sB, sC]
  refine tkH (i := 13) (v := ?v13x14o) (y := Or.inl ⟨by rfl, ?y13x14o⟩) (s := hS) (h := ?r13x14o)
  case y13x14o => (intro w' hSw; (try dsimp only at hSw); go_simp; (try with_reducible rfl))
  simp only [Act.put, sA, sB, sC]
  refine tkH (i := 14) (v := ?v14x15o) (y := Or.inl ⟨by rfl, ?y14x15o⟩) (s := hS) (h := ?r14x15o)
  case y14x15o => (intro w' hSw; (try dsimp only at hSw); go_simp; (try with_reducible rfl))
  simp only [Act.put, sA, sB, sC]
  refine wpAnyH_done (by kernel_rfl) ?_ _
  clear hS hS5 hS6 hS7
  go_wp2_with fail
  refine (H7.out.swOver 6 rfl HRN.out.symm (by omega)).mono ?_
  rintro e w8 ⟨rfl, h8⟩
  have H8 := hid (h8.take 5)
  clear h8
  go_wp2
  go_ret
  exact ⟨rfl, v, u, H8.out⟩
set_option maxRecDepth 100000 in
set_option maxHeartbeats 4000000 in
theorem acted1n_any {w0 w : World} {a c p : Nat} {d : Dev} (kind n : Int) (lo : Option Addr) (lc : Nat) (L : List (List UInt8)) (ko : Option Addr) (kc : Nat) (keep : List Bool) (hx : (Act7.mk kind n lo lc L ko kc keep).fits w0) (hL8 : L.length ≤ 8) (hL200 : ∀ r ∈ L, r.length ≤ 200)
    (h : St w0.heap.size w0 w (pairL a c p d (.pointer none) (.pointer none))) (hkind : kind = 1) :
    Calls Tryz.prog 10 #[ptr p, .agg (Act7.mk kind n lo lc L ko kc keep).cells.toArray] w fun e w' => e = .returned (.bool true) ∧ St w0.heap.size w0 w' (pairL a c p d (.pointer none) (.pointer none)) := by
  subst hkind
  obtain ⟨m, hm⟩ : ∃ m, L.length = m := ⟨_, rfl⟩
  obtain ⟨q, hq⟩ : ∃ q, keep.length = q := ⟨_, rfl⟩
  obtain ⟨bx, hbx⟩ : ∃ bx, w.heap.size = bx := ⟨_, rfl⟩
  obtain ⟨w1, hw1⟩ : ∃ w1, w.alloc (.cells #[.int .i64 1, .int .i64 n, .slice lo m lc, .slice ko q kc] 42) = w1 := ⟨_, rfl⟩
  have h1 : St w0.heap.size w0 w1 (pairL a c p d (.pointer none) (.pointer none) ++ [blkA bx 42 [.int .i64 1, .int .i64 n, .slice lo m lc, .slice ko q kc]]) := by rw [← hw1, ← hbx]; exact h.box _ _
  have HX := hid hx; have H1 := hid h1; have HW1 := hid hw1; have HBX := hid hbx; have HM := hid hm; have HQ := hid hq; have HL200 := hid hL200
  have HLR : Hid (LR w1 lo L) := hid (hx.lr.below h1.be)
  rw [hm] at hL8
  unfold Act7.cells ptr
  dsimp only
  rw [hm, hq]
  skip
  clear h h1 hx hm hq hw1 hbx hL200
  go_enter Tryz.func10, Tryz.ntmps10
  go_upto_region 1 with fail
  rw [HW1.out, HBX.out]
  have cx2 := (H1.out.blk 3 rfl).cell (j := 2) rfl
  go_wp2_with fail
  refine (copyLists_any lo m lc L HM.out.symm (by omega) (fun l hl => by have := HL200.out l hl; omega) w1 HLR.out).mono ?_
  rintro e w2 ⟨vL, rfl, hf2, hb2⟩
  obtain ⟨vo, vc, rfl, _⟩ := listA_lst hf2.listA
  rw [HM.out] at hf2 ⊢
  have HF2 := hid hf2; have HB2 := hid hb2
  clear hf2 hb2 cx2
  have H2 := hid (H1.out.below HB2.out)
  have hbp := H2.out.blk 2 rfl
  have hbb := H2.out.blk 3 rfl
  have c1 := hbp.cell (j := 1) rfl
  have c3 := hbp.cell (j := 3) rfl
  have cx0 := hbb.cell (j := 0) rfl
  clear hbp hbb
  go_wp2_with fail
  refine (none7_replace (.pointer none) vo m vc w2 (.inl rfl)).mono ?_
  rintro e w3 ⟨rfl, hb3⟩
  have H3 := hid (H2.out.below hb3)
  clear hb3
  go_wp2
  go_ret
  exact ⟨rfl, H3.out.drop_post⟩
set_option maxRecDepth 100000 in
set_option maxHeartbeats 4000000 in
theorem acted1s_any {w0 w : World} {a c p : Nat} {d : Dev} {s : VS} {v u : Nat} (kind n : Int) (lo : Option Addr) (lc : Nat) (L : List (List UInt8)) (ko : Option Addr) (kc : Nat) (keep : List Bool) (hx : (Act7.mk kind n lo lc L ko kc keep).fits w0) (hL8 : L.length ≤ 8) (hL200 : ∀ r ∈ L, r.length ≤ 200)
    (h : St w0.heap.size w0 w (pairL a c p d (ptr v) (ptr u) ++ [vsA v a s, rvA u c s])) (hkind : kind = 1) (hf : fitV s) (hn2 : 2 ≤ d.img.length) (hlo : d.loose.length ≤ 100000000) :
    Calls Tryz.prog 10 #[ptr p, .agg (Act7.mk kind n lo lc L ko kc keep).cells.toArray] w fun e w' => e = .returned (.bool true) ∧ ∃ v u, St w0.heap.size w0 w' (pairL a c p (replaceV d s L).2.1 (ptr v) (ptr u) ++ [vsA v a (replaceV d s L).2.2, rvA u c (replaceV d s L).2.2]) := by
  subst hkind
  have HFIT := hid hf
  clear hf
  obtain ⟨m, hm⟩ : ∃ m, L.length = m := ⟨_, rfl⟩
  obtain ⟨q, hq⟩ : ∃ q, keep.length = q := ⟨_, rfl⟩
  obtain ⟨bx, hbx⟩ : ∃ bx, w.heap.size = bx := ⟨_, rfl⟩
  obtain ⟨w1, hw1⟩ : ∃ w1, w.alloc (.cells #[.int .i64 1, .int .i64 n, .slice lo m lc, .slice ko q kc] 42) = w1 := ⟨_, rfl⟩
  have h1 : St w0.heap.size w0 w1 (pairL a c p d (ptr v) (ptr u) ++ [vsA v a s, rvA u c s] ++ [blkA bx 42 [.int .i64 1, .int .i64 n, .slice lo m lc, .slice ko q kc]]) := by rw [← hw1, ← hbx]; exact h.box _ _
  have HX := hid hx; have H1 := hid h1; have HW1 := hid hw1; have HBX := hid hbx; have HM := hid hm; have HQ := hid hq; have HL200 := hid hL200
  have HLR : Hid (LR w1 lo L) := hid (hx.lr.below h1.be)
  rw [hm] at hL8
  unfold Act7.cells ptr
  dsimp only
  rw [hm, hq]
  skip
  clear h h1 hx hm hq hw1 hbx hL200
  go_enter Tryz.func10, Tryz.ntmps10
  go_upto_region 1 with fail
  rw [HW1.out, HBX.out]
  have cx2 := (H1.out.blk 5 rfl).cell (j := 2) rfl
  go_wp2_with fail
  refine (copyLists_any lo m lc L HM.out.symm (by omega) (fun l hl => by have := HL200.out l hl; omega) w1 HLR.out).mono ?_
  rintro e w2 ⟨vL, rfl, hf2, hb2⟩
  obtain ⟨vo, vc, rfl, _⟩ := listA_lst hf2.listA
  rw [HM.out] at hf2 ⊢
  have HF2 := hid hf2; have HB2 := hid hb2
  clear hf2 hb2 cx2
  have h4 : St w0.heap.size w0 w2 [dev a d, rdev c d, blkA p 37 [ptr a, ptr v, ptr c, ptr u], vsA v a s, rvA u c s, blkA bx 42 [.int .i64 1, .int .i64 n, .slice lo m lc, .slice ko q kc], listA (.slice vo m vc) L] := H1.out.addList HB2.out HF2.out
  have H4 := hid h4
  have hp4 := h4.blk 2 rfl
  have hx4 := h4.blk 5 rfl
  have hS00 : w2.cell? ⟨p, 1, none⟩ = some (.pointer (some ⟨v, 0, none⟩)) ∧ w2.cell? ⟨p, 3, none⟩ = some (.pointer (some ⟨u, 0, none⟩)) ∧ w2.cell? ⟨bx, 0, none⟩ = some (.int .i64 1) ∧ w2.cell? ⟨bx, 1, none⟩ = some (.int .i64 n) ∧ w2.cell? ⟨bx, 2, none⟩ = some (.slice lo m lc) ∧ w2.cell? ⟨bx, 3, none⟩ = some (.slice ko q kc) := ⟨hp4.cell (j := 1) rfl, hp4.cell (j := 3) rfl, hx4.cell (j := 0) rfl, hx4.cell (j := 1) rfl, hx4.cell (j := 2) rfl, hx4.cell (j := 3) rfl⟩
  have c3 := hS00.2.1
  have cx0 := hS00.2.2.1
  clear h4 hp4 hx4
  go_upto_region 13 with fail
  refine wp_region_held_drew (S := fun w' => w'.cell? ⟨p, 1, none⟩ = some (.pointer (some ⟨v, 0, none⟩)) ∧ w'.cell? ⟨p, 3, none⟩ = some (.pointer (some ⟨u, 0, none⟩)) ∧ w'.cell? ⟨bx, 0, none⟩ = some (.int .i64 1) ∧ w'.cell? ⟨bx, 1, none⟩ = some (.int .i64 n) ∧ w'.cell? ⟨bx, 2, none⟩ = some (.slice lo m lc) ∧ w'.cell? ⟨bx, 3, none⟩ = some (.slice ko q kc)) (by kernel_rfl) hS00 (fun hS => ?_)
  refine tkH (i := 0) (v := ?v0x1q) (y := Or.inl ⟨by rfl, ?y0x1q⟩) (s := hS) (h := ?r0x1q)
  case y0x1q => (intro w' hSw; (try dsimp only at hSw); go_simp; (try with_reducible rfl))
  simp only [Act.put, sA, sB, sC]
  refine tkH (i := 1) (v := ?v1x2q) (y := Or.inl ⟨by rfl, ?y1x2q⟩) (s := hS) (h := ?r1x2q)
  case y1x2q => (intro w' hSw; (try dsimp only at hSw); go_simp; (try with_reducible rfl))
  simp only [Act.put, sA, sB, sC]
  refine tkH (i := 2) (v := ?v2x3q) (y := Or.inl ⟨by rfl, ?y2x3q⟩) (s := hS) (h := ?r2x3q)
  case y2x3q => (intro w' hSw; (try dsimp only at hSw); go_simp; (try with_reducible rfl))
  simp only [Act.put, sA, sB, sC]
  refine tkH (i := 3) (v := ?v3x4q) (y := Or.inl ⟨by rfl, ?y3x4q⟩) (s := hS) (h := ?r3x4q)
  case y3x4q => (intro w' hSw; (try dsimp only at hSw); go_simp; (try with_reducible rfl))
  simp only [Act.put, sA, sB, sC]
  refine tkH (i := 4) (v := ?v4x5q) (y := Or.inl ⟨by rfl, ?y4x5q⟩) (s := hS) (h := ?r4x5q)
  case y4x5q => (intro w' hSw; (try dsimp only at hSw); go_simp; (try with_reducible rfl))
  simp only [Act.put, sA, sB, sC]
  refine tkH (i := 6) (v := ?v6x6q) (y := Or.inl ⟨by rfl, ?y6x6q⟩) (s := hS) (h := ?r6x6q)
  case y6x6q => (intro w' hSw; (try dsimp only at hSw); go_simp; (try with_reducible rfl))
  simp only [Act.put, sA, sB, sC]
  refine tkH (i := 7) (v := ?v7x7q) (y := Or.inl ⟨by rfl, ?y7x7q⟩) (s := hS) (h := ?r7x7q)
  case y7x7q => (intro w' hSw; (try dsimp only at hSw); go_simp; (try with_reducible rfl))
  simp only [Act.put, sA, sB, sC]
  refine tkH (i := 8) (v := ?v8x8q) (y := Or.inl ⟨by rfl, ?y8x8q⟩) (s := hS) (h := ?r8x8q)
  case y8x8q => (intro w' hSw; (try dsimp only at hSw); go_simp; (try with_reducible rfl))
  simp only [Act.put, sA, sB, sC]
  refine tkH (i := 9) (v := ?v9x9q) (y := Or.inl ⟨by rfl, ?y9x9q⟩) (s := hS) (h := ?r9x9q)
  case y9x9q => (intro w' hSw; (try dsimp only at hSw); go_simp; (try with_reducible rfl))
  simp only [Act.put, sA, sB, sC]
  refine tkH (i := 10) (v := ?v10x10q) (y := Or.inl ⟨by rfl, ?y10x10q⟩) (s := hS) (h := ?r10x10q)
  case y10x10q => (intro w' hSw; (try dsimp only at hSw); go_simp; (try with_reducible rfl))
  simp only [Act.put, sA, sB, sC]
  refine tkH (i := 11) (v := ?v11x11q) (y := Or.inl ⟨by rfl, ?y11x11q⟩) (s := hS) (h := ?r11x11q)
  case y11x11q => (intro w' hSw; (try dsimp only at hSw); go_simp; (try with_reducible rfl))
  simp only [Act.put, sA, sB, sC]
  refine rdH (i := 5) (h := fun K hK => ?_)
  go_simp
  have H4d := hid (H4.out.below (Below.refl _ _).drew)
  refine (vreplace_any H4d.out 0 rfl 3 v s rfl (by decide) vo m vc L (.inr ⟨6, _, by decide, rfl, fun w F hA => listA_lrf hA⟩) HM.out.symm (by omega) HFIT.out.2.1 (fun l hl => by have := HL200.out l hl; omega) hn2 hlo).mono ?_
  rintro e w5 ⟨rfl, h5⟩
  have h5 : St w0.heap.size w0 w5 [dev a (replaceV d s L).2.1, rdev c d, blkA p 37 [ptr a, ptr v, ptr c, ptr u], vsA v a (replaceV d s L).2.2, rvA u c s, blkA bx 42 [.int .i64 1, .int .i64 n, .slice lo m lc, .slice ko q kc], listA (.slice vo m vc) L] := h5
  have H5 := hid h5
  have hp5 := h5.blk 2 rfl
  have hx5 := h5.blk 5 rfl
  have hS5 : w5.cell? ⟨p, 1, none⟩ = some (.pointer (some ⟨v, 0, none⟩)) ∧ w5.cell? ⟨p, 3, none⟩ = some (.pointer (some ⟨u, 0, none⟩)) ∧ w5.cell? ⟨bx, 0, none⟩ = some (.int .i64 1) ∧ w5.cell? ⟨bx, 1, none⟩ = some (.int .i64 n) ∧ w5.cell? ⟨bx, 2, none⟩ = some (.slice lo m lc) ∧ w5.cell? ⟨bx, 3, none⟩ = some (.slice ko q kc) := ⟨hp5.cell (j := 1) rfl, hp5.cell (j := 3) rfl, hx5.cell (j := 0) rfl, hx5.cell (j := 1) rfl, hx5.cell (j := 2) rfl, hx5.cell (j := 3) rfl⟩
  clear h5 hp5 hx5
  refine hK.out _ _ ?k5x12q (fun hS => ?s5x12q)
  case k5x12q => exact hS5
  clear hK K
  try simp only [Act.put, sA, sB, sC]
  refine rdH (i := 12) (h := fun K hK => ?_)
  go_simp
  refine (rreplace_any H5.out 1 rfl 4 u s rfl (by decide) lo m lc L HM.out.symm (by omega) (.inl HX.out.lr.lrf) (fun l hl => by have := HL200.out l hl; omega) HFIT.out.2.1 hn2 hlo).mono ?_
  rintro e w7 ⟨rfl, h7⟩
  have h7 : St w0.heap.size w0 w7 [dev a (replaceV d s L).2.1, rdev c (replaceV d s L).2.1, blkA p 37 [ptr a, ptr v, ptr c, ptr u], vsA v a (replaceV d s L).2.2, rvA u c (replaceV d s L).2.2, blkA bx 42 [.int .i64 1, .int .i64 n, .slice lo m lc, .slice ko q kc], listA (.slice vo m vc) L] := h7
  have H7 := hid h7
  have hp7 := h7.blk 2 rfl
  have hx7 := h7.blk 5 rfl
  have hS7 : w7.cell? ⟨p, 1, none⟩ = some (.pointer (some ⟨v, 0, none⟩)) ∧ w7.cell? ⟨p, 3, none⟩ = some (.pointer (some ⟨u, 0, none⟩)) ∧ w7.cell? ⟨bx, 0, none⟩ = some (.int .i64 1) ∧ w7.cell? ⟨bx, 1, none⟩ = some (.int .i64 n) ∧ w7.cell? ⟨bx, 2, none⟩ = some (.slice lo m lc) ∧ w7.cell? ⟨bx, 3, none⟩ = some (.slice ko q kc) := ⟨hp7.cell (j := 1) rfl, hp7.cell (j := 3) rfl, hx7.cell (j := 0) rfl, hx7.cell (j := 1) rfl, hx7.cell (j := 2) rfl, hx7.cell (j := 3) rfl⟩
  clear h7 hp7 hx7
  refine hK.out _ _ ?k12x13q (fun hS => ?s12x13q)
  case k12x13q => exact hS7
  clear hK K
  try simp only [Act.put, sA, sB, sC]
  refine tkH (i := 13) (v := ?v13x14q) (y := Or.inl ⟨by rfl, ?y13x14q⟩) (s := hS) (h := ?r13x14q)
  case y13x14q => (intro w' hSw; (try dsimp only at hSw); go_simp; (try with_reducible rfl))
  simp only [Act.put, sA, sB, sC]
  refine tkH (i := 14) (v := ?v14x15q) (y := Or.inl ⟨by rfl, ?y14x15q⟩) (s := hS) (h := ?r14x15q)
  case y14x15q => (intro w' hSw; (try dsimp only at hSw); go_simp; (try with_reducible rfl))
  simp only [Act.put, sA, sB, sC]
  refine tkH (i := 15) (v := ?v15x16q) (y := Or.inl ⟨by rfl, ?y15x16q⟩) (s := hS) (h := ?r15x16q)
  case y15x16q => (intro w' hSw; (try dsimp only at hSw); go_simp; (try with_reducible rfl))
  simp only [Act.put, sA, sB, sC]
  refine tkH (i := 16) (v := ?v16x17q) (y := Or.inl ⟨by rfl, ?y16x17q⟩) (s := hS) (h := ?r16x17q)
  case y16x17q => (intro w' hSw; (try dsimp only at hSw); go_simp; (try with_reducible rfl))
  simp only [Act.put, sA, sB, sC]
  refine tkH (i := 17) (v := ?v17x18q) (y := Or.inl ⟨by rfl, ?y17x18q⟩) (s := hS) (h := ?r17x18q)
  case y17x18q => (intro w' hSw; (try dsimp only at hSw); go_simp; (try with_reducible rfl))
  simp only [Act.put, sA, sB, sC]
  refine rdH (i := 18) (h := fun K hK => ?_)
  go_simp
  try (refine if_wanted (by first | rfl | kernel_rfl) ?_; go_simp)
  refine (sameLists_any vo lo m m vc lc L L HM.out.symm HM.out.symm (by omega) (by omega) w7 (H7.out.listLr 6 rfl) (HX.out.lr.below H7.out.be)).mono ?_
  rintro e w8 ⟨rfl, hb8⟩
  rw [sameL_refl]
  have H8 := hid (H7.out.below hb8)
  have hp8 := H8.out.blk 2 rfl
  have hx8 := H8.out.blk 5 rfl
  have hS8 : w8.cell? ⟨p, 1, none⟩ = some (.pointer (some ⟨v, 0, none⟩)) ∧ w8.cell? ⟨p, 3, none⟩ = some (.pointer (some ⟨u, 0, none⟩)) ∧ w8.cell? ⟨bx, 0, none⟩ = some (.int .i64 1) ∧ w8.cell? ⟨bx, 1, none⟩ = some (.int .i64 n) ∧ w8.cell? ⟨bx, 2, none⟩ = some (.slice lo m lc) ∧ w8.cell? ⟨bx, 3, none⟩ = some (.slice ko q kc) := ⟨hp8.cell (j := 1) rfl, hp8.cell (j := 3) rfl, hx8.cell (j := 0) rfl, hx8.cell (j := 1) rfl, hx8.cell (j := 2) rfl, hx8.cell (j := 3) rfl⟩
  clear hb8 hp8 hx8
  refine hK.out _ _ ?k18x19q (fun hS => ?s18x19q)
  case k18x19q => exact hS8
  clear hK K
  try simp only [Act.put, sA, sB, sC]
  refine tkH (i := 19) (v := ?v19x20q) (y := Or.inl ⟨by rfl, ?y19x20q⟩) (s := hS) (h := ?r19x20q)
  case y19x20q => (intro w' hSw; (try dsimp only at hSw); go_simp; (try with_reducible rfl))
  simp only [Act.put, sA, sB, sC]
  refine tkH (i := 20) (v := ?v20x21q) (y := Or.inl ⟨by rfl, ?y20x21q⟩) (s := hS) (h := ?r20x21q)
  case y20x21q => (intro w' hSw; (try dsimp only at hSw); go_simp; (try with_reducible rfl))
  simp only [Act.put, sA, sB, sC]
  refine wpAnyH_done (by kernel_rfl) ?_ _
  clear hS hS5 hS7 hS8
  go_wp2_with fail
  refine (H8.out.listOver 6 rfl (by rw [HM.out]; omega) (fun l hl => by have := HL200.out l hl; omega)).mono ?_
  rintro e w9 ⟨rfl, h9⟩
  have H9 := hid (h9.take 5)
  clear h9
  go_wp2
  go_ret
  exact ⟨rfl, v, u, H9.out⟩
end Go.Proofs.YtlondopgibcikaaGreat
