/- LogActs: the walk. -/
import Derived.Test.YtlondopgibcikaaRows
import Derived.Test.YtlondopgibcikaaGBase
import Derived.Test.YtlondopgibcikaaGDevice
import Derived.Test.YtlondopgibcikaaGRefDev
import Derived.Test.YtlondopgibcikaaGLogA
import Derived.Test.YtlondopgibcikaaGLogC
import Derived.Test.YtlondopgibcikaaGRefLog
import Derived.WalkKit
import Derived.WalkMore
import Derived.WalkSpells
import Derived.WalkLawsBesides
import Derived.Deep.RegionHeld3
import Derived.Deep.QuietTactic
import Derived.Deep.CutRange
import Derived.Deep.CutBlock
import Derived.BigQuiet
namespace Go.Proofs.Ytlondopgibcikaa
open Go.RowKit Ent

theorem kept_mem (keep : List Bool) (x : Nat × List UInt8) : ∀ (l : List (Nat × List UInt8)) (k : Nat), x ∈ keptOf keep k l → x ∈ l
  | [], _, h => h
  | y :: l, k, h => by
    rw [keptOf] at h
    split at h
    · rcases List.mem_cons.1 h with rfl | h
      · exact List.mem_cons_self
      · exact List.mem_cons_of_mem _ (kept_mem keep x l _ h)
    · exact List.mem_cons_of_mem _ (kept_mem keep x l _ h)
theorem last_mem (keep : List Bool) (x : Nat × List UInt8) : ∀ (l : List (Nat × List UInt8)) (k : Nat), lastOf keep k l = some x → x ∈ l
  | [], _, h => by simp [lastOf] at h
  | y :: l, k, h => by
    rw [lastOf] at h
    split at h
    · rename_i z hz
      injection h with h
      subst h
      exact List.mem_cons_of_mem _ (last_mem keep z l _ hz)
    · split at h
      · cases h
      · injection h with h
        subst h
        exact List.mem_cons_self
theorem crash_ok {d : Dev} (h : d.ok) (keep : List Bool) (t : Int) : (d.crash keep t).2.ok := by
  unfold Dev.crash
  split
  · exact h
  · rename_i ht
    have h64 : S64 (laidOver d.img (keptOf keep 0 d.loose)) := laid_64 (fun x hx => (h.lo x (kept_mem keep x _ _ hx)).2) h.s64
    refine ⟨?_, by rw [torn_len, laid_len]; exact h.len, by rw [torn_len, laid_len]; exact h.pos, fun x hx => by cases hx⟩
    show S64 (tornIn _ (lastOf keep 0 d.loose) _)
    rcases hl : lastOf keep 0 d.loose with _ | x
    · exact h64
    · have hx := h.lo x (last_mem keep x _ _ hl)
      refine h64.set _ ?_
      have hlt : x.1 < (laidOver d.img (keptOf keep 0 d.loose)).length := by rw [laid_len]; exact hx.1
      have h6 := h64.get (List.getElem?_eq_getElem hlt)
      rw [List.getD_eq_getElem?_getD, List.getElem?_eq_getElem hlt]
      simp only [Option.getD_some, List.length_append, List.length_take, List.length_drop, hx.2, h6]
      omega
theorem bl_lt6 {w : World} {ao : Option Addr} {l : List Bool} (h : BL w ao l) (hne : l ≠ []) : ∀ a, ao = some a → a.block < w.heap.size := by
  intro a ha
  rcases h with h | ⟨b, o, h1, h2⟩
  · exact absurd h hne
  · rw [h1] at ha; injection ha with ha; subst ha
    obtain ⟨x, l', rfl⟩ := List.exists_cons_of_ne_nil hne
    exact World.block_lt_of_cell? w ⟨b, o + 0, none⟩ (h2 0 (.bool x) (by simp [bbv]))
set_option maxRecDepth 100000 in
set_option maxHeartbeats 4000000 in
theorem logActs_walk (n : Int) (ao : Option Addr) (m c : Nat) (l : List Act6) (w : World) (hn1 : -9223372036854775808 ≤ n) (hn2 : n ≤ 9223372036854775807) (hm : m = l.length) (hmx : m ≤ 9223372036854775807) (hl : AL6 w ao l) :
    Calls Try.prog 18 #[.int .i64 n, .slice ao m c] w fun e w' => e = .returned (.bool true) ∧ Below w.heap.size w w' := by
  have HM := hid hm; have HL := hid hl
  clear hm hl
  by_cases hbig : 40 < n
  · go_enter Try.func18, Try.ntmps18
    go_wp2_with fail
    refine (awake6_any w).mono ?_
    rintro e w1 ⟨rfl, hb⟩
    have HB := hid hb
    clear hb
    go_wp2
    go_ret
    exact ⟨rfl, HB.out⟩
  by_cases hbad : n < 1
  · have HBAD := hid (show n < 1 ∨ 65536 < n from .inl hbad)
    clear hbad
    go_enter Try.func18, Try.ntmps18
    go_wp2_with fail
    refine (new_bad n HBAD.out w).mono ?_
    rintro e w' ⟨rfl, hw'⟩
    subst w'
    go_wp2_with fail
    refine (newR_bad n HBAD.out w).mono ?_
    rintro e w' ⟨rfl, hw'⟩
    subst w'
    go_wp2_with fail
    go_loopw [9] (fun i wr => i = .int .i64 0 ∧ wr = w) (fun _ _ => 0)
    case atStart => exact ⟨rfl, rfl⟩
    case round =>
      obtain ⟨rfl, hwr⟩ := hrel
      subst wr
      go_wp2_with fail
      refine (awake6_any w).mono ?_
      rintro e w1 ⟨rfl, hb⟩
      have HB := hid hb
      clear hb
      go_wp2
      go_ret
      exact ⟨rfl, HB.out⟩
  obtain ⟨q, rfl⟩ : ∃ q : Nat, n = (q : Int) := ⟨n.toNat, by omega⟩
  have hq1 : 1 ≤ q := by omega
  have hq2 : q ≤ 40 := by omega
  clear hbig hbad hn1 hn2
  go_enter Try.func18, Try.ntmps18
  go_wp2_with fail
  refine ((St.start w).dev_new q hq1 (by omega)).mono ?_
  rintro e w1 ⟨a, rfl, h1⟩
  have H1 := hid h1
  clear h1
  unfold ptr
  go_wp2_with fail
  refine (H1.out.rdev_new q hq1 (by omega)).mono ?_
  rintro e w2 ⟨b, rfl, h2⟩
  have H2 : Hid (St w.heap.size w w2 [dev a (Dev.new q), rdev b (Dev.new q)]) := hid h2
  clear h2
  unfold ptr
  go_wp2_with fail
  by_cases hlong : long6 l = true
  · have HLONG := hid hlong
    clear hlong
    go_loopw [9] (fun i wr => i = .int .i64 0 ∧ wr = w2) (fun _ _ => 0)
    case atStart => exact ⟨rfl, rfl⟩
    case round =>
      obtain ⟨rfl, hwr⟩ := hrel
      subst wr
      go_wp2_with fail
      refine (long6_any ao m c l HM.out hmx w2 (HL.out.below H2.out.be)).mono ?_
      rintro e w' ⟨rfl, hw'⟩
      subst w'
      rw [HLONG.out]
      go_wp2_with fail
      refine (awake6_any w2).mono ?_
      rintro e w1 ⟨rfl, hb⟩
      have HB := hid (H2.out.be.trans (hb.mono H2.out.be.size))
      clear hb
      go_wp2
      go_ret
      exact ⟨rfl, HB.out⟩
  have HLONG : Hid (long6 l = false) := hid (by simpa using hlong)
  have HNL := hid (long6_no HLONG.out)
  have hm25 : m ≤ 25 := by rw [HM.out]; exact HNL.out.1
  clear hlong
  go_loopw [9] (fun i wr => ∃ (k : Nat) (d : Dev), k ≤ m ∧ i = .int .i64 k ∧ St w.heap.size w wr [dev a d, rdev b d] ∧ d.loose.length ≤ 41 * k ∧ d.img.length = q) (fun i _ => m - (intOf i).toNat)
  case atStart => exact ⟨0, Dev.new q, Nat.zero_le _, rfl, H2.out, Nat.le_refl _, by simp [Dev.new]⟩
  case round =>
    obtain ⟨k, d, hk, rfl, hst, hlo, hlen⟩ := hrel
    have HS := hid hst
    have HLEN := hid hlen
    have HOK := hid (hst.ok 0 rfl)
    clear hst hlen
    by_cases hlt : k < m
    · obtain ⟨x, hx⟩ : ∃ x, l[k]? = some x := ⟨_, List.getElem?_eq_getElem (by rw [← HM.out]; exact hlt)⟩
      have hft0 : x.fits w := by obtain ⟨_, _, _, h, _⟩ := HL.out.at hx; exact h
      obtain ⟨bo, o, rfl, hft, hlm, hc⟩ := (HL.out.below HS.out.be).at hx
      have c0 := hc 0 _ rfl
      have c1 := hc 1 _ rfl
      have c2 := hc 2 _ rfl
      have c3 := hc 3 _ rfl
      have c4 := hc 4 _ rfl
      have c5 := hc 5 _ rfl
      have c6 := hc 6 _ rfl
      rw [Nat.add_zero] at c0
      have HFT := hid hft0
      have hx4 := HNL.out.2 x (List.mem_of_getElem? hx)
      have hb400 := hx4.1
      have hk40 := hx4.2
      clear hx hft hft0 hc hlm hx4
      obtain ⟨gx, hgx⟩ : ∃ gx, wr.heap.size = gx := ⟨_, rfl⟩
      obtain ⟨w3, hw3⟩ : ∃ w3, wr.alloc (.cells #[.int .i64 x.kind, .int .i64 x.f, .int .i64 x.t, .int .i64 x.g, .int .i64 x.n, .slice x.bo x.b.length x.bc, .slice x.ko x.keep.length x.kc] 96) = w3 := ⟨_, rfl⟩
      have HW3 := hid hw3
      have HGX := hid hgx
      have H3 : Hid (St w.heap.size w w3 [dev a d, rdev b d, blkA gx 96 x.cells]) := hid (by
        have := HS.out.box 96 x.cells
        rw [show wr.alloc (.cells x.cells.toArray 96) = w3 from HW3.out, HGX.out] at this
        exact this)
      clear hw3 hgx
      go_wp2_with fail
      refine (long6_any _ m c l HM.out hmx wr (HL.out.below HS.out.be)).mono ?_
      rintro e w' ⟨rfl, hw'⟩
      subst w'
      rw [HLONG.out]
      go_wp2_with fail
      rw [HW3.out, HGX.out]
      clear c0 c1 c2 c3 c4 c5 c6
      have y5 := (H3.out.blk 2 rfl).cell (j := 5) rfl
      go_wp2_with fail
      clear y5
      refine (lent_any x.bo x.b.length x.bc x.b rfl (by omega) w3 (HFT.out.sb.below H3.out.be)).mono ?_
      rintro e w4 ⟨gl, lc, rfl, ho4, hb4⟩
      have H4 : Hid (St w.heap.size w w4 [dev a d, rdev b d, blkA gx 96 x.cells, ownA 5 1 (.slice (some ⟨gl, 0, none⟩) (x.b.length + 4) lc) (x.b.length + 4) (bv (x.b ++ lent4))]) := hid (H3.out.addRow hb4 ho4)
      obtain ⟨d', hdd⟩ : ∃ d', act6 d x = d' := ⟨_, rfl⟩
      have HDD := hid hdd
      have hal := act6_loose d x
      rw [hdd, HLEN.out] at hal
      have hlo2 : d'.loose.length ≤ 41 * (k + 1) := by omega
      have HLEN2 := hid hal.2
      clear ho4 hb4 hdd hal
      have y0 := (H4.out.blk 2 rfl).cell (j := 0) rfl
      have y1 := (H4.out.blk 2 rfl).cell (j := 1) rfl
      have y2 := (H4.out.blk 2 rfl).cell (j := 2) rfl
      have y3 := (H4.out.blk 2 rfl).cell (j := 3) rfl
      have y4 := (H4.out.blk 2 rfl).cell (j := 4) rfl
      have y5 := (H4.out.blk 2 rfl).cell (j := 5) rfl
      have y6 := (H4.out.blk 2 rfl).cell (j := 6) rfl
      go_upto_block 2 with fail
      go_cut [11, 13, 14, 15, 16] from 46 to 223 (fun s11 s13 s14 s15 s16 wx => s11 = .bool true ∧ St w.heap.size w wx [dev a d', rdev b d', blkA gx 96 x.cells, ownA 5 1 (.slice (some ⟨gl, 0, none⟩) (x.b.length + 4) lc) (x.b.length + 4) (bv (x.b ++ lent4))])
      case first =>
        as_aux_lemma =>
          by_cases k0 : x.kind = 0
          · as_aux_lemma =>
              have HD : Hid ((blankOf d x.f x.t x.g).2 = d') := hid (by rw [← HDD.out]; simp [act6, k0])
              have e0 : (x.kind == 0) = true := by rw [beq_iff_eq]; exact k0
              clear y0 y1 y2 y3 y4 y5 y6
              have y0 := (H4.out.blk 2 rfl).cell (j := 0) rfl
              go_wp2_with fail
              clear y0
              have HST := hid (H4.out.below (Below.refl _ _).drew)
              refine wp_region_held_drew (S := fun w' => w'.cell? ⟨gx, 1, none⟩ = some (.int .i64 x.f) ∧ w'.cell? ⟨gx, 2, none⟩ = some (.int .i64 x.t) ∧ w'.cell? ⟨gx, 3, none⟩ = some (.int .i64 x.g)) (by kernel_rfl) ⟨(H4.out.blk 2 rfl).cell (j := 1) rfl, (H4.out.blk 2 rfl).cell (j := 2) rfl, (H4.out.blk 2 rfl).cell (j := 3) rfl⟩ (fun hS => ?_)
              refine wpAnyH_take (i := 0) (v := ?v0x1k14) (by simp only [List.getElem?_toArray, List.getElem?_cons_zero]; exact rfl) (by kernel_rfl) (by kernel_rfl) (by kernel_rfl) (by exact fun _ _ _ h => h) (Or.inl ⟨by rfl, ?y0x1k14⟩) hS ?r0x1k14
              case y0x1k14 => (intro w' hSw; (try dsimp only at hSw); go_simp; (try with_reducible rfl))
              simp only [Act.put, List.setIfInBounds_toArray, List.set_cons_zero, List.set_cons_succ]
              refine wpAnyH_take (i := 1) (v := ?v1x2k14) (by simp only [List.getElem?_toArray, List.getElem?_cons_zero, List.getElem?_cons_succ]; exact rfl) (by kernel_rfl) (by kernel_rfl) (by kernel_rfl) (by exact fun _ _ _ h => h) (Or.inl ⟨by rfl, ?y1x2k14⟩) hS ?r1x2k14
              case y1x2k14 => (intro w' hSw; (try dsimp only at hSw); go_simp; (try with_reducible rfl))
              simp only [Act.put, List.setIfInBounds_toArray, List.set_cons_zero, List.set_cons_succ]
              refine wpAnyH_take (i := 2) (v := ?v2x3k14) (by simp only [List.getElem?_toArray, List.getElem?_cons_zero, List.getElem?_cons_succ]; exact rfl) (by kernel_rfl) (by kernel_rfl) (by kernel_rfl) (by exact fun _ _ _ h => h) (Or.inl ⟨by rfl, ?y2x3k14⟩) hS ?r2x3k14
              case y2x3k14 => (intro w' hSw; (try dsimp only at hSw); go_simp; (try with_reducible rfl))
              simp only [Act.put, List.setIfInBounds_toArray, List.set_cons_zero, List.set_cons_succ]
              refine wpAnyH_take (i := 4) (v := ?v4x4k14) (by simp only [List.getElem?_toArray, List.getElem?_cons_zero, List.getElem?_cons_succ]; exact rfl) (by kernel_rfl) (by kernel_rfl) (by kernel_rfl) (by exact fun _ _ _ h => h) (Or.inl ⟨by rfl, ?y4x4k14⟩) hS ?r4x4k14
              case y4x4k14 => (intro w' hSw; (try dsimp only at hSw); go_simp; (try with_reducible rfl))
              simp only [Act.put, List.setIfInBounds_toArray, List.set_cons_zero, List.set_cons_succ]
              refine wpAnyH_take (i := 5) (v := ?v5x5k14) (by simp only [List.getElem?_toArray, List.getElem?_cons_zero, List.getElem?_cons_succ]; exact rfl) (by kernel_rfl) (by kernel_rfl) (by kernel_rfl) (by exact fun _ _ _ h => h) (Or.inl ⟨by rfl, ?y5x5k14⟩) hS ?r5x5k14
              case y5x5k14 => (intro w' hSw; (try dsimp only at hSw); go_simp; (try with_reducible rfl))
              simp only [Act.put, List.setIfInBounds_toArray, List.set_cons_zero, List.set_cons_succ]
              refine wpAnyH_take (i := 6) (v := ?v6x6k14) (by simp only [List.getElem?_toArray, List.getElem?_cons_zero, List.getElem?_cons_succ]; exact rfl) (by kernel_rfl) (by kernel_rfl) (by kernel_rfl) (by exact fun _ _ _ h => h) (Or.inl ⟨by rfl, ?y6x6k14⟩) hS ?r6x6k14
              case y6x6k14 => (intro w' hSw; (try dsimp only at hSw); go_simp; (try with_reducible rfl))
              simp only [Act.put, List.setIfInBounds_toArray, List.set_cons_zero, List.set_cons_succ]
              refine wpAnyH_ready (rs := [3]) (by kernel_rfl) (by simp) ?_
              refine AllReadyH.cons (by simp only [List.getElem?_toArray, List.getElem?_cons_zero, List.getElem?_cons_succ]; exact rfl) (fun K hK => ?_) AllReadyH.nil
              go_simp
              refine (HST.out.log_blank 0 rfl x.f x.t x.g (by omega)).mono ?_
              rintro e w5 ⟨rfl, h5⟩
              have HST := hid h5
              clear h5
              refine hK.out _ _ ?k3x7k14 (fun hS => ?s3x7k14)
              case k3x7k14 => exact ⟨(HST.out.blk 2 rfl).cell (j := 1) rfl, (HST.out.blk 2 rfl).cell (j := 2) rfl, (HST.out.blk 2 rfl).cell (j := 3) rfl⟩
              clear hK K
              try simp only [Act.put, List.setIfInBounds_toArray, List.set_cons_zero, List.set_cons_succ]
              refine wpAnyH_ready (rs := [7]) (by kernel_rfl) (by simp) ?_
              refine AllReadyH.cons (by simp only [List.getElem?_toArray, List.getElem?_cons_zero, List.getElem?_cons_succ]; exact rfl) (fun K hK => ?_) AllReadyH.nil
              go_simp
              refine (HST.out.rlog_blank 1 rfl x.f x.t x.g (by omega)).mono ?_
              rintro e w5 ⟨rfl, h5⟩
              have HST := hid h5
              clear h5
              refine hK.out _ _ ?k7x8k14 (fun hS => ?s7x8k14)
              case k7x8k14 => exact ⟨(HST.out.blk 2 rfl).cell (j := 1) rfl, (HST.out.blk 2 rfl).cell (j := 2) rfl, (HST.out.blk 2 rfl).cell (j := 3) rfl⟩
              clear hK K
              try simp only [Act.put, List.setIfInBounds_toArray, List.set_cons_zero, List.set_cons_succ]
              refine wpAnyH_take (i := 8) (v := ?v8x9k14) (by simp only [List.getElem?_toArray, List.getElem?_cons_zero, List.getElem?_cons_succ]; exact rfl) (by kernel_rfl) (by kernel_rfl) (by kernel_rfl) (by exact fun _ _ _ h => h) (Or.inl ⟨by rfl, ?y8x9k14⟩) hS ?r8x9k14
              case y8x9k14 => (intro w' hSw; (try dsimp only at hSw); go_simp; (try with_reducible rfl))
              simp only [Act.put, List.setIfInBounds_toArray, List.set_cons_zero, List.set_cons_succ]
              refine wpAnyH_take (i := 9) (v := ?v9x10k14) (by simp only [List.getElem?_toArray, List.getElem?_cons_zero, List.getElem?_cons_succ]; exact rfl) (by kernel_rfl) (by kernel_rfl) (by kernel_rfl) (by exact fun _ _ _ h => h) (Or.inl ⟨by rfl, ?y9x10k14⟩) hS ?r9x10k14
              case y9x10k14 => (intro w' hSw; (try dsimp only at hSw); go_simp; (try with_reducible rfl))
              simp only [Act.put, List.setIfInBounds_toArray, List.set_cons_zero, List.set_cons_succ]
              refine wpAnyH_done (by kernel_rfl) ?_ _
              clear hS
              have HMT := HST
              rw [HD.out] at HMT
              go_wp2
              go_meet
              exact ⟨rfl, HMT.out⟩
          have n0 := k0
          have e0 : (x.kind == 0) = false := by rw [beq_eq_false_iff_ne]; exact k0
          by_cases k1 : x.kind = 1
          · as_aux_lemma =>
              have HD : Hid ((logWrite d x.f x.t x.g x.n x.b).2 = d') := hid (by rw [← HDD.out]; simp [act6, k1])
              have e1 : (x.kind == 1) = true := by rw [beq_iff_eq]; exact k1
              go_wp2_with fail
              refine (H4.out.log_write4 0 rfl x.f x.t x.g x.n 3 (by omega) gl (x.b.length + 4) lc x.b.length x.b lent4 rfl rfl (by omega) (by omega) HFT.out.n1).mono ?_
              rintro e w5 ⟨rfl, h5⟩
              have H5 : Hid (St w.heap.size w w5 [dev a (logWrite d x.f x.t x.g x.n x.b).2, rdev b d, blkA gx 96 x.cells, ownA 5 1 (.slice (some ⟨gl, 0, none⟩) (x.b.length + 4) lc) (x.b.length + 4) (bv (x.b ++ lent4))]) := hid h5
              clear h5 y0 y1 y2 y3 y4 y5 y6
              have y0 := (H5.out.blk 2 rfl).cell (j := 0) rfl
              have y1 := (H5.out.blk 2 rfl).cell (j := 1) rfl
              have y2 := (H5.out.blk 2 rfl).cell (j := 2) rfl
              have y3 := (H5.out.blk 2 rfl).cell (j := 3) rfl
              have y4 := (H5.out.blk 2 rfl).cell (j := 4) rfl
              have y5 := (H5.out.blk 2 rfl).cell (j := 5) rfl
              have y6 := (H5.out.blk 2 rfl).cell (j := 6) rfl
              go_wp2_with fail
              refine (H5.out.rlog_write 1 rfl x.f x.t x.g x.n x.bo x.b.length x.bc x.b rfl HFT.out.sc (by omega) (HFT.out.sb.below H5.out.be) (by omega) HFT.out.n1).mono ?_
              rintro e w6 ⟨rfl, h6⟩
              have H6 : Hid (St w.heap.size w w6 [dev a (logWrite d x.f x.t x.g x.n x.b).2, rdev b (logWrite d x.f x.t x.g x.n x.b).2, blkA gx 96 x.cells, ownA 5 1 (.slice (some ⟨gl, 0, none⟩) (x.b.length + 4) lc) (x.b.length + 4) (bv (x.b ++ lent4))]) := hid h6
              clear h6 y0 y1 y2 y3 y4 y5 y6
              have y0 := (H6.out.blk 2 rfl).cell (j := 0) rfl
              have y1 := (H6.out.blk 2 rfl).cell (j := 1) rfl
              have y2 := (H6.out.blk 2 rfl).cell (j := 2) rfl
              have y3 := (H6.out.blk 2 rfl).cell (j := 3) rfl
              have y4 := (H6.out.blk 2 rfl).cell (j := 4) rfl
              have y5 := (H6.out.blk 2 rfl).cell (j := 5) rfl
              have y6 := (H6.out.blk 2 rfl).cell (j := 6) rfl
              obtain ⟨r1, hr1⟩ : ∃ r, (logWrite d x.f x.t x.g x.n x.b).1.1 = r := ⟨_, rfl⟩
              obtain ⟨r2, hr2⟩ : ∃ r, (logWrite d x.f x.t x.g x.n x.b).1.2 = r := ⟨_, rfl⟩
              rw [hr1, hr2]
              clear hr1 hr2
              go_wp2_with fail
              refine (kept_any x.bo x.b.length x.bc gl lc 0 x.b rfl (by omega) w6 (H6.out.own_ 3 rfl) (HFT.out.sb.below H6.out.be)).mono ?_
              rintro e w7 ⟨rfl, hb7⟩
              have HMT := hid (H6.out.below hb7)
              clear hb7 y0 y1 y2 y3 y4 y5 y6
              rw [HD.out] at HMT
              go_wp2
              go_meet
              exact ⟨rfl, HMT.out⟩
          have n1 := k1
          have e1 : (x.kind == 1) = false := by rw [beq_eq_false_iff_ne]; exact k1
          by_cases k2 : x.kind = 2
          · as_aux_lemma =>
              have HD : Hid (d.flush.2 = d') := hid (by rw [← HDD.out]; simp [act6, k2])
              have e2 : (x.kind == 2) = true := by rw [beq_iff_eq]; exact k2
              go_wp2_with fail
              refine (H4.out.dev_flush 0 rfl).mono ?_
              rintro e w5 ⟨rfl, h5⟩
              have H5 : Hid (St w.heap.size w w5 [dev a d.flush.2, rdev b d, blkA gx 96 x.cells, ownA 5 1 (.slice (some ⟨gl, 0, none⟩) (x.b.length + 4) lc) (x.b.length + 4) (bv (x.b ++ lent4))]) := hid h5
              clear h5 y0 y1 y2 y3 y4 y5 y6
              go_wp2_with fail
              refine (H5.out.rdev_flush 1 rfl (by omega)).mono ?_
              rintro e w6 ⟨rfl, h6⟩
              have HMT : Hid (St w.heap.size w w6 [dev a d.flush.2, rdev b d.flush.2, blkA gx 96 x.cells, ownA 5 1 (.slice (some ⟨gl, 0, none⟩) (x.b.length + 4) lc) (x.b.length + 4) (bv (x.b ++ lent4))]) := hid h6
              clear h6
              rw [HD.out] at HMT
              go_wp2
              go_meet
              exact ⟨rfl, HMT.out⟩
          have n2 := k2
          have e2 : (x.kind == 2) = false := by rw [beq_eq_false_iff_ne]; exact k2
          by_cases k3 : x.kind = 3
          · as_aux_lemma =>
              have HD : Hid ((d.crash x.keep x.n).2 = d') := hid (by rw [← HDD.out]; simp [act6, k3])
              have e3 : (x.kind == 3) = true := by rw [beq_iff_eq]; exact k3
              clear y0 y1 y2 y3 y4 y5 y6
              have y0 := (H4.out.blk 2 rfl).cell (j := 0) rfl
              go_wp2_with fail
              clear y0
              have HST := hid (H4.out.below (Below.refl _ _).drew)
              refine wp_region_held_drew (S := fun w' => w'.cell? ⟨gx, 4, none⟩ = some (.int .i64 x.n) ∧ w'.cell? ⟨gx, 6, none⟩ = some (.slice x.ko x.keep.length x.kc)) (by kernel_rfl) ⟨(H4.out.blk 2 rfl).cell (j := 4) rfl, (H4.out.blk 2 rfl).cell (j := 6) rfl⟩ (fun hS => ?_)
              refine wpAnyH_take (i := 0) (v := ?v0x1k22) (by simp only [List.getElem?_toArray, List.getElem?_cons_zero]; exact rfl) (by kernel_rfl) (by kernel_rfl) (by kernel_rfl) (by exact fun _ _ _ h => h) (Or.inl ⟨by rfl, ?y0x1k22⟩) hS ?r0x1k22
              case y0x1k22 => (intro w' hSw; (try dsimp only at hSw); go_simp; (try with_reducible rfl))
              simp only [Act.put, List.setIfInBounds_toArray, List.set_cons_zero, List.set_cons_succ]
              refine wpAnyH_take (i := 1) (v := ?v1x2k22) (by simp only [List.getElem?_toArray, List.getElem?_cons_zero, List.getElem?_cons_succ]; exact rfl) (by kernel_rfl) (by kernel_rfl) (by kernel_rfl) (by exact fun _ _ _ h => h) (Or.inl ⟨by rfl, ?y1x2k22⟩) hS ?r1x2k22
              case y1x2k22 => (intro w' hSw; (try dsimp only at hSw); go_simp; (try with_reducible rfl))
              simp only [Act.put, List.setIfInBounds_toArray, List.set_cons_zero, List.set_cons_succ]
              refine wpAnyH_take (i := 2) (v := ?v2x3k22) (by simp only [List.getElem?_toArray, List.getElem?_cons_zero, List.getElem?_cons_succ]; exact rfl) (by kernel_rfl) (by kernel_rfl) (by kernel_rfl) (by exact fun _ _ _ h => h) (Or.inl ⟨by rfl, ?y2x3k22⟩) hS ?r2x3k22
              case y2x3k22 => (intro w' hSw; (try dsimp only at hSw); go_simp; (try with_reducible rfl))
              simp only [Act.put, List.setIfInBounds_toArray, List.set_cons_zero, List.set_cons_succ]
              refine wpAnyH_take (i := 3) (v := ?v3x4k22) (by simp only [List.getElem?_toArray, List.getElem?_cons_zero, List.getElem?_cons_succ]; exact rfl) (by kernel_rfl) (by kernel_rfl) (by kernel_rfl) (by exact fun _ _ _ h => h) (Or.inl ⟨by rfl, ?y3x4k22⟩) hS ?r3x4k22
              case y3x4k22 => (intro w' hSw; (try dsimp only at hSw); go_simp; (try with_reducible rfl))
              simp only [Act.put, List.setIfInBounds_toArray, List.set_cons_zero, List.set_cons_succ]
              refine wpAnyH_take (i := 4) (v := ?v4x5k22) (by simp only [List.getElem?_toArray, List.getElem?_cons_zero, List.getElem?_cons_succ]; exact rfl) (by kernel_rfl) (by kernel_rfl) (by kernel_rfl) (by exact fun _ _ _ h => h) (Or.inl ⟨by rfl, ?y4x5k22⟩) hS ?r4x5k22
              case y4x5k22 => (intro w' hSw; (try dsimp only at hSw); go_simp; (try with_reducible rfl))
              simp only [Act.put, List.setIfInBounds_toArray, List.set_cons_zero, List.set_cons_succ]
              refine wpAnyH_take (i := 6) (v := ?v6x6k22) (by simp only [List.getElem?_toArray, List.getElem?_cons_zero, List.getElem?_cons_succ]; exact rfl) (by kernel_rfl) (by kernel_rfl) (by kernel_rfl) (by exact fun _ _ _ h => h) (Or.inl ⟨by rfl, ?y6x6k22⟩) hS ?r6x6k22
              case y6x6k22 => (intro w' hSw; (try dsimp only at hSw); go_simp; (try with_reducible rfl))
              simp only [Act.put, List.setIfInBounds_toArray, List.set_cons_zero, List.set_cons_succ]
              refine wpAnyH_take (i := 7) (v := ?v7x7k22) (by simp only [List.getElem?_toArray, List.getElem?_cons_zero, List.getElem?_cons_succ]; exact rfl) (by kernel_rfl) (by kernel_rfl) (by kernel_rfl) (by exact fun _ _ _ h => h) (Or.inl ⟨by rfl, ?y7x7k22⟩) hS ?r7x7k22
              case y7x7k22 => (intro w' hSw; (try dsimp only at hSw); go_simp; (try with_reducible rfl))
              simp only [Act.put, List.setIfInBounds_toArray, List.set_cons_zero, List.set_cons_succ]
              refine wpAnyH_take (i := 8) (v := ?v8x8k22) (by simp only [List.getElem?_toArray, List.getElem?_cons_zero, List.getElem?_cons_succ]; exact rfl) (by kernel_rfl) (by kernel_rfl) (by kernel_rfl) (by exact fun _ _ _ h => h) (Or.inl ⟨by rfl, ?y8x8k22⟩) hS ?r8x8k22
              case y8x8k22 => (intro w' hSw; (try dsimp only at hSw); go_simp; (try with_reducible rfl))
              simp only [Act.put, List.setIfInBounds_toArray, List.set_cons_zero, List.set_cons_succ]
              refine wpAnyH_take (i := 9) (v := ?v9x9k22) (by simp only [List.getElem?_toArray, List.getElem?_cons_zero, List.getElem?_cons_succ]; exact rfl) (by kernel_rfl) (by kernel_rfl) (by kernel_rfl) (by exact fun _ _ _ h => h) (Or.inl ⟨by rfl, ?y9x9k22⟩) hS ?r9x9k22
              case y9x9k22 => (intro w' hSw; (try dsimp only at hSw); go_simp; (try with_reducible rfl))
              simp only [Act.put, List.setIfInBounds_toArray, List.set_cons_zero, List.set_cons_succ]
              refine wpAnyH_take (i := 10) (v := ?v10x10k22) (by simp only [List.getElem?_toArray, List.getElem?_cons_zero, List.getElem?_cons_succ]; exact rfl) (by kernel_rfl) (by kernel_rfl) (by kernel_rfl) (by exact fun _ _ _ h => h) (Or.inl ⟨by rfl, ?y10x10k22⟩) hS ?r10x10k22
              case y10x10k22 => (intro w' hSw; (try dsimp only at hSw); go_simp; (try with_reducible rfl))
              simp only [Act.put, List.setIfInBounds_toArray, List.set_cons_zero, List.set_cons_succ]
              refine wpAnyH_ready (rs := [5]) (by kernel_rfl) (by simp) ?_
              refine AllReadyH.cons (by simp only [List.getElem?_toArray, List.getElem?_cons_zero, List.getElem?_cons_succ]; exact rfl) (fun K hK => ?_) AllReadyH.nil
              go_simp
              refine (HST.out.dev_crash 0 rfl x.ko x.keep.length x.kc x.keep rfl x.n (HFT.out.bl.below HST.out.be) (fun hne => .inl fun y hy => bl_lt6 HFT.out.bl hne y hy) (by omega) (by omega)).mono ?_
              rintro e w5 ⟨rfl, h5⟩
              have HST := hid h5
              clear h5
              refine hK.out _ _ ?k5x11k22 (fun hS => ?s5x11k22)
              case k5x11k22 => exact ⟨(HST.out.blk 2 rfl).cell (j := 4) rfl, (HST.out.blk 2 rfl).cell (j := 6) rfl⟩
              clear hK K
              try simp only [Act.put, List.setIfInBounds_toArray, List.set_cons_zero, List.set_cons_succ]
              refine wpAnyH_ready (rs := [11]) (by kernel_rfl) (by simp) ?_
              refine AllReadyH.cons (by simp only [List.getElem?_toArray, List.getElem?_cons_zero, List.getElem?_cons_succ]; exact rfl) (fun K hK => ?_) AllReadyH.nil
              go_simp
              refine (HST.out.rdev_crash 1 rfl x.ko x.keep.length x.kc x.keep rfl x.n (HFT.out.bl.below HST.out.be) (fun hne => .inl fun y hy => bl_lt6 HFT.out.bl hne y hy) (by omega) (by omega) (crash_ok HOK.out x.keep x.n)).mono ?_
              rintro e w5 ⟨rfl, h5⟩
              have HST := hid h5
              clear h5
              refine hK.out _ _ ?k11x12k22 (fun hS => ?s11x12k22)
              case k11x12k22 => exact ⟨(HST.out.blk 2 rfl).cell (j := 4) rfl, (HST.out.blk 2 rfl).cell (j := 6) rfl⟩
              clear hK K
              try simp only [Act.put, List.setIfInBounds_toArray, List.set_cons_zero, List.set_cons_succ]
              refine wpAnyH_take (i := 12) (v := ?v12x13k22) (by simp only [List.getElem?_toArray, List.getElem?_cons_zero, List.getElem?_cons_succ]; exact rfl) (by kernel_rfl) (by kernel_rfl) (by kernel_rfl) (by exact fun _ _ _ h => h) (Or.inl ⟨by rfl, ?y12x13k22⟩) hS ?r12x13k22
              case y12x13k22 => (intro w' hSw; (try dsimp only at hSw); go_simp; (try with_reducible rfl))
              simp only [Act.put, List.setIfInBounds_toArray, List.set_cons_zero, List.set_cons_succ]
              refine wpAnyH_take (i := 13) (v := ?v13x14k22) (by simp only [List.getElem?_toArray, List.getElem?_cons_zero, List.getElem?_cons_succ]; exact rfl) (by kernel_rfl) (by kernel_rfl) (by kernel_rfl) (by exact fun _ _ _ h => h) (Or.inl ⟨by rfl, ?y13x14k22⟩) hS ?r13x14k22
              case y13x14k22 => (intro w' hSw; (try dsimp only at hSw); go_simp; (try with_reducible rfl))
              simp only [Act.put, List.setIfInBounds_toArray, List.set_cons_zero, List.set_cons_succ]
              refine wpAnyH_done (by kernel_rfl) ?_ _
              clear hS
              have HMT := HST
              rw [HD.out] at HMT
              go_wp2
              go_meet
              exact ⟨rfl, HMT.out⟩
          have n3 := k3
          have e3 : (x.kind == 3) = false := by rw [beq_eq_false_iff_ne]; exact k3
          by_cases k4 : x.kind = 4
          · as_aux_lemma =>
              have HD : Hid ((d.setFuse x.n).2 = d') := hid (by rw [← HDD.out]; simp [act6, k4])
              have e4 : (x.kind == 4) = true := by rw [beq_iff_eq]; exact k4
              clear y0 y1 y2 y3 y4 y5 y6
              have y0 := (H4.out.blk 2 rfl).cell (j := 0) rfl
              go_wp2_with fail
              clear y0
              have HST := hid (H4.out.below (Below.refl _ _).drew)
              refine wp_region_held_drew (S := fun w' => w'.cell? ⟨gx, 4, none⟩ = some (.int .i64 x.n)) (by kernel_rfl) ((H4.out.blk 2 rfl).cell (j := 4) rfl) (fun hS => ?_)
              refine wpAnyH_take (i := 0) (v := ?v0x1k24) (by simp only [List.getElem?_toArray, List.getElem?_cons_zero]; exact rfl) (by kernel_rfl) (by kernel_rfl) (by kernel_rfl) (by exact fun _ _ _ h => h) (Or.inl ⟨by rfl, ?y0x1k24⟩) hS ?r0x1k24
              case y0x1k24 => (intro w' hSw; (try dsimp only at hSw); go_simp; (try with_reducible rfl))
              simp only [Act.put, List.setIfInBounds_toArray, List.set_cons_zero, List.set_cons_succ]
              refine wpAnyH_take (i := 1) (v := ?v1x2k24) (by simp only [List.getElem?_toArray, List.getElem?_cons_zero, List.getElem?_cons_succ]; exact rfl) (by kernel_rfl) (by kernel_rfl) (by kernel_rfl) (by exact fun _ _ _ h => h) (Or.inl ⟨by rfl, ?y1x2k24⟩) hS ?r1x2k24
              case y1x2k24 => (intro w' hSw; (try dsimp only at hSw); go_simp; (try with_reducible rfl))
              simp only [Act.put, List.setIfInBounds_toArray, List.set_cons_zero, List.set_cons_succ]
              refine wpAnyH_take (i := 2) (v := ?v2x3k24) (by simp only [List.getElem?_toArray, List.getElem?_cons_zero, List.getElem?_cons_succ]; exact rfl) (by kernel_rfl) (by kernel_rfl) (by kernel_rfl) (by exact fun _ _ _ h => h) (Or.inl ⟨by rfl, ?y2x3k24⟩) hS ?r2x3k24
              case y2x3k24 => (intro w' hSw; (try dsimp only at hSw); go_simp; (try with_reducible rfl))
              simp only [Act.put, List.setIfInBounds_toArray, List.set_cons_zero, List.set_cons_succ]
              refine wpAnyH_take (i := 4) (v := ?v4x4k24) (by simp only [List.getElem?_toArray, List.getElem?_cons_zero, List.getElem?_cons_succ]; exact rfl) (by kernel_rfl) (by kernel_rfl) (by kernel_rfl) (by exact fun _ _ _ h => h) (Or.inl ⟨by rfl, ?y4x4k24⟩) hS ?r4x4k24
              case y4x4k24 => (intro w' hSw; (try dsimp only at hSw); go_simp; (try with_reducible rfl))
              simp only [Act.put, List.setIfInBounds_toArray, List.set_cons_zero, List.set_cons_succ]
              refine wpAnyH_take (i := 5) (v := ?v5x5k24) (by simp only [List.getElem?_toArray, List.getElem?_cons_zero, List.getElem?_cons_succ]; exact rfl) (by kernel_rfl) (by kernel_rfl) (by kernel_rfl) (by exact fun _ _ _ h => h) (Or.inl ⟨by rfl, ?y5x5k24⟩) hS ?r5x5k24
              case y5x5k24 => (intro w' hSw; (try dsimp only at hSw); go_simp; (try with_reducible rfl))
              simp only [Act.put, List.setIfInBounds_toArray, List.set_cons_zero, List.set_cons_succ]
              refine wpAnyH_take (i := 6) (v := ?v6x6k24) (by simp only [List.getElem?_toArray, List.getElem?_cons_zero, List.getElem?_cons_succ]; exact rfl) (by kernel_rfl) (by kernel_rfl) (by kernel_rfl) (by exact fun _ _ _ h => h) (Or.inl ⟨by rfl, ?y6x6k24⟩) hS ?r6x6k24
              case y6x6k24 => (intro w' hSw; (try dsimp only at hSw); go_simp; (try with_reducible rfl))
              simp only [Act.put, List.setIfInBounds_toArray, List.set_cons_zero, List.set_cons_succ]
              refine wpAnyH_ready (rs := [3]) (by kernel_rfl) (by simp) ?_
              refine AllReadyH.cons (by simp only [List.getElem?_toArray, List.getElem?_cons_zero, List.getElem?_cons_succ]; exact rfl) (fun K hK => ?_) AllReadyH.nil
              go_simp
              refine (HST.out.dev_fuse 0 rfl x.n HFT.out.n1.1 HFT.out.n1.2).mono ?_
              rintro e w5 ⟨rfl, h5⟩
              have HST := hid h5
              clear h5
              refine hK.out _ _ ?k3x7k24 (fun hS => ?s3x7k24)
              case k3x7k24 => exact ((HST.out.blk 2 rfl).cell (j := 4) rfl)
              clear hK K
              try simp only [Act.put, List.setIfInBounds_toArray, List.set_cons_zero, List.set_cons_succ]
              refine wpAnyH_ready (rs := [7]) (by kernel_rfl) (by simp) ?_
              refine AllReadyH.cons (by simp only [List.getElem?_toArray, List.getElem?_cons_zero, List.getElem?_cons_succ]; exact rfl) (fun K hK => ?_) AllReadyH.nil
              go_simp
              refine (HST.out.rdev_fuse 1 rfl x.n HFT.out.n1.1 HFT.out.n1.2).mono ?_
              rintro e w5 ⟨rfl, h5⟩
              have HST := hid h5
              clear h5
              refine hK.out _ _ ?k7x8k24 (fun hS => ?s7x8k24)
              case k7x8k24 => exact ((HST.out.blk 2 rfl).cell (j := 4) rfl)
              clear hK K
              try simp only [Act.put, List.setIfInBounds_toArray, List.set_cons_zero, List.set_cons_succ]
              refine wpAnyH_take (i := 8) (v := ?v8x9k24) (by simp only [List.getElem?_toArray, List.getElem?_cons_zero, List.getElem?_cons_succ]; exact rfl) (by kernel_rfl) (by kernel_rfl) (by kernel_rfl) (by exact fun _ _ _ h => h) (Or.inl ⟨by rfl, ?y8x9k24⟩) hS ?r8x9k24
              case y8x9k24 => (intro w' hSw; (try dsimp only at hSw); go_simp; (try with_reducible rfl))
              simp only [Act.put, List.setIfInBounds_toArray, List.set_cons_zero, List.set_cons_succ]
              refine wpAnyH_take (i := 9) (v := ?v9x10k24) (by simp only [List.getElem?_toArray, List.getElem?_cons_zero, List.getElem?_cons_succ]; exact rfl) (by kernel_rfl) (by kernel_rfl) (by kernel_rfl) (by exact fun _ _ _ h => h) (Or.inl ⟨by rfl, ?y9x10k24⟩) hS ?r9x10k24
              case y9x10k24 => (intro w' hSw; (try dsimp only at hSw); go_simp; (try with_reducible rfl))
              simp only [Act.put, List.setIfInBounds_toArray, List.set_cons_zero, List.set_cons_succ]
              refine wpAnyH_done (by kernel_rfl) ?_ _
              clear hS
              have HMT := HST
              rw [HD.out] at HMT
              go_wp2
              go_meet
              exact ⟨rfl, HMT.out⟩
          have n4 := k4
          have e4 : (x.kind == 4) = false := by rw [beq_eq_false_iff_ne]; exact k4
          by_cases k5 : x.kind = 5
          · as_aux_lemma =>
              have HD : Hid ((d.write x.n (secB x.b)).2 = d') := hid (by rw [← HDD.out]; simp [act6, k5])
              have e5 : (x.kind == 5) = true := by rw [beq_iff_eq]; exact k5
              clear y0 y1 y2 y3 y4 y5 y6
              have y0 := (H4.out.blk 2 rfl).cell (j := 0) rfl
              go_wp2_with fail
              clear y0
              have HST := hid ((H4.out.below (Below.refl _ _).drew).addNo.addNo)
              refine wp_region_held_drew (S := fun w' => w'.cell? ⟨gx, 4, none⟩ = some (.int .i64 x.n) ∧ w'.cell? ⟨gx, 5, none⟩ = some (.slice x.bo x.b.length x.bc)) (by kernel_rfl) ⟨(H4.out.blk 2 rfl).cell (j := 4) rfl, (H4.out.blk 2 rfl).cell (j := 5) rfl⟩ (fun hS => ?_)
              refine wpAnyH_take (i := 0) (v := ?v0x1k26) (by simp only [List.getElem?_toArray, List.getElem?_cons_zero]; exact rfl) (by kernel_rfl) (by kernel_rfl) (by kernel_rfl) (by exact fun _ _ _ h => h) (Or.inl ⟨by rfl, ?y0x1k26⟩) hS ?r0x1k26
              case y0x1k26 => (intro w' hSw; (try dsimp only at hSw); go_simp; (try with_reducible rfl))
              simp only [Act.put, List.setIfInBounds_toArray, List.set_cons_zero, List.set_cons_succ]
              refine wpAnyH_take (i := 1) (v := ?v1x2k26) (by simp only [List.getElem?_toArray, List.getElem?_cons_zero, List.getElem?_cons_succ]; exact rfl) (by kernel_rfl) (by kernel_rfl) (by kernel_rfl) (by exact fun _ _ _ h => h) (Or.inl ⟨by rfl, ?y1x2k26⟩) hS ?r1x2k26
              case y1x2k26 => (intro w' hSw; (try dsimp only at hSw); go_simp; (try with_reducible rfl))
              simp only [Act.put, List.setIfInBounds_toArray, List.set_cons_zero, List.set_cons_succ]
              refine wpAnyH_take (i := 2) (v := ?v2x3k26) (by simp only [List.getElem?_toArray, List.getElem?_cons_zero, List.getElem?_cons_succ]; exact rfl) (by kernel_rfl) (by kernel_rfl) (by kernel_rfl) (by exact fun _ _ _ h => h) (Or.inl ⟨by rfl, ?y2x3k26⟩) hS ?r2x3k26
              case y2x3k26 => (intro w' hSw; (try dsimp only at hSw); go_simp; (try with_reducible rfl))
              simp only [Act.put, List.setIfInBounds_toArray, List.set_cons_zero, List.set_cons_succ]
              refine wpAnyH_take (i := 3) (v := ?v3x4k26) (by simp only [List.getElem?_toArray, List.getElem?_cons_zero, List.getElem?_cons_succ]; exact rfl) (by kernel_rfl) (by kernel_rfl) (by kernel_rfl) (by exact fun _ _ _ h => h) (Or.inl ⟨by rfl, ?y3x4k26⟩) hS ?r3x4k26
              case y3x4k26 => (intro w' hSw; (try dsimp only at hSw); go_simp; (try with_reducible rfl))
              simp only [Act.put, List.setIfInBounds_toArray, List.set_cons_zero, List.set_cons_succ]
              refine wpAnyH_take (i := 4) (v := ?v4x5k26) (by simp only [List.getElem?_toArray, List.getElem?_cons_zero, List.getElem?_cons_succ]; exact rfl) (by kernel_rfl) (by kernel_rfl) (by kernel_rfl) (by exact fun _ _ _ h => h) (Or.inl ⟨by rfl, ?y4x5k26⟩) hS ?r4x5k26
              case y4x5k26 => (intro w' hSw; (try dsimp only at hSw); go_simp; (try with_reducible rfl))
              simp only [Act.put, List.setIfInBounds_toArray, List.set_cons_zero, List.set_cons_succ]
              refine wpAnyH_take (i := 7) (v := ?v7x6k26) (by simp only [List.getElem?_toArray, List.getElem?_cons_zero, List.getElem?_cons_succ]; exact rfl) (by kernel_rfl) (by kernel_rfl) (by kernel_rfl) (by exact fun _ _ _ h => h) (Or.inl ⟨by rfl, ?y7x6k26⟩) hS ?r7x6k26
              case y7x6k26 => (intro w' hSw; (try dsimp only at hSw); go_simp; (try with_reducible rfl))
              simp only [Act.put, List.setIfInBounds_toArray, List.set_cons_zero, List.set_cons_succ]
              refine wpAnyH_take (i := 8) (v := ?v8x7k26) (by simp only [List.getElem?_toArray, List.getElem?_cons_zero, List.getElem?_cons_succ]; exact rfl) (by kernel_rfl) (by kernel_rfl) (by kernel_rfl) (by exact fun _ _ _ h => h) (Or.inl ⟨by rfl, ?y8x7k26⟩) hS ?r8x7k26
              case y8x7k26 => (intro w' hSw; (try dsimp only at hSw); go_simp; (try with_reducible rfl))
              simp only [Act.put, List.setIfInBounds_toArray, List.set_cons_zero, List.set_cons_succ]
              refine wpAnyH_take (i := 9) (v := ?v9x8k26) (by simp only [List.getElem?_toArray, List.getElem?_cons_zero, List.getElem?_cons_succ]; exact rfl) (by kernel_rfl) (by kernel_rfl) (by kernel_rfl) (by exact fun _ _ _ h => h) (Or.inl ⟨by rfl, ?y9x8k26⟩) hS ?r9x8k26
              case y9x8k26 => (intro w' hSw; (try dsimp only at hSw); go_simp; (try with_reducible rfl))
              simp only [Act.put, List.setIfInBounds_toArray, List.set_cons_zero, List.set_cons_succ]
              refine wpAnyH_take (i := 10) (v := ?v10x9k26) (by simp only [List.getElem?_toArray, List.getElem?_cons_zero, List.getElem?_cons_succ]; exact rfl) (by kernel_rfl) (by kernel_rfl) (by kernel_rfl) (by exact fun _ _ _ h => h) (Or.inl ⟨by rfl, ?y10x9k26⟩) hS ?r10x9k26
              case y10x9k26 => (intro w' hSw; (try dsimp only at hSw); go_simp; (try with_reducible rfl))
              simp only [Act.put, List.setIfInBounds_toArray, List.set_cons_zero, List.set_cons_succ]
              refine wpAnyH_take (i := 11) (v := ?v11x10k26) (by simp only [List.getElem?_toArray, List.getElem?_cons_zero, List.getElem?_cons_succ]; exact rfl) (by kernel_rfl) (by kernel_rfl) (by kernel_rfl) (by exact fun _ _ _ h => h) (Or.inl ⟨by rfl, ?y11x10k26⟩) hS ?r11x10k26
              case y11x10k26 => (intro w' hSw; (try dsimp only at hSw); go_simp; (try with_reducible rfl))
              simp only [Act.put, List.setIfInBounds_toArray, List.set_cons_zero, List.set_cons_succ]
              refine wpAnyH_ready (rs := [5]) (by kernel_rfl) (by simp) ?_
              refine AllReadyH.cons (by simp only [List.getElem?_toArray, List.getElem?_cons_zero, List.getElem?_cons_succ]; exact rfl) (fun K hK => ?_) AllReadyH.nil
              go_simp
              refine (sector6_any x.bo x.b.length x.bc x.b rfl _ (HFT.out.sb.below HST.out.be)).mono ?_
              rintro e w5 ⟨gs, rfl, hm, hgs, hb5⟩
              have HST := hid (HST.out.newAt 4 rfl hb5 hm hgs)
              clear hm hgs hb5
              refine hK.out _ _ ?k5x11k26 (fun hS => ?s5x11k26)
              case k5x11k26 => exact ⟨(HST.out.blk 2 rfl).cell (j := 4) rfl, (HST.out.blk 2 rfl).cell (j := 5) rfl⟩
              clear hK K
              try simp only [Act.put, List.setIfInBounds_toArray, List.set_cons_zero, List.set_cons_succ]
              refine wpAnyH_ready (rs := [6]) (by kernel_rfl) (by simp) ?_
              refine AllReadyH.cons (by simp only [List.getElem?_toArray, List.getElem?_cons_zero, List.getElem?_cons_succ]; exact rfl) (fun K hK => ?_) AllReadyH.nil
              go_simp
              refine (HST.out.dev_write 0 rfl x.n (some ⟨gs, 0, none⟩) 64 64 (secB x.b) (secB_len _).symm (.inr (.inr ⟨gs, 0, rfl, (HST.out.blk 4 rfl).range fun j v hv => by rw [Nat.zero_add]; exact hv⟩)) (.inr ⟨4, _, _, _, by omega, rfl, fun y hy => by injection hy with hy; rw [← hy]⟩) (by omega)).mono ?_
              rintro e w5 ⟨rfl, h5⟩
              have HST := hid h5
              clear h5
              refine hK.out _ _ ?k6x12k26 (fun hS => ?s6x12k26)
              case k6x12k26 => exact ⟨(HST.out.blk 2 rfl).cell (j := 4) rfl, (HST.out.blk 2 rfl).cell (j := 5) rfl⟩
              clear hK K
              try simp only [Act.put, List.setIfInBounds_toArray, List.set_cons_zero, List.set_cons_succ]
              refine wpAnyH_ready (rs := [12]) (by kernel_rfl) (by simp) ?_
              refine AllReadyH.cons (by simp only [List.getElem?_toArray, List.getElem?_cons_zero, List.getElem?_cons_succ]; exact rfl) (fun K hK => ?_) AllReadyH.nil
              go_simp
              refine (sector6_any x.bo x.b.length x.bc x.b rfl _ (HFT.out.sb.below HST.out.be)).mono ?_
              rintro e w5 ⟨gt, rfl, hm, hgs, hb5⟩
              have HST := hid (HST.out.newAt 5 rfl hb5 hm hgs)
              clear hm hgs hb5
              refine hK.out _ _ ?k12x13k26 (fun hS => ?s12x13k26)
              case k12x13k26 => exact ⟨(HST.out.blk 2 rfl).cell (j := 4) rfl, (HST.out.blk 2 rfl).cell (j := 5) rfl⟩
              clear hK K
              try simp only [Act.put, List.setIfInBounds_toArray, List.set_cons_zero, List.set_cons_succ]
              refine wpAnyH_ready (rs := [13]) (by kernel_rfl) (by simp) ?_
              refine AllReadyH.cons (by simp only [List.getElem?_toArray, List.getElem?_cons_zero, List.getElem?_cons_succ]; exact rfl) (fun K hK => ?_) AllReadyH.nil
              go_simp
              refine (HST.out.rdev_write 1 rfl x.n (some ⟨gt, 0, none⟩) 64 64 (secB x.b) (secB_len _).symm (.inr (.inr ⟨gt, 0, rfl, (HST.out.blk 5 rfl).range fun j v hv => by rw [Nat.zero_add]; exact hv⟩)) (.inr ⟨5, _, _, _, by omega, rfl, fun y hy => by injection hy with hy; rw [← hy]⟩) (by omega)).mono ?_
              rintro e w5 ⟨rfl, h5⟩
              have HST := hid h5
              clear h5
              refine hK.out _ _ ?k13x14k26 (fun hS => ?s13x14k26)
              case k13x14k26 => exact ⟨(HST.out.blk 2 rfl).cell (j := 4) rfl, (HST.out.blk 2 rfl).cell (j := 5) rfl⟩
              clear hK K
              try simp only [Act.put, List.setIfInBounds_toArray, List.set_cons_zero, List.set_cons_succ]
              refine wpAnyH_take (i := 14) (v := ?v14x15k26) (by simp only [List.getElem?_toArray, List.getElem?_cons_zero, List.getElem?_cons_succ]; exact rfl) (by kernel_rfl) (by kernel_rfl) (by kernel_rfl) (by exact fun _ _ _ h => h) (Or.inl ⟨by rfl, ?y14x15k26⟩) hS ?r14x15k26
              case y14x15k26 => (intro w' hSw; (try dsimp only at hSw); go_simp; (try with_reducible rfl))
              simp only [Act.put, List.setIfInBounds_toArray, List.set_cons_zero, List.set_cons_succ]
              refine wpAnyH_take (i := 15) (v := ?v15x16k26) (by simp only [List.getElem?_toArray, List.getElem?_cons_zero, List.getElem?_cons_succ]; exact rfl) (by kernel_rfl) (by kernel_rfl) (by kernel_rfl) (by exact fun _ _ _ h => h) (Or.inl ⟨by rfl, ?y15x16k26⟩) hS ?r15x16k26
              case y15x16k26 => (intro w' hSw; (try dsimp only at hSw); go_simp; (try with_reducible rfl))
              simp only [Act.put, List.setIfInBounds_toArray, List.set_cons_zero, List.set_cons_succ]
              refine wpAnyH_done (by kernel_rfl) ?_ _
              clear hS
              have HMT := hid (HST.out.take 4)
              rw [HD.out] at HMT
              go_wp2
              go_meet
              exact ⟨rfl, HMT.out⟩
          have n5 := k5
          have e5 : (x.kind == 5) = false := by rw [beq_eq_false_iff_ne]; exact k5
          have HD : Hid (d = d') := hid (by rw [← HDD.out]; simp [act6, n0, n1, n2, n3, n4, n5])
          have HMT := H4
          rw [HD.out] at HMT
          go_wp2
          go_meet
          exact ⟨rfl, HMT.out⟩
      case rest =>
        as_aux_lemma =>
          obtain ⟨rfl, hst⟩ := hcut
          have H5 := hid hst
          clear hst
          have HWB : Hid (WB wc (some ⟨gl, 0, none⟩) x.b.length) := hid (by
            obtain ⟨ao', cap', e1, hwb⟩ := WB.ofOwns (H5.out.own_ 3 rfl)
            injection e1 with e1 _ _
            subst e1
            rcases hwb with h | ⟨b', o', h1, h2⟩
            · omega
            · exact .inr ⟨b', o', h1, fun j hj => h2 j (by omega)⟩)
          go_wp2_with fail
          refine (over_any (some ⟨gl, 0, none⟩) x.b.length lc (by omega) wc HWB.out).mono ?_
          rintro e w6 ⟨rfl, hk6⟩
          have H6 : Hid (St w.heap.size w w6 [dev a d', rdev b d', blkA gx 96 x.cells, noA]) := hid (H5.out.ownLost 3 rfl (hk6.mono fun j _ ⟨y, h1, h2, _⟩ => by injection h1 with h1; subst h1; rw [h2]; rfl))
          clear hk6
          obtain ⟨w7, hw7⟩ : ∃ w7 : World, w7 = w6 := ⟨_, rfl⟩
          rw [← hw7] at H6 ⊢
          clear hw7
          have H7 := H6
          have y1 := (H7.out.blk 2 rfl).cell (j := 1) rfl
          have y2 := (H7.out.blk 2 rfl).cell (j := 2) rfl
          have y3 := (H7.out.blk 2 rfl).cell (j := 3) rfl
          go_wp2_with fail
          refine (H7.out.log_scan 0 rfl x.f x.t x.g).mono ?_
          rintro e w8 ⟨v1, rfl, hf1, hb8⟩
          obtain ⟨LL, hLL⟩ : ∃ LL, (logScan d' x.f x.t x.g).1 = LL := ⟨_, rfl⟩
          have HSH := hid (show ∀ l ∈ LL, l.length ≤ 3211264 by rw [← hLL]; exact logScan_short (H7.out.ok 0 rfl) _ _ _)
          have hll : LL.length ≤ 65536 := by rw [← hLL]; exact logScan_len (H7.out.ok 0 rfl) _ _ _
          have HLL := hid hLL
          rw [hLL] at hf1
          have H8 := hid (H7.out.below hb8)
          have HB8 := hid hb8
          clear hb8 hLL y1 y2 y3
          have y1 := (H8.out.blk 2 rfl).cell (j := 1) rfl
          have y2 := (H8.out.blk 2 rfl).cell (j := 2) rfl
          have y3 := (H8.out.blk 2 rfl).cell (j := 3) rfl
          go_wp2_with fail
          refine (H8.out.rlog_scan 1 rfl x.f x.t x.g (by omega)).mono ?_
          rintro e w9 ⟨v2, rfl, hf2, hb9⟩
          rw [HLL.out] at hf2
          have H9 := hid (H8.out.below hb9)
          have HBQ : Hid (Below w7.heap.size w7 w9) := hid (HB8.out.trans (hb9.mono HB8.out.size))
          have hf1 := hf1.below hb9
          obtain ⟨ao1, cp1, rfl, hlr1⟩ := hf1.lr
          obtain ⟨ao2, cp2, rfl, hlr2⟩ := hf2.lr
          have HF1 := hid hf1
          have HLR1 := hid hlr1; have HLR2 := hid hlr2
          obtain ⟨r1, hr1⟩ : ∃ r, (logScan d' x.f x.t x.g).2.1 = r := ⟨_, rfl⟩
          obtain ⟨r2, hr2⟩ : ∃ r, (logScan d' x.f x.t x.g).2.2 = r := ⟨_, rfl⟩
          rw [hr1, hr2]
          clear hb9 y1 y2 y3 hf1 hf2 hlr1 hlr2 hr1 hr2
          go_wp2_with fail
          refine wp_region_held_drew (S := fun w' => w'.cell? ⟨gx, 1, none⟩ = some (.int .i64 x.f) ∧ w'.cell? ⟨gx, 2, none⟩ = some (.int .i64 x.t) ∧ w'.cell? ⟨gx, 3, none⟩ = some (.int .i64 x.g)) (by kernel_rfl) ⟨(H9.out.blk 2 rfl).cell (j := 1) rfl, (H9.out.blk 2 rfl).cell (j := 2) rfl, (H9.out.blk 2 rfl).cell (j := 3) rfl⟩ (fun hS => ?_)
          have HST := hid (H9.out.below (Below.refl _ _).drew)
          have HF1 := hid (HF1.out.below (Below.refl _ _).drew)
          have HBQ := hid (HBQ.out.drew)
          refine wpAnyH_take (i := 0) (v := ?v0x1z) (by simp only [List.getElem?_toArray, List.getElem?_cons_zero]; exact rfl) (by kernel_rfl) (by kernel_rfl) (by kernel_rfl) (by exact fun _ _ _ h => h) (Or.inl ⟨by rfl, ?y0x1z⟩) hS ?r0x1z
          case y0x1z => (intro w' hSw; (try dsimp only at hSw); go_simp; (try with_reducible rfl))
          simp only [Act.put, List.setIfInBounds_toArray, List.set_cons_zero, List.set_cons_succ]
          refine wpAnyH_take (i := 1) (v := ?v1x2z) (by simp only [List.getElem?_toArray, List.getElem?_cons_zero, List.getElem?_cons_succ]; exact rfl) (by kernel_rfl) (by kernel_rfl) (by kernel_rfl) (by exact fun _ _ _ h => h) (Or.inl ⟨by rfl, ?y1x2z⟩) hS ?r1x2z
          case y1x2z => (intro w' hSw; (try dsimp only at hSw); go_simp; (try with_reducible rfl))
          simp only [Act.put, List.setIfInBounds_toArray, List.set_cons_zero, List.set_cons_succ]
          refine wpAnyH_take (i := 2) (v := ?v2x3z) (by simp only [List.getElem?_toArray, List.getElem?_cons_zero, List.getElem?_cons_succ]; exact rfl) (by kernel_rfl) (by kernel_rfl) (by kernel_rfl) (by exact fun _ _ _ h => h) (Or.inl ⟨by rfl, ?y2x3z⟩) hS ?r2x3z
          case y2x3z => (intro w' hSw; (try dsimp only at hSw); go_simp; (try with_reducible rfl))
          simp only [Act.put, List.setIfInBounds_toArray, List.set_cons_zero, List.set_cons_succ]
          refine wpAnyH_take (i := 3) (v := ?v3x4z) (by simp only [List.getElem?_toArray, List.getElem?_cons_zero, List.getElem?_cons_succ]; exact rfl) (by kernel_rfl) (by kernel_rfl) (by kernel_rfl) (by exact fun _ _ _ h => h) (Or.inl ⟨by rfl, ?y3x4z⟩) hS ?r3x4z
          case y3x4z => (intro w' hSw; (try dsimp only at hSw); go_simp; (try with_reducible rfl))
          simp only [Act.put, List.setIfInBounds_toArray, List.set_cons_zero, List.set_cons_succ]
          refine wpAnyH_take (i := 4) (v := ?v4x5z) (by simp only [List.getElem?_toArray, List.getElem?_cons_zero, List.getElem?_cons_succ]; exact rfl) (by kernel_rfl) (by kernel_rfl) (by kernel_rfl) (by exact fun _ _ _ h => h) (Or.inl ⟨by rfl, ?y4x5z⟩) hS ?r4x5z
          case y4x5z => (intro w' hSw; (try dsimp only at hSw); go_simp; (try with_reducible rfl))
          simp only [Act.put, List.setIfInBounds_toArray, List.set_cons_zero, List.set_cons_succ]
          refine wpAnyH_ready (rs := [5]) (by kernel_rfl) (by simp) ?_
          refine AllReadyH.cons (by simp only [List.getElem?_toArray, List.getElem?_cons_zero, List.getElem?_cons_succ]; exact rfl) (fun K hK => ?_) AllReadyH.nil
          go_simp
          refine (sameLists_any ao1 ao2 _ _ cp1 cp2 LL LL rfl rfl (by omega) (by omega) _ (HLR1.out.below (Below.refl _ _).drew) (HLR2.out.below (Below.refl _ _).drew)).mono ?_
          rintro e w10 ⟨rfl, hb⟩
          rw [show sameL LL LL = true by simp [sameL]]
          have HST := hid (HST.out.below hb)
          have HF1 := hid (HF1.out.below hb)
          have HBQ := hid (HBQ.out.trans (hb.mono HBQ.out.size))
          clear hb
          refine hK.out _ _ ?k5x6z (fun hS => ?s5x6z)
          case k5x6z => exact ⟨(HST.out.blk 2 rfl).cell (j := 1) rfl, (HST.out.blk 2 rfl).cell (j := 2) rfl, (HST.out.blk 2 rfl).cell (j := 3) rfl⟩
          clear hK K
          try simp only [Act.put, List.setIfInBounds_toArray, List.set_cons_zero, List.set_cons_succ]
          refine wpAnyH_take (i := 6) (v := ?v6x7z) (by simp only [List.getElem?_toArray, List.getElem?_cons_zero, List.getElem?_cons_succ]; exact rfl) (by kernel_rfl) (by kernel_rfl) (by kernel_rfl) (by exact fun _ _ _ h => h) (Or.inl ⟨by rfl, ?y6x7z⟩) hS ?r6x7z
          case y6x7z => (intro w' hSw; (try dsimp only at hSw); go_simp; (try with_reducible rfl))
          simp only [Act.put, List.setIfInBounds_toArray, List.set_cons_zero, List.set_cons_succ]
          refine wpAnyH_take (i := 7) (v := ?v7x8z) (by simp only [List.getElem?_toArray, List.getElem?_cons_zero, List.getElem?_cons_succ]; exact rfl) (by kernel_rfl) (by kernel_rfl) (by kernel_rfl) (by exact fun _ _ _ h => h) (Or.inl ⟨by rfl, ?y7x8z⟩) hS ?r7x8z
          case y7x8z => (intro w' hSw; (try dsimp only at hSw); go_simp; (try with_reducible rfl))
          simp only [Act.put, List.setIfInBounds_toArray, List.set_cons_zero, List.set_cons_succ]
          refine wpAnyH_take (i := 8) (v := ?v8x9z) (by simp only [List.getElem?_toArray, List.getElem?_cons_zero, List.getElem?_cons_succ]; exact rfl) (by kernel_rfl) (by kernel_rfl) (by kernel_rfl) (by exact fun _ _ _ h => h) (Or.inl ⟨by rfl, ?y8x9z⟩) hS ?r8x9z
          case y8x9z => (intro w' hSw; (try dsimp only at hSw); go_simp; (try with_reducible rfl))
          simp only [Act.put, List.setIfInBounds_toArray, List.set_cons_zero, List.set_cons_succ]
          refine wpAnyH_take (i := 9) (v := ?v9x10z) (by simp only [List.getElem?_toArray, List.getElem?_cons_zero, List.getElem?_cons_succ]; exact rfl) (by kernel_rfl) (by kernel_rfl) (by kernel_rfl) (by exact fun _ _ _ h => h) (Or.inl ⟨by rfl, ?y9x10z⟩) hS ?r9x10z
          case y9x10z => (intro w' hSw; (try dsimp only at hSw); go_simp; (try with_reducible rfl))
          simp only [Act.put, List.setIfInBounds_toArray, List.set_cons_zero, List.set_cons_succ]
          refine wpAnyH_take (i := 10) (v := ?v10x11z) (by simp only [List.getElem?_toArray, List.getElem?_cons_zero, List.getElem?_cons_succ]; exact rfl) (by kernel_rfl) (by kernel_rfl) (by kernel_rfl) (by exact fun _ _ _ h => h) (Or.inl ⟨by rfl, ?y10x11z⟩) hS ?r10x11z
          case y10x11z => (intro w' hSw; (try dsimp only at hSw); go_simp; (try with_reducible rfl))
          simp only [Act.put, List.setIfInBounds_toArray, List.set_cons_zero, List.set_cons_succ]
          refine wpAnyH_take (i := 11) (v := ?v11x12z) (by simp only [List.getElem?_toArray, List.getElem?_cons_zero, List.getElem?_cons_succ]; exact rfl) (by kernel_rfl) (by kernel_rfl) (by kernel_rfl) (by exact fun _ _ _ h => h) (Or.inl ⟨by rfl, ?y11x12z⟩) hS ?r11x12z
          case y11x12z => (intro w' hSw; (try dsimp only at hSw); go_simp; (try with_reducible rfl))
          simp only [Act.put, List.setIfInBounds_toArray, List.set_cons_zero, List.set_cons_succ]
          refine wpAnyH_take (i := 12) (v := ?v12x13z) (by simp only [List.getElem?_toArray, List.getElem?_cons_zero, List.getElem?_cons_succ]; exact rfl) (by kernel_rfl) (by kernel_rfl) (by kernel_rfl) (by exact fun _ _ _ h => h) (Or.inl ⟨by rfl, ?y12x13z⟩) hS ?r12x13z
          case y12x13z => (intro w' hSw; (try dsimp only at hSw); go_simp; (try with_reducible rfl))
          simp only [Act.put, List.setIfInBounds_toArray, List.set_cons_zero, List.set_cons_succ]
          refine wpAnyH_take (i := 13) (v := ?v13x14z) (by simp only [List.getElem?_toArray, List.getElem?_cons_zero, List.getElem?_cons_succ]; exact rfl) (by kernel_rfl) (by kernel_rfl) (by kernel_rfl) (by exact fun _ _ _ h => h) (Or.inl ⟨by rfl, ?y13x14z⟩) hS ?r13x14z
          case y13x14z => (intro w' hSw; (try dsimp only at hSw); go_simp; (try with_reducible rfl))
          simp only [Act.put, List.setIfInBounds_toArray, List.set_cons_zero, List.set_cons_succ]
          refine wpAnyH_take (i := 14) (v := ?v14x15z) (by simp only [List.getElem?_toArray, List.getElem?_cons_zero, List.getElem?_cons_succ]; exact rfl) (by kernel_rfl) (by kernel_rfl) (by kernel_rfl) (by exact fun _ _ _ h => h) (Or.inl ⟨by rfl, ?y14x15z⟩) hS ?r14x15z
          case y14x15z => (intro w' hSw; (try dsimp only at hSw); go_simp; (try with_reducible rfl))
          simp only [Act.put, List.setIfInBounds_toArray, List.set_cons_zero, List.set_cons_succ]
          refine wpAnyH_take (i := 15) (v := ?v15x16z) (by simp only [List.getElem?_toArray, List.getElem?_cons_zero, List.getElem?_cons_succ]; exact rfl) (by kernel_rfl) (by kernel_rfl) (by kernel_rfl) (by exact fun _ _ _ h => h) (Or.inl ⟨by rfl, ?y15x16z⟩) hS ?r15x16z
          case y15x16z => (intro w' hSw; (try dsimp only at hSw); go_simp; (try with_reducible rfl))
          simp only [Act.put, List.setIfInBounds_toArray, List.set_cons_zero, List.set_cons_succ]
          refine wpAnyH_take (i := 16) (v := ?v16x17z) (by simp only [List.getElem?_toArray, List.getElem?_cons_zero, List.getElem?_cons_succ]; exact rfl) (by kernel_rfl) (by kernel_rfl) (by kernel_rfl) (by exact fun _ _ _ h => h) (Or.inl ⟨by rfl, ?y16x17z⟩) hS ?r16x17z
          case y16x17z => (intro w' hSw; (try dsimp only at hSw); go_simp; (try with_reducible rfl))
          simp only [Act.put, List.setIfInBounds_toArray, List.set_cons_zero, List.set_cons_succ]
          refine wpAnyH_take (i := 17) (v := ?v17x18z) (by simp only [List.getElem?_toArray, List.getElem?_cons_zero, List.getElem?_cons_succ]; exact rfl) (by kernel_rfl) (by kernel_rfl) (by kernel_rfl) (by exact fun _ _ _ h => h) (Or.inl ⟨by rfl, ?y17x18z⟩) hS ?r17x18z
          case y17x18z => (intro w' hSw; (try dsimp only at hSw); go_simp; (try with_reducible rfl))
          simp only [Act.put, List.setIfInBounds_toArray, List.set_cons_zero, List.set_cons_succ]
          refine wpAnyH_take (i := 18) (v := ?v18x19z) (by simp only [List.getElem?_toArray, List.getElem?_cons_zero, List.getElem?_cons_succ]; exact rfl) (by kernel_rfl) (by kernel_rfl) (by kernel_rfl) (by exact fun _ _ _ h => h) (Or.inl ⟨by rfl, ?y18x19z⟩) hS ?r18x19z
          case y18x19z => (intro w' hSw; (try dsimp only at hSw); go_simp; (try with_reducible rfl))
          simp only [Act.put, List.setIfInBounds_toArray, List.set_cons_zero, List.set_cons_succ]
          refine wpAnyH_take (i := 19) (v := ?v19x20z) (by simp only [List.getElem?_toArray, List.getElem?_cons_zero, List.getElem?_cons_succ]; exact rfl) (by kernel_rfl) (by kernel_rfl) (by kernel_rfl) (by exact fun _ _ _ h => h) (Or.inl ⟨by rfl, ?y19x20z⟩) hS ?r19x20z
          case y19x20z => (intro w' hSw; (try dsimp only at hSw); go_simp; (try with_reducible rfl))
          simp only [Act.put, List.setIfInBounds_toArray, List.set_cons_zero, List.set_cons_succ]
          refine wpAnyH_take (i := 20) (v := ?v20x21z) (by simp only [List.getElem?_toArray, List.getElem?_cons_zero, List.getElem?_cons_succ]; exact rfl) (by kernel_rfl) (by kernel_rfl) (by kernel_rfl) (by exact fun _ _ _ h => h) (Or.inl ⟨by rfl, ?y20x21z⟩) hS ?r20x21z
          case y20x21z => (intro w' hSw; (try dsimp only at hSw); go_simp; (try with_reducible rfl))
          simp only [Act.put, List.setIfInBounds_toArray, List.set_cons_zero, List.set_cons_succ]
          refine wpAnyH_take (i := 21) (v := ?v21x22z) (by simp only [List.getElem?_toArray, List.getElem?_cons_zero, List.getElem?_cons_succ]; exact rfl) (by kernel_rfl) (by kernel_rfl) (by kernel_rfl) (by exact fun _ _ _ h => h) (Or.inl ⟨by rfl, ?y21x22z⟩) hS ?r21x22z
          case y21x22z => (intro w' hSw; (try dsimp only at hSw); go_simp; (try with_reducible rfl))
          simp only [Act.put, List.setIfInBounds_toArray, List.set_cons_zero, List.set_cons_succ]
          refine wpAnyH_take (i := 23) (v := ?v23x23z) (by simp only [List.getElem?_toArray, List.getElem?_cons_zero, List.getElem?_cons_succ]; exact rfl) (by kernel_rfl) (by kernel_rfl) (by kernel_rfl) (by exact fun _ _ _ h => h) (Or.inl ⟨by rfl, ?y23x23z⟩) hS ?r23x23z
          case y23x23z => (intro w' hSw; (try dsimp only at hSw); go_simp; (try with_reducible rfl))
          simp only [Act.put, List.setIfInBounds_toArray, List.set_cons_zero, List.set_cons_succ]
          refine wpAnyH_take (i := 24) (v := ?v24x24z) (by simp only [List.getElem?_toArray, List.getElem?_cons_zero, List.getElem?_cons_succ]; exact rfl) (by kernel_rfl) (by kernel_rfl) (by kernel_rfl) (by exact fun _ _ _ h => h) (Or.inl ⟨by rfl, ?y24x24z⟩) hS ?r24x24z
          case y24x24z => (intro w' hSw; (try dsimp only at hSw); go_simp; (try with_reducible rfl))
          simp only [Act.put, List.setIfInBounds_toArray, List.set_cons_zero, List.set_cons_succ]
          refine wpAnyH_take (i := 25) (v := ?v25x25z) (by simp only [List.getElem?_toArray, List.getElem?_cons_zero, List.getElem?_cons_succ]; exact rfl) (by kernel_rfl) (by kernel_rfl) (by kernel_rfl) (by exact fun _ _ _ h => h) (Or.inl ⟨by rfl, ?y25x25z⟩) hS ?r25x25z
          case y25x25z => (intro w' hSw; (try dsimp only at hSw); go_simp; (try with_reducible rfl))
          simp only [Act.put, List.setIfInBounds_toArray, List.set_cons_zero, List.set_cons_succ]
          refine wpAnyH_ready (rs := [22]) (by kernel_rfl) (by simp) ?_
          refine AllReadyH.cons (by simp only [List.getElem?_toArray, List.getElem?_cons_zero, List.getElem?_cons_succ]; exact rfl) (fun K hK => ?_) AllReadyH.nil
          go_simp
          refine (HST.out.log_check 0 rfl x.f x.t x.g).mono ?_
          rintro e w10 ⟨rfl, hb⟩
          have HST := hid (HST.out.below hb)
          have HF1 := hid (HF1.out.below hb)
          have HBQ := hid (HBQ.out.trans (hb.mono HBQ.out.size))
          clear hb
          refine hK.out _ _ ?k22x26z (fun hS => ?s22x26z)
          case k22x26z => exact ⟨(HST.out.blk 2 rfl).cell (j := 1) rfl, (HST.out.blk 2 rfl).cell (j := 2) rfl, (HST.out.blk 2 rfl).cell (j := 3) rfl⟩
          clear hK K
          try simp only [Act.put, List.setIfInBounds_toArray, List.set_cons_zero, List.set_cons_succ]
          refine wpAnyH_ready (rs := [26]) (by kernel_rfl) (by simp) ?_
          refine AllReadyH.cons (by simp only [List.getElem?_toArray, List.getElem?_cons_zero, List.getElem?_cons_succ]; exact rfl) (fun K hK => ?_) AllReadyH.nil
          go_simp
          refine (HST.out.rlog_check 1 rfl x.f x.t x.g).mono ?_
          rintro e w10 ⟨rfl, hb⟩
          have HST := hid (HST.out.below hb)
          have HF1 := hid (HF1.out.below hb)
          have HBQ := hid (HBQ.out.trans (hb.mono HBQ.out.size))
          clear hb
          refine hK.out _ _ ?k26x27z (fun hS => ?s26x27z)
          case k26x27z => exact ⟨(HST.out.blk 2 rfl).cell (j := 1) rfl, (HST.out.blk 2 rfl).cell (j := 2) rfl, (HST.out.blk 2 rfl).cell (j := 3) rfl⟩
          clear hK K
          try simp only [Act.put, List.setIfInBounds_toArray, List.set_cons_zero, List.set_cons_succ]
          refine wpAnyH_take (i := 27) (v := ?v27x28z) (by simp only [List.getElem?_toArray, List.getElem?_cons_zero, List.getElem?_cons_succ]; exact rfl) (by kernel_rfl) (by kernel_rfl) (by kernel_rfl) (by exact fun _ _ _ h => h) (Or.inl ⟨by rfl, ?y27x28z⟩) hS ?r27x28z
          case y27x28z => (intro w' hSw; (try dsimp only at hSw); go_simp; (try with_reducible rfl))
          simp only [Act.put, List.setIfInBounds_toArray, List.set_cons_zero, List.set_cons_succ]
          refine wpAnyH_take (i := 28) (v := ?v28x29z) (by simp only [List.getElem?_toArray, List.getElem?_cons_zero, List.getElem?_cons_succ]; exact rfl) (by kernel_rfl) (by kernel_rfl) (by kernel_rfl) (by exact fun _ _ _ h => h) (Or.inl ⟨by rfl, ?y28x29z⟩) hS ?r28x29z
          case y28x29z => (intro w' hSw; (try dsimp only at hSw); go_simp; (try with_reducible rfl))
          simp only [Act.put, List.setIfInBounds_toArray, List.set_cons_zero, List.set_cons_succ]
          refine wpAnyH_take (i := 29) (v := ?v29x30z) (by simp only [List.getElem?_toArray, List.getElem?_cons_zero, List.getElem?_cons_succ]; exact rfl) (by kernel_rfl) (by kernel_rfl) (by kernel_rfl) (by exact fun _ _ _ h => h) (Or.inl ⟨by rfl, ?y29x30z⟩) hS ?r29x30z
          case y29x30z => (intro w' hSw; (try dsimp only at hSw); go_simp; (try with_reducible rfl))
          simp only [Act.put, List.setIfInBounds_toArray, List.set_cons_zero, List.set_cons_succ]
          refine wpAnyH_take (i := 30) (v := ?v30x31z) (by simp only [List.getElem?_toArray, List.getElem?_cons_zero, List.getElem?_cons_succ]; exact rfl) (by kernel_rfl) (by kernel_rfl) (by kernel_rfl) (by exact fun _ _ _ h => h) (Or.inl ⟨by rfl, ?y30x31z⟩) hS ?r30x31z
          case y30x31z => (intro w' hSw; (try dsimp only at hSw); go_simp; (try with_reducible rfl))
          simp only [Act.put, List.setIfInBounds_toArray, List.set_cons_zero, List.set_cons_succ]
          refine wpAnyH_take (i := 32) (v := ?v32x32z) (by simp only [List.getElem?_toArray, List.getElem?_cons_zero, List.getElem?_cons_succ]; exact rfl) (by kernel_rfl) (by kernel_rfl) (by kernel_rfl) (by exact fun _ _ _ h => h) (Or.inl ⟨by rfl, ?y32x32z⟩) hS ?r32x32z
          case y32x32z => (intro w' hSw; (try dsimp only at hSw); go_simp; (try with_reducible rfl))
          simp only [Act.put, List.setIfInBounds_toArray, List.set_cons_zero, List.set_cons_succ]
          refine wpAnyH_ready (rs := [31]) (by kernel_rfl) (by simp) ?_
          refine AllReadyH.cons (by simp only [List.getElem?_toArray, List.getElem?_cons_zero, List.getElem?_cons_succ]; exact rfl) (fun K hK => ?_) AllReadyH.nil
          go_simp
          refine (HST.out.dev_loose 0 rfl).mono ?_
          rintro e w10 ⟨rfl, hw'⟩
          subst w10
          refine hK.out _ _ ?k31x33z (fun hS => ?s31x33z)
          case k31x33z => exact ⟨(HST.out.blk 2 rfl).cell (j := 1) rfl, (HST.out.blk 2 rfl).cell (j := 2) rfl, (HST.out.blk 2 rfl).cell (j := 3) rfl⟩
          clear hK K
          try simp only [Act.put, List.setIfInBounds_toArray, List.set_cons_zero, List.set_cons_succ]
          refine wpAnyH_ready (rs := [33]) (by kernel_rfl) (by simp) ?_
          refine AllReadyH.cons (by simp only [List.getElem?_toArray, List.getElem?_cons_zero, List.getElem?_cons_succ]; exact rfl) (fun K hK => ?_) AllReadyH.nil
          go_simp
          refine (HST.out.rdev_loose 1 rfl).mono ?_
          rintro e w10 ⟨rfl, hw'⟩
          subst w10
          refine hK.out _ _ ?k33x34z (fun hS => ?s33x34z)
          case k33x34z => exact ⟨(HST.out.blk 2 rfl).cell (j := 1) rfl, (HST.out.blk 2 rfl).cell (j := 2) rfl, (HST.out.blk 2 rfl).cell (j := 3) rfl⟩
          clear hK K
          try simp only [Act.put, List.setIfInBounds_toArray, List.set_cons_zero, List.set_cons_succ]
          refine wpAnyH_take (i := 34) (v := ?v34x35z) (by simp only [List.getElem?_toArray, List.getElem?_cons_zero, List.getElem?_cons_succ]; exact rfl) (by kernel_rfl) (by kernel_rfl) (by kernel_rfl) (by exact fun _ _ _ h => h) (Or.inl ⟨by rfl, ?y34x35z⟩) hS ?r34x35z
          case y34x35z => (intro w' hSw; (try dsimp only at hSw); go_simp; (try with_reducible rfl))
          simp only [Act.put, List.setIfInBounds_toArray, List.set_cons_zero, List.set_cons_succ]
          refine wpAnyH_take (i := 35) (v := ?v35x36z) (by simp only [List.getElem?_toArray, List.getElem?_cons_zero, List.getElem?_cons_succ]; exact rfl) (by kernel_rfl) (by kernel_rfl) (by kernel_rfl) (by exact fun _ _ _ h => h) (Or.inl ⟨by rfl, ?y35x36z⟩) hS ?r35x36z
          case y35x36z => (intro w' hSw; (try dsimp only at hSw); go_simp; (try with_reducible rfl))
          simp only [Act.put, List.setIfInBounds_toArray, List.set_cons_zero, List.set_cons_succ]
          refine wpAnyH_done (by kernel_rfl) ?_ _
          clear hS
          go_wp2_with fail
          refine (overLists_any _ LL (by omega) (fun l hl => Nat.le_trans (HSH.out l hl) (by omega)) _ HF1.out).mono ?_
          rintro e w11 ⟨rfl, hk11⟩
          have HEND := hid ((H7.out.below (HBQ.out.trans (hk11.belowB HBQ.out.size fun j hj hh => by omega))).take 2)
          clear hk11
          go_wp2
          go_roundw
          case rel => exact ⟨k + 1, d', by omega, by go_num, HEND.out, by omega, HLEN2.out⟩
          case measure => simp [intOf]; omega
    · have hge : ¬ (k : Int) < (m : Int) := by omega
      go_wp2_with fail
      refine (long6_any _ m c l HM.out hmx wr (HL.out.below HS.out.be)).mono ?_
      rintro e w' ⟨rfl, hw'⟩
      subst w'
      rw [HLONG.out]
      go_wp2_with fail
      refine (awake6_any wr).mono ?_
      rintro e w3 ⟨rfl, hb⟩
      have HB := hid hb
      clear hb
      go_wp2
      go_ret
      exact ⟨rfl, HS.out.be.trans (HB.out.mono HS.out.bl)⟩
end Go.Proofs.Ytlondopgibcikaa
