/- The vault's fits, Free, Records. The vault's Records. -/
import Derived.Test.YtlondopgibcikaaGreatRows
import Derived.Test.YtlondopgibcikaaGreatG01
import Derived.Test.YtlondopgibcikaaGreatG02
import Derived.Test.YtlondopgibcikaaGreatG06
import Derived.Test.YtlondopgibcikaaGreatG07
import Derived.Test.YtlondopgibcikaaGreatG08
import Derived.Test.YtlondopgibcikaaGreatG09
import Derived.Test.YtlondopgibcikaaGreatG10
import Derived.Test.YtlondopgibcikaaGreatG16
import Derived.Test.YtlondopgibcikaaGreatG17
import Derived.Test.YtlondopgibcikaaGreatG18
import Derived.Test.YtlondopgibcikaaGreatG21
import Derived.Test.YtlondopgibcikaaGreatG22
import Derived.Test.YtlondopgibcikaaGreatG23
import Derived.Test.YtlondopgibcikaaGreatG24
import Derived.WalkKit
import Derived.WalkSpells
import Derived.WalkLawsBesides
import Derived.Deep.RegionHeld3
import Derived.Deep.QuietTactic
import Derived.BigQuiet
namespace Go.Proofs.YtlondopgibcikaaGreat
open Go.RowKit Ent
/-- why records find no room -/
def longOne (L : List (List UInt8)) : Bool := L.any fun l => decide (1048576 < l.length)
def fitsOf (gen n : Nat) (L : List (List UInt8)) : Int := if gen = 2147483647 then 10 else if longOne L then 4 else if halfOf n < needsOf L then 10 else 0
theorem needOf_le1 (n : Nat) : needOf n ≤ n + 1 := by unfold needOf; split <;> omega
theorem needsOf_take {L : List (List UInt8)} {k : Nat} {l : List UInt8} (h : L[k]? = some l) : needsOf (L.take (k + 1)) = needsOf (L.take k) + needOf l.length := by
  rw [List.take_add_one, h, Option.toList_some, needsOf_snoc]
theorem long_mem {L : List (List UInt8)} {k : Nat} {l : List UInt8} (h : L[k]? = some l) (hl : 1048576 < l.length) : longOne L = true := by
  unfold longOne
  rw [List.any_eq_true]
  exact ⟨l, List.mem_of_getElem? h, by simpa using hl⟩
theorem long_not {L : List (List UInt8)} (h : ∀ (k : Nat) (l : List UInt8), L[k]? = some l → l.length ≤ 1048576) : longOne L = false := by
  unfold longOne
  rw [List.any_eq_false]
  intro l hl
  obtain ⟨k, hk⟩ := List.getElem?_of_mem hl
  have := h k l hk
  simp; omega
set_option maxRecDepth 100000 in
set_option maxHeartbeats 2000000 in
theorem vfits_any {B : Nat} {w0 w : World} {As : List Asset} {a : Nat} {d : Dev} (h : St B w0 w As) (i : Nat) (hi : As[i]? = some (dev a d)) (v gen : Nat) (next : Int) (vl : Value) (br : Bool) (hv : Blk w v 102 (vCells a gen next vl br)) (lo : Option Addr) (len c : Nat) (L : List (List UInt8)) (hL : LR w lo L) (hlen : len = L.length) (hl1 : len ≤ 1000) (hg : gen ≤ 2147483648) (hl2 : ∀ l ∈ L, l.length ≤ 1073741824) (hn2 : 2 ≤ d.img.length) :
    Calls Tryz.prog 66 #[ptr v, .slice lo len c] w fun e w' => e = .returned (.int .i64 (fitsOf gen d.img.length L)) ∧ Below w.heap.size w w' := by
  have c0 := hv.cell (j := 0) rfl
  have c1 := hv.cell (j := 1) rfl
  have hok := (h.ok i hi).len
  unfold ptr at c0
  obtain ⟨n, hnn⟩ : ∃ n, d.img.length = n := ⟨_, rfl⟩
  obtain ⟨fr, hfr⟩ : ∃ fr, fromOf n gen = fr := ⟨_, rfl⟩
  obtain ⟨hf, hhf⟩ : ∃ hf, halfOf n = hf := ⟨_, rfl⟩
  obtain ⟨tw, hto⟩ : ∃ tw, fr + hf = tw := ⟨_, rfl⟩
  have HN := hid hnn; have HFR := hid hfr; have HHF := hid hhf; have HTO := hid hto
  have hfb : hf ≤ 65536 := by rw [← hhf]; unfold halfOf; omega
  have hfrb : fr ≤ 131072 := by
    have := fromOf_le n gen (by omega)
    rw [hfr] at this; omega
  rw [hnn] at hok ⊢
  have H := hid h; have HI := hid hi; have HL := hid hL; have HLEN := hid hlen; have HL2 := hid hl2
  clear h hi hv hL hlen hl2 hnn hfr hhf
  unfold ptr
  by_cases hg0 : gen = 2147483647
  · subst hg0
    have hgb : (((2147483647 : Nat) : Int) == 2147483647) = true := rfl
    have HE : Hid (fitsOf 2147483647 n L = 10) := hid (by unfold fitsOf; rw [if_pos rfl])
    go_enter Tryz.func66, Tryz.ntmps66
    go_wp2
    go_ret
    exact ⟨by rw [HE.out]; rfl, Below.refl _ _⟩
  · have HG0 := hid hg0
    have hgb : ((gen : Int) == 2147483647) = false := by rw [beq_eq_false_iff_ne]; omega
    clear hg0
    go_enter Tryz.func66, Tryz.ntmps66
    go_wp2_with fail
    go_loopw [5, 16] (fun v5 i wr => ∃ (k nd : Nat), k ≤ len ∧ i = .int .i64 k ∧ v5 = .int .i64 nd ∧ nd = needsOf (L.take k) ∧ nd ≤ k * 1048577 ∧ (∀ (j : Nat) (l : List UInt8), j < k → L[j]? = some l → l.length ≤ 1048576) ∧ wr = w) (fun _ i _ => len - (intOf i).toNat)
    case atStart => exact ⟨0, 0, Nat.zero_le _, rfl, rfl, rfl, by omega, fun j l hj => absurd hj (by omega), rfl⟩
    case round =>
      obtain ⟨k, nd, hk, rfl, rfl, hnd, hndb, hsm, hwr⟩ := hrel
      subst wr
      have HND := hid hnd; have HSM := hid hsm
      clear hnd hsm
      by_cases hlt : k < len
      · obtain ⟨l, hll⟩ : ∃ l, L[k]? = some l := ⟨_, List.getElem?_eq_getElem (by rw [← HLEN.out]; exact hlt)⟩
        obtain ⟨b1, o1, lo1, cap1, rfl, cx, hcap, hs1⟩ := HL.out.at hll
        have hlb := HL2.out l (List.mem_of_getElem? hll)
        obtain ⟨u, hu⟩ : ∃ u, l.length = u := ⟨_, rfl⟩
        have HLL := hid hll
        rw [hu] at cx hlb
        have HU := hid hu
        clear hcap hs1 hll hu
        by_cases hbig : 1048576 < u
        · have qd : decide ((1048576 : Int) < (u : Int)) = true := decide_eq_true (by omega)
          have HE : Hid (fitsOf gen n L = 4) := hid (by unfold fitsOf; rw [if_neg HG0.out, long_mem HLL.out (by rw [HU.out]; exact hbig)]; rfl)
          go_wp2
          go_ret
          exact ⟨by rw [HE.out]; rfl, Below.refl _ _⟩
        · have qd : decide ((1048576 : Int) < (u : Int)) = false := decide_eq_false (by omega)
          have hnl := needOf_le1 u
          obtain ⟨m, hm⟩ : ∃ m, needOf u = m := ⟨_, rfl⟩
          have HM := hid hm
          rw [hm] at hnl
          clear hm
          obtain ⟨s, hs⟩ : ∃ s : Nat, nd + m = s := ⟨_, rfl⟩
          have qw : IntKind.i64.wrap ((nd : Int) + (m : Int)) = (s : Int) := by rw [IntWalk.i64_in _ (by omega)]; omega
          go_wp2_with fail
          refine (need_any u (by omega) w).mono ?_
          rintro e w' ⟨rfl, hw'⟩
          subst w'
          rw [HM.out]
          go_wp2_with fail
          go_roundw
          case rel => exact ⟨k + 1, s, by omega, by go_num, by trivial, by rw [needsOf_take HLL.out, ← HND.out, HU.out, HM.out, hs], by omega, fun j l' hj hjl => by
            by_cases hj2 : j < k
            · exact HSM.out j l' hj2 hjl
            · obtain rfl : j = k := by omega
              rw [HLL.out] at hjl; injection hjl with hjl; rw [← hjl, HU.out]; omega, by trivial⟩
          case measure => simp [intOf]; omega
      · obtain rfl : k = len := by omega
        have HNL : Hid (longOne L = false) := hid (long_not fun j l' hjl => HSM.out j l' (by rw [HLEN.out]; exact (List.getElem?_eq_some_iff.1 hjl).1) hjl)
        have HND : Hid (needsOf L = nd) := hid (by rw [HND.out, List.take_of_length_le (by rw [HLEN.out]; exact Nat.le_refl _)])
        go_upto_region 11 with fail
        have HB : Hid (Below w.heap.size w w.drew) := hid (Below.refl _ _).drew
        have hS00 : w.cell? ⟨v, 0, none⟩ = some (.pointer (some ⟨a, 0, none⟩)) ∧ w.cell? ⟨v, 1, none⟩ = some (.int .i64 gen) := ⟨c0, c1⟩
        refine wp_region_held_drew (S := fun w' => w'.cell? ⟨v, 0, none⟩ = some (.pointer (some ⟨a, 0, none⟩)) ∧ w'.cell? ⟨v, 1, none⟩ = some (.int .i64 gen)) (by kernel_rfl) hS00 (fun hS => ?_)
        refine tkH (i := 0) (v := ?v0x1z) (y := Or.inl ⟨by rfl, ?y0x1z⟩) (s := hS) (h := ?r0x1z)
        case y0x1z => (intro w' hSw; (try dsimp only at hSw); go_simp; (try with_reducible rfl))
        simp only [Act.put, sA, sB, sC]
        refine tkH (i := 1) (v := ?v1x2z) (y := Or.inl ⟨by rfl, ?y1x2z⟩) (s := hS) (h := ?r1x2z)
        case y1x2z => (intro w' hSw; (try dsimp only at hSw); go_simp; (try with_reducible rfl))
        simp only [Act.put, sA, sB, sC]
        refine tkH (i := 2) (v := ?v2x3z) (y := Or.inl ⟨by rfl, ?y2x3z⟩) (s := hS) (h := ?r2x3z)
        case y2x3z => (intro w' hSw; (try dsimp only at hSw); go_simp; (try with_reducible rfl))
        simp only [Act.put, sA, sB, sC]
        refine tkH (i := 3) (v := ?v3x4z) (y := Or.inl ⟨by rfl, ?y3x4z⟩) (s := hS) (h := ?r3x4z)
        case y3x4z => (intro w' hSw; (try dsimp only at hSw); go_simp; (try with_reducible rfl))
        simp only [Act.put, sA, sB, sC]
        refine tkH (i := 4) (v := ?v4x5z) (y := Or.inl ⟨by rfl, ?y4x5z⟩) (s := hS) (h := ?r4x5z)
        case y4x5z => (intro w' hSw; (try dsimp only at hSw); go_simp; (try with_reducible rfl))
        simp only [Act.put, sA, sB, sC]
        refine tkH (i := 5) (v := ?v5x6z) (y := Or.inl ⟨by rfl, ?y5x6z⟩) (s := hS) (h := ?r5x6z)
        case y5x6z => (intro w' hSw; (try dsimp only at hSw); go_simp; (try with_reducible rfl))
        simp only [Act.put, sA, sB, sC]
        refine tkH (i := 6) (v := ?v6x7z) (y := Or.inl ⟨by rfl, ?y6x7z⟩) (s := hS) (h := ?r6x7z)
        case y6x7z => (intro w' hSw; (try dsimp only at hSw); go_simp; (try with_reducible rfl))
        simp only [Act.put, sA, sB, sC]
        refine tkH (i := 7) (v := ?v7x8z) (y := Or.inl ⟨by rfl, ?y7x8z⟩) (s := hS) (h := ?r7x8z)
        case y7x8z => (intro w' hSw; (try dsimp only at hSw); go_simp; (try with_reducible rfl))
        simp only [Act.put, sA, sB, sC]
        refine wpAnyH_ready (rs := [8, 9]) (by kernel_rfl) (by simp) ?_
        refine AllReadyH.cons (by simp only [List.getElem?_toArray, List.getElem?_cons_zero, List.getElem?_cons_succ]; exact rfl) (fun K hK => ?_) (AllReadyH.cons (by simp only [List.getElem?_toArray, List.getElem?_cons_zero, List.getElem?_cons_succ]; exact rfl) (fun K hK => ?_) AllReadyH.nil)
        · go_simp
          first | refine (H.out.v_area HB.out i HI.out gen hg hn2).mono ?_ | (have HB := hid HB.out.drew; have HZ := hid HZ.out.drew; refine (H.out.v_area HB.out i HI.out gen hg hn2).mono ?_)
          rintro e w5 ⟨rfl, hb5⟩
          rw [HN.out, HFR.out, HHF.out, HTO.out]
          have hS5 : w5.cell? ⟨v, 0, none⟩ = some (.pointer (some ⟨a, 0, none⟩)) ∧ w5.cell? ⟨v, 1, none⟩ = some (.int .i64 gen) := ⟨(hb5.cell (World.block_lt_of_cell? _ _ hS.1)).trans hS.1, (hb5.cell (World.block_lt_of_cell? _ _ hS.2)).trans hS.2⟩
          have HB := hid (th HB.out hb5)
          try have HZ := hid (HZ.out.below hb5 HZ.out.lt)
          clear hb5
          refine hK.out _ _ ?k8x9z (fun hS => ?s8x9z)
          case k8x9z => exact hS5
          clear hK K
          try simp only [Act.put, sA, sB, sC]
          refine rdH (i := 9) (h := fun K hK => ?_)
          go_simp
          try (refine if_wanted (by first | rfl | kernel_rfl) ?_; go_simp)
          first | generalize hbE : w5.heap.size = bh | generalize hbE : w.heap.size = bh
          generalize hw4 : World.alloc _ _ = w4
          have hbh : w.heap.size ≤ bh := by rw [← hbE]; first | exact HB.out.size | exact Nat.le_refl _
          have hz : Blk w4 bh 99 [.int .i64 0, .int .i64 0, .int .i64 0] := by rw [← hw4, ← hbE]; exact alloc_new _ _
          have hS4 : w4.cell? ⟨v, 0, none⟩ = some (.pointer (some ⟨a, 0, none⟩)) ∧ w4.cell? ⟨v, 1, none⟩ = some (.int .i64 gen) := by rw [← hw4]; exact ⟨alc hS.1 _, alc hS.2 _⟩
          have HB : Hid (Below w.heap.size w w4) := hid (by rw [← hw4]; first | exact HB.out.alloc HB.out.size _ | exact ((Below.refl _ _).alloc (Nat.le_refl _) _))
          have HZ := hid hz
          clear hz hw4 hbE
          refine hK.out _ _ ?k9x10z (fun hS => ?s9x10z)
          case k9x10z => exact hS4
          clear hK K
          try simp only [Act.put, sA, sB, sC]
          refine rdH (i := 10) (h := fun K hK => ?_)
          refine wp_store_row 99 (.tmp 8) (.tmp 37) rfl bh [.int .i64 (fr : Nat), .int .i64 (tw : Nat), .int .i64 (gen : Nat)].toArray rfl rfl _ _ HZ.out (by kernel_rfl) rfl (by simp [Value.oneCell']) ?_
          have HB5 := hid (below_setRow' HB.out hbh [.int .i64 (fr : Nat), .int .i64 (tw : Nat), .int .i64 (gen : Nat)].toArray)
          have HZ5 := hid (setRow_heap _ _ _ [.int .i64 (fr : Nat), .int .i64 (tw : Nat), .int .i64 (gen : Nat)].toArray _ _ HZ.out)
          have hS5 := And.intro ((HB5.out.cell (World.block_lt_of_cell? _ _ hS00.1)).trans hS00.1) ((HB5.out.cell (World.block_lt_of_cell? _ _ hS00.2)).trans hS00.2)
          refine hK.out _ _ ?k10x11z (fun hS => ?s10x11z)
          case k10x11z => exact hS5
          clear hK K
          try simp only [Act.put]
          refine wpAnyH_done (by kernel_rfl) ?_ _
          generalize hws : World.setRow _ _ _ = ws at HB5 HZ5 hS5 ⊢
          clear hS hws
          have HZ5 : Hid (Blk ws bh 99 [.int .i64 (fr : Nat), .int .i64 (tw : Nat), .int .i64 (gen : Nat)]) := HZ5
          have z0 := HZ5.out.cell (j := 0) rfl
          have z1 := HZ5.out.cell (j := 1) rfl
          have qs : IntKind.i64.wrap ((tw : Int) - (fr : Int)) = (hf : Int) := by rw [IntWalk.i64_in _ (by omega)]; omega
          by_cases hbig : hf < nd
          · have qd : decide ((hf : Int) < (nd : Int)) = true := decide_eq_true (by omega)
            have HE : Hid (fitsOf gen n L = 10) := hid (by unfold fitsOf; rw [if_neg HG0.out, HNL.out, HHF.out, HND.out, if_pos hbig]; rfl)
            go_wp2
            go_ret
            exact ⟨by rw [HE.out]; rfl, HB5.out⟩
          · have qd : decide ((hf : Int) < (nd : Int)) = false := decide_eq_false (by omega)
            have HE : Hid (fitsOf gen n L = 0) := hid (by unfold fitsOf; rw [if_neg HG0.out, HNL.out, HHF.out, HND.out, if_neg hbig]; rfl)
            go_wp2
            go_ret
            exact ⟨by rw [HE.out]; rfl, HB5.out⟩
        · go_simp
          try (refine if_wanted (by first | rfl | kernel_rfl) ?_; go_simp)
          first | generalize hbE : w5.heap.size = bh | generalize hbE : w.heap.size = bh
          generalize hw4 : World.alloc _ _ = w4
          have hbh : w.heap.size ≤ bh := by rw [← hbE]; first | exact HB.out.size | exact Nat.le_refl _
          have hz : Blk w4 bh 99 [.int .i64 0, .int .i64 0, .int .i64 0] := by rw [← hw4, ← hbE]; exact alloc_new _ _
          have hS4 : w4.cell? ⟨v, 0, none⟩ = some (.pointer (some ⟨a, 0, none⟩)) ∧ w4.cell? ⟨v, 1, none⟩ = some (.int .i64 gen) := by rw [← hw4]; exact ⟨alc hS.1 _, alc hS.2 _⟩
          have HB : Hid (Below w.heap.size w w4) := hid (by rw [← hw4]; first | exact HB.out.alloc HB.out.size _ | exact ((Below.refl _ _).alloc (Nat.le_refl _) _))
          have HZ := hid hz
          clear hz hw4 hbE
          refine hK.out _ _ ?k9x12z (fun hS => ?s9x12z)
          case k9x12z => exact hS4
          clear hK K
          try simp only [Act.put, sA, sB, sC]
          refine rdH (i := 8) (h := fun K hK => ?_)
          go_simp
          first | refine (H.out.v_area HB.out i HI.out gen hg hn2).mono ?_ | (have HB := hid HB.out.drew; have HZ := hid HZ.out.drew; refine (H.out.v_area HB.out i HI.out gen hg hn2).mono ?_)
          rintro e w5 ⟨rfl, hb5⟩
          rw [HN.out, HFR.out, HHF.out, HTO.out]
          have hS5 : w5.cell? ⟨v, 0, none⟩ = some (.pointer (some ⟨a, 0, none⟩)) ∧ w5.cell? ⟨v, 1, none⟩ = some (.int .i64 gen) := ⟨(hb5.cell (World.block_lt_of_cell? _ _ hS.1)).trans hS.1, (hb5.cell (World.block_lt_of_cell? _ _ hS.2)).trans hS.2⟩
          have HB := hid (th HB.out hb5)
          try have HZ := hid (HZ.out.below hb5 HZ.out.lt)
          clear hb5
          refine hK.out _ _ ?k8x13z (fun hS => ?s8x13z)
          case k8x13z => exact hS5
          clear hK K
          try simp only [Act.put, sA, sB, sC]
          refine rdH (i := 10) (h := fun K hK => ?_)
          refine wp_store_row 99 (.tmp 8) (.tmp 37) rfl bh [.int .i64 (fr : Nat), .int .i64 (tw : Nat), .int .i64 (gen : Nat)].toArray rfl rfl _ _ HZ.out (by kernel_rfl) rfl (by simp [Value.oneCell']) ?_
          have HB5 := hid (below_setRow' HB.out hbh [.int .i64 (fr : Nat), .int .i64 (tw : Nat), .int .i64 (gen : Nat)].toArray)
          have HZ5 := hid (setRow_heap _ _ _ [.int .i64 (fr : Nat), .int .i64 (tw : Nat), .int .i64 (gen : Nat)].toArray _ _ HZ.out)
          have hS5 := And.intro ((HB5.out.cell (World.block_lt_of_cell? _ _ hS00.1)).trans hS00.1) ((HB5.out.cell (World.block_lt_of_cell? _ _ hS00.2)).trans hS00.2)
          refine hK.out _ _ ?k10x14z (fun hS => ?s10x14z)
          case k10x14z => exact hS5
          clear hK K
          try simp only [Act.put]
          refine wpAnyH_done (by kernel_rfl) ?_ _
          generalize hws : World.setRow _ _ _ = ws at HB5 HZ5 hS5 ⊢
          clear hS hws
          have HZ5 : Hid (Blk ws bh 99 [.int .i64 (fr : Nat), .int .i64 (tw : Nat), .int .i64 (gen : Nat)]) := HZ5
          have z0 := HZ5.out.cell (j := 0) rfl
          have z1 := HZ5.out.cell (j := 1) rfl
          have qs : IntKind.i64.wrap ((tw : Int) - (fr : Int)) = (hf : Int) := by rw [IntWalk.i64_in _ (by omega)]; omega
          by_cases hbig : hf < nd
          · have qd : decide ((hf : Int) < (nd : Int)) = true := decide_eq_true (by omega)
            have HE : Hid (fitsOf gen n L = 10) := hid (by unfold fitsOf; rw [if_neg HG0.out, HNL.out, HHF.out, HND.out, if_pos hbig]; rfl)
            go_wp2
            go_ret
            exact ⟨by rw [HE.out]; rfl, HB5.out⟩
          · have qd : decide ((hf : Int) < (nd : Int)) = false := decide_eq_false (by omega)
            have HE : Hid (fitsOf gen n L = 0) := hid (by unfold fitsOf; rw [if_neg HG0.out, HNL.out, HHF.out, HND.out, if_neg hbig]; rfl)
            go_wp2
            go_ret
            exact ⟨by rw [HE.out]; rfl, HB5.out⟩
/-- how many sectors are left -/
def freeOf (n : Nat) (next : Int) : Int := halfOf n - next
set_option maxRecDepth 100000 in
set_option maxHeartbeats 2000000 in
theorem vfree_any {B : Nat} {w0 w : World} {As : List Asset} {a : Nat} {d : Dev} (h : St B w0 w As) (i : Nat) (hi : As[i]? = some (dev a d)) (v gen : Nat) (next : Int) (vl : Value) (br : Bool) (hv : Blk w v 102 (vCells a gen next vl br)) (hg : gen ≤ 2147483648) (hn2 : 2 ≤ d.img.length) (hnx : 0 ≤ next ∧ next ≤ 131072) :
    Calls Tryz.prog 40 #[ptr v] w fun e w' => e = .returned (.int .i64 (freeOf d.img.length next)) ∧ Below w.heap.size w w' := by
  have c0 := hv.cell (j := 0) rfl
  have c1 := hv.cell (j := 1) rfl
  have c2 := hv.cell (j := 2) rfl
  have hok := (h.ok i hi).len
  have HV := hid hv
  unfold ptr at c0
  obtain ⟨n, hnn⟩ : ∃ n, d.img.length = n := ⟨_, rfl⟩
  obtain ⟨fr, hfr⟩ : ∃ fr, fromOf n gen = fr := ⟨_, rfl⟩
  obtain ⟨hf, hhf⟩ : ∃ hf, halfOf n = hf := ⟨_, rfl⟩
  obtain ⟨tw, hto⟩ : ∃ tw, fr + hf = tw := ⟨_, rfl⟩
  have HN := hid hnn; have HFR := hid hfr; have HHF := hid hhf; have HTO := hid hto
  have hfb : hf ≤ 65536 := by rw [← hhf]; unfold halfOf; omega
  have hfrb : fr ≤ 131072 := by
    have := fromOf_le n gen (by omega)
    rw [hfr] at this; omega
  rw [hnn] at hok ⊢
  have H := hid h; have HI := hid hi
  have qs : IntKind.i64.wrap ((tw : Int) - (fr : Int)) = (hf : Int) := by rw [IntWalk.i64_in _ (by omega)]; omega
  have qt : IntKind.i64.wrap ((hf : Int) - next) = (hf : Int) - next := IntWalk.i64_in _ (by omega)
  unfold freeOf
  rw [hhf]
  clear h hi hv hnn hfr hhf
  unfold ptr
  go_enter Tryz.func40, Tryz.ntmps40
  go_wp2_with fail
  refine (vnone_any v a gen next vl br w HV.out).mono ?_
  rintro e w' ⟨rfl, hw'⟩
  subst w'
  go_upto_region 3 with fail
  have HB : Hid (Below w.heap.size w w.drew) := hid (Below.refl _ _).drew
  have hS00 : w.cell? ⟨v, 0, none⟩ = some (.pointer (some ⟨a, 0, none⟩)) ∧ w.cell? ⟨v, 1, none⟩ = some (.int .i64 gen) ∧ w.cell? ⟨v, 2, none⟩ = some (.int .i64 next) := ⟨c0, c1, c2⟩
  refine wp_region_held_drew (S := fun w' => w'.cell? ⟨v, 0, none⟩ = some (.pointer (some ⟨a, 0, none⟩)) ∧ w'.cell? ⟨v, 1, none⟩ = some (.int .i64 gen) ∧ w'.cell? ⟨v, 2, none⟩ = some (.int .i64 next)) (by kernel_rfl) hS00 (fun hS => ?_)
  refine tkH (i := 0) (v := ?v0x1z) (y := Or.inl ⟨by rfl, ?y0x1z⟩) (s := hS) (h := ?r0x1z)
  case y0x1z => (intro w' hSw; (try dsimp only at hSw); go_simp; (try with_reducible rfl))
  simp only [Act.put, sA, sB, sC]
  refine tkH (i := 1) (v := ?v1x2z) (y := Or.inl ⟨by rfl, ?y1x2z⟩) (s := hS) (h := ?r1x2z)
  case y1x2z => (intro w' hSw; (try dsimp only at hSw); go_simp; (try with_reducible rfl))
  simp only [Act.put, sA, sB, sC]
  refine tkH (i := 2) (v := ?v2x3z) (y := Or.inl ⟨by rfl, ?y2x3z⟩) (s := hS) (h := ?r2x3z)
  case y2x3z => (intro w' hSw; (try dsimp only at hSw); go_simp; (try with_reducible rfl))
  simp only [Act.put, sA, sB, sC]
  refine tkH (i := 3) (v := ?v3x4z) (y := Or.inl ⟨by rfl, ?y3x4z⟩) (s := hS) (h := ?r3x4z)
  case y3x4z => (intro w' hSw; (try dsimp only at hSw); go_simp; (try with_reducible rfl))
  simp only [Act.put, sA, sB, sC]
  refine tkH (i := 4) (v := ?v4x5z) (y := Or.inl ⟨by rfl, ?y4x5z⟩) (s := hS) (h := ?r4x5z)
  case y4x5z => (intro w' hSw; (try dsimp only at hSw); go_simp; (try with_reducible rfl))
  simp only [Act.put, sA, sB, sC]
  refine tkH (i := 5) (v := ?v5x6z) (y := Or.inl ⟨by rfl, ?y5x6z⟩) (s := hS) (h := ?r5x6z)
  case y5x6z => (intro w' hSw; (try dsimp only at hSw); go_simp; (try with_reducible rfl))
  simp only [Act.put, sA, sB, sC]
  refine tkH (i := 6) (v := ?v6x7z) (y := Or.inl ⟨by rfl, ?y6x7z⟩) (s := hS) (h := ?r6x7z)
  case y6x7z => (intro w' hSw; (try dsimp only at hSw); go_simp; (try with_reducible rfl))
  simp only [Act.put, sA, sB, sC]
  refine tkH (i := 7) (v := ?v7x8z) (y := Or.inl ⟨by rfl, ?y7x8z⟩) (s := hS) (h := ?r7x8z)
  case y7x8z => (intro w' hSw; (try dsimp only at hSw); go_simp; (try with_reducible rfl))
  simp only [Act.put, sA, sB, sC]
  refine wpAnyH_ready (rs := [8, 9]) (by kernel_rfl) (by simp) ?_
  refine AllReadyH.cons (by simp only [List.getElem?_toArray, List.getElem?_cons_zero, List.getElem?_cons_succ]; exact rfl) (fun K hK => ?_) (AllReadyH.cons (by simp only [List.getElem?_toArray, List.getElem?_cons_zero, List.getElem?_cons_succ]; exact rfl) (fun K hK => ?_) AllReadyH.nil)
  · go_simp
    first | refine (H.out.v_area HB.out i HI.out gen hg hn2).mono ?_ | (have HB := hid HB.out.drew; have HZ := hid HZ.out.drew; refine (H.out.v_area HB.out i HI.out gen hg hn2).mono ?_)
    rintro e w5 ⟨rfl, hb5⟩
    rw [HN.out, HFR.out, HHF.out, HTO.out]
    have hS5 : w5.cell? ⟨v, 0, none⟩ = some (.pointer (some ⟨a, 0, none⟩)) ∧ w5.cell? ⟨v, 1, none⟩ = some (.int .i64 gen) ∧ w5.cell? ⟨v, 2, none⟩ = some (.int .i64 next) := ⟨(hb5.cell (World.block_lt_of_cell? _ _ hS.1)).trans hS.1, (hb5.cell (World.block_lt_of_cell? _ _ hS.2.1)).trans hS.2.1, (hb5.cell (World.block_lt_of_cell? _ _ hS.2.2)).trans hS.2.2⟩
    have HB := hid (th HB.out hb5)
    try have HZ := hid (HZ.out.below hb5 HZ.out.lt)
    clear hb5
    refine hK.out _ _ ?k8x9z (fun hS => ?s8x9z)
    case k8x9z => exact hS5
    clear hK K
    try simp only [Act.put, sA, sB, sC]
    refine rdH (i := 9) (h := fun K hK => ?_)
    go_simp
    try (refine if_wanted (by first | rfl | kernel_rfl) ?_; go_simp)
    first | generalize hbE : w5.heap.size = bh | generalize hbE : w.heap.size = bh
    generalize hw4 : World.alloc _ _ = w4
    have hbh : w.heap.size ≤ bh := by rw [← hbE]; first | exact HB.out.size | exact Nat.le_refl _
    have hz : Blk w4 bh 99 [.int .i64 0, .int .i64 0, .int .i64 0] := by rw [← hw4, ← hbE]; exact alloc_new _ _
    have hS4 : w4.cell? ⟨v, 0, none⟩ = some (.pointer (some ⟨a, 0, none⟩)) ∧ w4.cell? ⟨v, 1, none⟩ = some (.int .i64 gen) ∧ w4.cell? ⟨v, 2, none⟩ = some (.int .i64 next) := by rw [← hw4]; exact ⟨alc hS.1 _, alc hS.2.1 _, alc hS.2.2 _⟩
    have HB : Hid (Below w.heap.size w w4) := hid (by rw [← hw4]; first | exact HB.out.alloc HB.out.size _ | exact ((Below.refl _ _).alloc (Nat.le_refl _) _))
    have HZ := hid hz
    clear hz hw4 hbE
    refine hK.out _ _ ?k9x10z (fun hS => ?s9x10z)
    case k9x10z => exact hS4
    clear hK K
    try simp only [Act.put, sA, sB, sC]
    refine rdH (i := 10) (h := fun K hK => ?_)
    refine wp_store_row 99 (.tmp 3) (.tmp 14) rfl bh [.int .i64 (fr : Nat), .int .i64 (tw : Nat), .int .i64 (gen : Nat)].toArray rfl rfl _ _ HZ.out (by kernel_rfl) rfl (by simp [Value.oneCell']) ?_
    have HB5 := hid (below_setRow' HB.out hbh [.int .i64 (fr : Nat), .int .i64 (tw : Nat), .int .i64 (gen : Nat)].toArray)
    have HZ5 := hid (setRow_heap _ _ _ [.int .i64 (fr : Nat), .int .i64 (tw : Nat), .int .i64 (gen : Nat)].toArray _ _ HZ.out)
    have hS5 := And.intro ((HB5.out.cell (World.block_lt_of_cell? _ _ hS00.1)).trans hS00.1) (And.intro ((HB5.out.cell (World.block_lt_of_cell? _ _ hS00.2.1)).trans hS00.2.1) ((HB5.out.cell (World.block_lt_of_cell? _ _ hS00.2.2)).trans hS00.2.2))
    refine hK.out _ _ ?k10x11z (fun hS => ?s10x11z)
    case k10x11z => exact hS5
    clear hK K
    try simp only [Act.put]
    refine wpAnyH_done (by kernel_rfl) ?_ _
    generalize hws : World.setRow _ _ _ = ws at HB5 HZ5 hS5 ⊢
    clear hS hws
    have HZ5 : Hid (Blk ws bh 99 [.int .i64 (fr : Nat), .int .i64 (tw : Nat), .int .i64 (gen : Nat)]) := HZ5
    have z0 := HZ5.out.cell (j := 0) rfl
    have z1 := HZ5.out.cell (j := 1) rfl
    have z2 := hS5.2.2
    go_upto_region 4 with fail
    go_quiet (fail)
    have HB6 := hid (below_drewN HB5.out nq)
    clear HZ5 hS5 HB5
    go_wp2
    go_ret
    exact ⟨rfl, HB6.out⟩
  · go_simp
    try (refine if_wanted (by first | rfl | kernel_rfl) ?_; go_simp)
    first | generalize hbE : w5.heap.size = bh | generalize hbE : w.heap.size = bh
    generalize hw4 : World.alloc _ _ = w4
    have hbh : w.heap.size ≤ bh := by rw [← hbE]; first | exact HB.out.size | exact Nat.le_refl _
    have hz : Blk w4 bh 99 [.int .i64 0, .int .i64 0, .int .i64 0] := by rw [← hw4, ← hbE]; exact alloc_new _ _
    have hS4 : w4.cell? ⟨v, 0, none⟩ = some (.pointer (some ⟨a, 0, none⟩)) ∧ w4.cell? ⟨v, 1, none⟩ = some (.int .i64 gen) ∧ w4.cell? ⟨v, 2, none⟩ = some (.int .i64 next) := by rw [← hw4]; exact ⟨alc hS.1 _, alc hS.2.1 _, alc hS.2.2 _⟩
    have HB : Hid (Below w.heap.size w w4) := hid (by rw [← hw4]; first | exact HB.out.alloc HB.out.size _ | exact ((Below.refl _ _).alloc (Nat.le_refl _) _))
    have HZ := hid hz
    clear hz hw4 hbE
    refine hK.out _ _ ?k9x12z (fun hS => ?s9x12z)
    case k9x12z => exact hS4
    clear hK K
    try simp only [Act.put, sA, sB, sC]
    refine rdH (i := 8) (h := fun K hK => ?_)
    go_simp
    first | refine (H.out.v_area HB.out i HI.out gen hg hn2).mono ?_ | (have HB := hid HB.out.drew; have HZ := hid HZ.out.drew; refine (H.out.v_area HB.out i HI.out gen hg hn2).mono ?_)
    rintro e w5 ⟨rfl, hb5⟩
    rw [HN.out, HFR.out, HHF.out, HTO.out]
    have hS5 : w5.cell? ⟨v, 0, none⟩ = some (.pointer (some ⟨a, 0, none⟩)) ∧ w5.cell? ⟨v, 1, none⟩ = some (.int .i64 gen) ∧ w5.cell? ⟨v, 2, none⟩ = some (.int .i64 next) := ⟨(hb5.cell (World.block_lt_of_cell? _ _ hS.1)).trans hS.1, (hb5.cell (World.block_lt_of_cell? _ _ hS.2.1)).trans hS.2.1, (hb5.cell (World.block_lt_of_cell? _ _ hS.2.2)).trans hS.2.2⟩
    have HB := hid (th HB.out hb5)
    try have HZ := hid (HZ.out.below hb5 HZ.out.lt)
    clear hb5
    refine hK.out _ _ ?k8x13z (fun hS => ?s8x13z)
    case k8x13z => exact hS5
    clear hK K
    try simp only [Act.put, sA, sB, sC]
    refine rdH (i := 10) (h := fun K hK => ?_)
    refine wp_store_row 99 (.tmp 3) (.tmp 14) rfl bh [.int .i64 (fr : Nat), .int .i64 (tw : Nat), .int .i64 (gen : Nat)].toArray rfl rfl _ _ HZ.out (by kernel_rfl) rfl (by simp [Value.oneCell']) ?_
    have HB5 := hid (below_setRow' HB.out hbh [.int .i64 (fr : Nat), .int .i64 (tw : Nat), .int .i64 (gen : Nat)].toArray)
    have HZ5 := hid (setRow_heap _ _ _ [.int .i64 (fr : Nat), .int .i64 (tw : Nat), .int .i64 (gen : Nat)].toArray _ _ HZ.out)
    have hS5 := And.intro ((HB5.out.cell (World.block_lt_of_cell? _ _ hS00.1)).trans hS00.1) (And.intro ((HB5.out.cell (World.block_lt_of_cell? _ _ hS00.2.1)).trans hS00.2.1) ((HB5.out.cell (World.block_lt_of_cell? _ _ hS00.2.2)).trans hS00.2.2))
    refine hK.out _ _ ?k10x14z (fun hS => ?s10x14z)
    case k10x14z => exact hS5
    clear hK K
    try simp only [Act.put]
    refine wpAnyH_done (by kernel_rfl) ?_ _
    generalize hws : World.setRow _ _ _ = ws at HB5 HZ5 hS5 ⊢
    clear hS hws
    have HZ5 : Hid (Blk ws bh 99 [.int .i64 (fr : Nat), .int .i64 (tw : Nat), .int .i64 (gen : Nat)]) := HZ5
    have z0 := HZ5.out.cell (j := 0) rfl
    have z1 := HZ5.out.cell (j := 1) rfl
    have z2 := hS5.2.2
    go_upto_region 4 with fail
    go_quiet (fail)
    have HB6 := hid (below_drewN HB5.out nq)
    clear HZ5 hS5 HB5
    go_wp2
    go_ret
    exact ⟨rfl, HB6.out⟩
end Go.Proofs.YtlondopgibcikaaGreat
namespace Go.Proofs.YtlondopgibcikaaGreat
open Go.RowKit Ent
set_option maxRecDepth 100000 in
set_option maxHeartbeats 1000000 in
theorem vrecords_any (v a gen : Nat) (next : Int) (lo : Option Addr) (len c : Nat) (br : Bool) (L : List (List UInt8)) (w : World) (h : Blk w v 102 (vCells a gen next (.slice lo len c) br)) (hL : LR w lo L) (hlen : len = L.length) (hl1 : len ≤ 1073741824) (hl2 : ∀ l ∈ L, l.length ≤ 1073741824) :
    Calls Tryz.prog 38 #[ptr v] w fun e w' => ∃ r, e = .returned r ∧ FreshL w.heap.size w' r L ∧ Below w.heap.size w w' := by
  have c3 := h.cell (j := 3) rfl
  have H := hid h; have HC := hid (vcopied_any lo len c L hlen hl1 hl2 w hL)
  clear h hL hl2 hlen hl1
  unfold ptr
  go_enter Tryz.func38, Tryz.ntmps38
  go_wp2_with fail
  refine (vnone_any v a gen next _ br w H.out).mono ?_
  rintro e w' ⟨rfl, hw'⟩
  subst w'
  go_wp2_with fail
  refine HC.out.mono ?_
  rintro e w2 ⟨r, rfl, hf, hb⟩
  have HF := hid hf; have HB := hid hb
  clear hf hb
  go_wp2
  go_ret
  exact ⟨_, rfl, HF.out, HB.out⟩
end Go.Proofs.YtlondopgibcikaaGreat
