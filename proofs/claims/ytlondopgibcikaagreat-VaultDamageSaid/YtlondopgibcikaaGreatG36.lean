/- The document's vault (entrepotref07): Open. -/
import Derived.Test.YtlondopgibcikaaGreatRows
import Derived.Test.YtlondopgibcikaaGreatG01
import Derived.Test.YtlondopgibcikaaGreatG02
import Derived.Test.YtlondopgibcikaaGreatG06
import Derived.Test.YtlondopgibcikaaGreatG07
import Derived.Test.YtlondopgibcikaaGreatG08
import Derived.Test.YtlondopgibcikaaGreatG09
import Derived.Test.YtlondopgibcikaaGreatG10
import Derived.Test.YtlondopgibcikaaGreatG13
import Derived.Test.YtlondopgibcikaaGreatG16
import Derived.Test.YtlondopgibcikaaGreatG17
import Derived.Test.YtlondopgibcikaaGreatG18
import Derived.Test.YtlondopgibcikaaGreatG21
import Derived.Test.YtlondopgibcikaaGreatG23
import Derived.Test.YtlondopgibcikaaGreatG24
import Derived.Test.YtlondopgibcikaaGreatG25
import Derived.Test.YtlondopgibcikaaGreatG26
import Derived.Test.YtlondopgibcikaaGreatG27
import Derived.Test.YtlondopgibcikaaGreatG28
import Derived.Test.YtlondopgibcikaaGreatG29
import Derived.Test.YtlondopgibcikaaGreatG30
import Derived.Test.YtlondopgibcikaaGreatG31
import Derived.Test.YtlondopgibcikaaGreatG33
import Derived.Test.YtlondopgibcikaaGreatG34
import Derived.WalkKit
import Derived.WalkSpells
import Derived.WalkLawsBesides
import Derived.Deep.RegionHeld3
import Derived.Deep.QuietTactic
import Derived.BigQuiet
namespace Go.Proofs.YtlondopgibcikaaGreat
open Go.RowKit Ent
/-- a vault of the document, or none -/
def ropenedA (B : Nat) (w0 w : World) (As : List Asset) (a : Nat) : Option VS → Value → Prop
  | none, r => r = .pointer none ∧ St B w0 w As
  | some s, r => ∃ v, r = ptr v ∧ St B w0 w (As ++ [rvA v a s])
/-- which generation counts -/
theorem countsG_ok {d : Dev} {g : Nat} (h : countsG d = (g, 0)) : d.out = false ∧ supGens d 2 ≠ [] ∧ maxOf (supGens d 2) = g := by
  unfold countsG at h
  rcases ho : d.out with _ | _
  · rw [ho] at h
    rw [if_neg (by simp)] at h
    by_cases hm : maxOf (supGens d 2) = 0
    · rw [if_pos hm] at h; simp at h
    · rw [if_neg hm] at h
      exact ⟨rfl, fun hs => hm ((supGens_no d 2).1 hs), (Prod.mk.inj h).1⟩
  · rw [ho, if_pos rfl] at h; simp at h
theorem countsG_no {d : Dev} {g : Nat} {e : Int} (h : countsG d = (g, e)) (he : ¬ e = 0) (h8 : ¬ d.img.length < 8) : openD d = (e, d, none) := by
  unfold countsG at h
  unfold openD
  rw [if_neg h8]
  rcases ho : d.out with _ | _
  · rw [ho, if_neg (by simp)] at h
    rw [if_neg (by simp)]
    by_cases hm : maxOf (supGens d 2) = 0
    · rw [if_pos hm] at h
      rw [if_pos ((supGens_no d 2).2 hm), ← (Prod.mk.inj h).2]
    · rw [if_neg hm] at h
      exact absurd (Prod.mk.inj h).2.symm he
  · rw [ho, if_pos rfl] at h
    rw [if_pos rfl, ← (Prod.mk.inj h).2]
theorem openedD_move {d : Dev} {g : Nat} {L : List (List UInt8)} {nx : Int} (h : scanG d g = (L, nx, 0)) : openedD d g = ((rmoveV d ⟨g, 0, false, []⟩ L).1, (rmoveV d ⟨g, 0, false, []⟩ L).2.1, if (rmoveV d ⟨g, 0, false, []⟩ L).1 = 0 then some (rmoveV d ⟨g, 0, false, []⟩ L).2.2 else none) := by
  unfold openedD rmoveV movedV
  rw [h]
  dsimp only
  by_cases hf : fitsOf g d.img.length L = 0
  · by_cases hm : (movesD d (g + 1) L).1 = 0
    · simp [hf, hm]
    · simp [hf, hm]
  · simp [hf]
set_option maxRecDepth 100000 in
set_option maxHeartbeats 4000000 in
theorem ropen_any {B : Nat} {w0 w : World} {As : List Asset} {a : Nat} {d : Dev} (h : St B w0 w As) (i : Nat) (hi : As[i]? = some (rdev a d)) (hn : d.img.length ≤ 1000) (hlo : d.loose.length ≤ 100000000) :
    Calls Tryz.prog 54 #[ptr a] w fun e w' => ∃ r, e = .returned (.tuple #[r, .int .i64 (openD d).1]) ∧ ropenedA B w0 w' (As.set i (rdev a (openD d).2.1)) a (openD d).2.2 r := by
  have hok := h.okR i hi
  obtain ⟨n, hnn⟩ : ∃ n, d.img.length = n := ⟨_, rfl⟩
  have hsz := h.rdev_size i hi
  rw [hnn] at hn hsz
  have H := hid h; have HI := hid hi; have HOK := hid hok; have HN := hid hnn
  clear h hi hok hnn
  unfold ptr at hsz ⊢
  have HSZ := hid hsz
  clear hsz
  go_enter Tryz.func54, Tryz.ntmps54
  go_wp2_with fail
  refine HSZ.out.mono ?_
  rintro e w' ⟨rfl, hw'⟩
  subst w'
  by_cases h8 : n < 8
  · have HE : Hid (openD d = (3, d, none)) := hid (by unfold openD; rw [if_pos (by rw [HN.out]; exact h8)])
    go_wp2
    go_ret2
    rw [HE.out]
    exact ⟨_, rfl, rfl, by rw [set_same HI.out]; exact H.out⟩
  · go_wp2_with fail
    refine (rcounts_any H.out i HI.out (by rw [HN.out]; omega) (by omega)).mono ?_
    rintro e w1 ⟨rfl, hb1⟩
    have HB1 := hid hb1
    obtain ⟨cg, hcg⟩ : ∃ cg, countsG d = cg := ⟨_, rfl⟩
    rw [hcg]
    obtain ⟨gm, ec⟩ := cg
    have HCG := hid hcg
    dsimp only
    clear hb1 hcg
    by_cases hec : ec = 0
    · subst hec
      obtain ⟨ho, hgs, hgm⟩ := countsG_ok HCG.out
      obtain ⟨hg1, hg2⟩ := supGens_le d 2 _ (maxOf_mem _ hgs)
      rw [hgm] at hg1 hg2
      have HE : Hid (openD d = openedD d gm) := hid (by unfold openD; rw [if_neg (by rw [HN.out]; exact h8), ho, if_neg (by simp), if_neg hgs, hgm])
      clear ho hgs hgm
      have hsz := (H.out.below HB1.out).rdev_size i HI.out
      rw [HN.out] at hsz
      unfold ptr at hsz
      have HSZ1 := hid hsz
      clear hsz
      obtain ⟨fr, hfr⟩ : ∃ fr, fromOf n gm = fr := ⟨_, rfl⟩
      obtain ⟨tw, hto⟩ : ∃ tw, fr + halfOf n = tw := ⟨_, rfl⟩
      have HAR := hid (rarea_any gm n (by omega) (by omega) (by omega) w1)
      have har := HAR.out
      rw [hfr, hto] at har
      have HAR := hid har
      obtain ⟨sL, hsL⟩ : ∃ sL, scanG d gm = sL := ⟨_, rfl⟩
      have HSL := hid hsL
      have HSC : Hid (logScan d (fr : Nat) (tw : Nat) (gm : Nat) = sL) := hid (by rw [← hsL, scanG, HN.out, hfr, hto])
      clear hfr hto hsL har
      go_wp2_with fail
      refine HSZ1.out.mono ?_
      rintro e w' ⟨rfl, hw'⟩
      subst w'
      go_wp2_with fail
      refine HAR.out.mono ?_
      rintro e w7 ⟨rfl, hb7⟩
      have HB7 : Hid (Below w.heap.size w w7) := hid (HB1.out.trans (hb7.mono HB1.out.size))
      clear hb7
      go_wp2_with fail
      refine ((H.out.below HB7.out).rlog_scan i HI.out (fr : Nat) (tw : Nat) (gm : Nat) (by omega)).mono ?_
      rintro e w8 ⟨vL, rfl, hf8, hb8⟩
      rw [HSC.out] at hf8 ⊢
      obtain ⟨L, nxt, ec⟩ := sL
      dsimp only at hf8 ⊢
      obtain ⟨lo, lc, rfl, hlrf⟩ := listA_lst hf8.listA
      obtain ⟨len, hlen⟩ : ∃ len, L.length = len := ⟨_, rfl⟩
      rw [hlen]
      have hlm := scanG_many d gm
      rw [HSL.out, HN.out] at hlm
      have hl1 : len ≤ 1000 := by
        simp only at hlm
        rw [hlen] at hlm; unfold halfOf at hlm; omega
      have HLS : Hid (∀ l ∈ L, l.length ≤ 1073741824) := hid (fun l hl => by
        have := logScan_short HOK.out (fr : Nat) (tw : Nat) (gm : Nat) l (by rw [HSC.out]; exact hl)
        omega)
      have h8' : St B w0 w8 (As ++ [lstA lo L]) := (H.out.below HB7.out).add hb8 (good_lstA _ _) hlrf (fun k hk => hk)
      have H8 := hid h8'; have HLEN := hid hlen
      clear hf8 hb8 hlrf hlen hlm h8'
      by_cases hec : ec = 0
      · subst hec
        have HMV := hid (openedD_move HSL.out)
        obtain ⟨v, hv⟩ : ∃ v, w8.heap.size = v := ⟨_, rfl⟩
        obtain ⟨wa, hwa⟩ : ∃ wa, w8.alloc (.cells #[ptr a, .int .i64 (gm : Nat), .int .i64 0, .slice none 0 0, .bool false] 77) = wa := ⟨_, rfl⟩
        have ha : St B w0 wa (As ++ [lstA lo L, rvA v a ⟨gm, 0, false, []⟩]) := by
          rw [← hwa, ← hv]
          have := H8.out.add (fresh_alloc w8 (.cells #[ptr a, .int .i64 (gm : Nat), .int .i64 0, .slice none 0 0, .bool false] 77)) (good_rvA w8.heap.size a ⟨gm, 0, false, []⟩) (F := fun k => k = w8.heap.size) ⟨.slice none 0 0, fun _ => False, alloc_new w8 _, rfl, ⟨[], fun _ => False, World.ownsRow_nil _ _ _ _, RowSW.nil _ _, fun _ h => h, fun k h => by simp [Value.ownBlock] at h⟩, id, fun _ h => h.elim⟩ (fun k hk => by rw [hk, World.size_alloc]; omega)
          rw [List.append_assoc] at this
          exact this
        have HWA := hid hwa; have HV := hid hv
        have HMO := hid (rmove_any ha i (get_pre HI.out) (As.length + 1) v ⟨gm, 0, false, []⟩ (get_post 1 rfl) (ne_post HI.out 1) lo len lc L HLEN.out.symm hl1 (.inr ⟨As.length + 0, _, ne_post HI.out 0, by omega, get_post 0 rfl, fun _ _ h => h⟩) HLS.out (by simp only; omega) (by rw [HN.out]; omega) hlo)
        clear hv hwa ha
        unfold ptr at HWA HMO
        go_upto_region 10 with fail
        rw [HV.out, HWA.out]
        go_wp2_with fail
        refine HMO.out.mono ?_
        rintro e w9 ⟨rfl, h9⟩
        rw [set_pre HI.out, set_postTurn] at h9
        generalize rmoveV d ⟨gm, 0, false, []⟩ L = x at h9 HMV ⊢
        obtain ⟨em, dx, sx⟩ := x
        dsimp only at h9 HMV ⊢
        have H9 := hid h9
        clear h9
        by_cases hem : em = 0
        · subst hem
          go_wp2
          go_ret2
          rw [HE.out, HMV.out]
          exact ⟨_, rfl, v, rfl, H9.out.pick 1 rfl⟩
        · have hne : (em != 0) = true := by simpa using hem
          have HMV2 : Hid (openedD d gm = (em, dx, none)) := hid (by rw [HMV.out, if_neg hem])
          clear hem
          go_wp2
          go_ret2
          rw [HE.out, HMV2.out]
          exact ⟨_, rfl, rfl, H9.out.drop_post⟩
      · have hne : (ec != 0) = true := by simpa using hec
        have HE2 : Hid (openedD d gm = (ec, d, none)) := hid (by unfold openedD; rw [HSL.out, if_pos hec])
        clear hec
        go_wp2
        go_ret2
        rw [HE.out, HE2.out]
        exact ⟨_, rfl, rfl, by rw [set_same HI.out]; exact H8.out.drop_post⟩
    · have hne : (ec != 0) = true := by simpa using hec
      have HE := hid (countsG_no HCG.out hec (by rw [HN.out]; exact h8))
      clear hec
      go_wp2
      go_ret2
      rw [HE.out]
      exact ⟨_, rfl, rfl, by rw [set_same HI.out]; exact H.out.below HB1.out⟩
end Go.Proofs.YtlondopgibcikaaGreat
