/- The document's vault (entrepotref07): move. -/
import Derived.Test.YtlondopgibcikaaGreatRows
import Derived.Test.YtlondopgibcikaaGreatG01
import Derived.Test.YtlondopgibcikaaGreatG02
import Derived.Test.YtlondopgibcikaaGreatG06
import Derived.Test.YtlondopgibcikaaGreatG07
import Derived.Test.YtlondopgibcikaaGreatG08
import Derived.Test.YtlondopgibcikaaGreatG09
import Derived.Test.YtlondopgibcikaaGreatG10
import Derived.Test.YtlondopgibcikaaGreatG13
import Derived.Test.YtlondopgibcikaaGreatG16
import Derived.Test.YtlondopgibcikaaGreatG17
import Derived.Test.YtlondopgibcikaaGreatG18
import Derived.Test.YtlondopgibcikaaGreatG21
import Derived.Test.YtlondopgibcikaaGreatG23
import Derived.Test.YtlondopgibcikaaGreatG24
import Derived.Test.YtlondopgibcikaaGreatG26
import Derived.Test.YtlondopgibcikaaGreatG27
import Derived.Test.YtlondopgibcikaaGreatG28
import Derived.Test.YtlondopgibcikaaGreatG29
import Derived.Test.YtlondopgibcikaaGreatG31
import Derived.Test.YtlondopgibcikaaGreatG33
import Derived.WalkKit
import Derived.WalkSpells
import Derived.WalkLawsBesides
import Derived.Deep.RegionHeld3
import Derived.Deep.QuietTactic
import Derived.BigQuiet
namespace Go.Proofs.YtlondopgibcikaaGreat
open Go.RowKit Ent
/-- it is broken -/
theorem St.rbreak {B : Nat} {w0 w : World} {X Y : List Asset} (h : St B w0 w (X ++ Y)) (j : Nat) {v a : Nat} {s : VS} (hj : X[j]? = some (rvA v a s)) : St B w0 (w.setCell ⟨v, 4, none⟩ (.bool true)) (X.set j (rvA v a { s with br := true })) := by
  have h2 := (h.rvSet j (get_pre hj) (s' := { s with br := true }) ((Keep.refl (fun k => k = v) w).setCell (p := ⟨v, 4, none⟩) rfl (.bool true)) rfl (fun vl hb => hb.set 4 (.bool true))).take X.length
  have hlt : j < X.length := (List.getElem?_eq_some_iff.1 hj).1
  rw [List.set_append_left _ _ hlt] at h2
  rwa [List.take_left' (by simp)] at h2
/-- a record of a list is written into the log; the list stands still -/
theorem St.rlog_writeL {B : Nat} {w0 w : World} {As : List Asset} {a : Nat} {d : Dev} {lo : Option Addr} {L : List (List UInt8)} (h : St B w0 w As) (i : Nat) (hi : As[i]? = some (rdev a d)) (hl : LentI B w0 As i lo L) (f t g at_ : Int) (k : Nat) (rec : List UInt8) (hk : L[k]? = some rec) (hrm : rec.length ≤ 9223372036854775807) (hlo : d.loose.length ≤ 1073000000) (ha1 : -9223372036854775808 ≤ at_ ∧ at_ ≤ 9223372036854775807) :
    ∃ b o ro rc, lo = some ⟨b, o, none⟩ ∧ w.cell? ⟨b, o + k, none⟩ = some (.slice ro rec.length rc) ∧ ∀ w1, Below w.heap.size w w1 →
    Calls Tryz.prog 77 #[ptr a, .agg #[.int .i64 f, .int .i64 t, .int .i64 g], .int .i64 at_, .slice ro rec.length rc] w1 fun e w' => e = .returned (.tuple #[.int .i64 (logWrite d f t g at_ rec).1.1, .int .i64 (logWrite d f t g at_ rec).1.2]) ∧ St B w0 w' (As.set i (rdev a (logWrite d f t g at_ rec).2)) ∧ w'.cell? ⟨b, o + k, none⟩ = some (.slice ro rec.length rc) := by
  rcases hl with hl | ⟨j, A, hij, hj, hLA⟩
  · have hl2 := hl.keep (keepB h.be) (fun k hk hF => by omega)
    rcases hl2 with hl2 | ⟨b, o, h1, h2, h3⟩
    · rw [hl2] at hk; simp at hk
    · obtain ⟨ro, rc, c1, c2, c3, c4⟩ := h3 k rec hk
      refine ⟨b, o, ro, rc, h1, c1, fun w1 hb => ?_⟩
      have c1b := (hb.cell (World.block_lt_of_cell? _ _ c1)).trans c1
      obtain ⟨F', hA', hF', _, hcl'⟩ := (h.below hb).open i hi
      refine (rwrite_any f t g at_ ro rec.length rc rec rfl c2 hrm w1 (c3.below hb) hA' (fun k hk => (hF' k hk).2) hlo ha1).mono ?_
      rintro e w' ⟨he, hp, hkp⟩
      exact ⟨he, hcl' w' _ _ hkp (good_rdev _ _) hp (fun _ h => h), (hkp.cell (World.block_lt_of_cell? _ _ c1b) (fun hf => by have := (hF' _ hf).1; simp only at this; omega)).trans c1b⟩
  · obtain ⟨F, hA, hF, ho, _⟩ := h.open i hi
    obtain ⟨G, hG, _, _⟩ := ho j _ hij hj
    rcases hLA _ _ hG with hl2 | ⟨b, o, h1, h2, h3⟩
    · rw [hl2] at hk; simp at hk
    · obtain ⟨ro, rc, c1, c2, c3, c4⟩ := h3 k rec hk
      refine ⟨b, o, ro, rc, h1, c1, fun w1 hb => ?_⟩
      have c1b := (hb.cell (World.block_lt_of_cell? _ _ c1)).trans c1
      obtain ⟨F', hA', hF', ho', hcl'⟩ := (h.below hb).open i hi
      obtain ⟨G', hG', _, hFG'⟩ := ho' j _ hij hj
      have hb' : G' b := by
        rcases hLA _ _ hG' with hl3 | ⟨b', o', h1', h2', _⟩
        · rw [hl3] at hk; simp at hk
        · rw [h1] at h1'
          have : b = b' := by simpa using congrArg (fun x => x.map Addr.block) h1'
          rw [this]; exact h2'
      refine (rwrite_any f t g at_ ro rec.length rc rec rfl c2 hrm w1 (c3.below hb) hA' (fun k hk => (hF' k hk).2) hlo ha1).mono ?_
      rintro e w' ⟨he, hp, hkp⟩
      exact ⟨he, hcl' w' _ _ hkp (good_rdev _ _) hp (fun _ h => h), (hkp.cell (World.block_lt_of_cell? _ _ c1b) (fun hf => hFG' _ hf hb')).trans c1b⟩
set_option maxRecDepth 100000 in
set_option maxHeartbeats 4000000 in
theorem rmove_any {B : Nat} {w0 w : World} {As : List Asset} {a : Nat} {d : Dev} (h : St B w0 w As) (i : Nat) (hi : As[i]? = some (rdev a d)) (j v : Nat) (s : VS) (hj : As[j]? = some (rvA v a s)) (hij : i ≠ j) (lo : Option Addr) (len c : Nat) (L : List (List UInt8)) (hlen : len = L.length) (hl1 : len ≤ 1000) (hL2 : LentI2 B w0 As i j lo L) (hl2 : ∀ l ∈ L, l.length ≤ 1073741824) (hg : s.gen ≤ 2147483647) (hn2 : 2 ≤ d.img.length) (hlo : d.loose.length ≤ 100000000) :
    Calls Tryz.prog 80 #[ptr v, .slice lo len c] w fun e w' => e = .returned (.int .i64 (rmoveV d s L).1) ∧ St B w0 w' ((As.set i (rdev a (rmoveV d s L).2.1)).set j (rvA v a (rmoveV d s L).2.2)) := by
  have hok := (h.okR i hi).len
  obtain ⟨n, hnn⟩ : ∃ n, d.img.length = n := ⟨_, rfl⟩
  have HN := hid hnn
  rw [hnn] at hok hn2
  obtain ⟨vl, hvb⟩ := h.rvault j hj
  have c0 := hvb.cell (j := 0) rfl
  have c1 := hvb.cell (j := 1) rfl
  unfold ptr at c0
  have hL := hL2.one
  obtain ⟨F0, hlrf⟩ := hL.lrf h
  have hfit := rfits_any h i hi v s.gen s.next vl s.br hvb lo len c L hlrf.lr hlen hl1 hg hl2 (by rw [hnn]; exact hn2)
  rw [hnn] at hfit
  obtain ⟨fo, hfo⟩ : ∃ fo, fitsOf s.gen n L = fo := ⟨_, rfl⟩
  rw [hfo] at hfit
  have HFO := hid hfo; have HFIT := hid hfit
  have H := hid h; have HI := hid hi; have HJ := hid hj; have HL := hid hL; have HL2J := hid hL2; have HLEN := hid hlen; have HL2 := hid hl2; have HVB := hid hvb
  have hsz := h.rdev_size i hi
  rw [hnn] at hsz
  have HSZ := hid hsz
  clear h hi hj hL hL2 hlen hl2 hvb hnn hfo hfit hlrf hsz
  unfold ptr at HFIT HSZ ⊢
  by_cases hf0 : fo = 0
  · subst hf0
    have HM : Hid (rmoveV d s L = movedV d s L) := hid (by unfold rmoveV; rw [HN.out, HFO.out]; rfl)
    have hgen : s.gen < 2147483647 := by
      by_cases hc : s.gen = 2147483647
      · have := HFO.out
        unfold fitsOf at this
        rw [if_pos hc] at this
        cases this
      · omega
    obtain ⟨gn, hgn⟩ : ∃ gn, s.gen + 1 = gn := ⟨_, rfl⟩
    have HGN := hid hgn
    have hgb : gn ≤ 2147483647 := by omega
    have qg : IntKind.i64.wrap ((s.gen : Int) + 1) = (gn : Int) := by rw [IntWalk.i64_in _ (by omega)]; omega
    clear hgn
    go_enter Tryz.func80, Tryz.ntmps80
    go_wp2_with fail
    refine HFIT.out.mono ?_
    rintro e w' ⟨rfl, hw'⟩
    subst w'
    go_wp2_with fail
    refine HSZ.out.mono ?_
    rintro e w' ⟨rfl, hw'⟩
    subst w'
    go_wp2_with fail
    have hra := rarea_any gn n (by omega) hn2 hok w
    obtain ⟨fr, hfr⟩ : ∃ fr, fromOf n gn = fr := ⟨_, rfl⟩
    obtain ⟨tw, htw⟩ : ∃ tw, fr + halfOf n = tw := ⟨_, rfl⟩
    rw [hfr, htw] at hra
    have HFR := hid hfr; have HTW := hid htw
    clear hfr htw
    refine hra.mono ?_
    rintro e w1 ⟨rfl, hb1⟩
    have HB1 := hid hb1
    clear hb1 hra
    go_upto_region 7 with fail
    generalize hbg : w1.heap.size = g
    generalize hwa : w1.alloc _ = wa
    have HBA : Hid (Below w.heap.size w wa) := hid (by rw [← hwa]; exact HB1.out.alloc HB1.out.size _)
    have HG : Hid (w.heap.size ≤ g) := hid (by rw [← hbg]; exact HB1.out.size)
    have HA0 : Hid (Blk wa g 99 [.int .i64 (fr : Nat), .int .i64 (tw : Nat), .int .i64 (gn : Nat)]) := hid (by rw [← hwa, ← hbg]; exact alloc_new _ _)
    have HS0 : Hid (St B w0 wa (As.set i (rdev a d) ++ [blkA g 99 [.int .i64 (fr : Nat), .int .i64 (tw : Nat), .int .i64 (gn : Nat)]])) := hid (by rw [set_same HI.out]; exact H.out.addBlk HBA.out HA0.out HG.out)
    clear hbg hwa
    have HJ2 : Hid ((As.set i (rdev a d) ++ [blkA g 99 [.int .i64 (fr : Nat), .int .i64 (tw : Nat), .int .i64 (gn : Nat)]])[j]? = some (rvA v a s)) := hid (set_beside HJ.out hij)
    obtain ⟨vl2, hvb2⟩ := HS0.out.rvault j HJ2.out
    have c0 := hvb2.cell (j := 0) rfl
    have ca0 := HA0.out.cell (j := 0) rfl
    have ca1 := HA0.out.cell (j := 1) rfl
    have ca2 := HA0.out.cell (j := 2) rfl
    unfold ptr at c0
    clear hvb2
    refine wp_region_held_drew (S := fun w' => w'.cell? ⟨v, 0, none⟩ = some (.pointer (some ⟨a, 0, none⟩)) ∧ w'.cell? ⟨g, 0, none⟩ = some (.int .i64 (fr : Nat)) ∧ w'.cell? ⟨g, 1, none⟩ = some (.int .i64 (tw : Nat)) ∧ w'.cell? ⟨g, 2, none⟩ = some (.int .i64 (gn : Nat))) (by kernel_rfl) ⟨c0, ca0, ca1, ca2⟩ (fun hS => ?_)
    refine tkH (i := 0) (v := ?v0x1z) (y := Or.inl ⟨by rfl, ?y0x1z⟩) (s := hS) (h := ?r0x1z)
    case y0x1z => (intro w' hSw; (try dsimp only at hSw); go_simp; (try with_reducible rfl))
    simp only [Act.put, sA, sB, sC]
    refine tkH (i := 1) (v := ?v1x2z) (y := Or.inl ⟨by rfl, ?y1x2z⟩) (s := hS) (h := ?r1x2z)
    case y1x2z => (intro w' hSw; (try dsimp only at hSw); go_simp; (try with_reducible rfl))
    simp only [Act.put, sA, sB, sC]
    refine tkH (i := 2) (v := ?v2x3z) (y := Or.inl ⟨by rfl, ?y2x3z⟩) (s := hS) (h := ?r2x3z)
    case y2x3z => (intro w' hSw; (try dsimp only at hSw); go_simp; (try with_reducible rfl))
    simp only [Act.put, sA, sB, sC]
    refine tkH (i := 3) (v := ?v3x4z) (y := Or.inl ⟨by rfl, ?y3x4z⟩) (s := hS) (h := ?r3x4z)
    case y3x4z => (intro w' hSw; (try dsimp only at hSw); go_simp; (try with_reducible rfl))
    simp only [Act.put, sA, sB, sC]
    refine tkH (i := 4) (v := ?v4x5z) (y := Or.inl ⟨by rfl, ?y4x5z⟩) (s := hS) (h := ?r4x5z)
    case y4x5z => (intro w' hSw; (try dsimp only at hSw); go_simp; (try with_reducible rfl))
    simp only [Act.put, sA, sB, sC]
    refine rdH (i := 5) (h := fun K hK => ?_)
    go_simp
    refine ((HS0.out.below (Below.refl _ _).drew).rlog_blank i (set_mid HI.out) (fr : Nat) (tw : Nat) (gn : Nat) (by omega)).mono ?_
    rintro e w7 ⟨rfl, h7⟩
    rw [set_twice' HI.out] at h7
    have H7 := hid h7
    have HJ7 : Hid ((As.set i (rdev a (blankOf d (fr : Nat) (tw : Nat) (gn : Nat)).2) ++ [blkA g 99 [.int .i64 (fr : Nat), .int .i64 (tw : Nat), .int .i64 (gn : Nat)]])[j]? = some (rvA v a s)) := hid (set_beside HJ.out hij)
    obtain ⟨vl7, hvb7⟩ := H7.out.rvault j HJ7.out
    have hb0 := hvb7.cell (j := 0) rfl
    have hb2 := H7.out.blk (As.length + 0) (set_post 0 rfl)
    unfold ptr at hb0
    have hS7 := And.intro hb0 (And.intro (hb2.cell (j := 0) rfl) (And.intro (hb2.cell (j := 1) rfl) (hb2.cell (j := 2) rfl)))
    clear h7 hvb7 hb0 hb2
    refine hK.out _ _ ?k5x6z (fun hS => ?s5x6z)
    case k5x6z => exact hS7
    clear hK K
    try simp only [Act.put, sA, sB, sC]
    refine tkH (i := 6) (v := ?v6x7z) (y := Or.inl ⟨by rfl, ?y6x7z⟩) (s := hS) (h := ?r6x7z)
    case y6x7z => (intro w' hSw; (try dsimp only at hSw); go_simp; (try with_reducible rfl))
    simp only [Act.put, sA, sB, sC]
    refine wpAnyH_done (by kernel_rfl) ?_ _
    generalize hx : blankOf d (fr : Nat) (tw : Nat) (gn : Nat) = x at H7 HJ7
    obtain ⟨e1, d1⟩ := x
    have hbl := blank_loose d (fr : Nat) (tw : Nat) (gn : Nat)
    rw [hx, HN.out] at hbl
    have HX := hid hx
    dsimp only at H7 HJ7 hbl ⊢
    have HI1 := hid hbl.2
    have hl1 := hbl.1
    clear hx hbl hS hS7 HJ7
    have HMS : Hid (movesD d gn L = if e1 = 0 then seqOf (movesFs fr tw gn L) 1 3 (d1, 0) else (e1, (d1, 0))) := hid (by
      unfold movesD
      rw [HN.out, HFR.out, HTW.out]
      show (if (movesFs fr tw gn L 0 (d, 0)).1 = 0 then _ else _) = _
      have : movesFs fr tw gn L 0 (d, 0) = (e1, (d1, 0)) := by
        unfold movesFs
        rw [if_pos rfl]
        show ((blankOf d (fr : Nat) (tw : Nat) (gn : Nat)).1, ((blankOf d (fr : Nat) (tw : Nat) (gn : Nat)).2, (0 : Int))) = _
        rw [HX.out]
      rw [this])
    go_wp2_with fail
    go_loopw [5, 8, 9] (fun e p x wr => ∃ (k : Nat) (q ex : Int) (dk : Dev), k ≤ len ∧ x = .int .i64 k ∧ p = .int .i64 q ∧ e = .int .i64 ex ∧ dk.img.length = n ∧ dk.loose.length ≤ d.loose.length + (k + 1) * n ∧ ((ex = 0 ∧ e1 = 0 ∧ (0 ≤ q ∧ q ≤ 65536) ∧ recsD (fr : Nat) (tw : Nat) (gn : Nat) L 0 d1 = recsD (fr : Nat) (tw : Nat) (gn : Nat) (L.drop k) q dk) ∨ (¬ ex = 0 ∧ (movesD d gn L).1 = ex ∧ (movesD d gn L).2.1 = dk)) ∧ St B w0 wr (As.set i (rdev a dk) ++ [blkA g 99 [.int .i64 (fr : Nat), .int .i64 (tw : Nat), .int .i64 (gn : Nat)]])) (fun _ _ x _ => len - (intOf x).toNat)
    case atStart => exact ⟨0, 0, e1, d1, Nat.zero_le _, rfl, rfl, rfl, HI1.out, by omega, by
      by_cases he : e1 = 0
      · exact .inl ⟨he, he, ⟨by omega, by omega⟩, by rw [List.drop_zero]⟩
      · exact .inr ⟨he, by rw [HMS.out, if_neg he], by rw [HMS.out, if_neg he]⟩, H7.out⟩
    case round =>
      obtain ⟨k, q, ex, dk, hk, rfl, rfl, rfl, hik, hlk, hst, hs⟩ := hrel
      have H8 := hid hs; have HIK := hid hik; have HST := hid hst
      clear hik hst hs
      have hkn : (k + 1) * n ≤ 1001 * 65536 := Nat.mul_le_mul (by omega) hok
      by_cases hex : ex = 0
      · subst hex
        obtain ⟨he1, hq, hrec⟩ : e1 = 0 ∧ (0 ≤ q ∧ q ≤ 65536) ∧ recsD (fr : Nat) (tw : Nat) (gn : Nat) L 0 d1 = recsD (fr : Nat) (tw : Nat) (gn : Nat) (L.drop k) q dk := by
          rcases HST.out with h1 | h1
          · exact h1.2
          · exact absurd rfl h1.1
        have HREC := hid hrec; have HE1 := hid he1
        clear hrec he1 HST
        by_cases hlt : k < len
        · obtain ⟨r, hr⟩ : ∃ r, L[k]? = some r := ⟨_, List.getElem?_eq_getElem (by rw [← HLEN.out]; exact hlt)⟩
          have hrm := HL2.out r (List.mem_of_getElem? hr)
          obtain ⟨b, o, ro, rc, rfl, cr, hw⟩ := H8.out.rlog_writeL i (set_mid HI.out) (HL.out.set (rdev a dk)).app (fr : Nat) (tw : Nat) (gn : Nat) q k r hr (by omega) (by omega) (by omega)
          have HR := hid hr; have HW := hid hw
          have hdrop : L.drop k = r :: L.drop (k + 1) := by
            have hkl : k < L.length := (List.getElem?_eq_some_iff.1 hr).1
            rw [List.drop_eq_getElem_cons hkl, (List.getElem?_eq_some_iff.1 hr).2]
          have HD := hid hdrop
          clear hr hw hdrop
          obtain ⟨u, hu⟩ : ∃ u, r.length = u := ⟨_, rfl⟩
          rw [hu] at cr hrm HW
          clear hu
          obtain ⟨vl8, hvb8⟩ := H8.out.rvault j (set_beside HJ.out hij)
          have c0 := hvb8.cell (j := 0) rfl
          have hba := H8.out.blk (As.length + 0) (set_post 0 rfl)
          have ca0 := hba.cell (j := 0) rfl
          have ca1 := hba.cell (j := 1) rfl
          have ca2 := hba.cell (j := 2) rfl
          unfold ptr at c0
          clear hvb8 hba
          go_upto_region 11 with fail
          refine wp_region_held_drew (S := fun w' => w'.cell? ⟨v, 0, none⟩ = some (.pointer (some ⟨a, 0, none⟩)) ∧ w'.cell? ⟨g, 0, none⟩ = some (.int .i64 (fr : Nat)) ∧ w'.cell? ⟨g, 1, none⟩ = some (.int .i64 (tw : Nat)) ∧ w'.cell? ⟨g, 2, none⟩ = some (.int .i64 (gn : Nat)) ∧ w'.cell? ⟨b, o + k, none⟩ = some (.slice ro u rc)) (by kernel_rfl) ⟨c0, ca0, ca1, ca2, cr⟩ (fun hS => ?_)
          refine tkH (i := 0) (v := ?v0x1q) (y := Or.inl ⟨by rfl, ?y0x1q⟩) (s := hS) (h := ?r0x1q)
          case y0x1q => (intro w' hSw; (try dsimp only at hSw); go_simp; (try with_reducible rfl))
          simp only [Act.put, sA, sB, sC]
          refine tkH (i := 1) (v := ?v1x2q) (y := Or.inl ⟨by rfl, ?y1x2q⟩) (s := hS) (h := ?r1x2q)
          case y1x2q => (intro w' hSw; (try dsimp only at hSw); go_simp; (try with_reducible rfl))
          simp only [Act.put, sA, sB, sC]
          refine tkH (i := 2) (v := ?v2x3q) (y := Or.inl ⟨by rfl, ?y2x3q⟩) (s := hS) (h := ?r2x3q)
          case y2x3q => (intro w' hSw; (try dsimp only at hSw); go_simp; (try with_reducible rfl))
          simp only [Act.put, sA, sB, sC]
          refine tkH (i := 3) (v := ?v3x4q) (y := Or.inl ⟨by rfl, ?y3x4q⟩) (s := hS) (h := ?r3x4q)
          case y3x4q => (intro w' hSw; (try dsimp only at hSw); go_simp; (try with_reducible rfl))
          simp only [Act.put, sA, sB, sC]
          refine tkH (i := 4) (v := ?v4x5q) (y := Or.inl ⟨by rfl, ?y4x5q⟩) (s := hS) (h := ?r4x5q)
          case y4x5q => (intro w' hSw; (try dsimp only at hSw); go_simp; (try with_reducible rfl))
          simp only [Act.put, sA, sB, sC]
          refine tkH (i := 5) (v := ?v5x6q) (y := Or.inl ⟨by rfl, ?y5x6q⟩) (s := hS) (h := ?r5x6q)
          case y5x6q => (intro w' hSw; (try dsimp only at hSw); go_simp; (try with_reducible rfl))
          simp only [Act.put, sA, sB, sC]
          refine tkH (i := 6) (v := ?v6x7q) (y := Or.inl ⟨by rfl, ?y6x7q⟩) (s := hS) (h := ?r6x7q)
          case y6x7q => (intro w' hSw; (try dsimp only at hSw); go_simp; (try with_reducible rfl))
          simp only [Act.put, sA, sB, sC]
          refine tkH (i := 7) (v := ?v7x8q) (y := Or.inl ⟨by rfl, ?y7x8q⟩) (s := hS) (h := ?r7x8q)
          case y7x8q => (intro w' hSw; (try dsimp only at hSw); go_simp; (try with_reducible rfl))
          simp only [Act.put, sA, sB, sC]
          refine tkH (i := 8) (v := ?v8x9q) (y := Or.inl ⟨by rfl, ?y8x9q⟩) (s := hS) (h := ?r8x9q)
          case y8x9q => (intro w' hSw; (try dsimp only at hSw); go_simp; (try with_reducible rfl))
          simp only [Act.put, sA, sB, sC]
          refine tkH (i := 9) (v := ?v9x10q) (y := Or.inl ⟨by rfl, ?y9x10q⟩) (s := hS) (h := ?r9x10q)
          case y9x10q => (intro w' hSw; (try dsimp only at hSw); go_simp; (try with_reducible rfl))
          simp only [Act.put, sA, sB, sC]
          refine rdH (i := 10) (h := fun K hK => ?_)
          go_simp
          refine (HW.out _ (Below.refl _ _).drew).mono ?_
          rintro e w9 ⟨rfl, h9, cr9⟩
          rw [set_twice' HI.out] at h9
          have H9 := hid h9
          obtain ⟨vl9, hvb9⟩ := H9.out.rvault j (set_beside HJ.out hij)
          have hb0 := hvb9.cell (j := 0) rfl
          have hb2 := H9.out.blk (As.length + 0) (set_post 0 rfl)
          unfold ptr at hb0
          have hS9 := And.intro hb0 (And.intro (hb2.cell (j := 0) rfl) (And.intro (hb2.cell (j := 1) rfl) (And.intro (hb2.cell (j := 2) rfl) cr9)))
          clear h9 hvb9 hb0 hb2 cr9
          refine hK.out _ _ ?k10x11q (fun hS => ?s10x11q)
          case k10x11q => exact hS9
          clear hK K
          try simp only [Act.put, sA, sB, sC]
          refine tkH (i := 11) (v := ?v11x12q) (y := Or.inl ⟨by rfl, ?y11x12q⟩) (s := hS) (h := ?r11x12q)
          case y11x12q => (intro w' hSw; (try dsimp only at hSw); go_simp; (try with_reducible rfl))
          simp only [Act.put, sA, sB, sC]
          refine tkH (i := 12) (v := ?v12x13q) (y := Or.inl ⟨by rfl, ?y12x13q⟩) (s := hS) (h := ?r12x13q)
          case y12x13q => (intro w' hSw; (try dsimp only at hSw); go_simp; (try with_reducible rfl))
          simp only [Act.put, sA, sB, sC]
          refine tkH (i := 13) (v := ?v13x14q) (y := Or.inl ⟨by rfl, ?y13x14q⟩) (s := hS) (h := ?r13x14q)
          case y13x14q => (intro w' hSw; (try dsimp only at hSw); go_simp; (try with_reducible rfl))
          simp only [Act.put, sA, sB, sC]
          refine tkH (i := 14) (v := ?v14x15q) (y := Or.inl ⟨by rfl, ?y14x15q⟩) (s := hS) (h := ?r14x15q)
          case y14x15q => (intro w' hSw; (try dsimp only at hSw); go_simp; (try with_reducible rfl))
          simp only [Act.put, sA, sB, sC]
          refine tkH (i := 15) (v := ?v15x16q) (y := Or.inl ⟨by rfl, ?y15x16q⟩) (s := hS) (h := ?r15x16q)
          case y15x16q => (intro w' hSw; (try dsimp only at hSw); go_simp; (try with_reducible rfl))
          simp only [Act.put, sA, sB, sC]
          refine wpAnyH_done (by kernel_rfl) ?_ _
          generalize hx : logWrite dk (fr : Nat) (tw : Nat) (gn : Nat) q r = x at H9
          obtain ⟨⟨nx, ex⟩, dx⟩ := x
          have HX := hid hx
          clear hx hS hS9
          dsimp only at H9 ⊢
          have hlx := lwrite_loose dk (fr : Nat) (tw : Nat) (gn : Nat) q r
          rw [HX.out, HIK.out] at hlx
          dsimp only at hlx
          have hsm : (k + 1 + 1) * n = (k + 1) * n + n := Nat.succ_mul _ _
          have hlb : dx.loose.length ≤ d.loose.length + (k + 1 + 1) * n := by omega
          have HIX := hid hlx.2
          have HST2 : Hid ((ex = 0 ∧ e1 = 0 ∧ (0 ≤ nx ∧ nx ≤ 65536) ∧ recsD (fr : Nat) (tw : Nat) (gn : Nat) L 0 d1 = recsD (fr : Nat) (tw : Nat) (gn : Nat) (L.drop (k + 1)) nx dx) ∨ (¬ ex = 0 ∧ (movesD d gn L).1 = ex ∧ (movesD d gn L).2.1 = dx)) := hid (by
            by_cases hex : ex = 0
            · subst hex
              have hnx := logWrite_next (d := dk) (f := (fr : Nat)) (t := (tw : Nat)) (g := (gn : Nat)) (p := q) (r := r) (by rw [HX.out])
              rw [HX.out, HIK.out] at hnx
              dsimp only at hnx
              exact .inl ⟨rfl, HE1.out, by omega, by rw [HREC.out, HD.out, recsD, HX.out, if_pos rfl]⟩
            · have hm : movesFs fr tw gn L 1 (d1, 0) = (ex, dx, q) := by
                show recsD (fr : Nat) (tw : Nat) (gn : Nat) L 0 d1 = _
                rw [HREC.out, HD.out, recsD, HX.out, if_neg hex]
              have hm2 : movesD d gn L = (ex, dx, q) := by rw [HMS.out, if_pos HE1.out, seqOf_no (by rw [hm]; exact hex), hm]
              exact .inr ⟨hex, by rw [hm2], by rw [hm2]⟩)
          clear hlx hsm
          go_wp2_with fail
          exact ⟨⟨k + 1, nx, ex, dx, by omega, by go_num, rfl, rfl, HIX.out, hlb, HST2.out, H9.out⟩, by simp [intOf]; omega⟩
        · have hkl : k = len := by omega
          subst hkl
          have hm : movesFs fr tw gn L 1 (d1, 0) = (0, dk, q) := by
            show recsD (fr : Nat) (tw : Nat) (gn : Nat) L 0 d1 = _
            rw [HREC.out, List.drop_of_length_le (by rw [HLEN.out]; exact Nat.le_refl _), recsD]
          have HM2 : Hid (movesD d gn L = seqOf (movesFs fr tw gn L) 2 2 (dk, q)) := hid (by rw [HMS.out, if_pos HE1.out, seqOf_ok (by rw [hm]), hm])
          clear hm
          obtain ⟨vl8, hvb8⟩ := H8.out.rvault j (set_beside HJ.out hij)
          have c0 := hvb8.cell (j := 0) rfl
          unfold ptr at c0
          have hfl := H8.out.rdev_flush i (set_mid HI.out) (by omega)
          have hwl := flush_loose dk
          have HFF : Hid (movesFs fr tw gn L 2 (dk, q) = (dk.flush.1, (dk.flush.2, q))) := hid rfl
          unfold ptr at hfl
          rw [set_twice' HI.out] at hfl
          rw [HIK.out] at hwl
          generalize dk.flush = x at hfl hwl HFF
          obtain ⟨e3, d3⟩ := x
          dsimp only at hfl hwl HFF
          have HFL := hid hfl; have HI3 := hid hwl.2
          have hl3 := hwl.1
          clear hfl hwl hvb8
          go_wp2_with fail
          refine HFL.out.mono ?_
          rintro e w10 ⟨rfl, h10⟩
          have H10 := hid h10
          clear h10
          obtain ⟨vl9, hvb9⟩ := H10.out.rvault j (set_beside HJ.out hij)
          have c0 := hvb9.cell (j := 0) rfl
          have c4 := hvb9.cell (j := 4) rfl
          have f4 := hvb9.free 4
          unfold ptr at c0
          clear hvb9
          by_cases he3 : e3 = 0
          · subst he3
            have HM3 : Hid (movesD d gn L = seqOf (movesFs fr tw gn L) 3 1 (d3, q)) := hid (by rw [HM2.out, seqOf_ok (by rw [HFF.out]), HFF.out])
            clear HM2 HFF
            go_upto_region 15 with fail
            refine wp_region_held_drew (S := fun w' => w'.cell? ⟨v, 0, none⟩ = some (.pointer (some ⟨a, 0, none⟩))) (by kernel_rfl) c0 (fun hS => ?_)
            refine tkH (i := 0) (v := ?v0x1p) (y := Or.inl ⟨by rfl, ?y0x1p⟩) (s := hS) (h := ?r0x1p)
            case y0x1p => (intro w' hSw; (try dsimp only at hSw); go_simp; (try with_reducible rfl))
            simp only [Act.put, sA, sB, sC]
            refine tkH (i := 1) (v := ?v1x2p) (y := Or.inl ⟨by rfl, ?y1x2p⟩) (s := hS) (h := ?r1x2p)
            case y1x2p => (intro w' hSw; (try dsimp only at hSw); go_simp; (try with_reducible rfl))
            simp only [Act.put, sA, sB, sC]
            refine tkH (i := 2) (v := ?v2x3p) (y := Or.inl ⟨by rfl, ?y2x3p⟩) (s := hS) (h := ?r2x3p)
            case y2x3p => (intro w' hSw; (try dsimp only at hSw); go_simp; (try with_reducible rfl))
            simp only [Act.put, sA, sB, sC]
            refine tkH (i := 3) (v := ?v3x4p) (y := Or.inl ⟨by rfl, ?y3x4p⟩) (s := hS) (h := ?r3x4p)
            case y3x4p => (intro w' hSw; (try dsimp only at hSw); go_simp; (try with_reducible rfl))
            simp only [Act.put, sA, sB, sC]
            refine tkH (i := 4) (v := ?v4x5p) (y := Or.inl ⟨by rfl, ?y4x5p⟩) (s := hS) (h := ?r4x5p)
            case y4x5p => (intro w' hSw; (try dsimp only at hSw); go_simp; (try with_reducible rfl))
            simp only [Act.put, sA, sB, sC]
            refine tkH (i := 5) (v := ?v5x6p) (y := Or.inl ⟨by rfl, ?y5x6p⟩) (s := hS) (h := ?r5x6p)
            case y5x6p => (intro w' hSw; (try dsimp only at hSw); go_simp; (try with_reducible rfl))
            simp only [Act.put, sA, sB, sC]
            refine tkH (i := 6) (v := ?v6x7p) (y := Or.inl ⟨by rfl, ?y6x7p⟩) (s := hS) (h := ?r6x7p)
            case y6x7p => (intro w' hSw; (try dsimp only at hSw); go_simp; (try with_reducible rfl))
            simp only [Act.put, sA, sB, sC]
            refine tkH (i := 7) (v := ?v7x8p) (y := Or.inl ⟨by rfl, ?y7x8p⟩) (s := hS) (h := ?r7x8p)
            case y7x8p => (intro w' hSw; (try dsimp only at hSw); go_simp; (try with_reducible rfl))
            simp only [Act.put, sA, sB, sC]
            refine tkH (i := 8) (v := ?v8x9p) (y := Or.inl ⟨by rfl, ?y8x9p⟩) (s := hS) (h := ?r8x9p)
            case y8x9p => (intro w' hSw; (try dsimp only at hSw); go_simp; (try with_reducible rfl))
            simp only [Act.put, sA, sB, sC]
            refine tkH (i := 9) (v := ?v9x10p) (y := Or.inl ⟨by rfl, ?y9x10p⟩) (s := hS) (h := ?r9x10p)
            case y9x10p => (intro w' hSw; (try dsimp only at hSw); go_simp; (try with_reducible rfl))
            simp only [Act.put, sA, sB, sC]
            refine tkH (i := 10) (v := ?v10x11p) (y := Or.inl ⟨by rfl, ?y10x11p⟩) (s := hS) (h := ?r10x11p)
            case y10x11p => (intro w' hSw; (try dsimp only at hSw); go_simp; (try with_reducible rfl))
            simp only [Act.put, sA, sB, sC]
            refine rdH (i := 11) (h := fun K hK => ?_)
            go_simp
            refine ((H10.out.below (Below.refl _ _).drew).rdev_size i (set_mid HI.out)).mono ?_
            rintro e w' ⟨rfl, hw'⟩
            subst w'
            rw [HI3.out]
            refine hK.out _ _ ?k11x12p (fun hS => ?s11x12p)
            case k11x12p => exact c0
            clear hK K
            try simp only [Act.put, sA, sB, sC]
            refine rdH (i := 12) (h := fun K hK => ?_)
            go_simp
            refine (rsuper_any gn n (by omega) (by omega) _).mono ?_
            rintro e w12 ⟨v12, rfl, ho, hb⟩
            obtain ⟨bo, cs, rfl, hz, hsb, hfr⟩ := own_fresh ho
            clear hz
            have HB12 : Hid (Below w10.heap.size w10 w12) := hid (th (Below.refl _ _).drew hb)
            have HSB := hid hsb; have HFR2 := hid hfr
            have hS12 := (HB12.out.cell (World.block_lt_of_cell? _ _ c0)).trans c0
            clear ho hb hsb hfr
            refine hK.out _ _ ?k12x13p (fun hS => ?s12x13p)
            case k12x13p => exact hS12
            clear hK K
            try simp only [Act.put, sA, sB, sC]
            refine rdH (i := 13) (h := fun K hK => ?_)
            go_simp
            rw [show ((gn : Int).tmod 2) = (gn : Int) % 2 from Int.tmod_eq_emod_of_nonneg (by omega)]
            refine (H10.out.rdev_writeF HB12.out i (set_mid HI.out) ((gn : Int) % 2) bo 64 cs (supSec gn n) (supSec_len gn n).symm HSB.out HFR2.out (by omega)).mono ?_
            rintro e w13 ⟨rfl, h13⟩
            rw [set_twice' HI.out] at h13
            have H13 := hid h13
            obtain ⟨vl13, hvb13⟩ := H13.out.rvault j (set_beside HJ.out hij)
            have hS13 := hvb13.cell (j := 0) rfl
            unfold ptr at hS13
            clear h13 hvb13
            refine hK.out _ _ ?k13x14p (fun hS => ?s13x14p)
            case k13x14p => exact hS13
            clear hK K
            try simp only [Act.put, sA, sB, sC]
            refine tkH (i := 14) (v := ?v14x15p) (y := Or.inl ⟨by rfl, ?y14x15p⟩) (s := hS) (h := ?r14x15p)
            case y14x15p => (intro w' hSw; (try dsimp only at hSw); go_simp; (try with_reducible rfl))
            simp only [Act.put, sA, sB, sC]
            refine wpAnyH_done (by kernel_rfl) ?_ _
            generalize hx : d3.write ((gn : Int) % 2) (supSec gn n) = x at H13 ⊢
            obtain ⟨e4, d4⟩ := x
            have HW4 := hid hx
            have hw4 := write_loose d3 ((gn : Int) % 2) (supSec gn n)
            rw [hx, HI3.out] at hw4
            dsimp only at H13 hw4 ⊢
            have hl4 := hw4.1
            have HI4 := hid hw4.2
            have HC3 : Hid (countsD d3 gn = if e4 = 0 then d4.flush else (e4, d4)) := hid (by unfold countsD andD; rw [HI3.out, show ((gn % 2 : Nat) : Int) = (gn : Int) % 2 by omega, HW4.out])
            clear hx hw4 hS hS12 hS13 HB12 HSB HFR2
            by_cases he4 : e4 = 0
            · subst he4
              have hfl := H13.out.rdev_flush i (set_mid HI.out) (by omega)
              rw [set_twice' HI.out] at hfl
              unfold ptr at hfl
              have hco := HC3.out
              rw [if_pos rfl] at hco
              generalize d4.flush = x at hfl hco
              obtain ⟨e5, d5⟩ := x
              dsimp only at hfl hco
              have HFL5 := hid hfl
              have HM5 : Hid (movesD d gn L = (e5, d5, q)) := hid (by
                rw [HM3.out, seqOf_last]
                show ((countsD d3 gn).1, ((countsD d3 gn).2, q)) = _
                rw [hco])
              obtain ⟨vl13, hvb13⟩ := H13.out.rvault j (set_beside HJ.out hij)
              have c0 := hvb13.cell (j := 0) rfl
              unfold ptr at c0
              clear hfl hco hvb13
              go_wp2_with fail
              refine HFL5.out.mono ?_
              rintro e w14 ⟨rfl, h14⟩
              have H14 := hid h14
              obtain ⟨vl14, hvb14⟩ := h14.rvault j (set_beside HJ.out hij)
              have HV14 := hid hvb14
              clear h14 c0
              by_cases he5 : e5 = 0
              · subst he5
                have HRV : Hid (rmoveV d s L = (0, d5, ⟨gn, q, s.br, L⟩)) := hid (by rw [HM.out]; unfold movedV; rw [HGN.out, HM5.out, if_pos rfl])
                have c1 := hvb14.cell (j := 1) rfl
                have f1 := hvb14.free 1
                clear hvb14
                go_upto_region 22 with fail
                generalize hw15 : World.setCell _ _ _ = w15
                have HB15 : Hid (Keep (fun k => k = v) w14 w15) := hid (by rw [← hw15]; exact (Keep.refl (fun k => k = v) w14).setCell (p := ⟨v, 1, none⟩) rfl _)
                have hvb15 := HV14.out.set 1 (.int .i64 (gn : Nat))
                rw [hw15] at hvb15
                have c2 := hvb15.cell (j := 2) rfl
                have f2 := hvb15.free 2
                have HE15 := hid hw15
                clear hvb15 hw15 c1 f1
                go_upto_region 23 with fail
                generalize hw16 : World.setCell _ _ _ = w16
                have HB16 : Hid (Keep (fun k => k = v) w14 w16) := hid (by rw [← hw16]; exact HB15.out.setCell (p := ⟨v, 2, none⟩) rfl _)
                have h16 := H14.out.rvSet j (set_beside HJ.out hij) (s' := ⟨gn, q, s.br, s.L⟩) HB16.out rfl (fun vl hb => by rw [← hw16, ← HE15.out]; exact (hb.set 1 (.int .i64 (gn : Nat))).set 2 (.int .i64 q))
                rw [set_pre (by rw [List.getElem?_set_ne hij]; exact HJ.out)] at h16
                have H16 := hid h16
                have HJ16 : Hid (((As.set i (rdev a d5)).set j (rvA v a ⟨gn, q, s.br, s.L⟩))[j]? = some (rvA v a ⟨gn, q, s.br, s.L⟩)) := hid (List.getElem?_set_self (by rw [List.length_set]; exact (List.getElem?_eq_some_iff.1 HJ.out).1))
                obtain ⟨F16, hF16⟩ := (HL2J.out.to (Bs := (As.set i (rdev a d5)).set j (rvA v a ⟨gn, q, s.br, s.L⟩) ++ [blkA g 99 [.int .i64 (fr : Nat), .int .i64 (tw : Nat), .int .i64 (gn : Nat)]]) (fun m A h1 h2 h3 => get_pre (by rw [List.getElem?_set_ne h2, List.getElem?_set_ne h1]; exact h3))).lrf H16.out
                have HCP := hid (copyLists_any lo k c L HLEN.out (by omega) HL2.out w16 hF16.lr)
                clear hF16 hw16 c2 f2 h16
                go_wp2_with fail
                refine HCP.out.mono ?_
                rintro e w17 ⟨r, rfl, hf, hb17⟩
                obtain ⟨ro, rc, hr, _⟩ := listA_lst hf.listA
                rw [← HLEN.out] at hr
                subst hr
                obtain ⟨vl17, hv17⟩ := (H16.out.below hb17).rvault j (get_pre HJ16.out)
                have c3 := hv17.cell (j := 3) rfl
                have f3 := hv17.free 3
                have HF17 := hid hf; have HB17 := hid hb17; have HV17 := hid hv17
                clear hf hb17 hv17
                go_wp2
                go_ret
                rw [HRV.out]
                refine ⟨rfl, ?_⟩
                have h18 := H16.out.rvTurn j (get_pre HJ16.out) (s' := ⟨gn, q, s.br, L⟩) HB17.out ((Keep.refl (fun k => k = v) w17).setCell (p := ⟨v, 3, none⟩) rfl (.slice ro k rc)) (HV17.out.set 3 (.slice ro k rc)) (Nat.le_refl _) HF17.out
                rw [set_pre HJ16.out, List.set_set] at h18
                exact h18.drop_post
              · have c4 := hvb14.cell (j := 4) rfl
                have f4 := hvb14.free 4
                have q0 : (e5 == 0) = false := by simpa using he5
                have q1 : (e5 != 0) = true := by simpa using he5
                have HRV : Hid (rmoveV d s L = (e5, d5, { s with br := true })) := hid (by rw [HM.out]; unfold movedV; rw [HGN.out, HM5.out, if_neg he5])
                have H15 := hid (H14.out.rbreak j (by rw [List.getElem?_set_ne hij]; exact HJ.out))
                clear hvb14 he5
                go_wp2
                go_ret
                rw [HRV.out]
                exact ⟨rfl, H15.out⟩
            · have HM5 : Hid (movesD d gn L = (e4, d4, q)) := hid (by
                rw [HM3.out, seqOf_last]
                show ((countsD d3 gn).1, ((countsD d3 gn).2, q)) = _
                rw [HC3.out, if_neg he4])
              obtain ⟨vl13, hvb13⟩ := H13.out.rvault j (set_beside HJ.out hij)
              have c4 := hvb13.cell (j := 4) rfl
              have f4 := hvb13.free 4
              have q0 : (e4 == 0) = false := by simpa using he4
              have q1 : (e4 != 0) = true := by simpa using he4
              have HRV : Hid (rmoveV d s L = (e4, d4, { s with br := true })) := hid (by rw [HM.out]; unfold movedV; rw [HGN.out, HM5.out, if_neg he4])
              have H15 := hid (H13.out.rbreak j (by rw [List.getElem?_set_ne hij]; exact HJ.out))
              clear hvb13 he4
              go_wp2
              go_ret
              rw [HRV.out]
              exact ⟨rfl, H15.out⟩
          · have he0 : (e3 == 0) = false := by simpa using he3
            have he1 : (e3 != 0) = true := by simpa using he3
            have HF : Hid (movesD d gn L = (e3, d3, q)) := hid (by rw [HM2.out, seqOf_no (by rw [HFF.out]; exact he3), HFF.out])
            have H11 := hid (H10.out.rbreak j (by rw [List.getElem?_set_ne hij]; exact HJ.out))
            have HRV : Hid (rmoveV d s L = (e3, d3, { s with br := true })) := hid (by rw [HM.out]; unfold movedV; rw [HGN.out, HF.out, if_neg he3])
            clear he3
            go_wp2
            go_ret
            rw [HRV.out]
            exact ⟨rfl, H11.out⟩
      · have hfin : (movesD d gn L).1 = ex ∧ (movesD d gn L).2.1 = dk := by
          rcases HST.out with h1 | h1
          · exact absurd h1.1 hex
          · exact h1.2
        have HF := hid hfin
        clear hfin HST
        obtain ⟨vl8, hvb8⟩ := H8.out.rvault j (set_beside HJ.out hij)
        have c4 := hvb8.cell (j := 4) rfl
        have f4 := hvb8.free 4
        have H9 := hid (H8.out.rbreak j (by rw [List.getElem?_set_ne hij]; exact HJ.out))
        have he0 : (ex == 0) = false := by simpa using hex
        have he1 : (ex != 0) = true := by simpa using hex
        have HRV : Hid (rmoveV d s L = (ex, dk, { s with br := true })) := hid (by rw [HM.out]; unfold movedV; rw [HGN.out, if_neg (by rw [HF.out.1]; exact hex), HF.out.1, HF.out.2])
        clear hvb8 hex
        by_cases hlt : k < len
        · go_wp2
          go_ret
          rw [HRV.out]
          exact ⟨rfl, H9.out⟩
        · have hkl : k = len := by omega
          subst hkl
          go_wp2
          go_ret
          rw [HRV.out]
          exact ⟨rfl, H9.out⟩
  · have hne : (fo != 0) = true := by simpa using hf0
    have HM : Hid (rmoveV d s L = (fo, d, s)) := hid (by unfold rmoveV; rw [HN.out, HFO.out, if_pos hf0])
    clear hf0
    go_enter Tryz.func80, Tryz.ntmps80
    go_wp2_with fail
    refine HFIT.out.mono ?_
    rintro e w' ⟨rfl, hw'⟩
    subst w'
    go_wp2
    go_ret
    rw [HM.out]
    exact ⟨rfl, by
      show St B w0 w ((As.set i (rdev a d)).set j (rvA v a s))
      rw [set_same HI.out, set_same HJ.out]
      exact H.out⟩
end Go.Proofs.YtlondopgibcikaaGreat
