/- Law 7: VaultDamage. -/
import Derived.Test.YtlondopgibcikaaGreatRows
import Derived.Test.YtlondopgibcikaaGreatG01
import Derived.Test.YtlondopgibcikaaGreatG02
import Derived.Test.YtlondopgibcikaaGreatG06
import Derived.Test.YtlondopgibcikaaGreatG07
import Derived.Test.YtlondopgibcikaaGreatG08
import Derived.Test.YtlondopgibcikaaGreatG09
import Derived.Test.YtlondopgibcikaaGreatG10
import Derived.Test.YtlondopgibcikaaGreatG13
import Derived.Test.YtlondopgibcikaaGreatG16
import Derived.Test.YtlondopgibcikaaGreatG17
import Derived.Test.YtlondopgibcikaaGreatG18
import Derived.Test.YtlondopgibcikaaGreatG19
import Derived.Test.YtlondopgibcikaaGreatG21
import Derived.Test.YtlondopgibcikaaGreatG23
import Derived.Test.YtlondopgibcikaaGreatG24
import Derived.Test.YtlondopgibcikaaGreatG25
import Derived.Test.YtlondopgibcikaaGreatG26
import Derived.Test.YtlondopgibcikaaGreatG27
import Derived.Test.YtlondopgibcikaaGreatG28
import Derived.Test.YtlondopgibcikaaGreatG29
import Derived.Test.YtlondopgibcikaaGreatG30
import Derived.Test.YtlondopgibcikaaGreatG31
import Derived.Test.YtlondopgibcikaaGreatG32
import Derived.Test.YtlondopgibcikaaGreatG33
import Derived.Test.YtlondopgibcikaaGreatG34
import Derived.Test.YtlondopgibcikaaGreatG35
import Derived.Test.YtlondopgibcikaaGreatG36
import Derived.Test.YtlondopgibcikaaGreatG37
import Derived.Test.YtlondopgibcikaaGreatG38
import Derived.Test.YtlondopgibcikaaGreatG39
import Derived.Test.YtlondopgibcikaaGreatG40
import Derived.Test.YtlondopgibcikaaGreatG41
import Derived.Test.YtlondopgibcikaaGreatG42
import Derived.WalkMore
import Derived.WalkKit
import Derived.WalkSpells
import Derived.WalkLawsBesides
import Derived.Deep.RegionHeld3
import Derived.Deep.QuietTactic
import Derived.BigQuiet
namespace Go.Proofs.YtlondopgibcikaaGreat
open Go.RowKit Ent
theorem image_in {d : Dev} (h : d.ok) {k : Nat} (hk : k < d.img.length) : ∃ s, d.image (k : Int) = (s, 0) ∧ 64 = s.length := by
  refine ⟨d.img.getD k [], ?_, ?_⟩
  · unfold Dev.image secOf has
    rw [if_neg (by simp; omega)]
    rfl
  · rw [List.getD_eq_getElem?_getD, List.getElem?_eq_getElem hk]
    exact (h.s64 _ (List.getElem_mem hk)).symm
theorem room_write {N k : Nat} {d : Dev} {o : Option VS} (h : Room7 N k d o) (i : Int) (b : List UInt8) : Room7 N (k + 1) (d.write i b).2 none :=
  ⟨(write_loose d i b).2.trans h.n, lo_up h.lo (write_loose d i b).1 (by omega), fun s hs => by cases hs⟩
theorem room_flush {N k : Nat} {d : Dev} {o : Option VS} (h : Room7 N k d o) : Room7 N (k + 1) d.flush.2 none :=
  ⟨(flush_loose d).2.trans h.n, lo_up h.lo (c := 0) (flush_loose d).1 (by omega), fun s hs => by cases hs⟩
theorem sb_turn {w : World} {g o j cap : Nat} {l : List UInt8} {x : UInt8} (h : SB w (some ⟨g, o, none⟩) cap l) (hj : j < l.length) :
    SB (w.setCell ⟨g, o + j, none⟩ (.int .u8 (x.toNat : Int))) (some ⟨g, o, none⟩) cap (l.set j x) := by
  rcases h with ⟨h, _, _⟩ | ⟨_, _, rfl⟩ | ⟨b, o', hb, h⟩
  · cases h
  · simp at hj
  · injection hb with hb; injection hb with h1 h2 h3
    subst h1; subst h2
    refine .inr (.inr ⟨_, _, rfl, fun i v hv => ?_⟩)
    rw [bv_get, List.getElem?_set] at hv
    by_cases hi : j = i
    · subst hi
      rw [if_pos rfl, if_pos hj] at hv
      obtain ⟨y, hy⟩ : ∃ y, l[j]? = some y := ⟨_, List.getElem?_eq_getElem hj⟩
      have hc := h j (.int .u8 (y.toNat : Int)) (by rw [bv_get, hy]; rfl)
      rw [← Option.some.inj hv]
      exact World.cell?_setCell_same _ _ _ hc
    · rw [if_neg hi] at hv
      rw [World.cell?_setCell_other _ _ _ _ (by intro e; injection e; omega)]
      exact h i v (by rw [bv_get]; exact hv)
/-- .. with two devices -/
def pairL2 (a c p : Nat) (d f : Dev) (x y : Value) : List Asset := [dev a d, rdev c f, blkA p 37 [ptr a, x, ptr c, y]]
set_option maxRecDepth 100000 in
set_option maxHeartbeats 4000000 in
theorem vaultDamage_walk (x : Int) (hx : -9223372036854775808 ≤ x ∧ x ≤ 9223372036854775807) (ao : Option Addr) (len cap : Nat) (l : List Act7) (hlen : len = l.length) (hm : len ≤ 9223372036854775807) (y : Int) (hy : -9223372036854775808 ≤ y ∧ y ≤ 9223372036854775807) (z : Int) (hz : -9223372036854775808 ≤ z ∧ z ≤ 9223372036854775807) (t : UInt8) (w : World) (hl : AL7 w ao l) :
    Calls Tryz.prog 4 #[.int .i64 x, .slice ao len cap, .int .i64 y, .int .i64 z, .int .u8 (t.toNat : Int)] w fun e w' => e = .returned (.bool true) ∧ Below w.heap.size w w' := by
  obtain ⟨at_, hat, eat⟩ : ∃ p : Nat, p < 64 ∧ z % 64 = (p : Int) := pick_nat z 64 (by omega)
  have EAT := hid eat
  clear eat
  have HL := hid hl; have HLEN := hid hlen
  obtain ⟨p, hp, ep⟩ : ∃ p : Nat, p < 33 ∧ x % 33 = (p : Int) := pick_nat x 33 (by omega)
  have EP := hid ep
  clear hl hlen ep
  go_enter Tryz.func4, Tryz.ntmps4
  go_wp2_with fail
  refine (long7_any ao len cap l HLEN.out hm w HL.out).mono ?_
  rintro e w' ⟨rfl, hw'⟩
  subst w'
  rcases hlong : long7 l with _ | _
  rotate_left
  · clear hlong
    go_wp2_with fail
    refine (awake7_any w).mono ?_
    rintro e w1 ⟨rfl, hb⟩
    have HB := hid hb
    clear hb
    go_wp2
    go_ret
    exact ⟨rfl, HB.out⟩
  have hno := hid (long7_no hlong)
  clear hlong
  have hlen20 : len ≤ 20 := by rw [HLEN.out]; exact hno.out.1
  go_wp2_with fail
  refine (pick_any x 33 (by omega) (by omega) hx.1 hx.2 w).mono ?_
  rintro e w' ⟨rfl, hw'⟩
  subst w'
  rw [EP.out]
  obtain ⟨N, hN⟩ : ∃ N, 8 + p = N := ⟨_, rfl⟩
  have qN : IntKind.i64.wrap (8 + (p : Int)) = (N : Int) := by rw [IntWalk.i64_in _ (by omega)]; omega
  have hN1 : 8 ≤ N := by omega
  have hN40 : N ≤ 40 := by omega
  clear hN
  go_wp2_with fail
  refine ((St.start w).dev_new N (by omega) (by omega)).mono ?_
  rintro e w2 ⟨a, rfl, h2⟩
  have H2 : Hid (St w.heap.size w w2 [dev a (Dev.new N)]) := hid h2
  clear h2
  unfold ptr
  go_wp2_with fail
  refine (H2.out.rdev_new N (by omega) (by omega)).mono ?_
  rintro e w3 ⟨c, rfl, h3⟩
  have H3 : Hid (St w.heap.size w w3 [dev a (Dev.new N), rdev c (Dev.new N)]) := hid h3
  clear h3
  unfold ptr
  obtain ⟨pp, hpp⟩ : ∃ pp, w3.heap.size = pp := ⟨_, rfl⟩
  obtain ⟨wp, hwp⟩ : ∃ wp, w3.alloc (.cells #[ptr a, .pointer none, ptr c, .pointer none] 37) = wp := ⟨_, rfl⟩
  have hs : St w.heap.size w wp (pairL a c pp (Dev.new N) (.pointer none) (.pointer none)) := by rw [← hwp, ← hpp]; exact H3.out.box _ _
  have HWP := hid hwp; have HPP := hid hpp
  have hrm := room_new (N := N)
  have HACT : Hid (Calls Tryz.prog 10 #[ptr pp, .agg #[.int .i64 5, .int .i64 0, .slice none 0 0, .slice none 0 0]] wp fun e w' => e = .returned (.bool true) ∧ Scn w.heap.size w w' a c pp (act7 (Dev.new N) none act5_).1 (act7 (Dev.new N) none act5_).2 ∧ (act5_.kind = 3 → ((Dev.new N).crash act5_.keep act5_.n).2.ok) ∧ (act5_.kind = 5 → (formatD (Dev.new N)).2.ok)) := hid (acted7_any (o := none) hs act5_ (act5_fits w) (by decide) (by decide) (by decide) (by rw [hrm.n]; omega) (Nat.le_trans (hrm.low (by omega)) (by omega)) (fun s hs => by cases hs))
  have HOK0 := hid (hs.ok 0 rfl)
  clear hpp hwp hs hrm
  unfold ptr at HWP HACT
  go_upto_region 9 with fail
  rw [HPP.out, HWP.out]
  go_wp2_with fail
  refine HACT.out.mono ?_
  rintro e w5 ⟨rfl, h5, hk3, hk5⟩
  have hr5 := room_act7 room_new (by omega : N ≤ 60) HOK0.out act5_ (by decide) (by decide) hk3 hk5
  generalize act7 (Dev.new N) none act5_ = x5 at h5 hr5
  obtain ⟨d5, o5⟩ := x5
  have H5 := hid h5; have HR5 := hid hr5
  clear h5 hr5 hk3 hk5
  go_wp2_with fail
  go_loopw [16] (fun i wr => ∃ (k : Nat) (d : Dev) (o : Option VS), k ≤ len ∧ i = .int .i64 k ∧ Scn w.heap.size w wr a c pp d o ∧ Room7 N (2 * k + 2) d o) (fun i _ => len - (intOf i).toNat)
  case atStart => exact ⟨0, d5, o5, Nat.zero_le _, rfl, H5.out, HR5.out⟩
  case round =>
    obtain ⟨k, d, o, hk, rfl, hst, hrm⟩ := hrel
    have HS := hid hst; have HRM := hid hrm
    clear hst hrm
    by_cases hlt : k < len
    · obtain ⟨A, hA⟩ : ∃ A, l[k]? = some A := ⟨_, List.getElem?_eq_getElem (by rw [← HLEN.out]; exact hlt)⟩
      obtain ⟨lb, lo_, rfl, hft, hcells⟩ := HL.out.at hA
      obtain ⟨⟨hA8, hA200⟩, hA60⟩ := hno.out.2 A (List.mem_of_getElem? hA)
      have key : ∀ (j : Nat) (u : Value), A.cells[j]? = some u → wr.cell? ⟨lb, lo_ + k * 4 + j, none⟩ = some u := fun j u hu => (HS.out.grew.cell (World.block_lt_of_cell? _ _ (hcells j u hu))).trans (hcells j u hu)
      have cl0 := key 0 _ rfl
      have cl1 := key 1 _ rfl
      have cl2 := key 2 _ rfl
      have cl3 := key 3 _ rfl
      rw [Nat.add_zero] at cl0
      have HOK := hid HS.out.ok
      have hact := acted7_any HS.out A hft hA8 hA200 hA60 (by rw [HRM.out.n]; omega) (Nat.le_trans (HRM.out.low (by omega)) (by omega)) (HRM.out.fit (by omega) (by omega))
      have HRA : Hid ((A.kind = 3 → (d.crash A.keep A.n).2.ok) → (A.kind = 5 → (formatD d).2.ok) → Room7 N (2 * k + 2 + 2) (act7 d o A).1 (act7 d o A).2) := hid (room_act7 HRM.out (by omega) HOK.out A hA8 hA200)
      have HACT := hid hact
      clear hact hA hft hcells key hA8 hA200 hA60
      unfold Act7.cells ptr at HACT
      obtain ⟨m2, hm2⟩ : ∃ m2, A.L.length = m2 := ⟨_, rfl⟩
      obtain ⟨m3, hm3⟩ : ∃ m3, A.keep.length = m3 := ⟨_, rfl⟩
      rw [hm2] at cl2 HACT
      rw [hm3] at cl3 HACT
      clear hm2 hm3
      by_cases hkd : A.kind < 2
      · go_wp2_with fail
        refine HACT.out.mono ?_
        rintro e w7 ⟨rfl, h7, hk3, hk5⟩
        have hr7 := HRA.out hk3 hk5
        generalize act7 d o A = x7 at h7 hr7
        obtain ⟨d7, o7⟩ := x7
        have H7 := hid h7; have HR7 := hid hr7
        clear h7 hr7 hk3 hk5
        go_wp2
        go_roundw
        case rel => exact ⟨k + 1, d7, o7, by omega, by go_num, H7.out, HR7.out⟩
        case measure => simp [intOf]; omega
      · go_wp2_with fail
        go_roundw
        case rel => exact ⟨k + 1, d, o, by omega, by go_num, HS.out, HRM.out.up.up⟩
        case measure => simp [intOf]; omega
    · obtain ⟨px, py, hsp⟩ := HS.out.pair
      have hok := hsp.ok 0 rfl
      obtain ⟨sp, hsl, esp⟩ := pick_nat y N (by omega)
      have HSP := hid hsp; have ESP := hid esp
      have HIM := hid (image_in hok (k := sp) (by rw [HRM.out.n]; exact hsl))
      clear hsp hok esp
      go_wp2_with fail
      refine (pick_any y N (by omega) (by omega) hy.1 hy.2 wr).mono ?_
      rintro e w' ⟨rfl, hw'⟩
      subst w'
      rw [ESP.out]
      go_wp2_with fail
      refine (pick_any z 64 (by omega) (by omega) hz.1 hz.2 wr).mono ?_
      rintro e w' ⟨rfl, hw'⟩
      subst w'
      rw [EAT.out]
      go_wp2_with fail
      refine (HSP.out.dev_image 0 rfl (sp : Int)).mono ?_
      rintro e wI ⟨v1, rfl, bo, bc, rfl, hbc, hbs, hbw, hbf, hbb⟩
      obtain ⟨sec, eim, h64⟩ := HIM.out
      rw [eim] at hbc hbs hbw ⊢
      dsimp only at hbc hbs hbw ⊢
      rw [← h64] at hbc hbw ⊢
      have H64 := hid h64
      clear eim h64
      obtain ⟨g, o, rfl, hcl⟩ : ∃ g o, bo = some ⟨g, o, none⟩ ∧ ∀ j, j < 64 → (∃ x : UInt8, wI.cell? ⟨g, o + j, none⟩ = some (.int .u8 (x.toNat : Int))) ∧ wI.frozen? ⟨g, o + j, none⟩ = false := by
        rcases hbw with h | h
        · omega
        · exact h
      obtain ⟨⟨xb, cX⟩, fX⟩ := hcl at_ hat
      obtain ⟨hg1, hg2⟩ := hbf _ rfl
      dsimp only at hg1 hg2
      have HBS := hid hbs; have HBB := hid hbb
      have hx8 := xor8 xb t
      clear hbs hbb hbw hbf hcl
      go_upto_region 21 with fail
      generalize hwJ : World.setCell _ _ _ = wJ
      have hJ : St w.heap.size w wJ (pairL a c pp d px py ++ [sbA (some ⟨g, o, none⟩) bc (sec.set at_ (xb ^^^ t))]) := HSP.out.addSB (by rw [← hwJ]; exact HBB.out.setCell (by exact hg1) _) (by rw [← hwJ]; exact sb_turn HBS.out (by rw [← H64.out]; exact hat)) (fun x hx => by injection hx with hx; rw [← hx]; exact ⟨hg1, by rw [← hwJ]; simpa [World.setCell] using hg2⟩)
      have HJ := hid hJ
      obtain ⟨b2, hb2⟩ : ∃ b2, sec.set at_ (xb ^^^ t) = b2 := ⟨_, rfl⟩
      have HB64 : Hid (64 = b2.length) := hid (by rw [← hb2, List.length_set]; exact H64.out)
      rw [hb2] at HJ
      clear hJ hwJ cX fX hx8 hb2 hg2
      have hlo := HRM.out.low (by omega)
      go_wp2_with fail
      refine (HJ.out.dev_write3 0 rfl (sp : Int) 3 (by decide) (some ⟨g, o, none⟩) 64 bc b2 rfl HB64.out (by omega)).mono ?_
      rintro e wK ⟨rfl, hK⟩
      have hK : St w.heap.size w wK (pairL2 a c pp (d.write (sp : Int) b2).2 d px py ++ [sbA (some ⟨g, o, none⟩) bc b2]) := hK
      have HK := hid hK
      clear hK
      go_wp2_with fail
      refine (copy_any (some ⟨g, o, none⟩) 64 bc b2 HB64.out (by omega) wK (HK.out.sb 3 rfl)).mono ?_
      rintro e wL ⟨v2, rfl, ho2, -, hb2⟩
      rw [← HB64.out] at ho2
      obtain ⟨co, cc, rfl, -, hcs, hcf⟩ := own_fresh ho2
      have HCS := hid hcs; have HCF := hid hcf; have HB2 := hid hb2
      clear ho2 hcs hcf hb2
      go_wp2_with fail
      refine (HK.out.rdev_writeF HB2.out 1 rfl (sp : Int) co 64 cc b2 HB64.out HCS.out HCF.out (by omega)).mono ?_
      rintro e wM ⟨rfl, hM⟩
      have hM : St w.heap.size w wM (pairL2 a c pp (d.write (sp : Int) b2).2 (d.write (sp : Int) b2).2 px py ++ [sbA (some ⟨g, o, none⟩) bc b2]) := hM
      have HR1 := hid (room_write HRM.out (sp : Int) b2)
      generalize d.write (sp : Int) b2 = x1 at hM HR1 ⊢
      obtain ⟨e1, d1⟩ := x1
      dsimp only at hM HR1 ⊢
      have HM := hid hM
      have hlo1 := HR1.out.low (by omega)
      clear hM
      go_wp2_with fail
      refine (HM.out.dev_flush 0 rfl).mono ?_
      rintro e wN ⟨rfl, hN⟩
      have hN : St w.heap.size w wN (pairL2 a c pp d1.flush.2 d1 px py ++ [sbA (some ⟨g, o, none⟩) bc b2]) := hN
      have HN := hid hN
      clear hN
      go_wp2_with fail
      refine (HN.out.rdev_flush 1 rfl (by omega)).mono ?_
      rintro e wO ⟨rfl, hO⟩
      have hO : St w.heap.size w wO (pairL a c pp d1.flush.2 px py ++ [sbA (some ⟨g, o, none⟩) bc b2]) := hO
      have HR2 := hid (room_flush HR1.out)
      generalize d1.flush = x2 at hO HR2 ⊢
      obtain ⟨e2, d2⟩ := x2
      dsimp only at hO HR2 ⊢
      have HR3 := hid (room_open HR2.out (by omega) (hO.ok 0 rfl))
      have HO := hid hO
      have hlo2 := HR2.out.low (by omega)
      clear hO
      go_wp2_with fail
      refine (opens_any HO.out (by rw [HR2.out.n]; omega) (by omega)).mono ?_
      rintro e wP ⟨rfl, hP⟩
      have HP := hid hP.drop
      clear hP
      go_wp2_with fail
      refine (stands_any HP.out (by rw [HR3.out.n]; omega) (HR3.out.fit (by omega) (by omega))).mono ?_
      rintro e wQ ⟨rfl, hQ⟩
      have HQ := hid hQ
      clear hQ
      go_wp2_with fail
      refine (awake7_any wQ).mono ?_
      rintro e wR ⟨rfl, hb⟩
      have HB := hid hb
      clear hb
      go_wp2
      go_ret
      exact ⟨rfl, HQ.out.grew.trans (HB.out.mono HQ.out.bl)⟩
end Go.Proofs.YtlondopgibcikaaGreat
