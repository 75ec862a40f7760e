/- The document's Scan. Calls of the second log (entrepotref06) among assets. The vault's small functions: area, may, noughts, number, lay. The vault's superblocks: lay, super. -/
import Derived.Test.YtlondopgibcikaaGreatRows
import Derived.Test.YtlondopgibcikaaGreatG01
import Derived.Test.YtlondopgibcikaaGreatG02
import Derived.Test.YtlondopgibcikaaGreatG03
import Derived.Test.YtlondopgibcikaaGreatG04
import Derived.Test.YtlondopgibcikaaGreatG06
import Derived.Test.YtlondopgibcikaaGreatG07
import Derived.Test.YtlondopgibcikaaGreatG08
import Derived.Test.YtlondopgibcikaaGreatG09
import Derived.Test.YtlondopgibcikaaGreatG10
import Derived.Test.YtlondopgibcikaaGreatG11
import Derived.Test.YtlondopgibcikaaGreatG13
import Derived.Test.YtlondopgibcikaaGreatG14
import Derived.Test.YtlondopgibcikaaGreatG15
import Derived.Test.YtlondopgibcikaaGreatG16
import Derived.Test.YtlondopgibcikaaGreatG17
import Derived.Test.YtlondopgibcikaaGreatG18
import Derived.Test.YtlondopgibcikaaGreatG19
import Derived.Test.YtlondopgibcikaaGreatG20
import Derived.WalkKit
import Derived.WalkMore
import Derived.WalkSpells
import Derived.WalkLawsBesides
import Derived.Deep.RegionHeld3
import Derived.Deep.QuietTactic
import Derived.BigQuiet
import Derived.Laws.BitsAllLaws
namespace Go.Proofs.YtlondopgibcikaaGreat
open Go.RowKit Ent
set_option maxRecDepth 100000 in
set_option maxHeartbeats 4000000 in
theorem rscan_any {a : Nat} {F : Nat → Prop} {d : Dev} (f t g : Int) (w : World) (h : RD w a F d) (hlo : d.loose.length ≤ 1073741824) :
    Calls Tryz.prog 94 #[ptr a, .agg #[.int .i64 f, .int .i64 t, .int .i64 g]] w fun e w' => ∃ v, e = .returned (.tuple #[v, .int .i64 (logScan d f t g).2.1, .int .i64 (logScan d f t g).2.2]) ∧ FreshL w.heap.size w' v (logScan d f t g).1 ∧ Below w.heap.size w w' := by
  have HOK := hid h.1
  obtain ⟨w1, hw1⟩ : ∃ w1, w.alloc (.cells #[.int .i64 f, .int .i64 t, .int .i64 g] 99) = w1 := ⟨_, rfl⟩
  have HW1 := hid hw1
  have HBX : Hid (Blk w1 w.heap.size 99 [.int .i64 f, .int .i64 t, .int .i64 g]) := hid (by rw [← hw1]; exact alloc_new w _)
  have HB1 : Hid (Below w.heap.size w w1) := hid (by rw [← hw1]; exact fresh_alloc w _)
  have H1 := hid (h.below HB1.out)
  clear hw1 h
  unfold ptr
  by_cases hc : checkOf d f t g ≠ 0
  · have HE : Hid (logScan d f t g = ([], 0, checkOf d f t g)) := hid (by unfold logScan; rw [if_pos hc])
    have H3 := hid ((check_code d f t g).resolve_left hc)
    clear hc
    go_enter Tryz.func94, Tryz.ntmps94
    go_wp2_with fail
    rw [HW1.out]
    have x0 := HBX.out.cell (j := 0) rfl
    have x1 := HBX.out.cell (j := 1) rfl
    have x2 := HBX.out.cell (j := 2) rfl
    go_wp2_with fail
    clear x0 x1 x2
    refine (rcheck_any f t g w1 H1.out).mono ?_
    rintro e w2 ⟨rfl, hb2⟩
    have HB2 := hid (th HB1.out hb2)
    have H2 := hid (H1.out.below hb2)
    have HBX2 := hid (HBX.out.below hb2 HBX.out.lt)
    clear hb2
    rw [H3.out]
    go_wp2
    go_ret3
    exact ⟨_, by rw [HE.out]; show _ = Ending.returned (.tuple #[_, .int .i64 0, .int .i64 (checkOf d f t g)]); rw [H3.out]; rfl, by rw [HE.out]; exact FreshL.nil _ _, HB2.out⟩
  obtain ⟨h1, h2, h3, h4, h5⟩ := check_ok hc
  have H0 : Hid (checkOf d f t g = 0) := hid (by simpa using hc)
  have HCN := hid hc
  clear hc
  obtain ⟨n, rfl⟩ : ∃ n : Nat, f = (n : Int) := ⟨f.toNat, by omega⟩
  obtain ⟨m, rfl⟩ : ∃ m : Nat, t = (n : Int) + (m : Int) := ⟨(t - n).toNat, by omega⟩
  obtain ⟨gm, rfl⟩ : ∃ gm : Nat, g = (gm : Int) := ⟨g.toNat, by omega⟩
  have hnm : n + m ≤ d.img.length := by omega
  have hlen := HOK.out.len
  have hsub : ((n : Int) + (m : Int) - (n : Int)) = (m : Int) := by omega
  have HSUB := hid hsub
  clear h1 h2 h3 hsub
  cases hout : d.out
  rotate_left
  · have HE : Hid (logScan d n (n + m) gm = ([], 0, 22)) := hid (by unfold logScan; rw [if_neg HCN.out, hout]; rfl)
    have HO := hid hout
    clear hout
    go_enter Tryz.func94, Tryz.ntmps94
    go_wp2_with fail
    rw [HW1.out]
    have x0 := HBX.out.cell (j := 0) rfl
    have x1 := HBX.out.cell (j := 1) rfl
    have x2 := HBX.out.cell (j := 2) rfl
    go_wp2_with fail
    clear x0 x1 x2
    refine (rcheck_any n (n + m) gm w1 H1.out).mono ?_
    rintro e w2 ⟨rfl, hb2⟩
    have HB2 := hid (th HB1.out hb2)
    have H2 := hid (H1.out.below hb2)
    have HBX2 := hid (HBX.out.below hb2 HBX.out.lt)
    clear hb2
    rw [H0.out]
    go_wp2_with fail
    refine (outR_any w2 H2.out).mono ?_
    rintro e w' ⟨rfl, hw'⟩
    subst w'
    rw [HO.out]
    go_wp2
    go_ret3
    exact ⟨_, by rw [HE.out]; rfl, by rw [HE.out]; exact FreshL.nil _ _, HB2.out⟩
  have HE : Hid (logScan d n (n + m) gm = ((scanLoop d n gm m 0 [] 0 [] false).1, ((scanLoop d n gm m 0 [] 0 [] false).2 : Int), 0)) := hid (by
    unfold logScan
    rw [if_neg HCN.out, hout, HSUB.out]
    simp only [Int.toNat_natCast]; rfl)
  have HO := hid hout
  clear hout
  go_enter Tryz.func94, Tryz.ntmps94
  go_wp2_with fail
  rw [HW1.out]
  have x0 := HBX.out.cell (j := 0) rfl
  have x1 := HBX.out.cell (j := 1) rfl
  have x2 := HBX.out.cell (j := 2) rfl
  go_wp2_with fail
  clear x0 x1 x2
  refine (rcheck_any n (n + m) gm w1 H1.out).mono ?_
  rintro e w2 ⟨rfl, hb2⟩
  have HB2 := hid (th HB1.out hb2)
  have H2 := hid (H1.out.below hb2)
  have HBX2 := hid (HBX.out.below hb2 HBX.out.lt)
  clear hb2
  rw [H0.out]
  go_wp2_with fail
  refine (outR_any w2 H2.out).mono ?_
  rintro e w' ⟨rfl, hw'⟩
  subst w'
  rw [HO.out]
  go_wp2_with fail
  go_loopw [8, 9, 10, 11] (fun v8 nx v10 i wr => ∃ (vo vr : Value) (k : Nat) (out : List (List UInt8)) (next : Nat) (rec : List UInt8) (vs : List Value) (Fb : Nat → Prop), vo = v8 ∧ vr = v10 ∧ k ≤ m ∧ i = .int .i64 k ∧ nx = .int .i64 next ∧ next ≤ k ∧ ScanI w2.heap.size w2 wr vo vr out rec vs Fb ∧ scanLoop d n gm m 0 [] 0 [] false = scanLoop d n gm (m - k) k out next rec (decide (next < k)) ∧ out.length ≤ k ∧ rec.length ≤ 49 * k) (fun _ _ _ i _ => m - (intOf i).toNat)
  case atStart => exact ⟨_, _, 0, [], 0, [], [], _, rfl, rfl, Nat.zero_le _, rfl, rfl, Nat.le_refl _, ScanI.start w2, rfl, Nat.le_refl _, Nat.le_refl _⟩
  case round =>
    obtain ⟨vo, vr, k, out, next, rec, vs, Fb, rfl, rfl, hk, rfl, rfl, hnk, hI, hl, hol, hrl⟩ := hrel
    have HI := hid hI; have HL := hid hl
    have HBr := hid (HBX2.out.below hI.be HBX2.out.lt)
    have HP := hid (H2.out.below hI.be)
    have cb0 := HBr.out.cell (j := 0) rfl
    have cb1 := HBr.out.cell (j := 1) rfl
    have cb2 := HBr.out.cell (j := 2) rfl
    clear hI hl
    by_cases hlt : k < m
    · have HNK : Hid ((n : Int) + (k : Int) = ((n + k : Nat) : Int)) := hid (by omega)
      have hsub1 : decide ((k : Int) < (n : Int) + (m : Int) - (n : Int)) = true := by simp; omega
      have HB64 := hid (read_len HOK.out HO.out (show n + k < d.img.length by omega))
      have HSTEP : Hid (scanLoop d n gm (m - k) k out next rec (decide (next < k)) = match rightOf (d.read ((n + k : Nat) : Int)).1 gm k with
        | none => (out, next)
        | some (kd, p) => if (decide (next < k)) ≠ decide (kd = 3 ∨ kd = 4) then (out, next) else if kd = 2 ∨ kd = 3 then scanLoop d n gm (m - (k + 1)) (k + 1) out next (rec ++ p) true else scanLoop d n gm (m - (k + 1)) (k + 1) (out ++ [rec ++ p]) (k + 1) [] false) := hid (by
          rw [show m - k = (m - (k + 1)) + 1 by omega, scanLoop]; first | done | rfl)
      go_wp2_with fail
      refine (readR_any ((n : Int) + (k : Int)) wr HP.out hlo).mono ?_
      rintro e w4 ⟨v, rfl, hf, hb4⟩
      rw [HNK.out] at hf ⊢
      obtain ⟨b, hbq⟩ : ∃ b, (d.read ((n + k : Nat) : Int)).1 = b := ⟨_, rfl⟩
      rw [hbq] at hf HB64 HSTEP
      obtain ⟨ao, cap, rfl, hcap, hsb, -⟩ := hf
      rw [HB64.out] at hcap ⊢
      obtain ⟨gb, ob, rfl, hrg⟩ : ∃ g o, ao = some ⟨g, o, none⟩ ∧ w4.rangeAt g o (bv b) := by
        rcases hsb with ⟨_, _, h⟩ | ⟨_, _, h⟩ | ⟨g, o, h1, h2⟩
        · have := HB64.out; rw [h] at this; simp at this
        · have := HB64.out; rw [h] at this; simp at this
        · exact ⟨g, o, h1, h2⟩
      have HRG := hid hrg
      have HI4 := hid (HI.out.below hb4)
      have cb24 : w4.cell? ⟨w.heap.size, 2, none⟩ = some (.int .i64 (gm : Int)) := by rw [hb4.cell (World.block_lt_of_cell? wr _ cb2)]; exact cb2
      clear hsb hrg hb4 hbq
      go_wp2_with fail
      refine (rright_any gb ob cap b HB64.out hcap gm k (by omega) (by omega) w4 HRG.out).mono ?_
      rintro e w5 ⟨hR, hb5⟩
      have HI5 := hid (HI4.out.below hb5)
      have HRG5 := hid ((Keep.ofBelow (F := fun _ => False) hb5).range HRG.out id)
      clear hb5
      unfold RightRet at hR
      rcases hro0 : rightOf b gm k with _ | ⟨kd, p⟩
      · have hro := hid hro0
        rw [hro0] at hR
        subst hR
        clear hro0
        have HSL : Hid (scanLoop d n gm m 0 [] 0 [] false = (out, next)) := hid (by rw [HL.out, HSTEP.out, hro.out])
        go_wp2
        go_ret3
        exact ⟨vo, by rw [HE.out, HSL.out]; rfl, by rw [HE.out, HSL.out]; exact (HI5.out.fresh).base HB2.out.size, HB2.out.trans (HI5.out.be.mono HB2.out.size)⟩
      · have hkd := right_kind hro0
        obtain ⟨u, hu⟩ := right_part hro0
        have hro := hid hro0
        rw [hro0] at hR
        subst hR
        have hp49 := hkd.2.2
        have HSBP : Hid (SB w5 (some ⟨gb, ob + 14, none⟩) (cap - 14) p) := hid (.inr (.inr ⟨gb, ob + 14, rfl, fun j v hv => by
          rw [Nat.add_assoc]
          refine HRG5.out (14 + j) v ?_
          rw [bv_get] at hv ⊢
          rw [hu, List.getElem?_take] at hv
          split at hv
          · rwa [List.getElem?_drop] at hv
          · cases hv⟩))
        clear hro0 hu
        obtain rfl | rfl | rfl | rfl : kd = 1 ∨ kd = 2 ∨ kd = 3 ∨ kd = 4 := by omega
        all_goals clear hkd
        all_goals by_cases hbg : next < k
        · have HBG : Hid (decide (next < k) = true) := hid (by simp; omega)
          have hbg2 : decide ((next : Int) < (k : Int)) = true := by simp; omega
          have HSL : Hid (scanLoop d n gm m 0 [] 0 [] false = (out, next)) := hid (by rw [HL.out, HSTEP.out, hro.out]; simp [HBG.out])
          go_wp2
          go_ret3
          exact ⟨vo, by rw [HE.out, HSL.out]; rfl, by rw [HE.out, HSL.out]; exact (HI5.out.fresh).base HB2.out.size, HB2.out.trans (HI5.out.be.mono HB2.out.size)⟩
        · have HBG : Hid (decide (next < k) = false) := hid (by simp; omega)
          have hbg2 : decide ((next : Int) < (k : Int)) = false := by simp; omega
          have HSL : Hid (scanLoop d n gm m 0 [] 0 [] false = scanLoop d n gm (m - (k + 1)) (k + 1) (out ++ [rec ++ p]) (k + 1) [] (decide (k + 1 < k + 1))) := hid (by rw [HL.out, HSTEP.out, hro.out]; simp [HBG.out])
          go_wp2_with (first | (refine wpl_append_at rfl (.tmp 66) (.tmp 67) rfl w2.heap.size vr rec.length rec p rfl HI5.out.rr (some ⟨gb, ob + 14, none⟩) p.length (cap - 14) rfl rfl HSBP.out (by omega) HI5.out.bl ?_; intro v6 w6 ho6 hg6 hw6; obtain ⟨a6, c6, rfl⟩ := own_slice ho6; have HI6 := hid (HI5.out.grew ho6 hg6 hw6); clear ho6 hg6 hw6) | (refine wpl_appendR rowL rfl (.tmp 75) (.tmp 77) rfl w2.heap.size vo out.length vs rfl (HI6.out.below (fresh_alloc w6 _)).oo w6.heap.size rfl [.slice a6 (rec.length + p.length) c6] (alloc_new w6 _) rfl (by intro u hu; simp at hu; subst hu; rfl) (by omega) (HI6.out.below (fresh_alloc w6 _)).bl ?_; intro v7 w7 ho7 hg7 hw7; have HI7 := hid ((HI6.out.below (fresh_alloc w6 (.cells #[.slice a6 (rec.length + p.length) c6] 44))).told ho7 hg7 hw7); clear ho7 hg7 hw7))
          go_roundw
          case rel => exact ⟨_, _, k + 1, out ++ [rec ++ p], k + 1, [], vs ++ [.slice a6 (rec.length + p.length) c6], _, rfl, rfl, by omega, by go_num, by go_num, by omega, HI7.out, HSL.out, by rw [List.length_append]; simp; omega, by simp⟩
          case measure => simp [intOf]; omega
        · have HBG : Hid (decide (next < k) = true) := hid (by simp; omega)
          have hbg2 : decide ((next : Int) < (k : Int)) = true := by simp; omega
          have HSL : Hid (scanLoop d n gm m 0 [] 0 [] false = (out, next)) := hid (by rw [HL.out, HSTEP.out, hro.out]; simp [HBG.out])
          go_wp2
          go_ret3
          exact ⟨vo, by rw [HE.out, HSL.out]; rfl, by rw [HE.out, HSL.out]; exact (HI5.out.fresh).base HB2.out.size, HB2.out.trans (HI5.out.be.mono HB2.out.size)⟩
        · have HBG : Hid (decide (next < k) = false) := hid (by simp; omega)
          have hbg2 : decide ((next : Int) < (k : Int)) = false := by simp; omega
          have HSL : Hid (scanLoop d n gm m 0 [] 0 [] false = scanLoop d n gm (m - (k + 1)) (k + 1) out next (rec ++ p) (decide (next < k + 1))) := hid (by rw [HL.out, HSTEP.out, hro.out]; rw [show decide (next < k + 1) = true from decide_eq_true (by omega)]; simp [HBG.out])
          go_wp2_with (refine wpl_append_at rfl (.tmp 66) (.tmp 67) rfl w2.heap.size vr rec.length rec p rfl HI5.out.rr (some ⟨gb, ob + 14, none⟩) p.length (cap - 14) rfl rfl HSBP.out (by omega) HI5.out.bl ?_; intro v6 w6 ho6 hg6 hw6; obtain ⟨a6, c6, rfl⟩ := own_slice ho6; have HI6 := hid (HI5.out.grew ho6 hg6 hw6); clear ho6 hg6 hw6)
          go_roundw
          case rel => exact ⟨_, _, k + 1, out, next, rec ++ p, vs, Fb, rfl, rfl, by omega, by go_num, rfl, by omega, HI6.out, HSL.out, by omega, by rw [List.length_append]; omega⟩
          case measure => simp [intOf]; omega
        · have HBG : Hid (decide (next < k) = true) := hid (by simp; omega)
          have hbg2 : decide ((next : Int) < (k : Int)) = true := by simp; omega
          have HSL : Hid (scanLoop d n gm m 0 [] 0 [] false = scanLoop d n gm (m - (k + 1)) (k + 1) out next (rec ++ p) (decide (next < k + 1))) := hid (by rw [HL.out, HSTEP.out, hro.out]; rw [show decide (next < k + 1) = true from decide_eq_true (by omega)]; simp [HBG.out])
          go_wp2_with (refine wpl_append_at rfl (.tmp 66) (.tmp 67) rfl w2.heap.size vr rec.length rec p rfl HI5.out.rr (some ⟨gb, ob + 14, none⟩) p.length (cap - 14) rfl rfl HSBP.out (by omega) HI5.out.bl ?_; intro v6 w6 ho6 hg6 hw6; obtain ⟨a6, c6, rfl⟩ := own_slice ho6; have HI6 := hid (HI5.out.grew ho6 hg6 hw6); clear ho6 hg6 hw6)
          go_roundw
          case rel => exact ⟨_, _, k + 1, out, next, rec ++ p, vs, Fb, rfl, rfl, by omega, by go_num, rfl, by omega, HI6.out, HSL.out, by omega, by rw [List.length_append]; omega⟩
          case measure => simp [intOf]; omega
        · have HBG : Hid (decide (next < k) = false) := hid (by simp; omega)
          have hbg2 : decide ((next : Int) < (k : Int)) = false := by simp; omega
          have HSL : Hid (scanLoop d n gm m 0 [] 0 [] false = (out, next)) := hid (by rw [HL.out, HSTEP.out, hro.out]; simp [HBG.out])
          go_wp2
          go_ret3
          exact ⟨vo, by rw [HE.out, HSL.out]; rfl, by rw [HE.out, HSL.out]; exact (HI5.out.fresh).base HB2.out.size, HB2.out.trans (HI5.out.be.mono HB2.out.size)⟩
        · have HBG : Hid (decide (next < k) = true) := hid (by simp; omega)
          have hbg2 : decide ((next : Int) < (k : Int)) = true := by simp; omega
          have HSL : Hid (scanLoop d n gm m 0 [] 0 [] false = scanLoop d n gm (m - (k + 1)) (k + 1) (out ++ [rec ++ p]) (k + 1) [] (decide (k + 1 < k + 1))) := hid (by rw [HL.out, HSTEP.out, hro.out]; simp [HBG.out])
          go_wp2_with (first | (refine wpl_append_at rfl (.tmp 66) (.tmp 67) rfl w2.heap.size vr rec.length rec p rfl HI5.out.rr (some ⟨gb, ob + 14, none⟩) p.length (cap - 14) rfl rfl HSBP.out (by omega) HI5.out.bl ?_; intro v6 w6 ho6 hg6 hw6; obtain ⟨a6, c6, rfl⟩ := own_slice ho6; have HI6 := hid (HI5.out.grew ho6 hg6 hw6); clear ho6 hg6 hw6) | (refine wpl_appendR rowL rfl (.tmp 75) (.tmp 77) rfl w2.heap.size vo out.length vs rfl (HI6.out.below (fresh_alloc w6 _)).oo w6.heap.size rfl [.slice a6 (rec.length + p.length) c6] (alloc_new w6 _) rfl (by intro u hu; simp at hu; subst hu; rfl) (by omega) (HI6.out.below (fresh_alloc w6 _)).bl ?_; intro v7 w7 ho7 hg7 hw7; have HI7 := hid ((HI6.out.below (fresh_alloc w6 (.cells #[.slice a6 (rec.length + p.length) c6] 44))).told ho7 hg7 hw7); clear ho7 hg7 hw7))
          go_roundw
          case rel => exact ⟨_, _, k + 1, out ++ [rec ++ p], k + 1, [], vs ++ [.slice a6 (rec.length + p.length) c6], _, rfl, rfl, by omega, by go_num, by go_num, by omega, HI7.out, HSL.out, by rw [List.length_append]; simp; omega, by simp⟩
          case measure => simp [intOf]; omega
        · have HBG : Hid (decide (next < k) = false) := hid (by simp; omega)
          have hbg2 : decide ((next : Int) < (k : Int)) = false := by simp; omega
          have HSL : Hid (scanLoop d n gm m 0 [] 0 [] false = (out, next)) := hid (by rw [HL.out, HSTEP.out, hro.out]; simp [HBG.out])
          go_wp2
          go_ret3
          exact ⟨vo, by rw [HE.out, HSL.out]; rfl, by rw [HE.out, HSL.out]; exact (HI5.out.fresh).base HB2.out.size, HB2.out.trans (HI5.out.be.mono HB2.out.size)⟩
    · have hk9 : k = m := by omega
      have hsub2 : decide ((k : Int) < (n : Int) + (m : Int) - (n : Int)) = false := by simp; omega
      have HSL : Hid (scanLoop d n gm m 0 [] 0 [] false = (out, next)) := hid (by rw [HL.out, hk9, Nat.sub_self, scanLoop])
      go_wp2
      go_ret3
      exact ⟨vo, by rw [HE.out, HSL.out]; rfl, by rw [HE.out, HSL.out]; exact (HI.out.fresh).base HB2.out.size, HB2.out.trans (HI.out.be.mono HB2.out.size)⟩
end Go.Proofs.YtlondopgibcikaaGreat
namespace Go.Proofs.YtlondopgibcikaaGreat
open Go.RowKit Ent
section
variable {B : Nat} {w0 w w1 : World} {As : List Asset} {a : Nat} {d : Dev}
theorem St.rlog_blank (h : St B w0 w As) (i : Nat) (hi : As[i]? = some (rdev a d)) (f t g : Int) (hlo : d.loose.length ≤ 1073000000) :
    Calls Tryz.prog 89 #[ptr a, .agg #[.int .i64 f, .int .i64 t, .int .i64 g]] w fun e w' => e = .returned (.int .i64 (blankOf d f t g).1) ∧ St B w0 w' (As.set i (rdev a (blankOf d f t g).2)) := by
  obtain ⟨F, hA, hF, ho, hcl⟩ := h.open i hi
  refine (rblank_any f t g w hA (fun k hk => (hF k hk).2) hlo).mono ?_
  rintro e w' ⟨he, hp, hk⟩
  exact ⟨he, hcl w' _ _ hk (good_rdev _ _) hp (fun _ h => h)⟩
theorem St.rlog_write (h : St B w0 w As) (i : Nat) (hi : As[i]? = some (rdev a d)) (f t g at_ : Int) (ao : Option Addr) (rn rc : Nat) (rec : List UInt8) (hrn : rn = rec.length) (hrc : rn ≤ rc) (hrm : rn ≤ 9223372036854775807) (hs : SB w ao rc rec) (hlo : d.loose.length ≤ 1073000000) (ha1 : -9223372036854775808 ≤ at_ ∧ at_ ≤ 9223372036854775807) :
    Calls Tryz.prog 77 #[ptr a, .agg #[.int .i64 f, .int .i64 t, .int .i64 g], .int .i64 at_, .slice ao rn rc] w fun e w' => e = .returned (.tuple #[.int .i64 (logWrite d f t g at_ rec).1.1, .int .i64 (logWrite d f t g at_ rec).1.2]) ∧ St B w0 w' (As.set i (rdev a (logWrite d f t g at_ rec).2)) := by
  obtain ⟨F, hA, hF, ho, hcl⟩ := h.open i hi
  refine (rwrite_any f t g at_ ao rn rc rec hrn hrc hrm w hs hA (fun k hk => (hF k hk).2) hlo ha1).mono ?_
  rintro e w' ⟨he, hp, hk⟩
  exact ⟨he, hcl w' _ _ hk (good_rdev _ _) hp (fun _ h => h)⟩
theorem St.rlog_scan (h : St B w0 w As) (i : Nat) (hi : As[i]? = some (rdev a d)) (f t g : Int) (hlo : d.loose.length ≤ 1073000000) :
    Calls Tryz.prog 94 #[ptr a, .agg #[.int .i64 f, .int .i64 t, .int .i64 g]] w fun e w' => ∃ v, e = .returned (.tuple #[v, .int .i64 (logScan d f t g).2.1, .int .i64 (logScan d f t g).2.2]) ∧ FreshL w.heap.size w' v (logScan d f t g).1 ∧ Below w.heap.size w w' := by
  obtain ⟨F, hA, _⟩ := h.open i hi
  exact rscan_any f t g w hA (by omega)
end
end Go.Proofs.YtlondopgibcikaaGreat
namespace Go.Proofs.YtlondopgibcikaaGreat
open Go.RowKit Ent
/-- half of what is behind the superblocks -/
def halfOf (n : Nat) : Nat := (n - 2) / 2
/-- where a generation's area begins -/
def fromOf (n gen : Nat) : Nat := 2 + gen % 2 * halfOf n
theorem fromOf_le (n gen : Nat) (h : 2 ≤ n) : fromOf n gen + halfOf n ≤ n := by
  unfold fromOf halfOf
  rcases Nat.mod_two_eq_zero_or_one gen with h1 | h1
  · rw [h1]; omega
  · rw [h1]; omega
set_option maxRecDepth 100000 in
set_option maxHeartbeats 400000 in
theorem varea_any {a : Nat} {F : Nat → Prop} {d : Dev} (gen : Nat) (hg : gen ≤ 2147483648) (w : World) (h : PDev w a F d) (hn : 2 ≤ d.img.length) :
    Calls Tryz.prog 63 #[ptr a, .int .i64 gen] w fun e w' => e = .returned (.agg #[.int .i64 (fromOf d.img.length gen : Nat), .int .i64 (fromOf d.img.length gen + halfOf d.img.length : Nat), .int .i64 gen]) ∧ Below w.heap.size w w' := by
  have hok : d.ok := by obtain ⟨_, _, _, _, _, h⟩ := h; exact h.ok
  have hlen := hok.len
  obtain ⟨n, hnn⟩ : ∃ n, d.img.length = n := ⟨_, rfl⟩
  have HN := hid hnn
  rw [hnn] at hn hlen ⊢
  obtain ⟨hf, hhf⟩ : ∃ hf, halfOf n = hf := ⟨_, rfl⟩
  obtain ⟨fr, hfr⟩ : ∃ fr, fromOf n gen = fr := ⟨_, rfl⟩
  obtain ⟨r, hr⟩ : ∃ r, gen % 2 = r := ⟨_, rfl⟩
  have hr2 : r < 2 := by omega
  have HR : Hid ((gen : Int) % 2 = (r : Int)) := hid (by omega)
  have HH : Hid (((n : Int) - 2) / 2 = (hf : Int)) := hid (by rw [← hhf, halfOf]; omega)
  have hhfb : hf ≤ 65536 := by rw [← hhf]; unfold halfOf; omega
  have HF2 : Hid (2 + (r : Int) * (hf : Int) = (fr : Int)) := hid (by
    rw [← hfr, fromOf, hr, hhf]; push_cast; rfl)
  have hfrb : fr ≤ 131072 := by
    rw [← hfr, fromOf, hr, hhf]
    have : r * hf ≤ 1 * 65536 := Nat.mul_le_mul (by omega) hhfb
    omega
  have E1 : Hid (wrap64 (2 + wrap64 ((gen : Int) % 2 * (((n : Int) - 2) / 2))) = (fr : Int)) := hid (by
    have h1 : (r : Int) * (hf : Int) ≤ 65536 := by
      have : r * hf ≤ 1 * 65536 := Nat.mul_le_mul (by omega) hhfb
      omega
    have h0 : (0 : Int) ≤ (r : Int) * (hf : Int) := Int.mul_nonneg (by omega) (by omega)
    rw [HR.out, HH.out, IntWalk.wrap64_in ((r : Int) * (hf : Int)) (by omega), HF2.out, IntWalk.wrap64_in _ (by omega)])
  have E2 : Hid (wrap64 ((fr : Int) + (((n : Int) - 2) / 2)) = ((fr + hf : Nat) : Int)) := hid (by
    rw [HH.out, IntWalk.wrap64_in _ (by omega)]; omega)
  rw [hhf, hfr]
  clear hok hnn hhf hfr hr
  have H := hid h
  clear h
  unfold ptr
  go_enter Tryz.func63, Tryz.ntmps63
  go_wp2_with fail
  refine (lift_size _ (H.out.below (fresh_alloc w _))).mono ?_
  rintro e w' ⟨rfl, hw'⟩
  subst w'
  rw [HN.out]
  go_wp2_with fail
  rw [E1.out, E2.out]
  refine bodyPost_ret (results_cell_row rfl _ _ w.heap.size 99 #[.int .i64 (fr : Nat), .int .i64 (fr + hf : Nat), .int .i64 gen] (0, 0) _ rfl (alloc_new w _) Tryz.underlying99 rfl (by kernel_rfl)) rfl ⟨rfl, fresh_alloc w _⟩
set_option maxRecDepth 100000 in
set_option maxHeartbeats 400000 in
/-- why a device is none of a vault -/
def mayOf (d : Dev) : Int := if d.img.length < 8 then 3 else 0
theorem vmay_any {a : Nat} {F : Nat → Prop} {d : Dev} (w : World) (h : PDev w a F d) :
    Calls Tryz.prog 55 #[ptr a] w fun e w' => e = .returned (.int .i64 (mayOf d)) ∧ w' = w := by
  have hok : d.ok := by obtain ⟨_, _, _, _, _, h⟩ := h; exact h.ok
  have hlen := hok.len
  have hpos := hok.pos
  obtain ⟨n, hnn⟩ : ∃ n, d.img.length = n := ⟨_, rfl⟩
  have HN := hid hnn
  rw [hnn] at hlen hpos
  have H := hid h
  clear h hok hnn
  have hz : ((n : Int) == 0) = false := by rw [beq_eq_false_iff_ne]; omega
  unfold ptr
  by_cases h8 : n < 8
  · have HM : Hid (mayOf d = 3) := hid (by rw [mayOf, HN.out, if_pos h8])
    go_enter Tryz.func55, Tryz.ntmps55
    go_wp2_with fail
    refine (lift_size w H.out).mono ?_
    rintro e w' ⟨rfl, hw'⟩
    subst w'
    rw [HN.out]
    go_wp2
    go_ret
    exact ⟨by rw [HM.out]; rfl, rfl⟩
  · have HM : Hid (mayOf d = 0) := hid (by rw [mayOf, HN.out, if_neg h8])
    go_enter Tryz.func55, Tryz.ntmps55
    go_wp2_with fail
    refine (lift_size w H.out).mono ?_
    rintro e w' ⟨rfl, hw'⟩
    subst w'
    rw [HN.out]
    go_wp2
    go_ret
    exact ⟨by rw [HM.out]; rfl, rfl⟩
set_option maxRecDepth 100000 in
theorem noughts_any (w : World) : Calls Tryz.prog 83 #[] w fun e w' => ∃ g, e = .returned (.slice (some ⟨g, 0, none⟩) 64 64) ∧ Blk w' g 5 (bv (zr 64)) ∧ w.heap.size ≤ g ∧ Below w.heap.size w w' := by
  go_enter Tryz.func83, Tryz.ntmps83
  go_wp2_with (refine wpl_makeZ rfl _ _ rfl 64 rfl rfl (by omega) ?_; intro w1 hb1 hm1)
  go_ret
  exact ⟨_, rfl, hm1, Nat.le_refl _, hb1⟩
theorem i64_or_nat (a b : Nat) (ha : a < 9223372036854775808) (hb : b < 9223372036854775808) : bits .or .i64 (a : Int) (b : Int) = ((a ||| b : Nat) : Int) := by
  have hx : a ||| b < 2 ^ 63 := Nat.or_lt_two_pow (by omega) (by omega)
  have e : ∀ n : Nat, n < 9223372036854775808 → (BitVec.ofInt 64 (n : Int)).toNat = n := fun n hn => by
    simp; omega
  show IntKind.i64.wrap ((BitVec.ofInt 64 (a : Int) ||| BitVec.ofInt 64 (b : Int)).toNat : Int) = _
  rw [BitVec.toNat_or, e a ha, e b hb]
  exact IntWalk.i64_in _ (by omega)
theorem or_byte (a b : Nat) (h : b < 256) : a * 256 ||| b = a * 256 + b := by
  rw [show a * 256 = a <<< 8 by rw [Nat.shiftLeft_eq], ← Nat.shiftLeft_add_eq_or_of_lt (show b < 2 ^ 8 by omega)]
/-- the number of some bytes, the highest first -/
def numOf (l : List UInt8) : Nat := l.foldl (fun n b => n * 256 + b.toNat) 0
theorem numOf_snoc (l : List UInt8) (b : UInt8) : numOf (l ++ [b]) = numOf l * 256 + b.toNat := by simp [numOf]
theorem numOf_lt : ∀ (l : List UInt8), l.length ≤ 4 → numOf l < 4294967296
  | [], _ => by decide
  | [a], _ => by have := a.toNat_lt; simp [numOf]; omega
  | [a, b], _ => by have := a.toNat_lt; have := b.toNat_lt; simp [numOf]; omega
  | [a, b, c], _ => by have := a.toNat_lt; have := b.toNat_lt; have := c.toNat_lt; simp [numOf]; omega
  | [a, b, c, d], _ => by have := a.toNat_lt; have := b.toNat_lt; have := c.toNat_lt; have := d.toNat_lt; simp [numOf]; omega
  | _ :: _ :: _ :: _ :: _ :: _, h => by simp at h
set_option maxRecDepth 100000 in
set_option maxHeartbeats 400000 in
theorem number_any (g o len cap : Nat) (b : List UInt8) (hb : b.length = 4) (hl : 4 ≤ len) (hc : len ≤ cap) (w : World) (hr : w.rangeAt g o (bv b)) :
    Calls Tryz.prog 95 #[.slice (some ⟨g, o, none⟩) len cap] w fun e w' => e = .returned (.int .i64 (numOf b : Nat)) ∧ w' = w := by
  have HB := hid hb; have HR := hid hr
  clear hb hr
  go_enter Tryz.func95, Tryz.ntmps95
  go_wp2_with fail
  go_loopw [2, 8] (fun v i wr => ∃ k : Nat, k ≤ 4 ∧ i = .int .i64 k ∧ v = .int .i64 (numOf (b.take k) : Nat) ∧ wr = w) (fun _ i _ => 4 - (intOf i).toNat)
  case atStart => exact ⟨0, by omega, rfl, rfl, rfl⟩
  case round =>
    obtain ⟨k, hk, rfl, rfl, hw⟩ := hrel
    subst wr
    by_cases hlt : k < 4
    · obtain ⟨x, hx⟩ : ∃ x, b[k]? = some x := ⟨_, List.getElem?_eq_getElem (by rw [HB.out]; exact hlt)⟩
      have cx := rangeAt_byte HR.out hx
      have HT : Hid (numOf (b.take (k + 1)) = numOf (b.take k) * 256 + x.toNat) := hid (by rw [List.take_add_one, hx]; exact numOf_snoc _ _)
      have hnk := numOf_lt (b.take k) (by simp; omega)
      obtain ⟨nk, hnk2⟩ : ∃ nk, numOf (b.take k) = nk := ⟨_, rfl⟩
      rw [hnk2] at hnk HT ⊢
      have hx8 := x.toNat_lt
      have hor : bits BinOp.or IntKind.i64 ((nk : Int) * 256) (x.toNat : Int) = ((nk * 256 + x.toNat : Nat) : Int) := by
        have := i64_or_nat (nk * 256) x.toNat (by omega) (by omega)
        rw [or_byte _ _ (by omega)] at this
        rw [← this]; congr 1
      clear hx hnk2
      go_wp2
      go_roundw
      case rel => exact ⟨k + 1, by omega, by go_num, by rw [HT.out]; exact congrArg (Value.int IntKind.i64) (by omega), by trivial⟩
      case measure => simp [intOf]; omega
    · obtain rfl : k = 4 := by omega
      have HE : Hid (b.take 4 = b) := hid (List.take_of_length_le (by rw [HB.out]; exact Nat.le_refl _))
      go_wp2
      go_ret
      exact ⟨by rw [HE.out]; rfl, rfl⟩
end Go.Proofs.YtlondopgibcikaaGreat
namespace Go.Proofs.YtlondopgibcikaaGreat
open Go.RowKit Ent
set_option maxRecDepth 100000 in
set_option maxHeartbeats 1000000 in
theorem vlay_any (g t len cap n : Nat) (T : TypeId) (l : List UInt8) (h4 : 4 ≤ len) (_hcap : len ≤ cap) (ht : t + 4 ≤ l.length) (hn : n < 4294967296) (w : World) (h : Blk w g T (bv l)) :
    Calls Tryz.prog 116 #[.slice (some ⟨g, t, none⟩) len cap, .int .i64 n] w fun e w' => e = .returned (.tuple #[]) ∧ Blk w' g T (bv (putAt l t (be4 n))) ∧ Keep (fun k => k = g) w w' := by
  have H := hid h
  have HT := hid ht
  clear h ht
  go_enter Tryz.func116, Tryz.ntmps116
  go_wp2_with fail
  go_loopw [5] (fun i wr => ∃ k : Nat, k ≤ 4 ∧ i = .int .i64 k ∧ Blk wr g T (bv (putAt l t ((be4 n).take k))) ∧ Keep (fun k => k = g) w wr) (fun i _ => 4 - (intOf i).toNat)
  case atStart => exact ⟨0, by omega, rfl, by simpa [putAt] using H.out, Keep.refl _ _⟩
  case round =>
    obtain ⟨k, hk4, rfl, hm, hkk⟩ := hrel
    have HM := hid hm; have HK := hid hkk
    clear hm hkk
    have HL : Hid ((putAt l t ((be4 n).take k)).length = l.length) := hid (putAt_len _ _ _ (by have := HT.out; simp; omega))
    by_cases hlt : k < 4
    · rcases (by omega : k = 0 ∨ k = 1 ∨ k = 2 ∨ k = 3) with rfl | rfl | rfl | rfl
      · obtain ⟨v0, c0⟩ := blk_some HM.out (j := t) (by have := HT.out; rw [bv_length, HL.out]; omega)
        have f0 := HM.out.free (t)
        have HM1 := hid (HM.out.setN (t) (bz0 n hn))
        have HM2 : Hid (Blk (wr.setCell ⟨g, t, none⟩ (.int .u8 ((n : Int) / 16777216))) g T (bv (putAt l t ((be4 n).take 1)))) := hid (Eq.mp (congrArg (fun z => Blk (wr.setCell ⟨g, t, none⟩ (.int .u8 ((n : Int) / 16777216))) g T (bv z)) (putAt_step (l := l) (i := t) (p := be4 n) (j := 0) rfl (by have := HT.out; omega))) HM1.out)
        have HK2 := hid (HK.out.setCell (p := ⟨g, t, none⟩) rfl (.int .u8 ((n : Int) / 16777216)))
        clear HM1
        go_wp2
        go_roundw
        case rel => exact ⟨1, by omega, by go_num, HM2.out, HK2.out⟩
        case measure => simp [intOf]
      · obtain ⟨v0, c0⟩ := blk_some HM.out (j := t + 1) (by have := HT.out; rw [bv_length, HL.out]; omega)
        have f0 := HM.out.free (t + 1)
        have HM1 := hid (HM.out.setN (t + 1) (bz1 n))
        have HM2 : Hid (Blk (wr.setCell ⟨g, t + 1, none⟩ (.int .u8 ((n : Int) / 65536 % 256))) g T (bv (putAt l t ((be4 n).take 2)))) := hid (Eq.mp (congrArg (fun z => Blk (wr.setCell ⟨g, t + 1, none⟩ (.int .u8 ((n : Int) / 65536 % 256))) g T (bv z)) (putAt_step (l := l) (i := t) (p := be4 n) (j := 1) rfl (by have := HT.out; omega))) HM1.out)
        have HK2 := hid (HK.out.setCell (p := ⟨g, t + 1, none⟩) rfl (.int .u8 ((n : Int) / 65536 % 256)))
        clear HM1
        go_wp2
        go_roundw
        case rel => exact ⟨2, by omega, by go_num, HM2.out, HK2.out⟩
        case measure => simp [intOf]
      · obtain ⟨v0, c0⟩ := blk_some HM.out (j := t + 2) (by have := HT.out; rw [bv_length, HL.out]; omega)
        have f0 := HM.out.free (t + 2)
        have HM1 := hid (HM.out.setN (t + 2) (bz2 n))
        have HM2 : Hid (Blk (wr.setCell ⟨g, t + 2, none⟩ (.int .u8 ((n : Int) / 256 % 256))) g T (bv (putAt l t ((be4 n).take 3)))) := hid (Eq.mp (congrArg (fun z => Blk (wr.setCell ⟨g, t + 2, none⟩ (.int .u8 ((n : Int) / 256 % 256))) g T (bv z)) (putAt_step (l := l) (i := t) (p := be4 n) (j := 2) rfl (by have := HT.out; omega))) HM1.out)
        have HK2 := hid (HK.out.setCell (p := ⟨g, t + 2, none⟩) rfl (.int .u8 ((n : Int) / 256 % 256)))
        clear HM1
        go_wp2
        go_roundw
        case rel => exact ⟨3, by omega, by go_num, HM2.out, HK2.out⟩
        case measure => simp [intOf]
      · obtain ⟨v0, c0⟩ := blk_some HM.out (j := t + 3) (by have := HT.out; rw [bv_length, HL.out]; omega)
        have f0 := HM.out.free (t + 3)
        have HM1 := hid (HM.out.setN (t + 3) (byte_nat n))
        have HM2 : Hid (Blk (wr.setCell ⟨g, t + 3, none⟩ (.int .u8 ((n : Int) % 256))) g T (bv (putAt l t ((be4 n).take 4)))) := hid (Eq.mp (congrArg (fun z => Blk (wr.setCell ⟨g, t + 3, none⟩ (.int .u8 ((n : Int) % 256))) g T (bv z)) (putAt_step (l := l) (i := t) (p := be4 n) (j := 3) rfl (by have := HT.out; omega))) HM1.out)
        have HK2 := hid (HK.out.setCell (p := ⟨g, t + 3, none⟩) rfl (.int .u8 ((n : Int) % 256)))
        clear HM1
        go_wp2
        go_roundw
        case rel => exact ⟨4, by omega, by go_num, HM2.out, HK2.out⟩
        case measure => simp [intOf]
    · obtain rfl : k = 4 := by omega
      have HE : Hid ((be4 n).take 4 = be4 n) := hid rfl
      go_wp2
      go_end0
      exact ⟨rfl, by rw [HE.out] at HM; exact HM.out, HK.out⟩
/-- a superblock's half behind its sum -/
def supBody (gen n : Nat) : List UInt8 := be4 gen ++ (be4 n ++ (7 :: zr 19))
def supHalf (gen n : Nat) : List UInt8 := be4 (csum (supBody gen n)).toNat ++ supBody gen n
theorem supBody_len (gen n : Nat) : (supBody gen n).length = 28 := rfl
theorem supHalf_len (gen n : Nat) : (supHalf gen n).length = 32 := by rw [supHalf, List.length_append, be4_len, supBody_len]
def sup1 (gen : Nat) : List UInt8 := zr 4 ++ (be4 gen ++ zr 24)
def sup2 (gen n : Nat) : List UInt8 := zr 4 ++ (be4 gen ++ (be4 n ++ zr 20))
def sup3 (gen n : Nat) : List UInt8 := zr 4 ++ supBody gen n
theorem sup1_of (gen : Nat) : putAt (zr 32) 4 (be4 gen) = sup1 gen := rfl
theorem sup2_of (gen n : Nat) : putAt (sup1 gen) 8 (be4 n) = sup2 gen n := rfl
theorem sup3_of (gen n : Nat) : (sup2 gen n).set 12 7 = sup3 gen n := rfl
theorem sup3_drop (gen n : Nat) : (sup3 gen n).drop 4 = supBody gen n := rfl
theorem sup4_of (gen n : Nat) : putAt (sup3 gen n) 0 (be4 (csum (supBody gen n)).toNat) = supHalf gen n := by
  have := putAt_mid [] (zr 4) (supBody gen n) (be4 (csum (supBody gen n)).toNat) 0 rfl rfl
  simpa [sup3, supHalf] using this
theorem half_info : (Tryz.prog.info? 120).map (·.size) = some 32 := by kernel_rfl
set_option maxRecDepth 100000 in
set_option maxHeartbeats 1000000 in
theorem vsuper_any (gen n : Nat) (hg : gen < 4294967296) (hn : n < 4294967296) (w : World) :
    Calls Tryz.prog 96 #[.int .i64 gen, .int .i64 n] w fun e w' => e = .returned (.agg (bv (supHalf gen n)).toArray) ∧ Below w.heap.size w w' := by
  obtain ⟨g, hgg⟩ : ∃ g, g = w.heap.size := ⟨_, rfl⟩
  have HG := hid hgg
  clear hgg
  go_enter Tryz.func96, Tryz.ntmps96
  go_wp2_with fail
  generalize hw1 : w.alloc _ = w1
  have H1 : Hid (Blk w1 w.heap.size 120 (bv (zr 32))) := hid (by rw [← hw1]; exact alloc_new w _)
  have HB1 : Hid (Below w.heap.size w w1) := hid (by rw [← hw1]; exact fresh_alloc w _)
  clear hw1
  rw [← HG.out]
  rw [← HG.out] at H1
  refine (vlay_any g 4 28 28 gen 120 (zr 32) (by omega) (by omega) (by simp) hg w1 H1.out).mono ?_
  rintro e w2 ⟨rfl, h2, hk2⟩
  rw [sup1_of] at h2
  have H2 := hid h2; have HK2 := hid hk2
  clear h2 hk2
  go_wp2_with fail
  refine (vlay_any g 8 24 24 n 120 (sup1 gen) (by omega) (by omega) (by simp [sup1]) hn w2 H2.out).mono ?_
  rintro e w3 ⟨rfl, h3, hk3⟩
  rw [sup2_of] at h3
  have HK3 := hid (HK2.out.trans hk3)
  have HB3 : Hid (Below w.heap.size w w3) := hid (HB1.out.trans (HK3.out.belowB (by rw [← HG.out]; exact Nat.le_of_lt (lt_blk H1.out)) (fun k hk e => by rw [e, HG.out] at hk; omega)))
  have c12 : w3.cell? ⟨g, 12, none⟩ = some (.int .u8 0) := h3.cell (j := 12) rfl
  have f12 := h3.free 12
  have h4 := h3.setB 12 7
  have H5 : Hid (Blk (w3.setCell ⟨g, 12, none⟩ (.int .u8 7)) g 120 (bv (sup3 gen n))) := hid (by rw [sup3_of] at h4; exact h4)
  have HB5 : Hid (Below w.heap.size w (w3.setCell ⟨g, 12, none⟩ (.int .u8 7))) := hid (HB3.out.setCell (p := ⟨g, 12, none⟩) (by rw [HG.out]; exact Nat.le_refl _) _)
  clear h3 hk3 h4
  go_wp2_with fail
  generalize w3.setCell ⟨g, 12, none⟩ (.int .u8 7) = w5 at *
  clear c12 f12
  refine wp_region_held_drew (S := fun _ => True) (by kernel_rfl) trivial (fun hS => ?_)
  refine tkH (i := 0) (v := ?v0x1z) (y := Or.inl ⟨by rfl, ?y0x1z⟩) (s := hS) (h := ?r0x1z)
  case y0x1z => (intro w' hSw; (try dsimp only at hSw); go_simp; (try with_reducible rfl))
  simp only [Act.put, sA, sB, sC]
  refine tkH (i := 1) (v := ?v1x2z) (y := Or.inl ⟨by rfl, ?y1x2z⟩) (s := hS) (h := ?r1x2z)
  case y1x2z => (intro w' hSw; (try dsimp only at hSw); go_simp; (try with_reducible rfl))
  simp only [Act.put, sA, sB, sC]
  refine rdH (i := 2) (h := fun K hK => ?_)
  go_simp
  refine (sum_any (some ⟨g, 4, none⟩) 28 28 (supBody gen n) (supBody_len gen n).symm (by omega) _ (.inr (.inr ⟨g, 4, rfl, H5.out.drew.range fun j v hv => by
    rw [bv_get, show (sup3 gen n)[4 + j]? = (supBody gen n)[j]? by rw [← sup3_drop, List.getElem?_drop], ← bv_get]; exact hv⟩))).mono ?_
  rintro e w8 ⟨rfl, hb8⟩
  obtain ⟨s, hs⟩ : ∃ s, (csum (supBody gen n)).toNat = s := ⟨_, rfl⟩
  have hsb : s < 4294967296 := by rw [← hs]; exact (csum (supBody gen n)).isLt
  have HS := hid hs
  rw [hs]
  clear hs
  have H8 := hid (H5.out.drew.below hb8 H5.out.drew.lt)
  have HB8 := hid (th HB5.out.drew hb8)
  clear hb8
  refine hK.out _ _ ?k2x3z (fun hS => ?s2x3z)
  case k2x3z => exact trivial
  clear hK K
  try simp only [Act.put, sA, sB, sC]
  refine tkH (i := 3) (v := ?v3x4z) (y := Or.inl ⟨by rfl, ?y3x4z⟩) (s := hS) (h := ?r3x4z)
  case y3x4z => (intro w' hSw; (try dsimp only at hSw); go_simp; (try with_reducible rfl))
  simp only [Act.put, sA, sB, sC]
  refine rdH (i := 4) (h := fun K hK => ?_)
  go_simp
  rw [IntWalk.i64_in (s : Int) (by omega)]
  refine (vlay_any g 0 32 32 s 120 (sup3 gen n) (by omega) (by omega) (by simp [sup3, supBody_len]) hsb w8 H8.out).mono ?_
  rintro e w9 ⟨rfl, h9, hk9⟩
  have H9 : Hid (Blk w9 g 120 (bv (supHalf gen n))) := hid (by rw [← HS.out, sup4_of] at h9; exact h9)
  have HB9 := hid (HB8.out.trans (hk9.belowB HB8.out.size (fun k hk e => by rw [e, HG.out] at hk; omega)))
  clear h9 hk9
  refine hK.out _ _ ?k4x5z (fun hS => ?s4x5z)
  case k4x5z => exact trivial
  clear hK K
  try simp only [Act.put, sA, sB, sC]
  refine wpAnyH_done (by kernel_rfl) ?_ _
  clear hS
  go_wp2_with (first | (refine wpList_load_row rfl 120 (.tmp 4) rfl _ rfl _ _ _ _ H9.out Tryz.underlying120 rfl (by rw [List.size_toArray, bv_length, supHalf_len]; exact half_info) ?_) | (refine wpList_store_row rfl 120 (.tmp 4) (.tmp 17) rfl _ _ rfl rfl _ _ H9.out (by rw [List.size_toArray, bv_length, supHalf_len]; exact half_info) ?_ ?_ ?_))
  · rfl
  · exact bv_cells _
  · refine bodyPost_ret (results_cell_row rfl _ _ g 120 (bv (supHalf gen n)).toArray (0, 0) _ rfl (setRow_heap _ _ _ _ _ _ H9.out) Tryz.underlying120 rfl (by rw [List.size_toArray, bv_length, supHalf_len]; exact half_info)) rfl ⟨rfl, ?_⟩
    exact below_setRow' HB9.out (by rw [HG.out]; exact Nat.le_refl _) _
end Go.Proofs.YtlondopgibcikaaGreat
