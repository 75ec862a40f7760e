/- The walk of the log's Scan. (Printed by wip/log4.py.) -/
import Derived.Test.YtlondopgibcikaaRows
import Derived.Test.YtlondopgibcikaaHeap
import Derived.Test.YtlondopgibcikaaKit
import Derived.Test.YtlondopgibcikaaCrcV
import Derived.Test.YtlondopgibcikaaDev
import Derived.Test.YtlondopgibcikaaDevW
import Derived.Test.YtlondopgibcikaaDevV
import Derived.Test.YtlondopgibcikaaDevU
import Derived.Test.YtlondopgibcikaaDevT
import Derived.Test.YtlondopgibcikaaDevC
import Derived.Test.YtlondopgibcikaaLaw05
import Derived.Test.YtlondopgibcikaaLL
import Derived.Test.YtlondopgibcikaaTurn
import Derived.Test.YtlondopgibcikaaLogP
import Derived.Test.YtlondopgibcikaaLogW
import Derived.Test.YtlondopgibcikaaLogX
import Derived.Test.YtlondopgibcikaaLogY
import Derived.Test.YtlondopgibcikaaLogZ
import Derived.Test.YtlondopgibcikaaLogB
import Derived.Test.YtlondopgibcikaaLogT
import Derived.WalkKit
import Derived.WalkMore
import Derived.WalkSpells
import Derived.WalkLawsBesides
import Derived.Deep.RegionHeld3
namespace Go.Proofs.Ytlondopgibcikaa
open Go.RowKit Ent

theorem FreshL.base {B B' : Nat} {w : World} {v : Value} {L : List (List UInt8)} (h : FreshL B w v L) (hb : B' ≤ B) : FreshL B' w v L := by
  obtain ⟨vs, Fb, h1, h2, h3, h4⟩ := h
  exact ⟨vs, Fb, ⟨h1.1, h1.2.imp id fun ⟨g, c, cur, e1, e2, e3⟩ => ⟨g, c, cur, e1, Nat.le_trans hb e2, e3⟩⟩, h2, fun k hk => ⟨Nat.le_trans hb (h3 k hk).1, (h3 k hk).2⟩, h4⟩
theorem FreshL.nil (B : Nat) (w : World) : FreshL B w (.slice none 0 0) [] := ⟨[], fun _ => False, World.ownsRow_nil _ _ _ _, RowSW.nil _ _, fun _ h => h.elim, fun _ h => by simp [Value.ownBlock] at h⟩
set_option maxRecDepth 100000 in
set_option maxHeartbeats 4000000 in
theorem scan_any {a : Nat} {F : Nat → Prop} {d : Dev} (f t g : Int) (w : World) (h : PDev w a F d) :
    Calls Try.prog 65 #[ptr a, .agg #[.int .i64 f, .int .i64 t, .int .i64 g]] w fun e w' => ∃ v, e = .returned (.tuple #[v, .int .i64 (logScan d f t g).2.1, .int .i64 (logScan d f t g).2.2]) ∧ FreshL w.heap.size w' v (logScan d f t g).1 ∧ Below w.heap.size w w' := by
  have hok : d.ok := by obtain ⟨_, _, _, _, _, h⟩ := h; exact h.ok
  have HOK := hid hok
  obtain ⟨w1, hw1⟩ : ∃ w1, w.alloc (.cells #[.int .i64 f, .int .i64 t, .int .i64 g] 76) = w1 := ⟨_, rfl⟩
  have HW1 := hid hw1
  have HBX : Hid (Blk w1 w.heap.size 76 [.int .i64 f, .int .i64 t, .int .i64 g]) := hid (by rw [← hw1]; exact alloc_new w _)
  have HB1 : Hid (Below w.heap.size w w1) := hid (by rw [← hw1]; exact fresh_alloc w _)
  have H1 := hid (h.below HB1.out)
  clear hw1 h hok
  unfold ptr
  by_cases hc : checkOf d f t g ≠ 0
  · have HE : Hid (logScan d f t g = ([], 0, checkOf d f t g)) := hid (by unfold logScan; rw [if_pos hc])
    have H3 := hid ((check_code d f t g).resolve_left hc)
    clear hc
    go_enter Try.func65, Try.ntmps65
    go_wp2_with fail
    rw [HW1.out]
    have x0 := HBX.out.cell (j := 0) rfl
    have x1 := HBX.out.cell (j := 1) rfl
    have x2 := HBX.out.cell (j := 2) rfl
    go_step3
    go_wp2_with fail
    clear x0 x1 x2
    refine (check_any f t g w1 H1.out).mono ?_
    rintro e w2 ⟨rfl, hb2⟩
    have HB2 := hid (th HB1.out hb2)
    have H2 := hid (H1.out.below hb2)
    have HBX2 := hid (HBX.out.below hb2 HBX.out.lt)
    clear hb2
    rw [H3.out]
    go_wp2
    ((try rw [Exit.noGoto_ret]); go_ret3)
    exact ⟨_, by rw [HE.out]; show _ = Ending.returned (.tuple #[_, .int .i64 0, .int .i64 (checkOf d f t g)]); rw [H3.out]; rfl, by rw [HE.out]; exact FreshL.nil _ _, HB2.out⟩
  obtain ⟨h1, h2, h3, h4, h5⟩ := check_ok hc
  have H0 : Hid (checkOf d f t g = 0) := hid (by simpa using hc)
  have HCN := hid hc
  clear hc
  obtain ⟨n, rfl⟩ : ∃ n : Nat, f = (n : Int) := ⟨f.toNat, by omega⟩
  obtain ⟨m, rfl⟩ : ∃ m : Nat, t = (n : Int) + (m : Int) := ⟨(t - n).toNat, by omega⟩
  obtain ⟨gm, rfl⟩ : ∃ gm : Nat, g = (gm : Int) := ⟨g.toNat, by omega⟩
  have hnm : n + m ≤ d.img.length := by omega
  have hlen := HOK.out.len
  have hsub : ((n : Int) + (m : Int) - (n : Int)) = (m : Int) := by omega
  have HSUB := hid hsub
  clear h1 h2 h3 hsub
  cases hout : d.out
  rotate_left
  · have HE : Hid (logScan d n (n + m) gm = ([], 0, 22)) := hid (by unfold logScan; rw [if_neg HCN.out, hout]; rfl)
    have HO := hid hout
    clear hout
    go_enter Try.func65, Try.ntmps65
    go_wp2_with fail
    rw [HW1.out]
    have x0 := HBX.out.cell (j := 0) rfl
    have x1 := HBX.out.cell (j := 1) rfl
    have x2 := HBX.out.cell (j := 2) rfl
    go_step3
    go_wp2_with fail
    clear x0 x1 x2
    refine (check_any n (n + m) gm w1 H1.out).mono ?_
    rintro e w2 ⟨rfl, hb2⟩
    have HB2 := hid (th HB1.out hb2)
    have H2 := hid (H1.out.below hb2)
    have HBX2 := hid (HBX.out.below hb2 HBX.out.lt)
    clear hb2
    rw [H0.out]
    go_wp2_with fail
    refine (lift_out w2 H2.out).mono ?_
    rintro e w' ⟨rfl, rfl⟩
    rw [HO.out]
    go_wp2
    ((try rw [Exit.noGoto_ret]); go_ret3)
    exact ⟨_, by rw [HE.out]; rfl, by rw [HE.out]; exact FreshL.nil _ _, HB2.out⟩
  have HE : Hid (logScan d n (n + m) gm = ((scanLoop d n gm m 0 [] 0 [] false).1, ((scanLoop d n gm m 0 [] 0 [] false).2 : Int), 0)) := hid (by
    unfold logScan
    rw [if_neg HCN.out, hout, HSUB.out]
    simp only [Int.toNat_natCast]; rfl)
  have HO := hid hout
  clear hout
  go_enter Try.func65, Try.ntmps65
  go_wp2_with fail
  rw [HW1.out]
  have x0 := HBX.out.cell (j := 0) rfl
  have x1 := HBX.out.cell (j := 1) rfl
  have x2 := HBX.out.cell (j := 2) rfl
  go_step3
  go_wp2_with fail
  clear x0 x1 x2
  refine (check_any n (n + m) gm w1 H1.out).mono ?_
  rintro e w2 ⟨rfl, hb2⟩
  have HB2 := hid (th HB1.out hb2)
  have H2 := hid (H1.out.below hb2)
  have HBX2 := hid (HBX.out.below hb2 HBX.out.lt)
  clear hb2
  rw [H0.out]
  go_wp2_with fail
  refine (lift_out w2 H2.out).mono ?_
  rintro e w' ⟨rfl, rfl⟩
  rw [HO.out]
  have cb0 := HBX2.out.cell (j := 0) rfl
  have cb1 := HBX2.out.cell (j := 1) rfl
  go_wp2_with fail
  go_step3
  go_wp2_with fail
  clear cb0 cb1
  go_loopw [4, 5, 7, 8, 27] (fun v4 nx v7 bg i wr => ∃ (vo vr : Value) (k : Nat) (out : List (List UInt8)) (next : Nat) (rec : List UInt8) (begun : Bool) (vs : List Value) (Fb : Nat → Prop), vo = v4 ∧ vr = v7 ∧ k ≤ m ∧ i = .int .i64 k ∧ nx = .int .i64 next ∧ bg = .bool begun ∧ ScanI w'.heap.size w' wr vo vr out rec vs Fb ∧ scanLoop d n gm m 0 [] 0 [] false = scanLoop d n gm (m - k) k out next rec begun ∧ out.length ≤ k ∧ rec.length ≤ 49 * k) (fun _ _ _ _ i _ => m - (intOf i).toNat)
  case atStart => exact ⟨_, _, 0, [], 0, [], false, [], _, rfl, rfl, Nat.zero_le _, rfl, rfl, rfl, ScanI.start w', rfl, Nat.le_refl _, Nat.le_refl _⟩
  case round =>
    obtain ⟨vo, vr, k, out, next, rec, begun, vs, Fb, rfl, rfl, hk, rfl, rfl, rfl, hI, hl, hol, hrl⟩ := hrel
    have HI := hid hI; have HL := hid hl
    have HBr := hid (HBX2.out.below hI.be HBX2.out.lt)
    have HP := hid (H2.out.below hI.be)
    have cb0 := HBr.out.cell (j := 0) rfl
    have cb2 := HBr.out.cell (j := 2) rfl
    clear hI hl
    by_cases hlt : k < m
    · have HNK : Hid ((n : Int) + (k : Int) = ((n + k : Nat) : Int)) := hid (by omega)
      have HB64 := hid (read_len HOK.out HO.out (show n + k < d.img.length by omega))
      have HSTEP : Hid (scanLoop d n gm (m - k) k out next rec begun = match rightOf (d.read ((n + k : Nat) : Int)).1 gm k with
        | none => (out, next)
        | some (kd, p) => if begun ≠ decide (kd = 3 ∨ kd = 4) then (out, next) else if kd = 2 ∨ kd = 3 then scanLoop d n gm (m - (k + 1)) (k + 1) out next (rec ++ p) true else scanLoop d n gm (m - (k + 1)) (k + 1) (out ++ [rec ++ p]) (k + 1) [] false) := hid (by
          rw [show m - k = (m - (k + 1)) + 1 by omega, scanLoop]; rfl)
      go_wp2_with fail
      refine (lift_read ((n : Int) + (k : Int)) wr HP.out).mono ?_
      rintro e w4 ⟨v, rfl, hf, hb4⟩
      rw [HNK.out] at hf ⊢
      obtain ⟨b, hbq⟩ : ∃ b, (d.read ((n + k : Nat) : Int)).1 = b := ⟨_, rfl⟩
      rw [hbq] at hf HB64 HSTEP
      obtain ⟨ao, cap, rfl, hcap, hsb, -⟩ := hf
      rw [HB64.out] at hcap ⊢
      obtain ⟨gb, ob, rfl, hrg⟩ : ∃ g o, ao = some ⟨g, o, none⟩ ∧ w4.rangeAt g o (bv b) := by
        rcases hsb with ⟨_, _, h⟩ | ⟨_, _, h⟩ | ⟨g, o, h1, h2⟩
        · have := HB64.out; rw [h] at this; simp at this
        · have := HB64.out; rw [h] at this; simp at this
        · exact ⟨g, o, h1, h2⟩
      have HRG := hid hrg
      have HI4 := hid (HI.out.below hb4)
      have cb24 : w4.cell? ⟨w.heap.size, 2, none⟩ = some (.int .i64 (gm : Int)) := by rw [hb4.cell (World.block_lt_of_cell? wr _ cb2)]; exact cb2
      clear hsb hrg hb4 hbq
      go_wp2_with fail
      refine (right_any gb ob cap b HB64.out hcap gm k (by omega) (by omega) w4 HRG.out).mono ?_
      rintro e w5 ⟨hR, hb5⟩
      have HI5 := hid (HI4.out.below hb5)
      have HRG5 := hid ((Keep.ofBelow (F := fun _ => False) hb5).range HRG.out id)
      clear hb5
      unfold RightRet at hR
      rcases hro0 : rightOf b gm k with _ | ⟨kd, p⟩
      · have hro := hid hro0
        rw [hro0] at hR
        subst hR
        clear hro0
        have HSL : Hid (scanLoop d n gm m 0 [] 0 [] false = (out, next)) := hid (by rw [HL.out, HSTEP.out, hro.out])
        go_wp2
        ((try rw [Exit.noGoto_ret]); go_ret3)
        exact ⟨vo, by rw [HE.out, HSL.out]; rfl, by rw [HE.out, HSL.out]; exact (HI5.out.fresh).base HB2.out.size, HB2.out.trans (HI5.out.be.mono HB2.out.size)⟩
      · have hkd := right_kind hro0
        obtain ⟨u, hu⟩ := right_part hro0
        have hro := hid hro0
        rw [hro0] at hR
        subst hR
        have hp49 := hkd.2.2
        have HSBP : Hid (SB w5 (some ⟨gb, ob + 14, none⟩) (cap - 14) p) := hid (.inr (.inr ⟨gb, ob + 14, rfl, fun j v hv => by
          rw [Nat.add_assoc]
          refine HRG5.out (14 + j) v ?_
          rw [bv_get] at hv ⊢
          rw [hu, List.getElem?_take] at hv
          split at hv
          · rwa [List.getElem?_drop] at hv
          · cases hv⟩))
        clear hro0 hu
        obtain rfl | rfl | rfl | rfl : kd = 1 ∨ kd = 2 ∨ kd = 3 ∨ kd = 4 := by omega
        all_goals clear hkd
        all_goals cases begun
        · have HSL : Hid (scanLoop d n gm m 0 [] 0 [] false = scanLoop d n gm (m - (k + 1)) (k + 1) (out ++ [rec ++ p]) (k + 1) [] false) := hid (by rw [HL.out, HSTEP.out, hro.out]; simp)
          go_wp2_with (first | (refine wpl_append_at rfl (.tmp 58) (.tmp 59) rfl w'.heap.size vr rec.length rec p rfl HI5.out.rr (some ⟨gb, ob + 14, none⟩) p.length (cap - 14) rfl rfl HSBP.out (by omega) HI5.out.bl ?_; intro v6 w6 ho6 hg6 hw6; obtain ⟨a6, c6, rfl⟩ := own_slice ho6; have HI6 := hid (HI5.out.grew ho6 hg6 hw6); clear ho6 hg6 hw6) | (refine wpl_appendR rowL rfl (.tmp 68) (.tmp 70) rfl w'.heap.size vo out.length vs rfl (HI6.out.below (fresh_alloc w6 _)).oo w6.heap.size rfl [.slice a6 (rec.length + p.length) c6] (alloc_new w6 _) rfl (by intro u hu; simp at hu; subst hu; rfl) (by omega) (by have := HI6.out.bl; simp; omega) ?_; intro v7 w7 ho7 hg7 hw7; have HI7 := hid ((HI6.out.below (fresh_alloc w6 _)).told ho7 hg7 hw7); clear ho7 hg7 hw7))
          go_roundw
          case rel => exact ⟨_, _, k + 1, out ++ [rec ++ p], k + 1, [], false, vs ++ [.slice a6 (rec.length + p.length) c6], _, rfl, rfl, by omega, by go_num, rfl, rfl, HI7.out, HSL.out, by rw [List.length_append]; simp; omega, by simp⟩
          case measure => simp [intOf]; omega
        · have HSL : Hid (scanLoop d n gm m 0 [] 0 [] false = (out, next)) := hid (by rw [HL.out, HSTEP.out, hro.out]; simp)
          go_wp2
          ((try rw [Exit.noGoto_ret]); go_ret3)
          exact ⟨vo, by rw [HE.out, HSL.out]; rfl, by rw [HE.out, HSL.out]; exact (HI5.out.fresh).base HB2.out.size, HB2.out.trans (HI5.out.be.mono HB2.out.size)⟩
        · have HSL : Hid (scanLoop d n gm m 0 [] 0 [] false = scanLoop d n gm (m - (k + 1)) (k + 1) out next (rec ++ p) true) := hid (by rw [HL.out, HSTEP.out, hro.out]; simp)
          go_wp2_with (refine wpl_append_at rfl (.tmp 58) (.tmp 59) rfl w'.heap.size vr rec.length rec p rfl HI5.out.rr (some ⟨gb, ob + 14, none⟩) p.length (cap - 14) rfl rfl HSBP.out (by omega) HI5.out.bl ?_; intro v6 w6 ho6 hg6 hw6; obtain ⟨a6, c6, rfl⟩ := own_slice ho6; have HI6 := hid (HI5.out.grew ho6 hg6 hw6); clear ho6 hg6 hw6)
          go_roundw
          case rel => exact ⟨_, _, k + 1, out, next, rec ++ p, true, vs, Fb, rfl, rfl, by omega, by go_num, rfl, rfl, HI6.out, HSL.out, by omega, by rw [List.length_append]; omega⟩
          case measure => simp [intOf]; omega
        · have HSL : Hid (scanLoop d n gm m 0 [] 0 [] false = (out, next)) := hid (by rw [HL.out, HSTEP.out, hro.out]; simp)
          go_wp2
          ((try rw [Exit.noGoto_ret]); go_ret3)
          exact ⟨vo, by rw [HE.out, HSL.out]; rfl, by rw [HE.out, HSL.out]; exact (HI5.out.fresh).base HB2.out.size, HB2.out.trans (HI5.out.be.mono HB2.out.size)⟩
        · have HSL : Hid (scanLoop d n gm m 0 [] 0 [] false = (out, next)) := hid (by rw [HL.out, HSTEP.out, hro.out]; simp)
          go_wp2
          ((try rw [Exit.noGoto_ret]); go_ret3)
          exact ⟨vo, by rw [HE.out, HSL.out]; rfl, by rw [HE.out, HSL.out]; exact (HI5.out.fresh).base HB2.out.size, HB2.out.trans (HI5.out.be.mono HB2.out.size)⟩
        · have HSL : Hid (scanLoop d n gm m 0 [] 0 [] false = scanLoop d n gm (m - (k + 1)) (k + 1) out next (rec ++ p) true) := hid (by rw [HL.out, HSTEP.out, hro.out]; simp)
          go_wp2_with (refine wpl_append_at rfl (.tmp 58) (.tmp 59) rfl w'.heap.size vr rec.length rec p rfl HI5.out.rr (some ⟨gb, ob + 14, none⟩) p.length (cap - 14) rfl rfl HSBP.out (by omega) HI5.out.bl ?_; intro v6 w6 ho6 hg6 hw6; obtain ⟨a6, c6, rfl⟩ := own_slice ho6; have HI6 := hid (HI5.out.grew ho6 hg6 hw6); clear ho6 hg6 hw6)
          go_roundw
          case rel => exact ⟨_, _, k + 1, out, next, rec ++ p, true, vs, Fb, rfl, rfl, by omega, by go_num, rfl, rfl, HI6.out, HSL.out, by omega, by rw [List.length_append]; omega⟩
          case measure => simp [intOf]; omega
        · have HSL : Hid (scanLoop d n gm m 0 [] 0 [] false = (out, next)) := hid (by rw [HL.out, HSTEP.out, hro.out]; simp)
          go_wp2
          ((try rw [Exit.noGoto_ret]); go_ret3)
          exact ⟨vo, by rw [HE.out, HSL.out]; rfl, by rw [HE.out, HSL.out]; exact (HI5.out.fresh).base HB2.out.size, HB2.out.trans (HI5.out.be.mono HB2.out.size)⟩
        · have HSL : Hid (scanLoop d n gm m 0 [] 0 [] false = scanLoop d n gm (m - (k + 1)) (k + 1) (out ++ [rec ++ p]) (k + 1) [] false) := hid (by rw [HL.out, HSTEP.out, hro.out]; simp)
          go_wp2_with (first | (refine wpl_append_at rfl (.tmp 58) (.tmp 59) rfl w'.heap.size vr rec.length rec p rfl HI5.out.rr (some ⟨gb, ob + 14, none⟩) p.length (cap - 14) rfl rfl HSBP.out (by omega) HI5.out.bl ?_; intro v6 w6 ho6 hg6 hw6; obtain ⟨a6, c6, rfl⟩ := own_slice ho6; have HI6 := hid (HI5.out.grew ho6 hg6 hw6); clear ho6 hg6 hw6) | (refine wpl_appendR rowL rfl (.tmp 68) (.tmp 70) rfl w'.heap.size vo out.length vs rfl (HI6.out.below (fresh_alloc w6 _)).oo w6.heap.size rfl [.slice a6 (rec.length + p.length) c6] (alloc_new w6 _) rfl (by intro u hu; simp at hu; subst hu; rfl) (by omega) (by have := HI6.out.bl; simp; omega) ?_; intro v7 w7 ho7 hg7 hw7; have HI7 := hid ((HI6.out.below (fresh_alloc w6 _)).told ho7 hg7 hw7); clear ho7 hg7 hw7))
          go_roundw
          case rel => exact ⟨_, _, k + 1, out ++ [rec ++ p], k + 1, [], false, vs ++ [.slice a6 (rec.length + p.length) c6], _, rfl, rfl, by omega, by go_num, rfl, rfl, HI7.out, HSL.out, by rw [List.length_append]; simp; omega, by simp⟩
          case measure => simp [intOf]; omega
    · have hk9 : k = m := by omega
      have HSL : Hid (scanLoop d n gm m 0 [] 0 [] false = (out, next)) := hid (by rw [HL.out, hk9, Nat.sub_self, scanLoop])
      go_wp2
      ((try rw [Exit.noGoto_ret]); go_ret3)
      exact ⟨vo, by rw [HE.out, HSL.out]; rfl, by rw [HE.out, HSL.out]; exact (HI.out.fresh).base HB2.out.size, HB2.out.trans (HI.out.be.mono HB2.out.size)⟩
end Go.Proofs.Ytlondopgibcikaa
