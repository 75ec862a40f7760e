/- The document's vault (entrepotref07): Append, Replace. -/
import Derived.Test.YtlondopgibcikaaGreatRows
import Derived.Test.YtlondopgibcikaaGreatG01
import Derived.Test.YtlondopgibcikaaGreatG02
import Derived.Test.YtlondopgibcikaaGreatG06
import Derived.Test.YtlondopgibcikaaGreatG07
import Derived.Test.YtlondopgibcikaaGreatG08
import Derived.Test.YtlondopgibcikaaGreatG09
import Derived.Test.YtlondopgibcikaaGreatG10
import Derived.Test.YtlondopgibcikaaGreatG13
import Derived.Test.YtlondopgibcikaaGreatG16
import Derived.Test.YtlondopgibcikaaGreatG17
import Derived.Test.YtlondopgibcikaaGreatG18
import Derived.Test.YtlondopgibcikaaGreatG19
import Derived.Test.YtlondopgibcikaaGreatG21
import Derived.Test.YtlondopgibcikaaGreatG23
import Derived.Test.YtlondopgibcikaaGreatG24
import Derived.Test.YtlondopgibcikaaGreatG25
import Derived.Test.YtlondopgibcikaaGreatG26
import Derived.Test.YtlondopgibcikaaGreatG27
import Derived.Test.YtlondopgibcikaaGreatG28
import Derived.Test.YtlondopgibcikaaGreatG29
import Derived.Test.YtlondopgibcikaaGreatG30
import Derived.Test.YtlondopgibcikaaGreatG31
import Derived.Test.YtlondopgibcikaaGreatG32
import Derived.Test.YtlondopgibcikaaGreatG33
import Derived.Test.YtlondopgibcikaaGreatG34
import Derived.WalkKit
import Derived.WalkSpells
import Derived.WalkLawsBesides
import Derived.Deep.RegionHeld3
import Derived.Deep.QuietTactic
import Derived.BigQuiet
namespace Go.Proofs.YtlondopgibcikaaGreat
open Go.RowKit Ent
set_option maxRecDepth 100000 in
/-- no bytes, but not nil -/
theorem wpo_layNoB {o : Oper} {a : Act} {w : World} {K : Act → World → Prop} {Q : Exit → Act → World → Prop} (ho : o.op = .buildSlice 44 0 #[])
    (h : ∀ w', Below w.heap.size w w' → Blk w' w.heap.size 5 [] → K (a.put o.dst (.slice (some ⟨w.heap.size, 0, none⟩) 0 0)) w') : o.wp Tryz.prog a w K Q := by
  have hr : (Instr.buildSlice 44 0 #[]).run Tryz.prog w = .ok (.slice (some ⟨w.heap.size, 0, none⟩) 0 0) (w.alloc (.cells #[] 5)) := by
    obtain ⟨i, hi, hz, hsz⟩ := info_u8
    have hun := Tryz.underlying44
    simp [Instr.buildSlice, run_underlying hun, sizeOf, typeInfo, hi, newRow, Instr.fill]
    exact congrArg (fun c => w.alloc (.cells c 5)) (Array.eq_empty_of_size_eq_zero (by simp))
  unfold Oper.wp execOp
  simp only [ho, List.map_toArray, List.map_nil, Sem.run_bind, hr, Result.andThen_ok]
  exact h _ (fresh_alloc w _) (alloc_new w _)
theorem appendD_two (d : Dev) (g : Nat) (p : Int) (rec : List UInt8) {fr tw : Nat} (hf : fromOf d.img.length g = fr) (ht : fr + halfOf d.img.length = tw) {nx e1 : Int} {d1 : Dev} (hx : logWrite d (fr : Nat) (tw : Nat) (g : Nat) p rec = ((nx, e1), d1)) : appendD d g p rec = if e1 = 0 then (d1.flush.1, (d1.flush.2, nx)) else (e1, (d1, nx)) := by
  unfold appendD
  rw [hf, ht]
  show (if (logWrite d (fr : Nat) (tw : Nat) (g : Nat) p rec).1.2 = 0 then seqOf (appendFs fr tw g p rec) 1 1 ((logWrite d (fr : Nat) (tw : Nat) (g : Nat) p rec).2, (logWrite d (fr : Nat) (tw : Nat) (g : Nat) p rec).1.1) else ((logWrite d (fr : Nat) (tw : Nat) (g : Nat) p rec).1.2, ((logWrite d (fr : Nat) (tw : Nat) (g : Nat) p rec).2, (logWrite d (fr : Nat) (tw : Nat) (g : Nat) p rec).1.1))) = _
  rw [hx, seqOf_last]
  rfl
set_option maxRecDepth 100000 in
set_option maxHeartbeats 4000000 in
theorem rappend_any {B : Nat} {w0 w : World} {As : List Asset} {a : Nat} {d : Dev} (h : St B w0 w As) (i : Nat) (hi : As[i]? = some (rdev a d)) (j v : Nat) (s : VS) (hj : As[j]? = some (rvA v a s)) (hij : i ≠ j) (lo : Option Addr) (rn rc : Nat) (rec : List UInt8) (hrn : rn = rec.length) (hrc : rn ≤ rc) (hrb : rn ≤ 1073741824) (hL : LentR2 B w0 As i j lo rc rec) (hg : s.gen ≤ 2147483647) (hnx : 0 ≤ s.next ∧ s.next ≤ 131072) (hLL : s.L.length ≤ 1000000) (hn2 : 2 ≤ d.img.length) (hlo : d.loose.length ≤ 100000000) :
    Calls Tryz.prog 26 #[ptr v, .slice lo rn rc] w fun e w' => e = .returned (.int .i64 (appendV d s rec).1) ∧ St B w0 w' ((As.set i (rdev a (appendV d s rec).2.1)).set j (rvA v a (appendV d s rec).2.2)) := by
  have hok := (h.okR i hi).len
  obtain ⟨n, hnn⟩ : ∃ n, d.img.length = n := ⟨_, rfl⟩
  obtain ⟨vl, hvb⟩ := h.rvault j hj
  have hfree := rfree_any h i hi v s.gen s.next vl s.br hvb hn2 hnx
  rw [hnn] at hok hn2 hfree
  obtain ⟨fo, hfo⟩ : ∃ fo, freeOf n s.next = fo := ⟨_, rfl⟩
  rw [hfo] at hfree
  have c0 := hvb.cell (j := 0) rfl
  have c4 := hvb.cell (j := 4) rfl
  have H := hid h; have HI := hid hi; have HJ := hid hj; have HRN := hid hrn; have HN := hid hnn; have HFO := hid hfo
  unfold ptr at c0 hfree ⊢
  have HFREE := hid hfree
  clear h hi hj hrn hnn hvb hfree hfo
  have same : Hid (St B w0 w ((As.set i (rdev a d)).set j (rvA v a s))) := hid (by rw [set_same HI.out, set_same HJ.out]; exact H.out)
  rcases hbr : s.br with _ | _
  · rw [hbr] at c4
    have HBR := hid hbr
    clear hbr
    by_cases hlong : 1048576 < rn
    · have HE : Hid (appendV d s rec = (4, d, s)) := hid (by unfold appendV; rw [HBR.out, if_neg (by simp), if_pos (by rw [← HRN.out]; exact hlong)])
      go_enter Tryz.func26, Tryz.ntmps26
      go_wp2
      go_ret
      rw [HE.out]
      exact ⟨rfl, same.out⟩
    · obtain ⟨nd, hnd⟩ : ∃ nd, needOf rn = nd := ⟨_, rfl⟩
      have hneed := rneed_any rn (by omega) w
      rw [hnd] at hneed
      have HND := hid hnd; have HNEED := hid hneed
      clear hnd hneed
      have hle : ¬ 1048576 < rec.length := by rw [← HRN.out]; exact hlong
      go_enter Tryz.func26, Tryz.ntmps26
      go_wp2_with fail
      refine HNEED.out.mono ?_
      rintro e w' ⟨rfl, hw'⟩
      subst w'
      go_wp2_with fail
      refine HFREE.out.mono ?_
      rintro e w1 ⟨rfl, hb1⟩
      have HB1 := hid hb1
      clear hb1
      by_cases hroom : fo < (nd : Int)
      · have qr : decide (fo < (nd : Int)) = true := decide_eq_true hroom
        have HE : Hid (appendV d s rec = (10, d, s)) := hid (by unfold appendV; rw [HBR.out, if_neg (by simp), if_neg hle, HN.out, HFO.out, ← HRN.out, HND.out, if_pos hroom])
        clear hroom
        go_wp2
        go_ret
        rw [HE.out]
        exact ⟨rfl, same.out.below HB1.out⟩
      have qr : decide (fo < (nd : Int)) = false := decide_eq_false hroom
      have HAP : Hid (appendV d s rec = appendedV d s rec) := hid (by unfold appendV; rw [HBR.out, if_neg (by simp), if_neg hle, HN.out, HFO.out, ← HRN.out, HND.out, if_neg hroom])
      clear hle
      have H1 := hid (H.out.below HB1.out)
      obtain ⟨fr, hfr⟩ : ∃ fr, fromOf n s.gen = fr := ⟨_, rfl⟩
      obtain ⟨tw, htw⟩ : ∃ tw, fr + halfOf n = tw := ⟨_, rfl⟩
      have HFR := hid hfr; have HTW := hid htw
      obtain ⟨vl1, hvb1⟩ := H1.out.rvault j HJ.out
      have hS00 : w1.cell? ⟨v, 0, none⟩ = some (.pointer (some ⟨a, 0, none⟩)) ∧ w1.cell? ⟨v, 1, none⟩ = some (.int .i64 (s.gen : Nat)) ∧ w1.cell? ⟨v, 2, none⟩ = some (.int .i64 s.next) := ⟨hvb1.cell (j := 0) rfl, hvb1.cell (j := 1) rfl, hvb1.cell (j := 2) rfl⟩
      clear hfr htw hvb1 c0 c4 hroom
      go_upto_region 7 with fail
      clear qr
      refine wp_region_held_drew (S := fun w' => w'.cell? ⟨v, 0, none⟩ = some (.pointer (some ⟨a, 0, none⟩)) ∧ w'.cell? ⟨v, 1, none⟩ = some (.int .i64 (s.gen : Nat)) ∧ w'.cell? ⟨v, 2, none⟩ = some (.int .i64 s.next)) (by kernel_rfl) hS00 (fun hS => ?_)
      refine tkH (i := 0) (v := ?v0x1z) (y := Or.inl ⟨by rfl, ?y0x1z⟩) (s := hS) (h := ?r0x1z)
      case y0x1z => (intro w' hSw; (try dsimp only at hSw); go_simp; (try with_reducible rfl))
      simp only [Act.put, sA, sB, sC]
      refine tkH (i := 1) (v := ?v1x2z) (y := Or.inl ⟨by rfl, ?y1x2z⟩) (s := hS) (h := ?r1x2z)
      case y1x2z => (intro w' hSw; (try dsimp only at hSw); go_simp; (try with_reducible rfl))
      simp only [Act.put, sA, sB, sC]
      refine tkH (i := 2) (v := ?v2x3z) (y := Or.inl ⟨by rfl, ?y2x3z⟩) (s := hS) (h := ?r2x3z)
      case y2x3z => (intro w' hSw; (try dsimp only at hSw); go_simp; (try with_reducible rfl))
      simp only [Act.put, sA, sB, sC]
      refine tkH (i := 3) (v := ?v3x4z) (y := Or.inl ⟨by rfl, ?y3x4z⟩) (s := hS) (h := ?r3x4z)
      case y3x4z => (intro w' hSw; (try dsimp only at hSw); go_simp; (try with_reducible rfl))
      simp only [Act.put, sA, sB, sC]
      refine tkH (i := 4) (v := ?v4x5z) (y := Or.inl ⟨by rfl, ?y4x5z⟩) (s := hS) (h := ?r4x5z)
      case y4x5z => (intro w' hSw; (try dsimp only at hSw); go_simp; (try with_reducible rfl))
      simp only [Act.put, sA, sB, sC]
      refine tkH (i := 5) (v := ?v5x6z) (y := Or.inl ⟨by rfl, ?y5x6z⟩) (s := hS) (h := ?r5x6z)
      case y5x6z => (intro w' hSw; (try dsimp only at hSw); go_simp; (try with_reducible rfl))
      simp only [Act.put, sA, sB, sC]
      refine tkH (i := 6) (v := ?v6x7z) (y := Or.inl ⟨by rfl, ?y6x7z⟩) (s := hS) (h := ?r6x7z)
      case y6x7z => (intro w' hSw; (try dsimp only at hSw); go_simp; (try with_reducible rfl))
      simp only [Act.put, sA, sB, sC]
      refine tkH (i := 7) (v := ?v7x8z) (y := Or.inl ⟨by rfl, ?y7x8z⟩) (s := hS) (h := ?r7x8z)
      case y7x8z => (intro w' hSw; (try dsimp only at hSw); go_simp; (try with_reducible rfl))
      simp only [Act.put, sA, sB, sC]
      refine tkH (i := 8) (v := ?v8x9z) (y := Or.inl ⟨by rfl, ?y8x9z⟩) (s := hS) (h := ?r8x9z)
      case y8x9z => (intro w' hSw; (try dsimp only at hSw); go_simp; (try with_reducible rfl))
      simp only [Act.put, sA, sB, sC]
      refine tkH (i := 9) (v := ?v9x10z) (y := Or.inl ⟨by rfl, ?y9x10z⟩) (s := hS) (h := ?r9x10z)
      case y9x10z => (intro w' hSw; (try dsimp only at hSw); go_simp; (try with_reducible rfl))
      simp only [Act.put, sA, sB, sC]
      refine tkH (i := 10) (v := ?v10x11z) (y := Or.inl ⟨by rfl, ?y10x11z⟩) (s := hS) (h := ?r10x11z)
      case y10x11z => (intro w' hSw; (try dsimp only at hSw); go_simp; (try with_reducible rfl))
      simp only [Act.put, sA, sB, sC]
      refine tkH (i := 11) (v := ?v11x12z) (y := Or.inl ⟨by rfl, ?y11x12z⟩) (s := hS) (h := ?r11x12z)
      case y11x12z => (intro w' hSw; (try dsimp only at hSw); go_simp; (try with_reducible rfl))
      simp only [Act.put, sA, sB, sC]
      refine tkH (i := 14) (v := ?v14x13z) (y := Or.inl ⟨by rfl, ?y14x13z⟩) (s := hS) (h := ?r14x13z)
      case y14x13z => (intro w' hSw; (try dsimp only at hSw); go_simp; (try with_reducible rfl))
      simp only [Act.put, sA, sB, sC]
      refine tkH (i := 15) (v := ?v15x14z) (y := Or.inl ⟨by rfl, ?y15x14z⟩) (s := hS) (h := ?r15x14z)
      case y15x14z => (intro w' hSw; (try dsimp only at hSw); go_simp; (try with_reducible rfl))
      simp only [Act.put, sA, sB, sC]
      refine tkH (i := 16) (v := ?v16x15z) (y := Or.inl ⟨by rfl, ?y16x15z⟩) (s := hS) (h := ?r16x15z)
      case y16x15z => (intro w' hSw; (try dsimp only at hSw); go_simp; (try with_reducible rfl))
      simp only [Act.put, sA, sB, sC]
      refine tkH (i := 17) (v := ?v17x16z) (y := Or.inl ⟨by rfl, ?y17x16z⟩) (s := hS) (h := ?r17x16z)
      case y17x16z => (intro w' hSw; (try dsimp only at hSw); go_simp; (try with_reducible rfl))
      simp only [Act.put, sA, sB, sC]
      refine tkH (i := 18) (v := ?v18x17z) (y := Or.inl ⟨by rfl, ?y18x17z⟩) (s := hS) (h := ?r18x17z)
      case y18x17z => (intro w' hSw; (try dsimp only at hSw); go_simp; (try with_reducible rfl))
      simp only [Act.put, sA, sB, sC]
      refine rdH (i := 12) (h := fun K hK => ?_)
      go_simp
      refine ((H1.out.below (Below.refl _ _).drew).rdev_size i HI.out).mono ?_
      rintro e w' ⟨rfl, hw'⟩
      subst w'
      rw [HN.out]
      refine hK.out _ _ ?k12x18z (fun hS => ?s12x18z)
      case k12x18z => exact hS
      clear hK K
      try simp only [Act.put, sA, sB, sC]
      refine rdH (i := 13) (h := fun K hK => ?_)
      go_simp
      refine (rarea_any s.gen n (by omega) (by omega) hok _).mono ?_
      rintro e w7 ⟨rfl, hb7⟩
      rw [HFR.out, HTW.out]
      have hb7 := th (Below.refl w1.heap.size w1).drew hb7
      have HB7 : Hid (Below w1.heap.size w1 w7) := hid hb7
      have hS7 := And.intro ((hb7.cell (World.block_lt_of_cell? _ _ hS00.1)).trans hS00.1) (And.intro ((hb7.cell (World.block_lt_of_cell? _ _ hS00.2.1)).trans hS00.2.1) ((hb7.cell (World.block_lt_of_cell? _ _ hS00.2.2)).trans hS00.2.2))
      clear hb7
      refine hK.out _ _ ?k13x19z (fun hS => ?s13x19z)
      case k13x19z => exact hS7
      clear hK K
      try simp only [Act.put, sA, sB, sC]
      refine rdH (i := 19) (h := fun K hK => ?_)
      go_simp
      have H7 := hid (H1.out.below HB7.out)
      refine (H7.out.rlog_write i HI.out (fr : Nat) (tw : Nat) (s.gen : Nat) s.next lo rn rc rec HRN.out hrc (by omega) (hL.one.sb H7.out) (by omega) (by omega)).mono ?_
      rintro e w8 ⟨rfl, h8⟩
      have H8 := hid h8
      obtain ⟨vl8, hvb8⟩ := h8.rvault j (by rw [List.getElem?_set_ne hij]; exact HJ.out)
      have hb0 := hvb8.cell (j := 0) rfl
      unfold ptr at hb0
      have hS8 := And.intro hb0 (And.intro (hvb8.cell (j := 1) rfl) (hvb8.cell (j := 2) rfl))
      clear h8 hvb8 hb0
      refine hK.out _ _ ?k19x20z (fun hS => ?s19x20z)
      case k19x20z => exact hS8
      clear hK K
      try simp only [Act.put, sA, sB, sC]
      refine tkH (i := 20) (v := ?v20x21z) (y := Or.inl ⟨by rfl, ?y20x21z⟩) (s := hS) (h := ?r20x21z)
      case y20x21z => (intro w' hSw; (try dsimp only at hSw); go_simp; (try with_reducible rfl))
      simp only [Act.put, sA, sB, sC]
      refine tkH (i := 21) (v := ?v21x22z) (y := Or.inl ⟨by rfl, ?y21x22z⟩) (s := hS) (h := ?r21x22z)
      case y21x22z => (intro w' hSw; (try dsimp only at hSw); go_simp; (try with_reducible rfl))
      simp only [Act.put, sA, sB, sC]
      refine tkH (i := 22) (v := ?v22x23z) (y := Or.inl ⟨by rfl, ?y22x23z⟩) (s := hS) (h := ?r22x23z)
      case y22x23z => (intro w' hSw; (try dsimp only at hSw); go_simp; (try with_reducible rfl))
      simp only [Act.put, sA, sB, sC]
      refine tkH (i := 23) (v := ?v23x24z) (y := Or.inl ⟨by rfl, ?y23x24z⟩) (s := hS) (h := ?r23x24z)
      case y23x24z => (intro w' hSw; (try dsimp only at hSw); go_simp; (try with_reducible rfl))
      simp only [Act.put, sA, sB, sC]
      refine tkH (i := 24) (v := ?v24x25z) (y := Or.inl ⟨by rfl, ?y24x25z⟩) (s := hS) (h := ?r24x25z)
      case y24x25z => (intro w' hSw; (try dsimp only at hSw); go_simp; (try with_reducible rfl))
      simp only [Act.put, sA, sB, sC]
      refine wpAnyH_done (by kernel_rfl) ?_ _
      clear hS hS7 hS8
      generalize hx : logWrite d (fr : Nat) (tw : Nat) (s.gen : Nat) s.next rec = x at H8
      obtain ⟨⟨nx, e1⟩, d1⟩ := x
      have hlx := lwrite_loose d (fr : Nat) (tw : Nat) (s.gen : Nat) s.next rec
      rw [hx, HN.out] at hlx
      dsimp only at H8 hlx ⊢
      have hl1 := hlx.1
      have HA := hid (appendD_two d s.gen s.next rec (by rw [HN.out]; exact HFR.out) (by rw [HN.out]; exact HTW.out) hx)
      have HI1 := hid hlx.2
      clear hx hlx
      obtain ⟨vl8, hvb8⟩ := H8.out.rvault j (by rw [List.getElem?_set_ne hij]; exact HJ.out)
      by_cases he1 : e1 = 0
      · subst he1
        have hfl := H8.out.rdev_flush i (List.getElem?_set_self (List.getElem?_eq_some_iff.1 HI.out).1) (by omega)
        rw [List.set_set] at hfl
        have ha2 := HA.out
        rw [if_pos rfl] at ha2
        unfold ptr at hfl
        generalize d1.flush = x at hfl ha2
        obtain ⟨e2, d2⟩ := x
        dsimp only at hfl ha2
        have HFL := hid hfl; have HA2 := hid ha2
        have c0 := hvb8.cell (j := 0) rfl
        unfold ptr at c0
        clear hfl ha2 hvb8
        go_wp2_with fail
        refine HFL.out.mono ?_
        rintro e w9 ⟨rfl, h9⟩
        have H9 := hid h9
        obtain ⟨vl9, hvb9⟩ := h9.rvault j (by rw [List.getElem?_set_ne hij]; exact HJ.out)
        clear h9 c0
        by_cases he2 : e2 = 0
        · subst he2
          have HRV : Hid (appendV d s rec = (0, d2, { s with next := nx, L := s.L ++ [rec] })) := hid (by rw [HAP.out]; unfold appendedV; rw [HA2.out, if_pos rfl])
          have c2 := hvb9.cell (j := 2) rfl
          have f2 := hvb9.free 2
          clear hvb9
          go_upto_region 14 with fail
          generalize hw10 : World.setCell _ _ _ = w10
          have hj9 : (As.set i (rdev a d2))[j]? = some (rvA v a s) := by rw [List.getElem?_set_ne hij]; exact HJ.out
          have h10 := H9.out.rvSet (w' := w10) j hj9 (s' := { s with next := nx }) (by rw [← hw10]; exact (Keep.refl (fun k => k = v) w9).setCell (p := ⟨v, 2, none⟩) rfl _) rfl (fun vl hb => by rw [← hw10]; exact hb.set 2 (.int .i64 nx))
          have HJ10 : Hid (((As.set i (rdev a d2)).set j (rvA v a { s with next := nx }))[j]? = some (rvA v a { s with next := nx })) := hid (List.getElem?_set_self (by rw [List.length_set]; exact (List.getElem?_eq_some_iff.1 HJ.out).1))
          have H10 := hid h10
          have HSB : Hid (∀ w', Below w10.heap.size w10 w' → SB w' lo rc rec) := hid (fun w' hb => (hL.set2 _ _).sb (H10.out.below hb))
          obtain ⟨F, ⟨vl, G, hvb, hvF, ⟨vs, Fb, ho, hr, hf, hvv⟩, hng, hG⟩, hF, hoth, hcl⟩ := h10.open j HJ10.out
          obtain ⟨m, hm⟩ : ∃ m, s.L.length = m := ⟨_, rfl⟩
          obtain ⟨m1, hm1⟩ : ∃ m1, m + 1 = m1 := ⟨_, rfl⟩
          have HM := hid hm; have HM1 := hid hm1
          dsimp only at ho hr hvb
          rw [hm] at hLL ho
          obtain ⟨la, lc, rfl⟩ := own_slice ho
          have c3 := hvb.cell (j := 3) rfl
          have C3 := hid c3
          have HOO := hid ho; have HRS := hid hr; have HFB := hid hf; have HVV := hid hvv; have HNG := hid hng; have HGF := hid hG; have HCL := hid hcl; have HVB := hid hvb; have HVF := hid hvF
          have hvw : v < w10.heap.size := hvb.lt
          have HGW : Hid (∀ k, G k → k < w10.heap.size) := hid (fun k hk => (hF k (hG k hk)).2)
          clear hm hm1 ho hr hf hvv hng hG hcl hvb hvF hoth hF h10 hw10 c2 f2 hj9
          refine wp_region_held_drew (S := fun _ => True) (by kernel_rfl) trivial (fun hS => ?_)
          refine tkH (i := 0) (v := ?v0x1y) (y := Or.inl ⟨by rfl, ?y0x1y⟩) (s := hS) (h := ?r0x1y)
          case y0x1y => (intro w' hSw; (try dsimp only at hSw); go_simp; (try with_reducible rfl))
          simp only [Act.put, sA, sB, sC]
          refine tkH (i := 1) (v := ?v1x2y) (y := Or.inl ⟨by rfl, ?y1x2y⟩) (s := hS) (h := ?r1x2y)
          case y1x2y => (intro w' hSw; (try dsimp only at hSw); go_simp; (try with_reducible rfl))
          simp only [Act.put, sA, sB, sC]
          refine tkH (i := 2) (v := ?v2x3y) (y := Or.inl ⟨by rfl, ?y2x3y⟩) (s := hS) (h := ?r2x3y)
          case y2x3y => (intro w' hSw; (try dsimp only at hSw); go_simp; (try with_reducible rfl))
          simp only [Act.put, sA, sB, sC]
          refine tkH (i := 3) (v := ?v3x4y) (y := Or.inl ⟨by rfl, ?y3x4y⟩) (s := hS) (h := ?r3x4y)
          case y3x4y => (intro w' hSw; (try dsimp only at hSw); go_simp; (try with_reducible rfl))
          simp only [Act.put, sA, sB, sC]
          refine tkH (i := 6) (v := ?v6x5y) (y := Or.inl ⟨by rfl, ?y6x5y⟩) (s := hS) (h := ?r6x5y)
          case y6x5y => (intro w' hSw; (try dsimp only at hSw); go_simp; (try with_reducible rfl))
          simp only [Act.put, sA, sB, sC]
          refine wpAnyH_ready (rs := [4, 5]) (by kernel_rfl) (by simp) ?_
          refine AllReadyH.cons (by simp only [List.getElem?_toArray, List.getElem?_cons_zero, List.getElem?_cons_succ]; exact rfl) (fun K hK => ?_) (AllReadyH.cons (by simp only [List.getElem?_toArray, List.getElem?_cons_zero, List.getElem?_cons_succ]; exact rfl) (fun K hK => ?_) AllReadyH.nil)
          · go_simp
            refine hK.out _ _ ?k4x6y (fun hS => ?s4x6y)
            case k4x6y => exact trivial
            clear hK K
            try simp only [Act.put, sA, sB, sC]
            refine rdH (i := 5) (h := fun K hK => ?_)
            refine wpo_layNoB rfl ?_
            intro w11 hb11 h11
            have hb11 := (Below.refl w10.heap.size w10).drew.trans hb11
            obtain ⟨g0, hg0⟩ : ∃ g0, w10.heap.size = g0 := ⟨_, rfl⟩
            rw [show w10.drew.heap.size = g0 from hg0]
            have h11 : Blk w11 g0 5 (bv []) := by rw [← hg0]; exact h11
            have HO11 : Hid (w11.ownsRow w10.heap.size 5 1 (.slice (some ⟨g0, 0, none⟩) 0 0) 0 (bv [])) := hid (blk_owns h11 rfl (by omega) (by simp [maxLen]))
            have HB11 := hid hb11
            have c3 := (hb11.cell (World.block_lt_of_cell? _ _ C3.out)).trans C3.out
            clear hb11 h11 hg0
            refine hK.out _ _ ?k5x7y (fun hS => ?s5x7y)
            case k5x7y => exact trivial
            clear hK K
            try simp only [Act.put, sA, sB, sC]
            refine rdH (i := 7) (h := fun K hK => ?_)
            refine wpo_append (.tmp 68) (.tmp 69) rfl w10.heap.size (.slice (some ⟨g0, 0, none⟩) 0 0) 0 [] rec rfl HO11.out lo rn rc rfl HRN.out (HSB.out w11 HB11.out) (by omega) HB11.out.size ?_
            intro v12 w12 ho12 hg12 hv12
            clear hv12
            have hb12 := HB11.out.grown hg12 HB11.out.size (owns_ge HO11.out)
            rw [Nat.zero_add, List.nil_append] at ho12
            obtain ⟨ra, rcc, rfl⟩ := own_slice ho12
            have HO12 := hid ho12; have HB12 := hid hb12
            have c3 := (hb12.cell (World.block_lt_of_cell? _ _ C3.out)).trans C3.out
            clear hb12 ho12 hg12
            refine hK.out _ _ ?k7x8y (fun hS => ?s7x8y)
            case k7x8y => exact trivial
            clear hK K
            try simp only [Act.put, sA, sB, sC]
            refine rdH (i := 8) (h := fun K hK => ?_)
            refine wpo_layV rowL 1 _ rfl [.slice ra rn rcc] rfl (by omega) (by omega) (by simp [Value.cells]) (by simp [Act.eval]) ?_
            intro w13 hb13 h13
            have HB13 := hid hb13; have H13 := hid h13
            have HO13 := hid (owns_below (owns_below HOO.out HB12.out) hb13)
            have c3 := (hb13.cell (World.block_lt_of_cell? _ _ c3)).trans c3
            clear hb13 h13
            refine hK.out _ _ ?k8x9y (fun hS => ?s8x9y)
            case k8x9y => exact trivial
            clear hK K
            try simp only [Act.put, sA, sB, sC]
            refine rdH (i := 9) (h := fun K hK => ?_)
            refine wpo_appendR rowL (.tmp 67) (.tmp 71) rfl 0 (.slice la m lc) m vs rfl HO13.out w12.heap.size rfl [.slice ra rn rcc] H13.out rfl (by intro u hu; simp at hu; subst hu; rfl) (by omega) (Nat.zero_le _) ?_
            intro v14 w14 ho14 hg14 hw14
            have hlt := list_told (w := w10) HRS.out HFB.out HVV.out HGW.out HB12.out (by rw [← HRN.out]; exact HO12.out) HB13.out (by rw [HM.out]; exact ho14) hg14 hw14
            rw [HM1.out] at ho14
            obtain ⟨va, vc, rfl⟩ := own_slice ho14
            have HT14 := hid hlt
            have HV14 := hid (HVB.out.keep hlt.2 HNG.out)
            have s3 := HV14.out.cell (j := 3) rfl
            have f3 := HV14.out.free 3
            clear hlt ho14 hg14 hw14
            refine hK.out _ _ ?k9x10y (fun hS => ?s9x10y)
            case k9x10y => exact trivial
            clear hK K
            try simp only [Act.put, sA, sB, sC]
            refine tkH (i := 10) (v := ?v10x11y) (y := Or.inl ⟨by rfl, ?y10x11y⟩) (s := hS) (h := ?r10x11y)
            case y10x11y => (intro w' hSw; (try dsimp only at hSw); go_simp; (try with_reducible rfl))
            simp only [Act.put, sA, sB, sC]
            refine tkH (i := 11) (v := ?v11x12y) (y := Or.inl ⟨by rfl, ?y11x12y⟩) (s := hS) (h := ?r11x12y)
            case y11x12y => (intro w' hSw; (try dsimp only at hSw); go_simp; (try with_reducible rfl))
            simp only [Act.put, sA, sB, sC]
            refine rdH (i := 12) (h := fun K hK => ?_)
            go_simp
            generalize hw15 : World.setCell _ _ _ = w15
            have HV15 : Hid (Blk w15 v 77 (vCells a s.gen nx (.slice va m1 vc) s.br)) := hid (by rw [← hw15]; exact HV14.out.set 3 _)
            have HK15 : Hid (Keep (fun k => k = v) w14 w15) := hid (by rw [← hw15]; exact (Keep.refl (fun k => k = v) w14).setCell (p := ⟨v, 3, none⟩) rfl _)
            clear hw15 s3 f3
            refine hK.out _ _ ?k12x13y (fun hS => ?s12x13y)
            case k12x13y => exact trivial
            clear hK K
            try simp only [Act.put]
            refine wpAnyH_done (by kernel_rfl) ?_ _
            go_wp2
            go_ret
            rw [HRV.out]
            refine ⟨rfl, ?_⟩
            have hz1 := HT14.out.2.size
            have hz2 := HK15.out.size
            have h16 := HCL.out w15 (rvA v a { s with next := nx, L := s.L ++ [rec] }) (fun k => k = v ∨ G k ∨ (w10.heap.size ≤ k ∧ k < w14.heap.size)) ((HT14.out.2.mono fun k _ h => HGF.out k h).trans (HK15.out.mono fun k _ e => by rw [e]; exact HVF.out)) (good_rvA _ _ _) ⟨_, fun k => G k ∨ (w10.heap.size ≤ k ∧ k < w14.heap.size), HV15.out, .inl rfl, (good_listA _ _).keep HT14.out.1 HK15.out (fun k h1 h2 => by
              rw [h2] at h1
              rcases h1 with h1 | h1
              · exact HNG.out h1
              · omega), fun h1 => by
              rcases h1 with h1 | h1
              · exact HNG.out h1
              · omega, fun k h1 => .inr h1⟩ (fun k hk => by
              rcases hk with rfl | hk | hk
              · exact .inl HVF.out
              · exact .inl (HGF.out _ hk)
              · exact .inr ⟨hk.1, by omega⟩)
            rw [List.set_set] at h16
            exact h16
          · refine wpo_layNoB rfl ?_
            intro w11 hb11 h11
            have hb11 := (Below.refl w10.heap.size w10).drew.trans hb11
            obtain ⟨g0, hg0⟩ : ∃ g0, w10.heap.size = g0 := ⟨_, rfl⟩
            rw [show w10.drew.heap.size = g0 from hg0]
            have h11 : Blk w11 g0 5 (bv []) := by rw [← hg0]; exact h11
            have HO11 : Hid (w11.ownsRow w10.heap.size 5 1 (.slice (some ⟨g0, 0, none⟩) 0 0) 0 (bv [])) := hid (blk_owns h11 rfl (by omega) (by simp [maxLen]))
            have HB11 := hid hb11
            have c3 := (hb11.cell (World.block_lt_of_cell? _ _ C3.out)).trans C3.out
            clear hb11 h11 hg0
            refine hK.out _ _ ?k5x14y (fun hS => ?s5x14y)
            case k5x14y => exact trivial
            clear hK K
            try simp only [Act.put, sA, sB, sC]
            refine wpAnyH_ready (rs := [4, 7]) (by kernel_rfl) (by simp) ?_
            refine AllReadyH.cons (by simp only [List.getElem?_toArray, List.getElem?_cons_zero, List.getElem?_cons_succ]; exact rfl) (fun K hK => ?_) (AllReadyH.cons (by simp only [List.getElem?_toArray, List.getElem?_cons_zero, List.getElem?_cons_succ]; exact rfl) (fun K hK => ?_) AllReadyH.nil)
            · go_simp
              refine hK.out _ _ ?k4x15y (fun hS => ?s4x15y)
              case k4x15y => exact trivial
              clear hK K
              try simp only [Act.put, sA, sB, sC]
              refine rdH (i := 7) (h := fun K hK => ?_)
              refine wpo_append (.tmp 68) (.tmp 69) rfl w10.heap.size (.slice (some ⟨g0, 0, none⟩) 0 0) 0 [] rec rfl HO11.out lo rn rc rfl HRN.out (HSB.out w11 HB11.out) (by omega) HB11.out.size ?_
              intro v12 w12 ho12 hg12 hv12
              clear hv12
              have hb12 := HB11.out.grown hg12 HB11.out.size (owns_ge HO11.out)
              rw [Nat.zero_add, List.nil_append] at ho12
              obtain ⟨ra, rcc, rfl⟩ := own_slice ho12
              have HO12 := hid ho12; have HB12 := hid hb12
              have c3 := (hb12.cell (World.block_lt_of_cell? _ _ C3.out)).trans C3.out
              clear hb12 ho12 hg12
              refine hK.out _ _ ?k7x16y (fun hS => ?s7x16y)
              case k7x16y => exact trivial
              clear hK K
              try simp only [Act.put, sA, sB, sC]
              refine rdH (i := 8) (h := fun K hK => ?_)
              refine wpo_layV rowL 1 _ rfl [.slice ra rn rcc] rfl (by omega) (by omega) (by simp [Value.cells]) (by simp [Act.eval]) ?_
              intro w13 hb13 h13
              have HB13 := hid hb13; have H13 := hid h13
              have HO13 := hid (owns_below (owns_below HOO.out HB12.out) hb13)
              have c3 := (hb13.cell (World.block_lt_of_cell? _ _ c3)).trans c3
              clear hb13 h13
              refine hK.out _ _ ?k8x17y (fun hS => ?s8x17y)
              case k8x17y => exact trivial
              clear hK K
              try simp only [Act.put, sA, sB, sC]
              refine rdH (i := 9) (h := fun K hK => ?_)
              refine wpo_appendR rowL (.tmp 67) (.tmp 71) rfl 0 (.slice la m lc) m vs rfl HO13.out w12.heap.size rfl [.slice ra rn rcc] H13.out rfl (by intro u hu; simp at hu; subst hu; rfl) (by omega) (Nat.zero_le _) ?_
              intro v14 w14 ho14 hg14 hw14
              have hlt := list_told (w := w10) HRS.out HFB.out HVV.out HGW.out HB12.out (by rw [← HRN.out]; exact HO12.out) HB13.out (by rw [HM.out]; exact ho14) hg14 hw14
              rw [HM1.out] at ho14
              obtain ⟨va, vc, rfl⟩ := own_slice ho14
              have HT14 := hid hlt
              have HV14 := hid (HVB.out.keep hlt.2 HNG.out)
              have s3 := HV14.out.cell (j := 3) rfl
              have f3 := HV14.out.free 3
              clear hlt ho14 hg14 hw14
              refine hK.out _ _ ?k9x18y (fun hS => ?s9x18y)
              case k9x18y => exact trivial
              clear hK K
              try simp only [Act.put, sA, sB, sC]
              refine tkH (i := 10) (v := ?v10x19y) (y := Or.inl ⟨by rfl, ?y10x19y⟩) (s := hS) (h := ?r10x19y)
              case y10x19y => (intro w' hSw; (try dsimp only at hSw); go_simp; (try with_reducible rfl))
              simp only [Act.put, sA, sB, sC]
              refine tkH (i := 11) (v := ?v11x20y) (y := Or.inl ⟨by rfl, ?y11x20y⟩) (s := hS) (h := ?r11x20y)
              case y11x20y => (intro w' hSw; (try dsimp only at hSw); go_simp; (try with_reducible rfl))
              simp only [Act.put, sA, sB, sC]
              refine rdH (i := 12) (h := fun K hK => ?_)
              go_simp
              generalize hw15 : World.setCell _ _ _ = w15
              have HV15 : Hid (Blk w15 v 77 (vCells a s.gen nx (.slice va m1 vc) s.br)) := hid (by rw [← hw15]; exact HV14.out.set 3 _)
              have HK15 : Hid (Keep (fun k => k = v) w14 w15) := hid (by rw [← hw15]; exact (Keep.refl (fun k => k = v) w14).setCell (p := ⟨v, 3, none⟩) rfl _)
              clear hw15 s3 f3
              refine hK.out _ _ ?k12x21y (fun hS => ?s12x21y)
              case k12x21y => exact trivial
              clear hK K
              try simp only [Act.put]
              refine wpAnyH_done (by kernel_rfl) ?_ _
              go_wp2
              go_ret
              rw [HRV.out]
              refine ⟨rfl, ?_⟩
              have hz1 := HT14.out.2.size
              have hz2 := HK15.out.size
              have h16 := HCL.out w15 (rvA v a { s with next := nx, L := s.L ++ [rec] }) (fun k => k = v ∨ G k ∨ (w10.heap.size ≤ k ∧ k < w14.heap.size)) ((HT14.out.2.mono fun k _ h => HGF.out k h).trans (HK15.out.mono fun k _ e => by rw [e]; exact HVF.out)) (good_rvA _ _ _) ⟨_, fun k => G k ∨ (w10.heap.size ≤ k ∧ k < w14.heap.size), HV15.out, .inl rfl, (good_listA _ _).keep HT14.out.1 HK15.out (fun k h1 h2 => by
                rw [h2] at h1
                rcases h1 with h1 | h1
                · exact HNG.out h1
                · omega), fun h1 => by
                rcases h1 with h1 | h1
                · exact HNG.out h1
                · omega, fun k h1 => .inr h1⟩ (fun k hk => by
                rcases hk with rfl | hk | hk
                · exact .inl HVF.out
                · exact .inl (HGF.out _ hk)
                · exact .inr ⟨hk.1, by omega⟩)
              rw [List.set_set] at h16
              exact h16
            · refine wpo_append (.tmp 68) (.tmp 69) rfl w10.heap.size (.slice (some ⟨g0, 0, none⟩) 0 0) 0 [] rec rfl HO11.out lo rn rc rfl HRN.out (HSB.out w11 HB11.out) (by omega) HB11.out.size ?_
              intro v12 w12 ho12 hg12 hv12
              clear hv12
              have hb12 := HB11.out.grown hg12 HB11.out.size (owns_ge HO11.out)
              rw [Nat.zero_add, List.nil_append] at ho12
              obtain ⟨ra, rcc, rfl⟩ := own_slice ho12
              have HO12 := hid ho12; have HB12 := hid hb12
              have c3 := (hb12.cell (World.block_lt_of_cell? _ _ C3.out)).trans C3.out
              clear hb12 ho12 hg12
              refine hK.out _ _ ?k7x22y (fun hS => ?s7x22y)
              case k7x22y => exact trivial
              clear hK K
              try simp only [Act.put, sA, sB, sC]
              refine wpAnyH_ready (rs := [4, 8]) (by kernel_rfl) (by simp) ?_
              refine AllReadyH.cons (by simp only [List.getElem?_toArray, List.getElem?_cons_zero, List.getElem?_cons_succ]; exact rfl) (fun K hK => ?_) (AllReadyH.cons (by simp only [List.getElem?_toArray, List.getElem?_cons_zero, List.getElem?_cons_succ]; exact rfl) (fun K hK => ?_) AllReadyH.nil)
              · go_simp
                refine hK.out _ _ ?k4x23y (fun hS => ?s4x23y)
                case k4x23y => exact trivial
                clear hK K
                try simp only [Act.put, sA, sB, sC]
                refine rdH (i := 8) (h := fun K hK => ?_)
                refine wpo_layV rowL 1 _ rfl [.slice ra rn rcc] rfl (by omega) (by omega) (by simp [Value.cells]) (by simp [Act.eval]) ?_
                intro w13 hb13 h13
                have HB13 := hid hb13; have H13 := hid h13
                have HO13 := hid (owns_below (owns_below HOO.out HB12.out) hb13)
                have c3 := (hb13.cell (World.block_lt_of_cell? _ _ c3)).trans c3
                clear hb13 h13
                refine hK.out _ _ ?k8x24y (fun hS => ?s8x24y)
                case k8x24y => exact trivial
                clear hK K
                try simp only [Act.put, sA, sB, sC]
                refine rdH (i := 9) (h := fun K hK => ?_)
                refine wpo_appendR rowL (.tmp 67) (.tmp 71) rfl 0 (.slice la m lc) m vs rfl HO13.out w12.heap.size rfl [.slice ra rn rcc] H13.out rfl (by intro u hu; simp at hu; subst hu; rfl) (by omega) (Nat.zero_le _) ?_
                intro v14 w14 ho14 hg14 hw14
                have hlt := list_told (w := w10) HRS.out HFB.out HVV.out HGW.out HB12.out (by rw [← HRN.out]; exact HO12.out) HB13.out (by rw [HM.out]; exact ho14) hg14 hw14
                rw [HM1.out] at ho14
                obtain ⟨va, vc, rfl⟩ := own_slice ho14
                have HT14 := hid hlt
                have HV14 := hid (HVB.out.keep hlt.2 HNG.out)
                have s3 := HV14.out.cell (j := 3) rfl
                have f3 := HV14.out.free 3
                clear hlt ho14 hg14 hw14
                refine hK.out _ _ ?k9x25y (fun hS => ?s9x25y)
                case k9x25y => exact trivial
                clear hK K
                try simp only [Act.put, sA, sB, sC]
                refine tkH (i := 10) (v := ?v10x26y) (y := Or.inl ⟨by rfl, ?y10x26y⟩) (s := hS) (h := ?r10x26y)
                case y10x26y => (intro w' hSw; (try dsimp only at hSw); go_simp; (try with_reducible rfl))
                simp only [Act.put, sA, sB, sC]
                refine tkH (i := 11) (v := ?v11x27y) (y := Or.inl ⟨by rfl, ?y11x27y⟩) (s := hS) (h := ?r11x27y)
                case y11x27y => (intro w' hSw; (try dsimp only at hSw); go_simp; (try with_reducible rfl))
                simp only [Act.put, sA, sB, sC]
                refine rdH (i := 12) (h := fun K hK => ?_)
                go_simp
                generalize hw15 : World.setCell _ _ _ = w15
                have HV15 : Hid (Blk w15 v 77 (vCells a s.gen nx (.slice va m1 vc) s.br)) := hid (by rw [← hw15]; exact HV14.out.set 3 _)
                have HK15 : Hid (Keep (fun k => k = v) w14 w15) := hid (by rw [← hw15]; exact (Keep.refl (fun k => k = v) w14).setCell (p := ⟨v, 3, none⟩) rfl _)
                clear hw15 s3 f3
                refine hK.out _ _ ?k12x28y (fun hS => ?s12x28y)
                case k12x28y => exact trivial
                clear hK K
                try simp only [Act.put]
                refine wpAnyH_done (by kernel_rfl) ?_ _
                go_wp2
                go_ret
                rw [HRV.out]
                refine ⟨rfl, ?_⟩
                have hz1 := HT14.out.2.size
                have hz2 := HK15.out.size
                have h16 := HCL.out w15 (rvA v a { s with next := nx, L := s.L ++ [rec] }) (fun k => k = v ∨ G k ∨ (w10.heap.size ≤ k ∧ k < w14.heap.size)) ((HT14.out.2.mono fun k _ h => HGF.out k h).trans (HK15.out.mono fun k _ e => by rw [e]; exact HVF.out)) (good_rvA _ _ _) ⟨_, fun k => G k ∨ (w10.heap.size ≤ k ∧ k < w14.heap.size), HV15.out, .inl rfl, (good_listA _ _).keep HT14.out.1 HK15.out (fun k h1 h2 => by
                  rw [h2] at h1
                  rcases h1 with h1 | h1
                  · exact HNG.out h1
                  · omega), fun h1 => by
                  rcases h1 with h1 | h1
                  · exact HNG.out h1
                  · omega, fun k h1 => .inr h1⟩ (fun k hk => by
                  rcases hk with rfl | hk | hk
                  · exact .inl HVF.out
                  · exact .inl (HGF.out _ hk)
                  · exact .inr ⟨hk.1, by omega⟩)
                rw [List.set_set] at h16
                exact h16
              · refine wpo_layV rowL 1 _ rfl [.slice ra rn rcc] rfl (by omega) (by omega) (by simp [Value.cells]) (by simp [Act.eval]) ?_
                intro w13 hb13 h13
                have HB13 := hid hb13; have H13 := hid h13
                have HO13 := hid (owns_below (owns_below HOO.out HB12.out) hb13)
                have c3 := (hb13.cell (World.block_lt_of_cell? _ _ c3)).trans c3
                clear hb13 h13
                refine hK.out _ _ ?k8x29y (fun hS => ?s8x29y)
                case k8x29y => exact trivial
                clear hK K
                try simp only [Act.put, sA, sB, sC]
                refine rdH (i := 4) (h := fun K hK => ?_)
                go_simp
                refine hK.out _ _ ?k4x30y (fun hS => ?s4x30y)
                case k4x30y => exact trivial
                clear hK K
                try simp only [Act.put, sA, sB, sC]
                refine rdH (i := 9) (h := fun K hK => ?_)
                refine wpo_appendR rowL (.tmp 67) (.tmp 71) rfl 0 (.slice la m lc) m vs rfl HO13.out w12.heap.size rfl [.slice ra rn rcc] H13.out rfl (by intro u hu; simp at hu; subst hu; rfl) (by omega) (Nat.zero_le _) ?_
                intro v14 w14 ho14 hg14 hw14
                have hlt := list_told (w := w10) HRS.out HFB.out HVV.out HGW.out HB12.out (by rw [← HRN.out]; exact HO12.out) HB13.out (by rw [HM.out]; exact ho14) hg14 hw14
                rw [HM1.out] at ho14
                obtain ⟨va, vc, rfl⟩ := own_slice ho14
                have HT14 := hid hlt
                have HV14 := hid (HVB.out.keep hlt.2 HNG.out)
                have s3 := HV14.out.cell (j := 3) rfl
                have f3 := HV14.out.free 3
                clear hlt ho14 hg14 hw14
                refine hK.out _ _ ?k9x31y (fun hS => ?s9x31y)
                case k9x31y => exact trivial
                clear hK K
                try simp only [Act.put, sA, sB, sC]
                refine tkH (i := 10) (v := ?v10x32y) (y := Or.inl ⟨by rfl, ?y10x32y⟩) (s := hS) (h := ?r10x32y)
                case y10x32y => (intro w' hSw; (try dsimp only at hSw); go_simp; (try with_reducible rfl))
                simp only [Act.put, sA, sB, sC]
                refine tkH (i := 11) (v := ?v11x33y) (y := Or.inl ⟨by rfl, ?y11x33y⟩) (s := hS) (h := ?r11x33y)
                case y11x33y => (intro w' hSw; (try dsimp only at hSw); go_simp; (try with_reducible rfl))
                simp only [Act.put, sA, sB, sC]
                refine rdH (i := 12) (h := fun K hK => ?_)
                go_simp
                generalize hw15 : World.setCell _ _ _ = w15
                have HV15 : Hid (Blk w15 v 77 (vCells a s.gen nx (.slice va m1 vc) s.br)) := hid (by rw [← hw15]; exact HV14.out.set 3 _)
                have HK15 : Hid (Keep (fun k => k = v) w14 w15) := hid (by rw [← hw15]; exact (Keep.refl (fun k => k = v) w14).setCell (p := ⟨v, 3, none⟩) rfl _)
                clear hw15 s3 f3
                refine hK.out _ _ ?k12x34y (fun hS => ?s12x34y)
                case k12x34y => exact trivial
                clear hK K
                try simp only [Act.put]
                refine wpAnyH_done (by kernel_rfl) ?_ _
                go_wp2
                go_ret
                rw [HRV.out]
                refine ⟨rfl, ?_⟩
                have hz1 := HT14.out.2.size
                have hz2 := HK15.out.size
                have h16 := HCL.out w15 (rvA v a { s with next := nx, L := s.L ++ [rec] }) (fun k => k = v ∨ G k ∨ (w10.heap.size ≤ k ∧ k < w14.heap.size)) ((HT14.out.2.mono fun k _ h => HGF.out k h).trans (HK15.out.mono fun k _ e => by rw [e]; exact HVF.out)) (good_rvA _ _ _) ⟨_, fun k => G k ∨ (w10.heap.size ≤ k ∧ k < w14.heap.size), HV15.out, .inl rfl, (good_listA _ _).keep HT14.out.1 HK15.out (fun k h1 h2 => by
                  rw [h2] at h1
                  rcases h1 with h1 | h1
                  · exact HNG.out h1
                  · omega), fun h1 => by
                  rcases h1 with h1 | h1
                  · exact HNG.out h1
                  · omega, fun k h1 => .inr h1⟩ (fun k hk => by
                  rcases hk with rfl | hk | hk
                  · exact .inl HVF.out
                  · exact .inl (HGF.out _ hk)
                  · exact .inr ⟨hk.1, by omega⟩)
                rw [List.set_set] at h16
                exact h16
        · have c4 := hvb9.cell (j := 4) rfl
          have f4 := hvb9.free 4
          have HRV : Hid (appendV d s rec = (e2, d2, { s with br := true })) := hid (by rw [HAP.out]; unfold appendedV; rw [HA2.out, if_neg he2])
          have q0 : (e2 == 0) = false := by simpa using he2
          have q1 : (e2 != 0) = true := by simpa using he2
          have H15 := hid (St.rbreak (X := As.set i (rdev a d2)) (Y := []) (by rw [List.append_nil]; exact H9.out) j (by rw [List.getElem?_set_ne hij]; exact HJ.out))
          clear hvb9 he2
          go_wp2
          go_ret
          rw [HRV.out]
          exact ⟨rfl, H15.out⟩
      · have ha2 := HA.out
        rw [if_neg he1] at ha2
        have HA2 := hid ha2
        have c4 := hvb8.cell (j := 4) rfl
        have f4 := hvb8.free 4
        have HRV : Hid (appendV d s rec = (e1, d1, { s with br := true })) := hid (by rw [HAP.out]; unfold appendedV; rw [HA2.out, if_neg he1])
        have q0 : (e1 == 0) = false := by simpa using he1
        have q1 : (e1 != 0) = true := by simpa using he1
        have H15 := hid (St.rbreak (X := As.set i (rdev a d1)) (Y := []) (by rw [List.append_nil]; exact H8.out) j (by rw [List.getElem?_set_ne hij]; exact HJ.out))
        clear hvb8 he1 ha2
        go_wp2
        go_ret
        rw [HRV.out]
        exact ⟨rfl, H15.out⟩
  · rw [hbr] at c4
    have HE : Hid (appendV d s rec = (23, d, s)) := hid (by unfold appendV; rw [hbr, if_pos rfl])
    clear hbr
    go_enter Tryz.func26, Tryz.ntmps26
    go_wp2
    go_ret
    rw [HE.out]
    exact ⟨rfl, same.out⟩
theorem rmoveV_replace {d : Dev} {s : VS} (L : List (List UInt8)) (h : s.br = false) : replaceV d s L = rmoveV d s L := by
  unfold replaceV rmoveV
  rw [h, if_neg (by simp)]
theorem rreplace_any {B : Nat} {w0 w : World} {As : List Asset} {a : Nat} {d : Dev} (h : St B w0 w As) (i : Nat) (hi : As[i]? = some (rdev a d)) (j v : Nat) (s : VS) (hj : As[j]? = some (rvA v a s)) (hij : i ≠ j) (lo : Option Addr) (len c : Nat) (L : List (List UInt8)) (hlen : len = L.length) (hl1 : len ≤ 1000) (hL : LentI2 B w0 As i j lo L) (hl2 : ∀ l ∈ L, l.length ≤ 1073741824) (hg : s.gen ≤ 2147483647) (hn2 : 2 ≤ d.img.length) (hlo : d.loose.length ≤ 100000000) :
    Calls Tryz.prog 29 #[ptr v, .slice lo len c] w fun e w' => e = .returned (.int .i64 (replaceV d s L).1) ∧ St B w0 w' ((As.set i (rdev a (replaceV d s L).2.1)).set j (rvA v a (replaceV d s L).2.2)) := by
  obtain ⟨vl, hvb⟩ := h.rvault j hj
  have c4 := hvb.cell (j := 4) rfl
  have HMO := hid (rmove_any h i hi j v s hj hij lo len c L hlen hl1 hL hl2 hg hn2 hlo)
  have same : Hid (St B w0 w ((As.set i (rdev a d)).set j (rvA v a s))) := hid (by rw [set_same hi, set_same hj]; exact h)
  clear h hi hj hlen hL hl2 hvb
  rcases hbr : s.br with _ | _
  · have HR := hid (rmoveV_replace (d := d) L hbr)
    rw [hbr] at c4
    clear hbr
    unfold ptr at HMO ⊢
    go_enter Tryz.func29, Tryz.ntmps29
    go_wp2_with fail
    refine HMO.out.mono ?_
    rintro e w' ⟨rfl, h'⟩
    have H' := hid h'
    clear h'
    go_wp2
    go_ret
    rw [HR.out]
    exact ⟨rfl, H'.out⟩
  · have HE : Hid (replaceV d s L = (23, d, s)) := hid (by unfold replaceV; rw [hbr, if_pos rfl])
    rw [hbr] at c4
    clear hbr
    unfold ptr
    go_enter Tryz.func29, Tryz.ntmps29
    go_wp2
    go_ret
    rw [HE.out]
    exact ⟨rfl, same.out⟩
end Go.Proofs.YtlondopgibcikaaGreat
