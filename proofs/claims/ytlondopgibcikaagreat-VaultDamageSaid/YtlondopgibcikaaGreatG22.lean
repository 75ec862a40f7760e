/- The vault's read. The vault's all: things done one behind the other. slices.Clone, slices.Grow, slices.Concat; the vault's copied. slices.Grow of nothing, slices.Concat. -/
import Derived.Test.YtlondopgibcikaaGreatRows
import Derived.Test.YtlondopgibcikaaGreatG01
import Derived.Test.YtlondopgibcikaaGreatG02
import Derived.Test.YtlondopgibcikaaGreatG06
import Derived.Test.YtlondopgibcikaaGreatG07
import Derived.Test.YtlondopgibcikaaGreatG08
import Derived.Test.YtlondopgibcikaaGreatG16
import Derived.Test.YtlondopgibcikaaGreatG21
import Derived.WalkKit
import Derived.WalkSpells
import Derived.WalkLawsBesides
import Derived.Deep.RegionHeld3
import Derived.Deep.QuietTactic
import Derived.BigQuiet
import Derived.Stop.BytesEq
import Derived.Deep.CutRange
namespace Go.Proofs.YtlondopgibcikaaGreat
open Go.RowKit Ent
theorem beq_same (l m : List UInt8) : (l == m) = sameB l m := by
  unfold sameB
  by_cases h : l = m
  · subst h; simp
  · rw [decide_eq_false h, beq_eq_false_iff_ne]; exact h
theorem wpo_eqlA {o : Oper} {a : Act} {w : World} {K : Act → World → Prop} {Q : Exit → Act → World → Prop} (x y : Operand) (ho : o.op = .binOp .eql 120 x y 120) (l m : List UInt8) (hx : a.eval x = .agg (bv l).toArray) (hy : a.eval y = .agg (bv m).toArray) (hl : l.length = 32) (hm : m.length = 32)
    (h : K (a.put o.dst (.bool (sameB l m))) w) : o.wp Tryz.prog a w K Q := by
  have key := run_eql_bytes (P := Tryz.prog) w 120 5 32 Tryz.underlying120 Tryz.underlying5 (fun w => by kernel_rfl) l m hl hm
  rw [beq_same] at key
  have key2 : (binOp .eql 120 (.agg (bv l).toArray) (.agg (bv m).toArray)).run Tryz.prog w = .ok (.bool (sameB l m)) w := key
  have hgd : (eqGuard .eql 120 x y (.agg (bv l).toArray) (.agg (bv m).toArray)).run Tryz.prog w = .ok () w := run_eqGuard_agg w .eql 120 x y _ _ (by kernel_rfl)
  unfold Oper.wp execOp
  simp only [ho, hx, hy, Sem.run_bind, hgd, key2, Result.andThen_ok]
  exact h
/-- what four bytes tell of a superblock's generation; is it one? -/
def genOf (b : List UInt8) : Nat := numOf ((b.drop 4).take 4)
def isSup (b : List UInt8) (n : Nat) : Bool := (decide (1 ≤ genOf b) && decide (genOf b ≤ 2147483647)) && (sameB (b.take 32) (supHalf (genOf b) n) && sameB (b.take 32) (b.drop 32))
theorem run_arrayAt32 (w : World) (x : Addr) (c : Nat) : (Instr.arrayAt 120 (.slice (some x) 32 c)).run Tryz.prog w = .ok (.pointer (some x)) w := by
  simp [Instr.arrayAt, run_underlying Tryz.underlying120]
theorem genOf_lt (b : List UInt8) : genOf b < 4294967296 := numOf_lt _ (by simp; omega)
theorem results_cellrow_tmp {P : Program} {fn : Func} {u p : Tmp} {ty : TypeId} (h : fn.results = #[.cell p ty, .tmp u]) (tmps : Array Value) (w : World) (g : Nat) (t : TypeId) (cs : Array Value) (fr : Nat × Nat) (d : TypeDesc)
    (hp : tmps.getD p undef = .pointer (some ⟨g, 0, none⟩)) (hg : w.heap[g]? = some (.cells cs t fr))
    (hu : P.underlying ty = some d) (hd : (match d with | .struct _ | .array _ _ => true | _ => false) = true) (hi : (P.info? ty).map (·.size) = some cs.size) :
    (results fn tmps).run P w = .ok (.tuple #[.agg cs, tmps.getD u undef]) w := by
  have hp' : tmps[p]?.getD undef = .pointer (some ⟨g, 0, none⟩) := by simpa using hp
  have hl := run_loadVar_row w g t ty cs fr d hg hu hd hi
  simp [results, h, hp', asAddr, hl]
set_option maxRecDepth 100000 in
set_option maxHeartbeats 2000000 in
theorem vread_any (g o cap n : Nat) (b : List UInt8) (hb : b.length = 64) (hcap : 64 ≤ cap) (hn : n ≤ 65536) (w : World) (hr : w.rangeAt g o (bv b)) :
    Calls Tryz.prog 57 #[.slice (some ⟨g, o, none⟩) 64 cap, .int .i64 n] w fun e w' => e = .returned (.tuple #[.agg #[.int .i64 (genOf b : Nat)], .bool (isSup b n)]) ∧ Below w.heap.size w w' := by
  have HB := hid hb; have HR := hid hr
  have HH1 : Hid ((b.take 32).length = 32) := hid (by simp; omega)
  have HH2 : Hid ((b.drop 32).length = 32) := hid (by simp; omega)
  have HR1 : Hid (∀ w' : World, w'.rangeAt g o (bv b) → w'.rangeAt g o (bv (b.take 32))) := hid (fun w' h j v hv => by
    refine h j v ?_
    rw [bv_get] at hv ⊢
    rw [List.getElem?_take] at hv
    split at hv
    · exact hv
    · cases hv)
  have HR2 : Hid (∀ w' : World, w'.rangeAt g o (bv b) → w'.rangeAt g (o + 32) (bv (b.drop 32))) := hid (fun w' h j v hv => by
    rw [Nat.add_assoc]
    refine h (32 + j) v ?_
    rw [bv_get] at hv ⊢
    rwa [List.getElem?_drop] at hv)
  obtain ⟨gF, hgF⟩ : ∃ gF, gF = w.heap.size := ⟨_, rfl⟩
  obtain ⟨w1, hw1⟩ : ∃ w1, w.alloc (.cells #[.int .i64 0] 91) = w1 := ⟨_, rfl⟩
  have HW1 := hid hw1
  have HF1 : Hid (Blk w1 gF 91 [.int .i64 0]) := hid (by rw [← hw1, hgF]; exact alloc_new w _)
  have HB1 : Hid (Below w.heap.size w w1) := hid (by rw [← hw1]; exact fresh_alloc w _)
  have HG := hid hgF
  clear hb hr hw1 hgF
  go_enter Tryz.func57, Tryz.ntmps57
  have HRA : Hid (w1.rangeAt g o (bv b)) := hid ((Keep.ofBelow (F := fun _ => False) HB1.out).range HR.out id)
  have ra := run_arrayAt32
  have q32 : ¬ cap = 32 := by omega
  go_upto_region 1 with fail
  rw [HW1.out, ← HG.out]
  go_wp2_with (first
    | (refine wpList_load_mid rfl 120 (.tmp 11) rfl g o rfl (bv (b.take 32)) _ (HR1.out _ HRA.out) Tryz.underlying120 rfl (by rw [bv_length, HH1.out]; exact half_info) ?_)
    | (refine wpl_store_new rfl 120 (.tmp 6) (.tmp 12) rfl _ _ (bv (b.take 32)) rfl rfl (by rw [bv_length, HH1.out]; exact half_info) (by rw [bv_length, HH1.out]; kernel_rfl) (bv_one _) ?_; intro w3 h3 hb3; have H3 := hid h3; have HB3 := hid hb3; clear h3 hb3))
  obtain ⟨gH, hgH⟩ : ∃ gH, w1.heap.size = gH := ⟨_, rfl⟩
  rw [hgH] at H3 HB3 ⊢
  have HGH := hid hgH
  have hFH : gF < gH := by rw [← hgH]; exact HF1.out.lt
  have HF3 := hid (HF1.out.below HB3.out hFH)
  have HR3 : Hid (w3.rangeAt g o (bv b)) := hid (by
    have : Below w1.heap.size w1 w3 := by rw [hgH]; exact HB3.out
    exact (Keep.ofBelow (F := fun _ => False) this).range HRA.out id)
  have HBW : Hid (Below w.heap.size w w3) := hid (HB1.out.trans (HB3.out.mono (by rw [← hgH]; exact HB1.out.size)))
  obtain ⟨gn, hgn⟩ : ∃ gn, genOf b = gn := ⟨_, rfl⟩
  have HGN := hid hgn
  have hgnb : gn < 4294967296 := by rw [← hgn]; exact genOf_lt b
  clear hgH hgn
  refine (number_any gH 4 28 28 ((b.drop 4).take 4) (by simp; have := HB.out; omega) (by omega) (by omega) w3 (H3.out.range fun j v hv => by
    rw [bv_get] at hv ⊢
    rw [List.getElem?_take] at hv
    split at hv
    · rw [List.getElem?_take, if_pos (by omega)]
      rwa [List.getElem?_drop] at hv
    · cases hv)).mono ?_
  rintro e w' ⟨rfl, hw'⟩
  subst w'
  rw [show numOf ((b.drop 4).take 4) = gn from HGN.out]
  by_cases g1 : 1 ≤ gn
  rotate_left
  · have HE : Hid (isSup b n = false) := hid (by unfold isSup; rw [HGN.out, decide_eq_false g1]; rfl)
    have hd : decide ((1 : Int) ≤ (gn : Int)) = false := by simp; omega
    go_wp2_with fail
    go_quiet (fail)
    have HFD := hid (HF3.out.below (below_drewN (Below.refl w3.heap.size w3) nq) HF3.out.lt)
    have cF := HFD.out.cell (j := 0) rfl
    have fF := HFD.out.free 0
    go_wp2
    refine bodyPost_ret (results_cellrow_tmp rfl _ _ gF 91 #[.int .i64 (gn : Nat)] (0, 0) _ rfl (HFD.out.set 0 (.int .i64 (gn : Nat))) Tryz.underlying91 rfl (by kernel_rfl)) rfl ⟨by rw [HE.out, HGN.out]; rfl, ?_⟩
    exact (below_drewN HBW.out nq).setCell (p := ⟨gF, 0, none⟩) (by rw [HG.out]; exact Nat.le_refl _) _
  by_cases g2 : gn ≤ 2147483647
  rotate_left
  · have HE : Hid (isSup b n = false) := hid (by unfold isSup; rw [HGN.out, decide_eq_false g2]; simp)
    have hd : decide ((1 : Int) ≤ (gn : Int)) = true := by simp; omega
    have hd2 : decide ((gn : Int) ≤ 2147483647) = false := by simp; omega
    go_wp2_with fail
    go_quiet (fail)
    have HFD := hid (HF3.out.below (below_drewN (Below.refl w3.heap.size w3) nq) HF3.out.lt)
    have cF := HFD.out.cell (j := 0) rfl
    have fF := HFD.out.free 0
    go_wp2
    refine bodyPost_ret (results_cellrow_tmp rfl _ _ gF 91 #[.int .i64 (gn : Nat)] (0, 0) _ rfl (HFD.out.set 0 (.int .i64 (gn : Nat))) Tryz.underlying91 rfl (by kernel_rfl)) rfl ⟨by rw [HE.out, HGN.out]; rfl, ?_⟩
    exact (below_drewN HBW.out nq).setCell (p := ⟨gF, 0, none⟩) (by rw [HG.out]; exact Nat.le_refl _) _
  have hd : decide ((1 : Int) ≤ (gn : Int)) = true := by simp; omega
  have hd2 : decide ((gn : Int) ≤ 2147483647) = true := by simp; omega
  have HE : Hid (isSup b n = (sameB (b.take 32) (supHalf gn n) && sameB (b.take 32) (b.drop 32))) := hid (by unfold isSup; rw [HGN.out, decide_eq_true g1, decide_eq_true g2]; simp)
  go_wp2_with fail
  cases hs1 : sameB (b.take 32) (supHalf gn n)
  · have HS1 := hid hs1
    clear hs1
    refine wp_region_held_drew (S := fun w' => w'.rangeAt gH 0 (bv (b.take 32)) ∧ w'.rangeAt g o (bv b)) (by kernel_rfl) ⟨H3.out.drew.range (fun j v hv => by rw [Nat.zero_add]; exact hv), (Keep.ofBelow (F := fun _ => False) (Below.refl _ _).drew).range HR3.out id⟩ (fun hS => ?_)
    refine tkH (i := 0) (v := ?v0x1y) (y := Or.inl ⟨by rfl, ?y0x1y⟩) (s := hS) (h := ?r0x1y)
    case y0x1y => (intro w' hSw; (try dsimp only at hSw); go_simp; (try with_reducible rfl))
    simp only [Act.put, sA, sB, sC]
    refine tkH (i := 1) (v := ?v1x2y) (y := Or.inl ⟨by rfl, ?y1x2y⟩) (s := hS) (h := ?r1x2y)
    case y1x2y => (intro w' hSw; (try dsimp only at hSw); go_simp; (try with_reducible rfl))
    simp only [Act.put, sA, sB, sC]
    refine tkH (i := 2) (v := ?v2x3y) (y := Or.inl ⟨by rfl, ?y2x3y⟩) (s := hS) (h := ?r2x3y)
    case y2x3y => (intro w' hSw; (try dsimp only at hSw); go_simp; (try with_reducible rfl))
    simp only [Act.put, sA, sB, sC]
    refine tkH (i := 3) (v := ?v3x4y) (y := Or.inl ⟨by rfl, ?y3x4y⟩) (s := hS) (h := ?r3x4y)
    case y3x4y => (intro w' hSw; (try dsimp only at hSw); go_simp; (try with_reducible rfl))
    simp only [Act.put, sA, sB, sC]
    refine tkH (i := 4) (v := ?v4x5y) (y := Or.inl ⟨by rfl, ?y4x5y⟩) (s := hS) (h := ?r4x5y)
    case y4x5y => (intro w' hSw; (try dsimp only at hSw); go_simp; (try with_reducible rfl))
    simp only [Act.put, sA, sB, sC]
    refine tkH (i := 5) (v := ?v5x6y) (y := Or.inl ⟨by rfl, ?y5x6y⟩) (s := hS) (h := ?r5x6y)
    case y5x6y => (intro w' hSw; (try dsimp only at hSw); go_simp; (try with_reducible rfl))
    simp only [Act.put, sA, sB, sC]
    refine tkH (i := 6) (v := ?v6x7y) (y := Or.inl ⟨by rfl, ?y6x7y⟩) (s := hS) (h := ?r6x7y)
    case y6x7y => (intro w' hSw; (try dsimp only at hSw); go_simp; (try with_reducible rfl))
    simp only [Act.put, sA, sB, sC]
    refine tkH (i := 7) (v := ?v7x8y) (y := ?y7x8y) (s := hS) (h := ?r7x8y)
    case y7x8y => (refine yieldsIf_load_mid ?_ 120 (.tmp 6) ?_ gH 0 ?_ (bv (b.take 32)) _ ?_ Tryz.underlying120 ?_ ?_; rfl; rfl; rfl; exact (fun w' hSw => hSw.1); rfl; (rw [bv_length, HH1.out]; exact half_info))
    simp only [Act.put, sA, sB, sC]
    refine tkH (i := 8) (v := ?v8x9y) (y := Or.inl ⟨by rfl, ?y8x9y⟩) (s := hS) (h := ?r8x9y)
    case y8x9y => (intro w' hSw; (try dsimp only at hSw); go_simp; (try with_reducible rfl))
    simp only [Act.put, sA, sB, sC]
    refine tkH (i := 9) (v := ?v9x10y) (y := Or.inl ⟨by rfl, ?y9x10y⟩) (s := hS) (h := ?r9x10y)
    case y9x10y => (intro w' hSw; (try dsimp only at hSw); go_simp; (try with_reducible rfl))
    simp only [Act.put, sA, sB, sC]
    refine rdH (i := 10) (h := fun K hK => ?_)
    go_simp
    refine (vsuper_any gn n (by omega) (by omega) _).mono ?_
    rintro e w5 ⟨rfl, hb5⟩
    have HBW := hid (HBW.out.drew.trans (hb5.mono HBW.out.drew.size))
    have HF3 := hid (HF3.out.drew.below hb5 HF3.out.drew.lt)
    have hS5 := And.intro ((Keep.ofBelow (F := fun _ => False) hb5).range hS.1 id) ((Keep.ofBelow (F := fun _ => False) hb5).range hS.2 id)
    clear hb5
    refine hK.out _ _ ?k10x11y (fun hS => ?s10x11y)
    case k10x11y => exact hS5
    clear hK K
    try simp only [Act.put, sA, sB, sC]
    refine rdH (i := 11) (h := fun K hK => ?_)
    refine wpo_eqlA (.tmp 22) (.tmp 25) rfl (b.take 32) (supHalf gn n) rfl rfl HH1.out (supHalf_len _ _) ?_
    rw [HS1.out]
    refine hK.out _ _ ?k11x12y (fun hS => ?s11x12y)
    case k11x12y => exact hS
    clear hK K
    try simp only [Act.put, sA, sB, sC]
    refine tkH (i := 12) (v := ?v12x13y) (y := Or.inl ⟨by rfl, ?y12x13y⟩) (s := hS) (h := ?r12x13y)
    case y12x13y => (intro w' hSw; (try dsimp only at hSw); go_simp; (try with_reducible rfl))
    simp only [Act.put, sA, sB, sC]
    refine tkH (i := 13) (v := ?v13x14y) (y := Or.inl ⟨by rfl, ?y13x14y⟩) (s := hS) (h := ?r13x14y)
    case y13x14y => (intro w' hSw; (try dsimp only at hSw); go_simp; (try with_reducible rfl))
    simp only [Act.put, sA, sB, sC]
    refine tkH (i := 14) (v := undef) (y := Or.inr ⟨by rfl, rfl⟩) (s := hS) (h := ?_)
    simp only [Act.put, sA, sB, sC]
    refine tkH (i := 15) (v := undef) (y := Or.inr ⟨by rfl, rfl⟩) (s := hS) (h := ?_)
    simp only [Act.put, sA, sB, sC]
    refine tkH (i := 16) (v := undef) (y := Or.inr ⟨by rfl, rfl⟩) (s := hS) (h := ?_)
    simp only [Act.put, sA, sB, sC]
    refine tkH (i := 17) (v := undef) (y := Or.inr ⟨by rfl, rfl⟩) (s := hS) (h := ?_)
    simp only [Act.put, sA, sB, sC]
    refine tkH (i := 18) (v := undef) (y := Or.inr ⟨by rfl, rfl⟩) (s := hS) (h := ?_)
    simp only [Act.put, sA, sB, sC]
    refine tkH (i := 19) (v := undef) (y := Or.inr ⟨by rfl, rfl⟩) (s := hS) (h := ?_)
    simp only [Act.put, sA, sB, sC]
    refine tkH (i := 20) (v := ?v20x21y) (y := Or.inl ⟨by rfl, ?y20x21y⟩) (s := hS) (h := ?r20x21y)
    case y20x21y => (intro w' hSw; (try dsimp only at hSw); go_simp; (try with_reducible rfl))
    simp only [Act.put, sA, sB, sC]
    refine tkH (i := 21) (v := ?v21x22y) (y := Or.inl ⟨by rfl, ?y21x22y⟩) (s := hS) (h := ?r21x22y)
    case y21x22y => (intro w' hSw; (try dsimp only at hSw); go_simp; (try with_reducible rfl))
    simp only [Act.put, sA, sB, sC]
    refine wpAnyH_done (by kernel_rfl) ?_ _
    clear hS
    have cF := HF3.out.cell (j := 0) rfl
    have fF := HF3.out.free 0
    go_wp2
    refine bodyPost_ret (results_cellrow_tmp rfl _ _ gF 91 #[.int .i64 (gn : Nat)] (0, 0) _ rfl (HF3.out.set 0 (.int .i64 (gn : Nat))) Tryz.underlying91 rfl (by kernel_rfl)) rfl ⟨by rw [HE.out, HGN.out, HS1.out]; rfl, ?_⟩
    exact HBW.out.setCell (p := ⟨gF, 0, none⟩) (by rw [HG.out]; exact Nat.le_refl _) _
  · have HS1 := hid hs1
    clear hs1
    refine wp_region_held_drew (S := fun w' => w'.rangeAt gH 0 (bv (b.take 32)) ∧ w'.rangeAt g o (bv b)) (by kernel_rfl) ⟨H3.out.drew.range (fun j v hv => by rw [Nat.zero_add]; exact hv), (Keep.ofBelow (F := fun _ => False) (Below.refl _ _).drew).range HR3.out id⟩ (fun hS => ?_)
    refine tkH (i := 0) (v := ?v0x1z) (y := Or.inl ⟨by rfl, ?y0x1z⟩) (s := hS) (h := ?r0x1z)
    case y0x1z => (intro w' hSw; (try dsimp only at hSw); go_simp; (try with_reducible rfl))
    simp only [Act.put, sA, sB, sC]
    refine tkH (i := 1) (v := ?v1x2z) (y := Or.inl ⟨by rfl, ?y1x2z⟩) (s := hS) (h := ?r1x2z)
    case y1x2z => (intro w' hSw; (try dsimp only at hSw); go_simp; (try with_reducible rfl))
    simp only [Act.put, sA, sB, sC]
    refine tkH (i := 2) (v := ?v2x3z) (y := Or.inl ⟨by rfl, ?y2x3z⟩) (s := hS) (h := ?r2x3z)
    case y2x3z => (intro w' hSw; (try dsimp only at hSw); go_simp; (try with_reducible rfl))
    simp only [Act.put, sA, sB, sC]
    refine tkH (i := 3) (v := ?v3x4z) (y := Or.inl ⟨by rfl, ?y3x4z⟩) (s := hS) (h := ?r3x4z)
    case y3x4z => (intro w' hSw; (try dsimp only at hSw); go_simp; (try with_reducible rfl))
    simp only [Act.put, sA, sB, sC]
    refine tkH (i := 4) (v := ?v4x5z) (y := Or.inl ⟨by rfl, ?y4x5z⟩) (s := hS) (h := ?r4x5z)
    case y4x5z => (intro w' hSw; (try dsimp only at hSw); go_simp; (try with_reducible rfl))
    simp only [Act.put, sA, sB, sC]
    refine tkH (i := 5) (v := ?v5x6z) (y := Or.inl ⟨by rfl, ?y5x6z⟩) (s := hS) (h := ?r5x6z)
    case y5x6z => (intro w' hSw; (try dsimp only at hSw); go_simp; (try with_reducible rfl))
    simp only [Act.put, sA, sB, sC]
    refine tkH (i := 6) (v := ?v6x7z) (y := Or.inl ⟨by rfl, ?y6x7z⟩) (s := hS) (h := ?r6x7z)
    case y6x7z => (intro w' hSw; (try dsimp only at hSw); go_simp; (try with_reducible rfl))
    simp only [Act.put, sA, sB, sC]
    refine tkH (i := 7) (v := ?v7x8z) (y := ?y7x8z) (s := hS) (h := ?r7x8z)
    case y7x8z => (refine yieldsIf_load_mid ?_ 120 (.tmp 6) ?_ gH 0 ?_ (bv (b.take 32)) _ ?_ Tryz.underlying120 ?_ ?_; rfl; rfl; rfl; exact (fun w' hSw => hSw.1); rfl; (rw [bv_length, HH1.out]; exact half_info))
    simp only [Act.put, sA, sB, sC]
    refine tkH (i := 8) (v := ?v8x9z) (y := Or.inl ⟨by rfl, ?y8x9z⟩) (s := hS) (h := ?r8x9z)
    case y8x9z => (intro w' hSw; (try dsimp only at hSw); go_simp; (try with_reducible rfl))
    simp only [Act.put, sA, sB, sC]
    refine tkH (i := 9) (v := ?v9x10z) (y := Or.inl ⟨by rfl, ?y9x10z⟩) (s := hS) (h := ?r9x10z)
    case y9x10z => (intro w' hSw; (try dsimp only at hSw); go_simp; (try with_reducible rfl))
    simp only [Act.put, sA, sB, sC]
    refine rdH (i := 10) (h := fun K hK => ?_)
    go_simp
    refine (vsuper_any gn n (by omega) (by omega) _).mono ?_
    rintro e w5 ⟨rfl, hb5⟩
    have HBW := hid (HBW.out.drew.trans (hb5.mono HBW.out.drew.size))
    have HF3 := hid (HF3.out.drew.below hb5 HF3.out.drew.lt)
    have hS5 := And.intro ((Keep.ofBelow (F := fun _ => False) hb5).range hS.1 id) ((Keep.ofBelow (F := fun _ => False) hb5).range hS.2 id)
    clear hb5
    refine hK.out _ _ ?k10x11z (fun hS => ?s10x11z)
    case k10x11z => exact hS5
    clear hK K
    try simp only [Act.put, sA, sB, sC]
    refine rdH (i := 11) (h := fun K hK => ?_)
    refine wpo_eqlA (.tmp 22) (.tmp 25) rfl (b.take 32) (supHalf gn n) rfl rfl HH1.out (supHalf_len _ _) ?_
    rw [HS1.out]
    refine hK.out _ _ ?k11x12z (fun hS => ?s11x12z)
    case k11x12z => exact hS
    clear hK K
    try simp only [Act.put, sA, sB, sC]
    refine tkH (i := 12) (v := ?v12x13z) (y := Or.inl ⟨by rfl, ?y12x13z⟩) (s := hS) (h := ?r12x13z)
    case y12x13z => (intro w' hSw; (try dsimp only at hSw); go_simp; (try with_reducible rfl))
    simp only [Act.put, sA, sB, sC]
    refine tkH (i := 13) (v := ?v13x14z) (y := Or.inl ⟨by rfl, ?y13x14z⟩) (s := hS) (h := ?r13x14z)
    case y13x14z => (intro w' hSw; (try dsimp only at hSw); go_simp; (try with_reducible rfl))
    simp only [Act.put, sA, sB, sC]
    refine tkH (i := 14) (v := ?v14x15z) (y := ?y14x15z) (s := hS) (h := ?r14x15z)
    case y14x15z => (refine yieldsIf_load_mid ?_ 120 (.tmp 6) ?_ gH 0 ?_ (bv (b.take 32)) _ ?_ Tryz.underlying120 ?_ ?_; rfl; rfl; rfl; exact (fun w' hSw => hSw.1); rfl; (rw [bv_length, HH1.out]; exact half_info))
    simp only [Act.put, sA, sB, sC]
    refine tkH (i := 15) (v := ?v15x16z) (y := Or.inl ⟨by rfl, ?y15x16z⟩) (s := hS) (h := ?r15x16z)
    case y15x16z => (intro w' hSw; (try dsimp only at hSw); go_simp; (try with_reducible rfl))
    simp only [Act.put, sA, sB, sC]
    refine tkH (i := 16) (v := ?v16x17z) (y := Or.inl ⟨by rfl, ?y16x17z⟩) (s := hS) (h := ?r16x17z)
    case y16x17z => (intro w' hSw; (try dsimp only at hSw); go_simp; (try with_reducible rfl))
    simp only [Act.put, sA, sB, sC]
    refine tkH (i := 17) (v := ?v17x18z) (y := Or.inl ⟨by rfl, ?y17x18z⟩) (s := hS) (h := ?r17x18z)
    case y17x18z => (intro w' hSw; (try dsimp only at hSw); go_simp; (try with_reducible rfl))
    simp only [Act.put, sA, sB, sC]
    refine tkH (i := 18) (v := ?v18x19z) (y := ?y18x19z) (s := hS) (h := ?r18x19z)
    case y18x19z => (refine yieldsIf_load_mid ?_ 120 (.tmp 32) ?_ g (o + 32) ?_ (bv (b.drop 32)) _ ?_ Tryz.underlying120 ?_ ?_; rfl; rfl; rfl; exact (fun w' hSw => HR2.out _ hSw.2); rfl; (rw [bv_length, HH2.out]; exact half_info))
    simp only [Act.put, sA, sB, sC]
    refine rdH (i := 19) (h := fun K hK => ?_)
    refine wpo_eqlA (.tmp 29) (.tmp 33) rfl (b.take 32) (b.drop 32) rfl rfl HH1.out HH2.out ?_
    refine hK.out _ _ ?k19x20z (fun hS => ?s19x20z)
    case k19x20z => exact hS
    clear hK K
    try simp only [Act.put, sA, sB, sC]
    refine tkH (i := 20) (v := ?v20x21z) (y := Or.inl ⟨by rfl, ?y20x21z⟩) (s := hS) (h := ?r20x21z)
    case y20x21z => (intro w' hSw; (try dsimp only at hSw); go_simp; (try with_reducible rfl))
    simp only [Act.put, sA, sB, sC]
    refine tkH (i := 21) (v := ?v21x22z) (y := Or.inl ⟨by rfl, ?y21x22z⟩) (s := hS) (h := ?r21x22z)
    case y21x22z => (intro w' hSw; (try dsimp only at hSw); go_simp; (try with_reducible rfl))
    simp only [Act.put, sA, sB, sC]
    refine wpAnyH_done (by kernel_rfl) ?_ _
    clear hS
    have cF := HF3.out.cell (j := 0) rfl
    have fF := HF3.out.free 0
    go_wp2
    refine bodyPost_ret (results_cellrow_tmp rfl _ _ gF 91 #[.int .i64 (gn : Nat)] (0, 0) _ rfl (HF3.out.set 0 (.int .i64 (gn : Nat))) Tryz.underlying91 rfl (by kernel_rfl)) rfl ⟨by rw [HE.out, HGN.out, HS1.out]; rfl, ?_⟩
    exact HBW.out.setCell (p := ⟨gF, 0, none⟩) (by rw [HG.out]; exact Nat.le_refl _) _
end Go.Proofs.YtlondopgibcikaaGreat
namespace Go.Proofs.YtlondopgibcikaaGreat
open Go.RowKit Ent
set_option maxRecDepth 100000 in
set_option maxHeartbeats 400000 in
theorem vall_any (g n : Nat) (hn : n ≤ 1000) (ids : Nat → FuncId) (firsts caps : Nat → Array Value) (I : Nat → World → Prop) (R : Int → World → Prop)
    (hcell : ∀ i w, i < n → I i w → w.cell? ⟨g, i, none⟩ = some (.func (.func (ids i)) (firsts i) (caps i)))
    (hstep : ∀ i w, i < n → I i w → Calls Tryz.prog (ids i) (firsts i ++ caps i) w fun e w' => ∃ c : Int, e = .returned (.int .i64 c) ∧ (c = 0 → I (i + 1) w') ∧ (c ≠ 0 → R c w'))
    (henter : ∀ i, i < n → ∀ (xs : Array Value) (w : World), (callFunc (ids i) xs).run Tryz.prog w = .ok (.enter (ids i) xs) w) (w : World) (h0 : I 0 w) :
    Calls Tryz.prog 64 #[.slice (some ⟨g, 0, none⟩) n n] w fun e w' => ∃ c : Int, e = .returned (.int .i64 c) ∧ (c = 0 → I n w') ∧ (c ≠ 0 → R c w') := by
  have HC := hid hcell; have HS := hid hstep; have H0 := hid h0; have HE := hid henter
  clear hcell hstep h0 henter
  go_enter Tryz.func64, Tryz.ntmps64
  go_wp2_with fail
  go_loopw [8] (fun i wr => ∃ k : Nat, k ≤ n ∧ i = .int .i64 k ∧ I k wr) (fun i _ => n - (intOf i).toNat)
  case atStart => exact ⟨0, Nat.zero_le _, rfl, H0.out⟩
  case round =>
    obtain ⟨k, hk, rfl, hi⟩ := hrel
    have HI := hid hi
    clear hi
    by_cases hlt : k < n
    · have hc := HC.out k wr hlt HI.out
      have HST := hid (HS.out k wr hlt HI.out)
      go_wp2_with fail
      rw [HE.out k hlt, Oper.upon_enter]
      refine HST.out.mono ?_
      rintro e w2 ⟨c, rfl, h1, h2⟩
      by_cases hc0 : c = 0
      · subst hc0
        have HI2 := hid (h1 rfl)
        clear h1 h2 hc
        go_wp2
        go_roundw
        case rel => exact ⟨k + 1, by omega, by go_num, HI2.out⟩
        case measure => simp [intOf]; omega
      · have HR2 := hid (h2 hc0)
        have HN := hid hc0
        have hz : (c == 0) = false := by simpa using hc0
        have hz2 : (c != 0) = true := by simpa using hc0
        clear h1 h2 hc hc0
        go_wp2
        go_ret
        exact ⟨c, rfl, fun h => absurd h HN.out, fun _ => HR2.out⟩
    · obtain rfl : k = n := by omega
      go_wp2
      go_ret
      exact ⟨0, rfl, fun _ => HI.out, fun h => absurd rfl h⟩
theorem enter_flush (xs : Array Value) (w : World) : (callFunc 16 xs).run Tryz.prog w = .ok (.enter 16 xs) w := by kernel_rfl
end Go.Proofs.YtlondopgibcikaaGreat
namespace Go.Proofs.YtlondopgibcikaaGreat
open Go.RowKit Ent
set_option maxRecDepth 100000 in
set_option maxHeartbeats 400000 in
theorem vclone_any (ao : Option Addr) (n c : Nat) (l : List UInt8) (hn : n = l.length) (hb : n ≤ 1073741824) (w : World) (hs : SB w ao c l) :
    Calls Tryz.prog 75 #[.slice ao n c] w fun e w' => ∃ v, e = .returned v ∧ w'.ownsRow w.heap.size 5 1 v n (bv l) ∧ Below w.heap.size w w' := by
  have HS := hid hs; have HN := hid hn
  rcases ao with _ | ad
  · have hl : l = [] := by
      rcases hs with ⟨_, _, h⟩ | ⟨_, h, _⟩ | ⟨_, _, h, _⟩
      · exact h
      · cases h
      · cases h
    subst hl
    have h0 : n = 0 := by rw [hn]; rfl
    subst h0
    clear hn hs
    have hel := fun W : World => Lib.run_eql_slice_nil (P := Tryz.prog) W 44 5 none 0 c 0 0 Tryz.underlying44
    go_enter Tryz.func75, Tryz.ntmps75
    go_wp2
    go_ret
    exact ⟨_, rfl, World.ownsRow_nil _ _ _ _, Below.refl _ _⟩
  · clear hn hs
    have hel := fun W : World => Lib.run_eql_slice_nil (P := Tryz.prog) W 44 5 (some ad) n c 0 0 Tryz.underlying44
    go_enter Tryz.func75, Tryz.ntmps75
    go_wp2_with (refine wpl_append rfl (.tmp 5) (.tmp 6) rfl w.heap.size _ _ _ l rfl (owns_empty w) (some ad) n c rfl HN.out (HS.out.below (fresh_alloc w _)) (by omega) (by simp) ?_; intro v2 w2 ho2 hg2 _; have HO2 := hid ho2; have HB2 := hid (below_grown (fresh_alloc w _) (owns_empty w) hg2 (Nat.le_refl _)); clear ho2 hg2)
    go_ret
    exact ⟨_, rfl, by have := HO2.out; rw [Nat.zero_add] at this; simpa using this, HB2.out⟩
/-- a row that is new is the record under way -/
theorem ScanI.took {B : Nat} {w0 wr w' : World} {vo vr v : Value} {out : List (List UInt8)} {rec l : List UInt8} {vs : List Value} {Fb : Nat → Prop} (h : ScanI B w0 wr vo vr out rec vs Fb) (ho : w'.ownsRow wr.heap.size 5 1 v l.length (bv l)) (hbe : Below wr.heap.size wr w') :
    ScanI B w0 w' vo v out l vs Fb :=
  { h.below hbe with
    rr := owns_mono ho h.bl
    nr := fun k hk => by
      have h1 := (ho.lt k hk).1
      exact ⟨fun hf => by have := (h.fb _ hf).2; omega, fun he => by have := own_lt h.oo _ he; omega⟩ }
set_option maxRecDepth 100000 in
set_option maxHeartbeats 1000000 in
theorem vcopied_any (lo : Option Addr) (n c : Nat) (L : List (List UInt8)) (hn : n = L.length) (hb : n ≤ 1073741824) (hl : ∀ l ∈ L, l.length ≤ 1073741824) (w : World) (hL : LR w lo L) :
    Calls Tryz.prog 92 #[.slice lo n c] w fun e w' => ∃ v, e = .returned v ∧ FreshL w.heap.size w' v L ∧ Below w.heap.size w w' := by
  have HN := hid hn; have HL := hid hL; have HLL := hid hl
  clear hn hL hl
  go_enter Tryz.func92, Tryz.ntmps92
  go_wp2_with fail
  go_loopw [2, 7] (fun v2 i wr => ∃ (vo : Value) (k : Nat) (vs : List Value) (Fb : Nat → Prop), vo = v2 ∧ k ≤ n ∧ i = .int .i64 k ∧ ScanI w.heap.size w wr vo (.slice none 0 0) (L.take k) [] vs Fb) (fun _ i _ => n - (intOf i).toNat)
  case atStart => exact ⟨_, 0, [], _, rfl, Nat.zero_le _, rfl, ScanI.start w⟩
  case round =>
    obtain ⟨vo, k, vs, Fb, rfl, hk, rfl, hI⟩ := hrel
    have HI := hid hI
    clear hI
    by_cases hlt : k < n
    · obtain ⟨l, hll⟩ : ∃ l, L[k]? = some l := ⟨_, List.getElem?_eq_getElem (by rw [← HN.out]; exact hlt)⟩
      obtain ⟨b1, o1, lo1, cap1, rfl, cx, hcap, hs1⟩ := (HL.out.below HI.out.be).at hll
      have hlb := HLL.out l (List.mem_of_getElem? hll)
      have HT : Hid (L.take (k + 1) = L.take k ++ [l]) := hid (by rw [List.take_add_one, hll]; rfl)
      have HTL : Hid ((L.take k).length = k) := hid (by simp; rw [← HN.out]; omega)
      obtain ⟨u, hu⟩ : ∃ u, l.length = u := ⟨_, rfl⟩
      rw [hu] at cx hlb
      have HU := hid hu; have HS1 := hid hs1
      clear hll hcap hs1 hu
      go_wp2_with fail
      refine (vclone_any lo1 u cap1 l HU.out.symm hlb wr HS1.out).mono ?_
      rintro e w4 ⟨v, rfl, ho, hb4⟩
      have HI4 := hid (HI.out.took (by rw [HU.out]; exact ho) hb4)
      obtain ⟨a4, c4, rfl⟩ := own_slice ho
      clear ho hb4
      go_wp2_with (refine wpl_appendR rowL rfl (.tmp 11) (.tmp 14) rfl w.heap.size vo _ vs rfl (HI4.out.below (fresh_alloc w4 _)).oo w4.heap.size rfl [.slice a4 u c4] (alloc_new w4 _) rfl (by intro u hu; simp at hu; subst hu; rfl) (by rw [HTL.out]; omega) (HI4.out.below (fresh_alloc w4 _)).bl ?_; intro v7 w7 ho7 hg7 hw7; have HI7 := hid ((HI4.out.below (fresh_alloc w4 (.cells #[.slice a4 u c4] 44))).told ho7 hg7 hw7); clear ho7 hg7 hw7)
      go_roundw
      case rel => exact ⟨v7, k + 1, _, _, rfl, by omega, by go_num, by rw [HT.out]; exact HI7.out⟩
      case measure => simp [intOf]; omega
    · obtain rfl : k = n := by omega
      have HE : Hid (L.take k = L) := hid (List.take_of_length_le (by rw [← HN.out]; exact Nat.le_refl _))
      go_wp2
      go_ret
      exact ⟨vo, rfl, by have := HI.out.fresh; rw [HE.out] at this; exact this, HI.out.be⟩
end Go.Proofs.YtlondopgibcikaaGreat
namespace Go.Proofs.YtlondopgibcikaaGreat
open Go.RowKit Ent
theorem run_append_zeros {P : Program} (w : World) (t u ty e : TypeId) (i : TypeInfo) (z : Value) (ht : P.underlying t = some (.slice e)) (hu : P.underlying u = some (.int .i64)) (hi : P.info? e = some i) (hz : i.zero = some z)
    (n : Nat) (h0 : 0 < n) (hs : n * i.size ≠ 0) (h63 : n ≤ 65536) (h48 : n * i.bytes ≤ 281474976710656) :
    (Builtin.append_ #[t, u] ty #[.slice none 0 0, .int .i64 (n : Int)]).run P w =
      .ok (.slice (some ⟨w.heap.size, 0, none⟩) n (grownCap w n 0 e)) (w.drew.alloc (.cells (Builtin.zeroCells z.cells n ++ Builtin.zeroCells z.cells (grownCap w n 0 e - n)) e)) := by
  have hn : n ≠ 0 := by omega
  have h63' : ¬ (9223372036854775807 < (n : Int)) := by omega
  have h48' : ¬ (281474976710656 < Builtin.nextslicecap n 0 * i.bytes) := by rw [nextslicecap_zero h0]; omega
  have hw : IntKind.i64.wrap (n : Int) = (n : Int) := IntWalk.i64_in _ (by omega)
  have hb : ¬ ((281474976710656 : Int) < (n : Int) * (i.bytes : Int)) := by
    rw [← Int.natCast_mul]; omega
  have hneg : ¬ ((n : Int) < 0) := by omega
  have hmax : max (n : Int) 0 = (n : Int) := by omega
  simp [Builtin.append_, run_underlying ht, run_underlying hu, sizeOf, typeInfo, zeroValue, hi, hz, asInt, asIntOf, hw, hb, hneg, hmax, hn, hs, h63', h48', Question.forced, run_firstCells_none, newRow, grownCap]
theorem wpl_appendZ {w : World} {ops : Array Oper} {rest : List Oper} {o : Oper} {a : Act} {Q : Exit → Act → World → Prop} (hgd : o.guard = none) (s x : Operand)
    (ho : o.op = .call { callee := .builtin .append, args := #[s, x], argTypes := #[44, 3] })
    (n : Nat) (h0 : 0 < n) (h1 : n ≤ 65536) (hs : a.eval s = .slice none 0 0) (hx : a.eval x = .int .i64 n)
    (h : ∀ w' c, w'.ownsRow w.heap.size 5 1 (.slice (some ⟨w.heap.size, 0, none⟩) 0 c) 0 (bv []) → Below w.heap.size w w' → n ≤ c → wpList Tryz.prog ops Q rest (a.put o.dst (.slice (some ⟨w.heap.size, 0, none⟩) n c)) w') : wpList Tryz.prog ops Q (o :: rest) a w := by
  refine wpList_plain hgd fun _ hK => ?_
  obtain ⟨i, hi, hz0, hz1, hz2⟩ := info_u8
  have hag := run_append_zeros (P := Tryz.prog) w 44 3 o.type 5 i (.int .u8 0) Tryz.underlying44 Tryz.underlying3 hi hz0 n h0 (by rw [hz1]; omega) h1 (by rw [hz2]; omega)
  obtain ⟨gc, hgc⟩ : ∃ gc, grownCap w n 0 5 = gc := ⟨_, rfl⟩
  have hge : n ≤ gc := by rw [← hgc]; exact grownCap_ge w n 0 _
  have hle : gc ≤ maxLen := by rw [← hgc]; exact grownCap_le_maxLen w n 0 _ (by simp [maxLen]; omega)
  rw [hgc] at hag
  obtain ⟨w1, hw1⟩ : ∃ w1, w.drew.alloc (.cells (Builtin.zeroCells (Value.int .u8 0).cells n ++ Builtin.zeroCells (Value.int .u8 0).cells (gc - n)) 5) = w1 := ⟨_, rfl⟩
  have HO : w1.ownsRow w.heap.size 5 1 (.slice (some ⟨w.heap.size, 0, none⟩) 0 gc) 0 (bv []) := by
    rw [← hw1]
    exact World.ownsRow_made (base := w.heap.size) (e := 5) (size := 1) w.drew (Builtin.zeroCells (Value.int .u8 0).cells n ++ Builtin.zeroCells (Value.int .u8 0).cells (gc - n)) gc (Nat.le_refl _) hle (by rw [Array.size_append, size_zeroCells, size_zeroCells]; simp [Value.cells]; omega)
  have HB : Below w.heap.size w w1 := by rw [← hw1]; exact ((Below.refl _ _).drew).alloc (Nat.le_refl _) _
  rw [hw1] at hag
  have := h _ _ HO HB hge
  unfold Oper.wp execOp
  simp only [ho, resolve, invoke, builtin, Sem.run_bind, Sem.run_pure, Result.andThen_ok, List.map_toArray, List.map_cons, List.map_nil, hs, hx, hag]
  exact hK _ _ this
set_option maxRecDepth 100000 in
set_option maxHeartbeats 400000 in
theorem vgrow_nil (n : Nat) (h0 : 0 < n) (h1 : n ≤ 65536) (w : World) :
    Calls Tryz.prog 122 #[.slice none 0 0, .int .i64 n] w fun e w' => ∃ v, e = .returned v ∧ w'.ownsRow w.heap.size 5 1 v 0 (bv []) ∧ Below w.heap.size w w' := by
  have HD : Hid (decide ((n : Int) < 0) = false ∧ decide (0 < (n : Int)) = true) := hid ⟨by simp, by simpa using h0⟩
  have HW : Hid (IntKind.i64.wrap ((n : Int) - 0) = n) := hid (by rw [Int.sub_zero]; exact IntWalk.i64_in _ (by omega))
  have HW2 : Hid (IntKind.i64.wrap (n : Int) = n) := hid (IntWalk.i64_in _ (by omega))
  have hw := HW.out
  have hw2 := HW2.out
  have hd := HD.out.1
  have hd2 := HD.out.2
  have H0 := hid h0; have H1 := hid h1
  clear h0 h1
  go_enter Tryz.func122, Tryz.ntmps122
  go_wp2_with (refine wpl_appendZ rfl (.tmp 20) (.tmp 21) rfl n H0.out H1.out rfl rfl ?_; intro w1 c ho hb hc; have HO := hid ho; have HB := hid hb; clear ho hb)
  go_ret
  exact ⟨_, rfl, HO.out, HB.out⟩
set_option maxRecDepth 100000 in
set_option maxHeartbeats 1000000 in
theorem vconcat_two (g : Nat) (h : List UInt8) (hl : h.length = 32) (w : World) (hL : LR w (some ⟨g, 0, none⟩) [h, h]) :
    Calls Tryz.prog 110 #[.slice (some ⟨g, 0, none⟩) 2 2] w fun e w' => ∃ v, e = .returned v ∧ w'.ownsRow w.heap.size 5 1 v 64 (bv (h ++ h)) ∧ Below w.heap.size w w' := by
  have HH := hid hl; have HL := hid hL
  have hcell : ∀ k, k < 2 → ∃ lo cap, w.cell? ⟨g, k, none⟩ = some (.slice lo 32 cap) ∧ SB w lo cap h := by
    intro k hk
    rcases hL with hL | ⟨b, o, hbo, hL⟩
    · cases hL
    · cases hbo
      obtain ⟨lo, cap, hc, _, hs⟩ := hL k h (by rcases k with _ | _ | k <;> first | rfl | omega)
      exact ⟨lo, cap, by rw [hl] at hc; simpa using hc, hs⟩
  have HC := hid hcell
  clear hl hL hcell
  go_enter Tryz.func110, Tryz.ntmps110
  go_wp2_with fail
  go_loopw [3, 11] (fun v3 i wr => ∃ (k : Nat) (s : Int), k ≤ 2 ∧ s = 32 * (k : Int) ∧ v3 = .int .i64 s ∧ i = .int .i64 k ∧ wr = w) (fun _ i _ => 2 - (intOf i).toNat)
  case atStart => exact ⟨0, 0, Nat.zero_le _, rfl, rfl, rfl, rfl⟩
  case round =>
    obtain ⟨k, s, hk, hs, rfl, rfl, hwr⟩ := hrel
    subst wr
    by_cases hlt : k < 2
    · obtain ⟨lo, cap, cx, _⟩ := HC.out k hlt
      obtain ⟨t, ht⟩ : ∃ t : Int, t = s + 32 := ⟨_, rfl⟩
      have q1 : IntKind.i64.wrap (s + 32) = t := by rw [IntWalk.i64_in _ (by omega)]; omega
      have q2 : decide (t < 0) = false := decide_eq_false (by omega)
      have HT := hid ht; have HS := hid hs
      clear ht hs
      go_wp2_with fail
      go_roundw
      case rel => exact ⟨k + 1, t, by omega, by have := HT.out; have := HS.out; omega, by trivial, by go_num, by trivial⟩
      case measure => simp [intOf]; omega
    · obtain rfl : k = 2 := by omega
      obtain rfl : s = ((64 : Nat) : Int) := by omega
      go_wp2_with fail
      go_at_call 122
      refine (vgrow_nil 64 (by omega) (by omega) w).mono ?_
      rintro e w1 ⟨v, rfl, ho, hb⟩
      have HO := hid ho; have HB := hid hb
      clear ho hb
      go_wp2_with fail
      go_loopw [6, 27] (fun v6 i w2 => ∃ k : Nat, k ≤ 2 ∧ i = .int .i64 k ∧ w2.ownsRow w.heap.size 5 1 v6 (32 * k) (bv (List.replicate k h).flatten) ∧ Below w.heap.size w w2) (fun _ i _ => 2 - (intOf i).toNat)
      case atStart => exact ⟨0, Nat.zero_le _, rfl, HO.out, HB.out⟩
      case round =>
        obtain ⟨k, hk, rfl, ho, hb⟩ := hrel
        have HO2 := hid ho; have HB2 := hid hb
        clear ho hb
        by_cases hlt : k < 2
        · obtain ⟨lo, cap, cx0, hs⟩ := HC.out k hlt
          have cx := (HB2.out.cell (World.block_lt_of_cell? w _ cx0)).trans cx0
          have HS := hid (hs.below HB2.out)
          clear cx0 hs
          go_wp2_with (refine wpl_append rfl (.tmp 31) (.tmp 32) rfl w.heap.size _ _ _ h rfl HO2.out _ _ _ rfl HH.out.symm HS.out (by omega) HB2.out.size ?_; intro v3 w3 ho3 hg3 _; have HO3 := hid ho3; have HB3 := hid (hg3); clear ho3 hg3)
          go_roundw
          case rel => exact ⟨k + 1, by omega, by go_num, by have := HO3.out; rw [show 32 * (k + 1) = 32 * k + 32 by omega, List.replicate_succ', List.flatten_append]; simpa using this, below_grown HB2.out HO2.out HB3.out (Nat.le_refl _)⟩
          case measure => simp [intOf]; omega
        · obtain rfl : k = 2 := by omega
          go_wp2
          go_ret
          exact ⟨_, rfl, by have := HO2.out; simpa [List.replicate] using this, HB2.out⟩
end Go.Proofs.YtlondopgibcikaaGreat
