/- The walk of the log's parts: a record, cut. -/
import Derived.RangeFuncNested
import Derived.RangeFuncBox
import Derived.RangeFuncLeaves
import Derived.Shelf.Abstract
import Derived.Shelf.RegionOpen
import Derived.WalkKit
import Derived.OwnWalkIn
import Derived.TacticsInMore
import Derived.LoopNIn
import Derived.LoopIn
import Derived.Maps.AppendAt
import Derived.WalkSpells
import Derived.Lib.SliceRun
import Derived.Test.YtlondopgibcikaaRows
import Derived.Test.YtlondopgibcikaaHeap
import Derived.Test.YtlondopgibcikaaKit
import Derived.Test.YtlondopgibcikaaLL
import Derived.Test.YtlondopgibcikaaLogP
import Derived.Test.YtlondopgibcikaaChunk
namespace Go.Proofs.Ytlondopgibcikaa
open Go.RowKit Go.Shelf Ent

attribute [local go_sem] Oper.semAt_some

theorem owns_mono {w : World} {base base' : Nat} {e : TypeId} {s : Nat} {v : Value} {n : Nat} {xs : List Value} (h : w.ownsRow base e s v n xs) (hb : base' ≤ base) : w.ownsRow base' e s v n xs :=
  ⟨h.1, h.2.imp id fun ⟨g, c, cur, h1, h2, h3⟩ => ⟨g, c, cur, h1, Nat.le_trans hb h2, h3⟩⟩
theorem results_cell1 {P : Program} {fn : Func} {p : Tmp} {ty e : TypeId} (h : fn.results = #[.cell p ty]) (tmps : Array Value) (w : World) (g : Nat) (v : Value) (hp : tmps.getD p undef = .pointer (some ⟨g, 0, none⟩)) (hu : P.underlying ty = some (.slice e)) (hc : w.cell? ⟨g, 0, none⟩ = some v) :
    (results fn tmps).run P w = .ok v w := by
  have hp' : tmps[p]?.getD undef = .pointer (some ⟨g, 0, none⟩) := by simpa using hp
  have ha : (isAgg ty).run P w = .ok false w := by simp [isAgg, run_underlying hu]
  simp [results, h, hp', asAddr, loadVar, ha, go_sem]
  rw [hc]
def encV (b o : Nat) (x : Nat × Nat) : Value := .slice (some ⟨b, o + x.1, none⟩) x.2 x.2
set_option maxRecDepth 100000 in
set_option maxHeartbeats 2000000 in
theorem parts_in (F : Fence) (m : Nat) (h3 : F.fn 114) (h4 : F.fn 147) (h5 : F.fn 160) (hro : F.round = none) (hm : 3 ≤ m) (b o n c : Nat) (ao : Option Addr) (hao : n = 0 ∨ ao = some ⟨b, o, none⟩) (hn : n ≤ 1073741824) (hc : n ≤ c) (w : World) :
    CallsIn F m Try.prog 114 #[.slice ao n c] w fun e W' => ∃ v, e = .returned v ∧ W'.ownsRow w.heap.size 22 1 v (needOf n) (if n = 0 then [.slice none 0 0] else (pieces n (q49 n)).map (encV b o)) ∧ Below w.heap.size w W' := by
  have h1 : 1 ≤ m := by omega
  obtain ⟨i0, hi, hz0, hz1, hz2⟩ := rowL.inf
  refine callsIn_of_wp_marks Try.func114 rfl h3 ?_ hro
  simp only [Try.ntmps114, List.size_toArray, List.length_cons, List.length_nil, Nat.reduceAdd, Nat.reduceSub, Array.replicate_succ, Array.replicate_zero, List.push_toArray, List.append_toArray, List.nil_append, List.cons_append]
  gi_wp2_with (gi_at_call 147; refine (chunk_in F (m - 1) h4 hro ao n c _).mono ?_; rintro e w' ⟨rfl, rfl⟩)
  have bO := Boxed.new w 79 (.slice none 0 0)
  have bO2 := (bO.alloc (.cells #[.slice ao n c] 22)).alloc (.cells #[.int .i64 49] 3)
  have bS := (Boxed.new (w.alloc (.cells #[.slice none 0 0] 79)) 22 (.slice ao n c)).alloc (.cells #[.int .i64 49] 3)
  have bN := Boxed.new ((w.alloc (.cells #[.slice none 0 0] 79)).alloc (.cells #[.slice ao n c] 22)) 3 (.int .i64 49)
  rw [World.size_alloc] at bS
  rw [World.size_alloc, World.size_alloc] at bN
  have hB0 : Below w.heap.size w (((w.alloc (.cells #[.slice none 0 0] 79)).alloc (.cells #[.slice ao n c] 22)).alloc (.cells #[.int .i64 49] 3)) := (((Below.refl _ w).alloc (Nat.le_refl _) _).alloc (by simp) _).alloc (by simp; omega) _
  have hsz0 : (((w.alloc (.cells #[.slice none 0 0] 79)).alloc (.cells #[.slice ao n c] 22)).alloc (.cells #[.int .i64 49] 3)).heap.size = w.heap.size + 3 := by simp
  obtain ⟨w0, hw0⟩ : ∃ w0, ((w.alloc (.cells #[.slice none 0 0] 79)).alloc (.cells #[.slice ao n c] 22)).alloc (.cells #[.int .i64 49] 3) = w0 := ⟨_, rfl⟩
  rw [hw0] at bO2 bS bN hB0 hsz0 ⊢
  clear hw0 bO
  refine wpIn_rangeFunc_ownG hro h1 (gf := 160) (lb := #[.pointer (some ⟨w.heap.size + 1, 0, none⟩), .pointer (some ⟨w.heap.size + 1 + 1, 0, none⟩)]) rfl h5 (enters_of Try.func160 (by kernel_rfl) rfl)
    (chunk_stops F (m - 1) h5 hro (by omega) w.heap.size (w.heap.size + 1) (w.heap.size + 1 + 1) b o n c ao hao hn hc w0 (by omega) (by omega) (by omega) (by omega) bS.cell bN.cell) kpA_t (kpA_b (Nat.le_refl _)) (Below.refl _ _) (fun _ => rfl)
    (fun pre W => ((∃ v, Boxed W w.heap.size 79 v ∧ W.ownsRow w0.heap.size 22 1 v pre.length (pre.map (encV b o)) ∧ (v = .slice none 0 0 ↔ pre = [])) ∧ Below w.heap.size w W) ∧ w0.heap.size ≤ W.heap.size)
    (fun _ _ _ => False)
    (OwnFrom.and (OwnFrom.and (Own.from (holdsRow_own w0.heap.size w.heap.size 79 22 1 (fun pre => pre.length) (fun pre => pre.map (encV b o)) (fun pre v => v = .slice none 0 0 ↔ pre = [])) _) (ownFrom_below (Nat.le_refl _) (by omega))) (fun s A B row h hg _ => Nat.le_trans h hg.size))
    (fun _ _ _ _ _ hs _ _ => hs)
    ⟨⟨⟨_, bO2, World.ownsRow_nil _ _ _ _, by simp⟩, hB0⟩, Nat.le_refl _⟩
    (fun x => { tmps := #[.slice ao n c, undef, .pointer (some ⟨w.heap.size, 0, none⟩), .slice (some ⟨b, o + x.1, none⟩) x.2 x.2, .slice ao n c, .func (.func 160) #[] #[.pointer (some ⟨w.heap.size + 1, 0, none⟩), .pointer (some ⟨w.heap.size + 1 + 1, 0, none⟩)], .slice (some ⟨b, o + x.1, none⟩) x.2 x.2, undef, undef, undef, undef, undef, undef, undef, undef], defers := [] }) ?assign ?body ?done ?stop
  case assign =>
    intro l x W K hK
    dsimp only [encP]
    gi_wp2
    exact hK
  case body =>
    rintro l pre x W ⟨⟨⟨v, hv, hrow, hnil⟩, hB⟩, hsz⟩ hlt
    have hc := hv.cell
    have hq : q49 n ≤ 1073741824 := by unfold q49; omega
    have hrow1 := owns_mono hrow (show w.heap.size ≤ w0.heap.size by omega)
    gi_wp2_with (gi_at_builtin; refine wpListIn_append_own _ rfl _ _ 79 rfl w0.heap.size 22 i0 (.slice none 0 0) 1 24 Try.underlying79 hi hz0 hz1 hz2 rfl (by decide) _ _ _ rfl (hrow.alloc _) ⟨W.heap.size, 0, none⟩ 1 1 [.slice (some ⟨b, o + x.1, none⟩) x.2 x.2] rfl rfl (cell_one_new _ _ _) (by simp [Value.oneCell']) (by simp [maxLen]; omega) (by omega) (by simp; omega) ?_; intro v' w1 hown' hgrow _; obtain ⟨g', cap', rfl⟩ := ownsRow_succ hown'; obtain ⟨hv1, hv2, hr2, hk2, hb2⟩ := hv.appended (by decide) hrow1 hB.size (Nat.le_refl _) (owns_mono hown' (show w.heap.size ≤ w0.heap.size by omega)) hgrow; have hc1 := hv1.cell; have hf1 := hv1.frozen)
    have hr3 : (w1.setCell ⟨w.heap.size, 0, none⟩ (.slice (some ⟨g', 0, none⟩) (pre.length + 1) cap')).ownsRow w0.heap.size 22 1 (.slice (some ⟨g', 0, none⟩) (pre.length + 1) cap') (pre.length + 1) (pre.map (encV b o) ++ [.slice (some ⟨b, o + x.1, none⟩) x.2 x.2]) :=
      hown'.kept (grownBy_setCell' w1 w.heap.size _) (.inr (hv1.not_row (by decide) hown').symm)
    have hkp : KpA w.heap.size w0.heap.size W (w1.setCell ⟨w.heap.size, 0, none⟩ (.slice (some ⟨g', 0, none⟩) (pre.length + 1) cap')) := fun p h1 h2 => by
      rw [World.cell?_setCell_other _ _ _ _ (fun e => h2 (by rw [← e]))]
      have hbl : p.block < (W.alloc (.cells #[.slice (some ⟨b, o + x.1, none⟩) x.2 x.2] 22)).heap.size := by simp; omega
      rw [World.cell?_of_block (hgrow.block p.block hbl (fun e => by have := owns_ge hrow _ e.symm; omega))]
      exact World.cell?_alloc_lt W _ p (by omega)
    refine ⟨hk2.from _, hkp, ⟨⟨_, hv2, ?_, by simp⟩, hB.trans hb2⟩, by have := hgrow.size; simp at this ⊢; omega⟩
    rw [List.length_append, List.map_append]; exact hr3
  case done =>
    rintro D ys W hD rfl ⟨⟨⟨v, hv, hrow, hnil⟩, hB⟩, hsz⟩ hK
    have hc := hv.cell
    have hf := hv.frozen
    rw [pieces_len] at hrow
    have HROW := hid hrow; have HNIL := hid hnil; have HB := hid hB; have HV := hid hv; have HS0 := hid (show w.heap.size + 3 ≤ w0.heap.size by omega); have HD := hid hD
    clear hD hB hB0 hsz0 hsz bO2 bS bN hi hz0 hz1 hz2 hnil hv h1 h3 h4 h5 hrow
    by_cases hz : n = 0
    · subst hz
      have hv0 : v = .slice none 0 0 := HNIL.out.2 rfl
      subst hv0
      clear HNIL hao
      have hel := fun W : World => Lib.run_eql_slice_nil (P := Try.prog) W 79 22 none 0 0 0 0 Try.underlying79
      have hc1 := alc hc
      have B3 := hid ((HV.out.set (.slice (some ⟨W.heap.size, 0, none⟩) 1 1)).alloc (.cells #[.slice none 0 0] 22))
      have HWS := hid (lt_blk hK)
      have hBW := HV.out.lt
      have HK := hid hK
      gi_wp2
      have hK3 : ((W.setCell ⟨w.heap.size, 0, none⟩ (.slice (some ⟨W.heap.size, 0, none⟩) 1 1)).alloc (.cells #[.slice none 0 0] 22)).heap[D]? = some (.deferred (some [])) :=
        alloc_old (set_other HK.out _ (by show D ≠ w.heap.size; have := HS0.out; have := HD.out; omega)) _
      have hnew := alloc_new (W.setCell ⟨w.heap.size, 0, none⟩ (.slice (some ⟨W.heap.size, 0, none⟩) 1 1)) (.cells #[.slice none 0 0] 22)
      rw [show (W.setCell ⟨w.heap.size, 0, none⟩ (.slice (some ⟨W.heap.size, 0, none⟩) 1 1)).heap.size = W.heap.size by simp] at hnew
      refine ⟨by simp, .inl ⟨_, _, rfl, run_takeDeferred hK3, ?_⟩⟩
      refine ⟨_, results_cell1 rfl _ _ w.heap.size _ rfl Try.underlying79 ((World.cell?_of_block (World.putObj_heap_other (show w.heap.size ≠ D by have := HS0.out; have := HD.out; omega))).trans B3.out.cell), _, rfl, ⟨rfl, .inr ⟨W.heap.size, 1, #[.slice none 0 0], rfl, HB.out.size, ?_, by simp [needOf], by simp [maxLen], rfl, rfl⟩⟩, ?_⟩
      · rw [World.putObj_heap_other (show W.heap.size ≠ D by have := HWS.out; omega)]
        exact hnew
      · exact ((HB.out.setCell (p := ⟨w.heap.size, 0, none⟩) (Nat.le_refl _) _).alloc (by simp; exact HB.out.size) _).trans (belowK_b (w := w) (Nat.le_refl _) _ D _ _ (by have := HS0.out; have := HD.out; omega) hK3 rfl rfl)
    · obtain ⟨j, hj⟩ : ∃ j, q49 n = j + 1 := ⟨q49 n - 1, by unfold q49; omega⟩
      have HNE : Hid (needOf n = q49 n) := hid (by unfold needOf; rw [if_neg hz]; rfl)
      obtain ⟨g, cap, rfl⟩ := ownsRow_succ (k := j) (by rw [← hj]; exact HROW.out)
      clear hj HNIL hao
      have hel := fun W : World => Lib.run_eql_slice_nil (P := Try.prog) W 79 22 (some ⟨g, 0, none⟩) (j + 1) cap 0 0 Try.underlying79
      have B2 := hid (HV.out.set (.slice (some ⟨g, 0, none⟩) (j + 1) cap))
      have HK := hid hK
      gi_wp2
      have hK3 : (W.setCell ⟨w.heap.size, 0, none⟩ (.slice (some ⟨g, 0, none⟩) (j + 1) cap)).heap[D]? = some (.deferred (some [])) :=
        set_other HK.out _ (by show D ≠ w.heap.size; have := HS0.out; have := HD.out; omega)
      refine ⟨by simp, .inl ⟨_, _, rfl, run_takeDeferred hK3, ?_⟩⟩
      refine ⟨_, results_cell1 rfl _ _ w.heap.size _ rfl Try.underlying79 ((World.cell?_of_block (World.putObj_heap_other (show w.heap.size ≠ D by have := HS0.out; have := HD.out; omega))).trans B2.out.cell), _, rfl, ?_, ?_⟩
      · rw [HNE.out]
        refine ownsRow_putObj ?_ _ hK3 rfl
        exact (owns_mono HROW.out (show w.heap.size ≤ w0.heap.size by have := HS0.out; omega)).kept (grownBy_setCell' W w.heap.size _) (.inr (HV.out.not_row (by decide) HROW.out).symm)
      · exact (HB.out.setCell (p := ⟨w.heap.size, 0, none⟩) (Nat.le_refl _) _).trans (belowK_b (w := w) (Nat.le_refl _) _ D _ _ (by have := HS0.out; have := HD.out; omega) hK3 rfl rfl)
  case stop =>
    rintro D c pre W _ _ h _
    exact h.elim
end Go.Proofs.Ytlondopgibcikaa
