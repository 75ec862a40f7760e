/- The walk of slices.Chunk's iterator. The walk of the log's parts: a record, cut. The walk of the log's Write. -/
import Derived.Test.YtlondopgibcikaaGreatRows
import Derived.Test.YtlondopgibcikaaGreatG01
import Derived.Test.YtlondopgibcikaaGreatG02
import Derived.Test.YtlondopgibcikaaGreatG03
import Derived.Test.YtlondopgibcikaaGreatG04
import Derived.Test.YtlondopgibcikaaGreatG05
import Derived.Test.YtlondopgibcikaaGreatG06
import Derived.Test.YtlondopgibcikaaGreatG07
import Derived.Test.YtlondopgibcikaaGreatG08
import Derived.Test.YtlondopgibcikaaGreatG09
import Derived.Test.YtlondopgibcikaaGreatG10
import Derived.Test.YtlondopgibcikaaGreatG13
import Derived.RangeFuncNested
import Derived.RangeFuncBox
import Derived.RangeFuncLeaves
import Derived.Shelf.Abstract
import Derived.Shelf.RegionOpen
import Derived.WalkKit
import Derived.OwnWalkIn
import Derived.TacticsInMore
import Derived.LoopNIn
import Derived.LoopIn
import Derived.Maps.AppendAt
import Derived.WalkSpells
import Derived.Lib.SliceRun
import Derived.WalkLawsBesides
import Derived.Deep.RegionHeld3
import Derived.Deep.QuietTactic
import Derived.BigQuiet
namespace Go.Proofs.YtlondopgibcikaaGreat
open Go.RowKit Go.Shelf Ent
attribute [local go_sem] Oper.semAt_some
/-- the pieces of so many: where they begin and how long they are, k of them -/
def pieces (n k : Nat) : List (Nat × Nat) := (List.range k).map fun j => (49 * j, min 49 (n - 49 * j))
theorem pieces_succ (n k : Nat) : pieces n (k + 1) = pieces n k ++ [(49 * k, min 49 (n - 49 * k))] := by simp [pieces, List.range_succ]
theorem pieces_len (n k : Nat) : (pieces n k).length = k := by simp [pieces]
def encP (b o : Nat) (x : Nat × Nat) : Array Value := #[.slice (some ⟨b, o + x.1, none⟩) x.2 x.2]
set_option maxRecDepth 100000 in
set_option maxHeartbeats 2000000 in
theorem chunk1_in (F : Fence) (m : Nat) (h7 : F.fn 125) (hro : F.round = none) (hm : 1 ≤ m) (l Bs Bn b o n c q : Nat) (hn : n ≤ 1073741824) (hc : n ≤ c) (hq : q = (n + 48) / 49) (Kp : World → World → Prop) (hKc : ∀ W W', Kp W W' → W'.cell? ⟨Bs, 0, none⟩ = W.cell? ⟨Bs, 0, none⟩ ∧ W'.cell? ⟨Bn, 0, none⟩ = W.cell? ⟨Bn, 0, none⟩)
    (J Jx : List (Nat × Nat) → World → Prop) (hJd : ∀ pre W, J pre W → J pre W.drew)
    (hY : ∀ pre x W, J pre W → pre.length < q → YieldAt F (m - 1) Tryz.prog l (encP b o x) W fun e W' =>
      (e = .returned (.bool true) ∧ J (pre ++ [x]) W' ∧ Kp W W') ∨ (e = .returned (.bool false) ∧ Jx (pre ++ [x]) W'))
    (W : World) (hBs : W.cell? ⟨Bs, 0, none⟩ = some (.slice (some ⟨b, o, none⟩) n c)) (hBn : W.cell? ⟨Bn, 0, none⟩ = some (.int .i64 49)) (h0 : J [] W) :
    CallsIn F m Tryz.prog 125 #[.func (.yield l) #[] #[], .pointer (some ⟨Bs, 0, none⟩), .pointer (some ⟨Bn, 0, none⟩)] W fun e W' => (∃ v, e = .returned v) ∧
      ((∃ ys, ys = pieces n q ∧ J ys W') ∨ (∃ pre, True ∧ Jx pre W')) := by
  refine callsIn_of_wp Tryz.func125 rfl h7 ?_ hro
  simp only [Tryz.ntmps125, List.size_toArray, List.length_cons, List.length_nil, Nat.reduceAdd, Nat.reduceSub, Array.replicate_succ, Array.replicate_zero, List.push_toArray, List.append_toArray, List.nil_append, List.cons_append]
  gi_wp2
  gi_loopw [4] (fun i wr => ∃ (k i' : Nat), k ≤ q ∧ i' = 49 * k ∧ i = .int .i64 i' ∧ J (pieces n k) wr ∧ wr.cell? ⟨Bs, 0, none⟩ = some (.slice (some ⟨b, o, none⟩) n c) ∧ wr.cell? ⟨Bn, 0, none⟩ = some (.int .i64 49))
    (fun i _ => 49 * q - (intOf i).toNat)
  case atStart => exact ⟨0, 0, Nat.zero_le _, rfl, rfl, h0, hBs, hBn⟩
  case round =>
    obtain ⟨k, i', hk, hi, rfl, hJs, hs1, hn1⟩ := hrel
    have HI := hid hi
    clear hi
    by_cases hlt : i' < n
    · have hkq : k < q := by have := HI.out; omega
      have hle : i' ≤ n := by omega
      obtain ⟨e, he⟩ : ∃ e, e = min 49 (n - i') := ⟨_, rfl⟩
      have HE := hid he
      have hmin : min 49 ((n - i' : Nat) : Int) = (e : Int) := by omega
      have he1 : 1 ≤ e := by omega
      have he2 : i' + e ≤ n := by omega
      clear he
      obtain ⟨fn, tmps, assign, body, hy, hR⟩ := hY _ (i', e) wr.drew (hJd _ _ hJs) (by rw [pieces_len]; exact hkq)
      dsimp only [encP] at hy
      gi_wp2
      gi_region
      all_goals
        gi_wp2
        refine hR.mono ?_
        rintro ee W3 (⟨rfl, hJ3, hk3⟩ | ⟨rfl, hJx3⟩)
        · have hc3 := hKc _ _ hk3
          have hs3 : W3.cell? ⟨Bs, 0, none⟩ = some (.slice (some ⟨b, o, none⟩) n c) := hc3.1.trans hs1
          have hn3 : W3.cell? ⟨Bn, 0, none⟩ = some (.int .i64 49) := hc3.2.trans hn1
          have HJ3 := hid hJ3
          clear hJ3 hk3 hc3 hJs hR hy
          gi_wp2
          go_roundw
          case rel => exact ⟨k + 1, i' + 49, by omega, by have := HI.out; omega, by go_num, by rw [pieces_succ, ← HI.out, ← HE.out]; exact HJ3.out, hs3, hn3⟩
          case measure => have := HI.out; simp [intOf]; omega
        · gi_wp2
          refine bodyPost_ret (results_none rfl _ _ _) rfl ?_
          exact ⟨⟨_, rfl⟩, .inr ⟨_, trivial, hJx3⟩⟩
    · have hk9 : k = q := by have := HI.out; omega
      have HJ := hid hJs
      clear hJs
      gi_wp2
      go_end0
      exact ⟨⟨_, rfl⟩, .inl ⟨_, rfl, by rw [← hk9]; exact HJ.out⟩⟩
set_option maxRecDepth 100000 in
set_option maxHeartbeats 1000000 in
theorem chunk0_in (F : Fence) (m : Nat) (h7 : F.fn 125) (hro : F.round = none) (l Bs Bn c : Nat) (ao : Option Addr) (J : List (Nat × Nat) → World → Prop) (W : World) (hBs : W.cell? ⟨Bs, 0, none⟩ = some (.slice ao 0 c)) (h0 : J [] W) :
    CallsIn F m Tryz.prog 125 #[.func (.yield l) #[] #[], .pointer (some ⟨Bs, 0, none⟩), .pointer (some ⟨Bn, 0, none⟩)] W fun e W' => (∃ v, e = .returned v) ∧ J [] W' := by
  refine callsIn_of_wp Tryz.func125 rfl h7 ?_ hro
  simp only [Tryz.ntmps125, List.size_toArray, List.length_cons, List.length_nil, Nat.reduceAdd, Nat.reduceSub, Array.replicate_succ, Array.replicate_zero, List.push_toArray, List.append_toArray, List.nil_append, List.cons_append]
  gi_wp2
  gi_loopw [4] (fun i wr => i = .int .i64 0 ∧ J [] wr ∧ wr.cell? ⟨Bs, 0, none⟩ = some (.slice ao 0 c)) (fun _ _ => 0)
  case atStart => exact ⟨rfl, h0, hBs⟩
  case round =>
    obtain ⟨rfl, hJs, hs⟩ := hrel
    have HJ := hid hJs
    clear hJs
    gi_wp2
    go_end0
    exact ⟨⟨_, rfl⟩, HJ.out⟩
set_option maxHeartbeats 1000000 in
theorem chunk_in (F : Fence) (m : Nat) (h5 : F.fn 119) (hro : F.round = none) (ao : Option Addr) (n c : Nat) (w : World) :
    CallsIn F m Tryz.prog 119 #[.slice ao n c, .int .i64 49] w fun e w' => e = .returned (.func (.func 125) #[] #[.pointer (some ⟨w.heap.size, 0, none⟩), .pointer (some ⟨w.heap.size + 1, 0, none⟩)]) ∧ w' = (w.alloc (.cells #[.slice ao n c] 44)).alloc (.cells #[.int .i64 49] 3) := by
  refine callsIn_of_wp Tryz.func119 rfl h5 ?_ hro
  simp only [Tryz.ntmps119, List.size_toArray, List.length_cons, List.length_nil, Nat.reduceAdd, Nat.reduceSub, Array.replicate_succ, Array.replicate_zero, List.push_toArray, List.append_toArray, List.nil_append, List.cons_append]
  gi_wp2
  go_ret
  exact ⟨rfl, rfl⟩
/-- all but B0, below n0, is as it was -/
def KpA (B0 n0 : Nat) (W W' : World) : Prop := ∀ p : Addr, p.block < n0 → p.block ≠ B0 → W'.cell? p = W.cell? p
theorem kpA_t {B0 n0 : Nat} {A B C : World} (h : KpA B0 n0 A B) (k : KpA B0 n0 B C) : KpA B0 n0 A C := fun p h1 h2 => (k p h1 h2).trans (h p h1 h2)
theorem kpA_b {B0 n0 : Nat} {w : World} (hn : n0 ≤ w.heap.size) (W : World) (l : Nat) (o o' : Obj) (hl : w.heap.size ≤ l) (_ : W.heap[l]? = some o) (_ : o.isCells = false) (_ : o.isWalk = false) : KpA B0 n0 W (W.putObj l o') := fun p h1 _ =>
  World.cell?_of_block (World.putObj_heap_other (by omega))
theorem KpA.refl {B0 n0 : Nat} (W : World) : KpA B0 n0 W W := fun _ _ _ => rfl
def q49 (n : Nat) : Nat := (n + 48) / 49
theorem chunk_stops (F : Fence) (m : Nat) (h7 : F.fn 125) (hro : F.round = none) (hm : 1 ≤ m) (B0 Bs Bn b o n c : Nat) (ao : Option Addr) (hao : n = 0 ∨ ao = some ⟨b, o, none⟩) (hn : n ≤ 1073741824) (hc : n ≤ c) (w : World) (hs1 : Bs < w.heap.size) (hs2 : Bn < w.heap.size) (h01 : Bs ≠ B0) (h02 : Bn ≠ B0)
    (hBs : w.cell? ⟨Bs, 0, none⟩ = some (.slice ao n c)) (hBn : w.cell? ⟨Bn, 0, none⟩ = some (.int .i64 49)) :
    SeqStopsK F m Tryz.prog 125 #[.pointer (some ⟨Bs, 0, none⟩), .pointer (some ⟨Bn, 0, none⟩)] (encP b o) (KpA B0 w.heap.size) (fun ys => ys = pieces n (q49 n)) (fun _ => True) (q49 n) w := fun l J Jx W hW hJ _ hY h0 => by
  have hBs' := (hW.cell (p := ⟨Bs, 0, none⟩) hs1).trans hBs
  have hBn' := (hW.cell (p := ⟨Bn, 0, none⟩) hs2).trans hBn
  by_cases hz : n = 0
  · subst hz
    refine (chunk0_in F m h7 hro l Bs Bn c ao J W hBs' h0).mono ?_
    rintro e W' ⟨he, hj⟩
    exact ⟨he, .inl ⟨[], rfl, hj⟩⟩
  · obtain rfl := hao.resolve_left hz
    refine (chunk1_in F m h7 hro hm l Bs Bn b o n c (q49 n) hn hc rfl (KpA B0 w.heap.size) (fun W1 W2 h => ⟨h ⟨Bs, 0, none⟩ hs1 h01, h ⟨Bn, 0, none⟩ hs2 h02⟩) J Jx (fun pre W1 h => hJ pre W1 W1.drew none h ⟨rfl, rfl, rfl, Nat.le_refl _, fun _ _ _ => rfl⟩ (fun r e => by cases e)) hY W hBs' hBn' h0).mono ?_
    rintro e W' ⟨he, h⟩
    exact ⟨he, h⟩
end Go.Proofs.YtlondopgibcikaaGreat
namespace Go.Proofs.YtlondopgibcikaaGreat
open Go.RowKit Go.Shelf Ent
attribute [local go_sem] Oper.semAt_some
theorem owns_mono {w : World} {base base' : Nat} {e : TypeId} {s : Nat} {v : Value} {n : Nat} {xs : List Value} (h : w.ownsRow base e s v n xs) (hb : base' ≤ base) : w.ownsRow base' e s v n xs :=
  ⟨h.1, h.2.imp id fun ⟨g, c, cur, h1, h2, h3⟩ => ⟨g, c, cur, h1, Nat.le_trans hb h2, h3⟩⟩
theorem results_cell1 {P : Program} {fn : Func} {p : Tmp} {ty e : TypeId} (h : fn.results = #[.cell p ty]) (tmps : Array Value) (w : World) (g : Nat) (v : Value) (hp : tmps.getD p undef = .pointer (some ⟨g, 0, none⟩)) (hu : P.underlying ty = some (.slice e)) (hc : w.cell? ⟨g, 0, none⟩ = some v) :
    (results fn tmps).run P w = .ok v w := by
  have hp' : tmps[p]?.getD undef = .pointer (some ⟨g, 0, none⟩) := by simpa using hp
  have ha : (isAgg ty).run P w = .ok false w := by simp [isAgg, run_underlying hu]
  simp [results, h, hp', asAddr, loadVar, ha, go_sem]
  rw [hc]
def encV (b o : Nat) (x : Nat × Nat) : Value := .slice (some ⟨b, o + x.1, none⟩) x.2 x.2
set_option maxRecDepth 100000 in
set_option maxHeartbeats 2000000 in
theorem parts_in (F : Fence) (m : Nat) (h3 : F.fn 103) (h4 : F.fn 119) (h5 : F.fn 125) (hro : F.round = none) (hm : 3 ≤ m) (b o n c : Nat) (ao : Option Addr) (hao : n = 0 ∨ ao = some ⟨b, o, none⟩) (hn : n ≤ 1073741824) (hc : n ≤ c) (w : World) :
    CallsIn F m Tryz.prog 103 #[.slice ao n c] w fun e W' => ∃ v, e = .returned v ∧ W'.ownsRow w.heap.size 44 1 v (needOf n) (if n = 0 then [.slice none 0 0] else (pieces n (q49 n)).map (encV b o)) ∧ Below w.heap.size w W' := by
  have h1 : 1 ≤ m := by omega
  obtain ⟨i0, hi, hz0, hz1, hz2⟩ := rowL.inf
  refine callsIn_of_wp_marks Tryz.func103 rfl h3 ?_ hro
  simp only [Tryz.ntmps103, List.size_toArray, List.length_cons, List.length_nil, Nat.reduceAdd, Nat.reduceSub, Array.replicate_succ, Array.replicate_zero, List.push_toArray, List.append_toArray, List.nil_append, List.cons_append]
  gi_wp2_with (gi_at_call 119; refine (chunk_in F (m - 1) h4 hro ao n c _).mono ?_; rintro e w' ⟨rfl, rfl⟩)
  have bO := Boxed.new w 39 (.slice none 0 0)
  have bO2 := (bO.alloc (.cells #[.slice ao n c] 44)).alloc (.cells #[.int .i64 49] 3)
  have bS := (Boxed.new (w.alloc (.cells #[.slice none 0 0] 39)) 44 (.slice ao n c)).alloc (.cells #[.int .i64 49] 3)
  have bN := Boxed.new ((w.alloc (.cells #[.slice none 0 0] 39)).alloc (.cells #[.slice ao n c] 44)) 3 (.int .i64 49)
  rw [World.size_alloc] at bS
  rw [World.size_alloc, World.size_alloc] at bN
  have hB0 : Below w.heap.size w (((w.alloc (.cells #[.slice none 0 0] 39)).alloc (.cells #[.slice ao n c] 44)).alloc (.cells #[.int .i64 49] 3)) := (((Below.refl _ w).alloc (Nat.le_refl _) _).alloc (by simp) _).alloc (by simp; omega) _
  have hsz0 : (((w.alloc (.cells #[.slice none 0 0] 39)).alloc (.cells #[.slice ao n c] 44)).alloc (.cells #[.int .i64 49] 3)).heap.size = w.heap.size + 3 := by simp
  obtain ⟨w0, hw0⟩ : ∃ w0, ((w.alloc (.cells #[.slice none 0 0] 39)).alloc (.cells #[.slice ao n c] 44)).alloc (.cells #[.int .i64 49] 3) = w0 := ⟨_, rfl⟩
  rw [hw0] at bO2 bS bN hB0 hsz0 ⊢
  clear hw0 bO
  refine wpIn_rangeFunc_ownG hro h1 (gf := 125) (lb := #[.pointer (some ⟨w.heap.size + 1, 0, none⟩), .pointer (some ⟨w.heap.size + 1 + 1, 0, none⟩)]) rfl h5 (enters_of Tryz.func125 (by kernel_rfl) rfl)
    (chunk_stops F (m - 1) h5 hro (by omega) w.heap.size (w.heap.size + 1) (w.heap.size + 1 + 1) b o n c ao hao hn hc w0 (by omega) (by omega) (by omega) (by omega) bS.cell bN.cell) kpA_t (kpA_b (Nat.le_refl _)) (Below.refl _ _) (fun _ => rfl)
    (fun pre W => ((∃ v, Boxed W w.heap.size 39 v ∧ W.ownsRow w0.heap.size 44 1 v pre.length (pre.map (encV b o)) ∧ (v = .slice none 0 0 ↔ pre = [])) ∧ Below w.heap.size w W) ∧ w0.heap.size ≤ W.heap.size)
    (fun _ _ _ => False)
    (OwnFrom.and (OwnFrom.and (Own.from (holdsRow_own w0.heap.size w.heap.size 39 44 1 (fun pre => pre.length) (fun pre => pre.map (encV b o)) (fun pre v => v = .slice none 0 0 ↔ pre = [])) _) (ownFrom_below (Nat.le_refl _) (by omega))) (fun s A B row h hg _ => Nat.le_trans h hg.size))
    (fun _ _ _ _ _ hs _ _ => hs)
    ⟨⟨⟨_, bO2, World.ownsRow_nil _ _ _ _, by simp⟩, hB0⟩, Nat.le_refl _⟩
    (fun x => { tmps := #[.slice ao n c, undef, .pointer (some ⟨w.heap.size, 0, none⟩), .slice (some ⟨b, o + x.1, none⟩) x.2 x.2, .slice ao n c, .func (.func 125) #[] #[.pointer (some ⟨w.heap.size + 1, 0, none⟩), .pointer (some ⟨w.heap.size + 1 + 1, 0, none⟩)], .slice (some ⟨b, o + x.1, none⟩) x.2 x.2, undef, undef, undef, undef, undef, undef, undef, undef], defers := [] }) ?assign ?body ?done ?stop
  case assign =>
    intro l x W K hK
    dsimp only [encP]
    gi_wp2
    exact hK
  case body =>
    rintro l pre x W ⟨⟨⟨v, hv, hrow, hnil⟩, hB⟩, hsz⟩ hlt
    have hc := hv.cell
    have hq : q49 n ≤ 1073741824 := by unfold q49; omega
    have hrow1 := owns_mono hrow (show w.heap.size ≤ w0.heap.size by omega)
    gi_wp2_with (gi_at_builtin; refine wpListIn_append_own _ rfl _ _ 39 rfl w0.heap.size 44 i0 (.slice none 0 0) 1 24 Tryz.underlying39 hi hz0 hz1 hz2 rfl (by decide) _ _ _ rfl (hrow.alloc _) ⟨W.heap.size, 0, none⟩ 1 1 [.slice (some ⟨b, o + x.1, none⟩) x.2 x.2] rfl rfl (cell_one_new _ _ _) (by simp [Value.oneCell']) (by simp [maxLen]; omega) (by omega) (by simp; omega) ?_; intro v' w1 hown' hgrow _; obtain ⟨g', cap', rfl⟩ := ownsRow_succ hown'; obtain ⟨hv1, hv2, hr2, hk2, hb2⟩ := hv.appended (by decide) hrow1 hB.size (Nat.le_refl _) (owns_mono hown' (show w.heap.size ≤ w0.heap.size by omega)) hgrow; have hc1 := hv1.cell; have hf1 := hv1.frozen)
    have hr3 : (w1.setCell ⟨w.heap.size, 0, none⟩ (.slice (some ⟨g', 0, none⟩) (pre.length + 1) cap')).ownsRow w0.heap.size 44 1 (.slice (some ⟨g', 0, none⟩) (pre.length + 1) cap') (pre.length + 1) (pre.map (encV b o) ++ [.slice (some ⟨b, o + x.1, none⟩) x.2 x.2]) :=
      hown'.kept (grownBy_setCell' w1 w.heap.size _) (.inr (hv1.not_row (by decide) hown').symm)
    have hkp : KpA w.heap.size w0.heap.size W (w1.setCell ⟨w.heap.size, 0, none⟩ (.slice (some ⟨g', 0, none⟩) (pre.length + 1) cap')) := fun p h1 h2 => by
      rw [World.cell?_setCell_other _ _ _ _ (fun e => h2 (by rw [← e]))]
      have hbl : p.block < (W.alloc (.cells #[.slice (some ⟨b, o + x.1, none⟩) x.2 x.2] 44)).heap.size := by simp; omega
      rw [World.cell?_of_block (hgrow.block p.block hbl (fun e => by have := owns_ge hrow _ e.symm; omega))]
      exact World.cell?_alloc_lt W _ p (by omega)
    refine ⟨hk2.from _, hkp, ⟨⟨_, hv2, ?_, by simp⟩, hB.trans hb2⟩, by have := hgrow.size; simp at this ⊢; omega⟩
    rw [List.length_append, List.map_append]; exact hr3
  case done =>
    rintro D ys W hD rfl ⟨⟨⟨v, hv, hrow, hnil⟩, hB⟩, hsz⟩ hK
    have hc := hv.cell
    have hf := hv.frozen
    rw [pieces_len] at hrow
    have HROW := hid hrow; have HNIL := hid hnil; have HB := hid hB; have HV := hid hv; have HS0 := hid (show w.heap.size + 3 ≤ w0.heap.size by omega); have HD := hid hD
    clear hD hB hB0 hsz0 hsz bO2 bS bN hi hz0 hz1 hz2 hnil hv h1 h3 h4 h5 hrow
    by_cases hz : n = 0
    · subst hz
      have hv0 : v = .slice none 0 0 := HNIL.out.2 rfl
      subst hv0
      clear HNIL hao
      have hel := fun W : World => Lib.run_eql_slice_nil (P := Tryz.prog) W 39 44 none 0 0 0 0 Tryz.underlying39
      have hc1 := alc hc
      have B3 := hid ((HV.out.set (.slice (some ⟨W.heap.size, 0, none⟩) 1 1)).alloc (.cells #[.slice none 0 0] 44))
      have HWS := hid (lt_blk hK)
      have hBW := HV.out.lt
      have HK := hid hK
      gi_wp2
      have hK3 : ((W.setCell ⟨w.heap.size, 0, none⟩ (.slice (some ⟨W.heap.size, 0, none⟩) 1 1)).alloc (.cells #[.slice none 0 0] 44)).heap[D]? = some (.deferred (some [])) :=
        alloc_old (set_other HK.out _ (by show D ≠ w.heap.size; have := HS0.out; have := HD.out; omega)) _
      have hnew := alloc_new (W.setCell ⟨w.heap.size, 0, none⟩ (.slice (some ⟨W.heap.size, 0, none⟩) 1 1)) (.cells #[.slice none 0 0] 44)
      rw [show (W.setCell ⟨w.heap.size, 0, none⟩ (.slice (some ⟨W.heap.size, 0, none⟩) 1 1)).heap.size = W.heap.size by simp] at hnew
      refine ⟨by simp, .inl ⟨_, _, rfl, run_takeDeferred hK3, ?_⟩⟩
      refine ⟨_, results_cell1 rfl _ _ w.heap.size _ rfl Tryz.underlying39 ((World.cell?_of_block (World.putObj_heap_other (show w.heap.size ≠ D by have := HS0.out; have := HD.out; omega))).trans B3.out.cell), _, rfl, ⟨rfl, .inr ⟨W.heap.size, 1, #[.slice none 0 0], rfl, HB.out.size, ?_, by simp [needOf], by simp [maxLen], rfl, rfl⟩⟩, ?_⟩
      · rw [World.putObj_heap_other (show W.heap.size ≠ D by have := HWS.out; omega)]
        exact hnew
      · exact ((HB.out.setCell (p := ⟨w.heap.size, 0, none⟩) (Nat.le_refl _) _).alloc (by simp; exact HB.out.size) _).trans (belowK_b (w := w) (Nat.le_refl _) _ D _ _ (by have := HS0.out; have := HD.out; omega) hK3 rfl rfl)
    · obtain ⟨j, hj⟩ : ∃ j, q49 n = j + 1 := ⟨q49 n - 1, by unfold q49; omega⟩
      have HNE : Hid (needOf n = q49 n) := hid (by unfold needOf; rw [if_neg hz]; rfl)
      obtain ⟨g, cap, rfl⟩ := ownsRow_succ (k := j) (by rw [← hj]; exact HROW.out)
      clear hj HNIL hao
      have hel := fun W : World => Lib.run_eql_slice_nil (P := Tryz.prog) W 39 44 (some ⟨g, 0, none⟩) (j + 1) cap 0 0 Tryz.underlying39
      have B2 := hid (HV.out.set (.slice (some ⟨g, 0, none⟩) (j + 1) cap))
      have HK := hid hK
      gi_wp2
      have hK3 : (W.setCell ⟨w.heap.size, 0, none⟩ (.slice (some ⟨g, 0, none⟩) (j + 1) cap)).heap[D]? = some (.deferred (some [])) :=
        set_other HK.out _ (by show D ≠ w.heap.size; have := HS0.out; have := HD.out; omega)
      refine ⟨by simp, .inl ⟨_, _, rfl, run_takeDeferred hK3, ?_⟩⟩
      refine ⟨_, results_cell1 rfl _ _ w.heap.size _ rfl Tryz.underlying39 ((World.cell?_of_block (World.putObj_heap_other (show w.heap.size ≠ D by have := HS0.out; have := HD.out; omega))).trans B2.out.cell), _, rfl, ?_, ?_⟩
      · rw [HNE.out]
        refine ownsRow_putObj ?_ _ hK3 rfl
        exact (owns_mono HROW.out (show w.heap.size ≤ w0.heap.size by have := HS0.out; omega)).kept (grownBy_setCell' W w.heap.size _) (.inr (HV.out.not_row (by decide) HROW.out).symm)
      · exact (HB.out.setCell (p := ⟨w.heap.size, 0, none⟩) (Nat.le_refl _) _).trans (belowK_b (w := w) (Nat.le_refl _) _ D _ _ (by have := HS0.out; have := HD.out; omega) hK3 rfl rfl)
  case stop =>
    rintro D c pre W _ _ h _
    exact h.elim
end Go.Proofs.YtlondopgibcikaaGreat
namespace Go.Proofs.YtlondopgibcikaaGreat
open Go.RowKit Ent
/-- a record's parts -/
def partsOf (rec : List UInt8) : List (List UInt8) := (List.range (needOf rec.length)).map fun j => (rec.drop (49 * j)).take 49
theorem partsOf_len (rec : List UInt8) : (partsOf rec).length = needOf rec.length := by simp [partsOf]
theorem partsOf_at (rec : List UInt8) {j : Nat} (h : j < needOf rec.length) : (partsOf rec)[j]? = some ((rec.drop (49 * j)).take 49) := by simp [partsOf, h]
theorem partsOf_49 (rec : List UInt8) {j : Nat} {p : List UInt8} (h : (partsOf rec)[j]? = some p) : p.length ≤ 49 := by
  have hj := (List.getElem?_eq_some_iff.1 h).1
  rw [partsOf_len] at hj
  rw [partsOf_at rec hj] at h
  injection h with h; subst h; simp; omega
theorem needOf_pos (n : Nat) : 1 ≤ needOf n := by unfold needOf; split <;> omega
set_option maxRecDepth 100000 in
theorem parts_any (ao : Option Addr) (n c : Nat) (rec : List UInt8) (hn : n = rec.length) (hb : n ≤ 1048576) (hc : n ≤ c) (w : World) (hs : SB w ao c rec) :
    Calls Tryz.prog 103 #[.slice ao n c] w fun e w' => ∃ v vs, e = .returned v ∧ w'.ownsRow w.heap.size 44 1 v (needOf n) vs ∧ RowS w' (fun k => ∃ x, ao = some x ∧ k = x.block) vs (partsOf rec) ∧ Below w.heap.size w w' := by
  subst hn
  by_cases h0 : rec = []
  · subst h0
    refine ((callsIn_wide (n := 3)).1 (parts_in Fence.wide 3 trivial trivial trivial rfl (Nat.le_refl _) 0 0 0 c ao (.inl rfl) (by omega) (by omega) w)).mono ?_
    rintro e w' ⟨v, he, ho, hbe⟩
    rw [if_pos rfl] at ho
    refine ⟨v, _, he, ho, ⟨rfl, fun i v l hv hl => ?_⟩, hbe⟩
    match i, hv, hl with
    | 0, hv, hl =>
      simp [partsOf, needOf] at hv hl
      subst hv; subst hl
      exact ⟨none, 0, rfl, Nat.le_refl _, SB.nil _, fun x hx => by cases hx⟩
    | i + 1, hv, hl => simp at hv
  · have hne : rec.length ≠ 0 := fun h => h0 (List.eq_nil_of_length_eq_zero h)
    rcases hs with ⟨_, _, h⟩ | ⟨_, _, h⟩ | ⟨b, o, rfl, hr⟩
    · exact absurd h h0
    · exact absurd h h0
    · refine ((callsIn_wide (n := 3)).1 (parts_in Fence.wide 3 trivial trivial trivial rfl (Nat.le_refl _) b o rec.length c _ (.inr rfl) (by omega) hc w)).mono ?_
      rintro e w' ⟨v, he, ho, hbe⟩
      rw [if_neg hne] at ho
      have hq : needOf rec.length = q49 rec.length := by unfold needOf; rw [if_neg hne]; rfl
      have hr' := (Keep.ofBelow (F := fun _ => False) hbe).range hr id
      refine ⟨v, _, he, ho, ⟨by rw [List.length_map, pieces_len, partsOf_len, hq], fun i v l hv hl => ?_⟩, hbe⟩
      have hi := (List.getElem?_eq_some_iff.1 hl).1
      rw [partsOf_len] at hi
      rw [partsOf_at rec hi] at hl
      injection hl with hl; subst hl
      have hv2 : v = .slice (some ⟨b, o + 49 * i, none⟩) (min 49 (rec.length - 49 * i)) (min 49 (rec.length - 49 * i)) := by
        rw [hq] at hi
        simp [pieces, encV, hi] at hv
        exact hv.symm
      subst hv2
      have hl : ((rec.drop (49 * i)).take 49).length = min 49 (rec.length - 49 * i) := by simp
      refine ⟨some ⟨b, o + 49 * i, none⟩, min 49 (rec.length - 49 * i), by rw [hl], by rw [hl]; exact Nat.le_refl _, .inr (.inr ⟨b, o + 49 * i, rfl, fun j u hu => ?_⟩), fun x hx => by cases hx; exact ⟨_, rfl, rfl⟩⟩
      rw [Nat.add_assoc]
      refine hr' (49 * i + j) u ?_
      rw [bv_get] at hu ⊢
      rw [List.getElem?_take] at hu
      split at hu
      · rwa [List.getElem?_drop] at hu
      · cases hu
/-- a record's sectors are written -/
def writeLoop (gen at_ base many : Nat) : Nat → List (List UInt8) → Dev → Int × Dev
  | _, [], d => (0, d)
  | i, p :: ps, d => if (d.write ((base + at_ + i : Nat) : Int) (logSec gen (at_ + i) (kindOf i many) p)).1 ≠ 0 then d.write ((base + at_ + i : Nat) : Int) (logSec gen (at_ + i) (kindOf i many) p)
    else writeLoop gen at_ base many (i + 1) ps (d.write ((base + at_ + i : Nat) : Int) (logSec gen (at_ + i) (kindOf i many) p)).2
def logWrite (d : Dev) (f t g at_ : Int) (rec : List UInt8) : (Int × Int) × Dev :=
  if checkOf d f t g ≠ 0 then ((0, checkOf d f t g), d)
  else if at_ < 0 ∨ t - f < at_ then ((0, 3), d)
  else if 1048576 < rec.length then ((0, 4), d)
  else if t - f - at_ < needOf rec.length then ((0, 10), d)
  else if (writeLoop g.toNat at_.toNat f.toNat (needOf rec.length) 0 (partsOf rec) d).1 ≠ 0 then ((0, (writeLoop g.toNat at_.toNat f.toNat (needOf rec.length) 0 (partsOf rec) d).1), (writeLoop g.toNat at_.toNat f.toNat (needOf rec.length) 0 (partsOf rec) d).2)
  else ((at_ + needOf rec.length, 0), (writeLoop g.toNat at_.toNat f.toNat (needOf rec.length) 0 (partsOf rec) d).2)
theorem sb_keepE {w w' : World} {F : Nat → Prop} {ao : Option Addr} {cap : Nat} {l : List UInt8} (h : SB w ao cap l) (hk : Keep F w w') (hF : l ≠ [] → ∀ a, ao = some a → ¬ F a.block) : SB w' ao cap l := by
  by_cases hl : l = []
  · subst hl
    rcases ao with _ | a
    · rcases h with ⟨_, h, _⟩ | ⟨_, h, _⟩ | ⟨_, _, h, _⟩
      · exact .inl ⟨rfl, h, rfl⟩
      · cases h
      · cases h
    · exact .inr (.inl ⟨a, rfl, rfl⟩)
  · exact h.keep hk (hF hl)
theorem parts_ne {rec : List UInt8} {k : Nat} {p : List UInt8} (h : (partsOf rec)[k]? = some p) (hp : p ≠ []) : rec ≠ [] := by
  rintro rfl
  have hk := (List.getElem?_eq_some_iff.1 h).1
  rw [partsOf_len] at hk
  rw [partsOf_at [] hk] at h
  injection h with h
  exact hp (by rw [← h]; simp)
theorem wpo_allocS {o : Oper} {a : Act} {w : World} {K : Act → World → Prop} {Q : Exit → Act → World → Prop} (ho : o.op = .alloc 127)
    (h : ∀ g w', g = w.heap.size → Below w.heap.size w w' → Blk w' g 127 (bv (zr 64)) → K (a.put o.dst (.pointer (some ⟨g, 0, none⟩))) w') : o.wp Tryz.prog a w K Q := by
  have hz : (zeroValue 127).run Tryz.prog w = .ok (.agg (bv (zr 64)).toArray) w := by kernel_rfl
  unfold Oper.wp execOp
  simp only [ho]
  simp [newVar, newRow, newObj, hz, Sem.run_bind, Value.cells, go_sem]
  exact h _ _ rfl (fresh_alloc w _) (alloc_new w _)
end Go.Proofs.YtlondopgibcikaaGreat
