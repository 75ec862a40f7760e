/- The walks of Flush and New. -/
import Derived.Test.YtlondopgibcikaaGreatRows
import Derived.Test.YtlondopgibcikaaGreatG01
import Derived.Test.YtlondopgibcikaaGreatG02
import Derived.Test.YtlondopgibcikaaGreatG03
import Derived.Test.YtlondopgibcikaaGreatG04
import Derived.WalkKit
import Derived.WalkSpells
import Derived.WalkLawsBesides
import Derived.Deep.RegionHeld3
namespace Go.Proofs.YtlondopgibcikaaGreat
open Go.RowKit Ent
theorem sec_parts : ∃ i, Tryz.prog.info? 82 = some i ∧ i.zero = some (.agg (Array.replicate 64 (.int .u8 0))) ∧ i.size = 64 ∧ i.bytes = 64 := info_parts (P := Tryz.prog) (by kernel_rfl)
theorem run_copy_secs (w : World) (ty : TypeId) (gi gn n : Nat) (cs : List Value) (hl : cs.length = n * 64) (hs : w.rangeAt gn 0 cs) (ht : w.there gi 0 (n * 64)) (h1 : ∀ v ∈ cs, v.oneCell' = true) :
    (Builtin.copy_ #[57, 57] ty #[.slice (some ⟨gi, 0, none⟩) n n, .slice (some ⟨gn, 0, none⟩) n n]).run Tryz.prog w = .ok (goInt n) (w.setCells gi 0 cs) := by
  obtain ⟨i, hi, _, hz, _⟩ := sec_parts
  have hl' := run_loadCells_list (P := Tryz.prog) w ⟨gn, 0, none⟩ cs (fun j v hv => by rw [Addr.add_mid]; exact hs j v hv)
  have hst := run_storeCells_cells (P := Tryz.prog) gi 0 cs 0 w (fun j hj => by simpa using (ht j (by omega)).1) (fun j hj => by simpa using (ht j (by omega)).2) h1
  rw [hl] at hl'
  simp only [Nat.add_zero] at hst
  simp [Builtin.copy_, run_underlying Tryz.underlying57, Builtin.lenOf, Builtin.firstCells, sizeOf, typeInfo, hi, hz, hl', hst]
theorem wpo_copySecs {o : Oper} {a : Act} {w : World} {K : Act → World → Prop} {Q : Exit → Act → World → Prop} (s x : Operand)
    (ho : o.op = .call { callee := .builtin .copy, args := #[s, x], argTypes := #[57, 57] })
    (gi gn n : Nat) (cs : List Value) (hs : a.eval s = .slice (some ⟨gi, 0, none⟩) n n) (hx : a.eval x = .slice (some ⟨gn, 0, none⟩) n n) (hl : cs.length = n * 64) (hr : w.rangeAt gn 0 cs) (ht : w.there gi 0 (n * 64)) (h1 : ∀ v ∈ cs, v.oneCell' = true)
    (h : K (a.put o.dst (goInt n)) (w.setCells gi 0 cs)) : o.wp Tryz.prog a w K Q := by
  unfold Oper.wp execOp
  simp only [ho, resolve, invoke, builtin, Sem.run_bind, Sem.run_pure, Result.andThen_ok, List.map_toArray, List.map_cons, List.map_nil, hs, hx, run_copy_secs w _ gi gn n cs hl hr ht h1]
  exact h
theorem Blk.over {w : World} {g : Nat} {T : TypeId} {vs : List Value} (h : Blk w g T vs) (cs : List Value) (hl : cs.length = vs.length) : Blk (w.setCells g 0 cs) g T cs := by
  have := h.setCells cs _ 0 (by omega)
  rw [Nat.zero_add, hl, List.drop_of_length_le (Nat.le_refl _)] at this
  simpa using this
theorem through_now (d : Dev) : d.through.2.now = d.now := by unfold Dev.now; rw [through_img, through_loose]
theorem flush_end {w1 : World} {a gi gn : Nat} {vl lets : Value} {left : Int} {F : Nat → Prop} {d : Dev} (h : PD w1 a gi gn vl lets left F d) :
    (w1.drew.setCells gi 0 (bv d.now.flatten)).cell? ⟨a, 2, none⟩ = some vl ∧ (w1.drew.setCells gi 0 (bv d.now.flatten)).frozen? ⟨a, 2, none⟩ = false ∧
    PD ((w1.drew.setCells gi 0 (bv d.now.flatten)).setCell ⟨a, 2, none⟩ (.slice none 0 0)) a gi gn (.slice none 0 0) lets left F { d with img := d.now, loose := [] } ∧
    Keep F w1 ((w1.drew.setCells gi 0 (bv d.now.flatten)).setCell ⟨a, 2, none⟩ (.slice none 0 0)) := by
  have hl : (bv d.now.flatten).length = (bv d.img.flatten).length := by rw [bv_length, bv_length, h.ok.now64.len, h.ok.s64.len, d.now_len]
  have hd2 := h.hd.drew.otherCells gi 0 (bv d.now.flatten) h.ai
  have nl := d.now_len
  refine ⟨hd2.cell (j := 2) rfl, hd2.free 2, ?_, (Keep.setCells h.fi _ _ (Keep.refl F w1).drew).setCell (p := ⟨a, 2, none⟩) h.fa _⟩
  exact {
    ok := ⟨h.ok.now64, by show d.now.length ≤ 65536; rw [nl]; exact h.ok.2, by show 1 ≤ d.now.length; rw [nl]; exact h.ok.3, fun x hx => by simp at hx⟩
    hd := by
      have := hd2.set 2 (.slice none 0 0)
      show Blk _ _ _ (head6 gi gn d.now.length _ _ _ _)
      rw [nl]; exact this
    im := (h.im.drew.over _ hl).other _ _ (Ne.symm h.ai)
    nw := (h.nw.drew.otherCells _ _ _ (Ne.symm h.gg)).other _ _ (Ne.symm h.an)
    lo := World.ownsRow_nil _ _ _ _
    fu := h.fu, lf := h.lf, ai := h.ai, an := h.an, gg := h.gg, fa := h.fa, fi := h.fi, fn := h.fn, fl := fun k hk => by cases hk }
set_option maxRecDepth 100000 in
set_option maxHeartbeats 1000000 in
theorem flush_any {a gi gn : Nat} {vl lets : Value} {left : Int} {F : Nat → Prop} {d : Dev} (w : World) (h : PD w a gi gn vl lets left F d) :
    Calls Tryz.prog 16 #[ptr a] w fun e w' => e = .returned (.int .i64 d.flush.1) ∧ (∃ vl' left', PD w' a gi gn vl' lets left' F d.flush.2) ∧ Keep F w w' := by
  have H := hid h
  cases ho : d.out
  rotate_left
  · have hs : d.flush = (22, d) := by unfold Dev.flush; rw [ho]; rfl
    rw [hs]
    have HO := hid ho
    clear h ho hs
    unfold ptr
    go_enter Tryz.func16, Tryz.ntmps16
    go_wp2_with fail
    refine (ready_any w H.out).mono ?_
    rintro e w' ⟨rfl, rfl⟩
    rw [HO.out, show outCode true = 22 from rfl]
    go_wp2
    go_ret
    exact ⟨rfl, ⟨_, _, H.out⟩, Keep.refl _ _⟩
  cases ht : d.through.1
  · have hs : d.flush = (22, d.through.2) := by unfold Dev.flush; rw [ho]; simp [ht]
    rw [hs]
    have HO := hid ho; have HT := hid ht
    clear h ho hs ht
    unfold ptr
    go_enter Tryz.func16, Tryz.ntmps16
    go_wp2_with fail
    refine (ready_any w H.out).mono ?_
    rintro e w' ⟨rfl, rfl⟩
    rw [HO.out, show outCode false = 0 from rfl]
    go_wp2_with fail
    refine (through_any w' H.out HO.out).mono ?_
    rintro e w1 ⟨rfl, ⟨left', h1⟩, hk1⟩
    rw [HT.out]
    go_wp2
    go_ret
    exact ⟨rfl, ⟨_, _, h1⟩, hk1⟩
  · have hs : d.flush = (0, { d.through.2 with img := d.now, loose := [] }) := by unfold Dev.flush; rw [ho]; simp [ht]
    rw [hs]
    have HO := hid ho; have HT := hid ht
    clear h ho hs ht
    unfold ptr
    go_enter Tryz.func16, Tryz.ntmps16
    go_wp2_with fail
    refine (ready_any w H.out).mono ?_
    rintro e w' ⟨rfl, rfl⟩
    rw [HO.out, show outCode false = 0 from rfl]
    go_wp2_with fail
    refine (through_any w' H.out HO.out).mono ?_
    rintro e w1 ⟨rfl, ⟨left', h1⟩, hk1⟩
    rw [HT.out]
    have H1 := hid h1
    have HK1 := hid hk1
    have HN : Hid (d.through.2.now.length = d.through.2.img.length) := hid (Dev.now_len _)
    obtain ⟨aol, cl, hvl⟩ := h1.lv
    have HVL := hid hvl
    clear h1 hk1 hvl
    go_wp2_with fail
    -- REGION 6
    refine wp_region_held_drew (S := fun w' => w'.cell? ⟨a, 0, none⟩ = some (.slice (some ⟨gi, 0, none⟩) d.through.2.img.length d.through.2.img.length) ∧ w'.cell? ⟨a, 1, none⟩ = some (.slice (some ⟨gn, 0, none⟩) d.through.2.img.length d.through.2.img.length)) (by kernel_rfl) ⟨H1.out.hd.drew.cell (j := 0) rfl, H1.out.hd.drew.cell (j := 1) rfl⟩ (fun hS => ?_)
    refine tkH (i := 0) (v := ?v0x1) (y := Or.inl ⟨by rfl, ?y0x1⟩) (s := hS) (h := ?r0x1)
    case y0x1 => (intro w' hSw; (try dsimp only at hSw); go_simp; (try with_reducible rfl))
    simp only [Act.put, sA, sB, sC]
    refine tkH (i := 1) (v := ?v1x2) (y := Or.inl ⟨by rfl, ?y1x2⟩) (s := hS) (h := ?r1x2)
    case y1x2 => (intro w' hSw; (try dsimp only at hSw); go_simp; (try with_reducible rfl))
    simp only [Act.put, sA, sB, sC]
    refine tkH (i := 2) (v := ?v2x3) (y := Or.inl ⟨by rfl, ?y2x3⟩) (s := hS) (h := ?r2x3)
    case y2x3 => (intro w' hSw; (try dsimp only at hSw); go_simp; (try with_reducible rfl))
    simp only [Act.put, sA, sB, sC]
    refine tkH (i := 3) (v := ?v3x4) (y := Or.inl ⟨by rfl, ?y3x4⟩) (s := hS) (h := ?r3x4)
    case y3x4 => (intro w' hSw; (try dsimp only at hSw); go_simp; (try with_reducible rfl))
    simp only [Act.put, sA, sB, sC]
    refine tkH (i := 4) (v := ?v4x5) (y := Or.inl ⟨by rfl, ?y4x5⟩) (s := hS) (h := ?r4x5)
    case y4x5 => (intro w' hSw; (try dsimp only at hSw); go_simp; (try with_reducible rfl))
    simp only [Act.put, sA, sB, sC]
    refine tkH (i := 5) (v := ?v5x6) (y := Or.inl ⟨by rfl, ?y5x6⟩) (s := hS) (h := ?r5x6)
    case y5x6 => (intro w' hSw; (try dsimp only at hSw); go_simp; (try with_reducible rfl))
    simp only [Act.put, sA, sB, sC]
    refine tkH (i := 6) (v := ?v6x7) (y := Or.inl ⟨by rfl, ?y6x7⟩) (s := hS) (h := ?r6x7)
    case y6x7 => (intro w' hSw; (try dsimp only at hSw); go_simp; (try with_reducible rfl))
    simp only [Act.put, sA, sB, sC]
    refine tkH (i := 7) (v := ?v7x8) (y := Or.inl ⟨by rfl, ?y7x8⟩) (s := hS) (h := ?r7x8)
    case y7x8 => (intro w' hSw; (try dsimp only at hSw); go_simp; (try with_reducible rfl))
    simp only [Act.put, sA, sB, sC]
    refine rdH (i := 8) (h := fun K hK => ?_)
    refine wpo_copySecs (.tmp 15) (.tmp 19) rfl gi gn _ (bv d.through.2.now.flatten) rfl rfl (by rw [bv_length, H1.out.ok.now64.len, HN.out]; omega) (H1.out.nw.range fun j v hv => by rw [Nat.zero_add]; exact hv) (H1.out.im.there (by rw [bv_length, H1.out.ok.s64.len]; omega)) (bv_one _) ?_
    refine hK.out _ _ ?k8x9 (fun hS => ?s8x9)
    case k8x9 => exact ⟨by rw [World.cell?_setCells_out _ _ _ _ _ (fun h => absurd h H1.out.ai)]; exact hS.1, by rw [World.cell?_setCells_out _ _ _ _ _ (fun h => absurd h H1.out.ai)]; exact hS.2⟩
    clear hK K
    try simp only [Act.put, sA, sB, sC]
    refine wpAnyH_done (by kernel_rfl) ?_ _
    clear hS
    have HF := hid (flush_end H1.out)
    have hc2 := HF.out.1
    have hf2 := HF.out.2.1
    go_wp2
    go_ret
    refine ⟨rfl, ⟨.slice none 0 0, left', ?_⟩, HK1.out.trans HF.out.2.2.2⟩
    have := HF.out.2.2.1
    rw [show ({ d.through.2 with img := d.through.2.now, loose := [] } : Dev) = { d.through.2 with img := d.now, loose := [] } by rw [through_now]] at this
    exact this
-- BEHIND FLUSH
theorem made_secs (n : Nat) : madeCells (Value.agg (Array.replicate 64 (.int .u8 0))).cells (n * 64) = (bv (List.replicate (n * 64) 0)).toArray := by
  apply Array.ext_getElem?
  intro i
  by_cases hi : i < n * 64
  · have : i % 64 < 64 := Nat.mod_lt _ (by omega)
    simp [madeCells, bv, hi, Value.cells, this]
  · rw [Array.getElem?_eq_none (by simp [madeCells]; omega), Array.getElem?_eq_none (by simp; omega)]
theorem wpo_makeSecs {o : Oper} {a : Act} {w : World} {K : Act → World → Prop} {Q : Exit → Act → World → Prop} (l c : Operand) (ho : o.op = .makeSlice 57 l c) (n : Nat) (hl : a.eval l = .int .i64 n) (hc : a.eval c = .int .i64 n) (hn : n ≤ 65536)
    (h : ∀ w', Below w.heap.size w w' → Blk w' w.heap.size 82 (bv (Dev.new n).img.flatten) → K (a.put o.dst (.slice (some ⟨w.heap.size, 0, none⟩) n n)) w') : o.wp Tryz.prog a w K Q := by
  obtain ⟨i, hi, hz, hsz, hby⟩ := sec_parts
  have hr := run_makeSlice (P := Tryz.prog) w 57 82 i _ Tryz.underlying57 hi hz .i64 .i64 (n : Int) (n : Int) (by omega) (by omega) (by rw [hsz]; simp; omega) (by rw [hby]; omega) (by omega)
  rw [hsz, Int.toNat_natCast, made_secs, ← Dev.new_flat] at hr
  unfold Oper.wp execOp
  simp only [ho, hl, hc, hr, Sem.run_bind, Sem.run_pure, Result.andThen_ok]
  exact h _ (fresh_alloc w _) (alloc_new w _)
theorem new_laid {w w1 w2 : World} {n gi gn : Nat} (h1 : 1 ≤ n) (h2 : n ≤ 65536) (hi : Blk w2 gi 82 (bv (Dev.new n).img.flatten)) (hn : Blk w2 gn 82 (bv (Dev.new n).img.flatten)) (hne : gi ≠ gn) (hgi : w.heap.size ≤ gi) (hgn : w.heap.size ≤ gn) (hb : Below w.heap.size w w2)
    (e : w1 = w2.alloc (.cells #[.slice (some ⟨gi, 0, none⟩) n n, .slice (some ⟨gn, 0, none⟩) n n, .slice none 0 0, .nilFunc, .int .i64 0, .bool false] 60)) :
    PDev w1 w2.heap.size (fun k => w.heap.size ≤ k ∧ k < w1.heap.size) (Dev.new n) ∧ Below w.heap.size w w1 := by
  subst e
  have l1 := hi.lt; have l2 := hn.lt
  have hs := hb.size
  have hl : (Dev.new n).img.length = n := by simp [Dev.new]
  refine ⟨⟨gi, gn, .slice none 0 0, .nilFunc, 0, ?_⟩, hb.alloc hb.size _⟩
  exact {
    ok := Dev.new_ok h1 h2
    hd := by rw [hl]; exact alloc_new w2 _
    im := hi.alloc _
    nw := hn.alloc _
    lo := World.ownsRow_nil _ _ _ _
    fu := .inl ⟨rfl, rfl⟩
    lf := by omega
    ai := by omega
    an := by omega
    gg := hne
    fa := ⟨hs, by simp⟩
    fi := ⟨hgi, by simp; omega⟩
    fn := ⟨hgn, by simp; omega⟩
    fl := fun k hk => by cases hk }
set_option maxRecDepth 100000 in
set_option maxHeartbeats 1000000 in
theorem new_any (n : Nat) (hn1 : 1 ≤ n) (hn2 : n ≤ 65536) (w : World) :
    Calls Tryz.prog 8 #[.int .i64 n] w fun e w' => ∃ a, e = .returned (.tuple #[ptr a, .int .i64 0]) ∧ PDev w' a (fun k => w.heap.size ≤ k ∧ k < w'.heap.size) (Dev.new n) ∧ Below w.heap.size w w' := by
  go_enter Tryz.func8, Tryz.ntmps8
  go_wp2_with fail
  refine wp_region_held_drew (S := fun _ => True) (by kernel_rfl) trivial (fun hS => ?_)
  refine tkH (i := 0) (v := ?v0x1) (y := Or.inl ⟨by rfl, ?y0x1⟩) (s := hS) (h := ?r0x1)
  case y0x1 => (intro w' hSw; (try dsimp only at hSw); go_simp; (try with_reducible rfl))
  simp only [Act.put, sA, sB, sC]
  refine tkH (i := 2) (v := ?v2x2) (y := Or.inl ⟨by rfl, ?y2x2⟩) (s := hS) (h := ?r2x2)
  case y2x2 => (intro w' hSw; (try dsimp only at hSw); go_simp; (try with_reducible rfl))
  simp only [Act.put, sA, sB, sC]
  refine wpAnyH_ready (rs := [1, 3]) (by kernel_rfl) (by simp) ?_
  refine AllReadyH.cons (by simp only [List.getElem?_toArray, List.getElem?_cons_zero, List.getElem?_cons_succ]; exact rfl) (fun K hK => ?_) (AllReadyH.cons (by simp only [List.getElem?_toArray, List.getElem?_cons_zero, List.getElem?_cons_succ]; exact rfl) (fun K hK => ?_) AllReadyH.nil)
  · refine wpo_makeSecs (.tmp 10) (.tmp 10) rfl n rfl rfl hn2 ?_
    intro w3 hb3 hc3
    have HB3 := hid hb3
    have HC3 := hid hc3
    clear hb3 hc3
    refine hK.out _ _ ?k1x3 (fun hS => ?s1x3)
    case k1x3 => exact trivial
    clear hK K
    try simp only [Act.put, sA, sB, sC]
    refine rdH (i := 3) (h := fun K hK => ?_)
    refine wpo_makeSecs (.tmp 12) (.tmp 12) rfl n rfl rfl hn2 ?_
    intro w4 hb4 hc4
    have HB4 := hid hb4
    have HC4 := hid hc4
    clear hb4 hc4
    refine hK.out _ _ ?k3x4 (fun hS => ?s3x4)
    case k3x4 => exact trivial
    clear hK K
    try simp only [Act.put, sA, sB, sC]
    refine tkH (i := 4) (v := ?v4x5) (y := Or.inl ⟨by rfl, ?y4x5⟩) (s := hS) (h := ?r4x5)
    case y4x5 => (intro w' hSw; (try dsimp only at hSw); go_simp; (try with_reducible rfl))
    simp only [Act.put, sA, sB, sC]
    refine rdH (i := 5) (h := fun K hK => ?_)
    go_simp
    refine hK.out _ _ ?k5x6 (fun hS => ?s5x6)
    case k5x6 => exact trivial
    clear hK K
    try simp only [Act.put, sA, sB, sC]
    refine tkH (i := 6) (v := ?v6x7) (y := Or.inl ⟨by rfl, ?y6x7⟩) (s := hS) (h := ?r6x7)
    case y6x7 => (intro w' hSw; (try dsimp only at hSw); go_simp; (try with_reducible rfl))
    simp only [Act.put, sA, sB, sC]
    refine tkH (i := 7) (v := ?v7x8) (y := Or.inl ⟨by rfl, ?y7x8⟩) (s := hS) (h := ?r7x8)
    case y7x8 => (intro w' hSw; (try dsimp only at hSw); go_simp; (try with_reducible rfl))
    simp only [Act.put, sA, sB, sC]
    refine wpAnyH_done (by kernel_rfl) ?_ _
    clear hS
    go_wp2
    go_ret2
    first
      | (have h3 : Below w.heap.size w w3 := ((Below.refl _ w).drew).trans HB3.out
         have h4 := th h3 HB4.out
         have l3 : w.heap.size < w3.heap.size := HC3.out.lt
         obtain ⟨hp, hbe⟩ := new_laid (w := w) (w2 := w4) (gi := w.heap.size) (gn := w3.heap.size) hn1 hn2 (Blk.below HC3.out HB4.out l3) HC4.out (by omega) (Nat.le_refl _) (by omega) h4 rfl
         exact ⟨_, rfl, hp, hbe⟩)
      | (have h3 : Below w.heap.size w w4 := ((Below.refl _ w).drew).trans HB4.out
         have h4 := th h3 HB3.out
         have l3 : w.heap.size < w4.heap.size := HC4.out.lt
         obtain ⟨hp, hbe⟩ := new_laid (w := w) (w2 := w3) (gi := w4.heap.size) (gn := w.heap.size) hn1 hn2 HC3.out (Blk.below HC4.out HB3.out l3) (by omega) (by omega) (Nat.le_refl _) h4 rfl
         exact ⟨_, rfl, hp, hbe⟩)
  · refine wpo_makeSecs (.tmp 12) (.tmp 12) rfl n rfl rfl hn2 ?_
    intro w4 hb4 hc4
    have HB4 := hid hb4
    have HC4 := hid hc4
    clear hb4 hc4
    refine hK.out _ _ ?k3x9 (fun hS => ?s3x9)
    case k3x9 => exact trivial
    clear hK K
    try simp only [Act.put, sA, sB, sC]
    refine rdH (i := 1) (h := fun K hK => ?_)
    refine wpo_makeSecs (.tmp 10) (.tmp 10) rfl n rfl rfl hn2 ?_
    intro w3 hb3 hc3
    have HB3 := hid hb3
    have HC3 := hid hc3
    clear hb3 hc3
    refine hK.out _ _ ?k1x10 (fun hS => ?s1x10)
    case k1x10 => exact trivial
    clear hK K
    try simp only [Act.put, sA, sB, sC]
    refine tkH (i := 4) (v := ?v4x11) (y := Or.inl ⟨by rfl, ?y4x11⟩) (s := hS) (h := ?r4x11)
    case y4x11 => (intro w' hSw; (try dsimp only at hSw); go_simp; (try with_reducible rfl))
    simp only [Act.put, sA, sB, sC]
    refine rdH (i := 5) (h := fun K hK => ?_)
    go_simp
    refine hK.out _ _ ?k5x12 (fun hS => ?s5x12)
    case k5x12 => exact trivial
    clear hK K
    try simp only [Act.put, sA, sB, sC]
    refine tkH (i := 6) (v := ?v6x13) (y := Or.inl ⟨by rfl, ?y6x13⟩) (s := hS) (h := ?r6x13)
    case y6x13 => (intro w' hSw; (try dsimp only at hSw); go_simp; (try with_reducible rfl))
    simp only [Act.put, sA, sB, sC]
    refine tkH (i := 7) (v := ?v7x14) (y := Or.inl ⟨by rfl, ?y7x14⟩) (s := hS) (h := ?r7x14)
    case y7x14 => (intro w' hSw; (try dsimp only at hSw); go_simp; (try with_reducible rfl))
    simp only [Act.put, sA, sB, sC]
    refine wpAnyH_done (by kernel_rfl) ?_ _
    clear hS
    go_wp2
    go_ret2
    first
      | (have h3 : Below w.heap.size w w3 := ((Below.refl _ w).drew).trans HB3.out
         have h4 := th h3 HB4.out
         have l3 : w.heap.size < w3.heap.size := HC3.out.lt
         obtain ⟨hp, hbe⟩ := new_laid (w := w) (w2 := w4) (gi := w.heap.size) (gn := w3.heap.size) hn1 hn2 (Blk.below HC3.out HB4.out l3) HC4.out (by omega) (Nat.le_refl _) (by omega) h4 rfl
         exact ⟨_, rfl, hp, hbe⟩)
      | (have h3 : Below w.heap.size w w4 := ((Below.refl _ w).drew).trans HB4.out
         have h4 := th h3 HB3.out
         have l3 : w.heap.size < w4.heap.size := HC4.out.lt
         obtain ⟨hp, hbe⟩ := new_laid (w := w) (w2 := w3) (gi := w4.heap.size) (gn := w.heap.size) hn1 hn2 HC3.out (Blk.below HC4.out HB3.out l3) (by omega) (by omega) (Nat.le_refl _) h4 rfl
         exact ⟨_, rfl, hp, hbe⟩)
end Go.Proofs.YtlondopgibcikaaGreat
