/- The walks of what turns a device. -/
import Derived.Test.YtlondopgibcikaaGreatRows
import Derived.Test.YtlondopgibcikaaGreatG01
import Derived.Test.YtlondopgibcikaaGreatG02
import Derived.Test.YtlondopgibcikaaGreatG03
import Derived.WalkKit
import Derived.WalkSpells
import Derived.WalkLawsBesides
import Derived.Deep.RegionHeld3
import Derived.Great.BuildSlice
import Derived.Laws.EntriesVeiled
import Derived.Great.FillDense
import Derived.Great.Walk
import Derived.Maps.AppendAt
namespace Go.Proofs.YtlondopgibcikaaGreat
open Go.RowKit Ent
set_option maxRecDepth 100000 in
set_option maxHeartbeats 400000 in
theorem fuse_any {a gi gn : Nat} {vl lets : Value} {left : Int} {F : Nat → Prop} {d : Dev} (n : Int) (h1 : -9223372036854775808 ≤ n) (h2 : n ≤ 9223372036854775807) (w : World) (h : PD w a gi gn vl lets left F d) :
    Calls Tryz.prog 32 #[ptr a, .int .i64 n] w fun e w' => e = .returned (.int .i64 (d.setFuse n).1) ∧ (∃ lets' left', PD w' a gi gn vl lets' left' F (d.setFuse n).2) ∧ Keep F w w' := by
  have H := hid h
  cases ho : d.out
  rotate_left
  · have hs : d.setFuse n = (22, d) := by unfold Dev.setFuse; rw [ho]; rfl
    rw [hs]
    have HO := hid ho
    clear h ho hs
    unfold ptr
    go_enter Tryz.func32, Tryz.ntmps32
    go_wp2_with fail
    refine (ready_any w H.out).mono ?_
    rintro e w' ⟨rfl, rfl⟩
    rw [HO.out, show outCode true = 22 from rfl]
    go_wp2
    go_ret
    exact ⟨rfl, ⟨_, _, H.out⟩, Keep.refl _ _⟩
  by_cases hn : n < 0
  · have hs : d.setFuse n = (2, d) := by unfold Dev.setFuse; rw [ho]; simp [hn]
    rw [hs]
    have HO := hid ho
    clear h ho hs
    unfold ptr
    go_enter Tryz.func32, Tryz.ntmps32
    go_wp2_with fail
    refine (ready_any w H.out).mono ?_
    rintro e w' ⟨rfl, rfl⟩
    rw [HO.out, show outCode false = 0 from rfl]
    go_wp2
    go_ret
    exact ⟨rfl, ⟨_, _, H.out⟩, Keep.refl _ _⟩
  · have hs : d.setFuse n = (0, { d with fuse := some n.toNat }) := by unfold Dev.setFuse; rw [ho]; simp [hn]
    rw [hs]
    have HO := hid ho
    have c4 := h.hd.cell (j := 4) rfl
    have f4 := h.hd.free 4
    have c3 : (w.setCell ⟨a, 4, none⟩ (.int .i64 n)).cell? ⟨a, 3, none⟩ = some lets := by rw [World.cell?_setCell_other _ _ _ _ (by intro e; injection e; omega)]; exact h.hd.cell (j := 3) rfl
    have f3 : (w.setCell ⟨a, 4, none⟩ (.int .i64 n)).frozen? ⟨a, 3, none⟩ = false := by simpa using h.hd.free 3
    clear h ho hs
    unfold ptr
    go_enter Tryz.func32, Tryz.ntmps32
    go_wp2_with fail
    refine (ready_any w H.out).mono ?_
    rintro e w' ⟨rfl, rfl⟩
    rw [HO.out, show outCode false = 0 from rfl]
    go_wp2
    go_ret
    have h := H.out
    have hk : Keep (fun k => k = a) w' ((w'.setCell ⟨a, 4, none⟩ (.int .i64 n)).setCell ⟨a, 3, none⟩ (burnV a)) := ((Keep.refl (fun k => k = a) w').setCell (p := ⟨a, 4, none⟩) rfl _).setCell (p := ⟨a, 3, none⟩) rfl _
    exact ⟨rfl, ⟨burnV a, n, { ok := ⟨h.ok.1, h.ok.2, h.ok.3, h.ok.4⟩, hd := (h.hd.set 4 _).set 3 _, im := h.im.keep hk (Ne.symm h.ai), nw := h.nw.keep hk (Ne.symm h.an), lo := owns_keep h.lo hk fun k hk' => (h.fl k hk').2.1, fu := .inr ⟨n.toNat, rfl, by omega, rfl, fun _ => by omega⟩, lf := ⟨h1, h2⟩, ai := h.ai, an := h.an, gg := h.gg, fa := h.fa, fi := h.fi, fn := h.fn, fl := h.fl }⟩, hk.mono fun k _ hk' => by rw [hk']; exact h.fa⟩
/-- how a loose write is laid -/
theorem fill_write (x : Value) (hx : x.cells = #[x]) (cs : List Value) (hcs : cs.length = 64) (cells : Array Value) (hsz : cells.size = 65) (place : Nat → Option (Nat × Nat)) (h0 : place 0 = some (0, 1)) (h1 : place 1 = some (1, 64)) :
    Instr.fill place cells [(0, x), (1, .agg cs.toArray)] = some (x :: cs).toArray := by
  have hc : (Value.agg cs.toArray).cells = cs.toArray := rfl
  have e0 : (x.cells.zipIdx.foldl (fun cs (x : Value × Nat) => cs.setIfInBounds (0 + x.2) x.1) cells) = cells.setIfInBounds 0 x := by rw [hx]; simp
  have hs0 : (cells.setIfInBounds 0 x).size = 65 := by simpa using hsz
  obtain ⟨g1, g2⟩ := Go.Great.foldl_set 1 cs 0 (cells.setIfInBounds 0 x)
  unfold Instr.fill
  simp only [h0]
  rw [if_neg (by simp [hx, hsz])]
  rw [e0]
  unfold Instr.fill
  simp only [h1]
  rw [if_neg (by simp [hc, hcs, hsz])]
  unfold Instr.fill
  congr 1
  rw [hc]
  have e1 : (cs.toArray.zipIdx.foldl (fun cs (x : Value × Nat) => cs.setIfInBounds (1 + x.2) x.1) (cells.setIfInBounds 0 x)) = ((cs.zipIdx 0).foldl (fun cs (x : Value × Nat) => cs.setIfInBounds (1 + x.2) x.1) (cells.setIfInBounds 0 x)) := by simp
  rw [e1]
  apply Array.ext_getElem?
  intro k
  rw [g2 k]
  by_cases hk : 1 + 0 ≤ k ∧ k < 1 + 0 + cs.length ∧ k < (cells.setIfInBounds 0 x).size
  · rw [if_pos hk]
    obtain ⟨j, rfl⟩ : ∃ j, k = j + 1 := ⟨k - 1, by omega⟩
    simp
  · rw [if_neg hk]
    by_cases hk0 : k = 0
    · subst hk0; rw [Array.getElem?_setIfInBounds, if_pos rfl, if_pos (by omega)]; rfl
    · rw [Array.getElem?_eq_none (xs := cells.setIfInBounds 0 x) (by omega), Array.getElem?_eq_none (xs := (x :: cs).toArray) (by simp; omega)]
theorem built_of {P : Program} {t : TypeId} (parts : List (Nat × Value)) (cells : Array Value) (n : Nat) (ps : List (Nat × Nat))
    (hb : (match P.info? t, P.underlying t with
      | some it, some (.struct fields) => (match it.zero, fields.toList.mapM (fun f => (P.info? f.type).map fun i => (f.offset, i.size)) with
        | some z, some places => (places == ps) && (z.cells.size == n)
        | _, _ => false)
      | _, _ => false) = true)
    (h : ∀ z : Array Value, z.size = n → Instr.fill (ps.toArray[·]?) z parts = some cells) : P.built t parts = some cells := by
  unfold Program.built
  cases h1 : P.info? t with
  | none => simp [h1] at hb
  | some it =>
    cases h2 : P.underlying t with
    | none => simp [h1, h2] at hb
    | some dsc =>
      cases dsc with
      | struct fields =>
        simp only [h1, h2] at hb ⊢
        cases h3 : it.zero with
        | none => simp [h3] at hb
        | some z =>
          cases h4 : fields.toList.mapM (fun f => (P.info? f.type).map fun i => (f.offset, i.size)) with
          | none => simp [h3, h4] at hb
          | some places =>
            simp only [h3, h4, Bool.and_eq_true, beq_iff_eq] at hb ⊢
            obtain ⟨rfl, hz⟩ := hb
            exact h _ hz
      | _ => simp [h1, h2] at hb
theorem built_write (i : Int) (b : List UInt8) (hb : b.length = 64) (w : World) : (Instr.build 84 #[(0, .int .i64 i), (1, .agg (bv b).toArray)]).run Tryz.prog w = .ok (.agg (.int .i64 i :: bv b).toArray) w :=
  run_build w _ _ _ (built_of _ _ 65 [(0, 1), (1, 64)] (by kernel_rfl) fun z hz => fill_write _ rfl _ (by rw [bv_length, hb]) _ hz _ rfl rfl)
theorem PD.mono {w : World} {a gi gn : Nat} {vl lets : Value} {left : Int} {F G : Nat → Prop} {d : Dev} (h : PD w a gi gn vl lets left F d) (hFG : ∀ k, F k → G k) : PD w a gi gn vl lets left G d :=
  { h with fa := hFG _ h.fa, fi := hFG _ h.fi, fn := hFG _ h.fn, fl := fun k hk => ⟨hFG k (h.fl k hk).1, (h.fl k hk).2⟩ }
theorem run_arrayAt (w : World) (x : Addr) (c : Nat) : (Instr.arrayAt 82 (.slice (some x) 64 c)).run Tryz.prog w = .ok (.pointer (some x)) w := by
  simp [Instr.arrayAt, run_underlying Tryz.underlying82]
theorem exec_write (a : Act) (o : Oper) (x y : Operand) (i : Int) (b : List UInt8) (hb : b.length = 64) (ho : o.op = .build 84 #[(0, x), (1, y)]) (hx : a.eval x = .int .i64 i) (hy : a.eval y = .agg (bv b).toArray) (w : World) :
    (execOp a.eval o).run Tryz.prog w = .ok (.value (.agg (.int .i64 i :: bv b).toArray)) w := by
  have := built_write i b hb w
  unfold execOp
  simp only [ho, Sem.run_bind, List.map_toArray, List.map_cons, List.map_nil, hx, hy, this, Result.andThen_ok, Sem.run_pure]
theorem write_parts : ∃ i, Tryz.prog.info? 84 = some i ∧ i.zero = some (.agg Tryz.zeroCells84) ∧ i.size = 65 ∧ i.bytes = 72 := info_parts (P := Tryz.prog) (by kernel_rfl)
theorem write_info : (Tryz.prog.info? 84).map (·.size) = some 65 := by kernel_rfl
def wcells (x : Nat × List UInt8) : List Value := .int .i64 (x.1 : Int) :: bv x.2
theorem wcells_len {x : Nat × List UInt8} (h : x.2.length = 64) : (wcells x).length = 65 := by simp [wcells, h]
theorem wcells_one (x : Nat × List UInt8) : ∀ v ∈ wcells x, v.oneCell' = true := by
  intro v hv
  rcases List.mem_cons.1 hv with rfl | hv
  · rfl
  · exact bv_one _ v hv
theorem lw_snoc (l : List (Nat × List UInt8)) (x : Nat × List UInt8) : lw (l ++ [x]) = lw l ++ wcells x := by simp [lw, wcells]
theorem wpo_lay1 {o : Oper} {a : Act} {w : World} {K : Act → World → Prop} {Q : Exit → Act → World → Prop} (x : Operand) (ho : o.op = .buildSlice 58 1 #[(0, x)]) (cs : List Value) (hcs : cs.length = 65) (hx : a.eval x = .agg cs.toArray)
    (h : ∀ w', Below w.heap.size w w' → Blk w' w.heap.size 84 cs → K (a.put o.dst (.slice (some ⟨w.heap.size, 0, none⟩) 1 1)) w') : o.wp Tryz.prog a w K Q := by
  obtain ⟨i, hi, hz, hsz, _⟩ := write_parts
  refine wp_buildSlice 58 84 1 _ ho cs.toArray i _ Tryz.underlying58 hi hz (by rw [hsz]; decide) (by rw [hsz]; decide) ?_ (h _ (fresh_alloc w _) (alloc_new w _))
  rw [hsz]
  have e := Go.Great.fill_whole (s := 65) (by omega) [Value.agg cs.toArray] ((Array.range (1 * 65)).map ((Value.agg Tryz.zeroCells84).cells[· % (Value.agg Tryz.zeroCells84).cells.size]!)) (by intro v hv; simp at hv; subst hv; simp [Value.cells, hcs]) (by simp)
  simpa [hx, Value.cells] using e
theorem wpo_appendW {o : Oper} {a : Act} {w : World} {K : Act → World → Prop} {Q : Exit → Act → World → Prop} (s x : Operand)
    (ho : o.op = .call { callee := .builtin .append, args := #[s, x], argTypes := #[58, 58] })
    (v : Value) (n : Nat) (xs : List Value) (hs : a.eval s = v) (hown : w.ownsRow 0 84 65 v n xs) (g : Nat) (hx : a.eval x = .slice (some ⟨g, 0, none⟩) 1 1) (cs : List Value) (hb : Blk w g 84 cs) (hcs : cs.length = 65) (h1 : ∀ v ∈ cs, v.oneCell' = true)
    (hn : n ≤ 1073741824)
    (h : ∀ v' w', w'.ownsRow 0 84 65 v' (n + 1) (xs ++ cs) → w.grownBy w' v.ownBlock → (v'.ownBlock = v.ownBlock ∨ v'.ownBlock = some w.heap.size) → K (a.put o.dst v') w') : o.wp Tryz.prog a w K Q := by
  obtain ⟨i, hi, hz, hsz, hby⟩ := write_parts
  obtain ⟨v', w', hr, h2, h3, _, h5⟩ := run_append_own_at (P := Tryz.prog) w 0 58 o.type 84 i _ 65 72 Tryz.underlying58 hi hz hsz hby (by simp [Value.cells]) (by omega) v n xs hown ⟨g, 0, none⟩ 1 1 cs (by rw [hcs]) (fun j u hu => by rw [Addr.add_mid, Nat.zero_add]; exact hb.cell hu) h1 (by simp [maxLen]; omega) (by omega) (Nat.zero_le _)
  unfold Oper.wp execOp
  simp only [ho, resolve, invoke, builtin, Sem.run_bind, Sem.run_pure, Result.andThen_ok, List.map_toArray, List.map_cons, List.map_nil, hs, hx, hr]
  exact h v' w' h2 h3 h5
theorem own_lt {w : World} {base : Nat} {e : TypeId} {size : Nat} {v : Value} {n : Nat} {xs : List Value} (h : w.ownsRow base e size v n xs) : ∀ k, v.ownBlock = some k → k < w.heap.size := fun k hk => (h.lt k hk).2
theorem PD.lt {w : World} {a gi gn : Nat} {vl lets : Value} {left : Int} {F : Nat → Prop} {d : Dev} (h : PD w a gi gn vl lets left F d) : a < w.heap.size := h.hd.lt
theorem PD.below {w w' : World} {a gi gn : Nat} {vl lets : Value} {left : Int} {F : Nat → Prop} {d : Dev} (h : PD w a gi gn vl lets left F d) (hb : Below w.heap.size w w') : PD w' a gi gn vl lets left F d :=
  h.keep (Keep.ofBelow (F := fun _ => False) hb) (fun _ _ => id)
theorem through_img (d : Dev) : d.through.2.img = d.img := by unfold Dev.through; split <;> rfl
theorem through_loose (d : Dev) : d.through.2.loose = d.loose := by unfold Dev.through; split <;> rfl
theorem own_slice {w : World} {base : Nat} {e : TypeId} {size : Nat} {v : Value} {n : Nat} {xs : List Value} (h : w.ownsRow base e size v n xs) : ∃ ao c, v = .slice ao n c := by
  rcases h.2 with ⟨rfl, h0⟩ | ⟨g, c, cur, rfl, r⟩
  · exact ⟨none, 0, by rw [h0]⟩
  · exact ⟨_, _, rfl⟩
/-- from the append on -/
theorem write_end {w1 w4 : World} {a gi gn : Nat} {vl lets v4 : Value} {left : Int} {F : Nat → Prop} {d : Dev} {k : Nat} {b : List UInt8} (H1 : PD w1 a gi gn vl lets left F d) (hk : k < d.img.length) (hb : b.length = 64)
    (MK : Keep (fun k => vl.ownBlock = some k) w1 w4) (HO : w4.ownsRow 0 84 65 v4 (d.loose.length + 1) (lw d.loose ++ wcells (k, b))) (HW : v4.ownBlock = vl.ownBlock ∨ ∀ k, v4.ownBlock = some k → w1.heap.size ≤ k) :
    (w4.setCell ⟨a, 2, none⟩ v4).there gn (k * 64) 64 ∧
    PD ((w4.setCell ⟨a, 2, none⟩ v4).drew.setCells gn (k * 64) (bv b)) a gi gn v4 lets left (fun k => F k ∨ (w1.heap.size ≤ k ∧ k < w4.heap.size)) { d with loose := d.loose ++ [(k, b)] } ∧
    Keep F w1 ((w4.setCell ⟨a, 2, none⟩ v4).drew.setCells gn (k * 64) (bv b)) := by
  have hne : ∀ k, v4.ownBlock = some k → (F k ∨ (w1.heap.size ≤ k ∧ k < w4.heap.size)) ∧ k ≠ a ∧ k ≠ gi ∧ k ≠ gn := fun k hk => by
    rcases HW with h | h
    · rw [h] at hk; exact ⟨.inl (H1.fl k hk).1, (H1.fl k hk).2⟩
    · have h1 := h k hk; have h2 := own_lt HO k hk
      have := H1.hd.lt; have := H1.im.lt; have := H1.nw.lt
      exact ⟨.inr ⟨h1, h2⟩, by omega, by omega, by omega⟩
  have hd4 := H1.hd.keep MK (fun h => (H1.fl _ h).2.1 rfl)
  have im4 := H1.im.keep MK (fun h => (H1.fl _ h).2.2.1 rfl)
  have nw4 := H1.nw.keep MK (fun h => (H1.fl _ h).2.2.2 rfl)
  have hd5 := hd4.set 2 v4
  have im5 := im4.other ⟨a, 2, none⟩ v4 (Ne.symm H1.ai)
  have nw5 := nw4.other ⟨a, 2, none⟩ v4 (Ne.symm H1.an)
  have lo5 : (w4.setCell ⟨a, 2, none⟩ v4).ownsRow 0 84 65 v4 (d.loose.length + 1) (lw d.loose ++ wcells (k, b)) := owns_keep HO ((Keep.refl (fun k => k = a) w4).setCell (p := ⟨a, 2, none⟩) rfl v4) (fun k hk => (hne k hk).2.1)
  have h64 := H1.ok.now64
  have hkn : k < d.now.length := by rw [d.now_len]; exact hk
  have MF : Keep F w1 w4 := MK.mono fun k _ hk => (H1.fl k hk).1
  refine ⟨nw5.secThere h64 hkn, ?_, Keep.setCells H1.fn _ _ ((MF.setCell (p := ⟨a, 2, none⟩) H1.fa v4).drew)⟩
  exact {
    ok := ⟨H1.ok.1, H1.ok.2, H1.ok.3, fun x hx => by
      rcases List.mem_append.1 hx with hx | hx
      · exact H1.ok.4 x hx
      · simp at hx; subst hx; exact ⟨hk, hb⟩⟩
    hd := hd5.drew.otherCells _ _ _ H1.an
    im := im5.drew.otherCells _ _ _ H1.gg
    nw := by
      have := nw5.drew.put h64 hkn hb
      have e : ({ d with loose := d.loose ++ [(k, b)] } : Dev).now = d.now.set k b := laid_snoc _ _ _
      rw [e]; exact this
    lo := by
      have := owns_keep lo5 (Keep.setCells (F := fun k => k = gn) (g := gn) rfl (bv b) (k * 64) ((Keep.refl (fun k => k = gn) (w4.setCell ⟨a, 2, none⟩ v4)).drew)) (fun k hk => (hne k hk).2.2.2)
      rw [List.length_append, lw_snoc]; exact this
    fu := H1.fu, lf := H1.lf, ai := H1.ai, an := H1.an, gg := H1.gg, fa := .inl H1.fa, fi := .inl H1.fi, fn := .inl H1.fn, fl := hne }
set_option maxRecDepth 100000 in
set_option maxHeartbeats 1000000 in
theorem write_any {a gi gn : Nat} {vl lets : Value} {left : Int} {F : Nat → Prop} {d : Dev} (i : Int) (bo : Option Addr) (n c : Nat) (b : List UInt8) (hn : n = b.length) (w : World) (hb : SB w bo c b) (hbF : ∀ x, bo = some x → ¬ F x.block) (hlo : d.loose.length ≤ 1073741824) (h : PD w a gi gn vl lets left F d) :
    Calls Tryz.prog 13 #[ptr a, .int .i64 i, .slice bo n c] w fun e w' => e = .returned (.int .i64 (d.write i b).1) ∧ (∃ vl' left', PD w' a gi gn vl' lets left' (fun k => F k ∨ (w.heap.size ≤ k ∧ k < w'.heap.size)) (d.write i b).2) ∧ Keep F w w' := by
  have H := hid h
  cases ho : d.out
  rotate_left
  · have hs : d.write i b = (22, d) := by unfold Dev.write; rw [ho]; rfl
    rw [hs]
    have HO := hid ho
    clear h ho hs hn
    unfold ptr
    go_enter Tryz.func13, Tryz.ntmps13
    go_wp2_with fail
    refine (ready_any w H.out).mono ?_
    rintro e w' ⟨rfl, rfl⟩
    rw [HO.out, show outCode true = 22 from rfl]
    go_wp2
    go_ret
    exact ⟨rfl, ⟨_, _, H.out.mono fun _ => .inl⟩, Keep.refl _ _⟩
  cases hh : has d.img.length i
  · have hs : d.write i b = (3, d) := by unfold Dev.write; rw [ho]; simp [hh]
    rw [hs]
    have HO := hid ho; have HH := hid hh
    clear h ho hs hh hn
    unfold ptr
    go_enter Tryz.func13, Tryz.ntmps13
    go_wp2_with fail
    refine (ready_any w H.out).mono ?_
    rintro e w' ⟨rfl, rfl⟩
    rw [HO.out, show outCode false = 0 from rfl]
    go_wp2_with fail
    refine (has_any i w' H.out).mono ?_
    rintro e w' ⟨rfl, rfl⟩
    rw [HH.out]
    go_wp2
    go_ret
    exact ⟨rfl, ⟨_, _, H.out.mono fun _ => .inl⟩, Keep.refl _ _⟩
  by_cases h64 : b.length = 64
  rotate_left
  · have hs : d.write i b = (2, d) := by unfold Dev.write; rw [ho]; simp [hh, h64]
    rw [hs]
    have hn64 : n ≠ 64 := by omega
    have HO := hid ho; have HH := hid hh
    clear h ho hs hh hn h64
    unfold ptr
    go_enter Tryz.func13, Tryz.ntmps13
    go_wp2_with fail
    refine (ready_any w H.out).mono ?_
    rintro e w' ⟨rfl, rfl⟩
    rw [HO.out, show outCode false = 0 from rfl]
    go_wp2_with fail
    refine (has_any i w' H.out).mono ?_
    rintro e w' ⟨rfl, rfl⟩
    rw [HH.out]
    go_wp2
    go_ret
    exact ⟨rfl, ⟨_, _, H.out.mono fun _ => .inl⟩, Keep.refl _ _⟩
  obtain rfl : n = 64 := hn.trans h64
  clear hn
  cases ht : d.through.1
  · have hs : d.write i b = (22, d.through.2) := by unfold Dev.write; rw [ho]; simp [hh, h64, ht]
    rw [hs]
    have HO := hid ho; have HH := hid hh; have HT := hid ht
    clear h ho hs hh ht h64
    unfold ptr
    go_enter Tryz.func13, Tryz.ntmps13
    go_wp2_with fail
    refine (ready_any w H.out).mono ?_
    rintro e w' ⟨rfl, rfl⟩
    rw [HO.out, show outCode false = 0 from rfl]
    go_wp2_with fail
    refine (has_any i w' H.out).mono ?_
    rintro e w' ⟨rfl, rfl⟩
    rw [HH.out]
    go_wp2_with fail
    refine (through_any w' H.out HO.out).mono ?_
    rintro e w1 ⟨rfl, ⟨left', h1⟩, hk1⟩
    rw [HT.out]
    go_wp2
    go_ret
    exact ⟨rfl, ⟨_, _, h1.mono fun _ => .inl⟩, hk1⟩
  · obtain ⟨k, rfl, hk⟩ := has_nat hh
    have hs : d.write k b = (0, { d.through.2 with loose := d.loose ++ [(k, b)] }) := by unfold Dev.write; rw [ho]; simp [hh, h64, ht]
    rw [hs]
    have HO := hid ho; have HH := hid hh; have HT := hid ht; have H64 := hid h64
    clear h ho hs hh ht h64
    unfold ptr
    go_enter Tryz.func13, Tryz.ntmps13
    go_wp2_with fail
    refine (ready_any w H.out).mono ?_
    rintro e w' ⟨rfl, rfl⟩
    rw [HO.out, show outCode false = 0 from rfl]
    go_wp2_with fail
    refine (has_any k w' H.out).mono ?_
    rintro e w' ⟨rfl, rfl⟩
    rw [HH.out]
    go_wp2_with fail
    refine (through_any w' H.out HO.out).mono ?_
    rintro e w1 ⟨rfl, ⟨left', h1⟩, hk1⟩
    rw [HT.out]
    have H1 := hid h1
    have HK1 := hid hk1
    clear h1 hk1
    obtain ⟨g, o, rfl, hr⟩ : ∃ g o, bo = some ⟨g, o, none⟩ ∧ Hid (w1.rangeAt g o (bv b)) := by
      have hb := hb.keep HK1.out hbF
      rcases hb with ⟨rfl, _, rfl⟩ | ⟨x, rfl, rfl⟩ | ⟨g, o, rfl, hr⟩
      · have := H64.out; simp at this
      · have := H64.out; simp at this
      · exact ⟨g, o, rfl, hr⟩
    have ra := run_arrayAt
    go_wp2_with (first
      | (refine wpList_load_mid rfl 82 (.tmp 29) rfl g o rfl (bv b) _ hr.out Tryz.underlying82 rfl (by rw [bv_length, H64.out]; exact sec_info) ?_)
      | (refine Go.Great.wpList_readTo rfl _ rfl _ (exec_write _ _ (.tmp 27) (.tmp 30) k b H64.out rfl rfl rfl _) ?_)
      | (refine wpList_store_row rfl 84 (.tmp 8) (.tmp 31) rfl _ _ rfl rfl _ _ (alloc_new w1 _) (by rw [List.size_toArray, List.length_cons, bv_length, H64.out]; exact write_info) ?_ ?_ ?_))
    · exact (show Tryz.zeroCells84.size = 65 by kernel_rfl).trans (by rw [List.size_toArray]; exact (wcells_len (x := (k, b)) H64.out).symm)
    · exact all_oneCell_toArray (wcells_one (k, b))
    obtain ⟨w2, hw2, hb2, hbe2⟩ := store_new w1 Tryz.zeroCells84 84 (wcells (k, b))
    rw [show (Value.int .i64 (k : Int) :: bv b).toArray = (wcells (k, b)).toArray from rfl, hw2]
    clear hw2
    have HG8 := hid hb2
    have H2 := hid (H1.out.below hbe2)
    have HBE := hid hbe2
    have hlo' : Hid (d.through.2.loose.length ≤ 1073741824) := by rw [through_loose]; exact hlo
    have hg8a : Hid (w1.heap.size ≠ a) := by have := H1.out.lt; show w1.heap.size ≠ a; omega
    have hg8o : Hid (¬ vl.ownBlock = some w1.heap.size) := fun h => by have := own_lt H1.out.lo _ h; omega
    clear hb2 hbe2
    -- REGION 11
    refine wp_region_held_drew (S := fun w' => Blk w' w1.heap.size 84 (wcells (k, b))) (by kernel_rfl) HG8.out.drew (fun hS => ?_)
    refine tkH (i := 0) (v := ?v0x1) (y := Or.inl ⟨by rfl, ?y0x1⟩) (s := hS) (h := ?r0x1)
    case y0x1 => (intro w' hSw; (try dsimp only at hSw); go_simp; (try with_reducible rfl))
    simp only [Act.put, sA, sB, sC]
    refine tkH (i := 1) (v := ?v1x2) (y := Or.inl ⟨by rfl, ?y1x2⟩) (s := hS) (h := ?r1x2)
    case y1x2 => (intro w' hSw; (try dsimp only at hSw); go_simp; (try with_reducible rfl))
    simp only [Act.put, sA, sB, sC]
    refine tkH (i := 2) (v := ?v2x3) (y := Or.inl ⟨by rfl, ?y2x3⟩) (s := hS) (h := ?r2x3)
    case y2x3 => (intro w' hSw; (try dsimp only at hSw); go_simp; (try with_reducible rfl))
    simp only [Act.put, sA, sB, sC]
    refine tkH (i := 3) (v := ?v3x4) (y := Or.inl ⟨by rfl, ?y3x4⟩) (s := hS) (h := ?r3x4)
    case y3x4 => (intro w' hSw; (try dsimp only at hSw); go_simp; (try with_reducible rfl))
    simp only [Act.put, sA, sB, sC]
    refine tkH (i := 5) (v := ?v5x5) (y := ?y5x5) (s := hS) (h := ?r5x5)
    case y5x5 => (refine yieldsIf_load_mid ?_ 84 (.tmp 8) ?_ w1.heap.size 0 ?_ (wcells (k, b)) _ ?_ Tryz.underlying84 ?_ ?_; rfl; rfl; rfl; exact (fun w' hSw => hSw.range fun j v hv => by rw [Nat.zero_add]; exact hv); rfl; (rw [wcells_len H64.out]; exact write_info))
    simp only [Act.put, sA, sB, sC]
    refine wpAnyH_ready (rs := [4, 6]) (by kernel_rfl) (by simp) ?_
    refine AllReadyH.cons (by simp only [List.getElem?_toArray, List.getElem?_cons_zero, List.getElem?_cons_succ]; exact rfl) (fun K hK => ?_) (AllReadyH.cons (by simp only [List.getElem?_toArray, List.getElem?_cons_zero, List.getElem?_cons_succ]; exact rfl) (fun K hK => ?_) AllReadyH.nil)
    · have hc2 := H2.out.hd.cell (j := 2) rfl
      try have hc2' := (H2.out.below HB3.out).hd.cell (j := 2) rfl
      go_simp
      refine hK.out _ _ ?k4x6 (fun hS => ?s4x6)
      case k4x6 => exact hS
      clear hK K
      try simp only [Act.put, sA, sB, sC]
      refine rdH (i := 6) (h := fun K hK => ?_)
      refine wpo_lay1 (.tmp 37) rfl (wcells (k, b)) (wcells_len H64.out) rfl ?_
      intro w3 hb3 hc3
      have HB3 : Hid (Below w2.heap.size w2 w3) := ((Below.refl _ w2).drew).trans hb3
      have HC3 := hid hc3
      clear hb3 hc3
      refine hK.out _ _ ?k6x7 (fun hS => ?s6x7)
      case k6x7 => exact HG8.out.below HB3.out (by exact HG8.out.lt)
      clear hK K
      try simp only [Act.put, sA, sB, sC]
      refine rdH (i := 7) (h := fun K hK => ?_)
      refine wpo_appendW (.tmp 36) (.tmp 38) rfl vl _ _ rfl (H2.out.below HB3.out).lo _ rfl (wcells (k, b)) HC3.out (wcells_len H64.out) (wcells_one _) hlo'.out ?_
      intro v4 w4 ho4 hg4 hw4
      obtain ⟨ao4, c4, rfl⟩ := own_slice ho4
      have HO4 := hid ho4
      have MK2 : Hid (Keep (fun k => vl.ownBlock = some k) w2 w4) := ((Keep.ofBelow (F := fun k => vl.ownBlock = some k) (a := w2) (b := w3) HB3.out).grown hg4 (fun k hk _ => hk))
      have MK1 : Hid (Keep (fun k => vl.ownBlock = some k) w1 w4) := (Keep.ofBelow (F := fun k => vl.ownBlock = some k) HBE.out).trans MK2.out
      have HW4 : Hid ((Value.slice ao4 (d.through.2.loose.length + 1) c4).ownBlock = vl.ownBlock ∨ ∀ k, (Value.slice ao4 (d.through.2.loose.length + 1) c4).ownBlock = some k → w1.heap.size ≤ k) := by
        rcases hw4 with h | h
        · exact .inl h
        · refine .inr fun k hk => ?_
          rw [h] at hk; injection hk with hk
          have h1 := HBE.out.size; have h2 : w2.heap.size ≤ w3.heap.size := HB3.out.size
          omega
      have hd4 := hid (H2.out.hd.keep MK2.out (fun h => (H2.out.fl _ h).2.1 rfl))
      have HG4 := hid (HG8.out.keep MK2.out hg8o.out)
      have HE := hid (write_end H1.out (by rw [through_img]; exact hk) H64.out MK1.out HO4.out HW4.out)
      clear ho4 hg4 hw4
      refine hK.out _ _ ?k7x8 (fun hS => ?s7x8)
      case k7x8 => exact HG4.out
      clear hK K
      try simp only [Act.put, sA, sB, sC]
      refine tkH (i := 8) (v := ?v8x9) (y := Or.inl ⟨by rfl, ?y8x9⟩) (s := hS) (h := ?r8x9)
      case y8x9 => (intro w' hSw; (try dsimp only at hSw); go_simp; (try with_reducible rfl))
      simp only [Act.put, sA, sB, sC]
      refine tkH (i := 9) (v := ?v9x10) (y := Or.inl ⟨by rfl, ?y9x10⟩) (s := hS) (h := ?r9x10)
      case y9x10 => (intro w' hSw; (try dsimp only at hSw); go_simp; (try with_reducible rfl))
      simp only [Act.put, sA, sB, sC]
      refine rdH (i := 10) (h := fun K hK => ?_)
      have hc4 := hd4.out.cell (j := 2) rfl
      have hf4 := hd4.out.free 2
      go_simp
      refine hK.out _ _ ?k10x11 (fun hS => ?s10x11)
      case k10x11 => exact HG4.out.other _ _ hg8a.out
      clear hK K
      try simp only [Act.put]
      refine wpAnyH_done (by kernel_rfl) ?_ _
      clear hS
      go_wp2_with fail
      have hk2 : k < d.through.2.img.length := by rw [through_img]; exact hk
      have hd5 := hid (hd4.out.set 2 (Value.slice ao4 (d.through.2.loose.length + 1) c4))
      have HNG : Hid (w1.heap.size ≠ gn) := by have := H1.out.nw.lt; show w1.heap.size ≠ gn; omega
      refine wp_region_held_drew (S := fun w' => w'.cell? ⟨a, 1, none⟩ = some (.slice (some ⟨gn, 0, none⟩) d.through.2.img.length d.through.2.img.length) ∧ Blk w' w1.heap.size 84 (wcells (k, b))) (by kernel_rfl) ⟨hd5.out.drew.cell (j := 1) rfl, (HG4.out.other _ _ hg8a.out).drew⟩ (fun hS => ?_)
      refine tkH (i := 0) (v := ?v0x1ze1) (y := Or.inl ⟨by rfl, ?y0x1ze1⟩) (s := hS) (h := ?r0x1ze1)
      case y0x1ze1 => (intro w' hSw; (try dsimp only at hSw); go_simp; (try with_reducible rfl))
      simp only [Act.put, sA, sB, sC]
      refine tkH (i := 1) (v := ?v1x2ze1) (y := Or.inl ⟨by rfl, ?y1x2ze1⟩) (s := hS) (h := ?r1x2ze1)
      case y1x2ze1 => (intro w' hSw; (try dsimp only at hSw); go_simp; (try with_reducible rfl))
      simp only [Act.put, sA, sB, sC]
      refine tkH (i := 2) (v := ?v2x3ze1) (y := Or.inl ⟨by rfl, ?y2x3ze1⟩) (s := hS) (h := ?r2x3ze1)
      case y2x3ze1 => (intro w' hSw; (try dsimp only at hSw); go_simp; (try with_reducible rfl))
      simp only [Act.put, sA, sB, sC]
      refine tkH (i := 3) (v := ?v3x4ze1) (y := Or.inl ⟨by rfl, ?y3x4ze1⟩) (s := hS) (h := ?r3x4ze1)
      case y3x4ze1 => (intro w' hSw; (try dsimp only at hSw); go_simp; (try with_reducible rfl))
      simp only [Act.put, sA, sB, sC]
      refine tkH (i := 4) (v := ?v4x5ze1) (y := Or.inl ⟨by rfl, ?y4x5ze1⟩) (s := hS) (h := ?r4x5ze1)
      case y4x5ze1 => (intro w' hSw; (try dsimp only at hSw); go_simp; (try with_reducible rfl))
      simp only [Act.put, sA, sB, sC]
      refine tkH (i := 5) (v := ?v5x6ze1) (y := Or.inl ⟨by rfl, ?y5x6ze1⟩) (s := hS) (h := ?r5x6ze1)
      case y5x6ze1 => (intro w' hSw; (try dsimp only at hSw); go_simp; (try with_reducible rfl))
      simp only [Act.put, sA, sB, sC]
      refine tkH (i := 6) (v := ?v6x7ze1) (y := ?y6x7ze1) (s := hS) (h := ?r6x7ze1)
      case y6x7ze1 => (refine yieldsIf_load_mid ?_ 82 (.tmp 47) ?_ w1.heap.size 1 ?_ (bv b) _ ?_ Tryz.underlying82 ?_ ?_; rfl; rfl; rfl; exact (fun w' hSw => hSw.2.range fun j v hv => by rw [Nat.add_comm]; exact hv); rfl; (rw [bv_length, H64.out]; exact sec_info))
      simp only [Act.put, sA, sB, sC]
      refine tkH (i := 7) (v := ?v7x8ze1) (y := Or.inl ⟨by rfl, ?y7x8ze1⟩) (s := hS) (h := ?r7x8ze1)
      case y7x8ze1 => (intro w' hSw; (try dsimp only at hSw); go_simp; (try with_reducible rfl))
      simp only [Act.put, sA, sB, sC]
      refine rdH (i := 8) (h := fun K hK => ?_)
      refine wp_store_mid 82 (.tmp 49) (.tmp 48) rfl gn (k * 64) (bv b).toArray rfl rfl (by rw [List.size_toArray, bv_length, H64.out]; exact HE.out.1) (by rw [List.size_toArray, bv_length, H64.out]; exact sec_info) (bv_cells b) ?_
      refine hK.out _ _ ?k8x9ze1 (fun hS => ?s8x9ze1)
      case k8x9ze1 => exact ⟨by rw [World.cell?_setCells_out _ _ _ _ _ (fun h => absurd h H1.out.an)]; exact hS.1, hS.2.otherCells _ _ _ HNG.out⟩
      clear hK K
      try simp only [Act.put]
      refine wpAnyH_done (by kernel_rfl) ?_ _
      go_wp2
      go_ret
      obtain ⟨_, he, hke⟩ := HE.out
      rw [show ({ d.through.2 with loose := d.through.2.loose ++ [(k, b)] } : Dev) = { d.through.2 with loose := d.loose ++ [(k, b)] } by rw [through_loose]] at he
      exact ⟨rfl, ⟨_, _, he.mono (fun k hk => hk.imp id fun h => ⟨Nat.le_trans HK1.out.size h.1, by rw [size_setCells']; simpa using h.2⟩)⟩, HK1.out.trans hke⟩
    · refine wpo_lay1 (.tmp 37) rfl (wcells (k, b)) (wcells_len H64.out) rfl ?_
      intro w3 hb3 hc3
      have HB3 : Hid (Below w2.heap.size w2 w3) := ((Below.refl _ w2).drew).trans hb3
      have HC3 := hid hc3
      clear hb3 hc3
      refine hK.out _ _ ?k6x12 (fun hS => ?s6x12)
      case k6x12 => exact HG8.out.below HB3.out (by exact HG8.out.lt)
      clear hK K
      try simp only [Act.put, sA, sB, sC]
      refine rdH (i := 4) (h := fun K hK => ?_)
      have hc2 := H2.out.hd.cell (j := 2) rfl
      try have hc2' := (H2.out.below HB3.out).hd.cell (j := 2) rfl
      go_simp
      refine hK.out _ _ ?k4x13 (fun hS => ?s4x13)
      case k4x13 => exact hS
      clear hK K
      try simp only [Act.put, sA, sB, sC]
      refine rdH (i := 7) (h := fun K hK => ?_)
      refine wpo_appendW (.tmp 36) (.tmp 38) rfl vl _ _ rfl (H2.out.below HB3.out).lo _ rfl (wcells (k, b)) HC3.out (wcells_len H64.out) (wcells_one _) hlo'.out ?_
      intro v4 w4 ho4 hg4 hw4
      obtain ⟨ao4, c4, rfl⟩ := own_slice ho4
      have HO4 := hid ho4
      have MK2 : Hid (Keep (fun k => vl.ownBlock = some k) w2 w4) := ((Keep.ofBelow (F := fun k => vl.ownBlock = some k) (a := w2) (b := w3) HB3.out).grown hg4 (fun k hk _ => hk))
      have MK1 : Hid (Keep (fun k => vl.ownBlock = some k) w1 w4) := (Keep.ofBelow (F := fun k => vl.ownBlock = some k) HBE.out).trans MK2.out
      have HW4 : Hid ((Value.slice ao4 (d.through.2.loose.length + 1) c4).ownBlock = vl.ownBlock ∨ ∀ k, (Value.slice ao4 (d.through.2.loose.length + 1) c4).ownBlock = some k → w1.heap.size ≤ k) := by
        rcases hw4 with h | h
        · exact .inl h
        · refine .inr fun k hk => ?_
          rw [h] at hk; injection hk with hk
          have h1 := HBE.out.size; have h2 : w2.heap.size ≤ w3.heap.size := HB3.out.size
          omega
      have hd4 := hid (H2.out.hd.keep MK2.out (fun h => (H2.out.fl _ h).2.1 rfl))
      have HG4 := hid (HG8.out.keep MK2.out hg8o.out)
      have HE := hid (write_end H1.out (by rw [through_img]; exact hk) H64.out MK1.out HO4.out HW4.out)
      clear ho4 hg4 hw4
      refine hK.out _ _ ?k7x14 (fun hS => ?s7x14)
      case k7x14 => exact HG4.out
      clear hK K
      try simp only [Act.put, sA, sB, sC]
      refine tkH (i := 8) (v := ?v8x15) (y := Or.inl ⟨by rfl, ?y8x15⟩) (s := hS) (h := ?r8x15)
      case y8x15 => (intro w' hSw; (try dsimp only at hSw); go_simp; (try with_reducible rfl))
      simp only [Act.put, sA, sB, sC]
      refine tkH (i := 9) (v := ?v9x16) (y := Or.inl ⟨by rfl, ?y9x16⟩) (s := hS) (h := ?r9x16)
      case y9x16 => (intro w' hSw; (try dsimp only at hSw); go_simp; (try with_reducible rfl))
      simp only [Act.put, sA, sB, sC]
      refine rdH (i := 10) (h := fun K hK => ?_)
      have hc4 := hd4.out.cell (j := 2) rfl
      have hf4 := hd4.out.free 2
      go_simp
      refine hK.out _ _ ?k10x17 (fun hS => ?s10x17)
      case k10x17 => exact HG4.out.other _ _ hg8a.out
      clear hK K
      try simp only [Act.put]
      refine wpAnyH_done (by kernel_rfl) ?_ _
      clear hS
      go_wp2_with fail
      have hk2 : k < d.through.2.img.length := by rw [through_img]; exact hk
      have hd5 := hid (hd4.out.set 2 (Value.slice ao4 (d.through.2.loose.length + 1) c4))
      have HNG : Hid (w1.heap.size ≠ gn) := by have := H1.out.nw.lt; show w1.heap.size ≠ gn; omega
      refine wp_region_held_drew (S := fun w' => w'.cell? ⟨a, 1, none⟩ = some (.slice (some ⟨gn, 0, none⟩) d.through.2.img.length d.through.2.img.length) ∧ Blk w' w1.heap.size 84 (wcells (k, b))) (by kernel_rfl) ⟨hd5.out.drew.cell (j := 1) rfl, (HG4.out.other _ _ hg8a.out).drew⟩ (fun hS => ?_)
      refine tkH (i := 0) (v := ?v0x1ze2) (y := Or.inl ⟨by rfl, ?y0x1ze2⟩) (s := hS) (h := ?r0x1ze2)
      case y0x1ze2 => (intro w' hSw; (try dsimp only at hSw); go_simp; (try with_reducible rfl))
      simp only [Act.put, sA, sB, sC]
      refine tkH (i := 1) (v := ?v1x2ze2) (y := Or.inl ⟨by rfl, ?y1x2ze2⟩) (s := hS) (h := ?r1x2ze2)
      case y1x2ze2 => (intro w' hSw; (try dsimp only at hSw); go_simp; (try with_reducible rfl))
      simp only [Act.put, sA, sB, sC]
      refine tkH (i := 2) (v := ?v2x3ze2) (y := Or.inl ⟨by rfl, ?y2x3ze2⟩) (s := hS) (h := ?r2x3ze2)
      case y2x3ze2 => (intro w' hSw; (try dsimp only at hSw); go_simp; (try with_reducible rfl))
      simp only [Act.put, sA, sB, sC]
      refine tkH (i := 3) (v := ?v3x4ze2) (y := Or.inl ⟨by rfl, ?y3x4ze2⟩) (s := hS) (h := ?r3x4ze2)
      case y3x4ze2 => (intro w' hSw; (try dsimp only at hSw); go_simp; (try with_reducible rfl))
      simp only [Act.put, sA, sB, sC]
      refine tkH (i := 4) (v := ?v4x5ze2) (y := Or.inl ⟨by rfl, ?y4x5ze2⟩) (s := hS) (h := ?r4x5ze2)
      case y4x5ze2 => (intro w' hSw; (try dsimp only at hSw); go_simp; (try with_reducible rfl))
      simp only [Act.put, sA, sB, sC]
      refine tkH (i := 5) (v := ?v5x6ze2) (y := Or.inl ⟨by rfl, ?y5x6ze2⟩) (s := hS) (h := ?r5x6ze2)
      case y5x6ze2 => (intro w' hSw; (try dsimp only at hSw); go_simp; (try with_reducible rfl))
      simp only [Act.put, sA, sB, sC]
      refine tkH (i := 6) (v := ?v6x7ze2) (y := ?y6x7ze2) (s := hS) (h := ?r6x7ze2)
      case y6x7ze2 => (refine yieldsIf_load_mid ?_ 82 (.tmp 47) ?_ w1.heap.size 1 ?_ (bv b) _ ?_ Tryz.underlying82 ?_ ?_; rfl; rfl; rfl; exact (fun w' hSw => hSw.2.range fun j v hv => by rw [Nat.add_comm]; exact hv); rfl; (rw [bv_length, H64.out]; exact sec_info))
      simp only [Act.put, sA, sB, sC]
      refine tkH (i := 7) (v := ?v7x8ze2) (y := Or.inl ⟨by rfl, ?y7x8ze2⟩) (s := hS) (h := ?r7x8ze2)
      case y7x8ze2 => (intro w' hSw; (try dsimp only at hSw); go_simp; (try with_reducible rfl))
      simp only [Act.put, sA, sB, sC]
      refine rdH (i := 8) (h := fun K hK => ?_)
      refine wp_store_mid 82 (.tmp 49) (.tmp 48) rfl gn (k * 64) (bv b).toArray rfl rfl (by rw [List.size_toArray, bv_length, H64.out]; exact HE.out.1) (by rw [List.size_toArray, bv_length, H64.out]; exact sec_info) (bv_cells b) ?_
      refine hK.out _ _ ?k8x9ze2 (fun hS => ?s8x9ze2)
      case k8x9ze2 => exact ⟨by rw [World.cell?_setCells_out _ _ _ _ _ (fun h => absurd h H1.out.an)]; exact hS.1, hS.2.otherCells _ _ _ HNG.out⟩
      clear hK K
      try simp only [Act.put]
      refine wpAnyH_done (by kernel_rfl) ?_ _
      go_wp2
      go_ret
      obtain ⟨_, he, hke⟩ := HE.out
      rw [show ({ d.through.2 with loose := d.through.2.loose ++ [(k, b)] } : Dev) = { d.through.2 with loose := d.loose ++ [(k, b)] } by rw [through_loose]] at he
      exact ⟨rfl, ⟨_, _, he.mono (fun k hk => hk.imp id fun h => ⟨Nat.le_trans HK1.out.size h.1, by rw [size_setCells']; simpa using h.2⟩)⟩, HK1.out.trans hke⟩
end Go.Proofs.YtlondopgibcikaaGreat
