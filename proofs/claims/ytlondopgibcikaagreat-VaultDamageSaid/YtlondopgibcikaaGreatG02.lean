/- The walks of crc: what each function of the package returns. The walks of crc, continued: sums, seals. A device, plainly; how it lies in memory. Steps of a region that draws its order, said shortly. The walks of a device's small methods. -/
import Derived.Test.YtlondopgibcikaaGreatRows
import Derived.Test.YtlondopgibcikaaGreatG01
import Derived.WalkKit
import Derived.WalkSpells
import Derived.WalkLawsBesides
import Derived.Deep.RegionHeld3
import Derived.Deep.MidRow
import Derived.Laws.CopyRow
import Derived.KernelRfl
import Derived.Lib.SliceRun
namespace Go.Proofs.YtlondopgibcikaaGreat
open Go.RowKit Ent
theorem stps_succ' (n : Nat) (r : R32) : stps (n + 1) r = stp (stps n r) := by
  rw [stps_add]; rfl
set_option maxRecDepth 100000 in
set_option maxHeartbeats 400000 in
theorem made1_any (r : R32) (w : World) :
    Calls Tryz.prog 130 #[.int .u32 r.toNat] w fun e w' => e = .returned (.int .u32 (stps 8 r).toNat) ∧ w = w' := by
  go_enter Tryz.func130, Tryz.ntmps130
  go_wp2
  go_loop [0, 3] (fun x i => ∃ k : Nat, k ≤ 8 ∧ i = .int .i64 k ∧ x = .int .u32 (stps k r).toNat) (fun _ i => 8 - (intOf i).toNat)
  case atStart => exact ⟨0, Nat.zero_le _, rfl, rfl⟩
  case round =>
    obtain ⟨k, hk, rfl, rfl⟩ := hrel
    go_wp2
    · go_round
      case rel => exact ⟨k + 1, by omega, by go_num, by rw [stp_int, stps_succ']⟩
      case measure => simp [intOf]; omega
    · have hk8 : k = 8 := by omega
      subst hk8
      go_ret
      exact ⟨rfl, rfl⟩
theorem made1_int (x : Int) (h0 : 0 ≤ x) (h1 : x < 4294967296) (w : World) :
    Calls Tryz.prog 130 #[.int .u32 x] w fun e w' => e = .returned (.int .u32 (stps 8 (BitVec.ofInt 32 x)).toNat) ∧ w = w' := by
  have h := made1_any (BitVec.ofInt 32 x) w
  rwa [ofInt_toNat x h0 h1] at h
theorem zero256_size : Tryz.zeroCells148.size = 256 := by kernel_rfl
def tabCells : List Value := (List.range 256).map fun i => Value.int .u32 (ctab (UInt8.ofNat i)).toNat
theorem tabCells_of {cs : Array Value} (hs : cs.size = 256) (h : ∀ j, j < 256 → cs[j]? = some (Value.int .u32 (ctab (UInt8.ofNat j)).toNat)) : cs = tabCells.toArray := by
  apply Array.ext_getElem?
  intro i
  by_cases hi : i < 256
  · rw [h i hi]; simp [tabCells, hi]
  · rw [Array.getElem?_eq_none (by omega), Array.getElem?_eq_none (by simp [tabCells]; omega)]
theorem tabCells_size : tabCells.toArray.size = 256 := by simp [tabCells]
theorem tabCells_one : tabCells.toArray.all (·.oneCell') = true := all_oneCell_toArray (by intro v hv; simp [tabCells] at hv; obtain ⟨x, _, rfl⟩ := hv; rfl)
theorem tab_info : (Tryz.prog.info? 148).map (·.size) = some tabCells.toArray.size := by
  rw [tabCells_size]; kernel_rfl
set_option maxRecDepth 100000 in
set_option maxHeartbeats 400000 in
theorem made_any (w : World) :
    Calls Tryz.prog 127 #[] w fun e w' => e = .returned (.agg tabCells.toArray) ∧ Below w.heap.size w w' := by
  go_enter Tryz.func127, Tryz.ntmps127
  go_wp2_with fail
  go_loopw [3, 4] (fun _ i wr => ∃ k : Nat, k ≤ 256 ∧ i = .int .i64 k ∧ Below w.heap.size w wr ∧ (∃ zs : Array Value, zs.size = 256 ∧ wr.heap[w.heap.size]? = some (.cells zs 148 (0, 0))) ∧
      ∃ cs : Array Value, cs.size = 256 ∧ wr.heap[w.heap.size + 1]? = some (.cells cs 148 (0, 0)) ∧ ∀ j, j < k → cs[j]? = some (Value.int .u32 (ctab (UInt8.ofNat j)).toNat)) (fun _ i _ => 256 - (intOf i).toNat)
  case atStart =>
    refine ⟨0, Nat.zero_le _, rfl, ((Below.refl _ _).alloc (Nat.le_refl _) _).alloc (by simp) _, ⟨_, zero256_size, alloc_old (alloc_new w _) _⟩, _, zero256_size, ?_, fun j hj => by omega⟩
    have h := alloc_new (w.alloc (Obj.cells Tryz.zeroCells148 148)) (Obj.cells Tryz.zeroCells148 148)
    simpa using h
  case round =>
    obtain ⟨k, hk, rfl, hB, ⟨zs, hzs, h0⟩, cs, hsz, h1, hcs⟩ := hrel
    have H := hid (And.intro h0 (And.intro hsz (And.intro h1 (And.intro hcs hzs)))); clear h0 h1 hsz hcs hzs
    by_cases hlt : k < 256
    · obtain ⟨v, hv⟩ := at_some (show k < cs.size by rw [H.out.2.1]; exact hlt)
      have hc : wr.cell? ⟨w.heap.size + 1, k, none⟩ = some v := cell_blk H.out.2.2.1 hv
      have hf := free_blk H.out.2.2.1 k
      clear hv
      go_wp2_with fail
      with_reducible refine (made1_int _ (by omega) (by omega) _).mono ?_
      rintro e w' ⟨rfl, rfl⟩
      go_wp2_with fail
      go_roundw
      case rel =>
        obtain ⟨h0, hsz, h1, hcs, hzs⟩ := H.out
        refine ⟨k + 1, by omega, by go_num, hB.setCell (by simp) _, ⟨zs, hzs, set_other h0 _ (by simp)⟩, _, ?_, set_blk h1 k _, ?_⟩
        · rw [size_set_blk, hsz]
        · intro j hj
          rw [Array.getElem?_setIfInBounds]
          by_cases hjk : k = j
          · subst hjk
            rw [if_pos rfl, if_pos (by omega)]
            have e : BitVec.ofNat 32 k = zb (UInt8.ofNat k) := by
              apply BitVec.eq_of_toNat_eq
              unfold zb
              rw [BitVec.toNat_ofNat, BitVec.toNat_setWidth]; simp; omega
            rw [e]; rfl
          · rw [if_neg hjk]; exact hcs j (by omega)
      case measure => simp [intOf]; omega
    · have hk8 : k = 256 := by omega
      subst hk8
      obtain ⟨h0, hsz, h1, hcs, hzs⟩ := H.out
      have ht := tabCells_of hsz hcs
      subst ht
      have H1 := hid h1; have H0 := hid h0; have Hz := hid hzs
      clear h0 h1 hsz hcs hzs H
      go_wp2_with (first | (refine wpList_load_row rfl 148 (.tmp 2) rfl _ rfl _ _ _ _ H1.out Tryz.underlying148 rfl tab_info ?_) | (refine wpList_store_row rfl 148 (.tmp 0) (.tmp 14) rfl _ _ rfl rfl _ _ H0.out tab_info ?_ ?_ ?_))
      · rw [Hz.out, tabCells_size]
      · exact tabCells_one
      · refine bodyPost_ret (results_cell_row rfl _ _ w.heap.size 148 tabCells.toArray (0, 0) _ rfl (setRow_heap _ _ _ _ _ _ H0.out) Tryz.underlying148 rfl tab_info) rfl ⟨rfl, ?_⟩
        exact hB.trans ⟨rfl, rfl, rfl, by simp, fun k hk => setRow_other wr _ k _ (by omega)⟩
theorem tab_at (x : UInt8) : tabCells.toArray[x.toNat]? = some (Value.int .u32 (ctab x).toNat) := by
  have := x.toNat_lt
  have h : (List.range 256)[x.toNat]? = some x.toNat := by rw [List.getElem?_range (by omega)]
  simp [tabCells, h]
set_option maxRecDepth 100000 in
set_option maxHeartbeats 400000 in
theorem more1_any (r : R32) (c : UInt8) (bt : Nat) (w : World) (h : w.heap[bt]? = some (.cells tabCells.toArray 148 (0, 0))) :
    Calls Tryz.prog 129 #[.int .u32 r.toNat, .int .u8 c.toNat, .pointer (some ⟨bt, 0, none⟩)] w fun e w' => e = .returned (.int .u32 (cpass r c).toNat) ∧ w = w' := by
  have hx := idx_int r c
  have hc : w.cell? ⟨bt, (UInt8.ofBitVec (r.setWidth 8) ^^^ c).toNat, none⟩ = some (.int .u32 (ctab (UInt8.ofBitVec (r.setWidth 8) ^^^ c)).toNat) := by
    exact cell_blk h (tab_at _)
  have hl := byte_lt (UInt8.ofBitVec (r.setWidth 8) ^^^ c)
  have hp := cpass_int r c
  clear h
  generalize (UInt8.ofBitVec (r.setWidth 8) ^^^ c) = ix at *
  go_enter Tryz.func129, Tryz.ntmps129
  go_wp2
  go_ret
  exact ⟨by rw [← hp]; rfl, rfl⟩
set_option maxRecDepth 100000 in
set_option maxHeartbeats 400000 in
theorem fold_any (r : R32) (ao : Option Addr) (n cap : Nat) (l : List UInt8) (hn : n = l.length) (hm : n ≤ 1073741824) (bt : Nat) (w : World) (h : w.heap[bt]? = some (.cells tabCells.toArray 148 (0, 0))) (hl : SB w ao cap l) :
    Calls Tryz.prog 128 #[.int .u32 r.toNat, .slice ao n cap, .func (.func 129) #[] #[.pointer (some ⟨bt, 0, none⟩)]] w fun e w' => e = .returned (.int .u32 (regs l r).toNat) ∧ w = w' := by
  have H := hid h; clear h
  subst hn
  go_enter Tryz.func128, Tryz.ntmps128
  go_wp2_with fail
  go_loop [0, 8, 11] (fun x _ i => ∃ k : Nat, k ≤ l.length ∧ i = .int .i64 k ∧ x = .int .u32 (regs (l.take k) r).toNat) (fun _ _ i => l.length - (intOf i).toNat)
  case atStart => exact ⟨0, Nat.zero_le _, rfl, rfl⟩
  case round =>
    obtain ⟨k, hk, rfl, rfl⟩ := hrel
    by_cases hlt : k < l.length
    · rcases hl with ⟨_, _, rfl⟩ | ⟨_, _, rfl⟩ | ⟨b, o, rfl, hr⟩
      · simp at hlt
      · simp at hlt
      · obtain ⟨x, hx⟩ : ∃ x, l[k]? = some x := ⟨l[k], by simp [hlt]⟩
        have hc := rangeAt_byte hr hx
        have E : Hid (regs (l.take (k + 1)) r = cpass (regs (l.take k) r) x) := by
          have : l.take (k + 1) = l.take k ++ [x] := by rw [List.take_add_one, hx]; rfl
          show regs (l.take (k + 1)) r = cpass (regs (l.take k) r) x
          rw [this, regs_append]; rfl
        clear hr hx
        go_wp2_with (go_at_call 129; ((with_reducible refine (more1_any _ x bt _ H.out).mono ?_); rintro e w' ⟨rfl, rfl⟩))
        go_round
        case rel => exact ⟨k + 1, by omega, by go_num, by rw [E.out]⟩
        case measure => simp [intOf]; omega
    · have hkn : l.length ≤ k := by omega
      clear hl
      go_wp2
      go_ret
      exact ⟨by simp [List.take_of_length_le hkn], rfl⟩
end Go.Proofs.YtlondopgibcikaaGreat
namespace Go.Proofs.YtlondopgibcikaaGreat
open Go.RowKit Ent
set_option maxRecDepth 100000 in
set_option maxHeartbeats 400000 in
theorem more_any (s : R32) (ao : Option Addr) (n cap : Nat) (l : List UInt8) (hn : n = l.length) (hm : n ≤ 1073741824) (w : World) (hl : SB w ao cap l) :
    Calls Tryz.prog 124 #[.int .u32 s.toNat, .slice ao n cap] w fun e w' => e = .returned (.int .u32 (cmore s l).toNat) ∧ Below w.heap.size w w' := by
  subst hn
  go_enter Tryz.func124, Tryz.ntmps124
  go_wp2_with (first | (go_at_call 127; ((with_reducible refine (made_any _).mono ?_); rintro e w1 ⟨rfl, hb⟩)) | (refine wpList_store_row rfl 148 (.tmp 5) (.tmp 6) rfl _ _ rfl rfl _ _ (alloc_new _ _) tab_info (zero256_size.trans tabCells_size.symm) tabCells_one ?_))
  rw [not32]
  have hs : SB ((w1.alloc (Obj.cells Tryz.zeroCells148 148)).setRow w1.heap.size tabCells.toArray) ao cap l :=
    hl.below (below_setRow' (hb.alloc hb.size _) hb.size _)
  with_reducible refine (fold_any (~~~ s) ao _ cap l rfl hm w1.heap.size _ (setRow_heap _ _ _ _ _ _ (alloc_new _ _)) hs).mono ?_
  rintro e w2 ⟨rfl, rfl⟩
  go_wp2
  go_ret
  exact ⟨ret_int (by rw [not32]; rfl), below_setRow' (hb.alloc hb.size _) hb.size _⟩
theorem more_zero (ao : Option Addr) (n cap : Nat) (l : List UInt8) (hn : n = l.length) (hm : n ≤ 1073741824) (w : World) (hl : SB w ao cap l) :
    Calls Tryz.prog 124 #[.int .u32 0, .slice ao n cap] w fun e w' => e = .returned (.int .u32 (csum l).toNat) ∧ Below w.heap.size w w' := more_any 0#32 ao n cap l hn hm w hl
theorem sum_any (ao : Option Addr) (n cap : Nat) (l : List UInt8) (hn : n = l.length) (hm : n ≤ 1073741824) (w : World) (hl : SB w ao cap l) :
    Calls Tryz.prog 117 #[.slice ao n cap] w fun e w' => e = .returned (.int .u32 (csum l).toNat) ∧ Below w.heap.size w w' := by
  subst hn
  go_enter Tryz.func117, Tryz.ntmps117
  go_wp2_with (go_at_call 124; ((with_reducible refine (more_zero ao _ cap l rfl hm _ hl).mono ?_); rintro e w1 ⟨rfl, hb⟩))
  go_ret
  exact ⟨rfl, hb⟩
theorem SB.take {w : World} {ao : Option Addr} {cap : Nat} {l : List UInt8} (h : SB w ao cap l) (n : Nat) : SB w ao cap (l.take n) := by
  rcases h with ⟨h1, h2, rfl⟩ | ⟨a, h1, rfl⟩ | ⟨b, o, h1, h⟩
  · exact .inl ⟨h1, h2, by simp⟩
  · exact .inr (.inl ⟨a, h1, by simp⟩)
  · refine .inr (.inr ⟨b, o, h1, fun j v hv => h j v ?_⟩)
    simp only [bv_get, List.getElem?_take] at hv ⊢
    split at hv
    · exact hv
    · simp at hv
theorem SB.drop {w : World} {b o cap : Nat} {l : List UInt8} (h : w.rangeAt b o (bv l)) (n : Nat) : SB w (some ⟨b, o + n, none⟩) cap (l.drop n) :=
  .inr (.inr ⟨b, o + n, rfl, fun j v hv => by
    rw [Nat.add_assoc]; refine h (n + j) v ?_
    rw [bv_get] at hv ⊢; simpa using hv⟩)
end Go.Proofs.YtlondopgibcikaaGreat
namespace Go.Proofs.YtlondopgibcikaaGreat
open Go.RowKit Ent
/-! ### Sectors one behind the other -/
def S64 (L : List (List UInt8)) : Prop := ∀ s ∈ L, s.length = 64
theorem S64.set {L : List (List UInt8)} (h : S64 L) (i : Nat) {b : List UInt8} (hb : b.length = 64) : S64 (L.set i b) := fun s hs => by
  rcases List.mem_or_eq_of_mem_set hs with h1 | rfl
  · exact h s h1
  · exact hb
theorem S64.get {L : List (List UInt8)} (h : S64 L) {i : Nat} {s : List UInt8} (hs : L[i]? = some s) : s.length = 64 := h s (List.mem_of_getElem? hs)
theorem S64.len {L : List (List UInt8)} (h : S64 L) : L.flatten.length = 64 * L.length := by
  induction L with
  | nil => rfl
  | cons a L ih =>
    rw [List.flatten_cons, List.length_append, List.length_cons, ih (fun s hs => h s (by simp [hs])), h a (by simp)]; omega
theorem S64.at {L : List (List UInt8)} (h : S64 L) {i : Nat} {s : List UInt8} (hs : L[i]? = some s) (j : Nat) (hj : j < 64) : L.flatten[64 * i + j]? = s[j]? := by
  induction L generalizing i with
  | nil => simp at hs
  | cons a L ih =>
    have ha := h a (by simp)
    rw [List.flatten_cons]
    match i with
    | 0 =>
      simp at hs; subst hs
      rw [List.getElem?_append_left (by omega)]; simp
    | i + 1 =>
      simp at hs
      rw [List.getElem?_append_right (by omega), show 64 * (i + 1) + j - a.length = 64 * i + j by omega]
      exact ih (fun s hs => h s (by simp [hs])) hs
theorem S64.flat_set {L : List (List UInt8)} (h : S64 L) {i : Nat} (hi : i < L.length) (b : List UInt8) : (L.set i b).flatten = L.flatten.take (64 * i) ++ b ++ L.flatten.drop (64 * i + 64) := by
  induction L generalizing i with
  | nil => simp at hi
  | cons a L ih =>
    have ha := h a (by simp)
    match i with
    | 0 =>
      rw [List.set_cons_zero, List.flatten_cons, List.flatten_cons, List.drop_append, List.drop_of_length_le (by omega)]
      simp [ha]
    | i + 1 =>
      rw [List.set_cons_succ, List.flatten_cons, List.flatten_cons, ih (fun s hs => h s (by simp [hs])) (by simp at hi; omega), List.take_append, List.drop_append, List.take_of_length_le (show a.length ≤ 64 * (i + 1) by omega), List.drop_of_length_le (show a.length ≤ 64 * (i + 1) + 64 by omega),
        show 64 * (i + 1) - a.length = 64 * i by omega, show 64 * (i + 1) + 64 - a.length = 64 * i + 64 by omega]
      simp
/-! ### A block of cells, whole -/
def Blk (w : World) (g : Nat) (T : TypeId) (vs : List Value) : Prop := w.heap[g]? = some (.cells vs.toArray T (0, 0))
theorem Blk.cell {w : World} {g : Nat} {T : TypeId} {vs : List Value} (h : Blk w g T vs) {j : Nat} {v : Value} (hj : vs[j]? = some v) : w.cell? ⟨g, j, none⟩ = some v := cell_blk h (by simpa using hj)
theorem Blk.free {w : World} {g : Nat} {T : TypeId} {vs : List Value} (h : Blk w g T vs) (j : Nat) : w.frozen? ⟨g, j, none⟩ = false := free_blk h j
theorem Blk.lt {w : World} {g : Nat} {T : TypeId} {vs : List Value} (h : Blk w g T vs) : g < w.heap.size := lt_blk h
theorem Blk.keep {w w' : World} {F : Nat → Prop} {g : Nat} {T : TypeId} {vs : List Value} (h : Blk w g T vs) (hk : Keep F w w') (hF : ¬ F g) : Blk w' g T vs := hk.blk h hF
theorem Blk.below {w w' : World} {B g : Nat} {T : TypeId} {vs : List Value} (h : Blk w g T vs) (hk : Below B w w') (hF : g < B) : Blk w' g T vs := (hk.block g hF).trans h
theorem Blk.there {w : World} {g : Nat} {T : TypeId} {vs : List Value} (h : Blk w g T vs) {o n : Nat} (hn : o + n ≤ vs.length) : w.there g o n := fun j hj =>
  ⟨by rw [h.cell (v := vs[o + j]) (List.getElem?_eq_getElem (by omega))]; rfl, h.free _⟩
theorem Blk.range {w : World} {g : Nat} {T : TypeId} {vs cs : List Value} (h : Blk w g T vs) {o : Nat} (hc : ∀ j v, cs[j]? = some v → vs[o + j]? = some v) : w.rangeAt g o cs := fun j v hv => h.cell (hc j v hv)
theorem Blk.set {w : World} {g : Nat} {T : TypeId} {vs : List Value} (h : Blk w g T vs) (j : Nat) (v : Value) : Blk (w.setCell ⟨g, j, none⟩ v) g T (vs.set j v) := by
  have := set_blk h j v
  unfold Blk; rw [this]; simp
theorem Blk.other {w : World} {g : Nat} {T : TypeId} {vs : List Value} (h : Blk w g T vs) (a : Addr) (v : Value) (hne : g ≠ a.block) : Blk (w.setCell a v) g T vs := set_other h v hne
theorem Blk.drew {w : World} {g : Nat} {T : TypeId} {vs : List Value} (h : Blk w g T vs) : Blk w.drew g T vs := h
theorem Blk.alloc {w : World} {g : Nat} {T : TypeId} {vs : List Value} (h : Blk w g T vs) (o : Obj) : Blk (w.alloc o) g T vs := alloc_old h o
theorem Blk.setCells {g : Nat} {T : TypeId} : ∀ (cs vs : List Value) (o : Nat) {w : World}, Blk w g T vs → o + cs.length ≤ vs.length → Blk (w.setCells g o cs) g T (vs.take o ++ cs ++ vs.drop (o + cs.length))
  | [], vs, o, w, h, _ => by simpa [World.setCells] using h
  | v :: cs, vs, o, w, h, hl => by
    simp at hl
    have := Blk.setCells cs (vs.set o v) (o + 1) (h.set o v) (by simp; omega)
    rw [World.setCells]
    have e : (vs.set o v).take (o + 1) ++ cs ++ (vs.set o v).drop (o + 1 + cs.length) = vs.take o ++ (v :: cs) ++ vs.drop (o + (v :: cs).length) := by
      rw [List.drop_set_of_lt (by omega), List.take_add_one, List.take_set_of_le (Nat.le_refl o), List.getElem?_set_self (by omega)]
      simp [Nat.add_assoc, Nat.add_comm 1]
    rwa [e] at this
theorem Blk.otherCells {w : World} {g : Nat} {T : TypeId} {vs : List Value} (h : Blk w g T vs) (k o : Nat) (cs : List Value) (hne : g ≠ k) : Blk (w.setCells k o cs) g T vs := by
  induction cs generalizing w o with
  | nil => exact h
  | cons v cs ih => exact ih (h.other _ v hne) (o + 1)
theorem size_setCells' (b : Nat) : ∀ (vs : List Value) (o : Nat) (w : World), (w.setCells b o vs).heap.size = w.heap.size
  | [], _, _ => rfl
  | v :: r, o, w => by rw [World.setCells, size_setCells' b r (o + 1)]; simp [World.setCell]
theorem Keep.setCells {F : Nat → Prop} {a : World} {g : Nat} (hg : F g) : ∀ (cs : List Value) (o : Nat) {w : World}, Keep F a w → Keep F a (w.setCells g o cs)
  | [], _, _, h => h
  | v :: r, o, _, h => Keep.setCells hg r (o + 1) (h.setCell (p := ⟨g, o, none⟩) hg v)
theorem Blk.sec {w : World} {g : Nat} {T : TypeId} {L : List (List UInt8)} (h : Blk w g T (bv L.flatten)) (hs : S64 L) {i : Nat} {s : List UInt8} (hi : L[i]? = some s) : w.rangeAt g (i * 64) (bv s) :=
  h.range fun j v hv => by
    have h64 := hs.get hi
    have hj : j < 64 := by
      have := (List.getElem?_eq_some_iff.1 hv).1; simp at this; omega
    rw [bv_get] at hv ⊢
    rw [show i * 64 + j = 64 * i + j by omega, hs.at hi j hj]; exact hv
theorem Blk.put {w : World} {g : Nat} {T : TypeId} {L : List (List UInt8)} (h : Blk w g T (bv L.flatten)) (hs : S64 L) {i : Nat} (hi : i < L.length) {b : List UInt8} (hb : b.length = 64) : Blk (w.setCells g (i * 64) (bv b)) g T (bv (L.set i b).flatten) := by
  have := h.setCells (bv b) _ (i * 64) (by rw [bv_length, bv_length, hs.len]; omega)
  rw [hs.flat_set hi, bv_append, bv_append, show 64 * i = i * 64 by omega]
  rw [bv_length, hb] at this
  simpa [bv, List.map_take, List.map_drop] using this
theorem Blk.secThere {w : World} {g : Nat} {T : TypeId} {L : List (List UInt8)} (h : Blk w g T (bv L.flatten)) (hs : S64 L) {i : Nat} (hi : i < L.length) : w.there g (i * 64) 64 :=
  h.there (by rw [bv_length, hs.len]; omega)
/-! ### A device, plainly -/
structure Dev where
  img : List (List UInt8)
  loose : List (Nat × List UInt8)
  fuse : Option Nat
  out : Bool
def laidOver (img : List (List UInt8)) (l : List (Nat × List UInt8)) : List (List UInt8) := l.foldl (fun a w => a.set w.1 w.2) img
def Dev.now (d : Dev) : List (List UInt8) := laidOver d.img d.loose
theorem laid_len (l : List (Nat × List UInt8)) : ∀ img, (laidOver img l).length = img.length := by
  induction l with
  | nil => intro img; rfl
  | cons a l ih => intro img; show (laidOver (img.set a.1 a.2) l).length = _; rw [ih]; simp
theorem laid_snoc (img : List (List UInt8)) (l : List (Nat × List UInt8)) (x : Nat × List UInt8) : laidOver img (l ++ [x]) = (laidOver img l).set x.1 x.2 := by simp [laidOver]
theorem laid_64 {l : List (Nat × List UInt8)} (hl : ∀ x ∈ l, x.2.length = 64) : ∀ {img}, S64 img → S64 (laidOver img l) := by
  induction l with
  | nil => intro img h; exact h
  | cons a l ih => intro img h; exact ih (fun x hx => hl x (by simp [hx])) (h.set _ (hl a (by simp)))
structure Dev.ok (d : Dev) : Prop where
  s64 : S64 d.img
  len : d.img.length ≤ 65536
  pos : 1 ≤ d.img.length
  lo : ∀ x ∈ d.loose, x.1 < d.img.length ∧ x.2.length = 64
theorem Dev.ok.now64 {d : Dev} (h : d.ok) : S64 d.now := laid_64 (fun x hx => (h.lo x hx).2) h.s64
theorem Dev.now_len (d : Dev) : d.now.length = d.img.length := laid_len _ _
/-- what has burned: may one more be done? -/
def Dev.through (d : Dev) : Bool × Dev :=
  match d.fuse with
  | some 0 => (false, { d with out := true })
  | some (k + 1) => (true, { d with fuse := some k })
  | none => (true, d)
def has (n : Nat) (i : Int) : Bool := decide (0 ≤ i) && decide (i < n)
def Dev.write (d : Dev) (i : Int) (b : List UInt8) : Int × Dev :=
  if d.out then (22, d) else if has d.img.length i = false then (3, d) else if b.length ≠ 64 then (2, d)
  else if d.through.1 = false then (22, d.through.2) else (0, { d.through.2 with loose := d.loose ++ [(i.toNat, b)] })
def Dev.flush (d : Dev) : Int × Dev :=
  if d.out then (22, d) else if d.through.1 = false then (22, d.through.2) else (0, { d.through.2 with img := d.now, loose := [] })
def Dev.setFuse (d : Dev) (n : Int) : Int × Dev :=
  if d.out then (22, d) else if n < 0 then (2, d) else (0, { d with fuse := some n.toNat })
/-- kept writes laid over; the place of the last one that was not kept -/
def keptOf (keep : List Bool) : Nat → List (Nat × List UInt8) → List (Nat × List UInt8)
  | _, [] => []
  | k, x :: l => if keep[k]? = some true then x :: keptOf keep (k + 1) l else keptOf keep (k + 1) l
def lastOf (keep : List Bool) : Nat → List (Nat × List UInt8) → Option (Nat × List UInt8)
  | _, [] => none
  | k, x :: l => match lastOf keep (k + 1) l with
    | some y => some y
    | none => if keep[k]? = some true then none else some x
def tornIn (L : List (List UInt8)) (x : Option (Nat × List UInt8)) (torn : Nat) : List (List UInt8) :=
  match x with
  | none => L
  | some x => L.set x.1 (x.2.take torn ++ (L.getD x.1 []).drop torn)
def Dev.crash (d : Dev) (keep : List Bool) (torn : Int) : Int × Dev :=
  if torn < 0 ∨ 64 ≤ torn then (2, d)
  else (0, { img := tornIn (laidOver d.img (keptOf keep 0 d.loose)) (lastOf keep 0 d.loose) torn.toNat, loose := [], fuse := none, out := false })
def secOf (L : List (List UInt8)) (i : Int) : List UInt8 × Int := if has L.length i = false then ([], 3) else (L.getD i.toNat [], 0)
def Dev.read (d : Dev) (i : Int) : List UInt8 × Int := if d.out then ([], 22) else secOf d.now i
def Dev.image (d : Dev) (i : Int) : List UInt8 × Int := secOf d.img i
def Dev.new (n : Nat) : Dev := { img := List.replicate n (List.replicate 64 0), loose := [], fuse := none, out := false }
theorem Dev.new_ok {n : Nat} (h1 : 1 ≤ n) (h2 : n ≤ 65536) : (Dev.new n).ok :=
  ⟨fun s hs => by simp [Dev.new] at hs; rw [hs.2]; simp, by simpa [Dev.new] using h2, by simpa [Dev.new] using h1, fun x hx => by simp [Dev.new] at hx⟩
theorem Dev.new_flat (n : Nat) : (Dev.new n).img.flatten = List.replicate (n * 64) 0 := List.flatten_replicate_replicate
end Go.Proofs.YtlondopgibcikaaGreat
namespace Go.Proofs.YtlondopgibcikaaGreat
theorem sA {α : Type} (xs : List α) (i : Nat) (x : α) : xs.toArray.setIfInBounds i x = (xs.set i x).toArray := List.setIfInBounds_toArray ..
theorem sB {α : Type} (a b : α) (l : List α) : (a :: l).set 0 b = b :: l := rfl
theorem sC {α : Type} (a b : α) (l : List α) (n : Nat) : (a :: l).set (n + 1) b = a :: l.set n b := rfl
section
variable {P : Program} {ops : Array Oper} {Q : Exit → Act → World → Prop} {md : Region.Mode} {S : World → Prop}
/-- an operation is taken first -/
theorem tkH {i : Nat} {oi : Oper} {v : Value} {fuel : Nat} {listed : Array Bool} {a : Act} {w : World}
    (hi : ops[i]? = some oi := by simp only [List.getElem?_toArray, List.getElem?_cons_zero, List.getElem?_cons_succ]; exact rfl)
    (hs : Region.noSelect ops = true := by kernel_rfl) (hf : Region.free md ops listed i = true := by kernel_rfl) (hr : (Region.ready md ops listed).contains i = true := by kernel_rfl)
    (hQ : ∀ c a w, Q (.panic c) (a.put oi.dst v) w → Q (.panic c) a w := by exact fun _ _ _ h => h) (y : YieldsIf P ops S oi v a) (s : S w)
    (h : wpAnyH P md ops Q S fuel (listed.setIfInBounds i true) (a.put oi.dst v) w) : wpAnyH P md ops Q S (fuel + 1) listed a w :=
  wpAnyH_take hi hs hf hr hQ y s h
/-- only one may come up -/
theorem rdH {i : Nat} {o : Oper} {fuel : Nat} {listed : Array Bool} {a : Act} {w : World} (hr : Region.ready md ops listed = [i] := by kernel_rfl)
    (ho : ops[i]? = some o := by simp only [List.getElem?_toArray, List.getElem?_cons_zero, List.getElem?_cons_succ]; exact rfl)
    (h : ∀ K' : Act → World → Prop, Shut (∀ a w, S w → (S w → wpAnyH P md ops Q S fuel (listed.setIfInBounds i true) a w) → K' a w) → if Region.wanted o (yielded ops a.tmps) = true then Oper.wp P o a w K' Q else K' (a.put o.dst undef) w) : wpAnyH P md ops Q S (fuel + 1) listed a w :=
  wpAnyH_ready hr (by simp) (AllReadyH.cons ho h AllReadyH.nil)
end
end Go.Proofs.YtlondopgibcikaaGreat
namespace Go.Proofs.YtlondopgibcikaaGreat
open Go.RowKit Ent
def lw (l : List (Nat × List UInt8)) : List Value := l.flatMap fun x => Value.int .i64 (x.1 : Int) :: bv x.2
def ptr (a : Nat) : Value := .pointer (some ⟨a, 0, none⟩)
def burnV (a : Nat) : Value := .func (.func 81) #[ptr a] #[]
def head6 (gi gn n : Nat) (vl lets : Value) (left : Int) (out : Bool) : List Value := [.slice (some ⟨gi, 0, none⟩) n n, .slice (some ⟨gn, 0, none⟩) n n, vl, lets, .int .i64 left, .bool out]
/-- a device lies at a: all that is its own lies in F -/
structure PD (w : World) (a gi gn : Nat) (vl lets : Value) (left : Int) (F : Nat → Prop) (d : Dev) : Prop where
  ok : d.ok
  hd : Blk w a 60 (head6 gi gn d.img.length vl lets left d.out)
  im : Blk w gi 82 (bv d.img.flatten)
  nw : Blk w gn 82 (bv d.now.flatten)
  lo : w.ownsRow 0 84 65 vl d.loose.length (lw d.loose)
  fu : (d.fuse = none ∧ lets = .nilFunc) ∨ ∃ k, d.fuse = some k ∧ k ≤ 9223372036854775807 ∧ lets = burnV a ∧ (d.out = false → left = (k : Int))
  lf : -9223372036854775808 ≤ left ∧ left ≤ 9223372036854775807
  ai : a ≠ gi
  an : a ≠ gn
  gg : gi ≠ gn
  fa : F a
  fi : F gi
  fn : F gn
  fl : ∀ k, vl.ownBlock = some k → F k ∧ k ≠ a ∧ k ≠ gi ∧ k ≠ gn
def PDev (w : World) (a : Nat) (F : Nat → Prop) (d : Dev) : Prop := ∃ gi gn vl lets left, PD w a gi gn vl lets left F d
theorem PD.keep {w w' : World} {a gi gn : Nat} {vl lets : Value} {left : Int} {F G : Nat → Prop} {d : Dev} (h : PD w a gi gn vl lets left F d) (hk : Keep G w w') (hG : ∀ k, F k → ¬ G k) : PD w' a gi gn vl lets left F d :=
  { h with hd := h.hd.keep hk (hG _ h.fa), im := h.im.keep hk (hG _ h.fi), nw := h.nw.keep hk (hG _ h.fn), lo := owns_keep h.lo hk fun k hk' => hG k (h.fl k hk').1 }
theorem PDev.keep {w w' : World} {a : Nat} {F G : Nat → Prop} {d : Dev} (h : PDev w a F d) (hk : Keep G w w') (hG : ∀ k, F k → ¬ G k) : PDev w' a F d := by
  obtain ⟨gi, gn, vl, lets, left, h⟩ := h; exact ⟨gi, gn, vl, lets, left, h.keep hk hG⟩
theorem PDev.below {w w' : World} {a : Nat} {F : Nat → Prop} {d : Dev} (h : PDev w a F d) (hk : Below w.heap.size w w') : PDev w' a F d :=
  h.keep (Keep.ofBelow (F := fun _ => False) hk) (fun _ _ => id)
theorem PDev.drew {w : World} {a : Nat} {F : Nat → Prop} {d : Dev} (h : PDev w a F d) : PDev w.drew a F d := h.keep (Keep.refl (fun _ => False) w).drew (fun _ _ => id)
theorem PDev.mono {w : World} {a : Nat} {F G : Nat → Prop} {d : Dev} (h : PDev w a F d) (hFG : ∀ k, F k → G k) : PDev w a G d := by
  obtain ⟨gi, gn, vl, lets, left, h⟩ := h
  exact ⟨gi, gn, vl, lets, left, { h with fa := hFG _ h.fa, fi := hFG _ h.fi, fn := hFG _ h.fn, fl := fun k hk => ⟨hFG k (h.fl k hk).1, (h.fl k hk).2⟩ }⟩
def outCode (b : Bool) : Int := if b then 22 else 0
set_option maxRecDepth 100000 in
set_option maxHeartbeats 400000 in
theorem none_any {a gi gn : Nat} {vl lets : Value} {left : Int} {F : Nat → Prop} {d : Dev} (w : World) (h : PD w a gi gn vl lets left F d) :
    Calls Tryz.prog 49 #[ptr a] w fun e w' => e = .returned (.bool false) ∧ w' = w := by
  have c0 := h.hd.cell (j := 0) rfl
  have e67 := fun w a n c => Lib.run_eql_slice_nil (P := Tryz.prog) w 57 82 a n c 0 0 Tryz.underlying57
  unfold ptr
  go_enter Tryz.func49, Tryz.ntmps49
  go_wp2
  go_ret
  exact ⟨rfl, rfl⟩
set_option maxRecDepth 100000 in
set_option maxHeartbeats 400000 in
theorem ready_any {a gi gn : Nat} {vl lets : Value} {left : Int} {F : Nat → Prop} {d : Dev} (w : World) (h : PD w a gi gn vl lets left F d) :
    Calls Tryz.prog 51 #[ptr a] w fun e w' => e = .returned (.int .i64 (outCode d.out)) ∧ w' = w := by
  have c5 := h.hd.cell (j := 5) rfl
  have H := hid h
  clear h
  unfold ptr
  go_enter Tryz.func51, Tryz.ntmps51
  go_wp2_with fail
  refine (none_any w H.out).mono ?_
  rintro e w' ⟨rfl, rfl⟩
  cases hd : d.out
  all_goals
    rw [hd] at c5
    go_wp2
    go_ret
    exact ⟨by simp [outCode, hd], rfl⟩
set_option maxRecDepth 100000 in
set_option maxHeartbeats 400000 in
theorem has_any {a gi gn : Nat} {vl lets : Value} {left : Int} {F : Nat → Prop} {d : Dev} (i : Int) (w : World) (h : PD w a gi gn vl lets left F d) :
    Calls Tryz.prog 50 #[ptr a, .int .i64 i] w fun e w' => e = .returned (.bool (has d.img.length i)) ∧ w' = w := by
  have c0 := h.hd.cell (j := 0) rfl
  have hl := h.ok.len
  unfold ptr
  unfold has
  by_cases hi : 0 ≤ i
  all_goals
    go_enter Tryz.func50, Tryz.ntmps50
    go_wp2
    go_ret
    exact ⟨by simp [hi] <;> omega, rfl⟩
set_option maxRecDepth 100000 in
set_option maxHeartbeats 400000 in
theorem burn_any {a gi gn : Nat} {vl lets : Value} {left : Int} {F : Nat → Prop} {d : Dev} (w : World) (h : PD w a gi gn vl lets left F d) (h0 : 0 ≤ left) :
    Calls Tryz.prog 81 #[ptr a] w fun e w' => e = .returned (.bool (decide (1 ≤ left))) ∧ w' = w.setCell ⟨a, 4, none⟩ (.int .i64 (left - 1)) := by
  have c4 := h.hd.cell (j := 4) rfl
  have f4 := h.hd.free 4
  have hl := h.lf
  have c4' := World.cell?_setCell_same w ⟨a, 4, none⟩ (.int .i64 (left - 1)) c4
  unfold ptr
  go_enter Tryz.func81, Tryz.ntmps81
  go_wp2
  go_ret
  refine ⟨?_, rfl⟩
  congr 2
  go_show
theorem PD.left {w : World} {a gi gn : Nat} {vl lets : Value} {left : Int} {F : Nat → Prop} {d : Dev} (h : PD w a gi gn vl lets left F d) (x : Int) (hx : -9223372036854775808 ≤ x ∧ x ≤ 9223372036854775807) (f : Option Nat)
    (hf : (f = none ∧ lets = .nilFunc) ∨ ∃ k, f = some k ∧ k ≤ 9223372036854775807 ∧ lets = burnV a ∧ (d.out = false → x = (k : Int))) :
    PD (w.setCell ⟨a, 4, none⟩ (.int .i64 x)) a gi gn vl lets x F { d with fuse := f } := by
  have hk : Keep (fun k => k = a) w (w.setCell ⟨a, 4, none⟩ (.int .i64 x)) := (Keep.refl (fun k => k = a) w).setCell (p := ⟨a, 4, none⟩) rfl _
  exact { ok := ⟨h.ok.1, h.ok.2, h.ok.3, h.ok.4⟩, hd := h.hd.set 4 _, im := h.im.keep hk (Ne.symm h.ai), nw := h.nw.keep hk (Ne.symm h.an), lo := owns_keep h.lo hk fun k hk' => (h.fl k hk').2.1, fu := hf, lf := hx, ai := h.ai, an := h.an, gg := h.gg, fa := h.fa, fi := h.fi, fn := h.fn, fl := h.fl }
theorem PD.burned {w : World} {a gi gn : Nat} {vl lets : Value} {left : Int} {F : Nat → Prop} {d : Dev} (h : PD w a gi gn vl lets left F d) (hl : lets = burnV a) (hf : d.fuse = some 0) :
    PD ((w.setCell ⟨a, 4, none⟩ (.int .i64 (-1))).setCell ⟨a, 5, none⟩ (.bool true)) a gi gn vl lets (-1) F { d with out := true } := by
  have hk : Keep (fun k => k = a) w ((w.setCell ⟨a, 4, none⟩ (.int .i64 (-1))).setCell ⟨a, 5, none⟩ (.bool true)) := ((Keep.refl (fun k => k = a) w).setCell (p := ⟨a, 4, none⟩) rfl _).setCell (p := ⟨a, 5, none⟩) rfl _
  exact { ok := ⟨h.ok.1, h.ok.2, h.ok.3, h.ok.4⟩, hd := (h.hd.set 4 _).set 5 _, im := h.im.keep hk (Ne.symm h.ai), nw := h.nw.keep hk (Ne.symm h.an), lo := owns_keep h.lo hk fun k hk' => (h.fl k hk').2.1, fu := .inr ⟨0, hf, by omega, hl, fun h1 => by cases h1⟩, lf := by omega, ai := h.ai, an := h.an, gg := h.gg, fa := h.fa, fi := h.fi, fn := h.fn, fl := h.fl }
theorem run_nil_func (w : World) : (binOp .neq 24 .nilFunc .nilFunc).run Tryz.prog w = .ok (.bool false) w := by kernel_rfl
theorem run_some_func (f : Fn) (x y : Array Value) (w : World) : (binOp .neq 24 (.func f x y) .nilFunc).run Tryz.prog w = .ok (.bool true) w := by kernel_rfl
set_option maxRecDepth 100000 in
set_option maxHeartbeats 400000 in
theorem through_any {a gi gn : Nat} {vl lets : Value} {left : Int} {F : Nat → Prop} {d : Dev} (w : World) (h : PD w a gi gn vl lets left F d) (ho : d.out = false) :
    Calls Tryz.prog 52 #[ptr a] w fun e w' => e = .returned (.bool d.through.1) ∧ (∃ left', PD w' a gi gn vl lets left' F d.through.2) ∧ Keep F w w' := by
  have H := hid h
  have c3 := h.hd.cell (j := 3) rfl
  have c5 := h.hd.cell (j := 5) rfl
  have en := run_nil_func
  have es := run_some_func
  rw [ho] at c5
  rcases h.fu with ⟨hf, rfl⟩ | ⟨k, hf, hk, rfl, hle⟩
  · have hth : d.through = (true, d) := by unfold Dev.through; rw [hf]
    rw [hth]
    have HO := hid ho
    clear h hf ho hth
    unfold ptr
    go_enter Tryz.func52, Tryz.ntmps52
    go_wp2
    go_ret
    exact ⟨rfl, ⟨_, H.out⟩, Keep.refl _ _⟩
  · obtain rfl := hle ho
    have f5 := h.hd.free 5
    match k, hf with
    | 0, hf =>
      have hth : d.through = (false, { d with out := true }) := by unfold Dev.through; rw [hf]
      rw [hth]
      have HP := hid (PD.burned h rfl hf)
      have hc5 : (w.setCell ⟨a, 4, none⟩ (.int .i64 (-1))).cell? ⟨a, 5, none⟩ = some (.bool false) := by rw [World.cell?_setCell_other _ _ _ _ (by intro e; injection e; omega)]; exact c5
      have hf5 : (w.setCell ⟨a, 4, none⟩ (.int .i64 (-1))).frozen? ⟨a, 5, none⟩ = false := by simpa using f5
      have ha : Hid (F a) := hid h.fa
      clear h hf ho hle hth c5
      unfold burnV ptr at c3
      unfold ptr
      go_enter Tryz.func52, Tryz.ntmps52
      go_wp2_with fail
      refine (burn_any w H.out (by simp)).mono ?_
      rintro e w1 ⟨rfl, rfl⟩
      have hc5' := World.cell?_setCell_same _ _ (.bool true) hc5
      go_wp2
      go_ret
      exact ⟨rfl, ⟨_, HP.out⟩, ((Keep.refl F w).setCell (p := ⟨a, 4, none⟩) ha.out _).setCell (p := ⟨a, 5, none⟩) ha.out _⟩
    | k + 1, hf =>
      have hth : d.through = (true, { d with fuse := some k }) := by unfold Dev.through; rw [hf]
      rw [hth]
      have hp := PD.left h k (by omega) (some k) (.inr ⟨k, rfl, by omega, rfl, fun _ => rfl⟩)
      have HP := hid hp
      have c5' := hp.hd.cell (j := 5) rfl
      rw [show ({ d with fuse := some k } : Dev).out = false from ho] at c5'
      have ha : Hid (F a) := hid h.fa
      clear h hf ho hp hle hth
      unfold burnV ptr at c3
      unfold ptr
      go_enter Tryz.func52, Tryz.ntmps52
      go_wp2_with fail
      refine (burn_any w H.out (by omega)).mono ?_
      rintro e w1 ⟨rfl, rfl⟩
      rw [show (((k + 1 : Nat) : Int) - 1) = (k : Int) by omega, show decide ((1 : Int) ≤ ((k + 1 : Nat) : Int)) = true by simp; omega]
      go_wp2
      go_ret
      exact ⟨rfl, ⟨_, HP.out⟩, (Keep.refl F w).setCell (p := ⟨a, 4, none⟩) ha.out _⟩
end Go.Proofs.YtlondopgibcikaaGreat
