/- The walks of crc: what each function of the package returns. -/
import Derived.Test.YtlondopgibcikaaRows
import Derived.Test.YtlondopgibcikaaPlainCrc
import Derived.Test.YtlondopgibcikaaBits
import Derived.Test.YtlondopgibcikaaHeap
import Derived.WalkKit
import Derived.WalkSpells
import Derived.WalkLawsBesides
namespace Go.Proofs.Ytlondopgibcikaa
open Go.RowKit Ent

theorem stps_succ' (n : Nat) (r : R32) : stps (n + 1) r = stp (stps n r) := by
  rw [stps_add]; rfl

set_option maxRecDepth 100000 in
set_option maxHeartbeats 400000 in
theorem made1_any (r : R32) (w : World) :
    Calls Try.prog 146 #[.int .u32 r.toNat] w fun e w' => e = .returned (.int .u32 (stps 8 r).toNat) ∧ w = w' := by
  go_enter Try.func146, Try.ntmps146
  go_wp2
  go_loop [0, 3] (fun x i => ∃ k : Nat, k ≤ 8 ∧ i = .int .i64 k ∧ x = .int .u32 (stps k r).toNat) (fun _ i => 8 - (intOf i).toNat)
  case atStart => exact ⟨0, Nat.zero_le _, rfl, rfl⟩
  case round =>
    obtain ⟨k, hk, rfl, rfl⟩ := hrel
    go_wp2
    · go_round
      case rel => exact ⟨k + 1, by omega, by go_num, by rw [stp_int, stps_succ']⟩
      case measure => simp [intOf]; omega
    · have hk8 : k = 8 := by omega
      subst hk8
      go_ret
      exact ⟨rfl, rfl⟩

theorem made1_int (x : Int) (h0 : 0 ≤ x) (h1 : x < 4294967296) (w : World) :
    Calls Try.prog 146 #[.int .u32 x] w fun e w' => e = .returned (.int .u32 (stps 8 (BitVec.ofInt 32 x)).toNat) ∧ w = w' := by
  have h := made1_any (BitVec.ofInt 32 x) w
  rwa [ofInt_toNat x h0 h1] at h
theorem zero256_size : Try.zeroCells131.size = 256 := by kernel_rfl
def tabCells : List Value := (List.range 256).map fun i => Value.int .u32 (ctab (UInt8.ofNat i)).toNat
theorem tabCells_of {cs : Array Value} (hs : cs.size = 256) (h : ∀ j, j < 256 → cs[j]? = some (Value.int .u32 (ctab (UInt8.ofNat j)).toNat)) : cs = tabCells.toArray := by
  apply Array.ext_getElem?
  intro i
  by_cases hi : i < 256
  · rw [h i hi]; simp [tabCells, hi]
  · rw [Array.getElem?_eq_none (by omega), Array.getElem?_eq_none (by simp [tabCells]; omega)]

theorem tabCells_size : tabCells.toArray.size = 256 := by simp [tabCells]
theorem tabCells_one : tabCells.toArray.all (·.oneCell') = true := all_oneCell_toArray (by intro v hv; simp [tabCells] at hv; obtain ⟨x, _, rfl⟩ := hv; rfl)
theorem tab_info : (Try.prog.info? 131).map (·.size) = some tabCells.toArray.size := by
  rw [tabCells_size]; kernel_rfl
set_option maxRecDepth 100000 in
set_option maxHeartbeats 400000 in
theorem made_any (w : World) :
    Calls Try.prog 106 #[] w fun e w' => e = .returned (.agg tabCells.toArray) ∧ Below w.heap.size w w' := by
  go_enter Try.func106, Try.ntmps106
  go_wp2_with fail
  go_loopw [3, 4] (fun _ i wr => ∃ k : Nat, k ≤ 256 ∧ i = .int .i64 k ∧ Below w.heap.size w wr ∧ (∃ zs : Array Value, zs.size = 256 ∧ wr.heap[w.heap.size]? = some (.cells zs 131 (0, 0))) ∧
      ∃ cs : Array Value, cs.size = 256 ∧ wr.heap[w.heap.size + 1]? = some (.cells cs 131 (0, 0)) ∧ ∀ j, j < k → cs[j]? = some (Value.int .u32 (ctab (UInt8.ofNat j)).toNat)) (fun _ i _ => 256 - (intOf i).toNat)
  case atStart =>
    refine ⟨0, Nat.zero_le _, rfl, ((Below.refl _ _).alloc (Nat.le_refl _) _).alloc (by simp) _, ⟨_, zero256_size, alloc_old (alloc_new w _) _⟩, _, zero256_size, ?_, fun j hj => by omega⟩
    have h := alloc_new (w.alloc (Obj.cells Try.zeroCells131 131)) (Obj.cells Try.zeroCells131 131)
    simpa using h
  case round =>
    obtain ⟨k, hk, rfl, hB, ⟨zs, hzs, h0⟩, cs, hsz, h1, hcs⟩ := hrel
    have H := hid (And.intro h0 (And.intro hsz (And.intro h1 (And.intro hcs hzs)))); clear h0 h1 hsz hcs hzs
    by_cases hlt : k < 256
    · obtain ⟨v, hv⟩ := at_some (show k < cs.size by rw [H.out.2.1]; exact hlt)
      have hc : wr.cell? ⟨w.heap.size + 1, k, none⟩ = some v := cell_blk H.out.2.2.1 hv
      have hf := free_blk H.out.2.2.1 k
      clear hv
      go_wp2_with fail
      with_reducible refine (made1_int _ (by omega) (by omega) _).mono ?_
      rintro e w' ⟨rfl, rfl⟩
      go_wp2_with fail
      go_roundw
      case rel =>
        obtain ⟨h0, hsz, h1, hcs, hzs⟩ := H.out
        refine ⟨k + 1, by omega, by go_num, hB.setCell (by simp) _, ⟨zs, hzs, set_other h0 _ (by simp)⟩, _, ?_, set_blk h1 k _, ?_⟩
        · rw [size_set_blk, hsz]
        · intro j hj
          rw [Array.getElem?_setIfInBounds]
          by_cases hjk : k = j
          · subst hjk
            rw [if_pos rfl, if_pos (by omega)]
            have e : BitVec.ofNat 32 k = zb (UInt8.ofNat k) := by
              apply BitVec.eq_of_toNat_eq
              unfold zb
              rw [BitVec.toNat_ofNat, BitVec.toNat_setWidth]; simp; omega
            rw [e]; rfl
          · rw [if_neg hjk]; exact hcs j (by omega)
      case measure => simp [intOf]; omega
    · have hk8 : k = 256 := by omega
      subst hk8
      obtain ⟨h0, hsz, h1, hcs, hzs⟩ := H.out
      have ht := tabCells_of hsz hcs
      subst ht
      have H1 := hid h1; have H0 := hid h0; have Hz := hid hzs
      clear h0 h1 hsz hcs hzs H
      go_wp2_with (first | (refine wpList_load_row rfl 131 (.tmp 2) rfl _ rfl _ _ _ _ H1.out Try.underlying131 rfl tab_info ?_) | (refine wpList_store_row rfl 131 (.tmp 0) (.tmp 14) rfl _ _ rfl rfl _ _ H0.out tab_info ?_ ?_ ?_))
      · rw [Hz.out, tabCells_size]
      · exact tabCells_one
      · refine bodyPost_ret (results_cell_row rfl _ _ w.heap.size 131 tabCells.toArray (0, 0) _ rfl (setRow_heap _ _ _ _ _ _ H0.out) Try.underlying131 rfl tab_info) rfl ⟨rfl, ?_⟩
        exact hB.trans ⟨rfl, rfl, rfl, by simp, fun k hk => setRow_other wr _ k _ (by omega)⟩

theorem tab_at (x : UInt8) : tabCells.toArray[x.toNat]? = some (Value.int .u32 (ctab x).toNat) := by
  have := x.toNat_lt
  have h : (List.range 256)[x.toNat]? = some x.toNat := by rw [List.getElem?_range (by omega)]
  simp [tabCells, h]
set_option maxRecDepth 100000 in
set_option maxHeartbeats 400000 in
theorem more1_any (r : R32) (c : UInt8) (bt : Nat) (w : World) (h : w.heap[bt]? = some (.cells tabCells.toArray 131 (0, 0))) :
    Calls Try.prog 108 #[.int .u32 r.toNat, .int .u8 c.toNat, .pointer (some ⟨bt, 0, none⟩)] w fun e w' => e = .returned (.int .u32 (cpass r c).toNat) ∧ w = w' := by
  have hx := idx_int r c
  have hc : w.cell? ⟨bt, (UInt8.ofBitVec (r.setWidth 8) ^^^ c).toNat, none⟩ = some (.int .u32 (ctab (UInt8.ofBitVec (r.setWidth 8) ^^^ c)).toNat) := by
    exact cell_blk h (tab_at _)
  have hl := byte_lt (UInt8.ofBitVec (r.setWidth 8) ^^^ c)
  have hp := cpass_int r c
  clear h
  generalize (UInt8.ofBitVec (r.setWidth 8) ^^^ c) = ix at *
  go_enter Try.func108, Try.ntmps108
  go_wp2
  go_ret
  exact ⟨by rw [← hp]; rfl, rfl⟩

set_option maxRecDepth 100000 in
set_option maxHeartbeats 400000 in
theorem fold_any (r : R32) (ao : Option Addr) (n cap : Nat) (l : List UInt8) (hn : n = l.length) (hm : n ≤ 1073741824) (bt : Nat) (w : World) (h : w.heap[bt]? = some (.cells tabCells.toArray 131 (0, 0))) (hl : SB w ao cap l) :
    Calls Try.prog 107 #[.int .u32 r.toNat, .slice ao n cap, .func (.func 108) #[] #[.pointer (some ⟨bt, 0, none⟩)]] w fun e w' => e = .returned (.int .u32 (regs l r).toNat) ∧ w = w' := by
  have H := hid h; clear h
  subst hn
  go_enter Try.func107, Try.ntmps107
  go_wp2_with fail
  go_loop [0, 8, 11] (fun x _ i => ∃ k : Nat, k ≤ l.length ∧ i = .int .i64 k ∧ x = .int .u32 (regs (l.take k) r).toNat) (fun _ _ i => l.length - (intOf i).toNat)
  case atStart => exact ⟨0, Nat.zero_le _, rfl, rfl⟩
  case round =>
    obtain ⟨k, hk, rfl, rfl⟩ := hrel
    by_cases hlt : k < l.length
    · rcases hl with ⟨_, _, rfl⟩ | ⟨_, _, rfl⟩ | ⟨b, o, rfl, hr⟩
      · simp at hlt
      · simp at hlt
      · obtain ⟨x, hx⟩ : ∃ x, l[k]? = some x := ⟨l[k], by simp [hlt]⟩
        have hc := rangeAt_byte hr hx
        have E : Hid (regs (l.take (k + 1)) r = cpass (regs (l.take k) r) x) := by
          have : l.take (k + 1) = l.take k ++ [x] := by rw [List.take_add_one, hx]; rfl
          show regs (l.take (k + 1)) r = cpass (regs (l.take k) r) x
          rw [this, regs_append]; rfl
        clear hr hx
        go_wp2_with (go_at_call 108; ((with_reducible refine (more1_any _ x bt _ H.out).mono ?_); rintro e w' ⟨rfl, rfl⟩))
        go_round
        case rel => exact ⟨k + 1, by omega, by go_num, by rw [E.out]⟩
        case measure => simp [intOf]; omega
    · have hkn : l.length ≤ k := by omega
      clear hl
      go_wp2
      go_ret
      exact ⟨by simp [List.take_of_length_le hkn], rfl⟩

end Go.Proofs.Ytlondopgibcikaa
