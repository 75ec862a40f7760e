/- The walks of crc, continued: columns and joins. -/
import Derived.Test.YtlondopgibcikaaRows
import Derived.Test.YtlondopgibcikaaPlainCrc
import Derived.Test.YtlondopgibcikaaBits
import Derived.Test.YtlondopgibcikaaHeap
import Derived.Test.YtlondopgibcikaaCrcW
import Derived.Test.YtlondopgibcikaaKit
import Derived.Test.YtlondopgibcikaaCrcV
import Derived.WalkKit
import Derived.WalkSpells
import Derived.WalkLawsBesides
import Derived.Deep.RegionHeld3
namespace Go.Proofs.Ytlondopgibcikaa
open Go.RowKit Ent

def colCells (n : Nat) : List Value := (List.range 32).map fun i => Value.int .u32 (colsOf n i).toNat
theorem colCells_at (n i : Nat) (h : i < 32) : (colCells n).toArray[i]? = some (Value.int .u32 (colsOf n i).toNat) := by
  have h2 : (List.range 32)[i]? = some i := by rw [List.getElem?_range h]
  simp [colCells, h2]
theorem colCells_of {n : Nat} {cs : Array Value} (hs : cs.size = 32) (h : ∀ j, j < 32 → cs[j]? = some (Value.int .u32 (colsOf n j).toNat)) : cs = (colCells n).toArray := by
  apply Array.ext_getElem?
  intro i
  by_cases hi : i < 32
  · rw [h i hi, colCells_at n i hi]
  · rw [Array.getElem?_eq_none (by omega), Array.getElem?_eq_none (by simp [colCells]; omega)]
/-- columns that are n noughts, in a block -/
def Cols (w : World) (b n : Nat) : Prop := w.heap[b]? = some (.cells (colCells n).toArray 164 (0, 0))

set_option maxRecDepth 100000 in
set_option maxHeartbeats 400000 in
theorem of_any (b n : Nat) (r : R32) (w : World) (h : Cols w b n) :
    Calls Try.prog 105 #[.pointer (some ⟨b, 0, none⟩), .int .u32 r.toNat] w fun e w' => e = .returned (.int .u32 (stps n r).toNat) ∧ w = w' := by
  have H := hid h
  clear h
  go_enter Try.func105, Try.ntmps105
  go_wp2
  go_loop [4, 5, 6] (fun x _ i => ∃ k : Nat, k ≤ 32 ∧ i = .int .i64 k ∧ x = .int .u32 (ap (colsOf n) k r).toNat) (fun _ _ i => 32 - (intOf i).toNat)
  case atStart => exact ⟨0, Nat.zero_le _, rfl, rfl⟩
  case round =>
    obtain ⟨k, hk, rfl, rfl⟩ := hrel
    by_cases hlt : k < 32
    · have hc : w.cell? ⟨b, k, none⟩ = some (.int .u32 (colsOf n k).toNat) := cell_blk H.out (colCells_at n k hlt)
      go_wp2
      · have hb : (bits BinOp.and IntKind.u32 ((r.toNat : Int) / 2 ^ k) 1 == 1) = true := by assumption
        go_round
        case rel => exact ⟨k + 1, by omega, by go_num, by rw [ap, if_pos (bit_true hb), xor32]⟩
        case measure => simp [intOf]; omega
      · have hb : (bits BinOp.and IntKind.u32 ((r.toNat : Int) / 2 ^ k) 1 == 1) = false := by assumption
        go_round
        case rel => exact ⟨k + 1, by omega, by go_num, by rw [ap, if_neg (by rw [bit_false hb]; decide)]; simp⟩
        case measure => simp [intOf]; omega
    · have hk8 : k = 32 := by omega
      subst hk8
      go_wp2
      go_ret
      exact ⟨ret_int (by rw [ap_cols]), rfl⟩

theorem ap_sq (n i : Nat) : stps n (colsOf n i) = colsOf (n + n) i := by unfold colsOf; rw [← stps_add]

set_option maxRecDepth 100000 in
set_option maxHeartbeats 400000 in
theorem squared_any (b n : Nat) (w : World) (h : Cols w b n) :
    Calls Try.prog 104 #[.pointer (some ⟨b, 0, none⟩)] w fun e w' => ∃ b', e = .returned (.pointer (some ⟨b', 0, none⟩)) ∧ Cols w' b' (n + n) ∧ w.heap.size ≤ b' ∧ Below w.heap.size w w' := by
  have H := hid h
  have hbl := lt_blk h
  clear h
  go_enter Try.func104, Try.ntmps104
  go_wp2_with fail
  go_loopw [4, 5] (fun _ i wr => ∃ k : Nat, k ≤ 32 ∧ i = .int .i64 k ∧ Below w.heap.size w wr ∧ ∃ cs : Array Value, cs.size = 32 ∧ wr.heap[w.heap.size]? = some (.cells cs 164 (0, 0)) ∧ ∀ j, j < k → cs[j]? = some (Value.int .u32 (colsOf (n + n) j).toNat)) (fun _ i _ => 32 - (intOf i).toNat)
  case atStart =>
    refine ⟨0, Nat.zero_le _, rfl, fresh_alloc _ _, _, ?_, alloc_new w _, fun j hj => by omega⟩
    rfl
  case round =>
    obtain ⟨k, hk, rfl, hB, cs, hsz, h1, hcs⟩ := hrel
    have HH := hid (And.intro hsz (And.intro h1 hcs)); clear hsz h1 hcs
    by_cases hlt : k < 32
    · obtain ⟨v, hv⟩ := at_some (show k < cs.size by rw [HH.out.1]; exact hlt)
      have hc : wr.cell? ⟨w.heap.size, k, none⟩ = some v := cell_blk HH.out.2.1 hv
      have hf := free_blk HH.out.2.1 k
      have hm : Hid (Cols wr b n) := by show Cols wr b n; unfold Cols; rw [hB.block b hbl]; exact H.out
      have hcm : wr.cell? ⟨b, k, none⟩ = some (.int .u32 (colsOf n k).toNat) := cell_blk hm.out (colCells_at n k hlt)
      clear hv
      go_wp2_with (go_at_call 105; ((with_reducible refine (of_any b n (colsOf n k) _ hm.out).mono ?_); rintro e w' ⟨rfl, rfl⟩))
      go_roundw
      case rel =>
        obtain ⟨hsz, h1, hcs⟩ := HH.out
        refine ⟨k + 1, by omega, by go_num, hB.setCell (by simp) _, _, ?_, set_blk h1 k _, ?_⟩
        · rw [size_set_blk, hsz]
        · intro j hj
          rw [Array.getElem?_setIfInBounds]
          by_cases hjk : k = j
          · subst hjk
            rw [if_pos rfl, if_pos (by omega), ap_sq]
          · rw [if_neg hjk]; exact hcs j (by omega)
      case measure => simp [intOf]; omega
    · have hk8 : k = 32 := by omega
      subst hk8
      go_wp2
      go_ret
      obtain ⟨hsz, h1, hcs⟩ := HH.out
      refine ⟨w.heap.size, rfl, ?_, Nat.le_refl _, hB⟩
      unfold Cols; rw [← colCells_of hsz hcs]; exact h1

theorem shl_int (k : Nat) (h1 : 1 ≤ k) (h2 : k < 32) : (2 ^ (k - 1) % 4294967296 : Int) = ((colsOf 1 k).toNat : Int) := by
  obtain ⟨i, rfl⟩ : ∃ i, k = i + 1 := ⟨k - 1, by omega⟩
  rw [cols_bit i (by omega), Nat.add_sub_cancel, BitVec.toNat_shiftLeft, Nat.shiftLeft_eq]
  simp

set_option maxRecDepth 100000 in
set_option maxHeartbeats 400000 in
theorem join_range (a b : R32) (n : Int) (h : n < 0 ∨ 1073741824 < n) (w : World) :
    Calls Try.prog 31 #[.int .u32 a.toNat, .int .u32 b.toNat, .int .i64 n] w fun e w' => e = .returned (.tuple #[.int .u32 0, .int .i64 3]) ∧ w = w' := by
  by_cases h0 : n < 0
  · go_enter Try.func31, Try.ntmps31
    go_wp2_with fail
    go_ret2
    exact ⟨rfl, rfl⟩
  · have h1 : 1073741824 < n := by omega
    have h2 : 0 ≤ n := by omega
    clear h h0
    go_enter Try.func31, Try.ntmps31
    go_wp2_with fail
    go_ret2
    exact ⟨rfl, rfl⟩

set_option maxRecDepth 100000 in
set_option maxHeartbeats 400000 in
theorem bit_any (w : World) :
    Calls Try.prog 103 #[] w fun e w' => ∃ b', e = .returned (.pointer (some ⟨b', 0, none⟩)) ∧ Cols w' b' 1 ∧ w.heap.size ≤ b' ∧ Below w.heap.size w w' := by
  go_enter Try.func103, Try.ntmps103
  go_wp2_with fail
  go_loopw [2] (fun i wr => ∃ k : Nat, 1 ≤ k ∧ k ≤ 32 ∧ i = .int .i64 k ∧ Below w.heap.size w wr ∧ ∃ cs : Array Value, cs.size = 32 ∧ wr.heap[w.heap.size]? = some (.cells cs 164 (0, 0)) ∧ ∀ j, j < k → cs[j]? = some (Value.int .u32 (colsOf 1 j).toNat)) (fun i _ => 32 - (intOf i).toNat)
  case atStart =>
    refine ⟨1, Nat.le_refl _, by omega, rfl, fresh_alloc _ _, _, ?_, alloc_new w _, ?_⟩
    · rfl
    · intro j hj
      have : j = 0 := by omega
      subst this
      rw [cols_bit0]; rfl
  case round =>
    obtain ⟨k, hk1, hk, rfl, hB, cs, hsz, h1, hcs⟩ := hrel
    have HH := hid (And.intro hsz (And.intro h1 hcs)); clear hsz h1 hcs
    by_cases hlt : k < 32
    · obtain ⟨v, hv⟩ := at_some (show k < cs.size by rw [HH.out.1]; exact hlt)
      have hc : wr.cell? ⟨w.heap.size, k, none⟩ = some v := cell_blk HH.out.2.1 hv
      have hf := free_blk HH.out.2.1 k
      have hI : (0 : Int) ≤ (k : Int) - 1 := by omega
      have ht : ((k : Int) - 1).toNat = k - 1 := by omega
      have hwr : IntKind.i64.wrap ((k : Int) - 1) = (k : Int) - 1 := IntWalk.i64_in _ (by omega)
      clear hv
      go_wp2_with fail
      go_region
      go_wp2
      go_roundw
      case rel =>
        obtain ⟨hsz, h1, hcs⟩ := HH.out
        refine ⟨k + 1, by omega, by omega, by go_num, (hB.setCell (by simp) _).drew, _, ?_, set_blk h1 k _, ?_⟩
        · rw [size_set_blk, hsz]
        · intro j hj
          rw [Array.getElem?_setIfInBounds]
          by_cases hjk : k = j
          · subst hjk
            rw [if_pos rfl, if_pos (by omega), shl_int k hk1 hlt]
          · rw [if_neg hjk]; exact hcs j (by omega)
      case measure => simp [intOf]; omega
    · have hk8 : k = 32 := by omega
      subst hk8
      go_wp2
      go_ret
      obtain ⟨hsz, h1, hcs⟩ := HH.out
      refine ⟨w.heap.size, rfl, ?_, Nat.le_refl _, hB⟩
      unfold Cols; rw [← colCells_of hsz hcs]; exact h1

theorem join_bits (n k : Nat) (a : R32) : stps (k * (n % 2)) a = if n % 2 = 1 then stps k a else a := by
  have : n % 2 = 0 ∨ n % 2 = 1 := by omega
  rcases this with h | h
  · rw [h]; rfl
  · rw [h]; simp
set_option maxRecDepth 100000 in
set_option maxHeartbeats 400000 in
theorem join_any (a b : R32) (n : Nat) (hn : n ≤ 1073741824) (w : World) :
    Calls Try.prog 31 #[.int .u32 a.toNat, .int .u32 b.toNat, .int .i64 n] w fun e w' => e = .returned (.tuple #[.int .u32 (cjoin a b n).toNat, .int .i64 0]) ∧ Below w.heap.size w w' := by
  go_enter Try.func31, Try.ntmps31
  go_wp2_with fail
  refine (bit_any _).mono ?_
  rintro e w1 ⟨b1, rfl, hc1, hg1, hb1⟩
  have H1 := hid (And.intro hc1 hg1); clear hc1 hg1
  go_wp2_with fail
  refine (squared_any b1 1 w1 H1.out.1).mono ?_
  rintro e w2 ⟨b2, rfl, hc2, hg2, hb2⟩
  have H2 := hid (And.intro hc2 hg2); clear hc2 hg2
  go_wp2_with fail
  refine (squared_any b2 2 w2 H2.out.1).mono ?_
  rintro e w3 ⟨b3, rfl, hc3, hg3, hb3⟩
  have H3 := hid (And.intro hc3 hg3); clear hc3 hg3
  go_wp2_with fail
  refine (squared_any b3 4 w3 H3.out.1).mono ?_
  rintro e w4 ⟨b4, rfl, hc4, hg4, hb4⟩
  have H4 := hid (And.intro hc4 hg4); clear hc4 hg4
  have hb := hb1.trans ((hb2.trans ((hb3.trans (hb4.mono hb3.size)).mono hb2.size)).mono hb1.size)
  have HB := hid hb
  clear hb1 hb2 hb3 hb4 hb
  go_wp2_with fail
  go_loopw [0, 2, 8] (fun x i m wr => ∃ (k c bm : Nat) (q : R32), i = .int .i64 k ∧ k ≤ n ∧ x = .int .u32 q.toNat ∧ m = .pointer (some ⟨bm, 0, none⟩) ∧ Cols wr bm c ∧ stps (c * k) q = stps (8 * n) a ∧ Below w.heap.size w wr) (fun _ i _ _ => (intOf i).toNat)
  case atStart => exact ⟨n, 8, b4, a, rfl, Nat.le_refl _, rfl, rfl, H4.out.1, rfl, HB.out⟩
  case round =>
    obtain ⟨k, c, bm, q, rfl, hk, rfl, rfl, hc, hq, hB⟩ := hrel
    have HC := hid hc; have HQ := hid hq; clear hc hq
    by_cases h0 : k = 0
    · subst h0
      go_wp2
      go_ret2
      have e : Hid (q = stps (8 * n) a) := HQ.out
      refine ⟨?_, hB⟩
      show Ending.returned (.tuple #[.int .u32 (bits BinOp.xor IntKind.u32 (q.toNat : Int) (b.toNat : Int)), .int .i64 0]) = _
      rw [xor32, e.out]; rfl
    · have hp : 0 < k := by omega
      have hbit := and1_i64 k (by omega)
      clear h0
      by_cases ho : k % 2 = 1
      · have hb' : (bits BinOp.and IntKind.i64 (k : Int) 1 == 1) = true := by rw [hbit, ho]; rfl
        have HO := hid ho
        clear hbit ho
        go_wp2_with fail
        refine (of_any bm c q wr HC.out).mono ?_
        rintro e w' ⟨rfl, rfl⟩
        go_wp2_with fail
        refine (squared_any bm c wr HC.out).mono ?_
        rintro e w' ⟨bm', rfl, hc', hg', hb''⟩
        have HC' := hid hc'; clear hc' hg'
        go_wp2_with fail
        go_roundw
        case rel =>
          refine ⟨k / 2, c + c, bm', stps c q, by go_num, by omega, rfl, rfl, HC'.out, ?_, hB.trans (hb''.mono hB.size)⟩
          rw [← HQ.out, ← stps_add]
          congr 1
          have := HO.out
          have e2 : k = 2 * (k / 2) + 1 := by omega
          generalize k / 2 = m at *
          subst e2
          rw [Nat.mul_add, Nat.add_mul, ← Nat.mul_assoc, Nat.mul_comm c 2, Nat.two_mul, Nat.add_mul]; omega
        case measure => simp [intOf]; omega
      · have ho2 : k % 2 = 0 := by omega
        have hb' : (bits BinOp.and IntKind.i64 (k : Int) 1 == 1) = false := by rw [hbit, ho2]; rfl
        have HO := hid ho2
        clear hbit ho ho2
        go_wp2_with fail
        refine (squared_any bm c wr HC.out).mono ?_
        rintro e w' ⟨bm', rfl, hc', hg', hb''⟩
        have HC' := hid hc'; clear hc' hg'
        go_wp2_with fail
        go_roundw
        case rel =>
          refine ⟨k / 2, c + c, bm', q, by go_num, by omega, rfl, rfl, HC'.out, ?_, hB.trans (hb''.mono hB.size)⟩
          rw [← HQ.out]
          congr 1
          have := HO.out
          have e2 : k = 2 * (k / 2) := by omega
          generalize k / 2 = m at *
          subst e2
          rw [← Nat.mul_assoc, Nat.mul_comm c 2, Nat.two_mul]
        case measure => simp [intOf]; omega
end Go.Proofs.Ytlondopgibcikaa
