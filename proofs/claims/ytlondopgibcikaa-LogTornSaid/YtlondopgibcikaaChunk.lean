/- The walk of slices.Chunk's iterator. -/
import Derived.RangeFuncNested
import Derived.RangeFuncBox
import Derived.RangeFuncLeaves
import Derived.Shelf.Abstract
import Derived.Shelf.RegionOpen
import Derived.WalkKit
import Derived.OwnWalkIn
import Derived.TacticsInMore
import Derived.LoopNIn
import Derived.LoopIn
import Derived.Maps.AppendAt
import Derived.WalkSpells
import Derived.Test.YtlondopgibcikaaRows
import Derived.Test.YtlondopgibcikaaHeap
import Derived.Test.YtlondopgibcikaaKit
import Derived.Test.YtlondopgibcikaaLL
namespace Go.Proofs.Ytlondopgibcikaa
open Go.RowKit Go.Shelf Ent

attribute [local go_sem] Oper.semAt_some

/-- the pieces of so many: where they begin and how long they are, k of them -/
def pieces (n k : Nat) : List (Nat × Nat) := (List.range k).map fun j => (49 * j, min 49 (n - 49 * j))
theorem pieces_succ (n k : Nat) : pieces n (k + 1) = pieces n k ++ [(49 * k, min 49 (n - 49 * k))] := by simp [pieces, List.range_succ]
theorem pieces_len (n k : Nat) : (pieces n k).length = k := by simp [pieces]
def encP (b o : Nat) (x : Nat × Nat) : Array Value := #[.slice (some ⟨b, o + x.1, none⟩) x.2 x.2]
set_option maxRecDepth 100000 in
set_option maxHeartbeats 2000000 in
theorem chunk1_in (F : Fence) (m : Nat) (h7 : F.fn 160) (hro : F.round = none) (hm : 1 ≤ m) (l Bs Bn b o n c q : Nat) (hn : n ≤ 1073741824) (hc : n ≤ c) (hq : q = (n + 48) / 49) (Kp : World → World → Prop) (hKc : ∀ W W', Kp W W' → W'.cell? ⟨Bs, 0, none⟩ = W.cell? ⟨Bs, 0, none⟩ ∧ W'.cell? ⟨Bn, 0, none⟩ = W.cell? ⟨Bn, 0, none⟩)
    (J Jx : List (Nat × Nat) → World → Prop) (hJd : ∀ pre W, J pre W → J pre W.drew)
    (hY : ∀ pre x W, J pre W → pre.length < q → YieldAt F (m - 1) Try.prog l (encP b o x) W fun e W' =>
      (e = .returned (.bool true) ∧ J (pre ++ [x]) W' ∧ Kp W W') ∨ (e = .returned (.bool false) ∧ Jx (pre ++ [x]) W'))
    (W : World) (hBs : W.cell? ⟨Bs, 0, none⟩ = some (.slice (some ⟨b, o, none⟩) n c)) (hBn : W.cell? ⟨Bn, 0, none⟩ = some (.int .i64 49)) (h0 : J [] W) :
    CallsIn F m Try.prog 160 #[.func (.yield l) #[] #[], .pointer (some ⟨Bs, 0, none⟩), .pointer (some ⟨Bn, 0, none⟩)] W fun e W' => (∃ v, e = .returned v) ∧
      ((∃ ys, ys = pieces n q ∧ J ys W') ∨ (∃ pre, True ∧ Jx pre W')) := by
  refine callsIn_of_wp Try.func160 rfl h7 ?_ hro
  simp only [Try.ntmps160, List.size_toArray, List.length_cons, List.length_nil, Nat.reduceAdd, Nat.reduceSub, Array.replicate_succ, Array.replicate_zero, List.push_toArray, List.append_toArray, List.nil_append, List.cons_append]
  gi_wp2
  gi_loopw [4] (fun i wr => ∃ (k i' : Nat), k ≤ q ∧ i' = 49 * k ∧ i = .int .i64 i' ∧ J (pieces n k) wr ∧ wr.cell? ⟨Bs, 0, none⟩ = some (.slice (some ⟨b, o, none⟩) n c) ∧ wr.cell? ⟨Bn, 0, none⟩ = some (.int .i64 49))
    (fun i _ => 49 * q - (intOf i).toNat)
  case atStart => exact ⟨0, 0, Nat.zero_le _, rfl, rfl, h0, hBs, hBn⟩
  case round =>
    obtain ⟨k, i', hk, hi, rfl, hJs, hs1, hn1⟩ := hrel
    have HI := hid hi
    clear hi
    by_cases hlt : i' < n
    · have hkq : k < q := by have := HI.out; omega
      have hle : i' ≤ n := by omega
      obtain ⟨e, he⟩ : ∃ e, e = min 49 (n - i') := ⟨_, rfl⟩
      have HE := hid he
      have hmin : min 49 ((n - i' : Nat) : Int) = (e : Int) := by omega
      have he1 : 1 ≤ e := by omega
      have he2 : i' + e ≤ n := by omega
      clear he
      obtain ⟨fn, tmps, assign, body, hy, hR⟩ := hY _ (i', e) wr.drew (hJd _ _ hJs) (by rw [pieces_len]; exact hkq)
      dsimp only [encP] at hy
      gi_wp2
      gi_region
      all_goals
        gi_wp2
        refine hR.mono ?_
        rintro ee W3 (⟨rfl, hJ3, hk3⟩ | ⟨rfl, hJx3⟩)
        · have hc3 := hKc _ _ hk3
          have hs3 : W3.cell? ⟨Bs, 0, none⟩ = some (.slice (some ⟨b, o, none⟩) n c) := hc3.1.trans hs1
          have hn3 : W3.cell? ⟨Bn, 0, none⟩ = some (.int .i64 49) := hc3.2.trans hn1
          have HJ3 := hid hJ3
          clear hJ3 hk3 hc3 hJs hR hy
          gi_wp2
          go_roundw
          case rel => exact ⟨k + 1, i' + 49, by omega, by have := HI.out; omega, by go_num, by rw [pieces_succ, ← HI.out, ← HE.out]; exact HJ3.out, hs3, hn3⟩
          case measure => have := HI.out; simp [intOf]; omega
        · gi_wp2
          refine bodyPost_ret (results_none rfl _ _ _) rfl ?_
          exact ⟨⟨_, rfl⟩, .inr ⟨_, trivial, hJx3⟩⟩
    · have hk9 : k = q := by have := HI.out; omega
      have HJ := hid hJs
      clear hJs
      gi_wp2
      go_end0
      exact ⟨⟨_, rfl⟩, .inl ⟨_, rfl, by rw [← hk9]; exact HJ.out⟩⟩
set_option maxRecDepth 100000 in
set_option maxHeartbeats 1000000 in
theorem chunk0_in (F : Fence) (m : Nat) (h7 : F.fn 160) (hro : F.round = none) (l Bs Bn c : Nat) (ao : Option Addr) (J : List (Nat × Nat) → World → Prop) (W : World) (hBs : W.cell? ⟨Bs, 0, none⟩ = some (.slice ao 0 c)) (h0 : J [] W) :
    CallsIn F m Try.prog 160 #[.func (.yield l) #[] #[], .pointer (some ⟨Bs, 0, none⟩), .pointer (some ⟨Bn, 0, none⟩)] W fun e W' => (∃ v, e = .returned v) ∧ J [] W' := by
  refine callsIn_of_wp Try.func160 rfl h7 ?_ hro
  simp only [Try.ntmps160, List.size_toArray, List.length_cons, List.length_nil, Nat.reduceAdd, Nat.reduceSub, Array.replicate_succ, Array.replicate_zero, List.push_toArray, List.append_toArray, List.nil_append, List.cons_append]
  gi_wp2
  gi_loopw [4] (fun i wr => i = .int .i64 0 ∧ J [] wr ∧ wr.cell? ⟨Bs, 0, none⟩ = some (.slice ao 0 c)) (fun _ _ => 0)
  case atStart => exact ⟨rfl, h0, hBs⟩
  case round =>
    obtain ⟨rfl, hJs, hs⟩ := hrel
    have HJ := hid hJs
    clear hJs
    gi_wp2
    go_end0
    exact ⟨⟨_, rfl⟩, HJ.out⟩
set_option maxHeartbeats 1000000 in
theorem chunk_in (F : Fence) (m : Nat) (h5 : F.fn 147) (hro : F.round = none) (ao : Option Addr) (n c : Nat) (w : World) :
    CallsIn F m Try.prog 147 #[.slice ao n c, .int .i64 49] w fun e w' => e = .returned (.func (.func 160) #[] #[.pointer (some ⟨w.heap.size, 0, none⟩), .pointer (some ⟨w.heap.size + 1, 0, none⟩)]) ∧ w' = (w.alloc (.cells #[.slice ao n c] 22)).alloc (.cells #[.int .i64 49] 3) := by
  refine callsIn_of_wp Try.func147 rfl h5 ?_ hro
  simp only [Try.ntmps147, List.size_toArray, List.length_cons, List.length_nil, Nat.reduceAdd, Nat.reduceSub, Array.replicate_succ, Array.replicate_zero, List.push_toArray, List.append_toArray, List.nil_append, List.cons_append]
  gi_wp2
  go_ret
  exact ⟨rfl, rfl⟩
/-- all but B0, below n0, is as it was -/
def KpA (B0 n0 : Nat) (W W' : World) : Prop := ∀ p : Addr, p.block < n0 → p.block ≠ B0 → W'.cell? p = W.cell? p
theorem kpA_t {B0 n0 : Nat} {A B C : World} (h : KpA B0 n0 A B) (k : KpA B0 n0 B C) : KpA B0 n0 A C := fun p h1 h2 => (k p h1 h2).trans (h p h1 h2)
theorem kpA_b {B0 n0 : Nat} {w : World} (hn : n0 ≤ w.heap.size) (W : World) (l : Nat) (o o' : Obj) (hl : w.heap.size ≤ l) (_ : W.heap[l]? = some o) (_ : o.isCells = false) (_ : o.isWalk = false) : KpA B0 n0 W (W.putObj l o') := fun p h1 _ =>
  World.cell?_of_block (World.putObj_heap_other (by omega))
theorem KpA.refl {B0 n0 : Nat} (W : World) : KpA B0 n0 W W := fun _ _ _ => rfl
def q49 (n : Nat) : Nat := (n + 48) / 49
theorem chunk_stops (F : Fence) (m : Nat) (h7 : F.fn 160) (hro : F.round = none) (hm : 1 ≤ m) (B0 Bs Bn b o n c : Nat) (ao : Option Addr) (hao : n = 0 ∨ ao = some ⟨b, o, none⟩) (hn : n ≤ 1073741824) (hc : n ≤ c) (w : World) (hs1 : Bs < w.heap.size) (hs2 : Bn < w.heap.size) (h01 : Bs ≠ B0) (h02 : Bn ≠ B0)
    (hBs : w.cell? ⟨Bs, 0, none⟩ = some (.slice ao n c)) (hBn : w.cell? ⟨Bn, 0, none⟩ = some (.int .i64 49)) :
    SeqStopsK F m Try.prog 160 #[.pointer (some ⟨Bs, 0, none⟩), .pointer (some ⟨Bn, 0, none⟩)] (encP b o) (KpA B0 w.heap.size) (fun ys => ys = pieces n (q49 n)) (fun _ => True) (q49 n) w := fun l J Jx W hW hJ _ hY h0 => by
  have hBs' := (hW.cell (p := ⟨Bs, 0, none⟩) hs1).trans hBs
  have hBn' := (hW.cell (p := ⟨Bn, 0, none⟩) hs2).trans hBn
  by_cases hz : n = 0
  · subst hz
    refine (chunk0_in F m h7 hro l Bs Bn c ao J W hBs' h0).mono ?_
    rintro e W' ⟨he, hj⟩
    exact ⟨he, .inl ⟨[], rfl, hj⟩⟩
  · obtain rfl := hao.resolve_left hz
    refine (chunk1_in F m h7 hro hm l Bs Bn b o n c (q49 n) hn hc rfl (KpA B0 w.heap.size) (fun W1 W2 h => ⟨h ⟨Bs, 0, none⟩ hs1 h01, h ⟨Bn, 0, none⟩ hs2 h02⟩) J Jx (fun pre W1 h => hJ pre W1 W1.drew none h ⟨rfl, rfl, rfl, Nat.le_refl _, fun _ _ _ => rfl⟩ (fun r e => by cases e)) hY W hBs' hBn' h0).mono ?_
    rintro e W' ⟨he, h⟩
    exact ⟨he, h⟩
end Go.Proofs.Ytlondopgibcikaa
