/- What is asked of a device; how acts lie in memory; the walks of Long and acted. -/
import Derived.Test.YtlondopgibcikaaRows
import Derived.Test.YtlondopgibcikaaHeap
import Derived.Test.YtlondopgibcikaaKit
import Derived.Test.YtlondopgibcikaaDev
import Derived.Test.YtlondopgibcikaaDevW
import Derived.Test.YtlondopgibcikaaDevV
import Derived.Test.YtlondopgibcikaaDevU
import Derived.Test.YtlondopgibcikaaDevT
import Derived.Test.YtlondopgibcikaaDevC
import Derived.Test.YtlondopgibcikaaLaw05
import Derived.Test.YtlondopgibcikaaLL
import Derived.Test.YtlondopgibcikaaRef5
import Derived.Test.YtlondopgibcikaaRef5b
import Derived.Test.YtlondopgibcikaaSt
import Derived.Test.YtlondopgibcikaaSt2
import Derived.WalkKit
import Derived.WalkSpells
import Derived.WalkLawsBesides
import Derived.Deep.RegionHeld3
namespace Go.Proofs.Ytlondopgibcikaa
open Go.RowKit Ent

/-- an act, and where its bools lie -/
structure Act5 where
  kind : Int
  n : Int
  b : UInt8
  ko : Option Addr
  kc : Nat
  keep : List Bool
def Act5.cells (a : Act5) : List Value := [.int .i64 a.kind, .int .i64 a.n, .int .u8 (a.b.toNat : Int), .slice a.ko a.keep.length a.kc]
structure Act5.fits (w : World) (a : Act5) : Prop where
  k1 : -9223372036854775808 ≤ a.kind ∧ a.kind ≤ 9223372036854775807
  n1 : -9223372036854775808 ≤ a.n ∧ a.n ≤ 9223372036854775807
  bl : BL w a.ko a.keep
  kl : a.keep.length ≤ 9223372036854775807
theorem Act5.fits.below {w w' : World} {a : Act5} (h : a.fits w) (hb : Below w.heap.size w w') : a.fits w' := ⟨h.k1, h.n1, h.bl.below hb, h.kl⟩
/-- acts that may be read -/
def AL5 (w : World) (ao : Option Addr) (l : List Act5) : Prop := l = [] ∨ ∃ b o, ao = some ⟨b, o, none⟩ ∧ ∀ i a, l[i]? = some a → a.fits w ∧ ∀ j v, a.cells[j]? = some v → w.cell? ⟨b, o + i * 4 + j, none⟩ = some v
theorem AL5.below {w w' : World} {ao : Option Addr} {l : List Act5} (h : AL5 w ao l) (hb : Below w.heap.size w w') : AL5 w' ao l := by
  rcases h with h | ⟨b, o, rfl, h⟩
  · exact .inl h
  · refine .inr ⟨b, o, rfl, fun i a ha => ⟨(h i a ha).1.below hb, fun j v hv => ?_⟩⟩
    have hc := (h i a ha).2 j v hv
    rw [hb.cell (World.block_lt_of_cell? w _ hc)]; exact hc
theorem AL5.at {w : World} {ao : Option Addr} {l : List Act5} (h : AL5 w ao l) {i : Nat} {a : Act5} (ha : l[i]? = some a) : ∃ b o, ao = some ⟨b, o, none⟩ ∧ a.fits w ∧ ∀ j v, a.cells[j]? = some v → w.cell? ⟨b, o + i * 4 + j, none⟩ = some v := by
  rcases h with rfl | ⟨b, o, rfl, h⟩
  · simp at ha
  · exact ⟨b, o, rfl, h i a ha⟩
def long5 (l : List Act5) : Bool := (l.take 61).any (fun a => decide (60 < a.keep.length)) || decide (60 < l.length)
theorem any_take_succ {α : Type} (p : α → Bool) (l : List α) (k : Nat) {x : α} (hx : l[k]? = some x) : (l.take (k + 1)).any p = ((l.take k).any p || p x) := by
  rw [List.take_add_one, hx]; simp
set_option maxRecDepth 100000 in
set_option maxHeartbeats 400000 in
theorem long5_any (ao : Option Addr) (n c : Nat) (l : List Act5) (hn : n = l.length) (hb : n ≤ 9223372036854775807) (w : World) (hl : AL5 w ao l) :
    Calls Try.prog 52 #[.slice ao n c] w fun e w' => e = .returned (.bool (long5 l)) ∧ w' = w := by
  subst hn
  go_enter Try.func52, Try.ntmps52
  go_wp2_with fail
  go_loop [3] (fun i => ∃ k : Nat, k ≤ l.length ∧ k ≤ 61 ∧ i = .int .i64 k ∧ (l.take k).any (fun a => decide (60 < a.keep.length)) = false) (fun i => 61 - (intOf i).toNat)
  case atStart => exact ⟨0, Nat.zero_le _, by omega, rfl, by simp⟩
  case round =>
    obtain ⟨k, hk, hk61, rfl, hany⟩ := hrel
    have HA := hid hany
    clear hany
    by_cases hlt : k < l.length ∧ k < 61
    · obtain ⟨hl1, hl2⟩ := hlt
      obtain ⟨x, hx⟩ : ∃ x, l[k]? = some x := ⟨_, List.getElem?_eq_getElem hl1⟩
      obtain ⟨b, o, rfl, hf, hc⟩ := hl.at hx
      have c3 := hc 3 _ rfl
      have hkl := hf.kl
      have HT := hid (any_take_succ (fun a : Act5 => decide (60 < a.keep.length)) l k hx)
      clear hc hx hf
      by_cases h60 : 60 < x.keep.length
      · have HR : Hid (long5 l = true) := hid (by
          unfold long5
          have h1 : (l.take 61).any (fun a : Act5 => decide (60 < a.keep.length)) = true := by
            rw [List.any_eq_true]
            have h2 := HT.out
            rw [HA.out, Bool.false_or, decide_eq_true h60, List.any_eq_true] at h2
            obtain ⟨y, hy, hp⟩ := h2
            exact ⟨y, (List.take_subset_take_left l (by omega)) hy, hp⟩
          rw [h1]; rfl)
        go_wp2
        go_ret
        exact ⟨by rw [HR.out]; rfl, rfl⟩
      · go_wp2
        go_round
        case rel => exact ⟨k + 1, by omega, by omega, by go_num, by rw [HT.out, HA.out, decide_eq_false h60]; rfl⟩
        case measure => simp [intOf]; omega
    · have HR : Hid (long5 l = decide (60 < l.length)) := hid (by
        unfold long5
        have : l.take 61 = l.take k := by
          by_cases h1 : k < 61
          · rw [List.take_of_length_le (by omega), List.take_of_length_le (by omega)]
          · rw [show k = 61 by omega]
        rw [this, HA.out, Bool.false_or])
      by_cases h1 : k < l.length
      · have h2 : ¬ k < 61 := fun h => hlt ⟨h1, h⟩
        clear hlt
        go_wp2
        go_ret
        exact ⟨by rw [HR.out]; congr 1; simp; omega, rfl⟩
      · clear hlt
        go_wp2
        go_ret
        exact ⟨by rw [HR.out]; congr 1; simp; omega, rfl⟩
/-- what an act makes of a device -/
def act5 (d : Dev) (a : Act5) : Dev :=
  if a.kind = 0 then (d.write a.n (rep 64 a.b)).2 else if a.kind = 1 then d.flush.2 else if a.kind = 2 then (d.setFuse a.n).2 else if a.kind = 3 then (d.crash a.keep a.n).2
  else if a.kind = 4 then (d.write a.n (List.replicate a.b.toNat 0)).2 else d
theorem write_loose (d : Dev) (i : Int) (b : List UInt8) : (d.write i b).2.loose.length ≤ d.loose.length + 1 ∧ (d.write i b).2.img.length = d.img.length := by
  unfold Dev.write
  split
  · exact ⟨Nat.le_succ _, rfl⟩
  · split
    · exact ⟨Nat.le_succ _, rfl⟩
    · split
      · exact ⟨Nat.le_succ _, rfl⟩
      · split
        · rw [through_loose, through_img]; exact ⟨Nat.le_succ _, rfl⟩
        · exact ⟨by simp, through_img d ▸ rfl⟩
theorem flush_loose (d : Dev) : d.flush.2.loose.length ≤ d.loose.length ∧ d.flush.2.img.length = d.img.length := by
  unfold Dev.flush
  split
  · exact ⟨Nat.le_refl _, rfl⟩
  · split
    · rw [through_loose, through_img]; exact ⟨Nat.le_refl _, rfl⟩
    · exact ⟨by simp, by rw [Dev.now_len]⟩
theorem fuse_loose (d : Dev) (n : Int) : (d.setFuse n).2.loose = d.loose ∧ (d.setFuse n).2.img = d.img := by
  unfold Dev.setFuse
  split
  · exact ⟨rfl, rfl⟩
  · split <;> exact ⟨rfl, rfl⟩
theorem torn_len (L : List (List UInt8)) (x : Option (Nat × List UInt8)) (t : Nat) : (tornIn L x t).length = L.length := by
  cases x <;> simp [tornIn]
theorem crash_loose (d : Dev) (keep : List Bool) (t : Int) : (d.crash keep t).2.loose.length ≤ d.loose.length ∧ (d.crash keep t).2.img.length = d.img.length := by
  unfold Dev.crash
  split
  · exact ⟨Nat.le_refl _, rfl⟩
  · exact ⟨by simp, by rw [torn_len, laid_len]⟩
theorem act5_loose (d : Dev) (a : Act5) : (act5 d a).loose.length ≤ d.loose.length + 1 ∧ (act5 d a).img.length = d.img.length := by
  unfold act5
  split
  · exact write_loose _ _ _
  · split
    · have := flush_loose d; exact ⟨by omega, this.2⟩
    · split
      · rw [(fuse_loose _ _).1, (fuse_loose _ _).2]; exact ⟨Nat.le_succ _, rfl⟩
      · split
        · have := crash_loose d a.keep a.n; exact ⟨by omega, this.2⟩
        · split
          · exact write_loose _ _ _
          · exact ⟨Nat.le_succ _, rfl⟩
end Go.Proofs.Ytlondopgibcikaa
