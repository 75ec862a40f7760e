/- Calls of devices among assets. -/
import Derived.Test.YtlondopgibcikaaRows
import Derived.Test.YtlondopgibcikaaHeap
import Derived.Test.YtlondopgibcikaaKit
import Derived.Test.YtlondopgibcikaaDev
import Derived.Test.YtlondopgibcikaaDevW
import Derived.Test.YtlondopgibcikaaDevV
import Derived.Test.YtlondopgibcikaaDevU
import Derived.Test.YtlondopgibcikaaDevT
import Derived.Test.YtlondopgibcikaaDevC
import Derived.Test.YtlondopgibcikaaLaw05
import Derived.Test.YtlondopgibcikaaLL
import Derived.Test.YtlondopgibcikaaRef5
import Derived.Test.YtlondopgibcikaaRef5b
import Derived.Test.YtlondopgibcikaaRef5c
import Derived.Test.YtlondopgibcikaaRef5d
import Derived.Test.YtlondopgibcikaaRef5e
import Derived.Test.YtlondopgibcikaaSt
import Derived.WalkKit
namespace Go.Proofs.Ytlondopgibcikaa
open Go.RowKit Ent

def rdev (a : Nat) (d : Dev) : Asset := fun w F => RD w a F d
theorem good_rdev (a : Nat) (d : Dev) : Good (rdev a d) := ⟨fun h hk hG => RD.keep h hk hG⟩
/-- a block -/
def blkA (g : Nat) (T : TypeId) (vs : List Value) : Asset := fun w F => Blk w g T vs ∧ F g
theorem good_blkA (g : Nat) (T : TypeId) (vs : List Value) : Good (blkA g T vs) := ⟨fun h hk hG => ⟨h.1.keep hk (hG _ h.2), h.2⟩⟩
/-- what is read beside an asset: old, or another one's block -/
def Apart (B : Nat) (As : List Asset) (i : Nat) (bo : Option Addr) : Prop :=
  (∀ x, bo = some x → x.block < B) ∨ ∃ j g T vs, i ≠ j ∧ As[j]? = some (blkA g T vs) ∧ ∀ x, bo = some x → x.block = g
theorem St.blk {B : Nat} {w0 w : World} {As : List Asset} (h : St B w0 w As) (i : Nat) {g : Nat} {T : TypeId} {vs : List Value} (hi : As[i]? = some (blkA g T vs)) : Blk w g T vs := by
  obtain ⟨F, hA, _⟩ := h.open i hi
  exact hA.1
theorem St.addBlk {B : Nat} {w0 w w' : World} {As : List Asset} (h : St B w0 w As) (hb : Below w.heap.size w w') {g : Nat} {T : TypeId} {vs : List Value} (hg : Blk w' g T vs) (h0 : w.heap.size ≤ g) : St B w0 w' (As ++ [blkA g T vs]) :=
  h.add hb (F := fun k => k = g) (good_blkA g T vs) ⟨hg, rfl⟩ (fun k hk => by rw [hk]; exact ⟨h0, hg.lt⟩)
theorem St.box {B : Nat} {w0 w : World} {As : List Asset} (h : St B w0 w As) (T : TypeId) (vs : List Value) : St B w0 (w.alloc (.cells vs.toArray T)) (As ++ [blkA w.heap.size T vs]) :=
  h.addBlk (fresh_alloc w _) (alloc_new w _) (Nat.le_refl _)
/-- a block of its own is written -/
theorem St.blkTurn {B : Nat} {w0 w w' : World} {As : List Asset} (h : St B w0 w As) (i : Nat) {g : Nat} {T : TypeId} {vs vs' : List Value} (hi : As[i]? = some (blkA g T vs)) (hk : Keep (fun k => k = g) w w') (hg : Blk w' g T vs') : St B w0 w' (As.set i (blkA g T vs')) := by
  obtain ⟨F, hA, hF, _, hcl⟩ := h.open i hi
  exact hcl w' _ F (hk.mono fun k _ e => by rw [e]; exact hA.2) (good_blkA _ _ _) ⟨hg, hA.2⟩ (fun k hk => .inl hk)
/-- .. and forgotten -/
def noA : Asset := fun _ _ => True
theorem good_noA : Good noA := ⟨fun _ _ _ => trivial⟩
theorem St.blkLost {B : Nat} {w0 w w' : World} {As : List Asset} (h : St B w0 w As) (i : Nat) {g : Nat} {T : TypeId} {vs : List Value} (hi : As[i]? = some (blkA g T vs)) (hk : Keep (fun k => k = g) w w') : St B w0 w' (As.set i noA) := by
  obtain ⟨F, hA, hF, _, hcl⟩ := h.open i hi
  exact hcl w' _ F (hk.mono fun k _ e => by rw [e]; exact hA.2) good_noA trivial (fun k hk => .inl hk)
theorem Apart.not {B : Nat} {w : World} {As : List Asset} {i : Nat} {bo : Option Addr} {F : Nat → Prop} (h : Apart B As i bo) (hF : ∀ k, F k → B ≤ k ∧ k < w.heap.size)
    (ho : ∀ (j : Nat) (C : Asset), i ≠ j → As[j]? = some C → ∃ G, C w G ∧ (∀ k, G k → B ≤ k ∧ k < w.heap.size) ∧ (∀ k, F k → ¬ G k)) : ∀ x, bo = some x → ¬ F x.block := by
  intro x hx hf
  rcases h with h | ⟨j, g, T, vs, hij, hj, h⟩
  · have := h x hx; have := (hF _ hf).1; omega
  · obtain ⟨G, hG, _, hd⟩ := ho j _ hij hj
    rw [h x hx] at hf
    exact hd _ hf hG.2
section
variable {B : Nat} {w0 w : World} {As : List Asset} {a : Nat} {d : Dev}
theorem St.dev_write (h : St B w0 w As) (i : Nat) (hi : As[i]? = some (dev a d)) (n : Int) (bo : Option Addr) (m c : Nat) (b : List UInt8) (hm : m = b.length) (hs : SB w bo c b) (hap : Apart B As i bo) (hlo : d.loose.length ≤ 1073741824) :
    Calls Try.prog 48 #[ptr a, .int .i64 n, .slice bo m c] w fun e w' => e = .returned (.int .i64 (d.write n b).1) ∧ St B w0 w' (As.set i (dev a (d.write n b).2)) := by
  obtain ⟨F, hA, hF, ho, hcl⟩ := h.open i hi
  refine (lift_write n bo m c b hm w hs (hap.not hF ho) hlo hA).mono ?_
  rintro e w' ⟨he, hp, hk⟩
  exact ⟨he, hcl w' _ _ hk (good_dev _ _) hp (fun _ h => h)⟩
theorem St.rdev_write (h : St B w0 w As) (i : Nat) (hi : As[i]? = some (rdev a d)) (n : Int) (bo : Option Addr) (m c : Nat) (b : List UInt8) (hm : m = b.length) (hs : SB w bo c b) (hap : Apart B As i bo) (hlo : d.loose.length ≤ 1073741824) :
    Calls Try.prog 81 #[ptr a, .int .i64 n, .slice bo m c] w fun e w' => e = .returned (.int .i64 (d.write n b).1) ∧ St B w0 w' (As.set i (rdev a (d.write n b).2)) := by
  obtain ⟨F, hA, hF, ho, hcl⟩ := h.open i hi
  refine (writeR_any n bo m c b hm w hs (hap.not hF ho) hlo hA).mono ?_
  rintro e w' ⟨he, hp, hk⟩
  exact ⟨he, hcl w' _ _ hk (good_rdev _ _) hp (fun _ h => h)⟩
theorem St.dev_flush (h : St B w0 w As) (i : Nat) (hi : As[i]? = some (dev a d)) :
    Calls Try.prog 41 #[ptr a] w fun e w' => e = .returned (.int .i64 d.flush.1) ∧ St B w0 w' (As.set i (dev a d.flush.2)) := by
  obtain ⟨F, hA, hF, ho, hcl⟩ := h.open i hi
  refine (lift_flush w hA).mono ?_
  rintro e w' ⟨he, hp, hk⟩
  exact ⟨he, hcl w' _ _ hk (good_dev _ _) hp (fun _ h => .inl h)⟩
theorem St.rdev_flush (h : St B w0 w As) (i : Nat) (hi : As[i]? = some (rdev a d)) (hlo : d.loose.length ≤ 1073741824) :
    Calls Try.prog 77 #[ptr a] w fun e w' => e = .returned (.int .i64 d.flush.1) ∧ St B w0 w' (As.set i (rdev a d.flush.2)) := by
  obtain ⟨F, hA, hF, ho, hcl⟩ := h.open i hi
  refine (flushR_any w hlo hA).mono ?_
  rintro e w' ⟨he, hp, hk⟩
  exact ⟨he, hcl w' _ _ hk (good_rdev _ _) hp (fun _ h => .inl h)⟩
theorem St.dev_fuse (h : St B w0 w As) (i : Nat) (hi : As[i]? = some (dev a d)) (n : Int) (h1 : -9223372036854775808 ≤ n) (h2 : n ≤ 9223372036854775807) :
    Calls Try.prog 40 #[ptr a, .int .i64 n] w fun e w' => e = .returned (.int .i64 (d.setFuse n).1) ∧ St B w0 w' (As.set i (dev a (d.setFuse n).2)) := by
  obtain ⟨F, hA, hF, ho, hcl⟩ := h.open i hi
  refine (lift_fuse n h1 h2 w hA).mono ?_
  rintro e w' ⟨he, hp, hk⟩
  exact ⟨he, hcl w' _ _ hk (good_dev _ _) hp (fun _ h => .inl h)⟩
theorem St.rdev_fuse (h : St B w0 w As) (i : Nat) (hi : As[i]? = some (rdev a d)) (n : Int) (h1 : -9223372036854775808 ≤ n) (h2 : n ≤ 9223372036854775807) :
    Calls Try.prog 79 #[ptr a, .int .i64 n] w fun e w' => e = .returned (.int .i64 (d.setFuse n).1) ∧ St B w0 w' (As.set i (rdev a (d.setFuse n).2)) := by
  obtain ⟨F, hA, hF, ho, hcl⟩ := h.open i hi
  refine (fuseR_any n h1 h2 w hA).mono ?_
  rintro e w' ⟨he, hp, hk⟩
  exact ⟨he, hcl w' _ _ hk (good_rdev _ _) hp (fun _ h => .inl h)⟩
theorem St.ok (h : St B w0 w As) (i : Nat) (hi : As[i]? = some (dev a d)) : d.ok := by
  obtain ⟨F, hA, _⟩ := h.open i hi
  obtain ⟨gi, gn, vl, lets, left, hA⟩ := hA
  exact hA.ok
theorem St.okR (h : St B w0 w As) (i : Nat) (hi : As[i]? = some (rdev a d)) : d.ok := by
  obtain ⟨F, hA, _⟩ := h.open i hi
  exact hA.1
theorem St.dev_crash (h : St B w0 w As) (i : Nat) (hi : As[i]? = some (dev a d)) (ko : Option Addr) (kn kc : Nat) (keep : List Bool) (hkn : kn = keep.length) (torn : Int) (hbl : BL w ko keep) (hap : keep ≠ [] → Apart B As i ko) (hkb : kn ≤ 1073741824) (hlo : d.loose.length ≤ 1073741824) :
    Calls Try.prog 39 #[ptr a, .slice ko kn kc, .int .i64 torn] w fun e w' => e = .returned (.int .i64 (d.crash keep torn).1) ∧ St B w0 w' (As.set i (dev a (d.crash keep torn).2)) := by
  obtain ⟨F, hA, hF, ho, hcl⟩ := h.open i hi
  refine (lift_crash ko kn kc keep hkn torn w hbl (fun hne => (hap hne).not hF ho) hkb hlo hA).mono ?_
  rintro e w' ⟨he, hp, hk⟩
  exact ⟨he, hcl w' _ _ hk (good_dev _ _) hp (fun _ h => .inl h)⟩
theorem St.rdev_crash (h : St B w0 w As) (i : Nat) (hi : As[i]? = some (rdev a d)) (ko : Option Addr) (kn kc : Nat) (keep : List Bool) (hkn : kn = keep.length) (torn : Int) (hbl : BL w ko keep) (hap : keep ≠ [] → Apart B As i ko) (hkb : kn ≤ 1073741824) (hlo : d.loose.length ≤ 1073741824) (hok : (d.crash keep torn).2.ok) :
    Calls Try.prog 78 #[ptr a, .slice ko kn kc, .int .i64 torn] w fun e w' => e = .returned (.int .i64 (d.crash keep torn).1) ∧ St B w0 w' (As.set i (rdev a (d.crash keep torn).2)) := by
  obtain ⟨F, hA, hF, ho, hcl⟩ := h.open i hi
  refine (crashR_any ko kn kc keep hkn torn w hbl (fun hne => (hap hne).not hF ho) hkb hlo hA hok).mono ?_
  rintro e w' ⟨he, hp, hk⟩
  exact ⟨he, hcl w' _ _ hk (good_rdev _ _) hp (fun _ h => h)⟩
theorem St.dev_new (h : St B w0 w As) (n : Nat) (h1 : 1 ≤ n) (h2 : n ≤ 65536) :
    Calls Try.prog 46 #[.int .i64 n] w fun e w' => ∃ a, e = .returned (.tuple #[ptr a, .int .i64 0]) ∧ St B w0 w' (As ++ [dev a (Dev.new n)]) := by
  refine (new_any n h1 h2 w).mono ?_
  rintro e w' ⟨a, he, hp, hb⟩
  exact ⟨a, he, h.add hb (good_dev _ _) hp (fun _ h => h)⟩
theorem St.rdev_new (h : St B w0 w As) (n : Nat) (h1 : 1 ≤ n) (h2 : n ≤ 65536) :
    Calls Try.prog 53 #[.int .i64 n] w fun e w' => ∃ a, e = .returned (.tuple #[ptr a, .int .i64 0]) ∧ St B w0 w' (As ++ [rdev a (Dev.new n)]) := by
  refine (newR_any n h1 h2 w).mono ?_
  rintro e w' ⟨a, he, hp, hb⟩
  exact ⟨a, he, h.add hb (good_rdev _ _) hp (fun _ h => h)⟩
theorem St.dev_size (h : St B w0 w As) (i : Nat) (hi : As[i]? = some (dev a d)) :
    Calls Try.prog 55 #[ptr a] w fun e w' => e = .returned (.int .i64 d.img.length) ∧ w' = w := by
  obtain ⟨F, hA, _⟩ := h.open i hi; exact lift_size w hA
theorem St.dev_out (h : St B w0 w As) (i : Nat) (hi : As[i]? = some (dev a d)) :
    Calls Try.prog 42 #[ptr a] w fun e w' => e = .returned (.bool d.out) ∧ w' = w := by
  obtain ⟨F, hA, _⟩ := h.open i hi; exact lift_out w hA
theorem St.dev_loose (h : St B w0 w As) (i : Nat) (hi : As[i]? = some (dev a d)) :
    Calls Try.prog 50 #[ptr a] w fun e w' => e = .returned (.int .i64 d.loose.length) ∧ w' = w := by
  obtain ⟨F, hA, _⟩ := h.open i hi; exact lift_loose w hA
theorem St.rdev_size (h : St B w0 w As) (i : Nat) (hi : As[i]? = some (rdev a d)) :
    Calls Try.prog 56 #[ptr a] w fun e w' => e = .returned (.int .i64 d.img.length) ∧ w' = w := by
  obtain ⟨F, hA, _⟩ := h.open i hi; exact sizeR_any w hA
theorem St.rdev_out (h : St B w0 w As) (i : Nat) (hi : As[i]? = some (rdev a d)) :
    Calls Try.prog 57 #[ptr a] w fun e w' => e = .returned (.bool d.out) ∧ w' = w := by
  obtain ⟨F, hA, _⟩ := h.open i hi; exact outR_any w hA
theorem St.rdev_loose (h : St B w0 w As) (i : Nat) (hi : As[i]? = some (rdev a d)) :
    Calls Try.prog 58 #[ptr a] w fun e w' => e = .returned (.int .i64 d.loose.length) ∧ w' = w := by
  obtain ⟨F, hA, _⟩ := h.open i hi; exact looseR_any w hA
/-- what is told is new -/
def Told (w w' : World) (v : Value) (l : List UInt8) : Prop := ∃ ao cap, v = .slice ao l.length cap ∧ l.length ≤ cap ∧ SB w' ao cap l ∧ WB w' ao l.length ∧ (∀ x, ao = some x → w.heap.size ≤ x.block ∧ x.block < w'.heap.size) ∧ Below w.heap.size w w'
theorem told_of {w' : World} {v : Value} {l : List UInt8} (h : Fresh w.heap.size w' v l) (hb : Below w.heap.size w w') : Told w w' v l := by
  obtain ⟨ao, cap, h1, h2, h3, h4, h5⟩ := h; exact ⟨ao, cap, h1, h2, h3, h4, h5, hb⟩
theorem St.dev_read (h : St B w0 w As) (i : Nat) (hi : As[i]? = some (dev a d)) (n : Int) :
    Calls Try.prog 43 #[ptr a, .int .i64 n] w fun e w' => ∃ v, e = .returned (.tuple #[v, .int .i64 (d.read n).2]) ∧ Told w w' v (d.read n).1 := by
  obtain ⟨F, hA, _⟩ := h.open i hi
  refine (lift_read n w hA).mono ?_
  rintro e w' ⟨v, he, hf, hb⟩; exact ⟨v, he, told_of hf hb⟩
theorem St.dev_image (h : St B w0 w As) (i : Nat) (hi : As[i]? = some (dev a d)) (n : Int) :
    Calls Try.prog 51 #[ptr a, .int .i64 n] w fun e w' => ∃ v, e = .returned (.tuple #[v, .int .i64 (d.image n).2]) ∧ Told w w' v (d.image n).1 := by
  obtain ⟨F, hA, _⟩ := h.open i hi
  refine (lift_image n w hA).mono ?_
  rintro e w' ⟨v, he, hf, hb⟩; exact ⟨v, he, told_of hf hb⟩
theorem St.rdev_read (h : St B w0 w As) (i : Nat) (hi : As[i]? = some (rdev a d)) (n : Int) (hlo : d.loose.length ≤ 1073741824) :
    Calls Try.prog 59 #[ptr a, .int .i64 n] w fun e w' => ∃ v, e = .returned (.tuple #[v, .int .i64 (d.read n).2]) ∧ Told w w' v (d.read n).1 := by
  obtain ⟨F, hA, _⟩ := h.open i hi
  refine (readR_any n w hA hlo).mono ?_
  rintro e w' ⟨v, he, hf, hb⟩; exact ⟨v, he, told_of hf hb⟩
theorem St.rdev_image (h : St B w0 w As) (i : Nat) (hi : As[i]? = some (rdev a d)) (n : Int) :
    Calls Try.prog 60 #[ptr a, .int .i64 n] w fun e w' => ∃ v, e = .returned (.tuple #[v, .int .i64 (d.image n).2]) ∧ Told w w' v (d.image n).1 := by
  obtain ⟨F, hA, _⟩ := h.open i hi
  refine (imageR_any n w hA).mono ?_
  rintro e w' ⟨v, he, hf, hb⟩; exact ⟨v, he, told_of hf hb⟩
end
end Go.Proofs.Ytlondopgibcikaa
