/- The log on a device that obeys, plainly. -/
import Derived.Test.YtlondopgibcikaaRows
import Derived.Test.YtlondopgibcikaaPlainCrc
import Derived.Test.YtlondopgibcikaaHeap
import Derived.Test.YtlondopgibcikaaDev
import Derived.Test.YtlondopgibcikaaLogP
import Derived.Test.YtlondopgibcikaaLogY
import Derived.Test.YtlondopgibcikaaLogB
import Derived.Test.YtlondopgibcikaaLogS
import Derived.Test.YtlondopgibcikaaLogT
import Derived.Test.YtlondopgibcikaaLogQ
import Derived.Test.YtlondopgibcikaaLaw06
namespace Go.Proofs.Ytlondopgibcikaa
open Go.RowKit Ent

/-- a device of n sectors without a fuse, that runs -/
structure Fine (d : Dev) (n : Nat) : Prop where
  ok : d.ok
  fuse : d.fuse = none
  run : d.out = false
  len : d.img.length = n
theorem Fine.new {n : Nat} (h1 : 1 ≤ n) (h2 : n ≤ 65536) : Fine (Dev.new n) n := ⟨Dev.new_ok h1 h2, rfl, rfl, by simp [Dev.new]⟩
theorem Fine.write {d : Dev} {n i : Nat} {b : List UInt8} (h : Fine d n) (hi : i < n) (hb : b.length = 64) : d.write (i : Int) b = (0, { d with loose := d.loose ++ [(i, b)] }) := by
  have hh : has d.img.length (i : Int) = true := by simp [has, h.len]; omega
  have ht : d.through = (true, d) := by unfold Dev.through; rw [h.fuse]
  unfold Dev.write
  rw [h.run, hh, ht]
  simp [hb, h.run]
theorem Fine.more {d : Dev} {n : Nat} (h : Fine d n) {ws : List (Nat × List UInt8)} (hw : ∀ x ∈ ws, x.1 < n ∧ x.2.length = 64) : Fine { d with loose := d.loose ++ ws } n :=
  ⟨⟨h.ok.s64, h.ok.len, h.ok.pos, fun x hx => by
    rcases List.mem_append.1 hx with hx | hx
    · exact h.ok.lo x hx
    · have := hw x hx; exact ⟨by rw [h.len]; exact this.1, this.2⟩⟩, h.fuse, h.run, h.len⟩
theorem Fine.flush {d : Dev} {n : Nat} (h : Fine d n) : d.flush = (0, { d with img := d.now, loose := [] }) := by
  have ht : d.through = (true, d) := by unfold Dev.through; rw [h.fuse]
  unfold Dev.flush
  rw [h.run, ht]
  simp [h.run]
theorem Fine.flushed {d : Dev} {n : Nat} (h : Fine d n) : Fine { d with img := d.now, loose := [] } n :=
  ⟨⟨h.ok.now64, by rw [Dev.now_len]; exact h.ok.len, by rw [Dev.now_len]; exact h.ok.pos, fun x hx => by cases hx⟩, h.fuse, h.run, by rw [← h.len]; exact Dev.now_len d⟩
theorem laid_append (l m : List (Nat × List UInt8)) (img : List (List UInt8)) : laidOver img (l ++ m) = laidOver (laidOver img l) m := by simp [laidOver]
theorem now_more (d : Dev) (ws : List (Nat × List UInt8)) : ({ d with loose := d.loose ++ ws } : Dev).now = laidOver d.now ws := laid_append _ _ _
/-- writes one behind the other -/
def runW (base : Nat) (g : Nat → List UInt8) (i k : Nat) : List (Nat × List UInt8) := (List.range' i k).map fun j => (base + j, g j)
theorem runW_at (base : Nat) (g : Nat → List UInt8) : ∀ (k i : Nat) (img : List (List UInt8)), base + i + k ≤ img.length → ∀ x, (laidOver img (runW base g i k))[x]? = if base + i ≤ x ∧ x < base + i + k then some (g (x - base)) else img[x]? := by
  intro k
  induction k with
  | zero => intro i img _ x; rw [if_neg (by omega)]; rfl
  | succ k ih =>
    intro i img hl x
    show (laidOver (img.set (base + i) (g i)) (runW base g (i + 1) k))[x]? = _
    rw [ih (i + 1) _ (by simp; omega), List.getElem?_set]
    by_cases h1 : base + i = x
    · rw [if_neg (by omega), if_pos h1, if_pos (by omega), if_pos (by omega)]
      congr 2; omega
    · by_cases h2 : base + (i + 1) ≤ x ∧ x < base + (i + 1) + k
      · rw [if_pos h2, if_pos (by omega)]
      · rw [if_neg h2, if_neg h1, if_neg (by omega)]
/-- a record's writes -/
def recWs (gen at_ base : Nat) (rec : List UInt8) : List (Nat × List UInt8) := runW (base + at_) (recSec gen at_ rec) 0 (needOf rec.length)
theorem recSec_len (gen at_ : Nat) (rec : List UInt8) (j : Nat) : (recSec gen at_ rec j).length = 64 := logSec_len (List.length_take_le _ _)
theorem runW_mem {base i k : Nat} {g : Nat → List UInt8} {x : Nat × List UInt8} (h : x ∈ runW base g i k) : ∃ j, i ≤ j ∧ j < i + k ∧ x = (base + j, g j) := by
  simp only [runW, List.mem_map, List.mem_range'_1] at h
  obtain ⟨j, hj, rfl⟩ := h
  exact ⟨j, hj.1, hj.2, rfl⟩
theorem recWs_fit {gen at_ base n : Nat} {rec : List UInt8} (h : base + at_ + needOf rec.length ≤ n) : ∀ x ∈ recWs gen at_ base rec, x.1 < n ∧ x.2.length = 64 := by
  intro x hx
  obtain ⟨j, _, hj, rfl⟩ := runW_mem hx
  exact ⟨by omega, recSec_len _ _ _ _⟩
theorem write_run {gen at_ base n : Nat} {rec : List UInt8} : ∀ (k i : Nat) (d : Dev), Fine d n → i + k = needOf rec.length → base + at_ + i + k ≤ n →
    writeLoop gen at_ base (needOf rec.length) i ((List.range' i k).map fun j => (rec.drop (49 * j)).take 49) d = (0, { d with loose := d.loose ++ runW (base + at_) (recSec gen at_ rec) i k }) := by
  intro k
  induction k with
  | zero => intro i d _ _ _; simp [writeLoop, runW]
  | succ k ih =>
    intro i d h hk hn
    have hw := h.write (i := base + at_ + i) (b := recSec gen at_ rec i) (by omega) (recSec_len _ _ _ _)
    rw [List.range'_succ, List.map_cons, writeLoop]
    unfold recSec at hw
    rw [hw]
    simp only [ne_eq, not_true_eq_false, if_false]
    rw [ih (i + 1) _ (h.more (ws := [(base + at_ + i, _)]) (by intro x hx; simp at hx; subst hx; exact ⟨by simp; omega, recSec_len gen at_ rec i⟩)) (by omega) (by omega)]
    simp [runW, List.range'_succ, recSec]
theorem parts_range (rec : List UInt8) : partsOf rec = (List.range' 0 (needOf rec.length)).map fun j => (rec.drop (49 * j)).take 49 := by
  rw [partsOf, List.range_eq_range']
theorem check_fine {d : Dev} {n f t g : Nat} (h : Fine d n) (h1 : f ≤ t) (h2 : t ≤ n) (h3 : 1 ≤ g) (h4 : g ≤ 2147483647) : checkOf d (f : Int) (t : Int) (g : Int) = 0 := by
  unfold checkOf
  rw [if_neg (by rw [h.len]; omega)]
theorem write_fine {d : Dev} {n f t g at_ : Nat} {rec : List UInt8} (h : Fine d n) (h1 : f ≤ t) (h2 : t ≤ n) (h3 : 1 ≤ g) (h4 : g ≤ 2147483647) (hr : rec.length ≤ 1048576) (hn : at_ + needOf rec.length ≤ t - f) :
    logWrite d (f : Int) (t : Int) (g : Int) (at_ : Int) rec = ((((at_ + needOf rec.length : Nat) : Int), 0), { d with loose := d.loose ++ recWs g at_ f rec }) := by
  unfold logWrite
  rw [check_fine h h1 h2 h3 h4, if_neg (by omega), if_neg (by omega), if_neg (by omega), if_neg (by omega)]
  simp only [Int.toNat_natCast]
  rw [parts_range, write_run (needOf rec.length) 0 d h (by omega) (by omega)]
  simp [recWs]
theorem write_full {d : Dev} {n f t g at_ : Nat} {rec : List UInt8} (h : Fine d n) (h1 : f ≤ t) (h2 : t ≤ n) (h3 : 1 ≤ g) (h4 : g ≤ 2147483647) (hr : rec.length ≤ 1048576) (ha : at_ ≤ t - f) (hn : t - f < at_ + needOf rec.length) :
    logWrite d (f : Int) (t : Int) (g : Int) (at_ : Int) rec = ((0, 10), d) := by
  unfold logWrite
  rw [check_fine h h1 h2 h3 h4, if_neg (by omega), if_neg (by omega), if_neg (by omega), if_pos (by omega)]
/-- what is blanked -/
theorem blank_run {n : Nat} : ∀ (k i : Nat) (d : Dev), Fine d n → i + k ≤ n → blankLoop d i k = (0, { d with loose := d.loose ++ runW 0 (fun _ => zr 64) i k }) := by
  intro k
  induction k with
  | zero => intro i d _ _; simp [blankLoop, runW]
  | succ k ih =>
    intro i d h hn
    rw [blankLoop, h.write (by omega) (by simp)]
    simp only [ne_eq, not_true_eq_false, if_false]
    rw [ih (i + 1) _ (h.more (ws := [(i, _)]) (by intro x hx; simp at hx; subst hx; exact ⟨by simp; omega, by simp⟩)) (by omega)]
    simp [runW, List.range'_succ]
theorem blank_fine {d : Dev} {n f t g : Nat} (h : Fine d n) (h1 : f ≤ t) (h2 : t ≤ n) (h3 : 1 ≤ g) (h4 : g ≤ 2147483647) :
    blankOf d (f : Int) (t : Int) (g : Int) = (0, { d with img := laidOver d.now (runW 0 (fun _ => zr 64) f (t - f)), loose := [] }) := by
  unfold blankOf
  rw [check_fine h h1 h2 h3 h4, if_neg (by omega)]
  simp only [Int.toNat_natCast]
  rw [show ((t : Int) - (f : Int)).toNat = t - f by omega, blank_run (t - f) f d h (by omega)]
  have hf := (h.more (ws := runW 0 (fun _ => zr 64) f (t - f)) (by intro x hx; obtain ⟨j, h5, h6, rfl⟩ := runW_mem hx; exact ⟨by simp; omega, by simp⟩)).flush
  simp only [ne_eq, not_true_eq_false, if_false]
  rw [hf, now_more]
theorem blank_new {n f t g : Nat} (h0 : 1 ≤ n) (h00 : n ≤ 65536) (h1 : f ≤ t) (h2 : t ≤ n) (h3 : 1 ≤ g) (h4 : g ≤ 2147483647) :
    blankOf (Dev.new n) (f : Int) (t : Int) (g : Int) = (0, Dev.new n) := by
  rw [blank_fine (Fine.new h0 h00) h1 h2 h3 h4]
  have : laidOver (Dev.new n).now (runW 0 (fun _ => zr 64) f (t - f)) = (Dev.new n).img := by
    apply List.ext_getElem?
    intro x
    rw [runW_at _ _ _ _ _ (by rw [Dev.now_len]; simp [Dev.new]; omega)]
    split
    · rw [show (Dev.new n).img = List.replicate n (zr 64) from rfl, List.getElem?_replicate, if_pos (by omega)]
    · rfl
  rw [this]
  rfl
/-- a sector that is read -/
theorem read_fine {d : Dev} {n i : Nat} (h : Fine d n) (hi : i < n) {s : List UInt8} (hs : d.now[i]? = some s) : d.read (i : Int) = (s, 0) := by
  have hh : has d.now.length (i : Int) = true := by rw [Dev.now_len, h.len]; simp [has]; omega
  unfold Dev.read secOf
  rw [h.run, hh]
  simp [hs]
def secAt (d : Dev) (base : Nat) : Nat → List UInt8 := fun i => (d.read ((base + i : Nat) : Int)).1
theorem has_fine {d : Dev} {n f t g : Nat} (h : Fine d n) (h1 : f ≤ t) (h2 : t ≤ n) (h3 : 1 ≤ g) (h4 : g ≤ 2147483647) {L : List (List UInt8)} {N : Nat} (hs : scanS (secAt d f) g (t - f) 0 [] 0 [] false = (L, N)) :
    hasB d (f : Int) (t : Int) (g : Int) (N : Int) L = true := by
  have : logScan d (f : Int) (t : Int) (g : Int) = (L, (N : Int), 0) := by
    unfold logScan
    rw [check_fine h h1 h2 h3 h4, if_neg (by omega), h.run]
    simp only [Int.toNat_natCast]
    rw [show ((t : Int) - (f : Int)).toNat = t - f by omega, scanLoop_S]
    unfold secAt at hs
    rw [hs]; rfl
  unfold hasB
  rw [this]
  simp [sameL]
end Go.Proofs.Ytlondopgibcikaa
