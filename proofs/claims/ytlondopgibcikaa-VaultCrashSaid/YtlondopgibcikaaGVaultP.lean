/- What is asked of a device, one behind the other, until its fuse has burned. (No program in sight.) What stands on a vault's device. (No program in sight.) A vault opened, moved, appended to, behind any crash. (No program in sight.) A vault behind any crash. (No program in sight.) A vault made of a new device. (No program in sight.) -/
import Derived.Test.YtlondopgibcikaaRows
import Derived.Test.YtlondopgibcikaaGDevice
import Derived.Test.YtlondopgibcikaaGLogA
import Derived.Test.YtlondopgibcikaaGLogC
import Derived.Test.YtlondopgibcikaaGVaultA
import Derived.Test.YtlondopgibcikaaGVaultC
import Derived.Test.YtlondopgibcikaaGVaultE
namespace Go.Proofs.Ytlondopgibcikaa
/-- one thing asked of a device: a write, or a flush -/
abbrev DOp := Option (Nat × List UInt8)
def Dev.op (d : Dev) : DOp → Int × Dev
  | some x => d.write (x.1 : Int) x.2
  | none => d.flush
def runD : List DOp → Dev → Int × Dev
  | [], d => (0, d)
  | o :: os, d => if (d.op o).1 = 0 then runD os (d.op o).2 else d.op o
def rawOp (d : Dev) : DOp → Dev
  | some x => { d with loose := d.loose ++ [x] }
  | none => { d with img := d.now, loose := [] }
def raw (os : List DOp) (d : Dev) : Dev := os.foldl rawOp d
def goodOps (n : Nat) (os : List DOp) : Prop := ∀ x, some x ∈ os → x.1 < n ∧ x.2.length = 64
/-- a device that runs, maybe with a fuse -/
structure Up (d : Dev) (n : Nat) : Prop where
  ok : d.ok
  run : d.out = false
  len : d.img.length = n
theorem goodOps.cons {n : Nat} {o : DOp} {os : List DOp} (h : goodOps n (o :: os)) : goodOps n os := fun x hx => h x (List.mem_cons_of_mem _ hx)
theorem goodOps.app {n : Nat} {a b : List DOp} (ha : goodOps n a) (hb : goodOps n b) : goodOps n (a ++ b) := fun x hx => (List.mem_append.1 hx).elim (ha x) (hb x)
theorem Up.raw {d : Dev} {n : Nat} (h : Up d n) {o : DOp} (hg : ∀ x, o = some x → x.1 < n ∧ x.2.length = 64) : Up (rawOp d o) n := by
  rcases o with _ | x
  · exact ⟨⟨h.ok.now64, by show d.now.length ≤ _; rw [Dev.now_len]; exact h.ok.len, by show 1 ≤ d.now.length; rw [Dev.now_len]; exact h.ok.pos, fun x hx => by cases hx⟩, h.run, by show d.now.length = n; rw [Dev.now_len]; exact h.len⟩
  · refine ⟨⟨h.ok.s64, h.ok.len, h.ok.pos, fun y hy => ?_⟩, h.run, h.len⟩
    rcases List.mem_append.1 hy with hy | hy
    · exact h.ok.lo y hy
    · simp at hy; subst hy
      exact ⟨by show y.1 < d.img.length; rw [h.len]; exact (hg _ rfl).1, (hg _ rfl).2⟩
theorem Up.fuse {d : Dev} {n : Nat} (h : Up d n) (f : Option Nat) : Up { d with fuse := f } n := ⟨⟨h.ok.s64, h.ok.len, h.ok.pos, h.ok.lo⟩, h.run, h.len⟩
theorem op_up {d : Dev} {n : Nat} (h : Up d n) {o : DOp} (hg : ∀ x, o = some x → x.1 < n ∧ x.2.length = 64) :
    (∃ f, d.op o = (0, { rawOp d o with fuse := f }) ∧ (d.fuse = none → f = none)) ∨ (d.fuse = some 0 ∧ d.op o = (22, { d with out := true })) := by
  have hr := h.run
  rcases o with _ | x
  · unfold Dev.op Dev.flush
    simp only [hr, Bool.false_eq_true, if_false]
    unfold Dev.through
    rcases hf : d.fuse with _ | _ | k
    · exact .inl ⟨none, by simp [rawOp, ← hf], fun _ => rfl⟩
    · exact .inr ⟨rfl, by simp⟩
    · exact .inl ⟨some k, by simp [rawOp], fun h => by cases h⟩
  · have hx := hg x rfl
    have hh : has d.img.length (x.1 : Int) = true := by simp [has, h.len]; omega
    unfold Dev.op Dev.write
    simp only [hr, Bool.false_eq_true, if_false, hh, hx.2, ne_eq, not_true_eq_false]
    unfold Dev.through
    rcases hf : d.fuse with _ | _ | k
    · exact .inl ⟨none, by simp [rawOp, ← hf], fun _ => rfl⟩
    · exact .inr ⟨rfl, by simp⟩
    · exact .inl ⟨some k, by simp [rawOp], fun h => by cases h⟩
theorem rawOp_fuse (d : Dev) (f : Option Nat) (o : DOp) : rawOp { d with fuse := f } o = { rawOp d o with fuse := f } := by cases o <;> rfl
theorem raw_fuse (f : Option Nat) : ∀ (os : List DOp) (d : Dev), raw os { d with fuse := f } = { raw os d with fuse := f }
  | [], d => rfl
  | o :: os, d => by
    show raw os (rawOp { d with fuse := f } o) = { raw os (rawOp d o) with fuse := f }
    rw [rawOp_fuse, raw_fuse f os]
/-- all is done, or the device is out behind the first k -/
theorem run_up {n : Nat} : ∀ (os : List DOp) (d : Dev), Up d n → goodOps n os →
    (∃ f, runD os d = (0, { raw os d with fuse := f }) ∧ (d.fuse = none → f = none)) ∨
    (d.fuse ≠ none ∧ ∃ k d', k < os.length ∧ runD os d = (22, d') ∧ d'.img = (raw (os.take k) d).img ∧ d'.loose = (raw (os.take k) d).loose ∧ d'.ok ∧ d'.img.length = n)
  | [], d, _, _ => .inl ⟨d.fuse, rfl, id⟩
  | o :: os, d, h, hg => by
    have hgo : ∀ x, o = some x → x.1 < n ∧ x.2.length = 64 := fun x hx => hg x (by rw [hx]; simp)
    rcases op_up h hgo with ⟨f, he, hf⟩ | ⟨hf, he⟩
    · have h1 : Up { rawOp d o with fuse := f } n := (h.raw hgo).fuse f
      unfold runD
      rw [he]
      simp only [if_true]
      rcases run_up os _ h1 hg.cons with ⟨f2, he2, hf2⟩ | ⟨hf2, k, d', hk, he2, hi, hl, hok, hn⟩
      · refine .inl ⟨f2, ?_, fun h0 => hf2 (hf h0)⟩
        rw [he2, raw_fuse]
        rfl
      · refine .inr ⟨fun h0 => hf2 (hf h0), k + 1, d', by simp; omega, he2, ?_, ?_, hok, hn⟩
        · rw [hi, raw_fuse]; rfl
        · rw [hl, raw_fuse]; rfl
    · refine .inr ⟨by rw [hf]; simp, 0, { d with out := true }, by simp, ?_, rfl, rfl, ⟨h.ok.s64, h.ok.len, h.ok.pos, h.ok.lo⟩, h.len⟩
      unfold runD
      rw [he]
      rfl
theorem run_app : ∀ (a b : List DOp) (d : Dev), runD (a ++ b) d = if (runD a d).1 = 0 then runD b (runD a d).2 else runD a d
  | [], b, d => by simp [runD]
  | o :: a, b, d => by
    show (if (d.op o).1 = 0 then runD (a ++ b) (d.op o).2 else d.op o) = if (if (d.op o).1 = 0 then runD a (d.op o).2 else d.op o).1 = 0 then runD b (if (d.op o).1 = 0 then runD a (d.op o).2 else d.op o).2 else (if (d.op o).1 = 0 then runD a (d.op o).2 else d.op o)
    by_cases h : (d.op o).1 = 0
    · rw [if_pos h, if_pos h, run_app a b]
    · rw [if_neg h, if_neg h, if_neg h]
theorem run_one (o : DOp) (d : Dev) : runD [o] d = d.op o := by
  show (if (d.op o).1 = 0 then ((0 : Int), (d.op o).2) else d.op o) = _
  by_cases h : (d.op o).1 = 0
  · rw [if_pos h]; exact Prod.ext h.symm rfl
  · rw [if_neg h]
theorem op_len (d : Dev) (o : DOp) : (d.op o).2.img.length = d.img.length := by
  rcases o with _ | x
  · exact (flush_loose d).2
  · exact (write_loose d _ _).2
theorem run_len : ∀ (os : List DOp) (d : Dev), (runD os d).2.img.length = d.img.length
  | [], _ => rfl
  | o :: os, d => by
    unfold runD
    split
    · rw [run_len os, op_len]
    · exact op_len d o
/-! ### what is asked -/
def blankOps (i m : Nat) : List DOp := (List.range' i m).map fun j => some (j, zr 64)
theorem blank_runD : ∀ (m : Nat) (d : Dev) (i : Nat), blankLoop d i m = runD (blankOps i m) d
  | 0, d, i => rfl
  | m + 1, d, i => by
    rw [show blankOps i (m + 1) = some (i, zr 64) :: blankOps (i + 1) m by simp [blankOps, List.range'_succ]]
    rw [blankLoop, runD]
    show _ = if (d.write (i : Int) (zr 64)).1 = 0 then runD _ (d.write (i : Int) (zr 64)).2 else d.write (i : Int) (zr 64)
    by_cases h : (d.write (i : Int) (zr 64)).1 = 0
    · rw [if_neg (by rw [h]; simp), if_pos h, blank_runD m]
    · rw [if_pos h, if_neg h]
def recOps (gen at_ base : Nat) (rec : List UInt8) : List DOp := (recWs gen at_ base rec).map some
theorem write_runD {gen at_ base : Nat} {rec : List UInt8} : ∀ (k i : Nat) (d : Dev),
    writeLoop gen at_ base (needOf rec.length) i ((List.range' i k).map fun j => (rec.drop (49 * j)).take 49) d = runD ((runW (base + at_) (recSec gen at_ rec) i k).map some) d
  | 0, i, d => rfl
  | k + 1, i, d => by
    rw [List.range'_succ, show runW (base + at_) (recSec gen at_ rec) i (k + 1) = (base + at_ + i, recSec gen at_ rec i) :: runW (base + at_) (recSec gen at_ rec) (i + 1) k by simp [runW, List.range'_succ]]
    rw [List.map_cons, List.map_cons, writeLoop, runD]
    show (if (d.write ((base + at_ + i : Nat) : Int) (recSec gen at_ rec i)).1 ≠ 0 then d.write ((base + at_ + i : Nat) : Int) (recSec gen at_ rec i) else writeLoop gen at_ base (needOf rec.length) (i + 1) _ (d.write ((base + at_ + i : Nat) : Int) (recSec gen at_ rec i)).2) = if (d.write ((base + at_ + i : Nat) : Int) (recSec gen at_ rec i)).1 = 0 then runD _ (d.write ((base + at_ + i : Nat) : Int) (recSec gen at_ rec i)).2 else d.write ((base + at_ + i : Nat) : Int) (recSec gen at_ rec i)
    by_cases h : (d.write ((base + at_ + i : Nat) : Int) (recSec gen at_ rec i)).1 = 0
    · rw [if_neg (by rw [h]; simp), if_pos h, write_runD k]
    · rw [if_pos h, if_neg h]
theorem check_len {d : Dev} {f t g : Nat} (h1 : f ≤ t) (h2 : t ≤ d.img.length) (h3 : 1 ≤ g) (h4 : g ≤ 2147483647) : checkOf d (f : Int) (t : Int) (g : Int) = 0 := by
  unfold checkOf
  rw [if_neg (by omega)]
theorem blankOf_runD {d : Dev} {f t g : Nat} (h1 : f ≤ t) (h2 : t ≤ d.img.length) (h3 : 1 ≤ g) (h4 : g ≤ 2147483647) : blankOf d (f : Int) (t : Int) (g : Int) = runD (blankOps f (t - f) ++ [none]) d := by
  unfold blankOf
  rw [check_len h1 h2 h3 h4, if_neg (by simp), run_app, run_one, ← blank_runD]
  rw [show (f : Int).toNat = f by omega, show ((t : Int) - (f : Int)).toNat = t - f by omega]
  by_cases h : (blankLoop d f (t - f)).1 = 0
  · rw [if_neg (by rw [h]; simp), if_pos h]; rfl
  · rw [if_pos h, if_neg h]
theorem logWrite_runD {d : Dev} {f t g p : Nat} {rec : List UInt8} (h1 : f ≤ t) (h2 : t ≤ d.img.length) (h3 : 1 ≤ g) (h4 : g ≤ 2147483647) (hr : rec.length ≤ 1048576) (hn : p + needOf rec.length ≤ t - f) :
    (logWrite d (f : Int) (t : Int) (g : Int) (p : Int) rec).1.2 = (runD (recOps g p f rec) d).1 ∧ (logWrite d (f : Int) (t : Int) (g : Int) (p : Int) rec).2 = (runD (recOps g p f rec) d).2 ∧ ((runD (recOps g p f rec) d).1 = 0 → (logWrite d (f : Int) (t : Int) (g : Int) (p : Int) rec).1.1 = ((p + needOf rec.length : Nat) : Int)) := by
  unfold logWrite recOps recWs
  rw [check_len h1 h2 h3 h4, if_neg (by simp), if_neg (by omega), if_neg (by omega), if_neg (by omega), parts_range]
  rw [show (g : Int).toNat = g by omega, show (p : Int).toNat = p by omega, show (f : Int).toNat = f by omega, write_runD]
  generalize runD ((runW (f + p) (recSec g p rec) 0 (needOf rec.length)).map some) d = r
  by_cases h : r.1 = 0
  · rw [if_neg (by rw [h]; simp)]
    exact ⟨h.symm, rfl, fun _ => by push_cast; rfl⟩
  · rw [if_pos h]
    exact ⟨rfl, rfl, fun h0 => absurd h0 h⟩
def recsOps (g f : Nat) : Nat → List (List UInt8) → List DOp
  | _, [] => []
  | p, r :: L => recOps g p f r ++ recsOps g f (p + needOf r.length) L
theorem recsD_runD {f t g n : Nat} (h1 : f ≤ t) (h2 : t ≤ n) (h3 : 1 ≤ g) (h4 : g ≤ 2147483647) : ∀ (L : List (List UInt8)) (p : Nat) (d : Dev), d.img.length = n → (∀ r ∈ L, r.length ≤ 1048576) → p + needsOf L ≤ t - f →
    (recsD (f : Int) (t : Int) (g : Int) L (p : Int) d).1 = (runD (recsOps g f p L) d).1 ∧ (recsD (f : Int) (t : Int) (g : Int) L (p : Int) d).2.1 = (runD (recsOps g f p L) d).2 ∧ ((runD (recsOps g f p L) d).1 = 0 → (recsD (f : Int) (t : Int) (g : Int) L (p : Int) d).2.2 = ((p + needsOf L : Nat) : Int))
  | [], p, d, _, _, _ => ⟨rfl, rfl, fun _ => by simp [recsD, needsOf]⟩
  | r :: L, p, d, hd, hr, hn => by
    have hr0 := hr r (by simp)
    have hn0 : p + (needOf r.length + needsOf L) ≤ t - f := hn
    obtain ⟨e1, e2, e3⟩ := logWrite_runD (d := d) (f := f) (t := t) (g := g) (p := p) (rec := r) h1 (by omega) h3 h4 hr0 (by omega)
    unfold recsD
    rw [show recsOps g f p (r :: L) = recOps g p f r ++ recsOps g f (p + needOf r.length) L from rfl, run_app, e1]
    by_cases h : (runD (recOps g p f r) d).1 = 0
    · rw [if_pos h, if_pos h, e2, e3 h]
      have := recsD_runD h1 h2 h3 h4 L (p + needOf r.length) (runD (recOps g p f r) d).2 (by rw [run_len]; exact hd) (fun x hx => hr x (by simp [hx])) (by omega)
      refine ⟨this.1, this.2.1, fun h0 => ?_⟩
      rw [this.2.2 h0]
      simp [needsOf]; omega
    · rw [if_neg h, if_neg h, e2]
      exact ⟨rfl, rfl, fun h0 => absurd h0 h⟩
def supOps (n gen : Nat) : List DOp := [some (gen % 2, supSec gen n), none]
theorem counts_runD (d : Dev) (gen : Nat) : countsD d gen = runD (supOps d.img.length gen) d := by
  unfold countsD andD supOps runD
  show _ = if (d.write ((gen % 2 : Nat) : Int) (supSec gen d.img.length)).1 = 0 then runD [none] (d.write ((gen % 2 : Nat) : Int) (supSec gen d.img.length)).2 else _
  rw [run_one]
  rfl
/-- all that moves asks -/
def moveOps (n gen : Nat) (L : List (List UInt8)) : List DOp := (blankOps (fromOf n gen) (halfOf n) ++ [none]) ++ (recsOps gen (fromOf n gen) 0 L ++ ([none] ++ supOps n gen))
def moves4 (b : Int × Dev) (R : Dev → Int × (Dev × Int)) (C : Dev → Int × Dev) : Int × (Dev × Int) :=
  if b.1 = 0 then (if (R b.2).1 = 0 then (if (R b.2).2.1.flush.1 = 0 then (if (C (R b.2).2.1.flush.2).1 = 0 then (0, ((C (R b.2).2.1.flush.2).2, (R b.2).2.2)) else ((C (R b.2).2.1.flush.2).1, ((C (R b.2).2.1.flush.2).2, (R b.2).2.2))) else ((R b.2).2.1.flush.1, ((R b.2).2.1.flush.2, (R b.2).2.2))) else R b.2) else (b.1, (b.2, 0))
theorem moves_four (d : Dev) (gen : Nat) (L : List (List UInt8)) : movesD d gen L = moves4 (blankOf d (fromOf d.img.length gen : Nat) (fromOf d.img.length gen + halfOf d.img.length : Nat) (gen : Nat)) (fun e => recsD (fromOf d.img.length gen : Nat) (fromOf d.img.length gen + halfOf d.img.length : Nat) (gen : Nat) L 0 e) (fun e => countsD e gen) := rfl
theorem moves_runD {d : Dev} {n gen : Nat} {L : List (List UInt8)} (hd : d.img.length = n) (hn : 8 ≤ n) (h3 : 1 ≤ gen) (h4 : gen ≤ 2147483647) (hr : ∀ r ∈ L, r.length ≤ 1048576) (hl : needsOf L ≤ halfOf n) :
    (movesD d gen L).1 = (runD (moveOps n gen L) d).1 ∧ (movesD d gen L).2.1 = (runD (moveOps n gen L) d).2 ∧ ((runD (moveOps n gen L) d).1 = 0 → (movesD d gen L).2.2 = (needsOf L : Nat)) := by
  have hfr := fromOf_le n gen (by omega)
  rw [moves_four, hd]
  have hb : blankOf d (fromOf n gen : Nat) (fromOf n gen + halfOf n : Nat) (gen : Nat) = runD (blankOps (fromOf n gen) (halfOf n) ++ [none]) d := by
    have := blankOf_runD (d := d) (f := fromOf n gen) (t := fromOf n gen + halfOf n) (g := gen) (by omega) (by omega) h3 h4
    rw [this, Nat.add_sub_cancel_left]
  rw [hb]
  unfold moveOps
  generalize blankOps (fromOf n gen) (halfOf n) ++ [none] = bo
  rw [run_app]
  have hl1 : (runD bo d).2.img.length = n := by rw [run_len]; exact hd
  generalize runD bo d = b at hl1
  unfold moves4
  simp only []
  by_cases h : b.1 = 0
  · rw [if_pos h, if_pos h]
    obtain ⟨e1, e2, e3⟩ := recsD_runD (f := fromOf n gen) (t := fromOf n gen + halfOf n) (g := gen) (n := n) (by omega) (by omega) h3 h4 L 0 b.2 hl1 hr (by omega)
    rw [show ((0 : Nat) : Int) = 0 from rfl] at e1 e2 e3
    rw [run_app]
    have hl2 : (runD (recsOps gen (fromOf n gen) 0 L) b.2).2.img.length = n := by rw [run_len]; exact hl1
    generalize runD (recsOps gen (fromOf n gen) 0 L) b.2 = x at e1 e2 e3 hl2
    generalize recsD (fromOf n gen : Nat) (fromOf n gen + halfOf n : Nat) (gen : Nat) L 0 b.2 = r at e1 e2 e3
    rw [e1]
    by_cases h2 : x.1 = 0
    · have e3 := e3 h2
      rw [Nat.zero_add] at e3
      rw [if_pos h2, if_pos h2, e2, e3, run_app, run_one, show x.2.op none = x.2.flush from rfl]
      have hl3 : x.2.flush.2.img.length = n := by rw [(flush_loose x.2).2]; exact hl2
      generalize x.2.flush = y at hl3
      by_cases h4 : y.1 = 0
      · rw [if_pos h4, if_pos h4, counts_runD, hl3]
        generalize runD (supOps n gen) y.2 = z
        by_cases h5 : z.1 = 0
        · rw [if_pos h5]; exact ⟨h5.symm, rfl, fun _ => rfl⟩
        · rw [if_neg h5]; exact ⟨rfl, rfl, fun h0 => absurd h0 h5⟩
      · rw [if_neg h4, if_neg h4]
        exact ⟨rfl, rfl, fun h0 => absurd h0 h4⟩
    · rw [if_neg h2, if_neg h2]
      exact ⟨e1, e2, fun h0 => absurd h0 h2⟩
  · rw [if_neg h, if_neg h]
    exact ⟨rfl, rfl, fun h0 => absurd h0 h⟩
/-- all that Append asks -/
def appOps (n gen next : Nat) (rec : List UInt8) : List DOp := recOps gen next (fromOf n gen) rec ++ [none]
def append2 (x : (Int × Int) × Dev) : Int × (Dev × Int) := if x.1.2 = 0 then (if x.2.flush.1 = 0 then (0, (x.2.flush.2, x.1.1)) else (x.2.flush.1, (x.2.flush.2, x.1.1))) else (x.1.2, (x.2, x.1.1))
theorem append_two (d : Dev) (gen : Nat) (next : Int) (rec : List UInt8) : appendD d gen next rec = append2 (logWrite d (fromOf d.img.length gen : Nat) (fromOf d.img.length gen + halfOf d.img.length : Nat) (gen : Nat) next rec) := rfl
theorem append_runD {d : Dev} {n gen next : Nat} {rec : List UInt8} (hd : d.img.length = n) (hn : 8 ≤ n) (h3 : 1 ≤ gen) (h4 : gen ≤ 2147483647) (hr : rec.length ≤ 1048576) (hl : next + needOf rec.length ≤ halfOf n) :
    (appendD d gen (next : Int) rec).1 = (runD (appOps n gen next rec) d).1 ∧ (appendD d gen (next : Int) rec).2.1 = (runD (appOps n gen next rec) d).2 ∧ ((runD (appOps n gen next rec) d).1 = 0 → (appendD d gen (next : Int) rec).2.2 = ((next + needOf rec.length : Nat) : Int)) := by
  have hfr := fromOf_le n gen (by omega)
  rw [append_two, hd]
  obtain ⟨e1, e2, e3⟩ := logWrite_runD (d := d) (f := fromOf n gen) (t := fromOf n gen + halfOf n) (g := gen) (p := next) (rec := rec) (by omega) (by omega) h3 h4 hr (by omega)
  unfold appOps
  rw [run_app]
  generalize runD (recOps gen next (fromOf n gen) rec) d = x at e1 e2 e3
  generalize logWrite d (fromOf n gen : Nat) (fromOf n gen + halfOf n : Nat) (gen : Nat) (next : Int) rec = y at e1 e2 e3
  unfold append2
  rw [e1]
  by_cases h : x.1 = 0
  · rw [if_pos h, if_pos h, e2, e3 h, run_one, show x.2.op none = x.2.flush from rfl]
    generalize x.2.flush = z
    by_cases h5 : z.1 = 0
    · rw [if_pos h5]; exact ⟨h5.symm, rfl, fun _ => rfl⟩
    · rw [if_neg h5]; exact ⟨rfl, rfl, fun h0 => absurd h0 h5⟩
  · rw [if_neg h, if_neg h]
    exact ⟨rfl, e2, fun h0 => absurd h0 h⟩
end Go.Proofs.Ytlondopgibcikaa
namespace Go.Proofs.Ytlondopgibcikaa
theorem scanS_same {S T : Nat → List UInt8} {gen : Nat} : ∀ (m i : Nat) (out : List (List UInt8)) (next : Nat) (rec : List UInt8) (b : Bool), (∀ j, i ≤ j → j < i + m → S j = T j) → scanS S gen m i out next rec b = scanS T gen m i out next rec b
  | 0, _, _, _, _, _, _ => rfl
  | m + 1, i, out, next, rec, b, h => by
    rw [scanS, scanS, h i (Nat.le_refl _) (by omega)]
    rcases rightOf (T i) gen i with _ | ⟨k, p⟩
    · rfl
    · simp only
      split
      · rfl
      · split
        · exact scanS_same m (i + 1) _ _ _ _ fun j h1 h2 => h j (by omega) (by omega)
        · exact scanS_same m (i + 1) _ _ _ _ fun j h1 h2 => h j (by omega) (by omega)
theorem be4_num {n : Nat} (h : n < 4294967296) : numOf (be4 n) = n := by
  unfold numOf be4
  simp
  omega
theorem sup_take (g n : Nat) : (supSec g n).take 32 = supHalf g n := by rw [supSec, List.take_left' (supHalf_len g n)]
theorem sup_drop (g n : Nat) : (supSec g n).drop 32 = supHalf g n := by rw [supSec, List.drop_left' (supHalf_len g n)]
theorem sup_genOf {g n : Nat} (h : g < 4294967296) : genOf (supSec g n) = g := by
  have : ((supSec g n).drop 4).take 4 = be4 g := by
    unfold supSec supHalf supBody
    simp [be4]
  unfold genOf
  rw [this, be4_num h]
theorem sup_is {g n : Nat} (h1 : 1 ≤ g) (h2 : g ≤ 2147483647) : isSup (supSec g n) n = true := by
  unfold isSup
  rw [sup_genOf (by omega), sup_take, sup_drop]
  simp [sameB, h1, h2]
theorem sup_only {s : List UInt8} {n : Nat} (h : isSup s n = true) : s = supSec (genOf s) n := by
  unfold isSup sameB at h
  simp only [Bool.and_eq_true, decide_eq_true_eq] at h
  obtain ⟨_, h2, h3⟩ := h
  rw [supSec, ← h2]
  conv => rhs; rhs; rw [h3]
  exact (List.take_append_drop 32 s).symm
theorem half_no (g n : Nat) : supHalf g n ≠ zr 32 := by
  intro h
  have := congrArg (fun l => l[12]?) h
  simp [supHalf, supBody, be4, zr] at this
/-- what stands in the sector of the other generation, if writes were torn: no superblock of a later generation -/
theorem oth_less {g n T : Nat} {O : List UInt8} (hg : g ≤ 2147483646) (hO : O.length = 64) (h : O = zr 64 ∨ 2 ≤ g ∧ O = supSec (g - 1) n) (hne : (supSec (g + 1) n).take T ++ O.drop T ≠ supSec (g + 1) n) (hT : T ≤ 64)
    (hs : isSup ((supSec (g + 1) n).take T ++ O.drop T) n = true) : genOf ((supSec (g + 1) n).take T ++ O.drop T) < g := by
  have hN := supSec_len (g + 1) n
  obtain ⟨s, hsd⟩ : ∃ s, (supSec (g + 1) n).take T ++ O.drop T = s := ⟨_, rfl⟩
  rw [hsd] at hs hne ⊢
  have ho := sup_only hs
  by_cases hT2 : 32 < T
  · exfalso
    have e1 : s.take 32 = supHalf (g + 1) n := by
      rw [← hsd, List.take_append_of_le_length (by rw [List.length_take, hN]; omega), List.take_take, Nat.min_eq_left (by omega), sup_take]
    have e2 : s.take 32 = supHalf (genOf s) n := by rw [ho, sup_take, ← ho]
    apply hne
    rw [ho, supSec, supSec, ← e2, e1]
  · have e1 : s.drop 32 = O.drop 32 := by
      rw [← hsd, List.drop_append, List.drop_of_length_le (by rw [List.length_take, hN]; omega), List.length_take, hN, Nat.min_eq_left (by omega), List.nil_append, List.drop_drop]
      congr 1; omega
    have e2 : s.drop 32 = supHalf (genOf s) n := by rw [ho, sup_drop, ← ho]
    rcases h with rfl | ⟨h2, rfl⟩
    · exfalso
      rw [e1] at e2
      exact half_no (genOf s) n (by rw [← e2]; rfl)
    · rw [e1, sup_drop] at e2
      have e3 : s = supSec (g - 1) n := by rw [ho, supSec, supSec, ← e2]
      rw [e3, sup_genOf (by omega)]; omega
/-- what lies at a place of an image -/
def atI (img : List (List UInt8)) (f : Nat) : Nat → List UInt8 := fun i => img.getD (f + i) []
/-- the image of a vault of that generation, with these records -/
structure Weak (img : List (List UInt8)) (n g : Nat) (L : List (List UInt8)) : Prop where
  len : img.length = n
  s64 : S64 img
  g1 : 1 ≤ g
  sup : img[g % 2]? = some (supSec g n)
  oth : ∃ T O, img[(g + 1) % 2]? = some ((supSec (g + 1) n).take T ++ O.drop T) ∧ O.length = 64 ∧ T ≤ 64 ∧ (O = zr 64 ∨ 2 ≤ g ∧ O = supSec (g - 1) n) ∧ (supSec (g + 1) n).take T ++ O.drop T ≠ supSec (g + 1) n
  scan : scanS (atI img (fromOf n g)) g (halfOf n) 0 [] 0 [] false = (L, needsOf L)
  room : needsOf L ≤ halfOf n
/-- .. and noughts behind them -/
structure Clean (img : List (List UInt8)) (n g : Nat) (L : List (List UInt8)) : Prop where
  weak : Weak img n g L
  lies : LiesIn (atI img (fromOf n g)) g 0 L
  rest : ∀ i, needsOf L ≤ i → i < halfOf n → atI img (fromOf n g) i = zr 64
theorem from_two (n g : Nat) : 2 ≤ fromOf n g := by unfold fromOf; omega
theorem from_apart (n g x : Nat) (h : fromOf n g ≤ x ∧ x < fromOf n g + halfOf n) : ¬ (fromOf n (g + 1) ≤ x ∧ x < fromOf n (g + 1) + halfOf n) := by
  unfold fromOf at h ⊢
  rcases Nat.mod_two_eq_zero_or_one g with h1 | h1
  · rw [h1] at h; rw [show (g + 1) % 2 = 1 by omega]; simp at h ⊢; omega
  · rw [h1] at h; rw [show (g + 1) % 2 = 0 by omega]; simp at h ⊢; omega
theorem atI_eq {img img' : List (List UInt8)} {f i : Nat} (h : img'[f + i]? = img[f + i]?) : atI img' f i = atI img f i := by
  unfold atI
  rw [List.getD_eq_getElem?_getD, List.getD_eq_getElem?_getD, h]
/-- off the other generation's area nothing counts -/
theorem Weak.off {img img' : List (List UInt8)} {n g : Nat} {L : List (List UInt8)} (h : Weak img n g L) (hl : img'.length = n) (h64 : S64 img') (hoff : ∀ x, ¬ (fromOf n (g + 1) ≤ x ∧ x < fromOf n (g + 1) + halfOf n) → img'[x]? = img[x]?) : Weak img' n g L := by
  have h2 := from_two n (g + 1)
  refine ⟨hl, h64, h.g1, ?_, ?_, ?_, h.room⟩
  · rw [hoff _ (by omega)]; exact h.sup
  · rw [hoff _ (by omega)]; exact h.oth
  · rw [← h.scan]
    exact scanS_same _ _ _ _ _ _ fun j _ hj => atI_eq (hoff _ (from_apart n g _ ⟨by omega, by omega⟩))
theorem Clean.off {img img' : List (List UInt8)} {n g : Nat} {L : List (List UInt8)} (h : Clean img n g L) (hl : img'.length = n) (h64 : S64 img') (hoff : ∀ x, ¬ (fromOf n (g + 1) ≤ x ∧ x < fromOf n (g + 1) + halfOf n) → img'[x]? = img[x]?) : Clean img' n g L := by
  have hat : ∀ j, j < halfOf n → atI img' (fromOf n g) j = atI img (fromOf n g) j := fun j hj => atI_eq (hoff _ (from_apart n g _ ⟨by omega, by omega⟩))
  have hr := h.weak.room
  exact ⟨h.weak.off hl h64 hoff, h.lies.same fun i _ hi => hat i (by omega), fun i h1 h2 => by rw [hat i h2]; exact h.rest i h1 h2⟩
theorem Clean.of {img : List (List UInt8)} {n g : Nat} {L : List (List UInt8)} (hl : img.length = n) (h64 : S64 img) (g1 : 1 ≤ g) (sup : img[g % 2]? = some (supSec g n)) (oth : ∃ T O, img[(g + 1) % 2]? = some ((supSec (g + 1) n).take T ++ O.drop T) ∧ O.length = 64 ∧ T ≤ 64 ∧ (O = zr 64 ∨ 2 ≤ g ∧ O = supSec (g - 1) n) ∧ (supSec (g + 1) n).take T ++ O.drop T ≠ supSec (g + 1) n)
    (room : needsOf L ≤ halfOf n) (lies : LiesIn (atI img (fromOf n g)) g 0 L) (rest : ∀ i, needsOf L ≤ i → i < halfOf n → atI img (fromOf n g) i = zr 64) : Clean img n g L :=
  ⟨⟨hl, h64, g1, sup, oth, scan_all lies room fun hlt => by rw [rest _ (Nat.le_refl _) hlt]; exact wrong_zr _ _, room⟩, lies, rest⟩
end Go.Proofs.Ytlondopgibcikaa
namespace Go.Proofs.Ytlondopgibcikaa
theorem keptOf_mem {keep : List Bool} {y : Nat × List UInt8} : ∀ {l : List (Nat × List UInt8)} {k : Nat}, y ∈ keptOf keep k l → y ∈ l
  | [], _, h => h
  | x :: l, k, h => by
    unfold keptOf at h
    split at h
    · rcases List.mem_cons.1 h with rfl | h
      · simp
      · exact List.mem_cons_of_mem _ (keptOf_mem h)
    · exact List.mem_cons_of_mem _ (keptOf_mem h)
theorem lastOf_mem {keep : List Bool} {y : Nat × List UInt8} : ∀ {l : List (Nat × List UInt8)} {k : Nat}, lastOf keep k l = some y → y ∈ l
  | [], _, h => by cases h
  | x :: l, k, h => by
    unfold lastOf at h
    split at h
    · rename_i z hz
      injection h with h; subst h
      exact List.mem_cons_of_mem _ (lastOf_mem hz)
    · split at h
      · cases h
      · injection h with h; subst h; simp
theorem laid_off {x : Nat} : ∀ {l : List (Nat × List UInt8)} {img : List (List UInt8)}, (∀ y ∈ l, y.1 ≠ x) → (laidOver img l)[x]? = img[x]?
  | [], _, _ => rfl
  | y :: l, img, h => by
    show (laidOver (img.set y.1 y.2) l)[x]? = _
    rw [laid_off fun z hz => h z (List.mem_cons_of_mem _ hz), List.getElem?_set_ne (h y (by simp))]
/-- what a crash leaves -/
def crI (e : Dev) (keep : List Bool) (t : Nat) : List (List UInt8) := tornIn (laidOver e.img (keptOf keep 0 e.loose)) (lastOf keep 0 e.loose) t
theorem crash_eq (e : Dev) (keep : List Bool) {t : Nat} (ht : t < 64) : e.crash keep (t : Int) = (0, { img := crI e keep t, loose := [], fuse := none, out := false }) := by
  unfold Dev.crash crI
  rw [if_neg (by omega)]
  simp
theorem crI_len (e : Dev) (keep : List Bool) (t : Nat) : (crI e keep t).length = e.img.length := by
  unfold crI; rw [tornIn_len, laid_len]
theorem crI_off (e : Dev) (keep : List Bool) (t : Nat) {x : Nat} (h : ∀ y ∈ e.loose, y.1 ≠ x) : (crI e keep t)[x]? = e.img[x]? := by
  have h1 : (laidOver e.img (keptOf keep 0 e.loose))[x]? = e.img[x]? := laid_off fun y hy => h y (keptOf_mem hy)
  unfold crI tornIn
  split
  · exact h1
  · rename_i y hy
    rw [List.getElem?_set_ne (h y (lastOf_mem hy))]; exact h1
theorem crI_nil {e : Dev} (keep : List Bool) (t : Nat) (h : e.loose = []) : crI e keep t = e.img := by unfold crI; rw [h]; rfl
theorem crI_64 {e : Dev} (h : e.ok) (keep : List Bool) {t : Nat} (ht : t < 64) : S64 (crI e keep t) := by
  have h1 : S64 (laidOver e.img (keptOf keep 0 e.loose)) := laid_64 (fun x hx => (h.lo x (keptOf_mem hx)).2) h.s64
  unfold crI tornIn
  split
  · exact h1
  · rename_i y hy
    have hy2 := h.lo y (lastOf_mem hy)
    refine h1.set _ ?_
    have hl : ((laidOver e.img (keptOf keep 0 e.loose)).getD y.1 []).length = 64 := by
      have hlt : y.1 < (laidOver e.img (keptOf keep 0 e.loose)).length := by rw [laid_len]; exact hy2.1
      rw [List.getD_eq_getElem?_getD, List.getElem?_eq_getElem hlt]
      exact h1 _ (List.getElem_mem hlt)
    rw [List.length_append, List.length_take, List.length_drop, hl, hy2.2]; omega
/-! ### opening -/
theorem read_up {d : Dev} {n : Nat} (h : Up d n) (hl : d.loose = []) {i : Nat} {s : List UInt8} (hs : d.img[i]? = some s) : d.read (i : Int) = (s, 0) := by
  have hi := (List.getElem?_eq_some_iff.1 hs).1
  have hn : d.now = d.img := by unfold Dev.now; rw [hl]; rfl
  have hh : has d.now.length (i : Int) = true := by rw [hn]; simp [has]; omega
  unfold Dev.read secOf
  rw [h.run, hh, hn]
  simp [hs]
theorem gens_weak {d : Dev} {n g : Nat} {L : List (List UInt8)} (h : Up d n) (hl : d.loose = []) (hw : Weak d.img n g L) (hg : g ≤ 2147483646) : supGens d 2 ≠ [] ∧ maxOf (supGens d 2) = g := by
  obtain ⟨T, O, ho, hO, hT, hOr, hne⟩ := hw.oth
  have hs := read_up h hl hw.sup
  have hr := read_up h hl ho
  have i1 := sup_is (n := n) hw.g1 (by omega : g ≤ 2147483647)
  have i2 := sup_genOf (g := g) (n := n) (by omega)
  have i3 := oth_less hg hO hOr hne hT
  generalize (supSec (g + 1) n).take T ++ O.drop T = o at hr i3
  have e1 : supGens d 2 = (if isSup (d.read ((0 : Nat) : Int)).1 d.img.length then [genOf (d.read ((0 : Nat) : Int)).1] else []) ++ (if isSup (d.read ((1 : Nat) : Int)).1 d.img.length then [genOf (d.read ((1 : Nat) : Int)).1] else []) := by
    rw [supGens_succ, supGens_succ, supGens_zero, List.nil_append]
  rw [e1, h.len]
  rcases Nat.mod_two_eq_zero_or_one g with hm | hm
  · rw [hm] at hs
    rw [show (g + 1) % 2 = 1 by omega] at hr
    rw [hs, hr, if_pos i1, i2]
    refine ⟨by simp, ?_⟩
    split
    · rename_i hos
      have := i3 hos
      simp only [maxOf, List.singleton_append, List.foldl_cons, List.foldl_nil]
      omega
    · simp [maxOf]
  · rw [hm] at hs
    rw [show (g + 1) % 2 = 0 by omega] at hr
    rw [hs, hr, if_pos i1, i2]
    refine ⟨by simp, ?_⟩
    split
    · rename_i hos
      have := i3 hos
      simp only [maxOf, List.singleton_append, List.foldl_cons, List.foldl_nil]
      omega
    · simp [maxOf]
theorem scanG_weak {d : Dev} {n g : Nat} {L : List (List UInt8)} (h : Up d n) (hl : d.loose = []) (hw : Weak d.img n g L) (hn : 8 ≤ n) (hg : g ≤ 2147483647) : scanG d g = (L, ((needsOf L : Nat) : Int), 0) := by
  have hf := fromOf_le n g (by omega)
  unfold scanG logScan
  rw [h.len, check_len (by omega) (by rw [h.len]; omega) hw.g1 hg, if_neg (by simp), h.run, if_neg (by simp)]
  have e : scanLoop d (fromOf n g : Int).toNat (g : Int).toNat (((fromOf n g + halfOf n : Nat) : Int) - (fromOf n g : Nat)).toNat 0 [] 0 [] false = (L, needsOf L) := by
    rw [show (fromOf n g : Int).toNat = fromOf n g by omega, show (g : Int).toNat = g by omega, show (((fromOf n g + halfOf n : Nat) : Int) - (fromOf n g : Nat)).toNat = halfOf n by omega, scanLoop_S, ← hw.scan]
    refine scanS_same _ _ _ _ _ _ fun j _ hj => ?_
    have hi : fromOf n g + j < d.img.length := by rw [h.len]; omega
    rw [read_up h hl (List.getElem?_eq_getElem hi)]
    unfold atI
    rw [List.getD_eq_getElem?_getD, List.getElem?_eq_getElem hi]; rfl
  rw [e]
theorem needs_long : ∀ {L : List (List UInt8)} {l : List UInt8}, l ∈ L → l.length ≤ 49 * needsOf L
  | r :: L, l, h => by
    have : r.length ≤ 49 * needOf r.length := by unfold needOf; split <;> omega
    simp only [needsOf]
    rcases List.mem_cons.1 h with rfl | h
    · omega
    · have := needs_long h; omega
theorem needs_many : ∀ (L : List (List UInt8)), L.length ≤ needsOf L
  | [] => Nat.le_refl _
  | r :: L => by
    have := needOf_pos r.length
    have := needs_many L
    simp only [needsOf, List.length_cons]; omega
theorem fits_room {n g : Nat} {L : List (List UInt8)} (hn : n ≤ 1000) (hg : g ≤ 2147483646) (hr : needsOf L ≤ halfOf n) : fitsOf g n L = 0 := by
  have hh : halfOf n ≤ 500 := by unfold halfOf; omega
  unfold fitsOf
  rw [if_neg (by omega), show longOne L = false from ?_, if_neg (by simp), if_neg (by omega)]
  unfold longOne
  rw [List.any_eq_false]
  intro l hl
  have := needs_long hl
  simp; omega
theorem open_weak {d : Dev} {n g : Nat} {L : List (List UInt8)} (h : Up d n) (hl : d.loose = []) (hw : Weak d.img n g L) (hn : 8 ≤ n) (hn2 : n ≤ 1000) (hg : g ≤ 2147483646) :
    openD d = if (movesD d (g + 1) L).1 = 0 then (0, (movesD d (g + 1) L).2.1, some ⟨g + 1, (movesD d (g + 1) L).2.2, false, L⟩) else ((movesD d (g + 1) L).1, (movesD d (g + 1) L).2.1, none) := by
  obtain ⟨h1, h2⟩ := gens_weak h hl hw hg
  unfold openD
  rw [h.len, if_neg (by omega), h.run, if_neg (by simp), if_neg h1, h2]
  unfold openedD
  rw [scanG_weak h hl hw hn (by omega), if_neg (by simp), h.len]
  simp only [fits_room hn2 hg hw.room, ne_eq, not_true_eq_false, if_false]
/-! ### moving -/
theorem raw_app (a b : List DOp) (d : Dev) : raw (a ++ b) d = raw b (raw a d) := List.foldl_append ..
theorem raw_writes : ∀ (ws : List (Nat × List UInt8)) (d : Dev), raw (ws.map some) d = { d with loose := d.loose ++ ws }
  | [], d => by simp [raw]
  | x :: ws, d => by
    show raw (ws.map some) (rawOp d (some x)) = _
    rw [raw_writes ws]
    simp [rawOp]
theorem raw_flushed {d : Dev} (hl : d.loose = []) (ws : List (Nat × List UInt8)) : raw (ws.map some ++ [none]) d = { d with img := laidOver d.img ws, loose := [] } := by
  rw [raw_app, raw_writes, hl]; rfl
/-- how far a flushed run, another one, and a last write came -/
theorem raw_cases {d : Dev} (hl : d.loose = []) (Bs Rs : List (Nat × List UInt8)) (x : Nat × List UInt8) (k : Nat) :
    ((raw (((Bs.map some ++ [none]) ++ (Rs.map some ++ ([none] ++ [some x, none]))).take k) d).img = d.img ∧ ∃ j, (raw (((Bs.map some ++ [none]) ++ (Rs.map some ++ ([none] ++ [some x, none]))).take k) d).loose = Bs.take j) ∨
    ((raw (((Bs.map some ++ [none]) ++ (Rs.map some ++ ([none] ++ [some x, none]))).take k) d).img = laidOver d.img Bs ∧ ∃ j, (raw (((Bs.map some ++ [none]) ++ (Rs.map some ++ ([none] ++ [some x, none]))).take k) d).loose = Rs.take j) ∨
    ((raw (((Bs.map some ++ [none]) ++ (Rs.map some ++ ([none] ++ [some x, none]))).take k) d).img = laidOver (laidOver d.img Bs) Rs ∧ ((raw (((Bs.map some ++ [none]) ++ (Rs.map some ++ ([none] ++ [some x, none]))).take k) d).loose = [] ∨ (raw (((Bs.map some ++ [none]) ++ (Rs.map some ++ ([none] ++ [some x, none]))).take k) d).loose = [x])) ∨
    ((raw (((Bs.map some ++ [none]) ++ (Rs.map some ++ ([none] ++ [some x, none]))).take k) d).img = (laidOver (laidOver d.img Bs) Rs).set x.1 x.2 ∧ (raw (((Bs.map some ++ [none]) ++ (Rs.map some ++ ([none] ++ [some x, none]))).take k) d).loose = []) := by
  by_cases h1 : k ≤ Bs.length
  · rw [List.append_assoc, List.take_append_of_le_length (by simpa using h1), ← List.map_take, raw_writes, hl]
    exact .inl ⟨rfl, k, rfl⟩
  · obtain ⟨k2, rfl⟩ : ∃ k2, k = Bs.length + 1 + k2 := ⟨k - (Bs.length + 1), by omega⟩
    have e1 : ((Bs.map some ++ [none]) ++ (Rs.map some ++ ([none] ++ [some x, none]))).take (Bs.length + 1 + k2) = (Bs.map some ++ [none]) ++ (Rs.map some ++ ([none] ++ [some x, none])).take k2 := by
      rw [List.take_append, List.take_of_length_le (by simp)]
      congr 2
      simp
    rw [e1, raw_app, raw_flushed hl]
    by_cases h2 : k2 ≤ Rs.length
    · rw [List.take_append_of_le_length (by simpa using h2), ← List.map_take, raw_writes]
      exact .inr (.inl ⟨rfl, k2, by simp⟩)
    · obtain ⟨k3, rfl⟩ : ∃ k3, k2 = Rs.length + 1 + k3 := ⟨k2 - (Rs.length + 1), by omega⟩
      have e2 : (Rs.map some ++ ([none] ++ [some x, none])).take (Rs.length + 1 + k3) = (Rs.map some ++ [none]) ++ [some x, none].take k3 := by
        rw [← List.append_assoc, List.take_append, List.take_of_length_le (by simp)]
        congr 2
        simp
      rw [e2, raw_app, raw_flushed rfl]
      rcases k3 with _ | _ | k3
      · exact .inr (.inr (.inl ⟨rfl, .inl rfl⟩))
      · exact .inr (.inr (.inl ⟨rfl, .inr rfl⟩))
      · refine .inr (.inr (.inr ?_))
        rw [List.take_of_length_le (by simp)]
        exact ⟨rfl, rfl⟩
theorem blankOps_some (i m : Nat) : blankOps i m = (runW 0 (fun _ => zr 64) i m).map some := by
  unfold blankOps runW
  rw [List.map_map]
  apply List.map_congr_left
  intro j _
  simp
def recsWs (g f : Nat) : Nat → List (List UInt8) → List (Nat × List UInt8)
  | _, [] => []
  | p, r :: L => recWs g p f r ++ recsWs g f (p + needOf r.length) L
theorem recsOps_some (g f : Nat) : ∀ (L : List (List UInt8)) (p : Nat), recsOps g f p L = (recsWs g f p L).map some
  | [], _ => rfl
  | r :: L, p => by
    unfold recsOps recsWs
    rw [recsOps_some g f L, List.map_append]; rfl
theorem recsWs_in (g f : Nat) : ∀ (L : List (List UInt8)) (p : Nat), ∀ y ∈ recsWs g f p L, (f + p ≤ y.1 ∧ y.1 < f + p + needsOf L) ∧ y.2.length = 64
  | [], _, y, h => by cases h
  | r :: L, p, y, h => by
    unfold recsWs at h
    rcases List.mem_append.1 h with h | h
    · obtain ⟨j, _, hj, rfl⟩ := runW_mem h
      exact ⟨by simp only [needsOf]; omega, recSec_len _ _ _ _⟩
    · have := recsWs_in g f L _ y h
      exact ⟨by simp only [needsOf]; omega, this.2⟩
theorem recs_lie {g f : Nat} : ∀ (L : List (List UInt8)) (p : Nat) (img : List (List UInt8)), f + p + needsOf L ≤ img.length → LiesIn (atI (laidOver img (recsWs g f p L)) f) g p L
  | [], _, _, _ => trivial
  | r :: L, p, img, hl => by
    simp only [needsOf] at hl
    unfold recsWs
    rw [laid_append]
    have hl1 : (laidOver img (recWs g p f r)).length = img.length := laid_len _ _
    refine ⟨fun j hj => ?_, recs_lie L _ _ (by rw [hl1]; omega)⟩
    have e1 : (laidOver (laidOver img (recWs g p f r)) (recsWs g f (p + needOf r.length) L))[f + (p + j)]? = some (recSec g p r j) := by
      rw [laid_off (fun y hy => by have := (recsWs_in g f L _ y hy).1; omega)]
      unfold recWs
      rw [runW_at _ _ _ _ _ (by omega), if_pos (by omega)]
      congr 2; omega
    unfold atI
    rw [List.getD_eq_getElem?_getD, e1]; rfl
theorem move_ops (n g : Nat) (L : List (List UInt8)) : moveOps n g L = ((runW 0 (fun _ => zr 64) (fromOf n g) (halfOf n)).map some ++ [none]) ++ ((recsWs g (fromOf n g) 0 L).map some ++ ([none] ++ [some (g % 2, supSec g n), none])) := by
  unfold moveOps supOps
  rw [blankOps_some, recsOps_some]
/-- the image behind it all -/
def movedI (img : List (List UInt8)) (n g : Nat) (L : List (List UInt8)) : List (List UInt8) := laidOver (laidOver img (runW 0 (fun _ => zr 64) (fromOf n g) (halfOf n))) (recsWs g (fromOf n g) 0 L)
theorem blanks_in {n g : Nat} {y : Nat × List UInt8} (h : y ∈ runW 0 (fun _ => zr 64) (fromOf n g) (halfOf n)) : (fromOf n g ≤ y.1 ∧ y.1 < fromOf n g + halfOf n) ∧ y.2.length = 64 := by
  obtain ⟨j, h1, h2, rfl⟩ := runW_mem h
  exact ⟨by simp; omega, rfl⟩
theorem movedI_off {img : List (List UInt8)} {n g : Nat} {L : List (List UInt8)} (hr : needsOf L ≤ halfOf n) {x : Nat} (hx : ¬ (fromOf n g ≤ x ∧ x < fromOf n g + halfOf n)) : (movedI img n g L)[x]? = img[x]? := by
  unfold movedI
  rw [laid_off (fun y hy => by have := (recsWs_in _ _ _ _ y hy).1; omega), laid_off (fun y hy => by have := (blanks_in hy).1; omega)]
theorem movedI_len (img : List (List UInt8)) (n g : Nat) (L : List (List UInt8)) : (movedI img n g L).length = img.length := by unfold movedI; rw [laid_len, laid_len]
theorem movedI_64 {img : List (List UInt8)} (h : S64 img) (n g : Nat) (L : List (List UInt8)) : S64 (movedI img n g L) :=
  laid_64 (fun y hy => (recsWs_in _ _ _ _ y hy).2) (laid_64 (fun _ hy => (blanks_in hy).2) h)
theorem moved_clean {img : List (List UInt8)} {n g : Nat} {L L' : List (List UInt8)} (hw : Weak img n g L) (hn : 8 ≤ n) (hg : g ≤ 2147483645) (hr : needsOf L' ≤ halfOf n) : Clean ((movedI img n (g + 1) L').set ((g + 1) % 2) (supSec (g + 1) n)) n (g + 1) L' := by
  have hf := fromOf_le n (g + 1) (by omega)
  have h2 := from_two n (g + 1)
  have hlen : (movedI img n (g + 1) L').length = n := by rw [movedI_len]; exact hw.len
  have hat : ∀ i, i < halfOf n → atI ((movedI img n (g + 1) L').set ((g + 1) % 2) (supSec (g + 1) n)) (fromOf n (g + 1)) i = atI (movedI img n (g + 1) L') (fromOf n (g + 1)) i := fun i hi => atI_eq (by rw [List.getElem?_set_ne (by omega)])
  refine Clean.of (by rw [List.length_set]; exact hlen) ((movedI_64 hw.s64 _ _ _).set _ (supSec_len _ _)) (by omega) ?_ ?_ hr ?_ ?_
  · rw [List.getElem?_set_self (by omega)]
  · refine ⟨0, supSec g n, ?_, supSec_len _ _, by omega, .inr ⟨by have := hw.g1; omega, by rw [Nat.add_sub_cancel]⟩, ?_⟩
    · rw [List.getElem?_set_ne (by omega), movedI_off hr (by omega), show (g + 1 + 1) % 2 = g % 2 by omega, hw.sup]; simp
    · intro h
      have h := congrArg genOf h
      rw [List.take_zero, List.nil_append, List.drop_zero, sup_genOf (by omega), sup_genOf (by omega)] at h
      omega
  · have := recs_lie (g := g + 1) (f := fromOf n (g + 1)) L' 0 (laidOver img (runW 0 (fun _ => zr 64) (fromOf n (g + 1)) (halfOf n))) (by rw [laid_len, hw.len]; omega)
    exact this.same fun i _ hi => hat i (by omega)
  · intro i h1 h2
    rw [hat i h2]
    unfold atI movedI
    rw [List.getD_eq_getElem?_getD, laid_off (fun y hy => by have := (recsWs_in _ _ _ _ y hy).1; omega), runW_at _ _ _ _ _ (by rw [hw.len]; omega), if_pos (by omega)]
    rfl
end Go.Proofs.Ytlondopgibcikaa
namespace Go.Proofs.Ytlondopgibcikaa
theorem torn_twice {N O : List UInt8} (hN : N.length = 64) {t T : Nat} (hT : T ≤ 64) : N.take t ++ (N.take T ++ O.drop T).drop t = N.take (max t T) ++ O.drop (max t T) := by
  by_cases h : t ≤ T
  · rw [Nat.max_eq_right h, List.drop_append_of_le_length (by rw [List.length_take, hN]; omega), ← List.append_assoc]
    congr 1
    have : N.take t = (N.take T).take t := by rw [List.take_take, Nat.min_eq_left h]
    rw [this, List.take_append_drop]
  · rw [Nat.max_eq_left (by omega), List.drop_append, List.drop_of_length_le (by rw [List.length_take, hN]; omega), List.nil_append, List.length_take, hN, Nat.min_eq_left hT, List.drop_drop]
    congr 2; omega
/-- a crash while moves was under way -/
theorem move_crash {d e : Dev} {n g k : Nat} {L L' : List (List UInt8)} (hl : d.loose = []) (hw : Weak d.img n g L) (hn : 8 ≤ n) (hg : g ≤ 2147483645) (hr : needsOf L' ≤ halfOf n)
    (hi : e.img = (raw ((moveOps n (g + 1) L').take k) d).img) (hlo : e.loose = (raw ((moveOps n (g + 1) L').take k) d).loose) (hok : e.ok) (hen : e.img.length = n) (keep : List Bool) {t : Nat} (ht : t < 64) :
    Weak (crI e keep t) n g L ∨ Clean (crI e keep t) n (g + 1) L' := by
  have hf := fromOf_le n (g + 1) (by omega)
  have h2 := from_two n (g + 1)
  have hcl : (crI e keep t).length = n := by rw [crI_len]; exact hen
  have hc64 := crI_64 hok keep ht
  rw [move_ops] at hi hlo
  rcases raw_cases hl (runW 0 (fun _ => zr 64) (fromOf n (g + 1)) (halfOf n)) (recsWs (g + 1) (fromOf n (g + 1)) 0 L') ((g + 1) % 2, supSec (g + 1) n) k with ⟨e1, j, e2⟩ | ⟨e1, j, e2⟩ | ⟨e1, e2⟩ | ⟨e1, e2⟩
  · rw [e1] at hi; rw [e2] at hlo
    refine .inl (hw.off hcl hc64 fun x hx => ?_)
    rw [crI_off e keep t (fun y hy => by
      rw [hlo] at hy
      have := (blanks_in (List.mem_of_mem_take hy)).1; omega), hi]
  · rw [e1] at hi; rw [e2] at hlo
    refine .inl (hw.off hcl hc64 fun x hx => ?_)
    rw [crI_off e keep t (fun y hy => by
      rw [hlo] at hy
      have := (recsWs_in _ _ _ _ y (List.mem_of_mem_take hy)).1; omega), hi, laid_off (fun y hy => by have := (blanks_in hy).1; omega)]
  · rw [e1] at hi
    have hmi : e.img = movedI d.img n (g + 1) L' := hi
    rcases e2 with e2 | e2
    · rw [e2] at hlo
      refine .inl (hw.off hcl hc64 fun x hx => ?_)
      rw [crI_nil keep t hlo, hmi, movedI_off hr hx]
    · rw [e2] at hlo
      have hmc := moved_clean hw hn hg hr
      rw [← hmi] at hmc
      by_cases hk : keep[0]? = some true
      · refine .inr ?_
        have : crI e keep t = e.img.set ((g + 1) % 2) (supSec (g + 1) n) := by
          unfold crI
          rw [hlo]
          simp [keptOf, lastOf, hk, tornIn, laidOver]
        rw [this]; exact hmc
      · obtain ⟨T, O, ho, hO, hT, hOr, hne⟩ := hw.oth
        have hoe : e.img[(g + 1) % 2]? = some ((supSec (g + 1) n).take T ++ O.drop T) := by rw [hmi, movedI_off hr (by omega)]; exact ho
        have hce : crI e keep t = e.img.set ((g + 1) % 2) ((supSec (g + 1) n).take (max t T) ++ O.drop (max t T)) := by
          unfold crI
          rw [hlo]
          simp only [keptOf, lastOf, hk, if_false, tornIn]
          show e.img.set _ _ = _
          rw [show (laidOver e.img []).getD ((g + 1) % 2) [] = (supSec (g + 1) n).take T ++ O.drop T by rw [List.getD_eq_getElem?_getD]; show (e.img[(g + 1) % 2]?).getD [] = _; rw [hoe]; rfl, torn_twice (supSec_len _ _) hT]
        by_cases hN : (supSec (g + 1) n).take (max t T) ++ O.drop (max t T) = supSec (g + 1) n
        · refine .inr ?_
          rw [hce, hN]; exact hmc
        · refine .inl ⟨hcl, hc64, hw.g1, ?_, ⟨max t T, O, ?_, hO, by omega, hOr, hN⟩, ?_, hw.room⟩
          · rw [hce, List.getElem?_set_ne (by omega), hmi, movedI_off hr (by omega)]; exact hw.sup
          · rw [hce, List.getElem?_set_self (by rw [hen]; omega)]
          · rw [← hw.scan]
            refine scanS_same _ _ _ _ _ _ fun j _ hj => atI_eq ?_
            have := from_two n g
            rw [hce, List.getElem?_set_ne (by omega), hmi, movedI_off hr (from_apart n g _ ⟨by omega, by omega⟩)]
  · rw [e1] at hi; rw [e2] at hlo
    refine .inr ?_
    rw [crI_nil keep t hlo, hi]
    exact moved_clean hw hn hg hr
theorem move_done {d : Dev} {n g : Nat} {L L' : List (List UInt8)} (hl : d.loose = []) (hw : Weak d.img n g L) (hn : 8 ≤ n) (hg : g ≤ 2147483645) (hr : needsOf L' ≤ halfOf n) :
    (raw (moveOps n (g + 1) L') d).loose = [] ∧ Clean (raw (moveOps n (g + 1) L') d).img n (g + 1) L' := by
  have e : raw (moveOps n (g + 1) L') d = { d with img := (movedI d.img n (g + 1) L').set ((g + 1) % 2) (supSec (g + 1) n), loose := [] } := by
    rw [move_ops, raw_app, raw_flushed hl, ← List.append_assoc, raw_app, raw_flushed rfl]
    rfl
  rw [e]
  exact ⟨rfl, moved_clean hw hn hg hr⟩
theorem raw_loose : ∀ (os : List DOp) (d : Dev), (raw os d).loose.length ≤ d.loose.length + os.length
  | [], d => Nat.le_refl _
  | o :: os, d => by
    have h1 := raw_loose os (rawOp d o)
    have h2 : (rawOp d o).loose.length ≤ d.loose.length + 1 := by
      rcases o with _ | x
      · simp [rawOp]
      · simp [rawOp]
    show (raw os (rawOp d o)).loose.length ≤ _
    simp only [List.length_cons]; omega
theorem recsWs_len (g f : Nat) : ∀ (L : List (List UInt8)) (p : Nat), (recsWs g f p L).length = needsOf L
  | [], _ => rfl
  | r :: L, p => by
    unfold recsWs
    rw [List.length_append, recsWs_len g f L, recWs, runW_len]; rfl
theorem moveOps_len (n g : Nat) (L : List (List UInt8)) : (moveOps n g L).length = halfOf n + needsOf L + 4 := by
  rw [move_ops]
  simp only [List.length_append, List.length_map, runW_len, recsWs_len, List.length_cons, List.length_nil]
  omega
theorem goodOps.map {n : Nat} {ws : List (Nat × List UInt8)} (h : ∀ y ∈ ws, y.1 < n ∧ y.2.length = 64) : goodOps n (ws.map some) := fun x hx => by
  simp only [List.mem_map, Option.some.injEq, exists_eq_right] at hx
  exact h x hx
theorem goodOps.none (n : Nat) : goodOps n [none] := fun x hx => by simp at hx
theorem move_good {n g : Nat} {L : List (List UInt8)} (hn : 8 ≤ n) (hr : needsOf L ≤ halfOf n) : goodOps n (moveOps n g L) := by
  have hf := fromOf_le n g (by omega)
  rw [move_ops]
  refine ((goodOps.map fun y hy => ?_).app (goodOps.none n)).app ((goodOps.map fun y hy => ?_).app ((goodOps.none n).app fun x hx => ?_))
  · have := blanks_in hy; exact ⟨by omega, this.2⟩
  · have := recsWs_in _ _ _ _ y hy; exact ⟨by omega, this.2⟩
  · simp at hx; subst hx
    exact ⟨by simp only; omega, supSec_len _ _⟩
/-- a device that runs, with no loose writes -/
structure Rdy (d : Dev) (n : Nat) : Prop where
  up : Up d n
  lo : d.loose = []
/-- moves is done, or the device is out, and then comes what may -/
theorem moves_any {d : Dev} {n g : Nat} {L L' : List (List UInt8)} (h : Rdy d n) (hw : Weak d.img n g L) (hn : 8 ≤ n) (hn2 : n ≤ 1000) (hg : g ≤ 2147483645) (hr : needsOf L' ≤ halfOf n) :
    ((movesD d (g + 1) L').1 = 0 ∧ (movesD d (g + 1) L').2.2 = ((needsOf L' : Nat) : Int) ∧ Rdy (movesD d (g + 1) L').2.1 n ∧ Clean (movesD d (g + 1) L').2.1.img n (g + 1) L' ∧ (d.fuse = none → (movesD d (g + 1) L').2.1.fuse = none)) ∨
    (d.fuse ≠ none ∧ (movesD d (g + 1) L').1 = 22 ∧ (movesD d (g + 1) L').2.1.img.length = n ∧ (movesD d (g + 1) L').2.1.ok ∧ (movesD d (g + 1) L').2.1.loose.length ≤ 5000 ∧ ∀ (keep : List Bool) (t : Nat), t < 64 → Weak (crI (movesD d (g + 1) L').2.1 keep t) n g L ∨ Clean (crI (movesD d (g + 1) L').2.1 keep t) n (g + 1) L') := by
  have hh : halfOf n ≤ 500 := by unfold halfOf; omega
  obtain ⟨e1, e2, e3⟩ := moves_runD (gen := g + 1) (L := L') h.up.len hn (by omega) (by omega) (fun r hr' => by have := needs_long hr'; omega) hr
  have hgood := move_good (g := g + 1) hn hr
  rw [e1, e2]
  rcases run_up _ d h.up hgood with ⟨f, hf, hfn⟩ | ⟨hf, k, d', hk, he, hi, hlo, hok, hlen⟩
  · left
    obtain ⟨m1, m2⟩ := move_done h.lo hw hn hg hr
    rw [hf] at e3 ⊢
    have hup : ∀ (os : List DOp) (d : Dev), Up d n → goodOps n os → Up (raw os d) n := by
      intro os
      induction os with
      | nil => intro d h _; exact h
      | cons o os ih => intro d h hg; exact ih _ (h.raw fun x hx => hg x (by rw [hx]; simp)) hg.cons
    exact ⟨rfl, e3 rfl, ⟨(hup _ d h.up hgood).fuse f, m1⟩, m2, hfn⟩
  · right
    rw [he]
    have hlo5 : d'.loose.length ≤ 5000 := by
      have h1 := raw_loose ((moveOps n (g + 1) L').take k) d
      rw [h.lo] at h1
      rw [moveOps_len] at hk
      rw [hlo]
      simp only [List.length_nil, List.length_take] at h1
      omega
    exact ⟨hf, rfl, hlen, hok, hlo5, fun keep t ht => move_crash h.lo hw hn hg hr hi hlo hok hlen keep ht⟩
/-- Open -/
theorem openD_any {d : Dev} {n g : Nat} {L : List (List UInt8)} (h : Rdy d n) (hw : Weak d.img n g L) (hn : 8 ≤ n) (hn2 : n ≤ 1000) (hg : g ≤ 2147483645) :
    (∃ d', openD d = (0, d', some ⟨g + 1, ((needsOf L : Nat) : Int), false, L⟩) ∧ Rdy d' n ∧ Clean d'.img n (g + 1) L ∧ (d.fuse = none → d'.fuse = none)) ∨
    (d.fuse ≠ none ∧ ∃ d', openD d = (22, d', none) ∧ d'.img.length = n ∧ d'.ok ∧ d'.loose.length ≤ 5000 ∧ ∀ (keep : List Bool) (t : Nat), t < 64 → Weak (crI d' keep t) n g L ∨ Clean (crI d' keep t) n (g + 1) L) := by
  rw [open_weak h.up h.lo hw hn hn2 (by omega)]
  rcases moves_any h hw hn hn2 hg hw.room with ⟨h1, h2, h3, h4, h5⟩ | ⟨h1, h2, h3, h4, h5, h6⟩
  · left
    rw [if_pos h1, h2]
    exact ⟨_, rfl, h3, h4, h5⟩
  · right
    rw [if_neg (by rw [h2]; simp), h2]
    exact ⟨h1, _, rfl, h3, h4, h5, h6⟩
/-! ### appending -/
theorem runW_take (base : Nat) (g : Nat → List UInt8) (m k : Nat) (h : k ≤ m) : (runW base g 0 m).take k = runW base g 0 k := by
  unfold runW
  rw [← List.map_take]
  congr 1
  apply List.ext_getElem?
  intro i
  rw [List.getElem?_take]
  by_cases hi : i < k
  · rw [if_pos hi, List.getElem?_eq_getElem (by simp; omega), List.getElem?_eq_getElem (by simp; omega)]
    simp
  · rw [if_neg hi, List.getElem?_eq_none (by simp; omega)]
theorem app_done {d : Dev} {n g : Nat} {L : List (List UInt8)} {r : List UInt8} (hc : Clean d.img n g L) (hn : 8 ≤ n) (hr : needsOf L + needOf r.length ≤ halfOf n) : Clean (laidOver d.img (recWs g (needsOf L) (fromOf n g) r)) n g (L ++ [r]) := by
  have hf := fromOf_le n g (by omega)
  have h2 := from_two n g
  have hlen := hc.weak.len
  have hat : ∀ x, (laidOver d.img (recWs g (needsOf L) (fromOf n g) r))[x]? = if fromOf n g + needsOf L + 0 ≤ x ∧ x < fromOf n g + needsOf L + 0 + needOf r.length then some (recSec g (needsOf L) r (x - (fromOf n g + needsOf L))) else d.img[x]? := fun x => runW_at _ _ _ _ _ (by omega) x
  have hin : ∀ y ∈ recWs g (needsOf L) (fromOf n g) r, y.1 < n ∧ y.2.length = 64 := recWs_fit (by omega)
  refine Clean.of (by rw [laid_len]; exact hlen) (laid_64 (fun y hy => (hin y hy).2) hc.weak.s64) hc.weak.g1 ?_ ?_ (by rw [needsOf_snoc]; exact hr) ?_ ?_
  · rw [hat, if_neg (by omega)]; exact hc.weak.sup
  · rw [hat, if_neg (by omega)]; exact hc.weak.oth
  · refine (hc.lies.same fun i _ hi => atI_eq ?_).snoc fun j hj => ?_
    · rw [hat, if_neg (by omega)]
    · unfold atI
      rw [Nat.zero_add, List.getD_eq_getElem?_getD, hat, if_pos (by omega)]
      simp only [Option.getD_some]
      congr 1; omega
  · intro i h1 h2
    rw [needsOf_snoc] at h1
    rw [← hc.rest i (by omega) h2]
    exact atI_eq (by rw [hat, if_neg (by omega)])
theorem app_crash {d e : Dev} {n g k : Nat} {L : List (List UInt8)} {r : List UInt8} (hl : d.loose = []) (hc : Clean d.img n g L) (hn : 8 ≤ n) (hr : needsOf L + needOf r.length ≤ halfOf n)
    (hi : e.img = (raw ((appOps n g (needsOf L) r).take k) d).img) (hlo : e.loose = (raw ((appOps n g (needsOf L) r).take k) d).loose) (hok : e.ok) (hen : e.img.length = n) (keep : List Bool) {t : Nat} (ht : t < 64) :
    Weak (crI e keep t) n g L ∨ Weak (crI e keep t) n g (L ++ [r]) := by
  have hf := fromOf_le n g (by omega)
  have h2 := from_two n g
  have hlen := hc.weak.len
  have hcl : (crI e keep t).length = n := by rw [crI_len]; exact hen
  have hc64 := crI_64 hok keep ht
  unfold appOps recOps at hi hlo
  by_cases hk : k ≤ needOf r.length
  · have e1 : ((recWs g (needsOf L) (fromOf n g) r).map some ++ [none]).take k = (runW (fromOf n g + needsOf L) (recSec g (needsOf L) r) 0 k).map some := by
      rw [List.take_append_of_le_length (by simp [recWs, runW_len]; exact hk), ← List.map_take, recWs, runW_take _ _ _ _ hk]
    rw [e1, raw_writes, hl] at hi hlo
    rw [List.nil_append] at hlo
    simp only at hi hlo
    have hoff : ∀ x, ¬ (fromOf n g + needsOf L ≤ x ∧ x < fromOf n g + needsOf L + needOf r.length) → (crI e keep t)[x]? = d.img[x]? := fun x hx => by
      rw [crI_off e keep t (fun y hy => by
        rw [hlo] at hy
        obtain ⟨j, _, hj, rfl⟩ := runW_mem hy
        simp only; omega), hi]
    have hzr : ∀ j, j < needOf r.length → d.img[fromOf n g + needsOf L + j]? = some (zr 64) := fun j hj => by
      have h3 := hc.rest (needsOf L + j) (by omega) (by omega)
      unfold atI at h3
      rw [List.getD_eq_getElem?_getD] at h3
      have h4 : fromOf n g + (needsOf L + j) < d.img.length := by omega
      rw [List.getElem?_eq_getElem h4] at h3
      rw [Nat.add_assoc, List.getElem?_eq_getElem h4]
      exact congrArg some h3
    have hkept : ∀ x, (laidOver e.img (keptOf keep 0 e.loose))[x]? = if (fromOf n g + needsOf L + 0 ≤ x ∧ x < fromOf n g + needsOf L + 0 + k) ∧ keep[x - (fromOf n g + needsOf L)]? = some true then some (recSec g (needsOf L) r (x - (fromOf n g + needsOf L))) else e.img[x]? := fun x => by
      rw [hlo]; exact kept_run keep _ _ k 0 e.img (by omega) x
    have hsec : ∀ j, j < needOf r.length → atI (crI e keep t) (fromOf n g) (needsOf L + j) = recSec g (needsOf L) r j ∨ rightOf (atI (crI e keep t) (fromOf n g) (needsOf L + j)) g (needsOf L + j) = none := by
      intro j hj
      have hx : atI (crI e keep t) (fromOf n g) (needsOf L + j) = ((crI e keep t)[fromOf n g + needsOf L + j]?).getD [] := by
        unfold atI; rw [List.getD_eq_getElem?_getD, Nat.add_assoc]
      rw [hx]
      have hkx := hkept (fromOf n g + needsOf L + j)
      rw [Nat.add_sub_cancel_left, hi, hzr j hj] at hkx
      rw [hi] at hkept
      unfold crI
      rcases last_run keep (fromOf n g + needsOf L) (recSec g (needsOf L) r) k 0 with ⟨l1, l2⟩ | ⟨j', _, l2, l3, l4⟩
      · rw [hlo, l1]
        show _ = _ ∨ _
        unfold tornIn
        rw [← hlo, hi, hkx]
        by_cases hjk : j < k
        · rw [if_pos ⟨by omega, l2 j (Nat.zero_le _) (by omega)⟩]; exact .inl rfl
        · rw [if_neg (by omega)]; exact .inr (wrong_zr _ _)
      · rw [hlo, l4]
        unfold tornIn
        simp only
        rw [← hlo, hi]
        by_cases hjj : j = j'
        · subst hjj
          rw [List.getElem?_set_self (by rw [laid_len]; omega)]
          rw [if_neg (by rintro ⟨_, h⟩; exact l3 h)] at hkx
          right
          refine wrong_63 ?_
          rw [List.getD_eq_getElem?_getD, hkx]
          simp only [Option.getD_some]
          rw [List.getElem?_append_right (by rw [List.length_take, recSec_len]; omega), List.length_take, recSec_len, Nat.min_eq_left (by omega), List.getElem?_drop, show t + (63 - t) = 63 by omega]
          simp [zr]
        · rw [List.getElem?_set_ne (by omega), hkx]
          by_cases hjk : (fromOf n g + needsOf L + 0 ≤ fromOf n g + needsOf L + j ∧ fromOf n g + needsOf L + j < fromOf n g + needsOf L + 0 + k) ∧ keep[j]? = some true
          · rw [if_pos hjk]; exact .inl rfl
          · rw [if_neg hjk]; exact .inr (wrong_zr _ _)
    have hlies : LiesIn (atI (crI e keep t) (fromOf n g)) g 0 L := hc.lies.same fun i _ hi => atI_eq (hoff _ (by omega))
    have hrest : ∀ i, needsOf L + needOf r.length ≤ i → i < halfOf n → atI (crI e keep t) (fromOf n g) i = zr 64 := fun i h1 h2 => by
      rw [← hc.rest i (by omega) h2]; exact atI_eq (hoff _ (by omega))
    have hsup : (crI e keep t)[g % 2]? = some (supSec g n) := by rw [hoff _ (by omega)]; exact hc.weak.sup
    have hoth := hc.weak.oth
    rw [← hoff ((g + 1) % 2) (by omega)] at hoth
    by_cases hall : ∀ j, j < needOf r.length → atI (crI e keep t) (fromOf n g) (needsOf L + j) = recSec g (needsOf L) r j
    · right
      exact (Clean.of hcl hc64 hc.weak.g1 hsup hoth (by rw [needsOf_snoc]; exact hr) (hlies.snoc fun j hj => by rw [Nat.zero_add]; exact hall j hj) (fun i h1 h2 => hrest i (by rw [needsOf_snoc] at h1; exact h1) h2)).weak
    · left
      have key : ∀ m, m ≤ needOf r.length → (∀ j, j < m → atI (crI e keep t) (fromOf n g) (needsOf L + j) = recSec g (needsOf L) r j) ∨ ∃ j, j < m ∧ (∀ i, i < j → atI (crI e keep t) (fromOf n g) (needsOf L + i) = recSec g (needsOf L) r i) ∧ ¬ atI (crI e keep t) (fromOf n g) (needsOf L + j) = recSec g (needsOf L) r j := by
        intro m
        induction m with
        | zero => intro _; exact .inl fun j hj => by omega
        | succ m ih =>
          intro hm
          rcases ih (by omega) with h | ⟨j, h1, h2, h3⟩
          · by_cases h4 : atI (crI e keep t) (fromOf n g) (needsOf L + m) = recSec g (needsOf L) r m
            · refine .inl fun j hj => ?_
              by_cases hjm : j = m
              · rw [hjm]; exact h4
              · exact h j (by omega)
            · exact .inr ⟨m, by omega, h, h4⟩
          · exact .inr ⟨j, by omega, h2, h3⟩
      rcases key _ (Nat.le_refl _) with h | ⟨j, h1, h2, h3⟩
      · exact absurd h hall
      · refine ⟨hcl, hc64, hc.weak.g1, hsup, hoth, scan_torn hlies h1 (by omega) h2 ?_, hc.weak.room⟩
        rcases hsec j h1 with h4 | h4
        · exact absurd h4 h3
        · exact h4
  · have e1 : ((recWs g (needsOf L) (fromOf n g) r).map some ++ [none]).take k = (recWs g (needsOf L) (fromOf n g) r).map some ++ [none] := List.take_of_length_le (by simp [recWs, runW_len]; omega)
    rw [e1, raw_flushed hl] at hi hlo
    right
    rw [crI_nil keep t hlo, hi]
    exact (app_done hc hn hr).weak
theorem raw_up {n : Nat} : ∀ (os : List DOp) (d : Dev), Up d n → goodOps n os → Up (raw os d) n
  | [], _, h, _ => h
  | o :: os, _, h, hg => raw_up os _ (h.raw fun x hx => hg x (by rw [hx]; simp)) hg.cons
/-- Append -/
theorem append_run {d : Dev} {n g : Nat} {L : List (List UInt8)} {r : List UInt8} (h : Rdy d n) (hc : Clean d.img n g L) (hn : 8 ≤ n) (hn2 : n ≤ 1000) (hg : g ≤ 2147483647) (hrl : r.length ≤ 1048576) (hr : needsOf L + needOf r.length ≤ halfOf n) :
    ((appendD d g ((needsOf L : Nat) : Int) r).1 = 0 ∧ (appendD d g ((needsOf L : Nat) : Int) r).2.2 = ((needsOf (L ++ [r]) : Nat) : Int) ∧ Rdy (appendD d g ((needsOf L : Nat) : Int) r).2.1 n ∧ Clean (appendD d g ((needsOf L : Nat) : Int) r).2.1.img n g (L ++ [r]) ∧ (d.fuse = none → (appendD d g ((needsOf L : Nat) : Int) r).2.1.fuse = none)) ∨
    (d.fuse ≠ none ∧ (appendD d g ((needsOf L : Nat) : Int) r).1 = 22 ∧ (appendD d g ((needsOf L : Nat) : Int) r).2.1.img.length = n ∧ (appendD d g ((needsOf L : Nat) : Int) r).2.1.ok ∧ (appendD d g ((needsOf L : Nat) : Int) r).2.1.loose.length ≤ 5000 ∧ ∀ (keep : List Bool) (t : Nat), t < 64 → Weak (crI (appendD d g ((needsOf L : Nat) : Int) r).2.1 keep t) n g L ∨ Weak (crI (appendD d g ((needsOf L : Nat) : Int) r).2.1 keep t) n g (L ++ [r])) := by
  have hf := fromOf_le n g (by omega)
  obtain ⟨e1, e2, e3⟩ := append_runD (gen := g) (next := needsOf L) (rec := r) h.up.len hn hc.weak.g1 hg hrl hr
  have hgood : goodOps n (appOps n g (needsOf L) r) := (goodOps.map (recWs_fit (by omega))).app (goodOps.none n)
  rw [e1, e2]
  rcases run_up _ d h.up hgood with ⟨f, hf, hfn⟩ | ⟨hf, k, d', hk, he, hi, hlo, hok, hlen⟩
  · left
    rw [hf] at e3 ⊢
    have er : raw (appOps n g (needsOf L) r) d = { d with img := laidOver d.img (recWs g (needsOf L) (fromOf n g) r), loose := [] } := raw_flushed h.lo _
    refine ⟨rfl, by rw [needsOf_snoc]; exact e3 rfl, ⟨(raw_up _ d h.up hgood).fuse f, by rw [er]⟩, ?_, hfn⟩
    rw [er]
    exact app_done hc hn hr
  · right
    rw [he]
    have hlo5 : d'.loose.length ≤ 5000 := by
      have h1 := raw_loose ((appOps n g (needsOf L) r).take k) d
      rw [h.lo] at h1
      have hh : halfOf n ≤ 500 := by unfold halfOf; omega
      have h2 : (appOps n g (needsOf L) r).length = needOf r.length + 1 := by simp [appOps, recOps, recWs, runW_len]
      rw [h2] at hk
      rw [hlo]
      simp only [List.length_nil, List.length_take] at h1
      omega
    exact ⟨hf, rfl, hlen, hok, hlo5, fun keep t ht => app_crash h.lo hc hn hr hi hlo hok hlen keep ht⟩
/-! ### the vault's calls -/
theorem appendV_run {d : Dev} {n g : Nat} {L : List (List UInt8)} {r : List UInt8} (h : Rdy d n) (hc : Clean d.img n g L) (hn : 8 ≤ n) (hn2 : n ≤ 1000) (hg : g ≤ 2147483647) (hrl : r.length ≤ 1048576) :
    appendV d ⟨g, ((needsOf L : Nat) : Int), false, L⟩ r = (10, d, ⟨g, ((needsOf L : Nat) : Int), false, L⟩) ∨
    (∃ d', appendV d ⟨g, ((needsOf L : Nat) : Int), false, L⟩ r = (0, d', ⟨g, ((needsOf (L ++ [r]) : Nat) : Int), false, L ++ [r]⟩) ∧ Rdy d' n ∧ Clean d'.img n g (L ++ [r])) ∨
    (∃ d' s', appendV d ⟨g, ((needsOf L : Nat) : Int), false, L⟩ r = (22, d', s') ∧ d'.img.length = n ∧ d'.ok ∧ d'.loose.length ≤ 5000 ∧ ∀ (keep : List Bool) (t : Nat), t < 64 → Weak (crI d' keep t) n g L ∨ Weak (crI d' keep t) n g (L ++ [r])) := by
  have hroom := hc.weak.room
  unfold appendV
  simp only [Bool.false_eq_true, if_false]
  rw [if_neg (by omega), h.up.len]
  unfold freeOf
  by_cases hr : (halfOf n : Int) - ((needsOf L : Nat) : Int) < (needOf r.length : Nat)
  · rw [if_pos hr]; exact .inl rfl
  · rw [if_neg hr]
    right
    unfold appendedV
    simp only
    rcases append_run h hc hn hn2 hg hrl (by omega) with ⟨h1, h2, h3, h4, _⟩ | ⟨_, h2, h3, h4, h5, h6⟩
    · left
      rw [if_pos h1, h2]
      exact ⟨_, rfl, h3, h4⟩
    · right
      rw [if_neg (by rw [h2]; simp), h2]
      exact ⟨_, _, rfl, h3, h4, h5, h6⟩
theorem replaceV_run {d : Dev} {n g : Nat} {L L' : List (List UInt8)} (h : Rdy d n) (hc : Clean d.img n g L) (hn : 8 ≤ n) (hn2 : n ≤ 1000) (hg : g ≤ 2147483645) (hrl : ∀ r ∈ L', r.length ≤ 1048576) :
    replaceV d ⟨g, ((needsOf L : Nat) : Int), false, L⟩ L' = (10, d, ⟨g, ((needsOf L : Nat) : Int), false, L⟩) ∨
    (∃ d', replaceV d ⟨g, ((needsOf L : Nat) : Int), false, L⟩ L' = (0, d', ⟨g + 1, ((needsOf L' : Nat) : Int), false, L'⟩) ∧ Rdy d' n ∧ Clean d'.img n (g + 1) L') ∨
    (∃ d' s', replaceV d ⟨g, ((needsOf L : Nat) : Int), false, L⟩ L' = (22, d', s') ∧ d'.img.length = n ∧ d'.ok ∧ d'.loose.length ≤ 5000 ∧ ∀ (keep : List Bool) (t : Nat), t < 64 → Weak (crI d' keep t) n g L ∨ Clean (crI d' keep t) n (g + 1) L') := by
  unfold replaceV
  simp only [Bool.false_eq_true, if_false]
  rw [h.up.len]
  have hlong : longOne L' = false := by
    unfold longOne
    rw [List.any_eq_false]
    intro l hl
    have := hrl l hl
    simp; omega
  by_cases hr : halfOf n < needsOf L'
  · have : fitsOf g n L' = 10 := by unfold fitsOf; rw [if_neg (by omega), hlong, if_neg (by simp), if_pos hr]
    rw [this, if_pos (by simp)]
    exact .inl rfl
  · rw [fits_room hn2 (by omega) (by omega), if_neg (by simp)]
    right
    unfold movedV
    simp only
    rcases moves_any h hc.weak hn hn2 hg (by omega : needsOf L' ≤ halfOf n) with ⟨h1, h2, h3, h4, _⟩ | ⟨_, h2, h3, h4, h5, h6⟩
    · left
      rw [if_pos h1, h2]
      exact ⟨_, rfl, h3, h4⟩
    · right
      rw [if_neg (by rw [h2]; simp), h2]
      exact ⟨_, _, rfl, h3, h4, h5, h6⟩
/-- what a device is behind which a crash comes -/
structure After (d : Dev) (n gl gh : Nat) (P : List (List UInt8) → Prop) : Prop where
  ok : d.ok
  len : d.img.length = n
  lo : d.loose.length ≤ 5000
  cr : ∀ (keep : List Bool) (t : Nat), t < 64 → ∃ g X, gl ≤ g ∧ g ≤ gh ∧ P X ∧ Weak (crI d keep t) n g X
theorem After.live {d : Dev} {n g gl gh : Nat} {L : List (List UInt8)} {P : List (List UInt8) → Prop} (h : Rdy d n) (hw : Weak d.img n g L) (h1 : gl ≤ g) (h2 : g ≤ gh) (hP : P L) : After d n gl gh P :=
  ⟨h.up.ok, h.up.len, by rw [h.lo]; simp, fun keep t _ => ⟨g, L, h1, h2, hP, by rw [crI_nil keep t h.lo]; exact hw⟩⟩
/-- .. and then it runs again -/
theorem After.crash {d : Dev} {n gl gh : Nat} {P : List (List UInt8) → Prop} (h : After d n gl gh P) (keep : List Bool) {t : Nat} (ht : t < 64) (hn : 1 ≤ n) :
    (d.crash keep (t : Int)).1 = 0 ∧ Rdy (d.crash keep (t : Int)).2 n ∧ (d.crash keep (t : Int)).2.fuse = none ∧ ∃ g X, gl ≤ g ∧ g ≤ gh ∧ P X ∧ Weak (d.crash keep (t : Int)).2.img n g X := by
  have hl := h.len; have hok := h.ok
  rw [crash_eq d keep ht]
  refine ⟨rfl, ⟨⟨⟨crI_64 hok keep ht, ?_, ?_, fun x hx => by cases hx⟩, rfl, ?_⟩, rfl⟩, rfl, h.cr keep t ht⟩
  · show (crI d keep t).length ≤ 65536
    rw [crI_len]; exact hok.len
  · show 1 ≤ (crI d keep t).length
    rw [crI_len, hl]; exact hn
  · show (crI d keep t).length = n
    rw [crI_len]; exact hl
theorem Rdy.fuse {d : Dev} {n : Nat} (h : Rdy d n) {k : Int} (hk : 0 ≤ k) : d.setFuse k = (0, { d with fuse := some k.toNat }) ∧ Rdy { d with fuse := some k.toNat } n := by
  refine ⟨?_, h.up.fuse _, h.lo⟩
  unfold Dev.setFuse
  rw [h.up.run, if_neg (by simp), if_neg (by omega)]
end Go.Proofs.Ytlondopgibcikaa
namespace Go.Proofs.Ytlondopgibcikaa
theorem seq_runD {N : Nat} (fs : Nat → Dev → Int × Dev) (os : Nat → List DOp) (h : ∀ j d, d.img.length = N → fs j d = runD (os j) d) : ∀ (n k : Nat) (d : Dev), d.img.length = N → seqOf fs k n d = runD ((List.range' k n).flatMap os) d
  | 0, _, _, _ => rfl
  | n + 1, k, d, hd => by
    rw [List.range'_succ, List.flatMap_cons, run_app]
    unfold seqOf
    simp only
    rw [h k d hd]
    by_cases h0 : (runD (os k) d).1 = 0
    · rw [if_pos h0, if_pos h0, seq_runD fs os h n (k + 1) _ (by rw [run_len]; exact hd)]
    · rw [if_neg h0, if_neg h0]
/-- what Format asks -/
def fmtOps (N k : Nat) : List DOp := if k = 0 then [some (0, zr 64)] else if k = 1 then [some (1, zr 64)] else if k = 2 then [none] else if k = 3 then blankOps (fromOf N 1) (halfOf N) ++ [none] else supOps N 1
theorem format_ops {N : Nat} (hN : 8 ≤ N) (j : Nat) (d : Dev) (hd : d.img.length = N) : formatFs j d = runD (fmtOps N j) d := by
  unfold formatFs fmtOps
  by_cases h0 : j = 0
  · rw [if_pos h0, if_pos h0, run_one]; rfl
  · rw [if_neg h0, if_neg h0]
    by_cases h1 : j = 1
    · rw [if_pos h1, if_pos h1, run_one]; rfl
    · rw [if_neg h1, if_neg h1]
      by_cases h2 : j = 2
      · rw [if_pos h2, if_pos h2, run_one]; rfl
      · rw [if_neg h2, if_neg h2]
        by_cases h3 : j = 3
        · rw [if_pos h3, if_pos h3]
          have hf := fromOf_le N 1 (by omega)
          unfold blankD
          rw [hd]
          have := blankOf_runD (d := d) (f := fromOf N 1) (t := fromOf N 1 + halfOf N) (g := 1) (by omega) (by omega) (by omega) (by omega)
          rw [this, Nat.add_sub_cancel_left]
        · rw [if_neg h3, if_neg h3, counts_runD, hd]
theorem laid_zr {x : Nat} : ∀ {ws : List (Nat × List UInt8)} {img : List (List UInt8)}, (∀ y ∈ ws, y.2 = zr 64) → img[x]? = some (zr 64) → (laidOver img ws)[x]? = some (zr 64)
  | [], _, _, h => h
  | y :: ws, img, hw, h => by
    refine laid_zr (ws := ws) (img := img.set y.1 y.2) (fun z hz => hw z (List.mem_cons_of_mem _ hz)) ?_
    have hx := (List.getElem?_eq_some_iff.1 h).1
    by_cases hy : y.1 = x
    · subst hy
      rw [List.getElem?_set_self hx, hw y (by simp)]
    · rw [List.getElem?_set_ne hy]; exact h
theorem format_new {N : Nat} (hN : 8 ≤ N) (hN2 : N ≤ 65536) : (formatD (Dev.new N)).1 = 0 ∧ Rdy (formatD (Dev.new N)).2 N ∧ (formatD (Dev.new N)).2.fuse = none ∧ Clean (formatD (Dev.new N)).2.img N 1 [] := by
  have hl : (Dev.new N).img.length = N := by simp [Dev.new]
  have hup : Up (Dev.new N) N := ⟨Dev.new_ok (by omega) hN2, rfl, hl⟩
  have hf := fromOf_le N 1 (by omega)
  have h2 := from_two N 1
  have hnew : ∀ x, x < N → (Dev.new N).img[x]? = some (zr 64) := fun x hx => by
    show (List.replicate N (List.replicate 64 0))[x]? = _
    rw [List.getElem?_replicate, if_pos hx]; rfl
  have e1 : formatD (Dev.new N) = runD ((List.range' 0 5).flatMap (fmtOps N)) (Dev.new N) := by
    unfold formatD
    rw [hl, if_neg (by omega)]
    exact seq_runD formatFs (fmtOps N) (format_ops hN) 5 0 _ hl
  have e2 : (List.range' 0 5).flatMap (fmtOps N) = (([(0, zr 64), (1, zr 64)].map some) ++ [none]) ++ (((runW 0 (fun _ => zr 64) (fromOf N 1) (halfOf N)).map some ++ [none]) ++ supOps N 1) := by
    rw [← blankOps_some]
    simp [List.range'_succ, fmtOps]
  have hgood : goodOps N ((List.range' 0 5).flatMap (fmtOps N)) := by
    rw [e2]
    refine ((goodOps.map fun y hy => ?_).app (goodOps.none N)).app (((goodOps.map fun y hy => ?_).app (goodOps.none N)).app fun x hx => ?_)
    · simp at hy
      rcases hy with rfl | rfl
      · exact ⟨by simp only; omega, rfl⟩
      · exact ⟨by simp only; omega, rfl⟩
    · have := blanks_in hy; exact ⟨by omega, this.2⟩
    · simp [supOps] at hx; subst hx
      exact ⟨by simp only; omega, supSec_len _ _⟩
  rw [e1]
  rcases run_up _ _ hup hgood with ⟨f, hr, hfn⟩ | ⟨h0, _⟩
  · rw [hr, hfn rfl]
    have hraw : raw ((List.range' 0 5).flatMap (fmtOps N)) (Dev.new N) = { Dev.new N with img := (laidOver (laidOver (Dev.new N).img [(0, zr 64), (1, zr 64)]) (runW 0 (fun _ => zr 64) (fromOf N 1) (halfOf N))).set 1 (supSec 1 N), loose := [] } := by
      rw [e2, raw_app, raw_flushed rfl, raw_app, raw_flushed rfl]
      rfl
    have hz : ∀ x, x < N → (laidOver (laidOver (Dev.new N).img [(0, zr 64), (1, zr 64)]) (runW 0 (fun _ => zr 64) (fromOf N 1) (halfOf N)))[x]? = some (zr 64) := fun x hx => by
      refine laid_zr (fun y hy => ?_) (laid_zr (fun y hy => ?_) (hnew x hx))
      · obtain ⟨j, _, _, rfl⟩ := runW_mem hy; rfl
      · simp at hy; rcases hy with rfl | rfl <;> rfl
    have hlen : (laidOver (laidOver (Dev.new N).img [(0, zr 64), (1, zr 64)]) (runW 0 (fun _ => zr 64) (fromOf N 1) (halfOf N))).length = N := by rw [laid_len, laid_len, hl]
    have hu := raw_up _ _ hup hgood
    refine ⟨rfl, ⟨hu.fuse none, by rw [hraw]⟩, rfl, ?_⟩
    have h64 : S64 (raw ((List.range' 0 5).flatMap (fmtOps N)) (Dev.new N)).img := hu.ok.s64
    rw [hraw] at h64 ⊢
    simp only at h64 ⊢
    have hat : ∀ i, i < halfOf N → atI ((laidOver (laidOver (Dev.new N).img [(0, zr 64), (1, zr 64)]) (runW 0 (fun _ => zr 64) (fromOf N 1) (halfOf N))).set 1 (supSec 1 N)) (fromOf N 1) i = zr 64 := fun i hi => by
      unfold atI
      rw [List.getD_eq_getElem?_getD, List.getElem?_set_ne (by omega), hz _ (by omega)]; rfl
    refine Clean.of (by rw [List.length_set]; exact hlen) h64 (Nat.le_refl _) ?_ ⟨0, zr 64, ?_, rfl, by omega, .inl rfl, ?_⟩ (Nat.zero_le _) trivial fun i _ hi => hat i hi
    · rw [show 1 % 2 = 1 from rfl, List.getElem?_set_self (by omega)]
    · rw [show (1 + 1) % 2 = 0 from rfl, List.getElem?_set_ne (by omega), hz 0 (by omega)]; rfl
    · intro h
      rw [List.take_zero, List.nil_append, List.drop_zero] at h
      have h3 := congrArg (fun l => l.take 32) h
      simp only [sup_take] at h3
      exact half_no _ _ (by rw [← h3]; rfl)
  · exact absurd rfl h0
end Go.Proofs.Ytlondopgibcikaa
