/- A device, plainly; how it lies in memory. -/
import Derived.Test.YtlondopgibcikaaRows
import Derived.Test.YtlondopgibcikaaHeap
import Derived.Deep.MidRow
import Derived.Laws.CopyRow
namespace Go.Proofs.Ytlondopgibcikaa
open Go.RowKit Ent

/-! ### Sectors one behind the other -/
def S64 (L : List (List UInt8)) : Prop := ∀ s ∈ L, s.length = 64
theorem S64.set {L : List (List UInt8)} (h : S64 L) (i : Nat) {b : List UInt8} (hb : b.length = 64) : S64 (L.set i b) := fun s hs => by
  rcases List.mem_or_eq_of_mem_set hs with h1 | rfl
  · exact h s h1
  · exact hb
theorem S64.get {L : List (List UInt8)} (h : S64 L) {i : Nat} {s : List UInt8} (hs : L[i]? = some s) : s.length = 64 := h s (List.mem_of_getElem? hs)
theorem S64.len {L : List (List UInt8)} (h : S64 L) : L.flatten.length = 64 * L.length := by
  induction L with
  | nil => rfl
  | cons a L ih =>
    rw [List.flatten_cons, List.length_append, List.length_cons, ih (fun s hs => h s (by simp [hs])), h a (by simp)]; omega
theorem S64.at {L : List (List UInt8)} (h : S64 L) {i : Nat} {s : List UInt8} (hs : L[i]? = some s) (j : Nat) (hj : j < 64) : L.flatten[64 * i + j]? = s[j]? := by
  induction L generalizing i with
  | nil => simp at hs
  | cons a L ih =>
    have ha := h a (by simp)
    rw [List.flatten_cons]
    match i with
    | 0 =>
      simp at hs; subst hs
      rw [List.getElem?_append_left (by omega)]; simp
    | i + 1 =>
      simp at hs
      rw [List.getElem?_append_right (by omega), show 64 * (i + 1) + j - a.length = 64 * i + j by omega]
      exact ih (fun s hs => h s (by simp [hs])) hs
theorem S64.flat_set {L : List (List UInt8)} (h : S64 L) {i : Nat} (hi : i < L.length) (b : List UInt8) : (L.set i b).flatten = L.flatten.take (64 * i) ++ b ++ L.flatten.drop (64 * i + 64) := by
  induction L generalizing i with
  | nil => simp at hi
  | cons a L ih =>
    have ha := h a (by simp)
    match i with
    | 0 =>
      rw [List.set_cons_zero, List.flatten_cons, List.flatten_cons, List.drop_append, List.drop_of_length_le (by omega)]
      simp [ha]
    | i + 1 =>
      rw [List.set_cons_succ, List.flatten_cons, List.flatten_cons, ih (fun s hs => h s (by simp [hs])) (by simp at hi; omega), List.take_append, List.drop_append, List.take_of_length_le (show a.length ≤ 64 * (i + 1) by omega), List.drop_of_length_le (show a.length ≤ 64 * (i + 1) + 64 by omega),
        show 64 * (i + 1) - a.length = 64 * i by omega, show 64 * (i + 1) + 64 - a.length = 64 * i + 64 by omega]
      simp
/-! ### A block of cells, whole -/
def Blk (w : World) (g : Nat) (T : TypeId) (vs : List Value) : Prop := w.heap[g]? = some (.cells vs.toArray T (0, 0))
theorem Blk.cell {w : World} {g : Nat} {T : TypeId} {vs : List Value} (h : Blk w g T vs) {j : Nat} {v : Value} (hj : vs[j]? = some v) : w.cell? ⟨g, j, none⟩ = some v := cell_blk h (by simpa using hj)
theorem Blk.free {w : World} {g : Nat} {T : TypeId} {vs : List Value} (h : Blk w g T vs) (j : Nat) : w.frozen? ⟨g, j, none⟩ = false := free_blk h j
theorem Blk.lt {w : World} {g : Nat} {T : TypeId} {vs : List Value} (h : Blk w g T vs) : g < w.heap.size := lt_blk h
theorem Blk.keep {w w' : World} {F : Nat → Prop} {g : Nat} {T : TypeId} {vs : List Value} (h : Blk w g T vs) (hk : Keep F w w') (hF : ¬ F g) : Blk w' g T vs := hk.blk h hF
theorem Blk.below {w w' : World} {B g : Nat} {T : TypeId} {vs : List Value} (h : Blk w g T vs) (hk : Below B w w') (hF : g < B) : Blk w' g T vs := (hk.block g hF).trans h
theorem Blk.there {w : World} {g : Nat} {T : TypeId} {vs : List Value} (h : Blk w g T vs) {o n : Nat} (hn : o + n ≤ vs.length) : w.there g o n := fun j hj =>
  ⟨by rw [h.cell (v := vs[o + j]) (List.getElem?_eq_getElem (by omega))]; rfl, h.free _⟩
theorem Blk.range {w : World} {g : Nat} {T : TypeId} {vs cs : List Value} (h : Blk w g T vs) {o : Nat} (hc : ∀ j v, cs[j]? = some v → vs[o + j]? = some v) : w.rangeAt g o cs := fun j v hv => h.cell (hc j v hv)
theorem Blk.set {w : World} {g : Nat} {T : TypeId} {vs : List Value} (h : Blk w g T vs) (j : Nat) (v : Value) : Blk (w.setCell ⟨g, j, none⟩ v) g T (vs.set j v) := by
  have := set_blk h j v
  unfold Blk; rw [this]; simp
theorem Blk.other {w : World} {g : Nat} {T : TypeId} {vs : List Value} (h : Blk w g T vs) (a : Addr) (v : Value) (hne : g ≠ a.block) : Blk (w.setCell a v) g T vs := set_other h v hne
theorem Blk.drew {w : World} {g : Nat} {T : TypeId} {vs : List Value} (h : Blk w g T vs) : Blk w.drew g T vs := h
theorem Blk.alloc {w : World} {g : Nat} {T : TypeId} {vs : List Value} (h : Blk w g T vs) (o : Obj) : Blk (w.alloc o) g T vs := alloc_old h o
theorem Blk.setCells {g : Nat} {T : TypeId} : ∀ (cs vs : List Value) (o : Nat) {w : World}, Blk w g T vs → o + cs.length ≤ vs.length → Blk (w.setCells g o cs) g T (vs.take o ++ cs ++ vs.drop (o + cs.length))
  | [], vs, o, w, h, _ => by simpa [World.setCells] using h
  | v :: cs, vs, o, w, h, hl => by
    simp at hl
    have := Blk.setCells cs (vs.set o v) (o + 1) (h.set o v) (by simp; omega)
    rw [World.setCells]
    have e : (vs.set o v).take (o + 1) ++ cs ++ (vs.set o v).drop (o + 1 + cs.length) = vs.take o ++ (v :: cs) ++ vs.drop (o + (v :: cs).length) := by
      rw [List.drop_set_of_lt (by omega), List.take_add_one, List.take_set_of_le (Nat.le_refl o), List.getElem?_set_self (by omega)]
      simp [Nat.add_assoc, Nat.add_comm 1]
    rwa [e] at this
theorem Blk.otherCells {w : World} {g : Nat} {T : TypeId} {vs : List Value} (h : Blk w g T vs) (k o : Nat) (cs : List Value) (hne : g ≠ k) : Blk (w.setCells k o cs) g T vs := by
  induction cs generalizing w o with
  | nil => exact h
  | cons v cs ih => exact ih (h.other _ v hne) (o + 1)
theorem size_setCells' (b : Nat) : ∀ (vs : List Value) (o : Nat) (w : World), (w.setCells b o vs).heap.size = w.heap.size
  | [], _, _ => rfl
  | v :: r, o, w => by rw [World.setCells, size_setCells' b r (o + 1)]; simp [World.setCell]
theorem Keep.setCells {F : Nat → Prop} {a : World} {g : Nat} (hg : F g) : ∀ (cs : List Value) (o : Nat) {w : World}, Keep F a w → Keep F a (w.setCells g o cs)
  | [], _, _, h => h
  | v :: r, o, _, h => Keep.setCells hg r (o + 1) (h.setCell (p := ⟨g, o, none⟩) hg v)
theorem drew_cells (b : Nat) : ∀ (vs : List Value) (o : Nat) (w : World), (w.setCells b o vs).drew = w.drew.setCells b o vs
  | [], _, _ => rfl
  | v :: r, o, w => by rw [World.setCells, drew_cells b r (o + 1)]; rfl
theorem Blk.sec {w : World} {g : Nat} {T : TypeId} {L : List (List UInt8)} (h : Blk w g T (bv L.flatten)) (hs : S64 L) {i : Nat} {s : List UInt8} (hi : L[i]? = some s) : w.rangeAt g (i * 64) (bv s) :=
  h.range fun j v hv => by
    have h64 := hs.get hi
    have hj : j < 64 := by
      have := (List.getElem?_eq_some_iff.1 hv).1; simp at this; omega
    rw [bv_get] at hv ⊢
    rw [show i * 64 + j = 64 * i + j by omega, hs.at hi j hj]; exact hv
theorem Blk.put {w : World} {g : Nat} {T : TypeId} {L : List (List UInt8)} (h : Blk w g T (bv L.flatten)) (hs : S64 L) {i : Nat} (hi : i < L.length) {b : List UInt8} (hb : b.length = 64) : Blk (w.setCells g (i * 64) (bv b)) g T (bv (L.set i b).flatten) := by
  have := h.setCells (bv b) _ (i * 64) (by rw [bv_length, bv_length, hs.len]; omega)
  rw [hs.flat_set hi, bv_append, bv_append, show 64 * i = i * 64 by omega]
  rw [bv_length, hb] at this
  simpa [bv, List.map_take, List.map_drop] using this
theorem Blk.secThere {w : World} {g : Nat} {T : TypeId} {L : List (List UInt8)} (h : Blk w g T (bv L.flatten)) (hs : S64 L) {i : Nat} (hi : i < L.length) : w.there g (i * 64) 64 :=
  h.there (by rw [bv_length, hs.len]; omega)

/-! ### A device, plainly -/
structure Dev where
  img : List (List UInt8)
  loose : List (Nat × List UInt8)
  fuse : Option Nat
  out : Bool
def laidOver (img : List (List UInt8)) (l : List (Nat × List UInt8)) : List (List UInt8) := l.foldl (fun a w => a.set w.1 w.2) img
def Dev.now (d : Dev) : List (List UInt8) := laidOver d.img d.loose
theorem laid_len (l : List (Nat × List UInt8)) : ∀ img, (laidOver img l).length = img.length := by
  induction l with
  | nil => intro img; rfl
  | cons a l ih => intro img; show (laidOver (img.set a.1 a.2) l).length = _; rw [ih]; simp
theorem laid_snoc (img : List (List UInt8)) (l : List (Nat × List UInt8)) (x : Nat × List UInt8) : laidOver img (l ++ [x]) = (laidOver img l).set x.1 x.2 := by simp [laidOver]
theorem laid_64 {l : List (Nat × List UInt8)} (hl : ∀ x ∈ l, x.2.length = 64) : ∀ {img}, S64 img → S64 (laidOver img l) := by
  induction l with
  | nil => intro img h; exact h
  | cons a l ih => intro img h; exact ih (fun x hx => hl x (by simp [hx])) (h.set _ (hl a (by simp)))
structure Dev.ok (d : Dev) : Prop where
  s64 : S64 d.img
  len : d.img.length ≤ 65536
  pos : 1 ≤ d.img.length
  lo : ∀ x ∈ d.loose, x.1 < d.img.length ∧ x.2.length = 64
theorem Dev.ok.now64 {d : Dev} (h : d.ok) : S64 d.now := laid_64 (fun x hx => (h.lo x hx).2) h.s64
theorem Dev.now_len (d : Dev) : d.now.length = d.img.length := laid_len _ _
/-- what has burned: may one more be done? -/
def Dev.through (d : Dev) : Bool × Dev :=
  match d.fuse with
  | some 0 => (false, { d with out := true })
  | some (k + 1) => (true, { d with fuse := some k })
  | none => (true, d)
def has (n : Nat) (i : Int) : Bool := decide (0 ≤ i) && decide (i < n)
def Dev.write (d : Dev) (i : Int) (b : List UInt8) : Int × Dev :=
  if d.out then (22, d) else if has d.img.length i = false then (3, d) else if b.length ≠ 64 then (2, d)
  else if d.through.1 = false then (22, d.through.2) else (0, { d.through.2 with loose := d.loose ++ [(i.toNat, b)] })
def Dev.flush (d : Dev) : Int × Dev :=
  if d.out then (22, d) else if d.through.1 = false then (22, d.through.2) else (0, { d.through.2 with img := d.now, loose := [] })
def Dev.setFuse (d : Dev) (n : Int) : Int × Dev :=
  if d.out then (22, d) else if n < 0 then (2, d) else (0, { d with fuse := some n.toNat })
/-- kept writes laid over; the place of the last one that was not kept -/
def keptOf (keep : List Bool) : Nat → List (Nat × List UInt8) → List (Nat × List UInt8)
  | _, [] => []
  | k, x :: l => if keep[k]? = some true then x :: keptOf keep (k + 1) l else keptOf keep (k + 1) l
def lastOf (keep : List Bool) : Nat → List (Nat × List UInt8) → Option (Nat × List UInt8)
  | _, [] => none
  | k, x :: l => match lastOf keep (k + 1) l with
    | some y => some y
    | none => if keep[k]? = some true then none else some x
def tornIn (L : List (List UInt8)) (x : Option (Nat × List UInt8)) (torn : Nat) : List (List UInt8) :=
  match x with
  | none => L
  | some x => L.set x.1 (x.2.take torn ++ (L.getD x.1 []).drop torn)
def Dev.crash (d : Dev) (keep : List Bool) (torn : Int) : Int × Dev :=
  if torn < 0 ∨ 64 ≤ torn then (2, d)
  else (0, { img := tornIn (laidOver d.img (keptOf keep 0 d.loose)) (lastOf keep 0 d.loose) torn.toNat, loose := [], fuse := none, out := false })
def secOf (L : List (List UInt8)) (i : Int) : List UInt8 × Int := if has L.length i = false then ([], 3) else (L.getD i.toNat [], 0)
def Dev.read (d : Dev) (i : Int) : List UInt8 × Int := if d.out then ([], 22) else secOf d.now i
def Dev.image (d : Dev) (i : Int) : List UInt8 × Int := secOf d.img i
def Dev.new (n : Nat) : Dev := { img := List.replicate n (List.replicate 64 0), loose := [], fuse := none, out := false }
theorem Dev.new_ok {n : Nat} (h1 : 1 ≤ n) (h2 : n ≤ 65536) : (Dev.new n).ok :=
  ⟨fun s hs => by simp [Dev.new] at hs; rw [hs.2]; simp, by simpa [Dev.new] using h2, by simpa [Dev.new] using h1, fun x hx => by simp [Dev.new] at hx⟩
theorem Dev.new_flat (n : Nat) : (Dev.new n).img.flatten = List.replicate (n * 64) 0 := List.flatten_replicate_replicate
end Go.Proofs.Ytlondopgibcikaa
