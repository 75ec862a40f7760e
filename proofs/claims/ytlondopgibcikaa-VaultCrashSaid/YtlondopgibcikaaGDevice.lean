/- A device, plainly; how it lies in memory. The walks of a device's small methods. The walks of what a device tells. The walks of what turns a device. The walks of Flush and New. The walk of Crash. The walks of entrepotlaw05's helpers. -/
import Derived.Test.YtlondopgibcikaaRows
import Derived.Test.YtlondopgibcikaaGBase
import Derived.Test.YtlondopgibcikaaGCrc
import Derived.Deep.MidRow
import Derived.Laws.CopyRow
import Derived.WalkKit
import Derived.WalkSpells
import Derived.WalkLawsBesides
import Derived.Deep.RegionHeld3
import Derived.Lib.SliceRun
import Derived.Great.BuildSlice
import Derived.Laws.EntriesVeiled
import Derived.Great.FillDense
import Derived.Great.Walk
import Derived.Maps.AppendAt
namespace Go.Proofs.Ytlondopgibcikaa
open Go.RowKit Ent

/-! ### Sectors one behind the other -/
def S64 (L : List (List UInt8)) : Prop := ∀ s ∈ L, s.length = 64
theorem S64.set {L : List (List UInt8)} (h : S64 L) (i : Nat) {b : List UInt8} (hb : b.length = 64) : S64 (L.set i b) := fun s hs => by
  rcases List.mem_or_eq_of_mem_set hs with h1 | rfl
  · exact h s h1
  · exact hb
theorem S64.get {L : List (List UInt8)} (h : S64 L) {i : Nat} {s : List UInt8} (hs : L[i]? = some s) : s.length = 64 := h s (List.mem_of_getElem? hs)
theorem S64.len {L : List (List UInt8)} (h : S64 L) : L.flatten.length = 64 * L.length := by
  induction L with
  | nil => rfl
  | cons a L ih =>
    rw [List.flatten_cons, List.length_append, List.length_cons, ih (fun s hs => h s (by simp [hs])), h a (by simp)]; omega
theorem S64.at {L : List (List UInt8)} (h : S64 L) {i : Nat} {s : List UInt8} (hs : L[i]? = some s) (j : Nat) (hj : j < 64) : L.flatten[64 * i + j]? = s[j]? := by
  induction L generalizing i with
  | nil => simp at hs
  | cons a L ih =>
    have ha := h a (by simp)
    rw [List.flatten_cons]
    match i with
    | 0 =>
      simp at hs; subst hs
      rw [List.getElem?_append_left (by omega)]; simp
    | i + 1 =>
      simp at hs
      rw [List.getElem?_append_right (by omega), show 64 * (i + 1) + j - a.length = 64 * i + j by omega]
      exact ih (fun s hs => h s (by simp [hs])) hs
theorem S64.flat_set {L : List (List UInt8)} (h : S64 L) {i : Nat} (hi : i < L.length) (b : List UInt8) : (L.set i b).flatten = L.flatten.take (64 * i) ++ b ++ L.flatten.drop (64 * i + 64) := by
  induction L generalizing i with
  | nil => simp at hi
  | cons a L ih =>
    have ha := h a (by simp)
    match i with
    | 0 =>
      rw [List.set_cons_zero, List.flatten_cons, List.flatten_cons, List.drop_append, List.drop_of_length_le (by omega)]
      simp [ha]
    | i + 1 =>
      rw [List.set_cons_succ, List.flatten_cons, List.flatten_cons, ih (fun s hs => h s (by simp [hs])) (by simp at hi; omega), List.take_append, List.drop_append, List.take_of_length_le (show a.length ≤ 64 * (i + 1) by omega), List.drop_of_length_le (show a.length ≤ 64 * (i + 1) + 64 by omega),
        show 64 * (i + 1) - a.length = 64 * i by omega, show 64 * (i + 1) + 64 - a.length = 64 * i + 64 by omega]
      simp
/-! ### A block of cells, whole -/
def Blk (w : World) (g : Nat) (T : TypeId) (vs : List Value) : Prop := w.heap[g]? = some (.cells vs.toArray T (0, 0))
theorem Blk.cell {w : World} {g : Nat} {T : TypeId} {vs : List Value} (h : Blk w g T vs) {j : Nat} {v : Value} (hj : vs[j]? = some v) : w.cell? ⟨g, j, none⟩ = some v := cell_blk h (by simpa using hj)
theorem Blk.free {w : World} {g : Nat} {T : TypeId} {vs : List Value} (h : Blk w g T vs) (j : Nat) : w.frozen? ⟨g, j, none⟩ = false := free_blk h j
theorem Blk.lt {w : World} {g : Nat} {T : TypeId} {vs : List Value} (h : Blk w g T vs) : g < w.heap.size := lt_blk h
theorem Blk.keep {w w' : World} {F : Nat → Prop} {g : Nat} {T : TypeId} {vs : List Value} (h : Blk w g T vs) (hk : Keep F w w') (hF : ¬ F g) : Blk w' g T vs := hk.blk h hF
theorem Blk.below {w w' : World} {B g : Nat} {T : TypeId} {vs : List Value} (h : Blk w g T vs) (hk : Below B w w') (hF : g < B) : Blk w' g T vs := (hk.block g hF).trans h
theorem Blk.there {w : World} {g : Nat} {T : TypeId} {vs : List Value} (h : Blk w g T vs) {o n : Nat} (hn : o + n ≤ vs.length) : w.there g o n := fun j hj =>
  ⟨by rw [h.cell (v := vs[o + j]) (List.getElem?_eq_getElem (by omega))]; rfl, h.free _⟩
theorem Blk.range {w : World} {g : Nat} {T : TypeId} {vs cs : List Value} (h : Blk w g T vs) {o : Nat} (hc : ∀ j v, cs[j]? = some v → vs[o + j]? = some v) : w.rangeAt g o cs := fun j v hv => h.cell (hc j v hv)
theorem Blk.set {w : World} {g : Nat} {T : TypeId} {vs : List Value} (h : Blk w g T vs) (j : Nat) (v : Value) : Blk (w.setCell ⟨g, j, none⟩ v) g T (vs.set j v) := by
  have := set_blk h j v
  unfold Blk; rw [this]; simp
theorem Blk.other {w : World} {g : Nat} {T : TypeId} {vs : List Value} (h : Blk w g T vs) (a : Addr) (v : Value) (hne : g ≠ a.block) : Blk (w.setCell a v) g T vs := set_other h v hne
theorem Blk.drew {w : World} {g : Nat} {T : TypeId} {vs : List Value} (h : Blk w g T vs) : Blk w.drew g T vs := h
theorem Blk.alloc {w : World} {g : Nat} {T : TypeId} {vs : List Value} (h : Blk w g T vs) (o : Obj) : Blk (w.alloc o) g T vs := alloc_old h o
theorem Blk.setCells {g : Nat} {T : TypeId} : ∀ (cs vs : List Value) (o : Nat) {w : World}, Blk w g T vs → o + cs.length ≤ vs.length → Blk (w.setCells g o cs) g T (vs.take o ++ cs ++ vs.drop (o + cs.length))
  | [], vs, o, w, h, _ => by simpa [World.setCells] using h
  | v :: cs, vs, o, w, h, hl => by
    simp at hl
    have := Blk.setCells cs (vs.set o v) (o + 1) (h.set o v) (by simp; omega)
    rw [World.setCells]
    have e : (vs.set o v).take (o + 1) ++ cs ++ (vs.set o v).drop (o + 1 + cs.length) = vs.take o ++ (v :: cs) ++ vs.drop (o + (v :: cs).length) := by
      rw [List.drop_set_of_lt (by omega), List.take_add_one, List.take_set_of_le (Nat.le_refl o), List.getElem?_set_self (by omega)]
      simp [Nat.add_assoc, Nat.add_comm 1]
    rwa [e] at this
theorem Blk.otherCells {w : World} {g : Nat} {T : TypeId} {vs : List Value} (h : Blk w g T vs) (k o : Nat) (cs : List Value) (hne : g ≠ k) : Blk (w.setCells k o cs) g T vs := by
  induction cs generalizing w o with
  | nil => exact h
  | cons v cs ih => exact ih (h.other _ v hne) (o + 1)
theorem size_setCells' (b : Nat) : ∀ (vs : List Value) (o : Nat) (w : World), (w.setCells b o vs).heap.size = w.heap.size
  | [], _, _ => rfl
  | v :: r, o, w => by rw [World.setCells, size_setCells' b r (o + 1)]; simp [World.setCell]
theorem Keep.setCells {F : Nat → Prop} {a : World} {g : Nat} (hg : F g) : ∀ (cs : List Value) (o : Nat) {w : World}, Keep F a w → Keep F a (w.setCells g o cs)
  | [], _, _, h => h
  | v :: r, o, _, h => Keep.setCells hg r (o + 1) (h.setCell (p := ⟨g, o, none⟩) hg v)
theorem drew_cells (b : Nat) : ∀ (vs : List Value) (o : Nat) (w : World), (w.setCells b o vs).drew = w.drew.setCells b o vs
  | [], _, _ => rfl
  | v :: r, o, w => by rw [World.setCells, drew_cells b r (o + 1)]; rfl
theorem Blk.sec {w : World} {g : Nat} {T : TypeId} {L : List (List UInt8)} (h : Blk w g T (bv L.flatten)) (hs : S64 L) {i : Nat} {s : List UInt8} (hi : L[i]? = some s) : w.rangeAt g (i * 64) (bv s) :=
  h.range fun j v hv => by
    have h64 := hs.get hi
    have hj : j < 64 := by
      have := (List.getElem?_eq_some_iff.1 hv).1; simp at this; omega
    rw [bv_get] at hv ⊢
    rw [show i * 64 + j = 64 * i + j by omega, hs.at hi j hj]; exact hv
theorem Blk.put {w : World} {g : Nat} {T : TypeId} {L : List (List UInt8)} (h : Blk w g T (bv L.flatten)) (hs : S64 L) {i : Nat} (hi : i < L.length) {b : List UInt8} (hb : b.length = 64) : Blk (w.setCells g (i * 64) (bv b)) g T (bv (L.set i b).flatten) := by
  have := h.setCells (bv b) _ (i * 64) (by rw [bv_length, bv_length, hs.len]; omega)
  rw [hs.flat_set hi, bv_append, bv_append, show 64 * i = i * 64 by omega]
  rw [bv_length, hb] at this
  simpa [bv, List.map_take, List.map_drop] using this
theorem Blk.secThere {w : World} {g : Nat} {T : TypeId} {L : List (List UInt8)} (h : Blk w g T (bv L.flatten)) (hs : S64 L) {i : Nat} (hi : i < L.length) : w.there g (i * 64) 64 :=
  h.there (by rw [bv_length, hs.len]; omega)

/-! ### A device, plainly -/
structure Dev where
  img : List (List UInt8)
  loose : List (Nat × List UInt8)
  fuse : Option Nat
  out : Bool
def laidOver (img : List (List UInt8)) (l : List (Nat × List UInt8)) : List (List UInt8) := l.foldl (fun a w => a.set w.1 w.2) img
def Dev.now (d : Dev) : List (List UInt8) := laidOver d.img d.loose
theorem laid_len (l : List (Nat × List UInt8)) : ∀ img, (laidOver img l).length = img.length := by
  induction l with
  | nil => intro img; rfl
  | cons a l ih => intro img; show (laidOver (img.set a.1 a.2) l).length = _; rw [ih]; simp
theorem laid_snoc (img : List (List UInt8)) (l : List (Nat × List UInt8)) (x : Nat × List UInt8) : laidOver img (l ++ [x]) = (laidOver img l).set x.1 x.2 := by simp [laidOver]
theorem laid_64 {l : List (Nat × List UInt8)} (hl : ∀ x ∈ l, x.2.length = 64) : ∀ {img}, S64 img → S64 (laidOver img l) := by
  induction l with
  | nil => intro img h; exact h
  | cons a l ih => intro img h; exact ih (fun x hx => hl x (by simp [hx])) (h.set _ (hl a (by simp)))
structure Dev.ok (d : Dev) : Prop where
  s64 : S64 d.img
  len : d.img.length ≤ 65536
  pos : 1 ≤ d.img.length
  lo : ∀ x ∈ d.loose, x.1 < d.img.length ∧ x.2.length = 64
theorem Dev.ok.now64 {d : Dev} (h : d.ok) : S64 d.now := laid_64 (fun x hx => (h.lo x hx).2) h.s64
theorem Dev.now_len (d : Dev) : d.now.length = d.img.length := laid_len _ _
/-- what has burned: may one more be done? -/
def Dev.through (d : Dev) : Bool × Dev :=
  match d.fuse with
  | some 0 => (false, { d with out := true })
  | some (k + 1) => (true, { d with fuse := some k })
  | none => (true, d)
def has (n : Nat) (i : Int) : Bool := decide (0 ≤ i) && decide (i < n)
def Dev.write (d : Dev) (i : Int) (b : List UInt8) : Int × Dev :=
  if d.out then (22, d) else if has d.img.length i = false then (3, d) else if b.length ≠ 64 then (2, d)
  else if d.through.1 = false then (22, d.through.2) else (0, { d.through.2 with loose := d.loose ++ [(i.toNat, b)] })
def Dev.flush (d : Dev) : Int × Dev :=
  if d.out then (22, d) else if d.through.1 = false then (22, d.through.2) else (0, { d.through.2 with img := d.now, loose := [] })
def Dev.setFuse (d : Dev) (n : Int) : Int × Dev :=
  if d.out then (22, d) else if n < 0 then (2, d) else (0, { d with fuse := some n.toNat })
/-- kept writes laid over; the place of the last one that was not kept -/
def keptOf (keep : List Bool) : Nat → List (Nat × List UInt8) → List (Nat × List UInt8)
  | _, [] => []
  | k, x :: l => if keep[k]? = some true then x :: keptOf keep (k + 1) l else keptOf keep (k + 1) l
def lastOf (keep : List Bool) : Nat → List (Nat × List UInt8) → Option (Nat × List UInt8)
  | _, [] => none
  | k, x :: l => match lastOf keep (k + 1) l with
    | some y => some y
    | none => if keep[k]? = some true then none else some x
def tornIn (L : List (List UInt8)) (x : Option (Nat × List UInt8)) (torn : Nat) : List (List UInt8) :=
  match x with
  | none => L
  | some x => L.set x.1 (x.2.take torn ++ (L.getD x.1 []).drop torn)
def Dev.crash (d : Dev) (keep : List Bool) (torn : Int) : Int × Dev :=
  if torn < 0 ∨ 64 ≤ torn then (2, d)
  else (0, { img := tornIn (laidOver d.img (keptOf keep 0 d.loose)) (lastOf keep 0 d.loose) torn.toNat, loose := [], fuse := none, out := false })
def secOf (L : List (List UInt8)) (i : Int) : List UInt8 × Int := if has L.length i = false then ([], 3) else (L.getD i.toNat [], 0)
def Dev.read (d : Dev) (i : Int) : List UInt8 × Int := if d.out then ([], 22) else secOf d.now i
def Dev.image (d : Dev) (i : Int) : List UInt8 × Int := secOf d.img i
def Dev.new (n : Nat) : Dev := { img := List.replicate n (List.replicate 64 0), loose := [], fuse := none, out := false }
theorem Dev.new_ok {n : Nat} (h1 : 1 ≤ n) (h2 : n ≤ 65536) : (Dev.new n).ok :=
  ⟨fun s hs => by simp [Dev.new] at hs; rw [hs.2]; simp, by simpa [Dev.new] using h2, by simpa [Dev.new] using h1, fun x hx => by simp [Dev.new] at hx⟩
theorem Dev.new_flat (n : Nat) : (Dev.new n).img.flatten = List.replicate (n * 64) 0 := List.flatten_replicate_replicate
end Go.Proofs.Ytlondopgibcikaa
namespace Go.Proofs.Ytlondopgibcikaa
open Go.RowKit Ent

def lw (l : List (Nat × List UInt8)) : List Value := l.flatMap fun x => Value.int .i64 (x.1 : Int) :: bv x.2
def ptr (a : Nat) : Value := .pointer (some ⟨a, 0, none⟩)
def burnV (a : Nat) : Value := .func (.func 111) #[ptr a] #[]
def head6 (gi gn n : Nat) (vl lets : Value) (left : Int) (out : Bool) : List Value := [.slice (some ⟨gi, 0, none⟩) n n, .slice (some ⟨gn, 0, none⟩) n n, vl, lets, .int .i64 left, .bool out]
/-- a device lies at a: all that is its own lies in F -/
structure PD (w : World) (a gi gn : Nat) (vl lets : Value) (left : Int) (F : Nat → Prop) (d : Dev) : Prop where
  ok : d.ok
  hd : Blk w a 70 (head6 gi gn d.img.length vl lets left d.out)
  im : Blk w gi 136 (bv d.img.flatten)
  nw : Blk w gn 136 (bv d.now.flatten)
  lo : w.ownsRow 0 138 65 vl d.loose.length (lw d.loose)
  fu : (d.fuse = none ∧ lets = .nilFunc) ∨ ∃ k, d.fuse = some k ∧ k ≤ 9223372036854775807 ∧ lets = burnV a ∧ (d.out = false → left = (k : Int))
  lf : -9223372036854775808 ≤ left ∧ left ≤ 9223372036854775807
  ai : a ≠ gi
  an : a ≠ gn
  gg : gi ≠ gn
  fa : F a
  fi : F gi
  fn : F gn
  fl : ∀ k, vl.ownBlock = some k → F k ∧ k ≠ a ∧ k ≠ gi ∧ k ≠ gn
def PDev (w : World) (a : Nat) (F : Nat → Prop) (d : Dev) : Prop := ∃ gi gn vl lets left, PD w a gi gn vl lets left F d
theorem PD.keep {w w' : World} {a gi gn : Nat} {vl lets : Value} {left : Int} {F G : Nat → Prop} {d : Dev} (h : PD w a gi gn vl lets left F d) (hk : Keep G w w') (hG : ∀ k, F k → ¬ G k) : PD w' a gi gn vl lets left F d :=
  { h with hd := h.hd.keep hk (hG _ h.fa), im := h.im.keep hk (hG _ h.fi), nw := h.nw.keep hk (hG _ h.fn), lo := owns_keep h.lo hk fun k hk' => hG k (h.fl k hk').1 }
theorem PDev.keep {w w' : World} {a : Nat} {F G : Nat → Prop} {d : Dev} (h : PDev w a F d) (hk : Keep G w w') (hG : ∀ k, F k → ¬ G k) : PDev w' a F d := by
  obtain ⟨gi, gn, vl, lets, left, h⟩ := h; exact ⟨gi, gn, vl, lets, left, h.keep hk hG⟩
theorem PDev.below {w w' : World} {a : Nat} {F : Nat → Prop} {d : Dev} (h : PDev w a F d) (hk : Below w.heap.size w w') : PDev w' a F d :=
  h.keep (Keep.ofBelow (F := fun _ => False) hk) (fun _ _ => id)
theorem PDev.drew {w : World} {a : Nat} {F : Nat → Prop} {d : Dev} (h : PDev w a F d) : PDev w.drew a F d := h.keep (Keep.refl (fun _ => False) w).drew (fun _ _ => id)
theorem PDev.mono {w : World} {a : Nat} {F G : Nat → Prop} {d : Dev} (h : PDev w a F d) (hFG : ∀ k, F k → G k) : PDev w a G d := by
  obtain ⟨gi, gn, vl, lets, left, h⟩ := h
  exact ⟨gi, gn, vl, lets, left, { h with fa := hFG _ h.fa, fi := hFG _ h.fi, fn := hFG _ h.fn, fl := fun k hk => ⟨hFG k (h.fl k hk).1, (h.fl k hk).2⟩ }⟩

def outCode (b : Bool) : Int := if b then 22 else 0
set_option maxRecDepth 100000 in
set_option maxHeartbeats 400000 in
theorem none_any {a gi gn : Nat} {vl lets : Value} {left : Int} {F : Nat → Prop} {d : Dev} (w : World) (h : PD w a gi gn vl lets left F d) :
    Calls Try.prog 109 #[ptr a] w fun e w' => e = .returned (.bool false) ∧ w' = w := by
  have c0 := h.hd.cell (j := 0) rfl
  have e67 := fun w a n c => Lib.run_eql_slice_nil (P := Try.prog) w 67 136 a n c 0 0 Try.underlying67
  unfold ptr
  go_enter Try.func109, Try.ntmps109
  go_wp2
  go_ret
  exact ⟨rfl, rfl⟩
set_option maxRecDepth 100000 in
set_option maxHeartbeats 400000 in
theorem ready_any {a gi gn : Nat} {vl lets : Value} {left : Int} {F : Nat → Prop} {d : Dev} (w : World) (h : PD w a gi gn vl lets left F d) :
    Calls Try.prog 110 #[ptr a] w fun e w' => e = .returned (.int .i64 (outCode d.out)) ∧ w' = w := by
  have c5 := h.hd.cell (j := 5) rfl
  have H := hid h
  clear h
  unfold ptr
  go_enter Try.func110, Try.ntmps110
  go_wp2_with fail
  refine (none_any w H.out).mono ?_
  rintro e w' ⟨rfl, rfl⟩
  cases hd : d.out
  all_goals
    rw [hd] at c5
    go_wp2
    go_ret
    exact ⟨by simp [outCode, hd], rfl⟩
set_option maxRecDepth 100000 in
set_option maxHeartbeats 400000 in
theorem has_any {a gi gn : Nat} {vl lets : Value} {left : Int} {F : Nat → Prop} {d : Dev} (i : Int) (w : World) (h : PD w a gi gn vl lets left F d) :
    Calls Try.prog 113 #[ptr a, .int .i64 i] w fun e w' => e = .returned (.bool (has d.img.length i)) ∧ w' = w := by
  have c0 := h.hd.cell (j := 0) rfl
  have hl := h.ok.len
  unfold ptr
  unfold has
  by_cases hi : 0 ≤ i
  all_goals
    go_enter Try.func113, Try.ntmps113
    go_wp2
    go_ret
    exact ⟨by simp [hi] <;> omega, rfl⟩
set_option maxRecDepth 100000 in
set_option maxHeartbeats 400000 in
theorem burn_any {a gi gn : Nat} {vl lets : Value} {left : Int} {F : Nat → Prop} {d : Dev} (w : World) (h : PD w a gi gn vl lets left F d) (h0 : 0 ≤ left) :
    Calls Try.prog 111 #[ptr a] w fun e w' => e = .returned (.bool (decide (1 ≤ left))) ∧ w' = w.setCell ⟨a, 4, none⟩ (.int .i64 (left - 1)) := by
  have c4 := h.hd.cell (j := 4) rfl
  have f4 := h.hd.free 4
  have hl := h.lf
  have c4' := World.cell?_setCell_same w ⟨a, 4, none⟩ (.int .i64 (left - 1)) c4
  unfold ptr
  go_enter Try.func111, Try.ntmps111
  go_wp2
  go_ret
  refine ⟨?_, rfl⟩
  congr 2
  go_show

theorem PD.left {w : World} {a gi gn : Nat} {vl lets : Value} {left : Int} {F : Nat → Prop} {d : Dev} (h : PD w a gi gn vl lets left F d) (x : Int) (hx : -9223372036854775808 ≤ x ∧ x ≤ 9223372036854775807) (f : Option Nat)
    (hf : (f = none ∧ lets = .nilFunc) ∨ ∃ k, f = some k ∧ k ≤ 9223372036854775807 ∧ lets = burnV a ∧ (d.out = false → x = (k : Int))) :
    PD (w.setCell ⟨a, 4, none⟩ (.int .i64 x)) a gi gn vl lets x F { d with fuse := f } := by
  have hk : Keep (fun k => k = a) w (w.setCell ⟨a, 4, none⟩ (.int .i64 x)) := (Keep.refl (fun k => k = a) w).setCell (p := ⟨a, 4, none⟩) rfl _
  exact { ok := ⟨h.ok.1, h.ok.2, h.ok.3, h.ok.4⟩, hd := h.hd.set 4 _, im := h.im.keep hk (Ne.symm h.ai), nw := h.nw.keep hk (Ne.symm h.an), lo := owns_keep h.lo hk fun k hk' => (h.fl k hk').2.1, fu := hf, lf := hx, ai := h.ai, an := h.an, gg := h.gg, fa := h.fa, fi := h.fi, fn := h.fn, fl := h.fl }
theorem PD.outed {w : World} {a gi gn : Nat} {vl lets : Value} {left : Int} {F : Nat → Prop} {d : Dev} (h : PD w a gi gn vl lets left F d) (o : Bool)
    (hf : (d.fuse = none ∧ lets = .nilFunc) ∨ ∃ k, d.fuse = some k ∧ k ≤ 9223372036854775807 ∧ lets = burnV a ∧ (o = false → left = (k : Int))) :
    PD (w.setCell ⟨a, 5, none⟩ (.bool o)) a gi gn vl lets left F { d with out := o } := by
  have hk : Keep (fun k => k = a) w (w.setCell ⟨a, 5, none⟩ (.bool o)) := (Keep.refl (fun k => k = a) w).setCell (p := ⟨a, 5, none⟩) rfl _
  exact { ok := ⟨h.ok.1, h.ok.2, h.ok.3, h.ok.4⟩, hd := h.hd.set 5 _, im := h.im.keep hk (Ne.symm h.ai), nw := h.nw.keep hk (Ne.symm h.an), lo := owns_keep h.lo hk fun k hk' => (h.fl k hk').2.1, fu := hf, lf := h.lf, ai := h.ai, an := h.an, gg := h.gg, fa := h.fa, fi := h.fi, fn := h.fn, fl := h.fl }
theorem PD.burned {w : World} {a gi gn : Nat} {vl lets : Value} {left : Int} {F : Nat → Prop} {d : Dev} (h : PD w a gi gn vl lets left F d) (hl : lets = burnV a) (hf : d.fuse = some 0) :
    PD ((w.setCell ⟨a, 4, none⟩ (.int .i64 (-1))).setCell ⟨a, 5, none⟩ (.bool true)) a gi gn vl lets (-1) F { d with out := true } := by
  have hk : Keep (fun k => k = a) w ((w.setCell ⟨a, 4, none⟩ (.int .i64 (-1))).setCell ⟨a, 5, none⟩ (.bool true)) := ((Keep.refl (fun k => k = a) w).setCell (p := ⟨a, 4, none⟩) rfl _).setCell (p := ⟨a, 5, none⟩) rfl _
  exact { ok := ⟨h.ok.1, h.ok.2, h.ok.3, h.ok.4⟩, hd := (h.hd.set 4 _).set 5 _, im := h.im.keep hk (Ne.symm h.ai), nw := h.nw.keep hk (Ne.symm h.an), lo := owns_keep h.lo hk fun k hk' => (h.fl k hk').2.1, fu := .inr ⟨0, hf, by omega, hl, fun h1 => by cases h1⟩, lf := by omega, ai := h.ai, an := h.an, gg := h.gg, fa := h.fa, fi := h.fi, fn := h.fn, fl := h.fl }
theorem run_nil_func (w : World) : (binOp .neq 23 .nilFunc .nilFunc).run Try.prog w = .ok (.bool false) w := by kernel_rfl
theorem run_some_func (f : Fn) (x y : Array Value) (w : World) : (binOp .neq 23 (.func f x y) .nilFunc).run Try.prog w = .ok (.bool true) w := by kernel_rfl
set_option maxRecDepth 100000 in
set_option maxHeartbeats 400000 in
theorem through_any {a gi gn : Nat} {vl lets : Value} {left : Int} {F : Nat → Prop} {d : Dev} (w : World) (h : PD w a gi gn vl lets left F d) (ho : d.out = false) :
    Calls Try.prog 112 #[ptr a] w fun e w' => e = .returned (.bool d.through.1) ∧ (∃ left', PD w' a gi gn vl lets left' F d.through.2) ∧ Keep F w w' := by
  have H := hid h
  have c3 := h.hd.cell (j := 3) rfl
  have c5 := h.hd.cell (j := 5) rfl
  have en := run_nil_func
  have es := run_some_func
  rw [ho] at c5
  rcases h.fu with ⟨hf, rfl⟩ | ⟨k, hf, hk, rfl, hle⟩
  · have hth : d.through = (true, d) := by unfold Dev.through; rw [hf]
    rw [hth]
    have HO := hid ho
    clear h hf ho hth
    unfold ptr
    go_enter Try.func112, Try.ntmps112
    go_wp2
    go_ret
    exact ⟨rfl, ⟨_, H.out⟩, Keep.refl _ _⟩
  · obtain rfl := hle ho
    have f5 := h.hd.free 5
    match k, hf with
    | 0, hf =>
      have hth : d.through = (false, { d with out := true }) := by unfold Dev.through; rw [hf]
      rw [hth]
      have HP := hid (PD.burned h rfl hf)
      have hc5 : (w.setCell ⟨a, 4, none⟩ (.int .i64 (-1))).cell? ⟨a, 5, none⟩ = some (.bool false) := by rw [World.cell?_setCell_other _ _ _ _ (by intro e; injection e; omega)]; exact c5
      have hf5 : (w.setCell ⟨a, 4, none⟩ (.int .i64 (-1))).frozen? ⟨a, 5, none⟩ = false := by simpa using f5
      have ha : Hid (F a) := hid h.fa
      clear h hf ho hle hth c5
      unfold burnV ptr at c3
      unfold ptr
      go_enter Try.func112, Try.ntmps112
      go_wp2_with fail
      refine (burn_any w H.out (by simp)).mono ?_
      rintro e w1 ⟨rfl, rfl⟩
      have hc5' := World.cell?_setCell_same _ _ (.bool true) hc5
      go_wp2
      go_ret
      exact ⟨rfl, ⟨_, HP.out⟩, ((Keep.refl F w).setCell (p := ⟨a, 4, none⟩) ha.out _).setCell (p := ⟨a, 5, none⟩) ha.out _⟩
    | k + 1, hf =>
      have hth : d.through = (true, { d with fuse := some k }) := by unfold Dev.through; rw [hf]
      rw [hth]
      have hp := PD.left h k (by omega) (some k) (.inr ⟨k, rfl, by omega, rfl, fun _ => rfl⟩)
      have HP := hid hp
      have c5' := hp.hd.cell (j := 5) rfl
      rw [show ({ d with fuse := some k } : Dev).out = false from ho] at c5'
      have ha : Hid (F a) := hid h.fa
      clear h hf ho hp hle hth
      unfold burnV ptr at c3
      unfold ptr
      go_enter Try.func112, Try.ntmps112
      go_wp2_with fail
      refine (burn_any w H.out (by omega)).mono ?_
      rintro e w1 ⟨rfl, rfl⟩
      rw [show (((k + 1 : Nat) : Int) - 1) = (k : Int) by omega, show decide ((1 : Int) ≤ ((k + 1 : Nat) : Int)) = true by simp; omega]
      go_wp2
      go_ret
      exact ⟨rfl, ⟨_, HP.out⟩, (Keep.refl F w).setCell (p := ⟨a, 4, none⟩) ha.out _⟩
end Go.Proofs.Ytlondopgibcikaa
namespace Go.Proofs.Ytlondopgibcikaa
open Go.RowKit Ent

theorem PD.lv {w : World} {a gi gn : Nat} {vl lets : Value} {left : Int} {F : Nat → Prop} {d : Dev} (h : PD w a gi gn vl lets left F d) : ∃ ao c, vl = .slice ao d.loose.length c := by
  rcases h.lo.2 with ⟨rfl, h0⟩ | ⟨g, c, cur, rfl, r⟩
  · exact ⟨none, 0, by rw [h0]⟩
  · exact ⟨_, _, rfl⟩
set_option maxRecDepth 100000 in
set_option maxHeartbeats 400000 in
theorem size_any {a gi gn : Nat} {vl lets : Value} {left : Int} {F : Nat → Prop} {d : Dev} (w : World) (h : PD w a gi gn vl lets left F d) :
    Calls Try.prog 55 #[ptr a] w fun e w' => e = .returned (.int .i64 d.img.length) ∧ w' = w := by
  have c0 := h.hd.cell (j := 0) rfl
  have H := hid h
  clear h
  unfold ptr
  go_enter Try.func55, Try.ntmps55
  go_wp2_with fail
  refine (none_any w H.out).mono ?_
  rintro e w' ⟨rfl, rfl⟩
  go_wp2
  go_ret
  exact ⟨rfl, rfl⟩
set_option maxRecDepth 100000 in
set_option maxHeartbeats 400000 in
theorem out_any {a gi gn : Nat} {vl lets : Value} {left : Int} {F : Nat → Prop} {d : Dev} (w : World) (h : PD w a gi gn vl lets left F d) :
    Calls Try.prog 42 #[ptr a] w fun e w' => e = .returned (.bool d.out) ∧ w' = w := by
  have c5 := h.hd.cell (j := 5) rfl
  have H := hid h
  clear h
  unfold ptr
  go_enter Try.func42, Try.ntmps42
  go_wp2_with fail
  refine (none_any w H.out).mono ?_
  rintro e w' ⟨rfl, rfl⟩
  go_wp2
  go_ret
  exact ⟨rfl, rfl⟩
set_option maxRecDepth 100000 in
set_option maxHeartbeats 400000 in
theorem loose_any {a gi gn : Nat} {vl lets : Value} {left : Int} {F : Nat → Prop} {d : Dev} (w : World) (h : PD w a gi gn vl lets left F d) :
    Calls Try.prog 50 #[ptr a] w fun e w' => e = .returned (.int .i64 d.loose.length) ∧ w' = w := by
  obtain ⟨ao, c, rfl⟩ := h.lv
  have c2 := h.hd.cell (j := 2) rfl
  have H := hid h
  clear h
  unfold ptr
  go_enter Try.func50, Try.ntmps50
  go_wp2_with fail
  refine (none_any w H.out).mono ?_
  rintro e w' ⟨rfl, rfl⟩
  go_wp2
  go_ret
  exact ⟨rfl, rfl⟩

/-- bytes that are new since a world of so many blocks -/
def Fresh (B : Nat) (w : World) (v : Value) (l : List UInt8) : Prop := ∃ ao cap, v = .slice ao l.length cap ∧ l.length ≤ cap ∧ SB w ao cap l ∧ WB w ao l.length ∧ ∀ x, ao = some x → B ≤ x.block ∧ x.block < w.heap.size
theorem Fresh.ofOwns {w : World} {base n : Nat} {v : Value} {l : List UInt8} (h : w.ownsRow base 5 1 v n (bv l)) : Fresh base w v l := by
  obtain ⟨ao, cap, rfl, rfl, h1, h2, h3, h4⟩ := own_all h
  exact ⟨ao, cap, rfl, h1, h2, h3, h4⟩
theorem Fresh.nil (B : Nat) (w : World) : Fresh B w (.slice none 0 0) [] := ⟨none, 0, rfl, Nat.le_refl _, SB.nil w, .inl rfl, fun x hx => by cases hx⟩
theorem Fresh.blk {w : World} {g T : Nat} {l : List UInt8} (h : Blk w g T (bv l)) {B : Nat} (hB : B ≤ g) : Fresh B w (.slice (some ⟨g, 0, none⟩) l.length l.length) l :=
  ⟨_, _, rfl, Nat.le_refl _, .inr (.inr ⟨g, 0, rfl, fun j v hv => by rw [Nat.zero_add]; exact h.cell hv⟩), .inr ⟨g, 0, rfl, fun j hj => by
    rw [Nat.zero_add]
    exact ⟨⟨l[j], h.cell (by rw [bv_get, List.getElem?_eq_getElem hj]; rfl)⟩, h.free j⟩⟩, fun x hx => by cases hx; exact ⟨hB, h.lt⟩⟩
theorem store_new (w : World) (old : Array Value) (T : TypeId) (cs : List Value) : ∃ w1, (w.alloc (.cells old T)).setRow w.heap.size cs.toArray = w1 ∧ Blk w1 w.heap.size T cs ∧ Below w.heap.size w w1 := by
  refine ⟨_, rfl, setRow_heap _ _ _ _ _ _ (alloc_new w _), ?_⟩
  exact (fresh_alloc w _).trans ⟨rfl, rfl, rfl, by simp, fun k hk => setRow_other _ _ k _ (by omega)⟩
theorem bv_cells (l : List UInt8) : (bv l).toArray.all (·.oneCell') = true := all_oneCell_toArray (bv_one l)
theorem sec_info : (Try.prog.info? 136).map (·.size) = some 64 := by kernel_rfl
theorem has_nat {n : Nat} {i : Int} (h : has n i = true) : ∃ k : Nat, i = (k : Int) ∧ k < n := by
  unfold has at h
  simp at h
  exact ⟨i.toNat, by omega, by omega⟩
set_option maxRecDepth 100000 in
set_option maxHeartbeats 400000 in
theorem image_any {a gi gn : Nat} {vl lets : Value} {left : Int} {F : Nat → Prop} {d : Dev} (i : Int) (w : World) (h : PD w a gi gn vl lets left F d) :
    Calls Try.prog 51 #[ptr a, .int .i64 i] w fun e w' => ∃ v, e = .returned (.tuple #[v, .int .i64 (d.image i).2]) ∧ Fresh w.heap.size w' v (d.image i).1 ∧ Below w.heap.size w w' := by
  have c0 := h.hd.cell (j := 0) rfl
  have H := hid h
  cases hh : has d.img.length i
  · have hs : d.image i = ([], 3) := by unfold Dev.image secOf; rw [hh]; rfl
    rw [hs]
    have HH := hid hh
    clear h hh hs
    unfold ptr
    go_enter Try.func51, Try.ntmps51
    go_wp2_with fail
    refine (none_any w H.out).mono ?_
    rintro e w' ⟨rfl, rfl⟩
    go_wp2_with fail
    refine (has_any i w' H.out).mono ?_
    rintro e w' ⟨rfl, rfl⟩
    rw [HH.out]
    go_wp2
    go_ret2
    exact ⟨_, rfl, Fresh.nil _ _, Below.refl _ _⟩
  · obtain ⟨k, rfl, hk⟩ := has_nat hh
    obtain ⟨s, hs⟩ : ∃ s, d.img[k]? = some s := ⟨_, List.getElem?_eq_getElem hk⟩
    have hi : d.image k = (s, 0) := by unfold Dev.image secOf; rw [hh]; simp [hs]
    rw [hi]
    have HH := hid hh
    have hr := hid (h.im.sec h.ok.s64 hs)
    have h64 := hid (h.ok.s64.get hs)
    have hlen := h.ok.len
    clear h hh hi hs
    unfold ptr
    go_enter Try.func51, Try.ntmps51
    go_wp2_with fail
    refine (none_any w H.out).mono ?_
    rintro e w' ⟨rfl, rfl⟩
    go_wp2_with fail
    refine (has_any k w' H.out).mono ?_
    rintro e w' ⟨rfl, rfl⟩
    rw [HH.out]
    go_wp2_with (first
      | (refine wpList_load_mid rfl 136 (.tmp 20) rfl gi (k * 64) rfl (bv s) _ hr.out Try.underlying136 rfl (by rw [bv_length, h64.out]; exact sec_info) ?_)
      | (refine wpList_store_row rfl 136 (.tmp 6) (.tmp 21) rfl _ _ rfl rfl _ _ (alloc_new w' _) (by rw [List.size_toArray, bv_length, h64.out]; exact sec_info) ?_ ?_ ?_))
    · show 64 = (bv s).toArray.size; rw [List.size_toArray, bv_length, h64.out]
    · exact bv_cells s
    · obtain ⟨w1, hw1, hb1, hbe1⟩ := store_new w' _ 136 (bv s)
      rw [hw1]
      clear hw1
      have HB1 := hid hb1
      have HE1 := hid hbe1
      clear hb1 hbe1
      go_wp2
      go_ret2
      refine ⟨.slice (some ⟨w'.heap.size, 0, none⟩) 64 64, rfl, ?_, HE1.out⟩
      have := Fresh.blk HB1.out (B := w'.heap.size) (Nat.le_refl _)
      rw [h64.out] at this
      exact this
set_option maxRecDepth 100000 in
set_option maxHeartbeats 400000 in
theorem read_any {a gi gn : Nat} {vl lets : Value} {left : Int} {F : Nat → Prop} {d : Dev} (i : Int) (w : World) (h : PD w a gi gn vl lets left F d) :
    Calls Try.prog 43 #[ptr a, .int .i64 i] w fun e w' => ∃ v, e = .returned (.tuple #[v, .int .i64 (d.read i).2]) ∧ Fresh w.heap.size w' v (d.read i).1 ∧ Below w.heap.size w w' := by
  have c1 := h.hd.cell (j := 1) rfl
  have H := hid h
  have hnl := hid d.now_len
  cases ho : d.out
  rotate_left
  · have hs : d.read i = ([], 22) := by unfold Dev.read; rw [ho]; rfl
    rw [hs]
    have HO := hid ho
    clear h ho hs
    unfold ptr
    go_enter Try.func43, Try.ntmps43
    go_wp2_with fail
    refine (ready_any w H.out).mono ?_
    rintro e w' ⟨rfl, rfl⟩
    rw [HO.out, show outCode true = 22 from rfl]
    go_wp2
    go_ret2
    exact ⟨_, rfl, Fresh.nil _ _, Below.refl _ _⟩
  cases hh : has d.img.length i
  · have hs : d.read i = ([], 3) := by unfold Dev.read secOf; rw [ho, d.now_len, hh]; rfl
    rw [hs]
    have HH := hid hh
    have HO := hid ho
    clear h hh hs ho
    unfold ptr
    go_enter Try.func43, Try.ntmps43
    go_wp2_with fail
    refine (ready_any w H.out).mono ?_
    rintro e w' ⟨rfl, rfl⟩
    rw [HO.out, show outCode false = 0 from rfl]
    go_wp2_with fail
    refine (has_any i w' H.out).mono ?_
    rintro e w' ⟨rfl, rfl⟩
    rw [HH.out]
    go_wp2
    go_ret2
    exact ⟨_, rfl, Fresh.nil _ _, Below.refl _ _⟩
  · obtain ⟨k, rfl, hk⟩ := has_nat hh
    obtain ⟨s, hs⟩ : ∃ s, d.now[k]? = some s := ⟨_, List.getElem?_eq_getElem (by rw [d.now_len]; exact hk)⟩
    have hi : d.read k = (s, 0) := by unfold Dev.read secOf; rw [ho, d.now_len, hh]; simp [hs]
    rw [hi]
    have HH := hid hh
    have HO := hid ho
    have hr := hid (h.nw.sec h.ok.now64 hs)
    have h64 := hid (h.ok.now64.get hs)
    have hlen := h.ok.len
    clear h hh hi hs ho
    unfold ptr
    go_enter Try.func43, Try.ntmps43
    go_wp2_with fail
    refine (ready_any w H.out).mono ?_
    rintro e w' ⟨rfl, rfl⟩
    rw [HO.out, show outCode false = 0 from rfl]
    go_wp2_with fail
    refine (has_any k w' H.out).mono ?_
    rintro e w' ⟨rfl, rfl⟩
    rw [HH.out]
    go_wp2_with (first
      | (refine wpList_load_mid rfl 136 (.tmp 22) rfl gn (k * 64) rfl (bv s) _ hr.out Try.underlying136 rfl (by rw [bv_length, h64.out]; exact sec_info) ?_)
      | (refine wpList_store_row rfl 136 (.tmp 7) (.tmp 23) rfl _ _ rfl rfl _ _ (alloc_new w' _) (by rw [List.size_toArray, bv_length, h64.out]; exact sec_info) ?_ ?_ ?_))
    · show 64 = (bv s).toArray.size; rw [List.size_toArray, bv_length, h64.out]
    · exact bv_cells s
    · obtain ⟨w1, hw1, hb1, hbe1⟩ := store_new w' _ 136 (bv s)
      rw [hw1]
      clear hw1
      have HB1 := hid hb1
      have HE1 := hid hbe1
      clear hb1 hbe1
      go_wp2
      go_ret2
      refine ⟨.slice (some ⟨w'.heap.size, 0, none⟩) 64 64, rfl, ?_, HE1.out⟩
      have := Fresh.blk HB1.out (B := w'.heap.size) (Nat.le_refl _)
      rw [h64.out] at this
      exact this
end Go.Proofs.Ytlondopgibcikaa
namespace Go.Proofs.Ytlondopgibcikaa
open Go.RowKit Ent

set_option maxRecDepth 100000 in
set_option maxHeartbeats 400000 in
theorem fuse_any {a gi gn : Nat} {vl lets : Value} {left : Int} {F : Nat → Prop} {d : Dev} (n : Int) (h1 : -9223372036854775808 ≤ n) (h2 : n ≤ 9223372036854775807) (w : World) (h : PD w a gi gn vl lets left F d) :
    Calls Try.prog 40 #[ptr a, .int .i64 n] w fun e w' => e = .returned (.int .i64 (d.setFuse n).1) ∧ (∃ lets' left', PD w' a gi gn vl lets' left' F (d.setFuse n).2) ∧ Keep F w w' := by
  have H := hid h
  cases ho : d.out
  rotate_left
  · have hs : d.setFuse n = (22, d) := by unfold Dev.setFuse; rw [ho]; rfl
    rw [hs]
    have HO := hid ho
    clear h ho hs
    unfold ptr
    go_enter Try.func40, Try.ntmps40
    go_wp2_with fail
    refine (ready_any w H.out).mono ?_
    rintro e w' ⟨rfl, rfl⟩
    rw [HO.out, show outCode true = 22 from rfl]
    go_wp2
    go_ret
    exact ⟨rfl, ⟨_, _, H.out⟩, Keep.refl _ _⟩
  by_cases hn : n < 0
  · have hs : d.setFuse n = (2, d) := by unfold Dev.setFuse; rw [ho]; simp [hn]
    rw [hs]
    have HO := hid ho
    clear h ho hs
    unfold ptr
    go_enter Try.func40, Try.ntmps40
    go_wp2_with fail
    refine (ready_any w H.out).mono ?_
    rintro e w' ⟨rfl, rfl⟩
    rw [HO.out, show outCode false = 0 from rfl]
    go_wp2
    go_ret
    exact ⟨rfl, ⟨_, _, H.out⟩, Keep.refl _ _⟩
  · have hs : d.setFuse n = (0, { d with fuse := some n.toNat }) := by unfold Dev.setFuse; rw [ho]; simp [hn]
    rw [hs]
    have HO := hid ho
    have c4 := h.hd.cell (j := 4) rfl
    have f4 := h.hd.free 4
    have c3 : (w.setCell ⟨a, 4, none⟩ (.int .i64 n)).cell? ⟨a, 3, none⟩ = some lets := by rw [World.cell?_setCell_other _ _ _ _ (by intro e; injection e; omega)]; exact h.hd.cell (j := 3) rfl
    have f3 : (w.setCell ⟨a, 4, none⟩ (.int .i64 n)).frozen? ⟨a, 3, none⟩ = false := by simpa using h.hd.free 3
    clear h ho hs
    unfold ptr
    go_enter Try.func40, Try.ntmps40
    go_wp2_with fail
    refine (ready_any w H.out).mono ?_
    rintro e w' ⟨rfl, rfl⟩
    rw [HO.out, show outCode false = 0 from rfl]
    go_wp2
    go_ret
    have h := H.out
    have hk : Keep (fun k => k = a) w' ((w'.setCell ⟨a, 4, none⟩ (.int .i64 n)).setCell ⟨a, 3, none⟩ (burnV a)) := ((Keep.refl (fun k => k = a) w').setCell (p := ⟨a, 4, none⟩) rfl _).setCell (p := ⟨a, 3, none⟩) rfl _
    exact ⟨rfl, ⟨burnV a, n, { ok := ⟨h.ok.1, h.ok.2, h.ok.3, h.ok.4⟩, hd := (h.hd.set 4 _).set 3 _, im := h.im.keep hk (Ne.symm h.ai), nw := h.nw.keep hk (Ne.symm h.an), lo := owns_keep h.lo hk fun k hk' => (h.fl k hk').2.1, fu := .inr ⟨n.toNat, rfl, by omega, rfl, fun _ => by omega⟩, lf := ⟨h1, h2⟩, ai := h.ai, an := h.an, gg := h.gg, fa := h.fa, fi := h.fi, fn := h.fn, fl := h.fl }⟩, hk.mono fun k _ hk' => by rw [hk']; exact h.fa⟩
/-- how a loose write is laid -/
theorem fill_write (x : Value) (hx : x.cells = #[x]) (cs : List Value) (hcs : cs.length = 64) (cells : Array Value) (hsz : cells.size = 65) (place : Nat → Option (Nat × Nat)) (h0 : place 0 = some (0, 1)) (h1 : place 1 = some (1, 64)) :
    Instr.fill place cells [(0, x), (1, .agg cs.toArray)] = some (x :: cs).toArray := by
  have hc : (Value.agg cs.toArray).cells = cs.toArray := rfl
  have e0 : (x.cells.zipIdx.foldl (fun cs (x : Value × Nat) => cs.setIfInBounds (0 + x.2) x.1) cells) = cells.setIfInBounds 0 x := by rw [hx]; simp
  have hs0 : (cells.setIfInBounds 0 x).size = 65 := by simpa using hsz
  obtain ⟨g1, g2⟩ := Go.Great.foldl_set 1 cs 0 (cells.setIfInBounds 0 x)
  unfold Instr.fill
  simp only [h0]
  rw [if_neg (by simp [hx, hsz])]
  rw [e0]
  unfold Instr.fill
  simp only [h1]
  rw [if_neg (by simp [hc, hcs, hsz])]
  unfold Instr.fill
  congr 1
  rw [hc]
  have e1 : (cs.toArray.zipIdx.foldl (fun cs (x : Value × Nat) => cs.setIfInBounds (1 + x.2) x.1) (cells.setIfInBounds 0 x)) = ((cs.zipIdx 0).foldl (fun cs (x : Value × Nat) => cs.setIfInBounds (1 + x.2) x.1) (cells.setIfInBounds 0 x)) := by simp
  rw [e1]
  apply Array.ext_getElem?
  intro k
  rw [g2 k]
  by_cases hk : 1 + 0 ≤ k ∧ k < 1 + 0 + cs.length ∧ k < (cells.setIfInBounds 0 x).size
  · rw [if_pos hk]
    obtain ⟨j, rfl⟩ : ∃ j, k = j + 1 := ⟨k - 1, by omega⟩
    simp
  · rw [if_neg hk]
    by_cases hk0 : k = 0
    · subst hk0; rw [Array.getElem?_setIfInBounds, if_pos rfl, if_pos (by omega)]; rfl
    · rw [Array.getElem?_eq_none (xs := cells.setIfInBounds 0 x) (by omega), Array.getElem?_eq_none (xs := (x :: cs).toArray) (by simp; omega)]
theorem built_of {P : Program} {t : TypeId} (parts : List (Nat × Value)) (cells : Array Value) (n : Nat) (ps : List (Nat × Nat))
    (hb : (match P.info? t, P.underlying t with
      | some it, some (.struct fields) => (match it.zero, fields.toList.mapM (fun f => (P.info? f.type).map fun i => (f.offset, i.size)) with
        | some z, some places => (places == ps) && (z.cells.size == n)
        | _, _ => false)
      | _, _ => false) = true)
    (h : ∀ z : Array Value, z.size = n → Instr.fill (ps.toArray[·]?) z parts = some cells) : P.built t parts = some cells := by
  unfold Program.built
  cases h1 : P.info? t with
  | none => simp [h1] at hb
  | some it =>
    cases h2 : P.underlying t with
    | none => simp [h1, h2] at hb
    | some dsc =>
      cases dsc with
      | struct fields =>
        simp only [h1, h2] at hb ⊢
        cases h3 : it.zero with
        | none => simp [h3] at hb
        | some z =>
          cases h4 : fields.toList.mapM (fun f => (P.info? f.type).map fun i => (f.offset, i.size)) with
          | none => simp [h3, h4] at hb
          | some places =>
            simp only [h3, h4, Bool.and_eq_true, beq_iff_eq] at hb ⊢
            obtain ⟨rfl, hz⟩ := hb
            exact h _ hz
      | _ => simp [h1, h2] at hb
theorem built_write (i : Int) (b : List UInt8) (hb : b.length = 64) (w : World) : (Instr.build 138 #[(0, .int .i64 i), (1, .agg (bv b).toArray)]).run Try.prog w = .ok (.agg (.int .i64 i :: bv b).toArray) w :=
  run_build w _ _ _ (built_of _ _ 65 [(0, 1), (1, 64)] (by kernel_rfl) fun z hz => fill_write _ rfl _ (by rw [bv_length, hb]) _ hz _ rfl rfl)
theorem PD.mono {w : World} {a gi gn : Nat} {vl lets : Value} {left : Int} {F G : Nat → Prop} {d : Dev} (h : PD w a gi gn vl lets left F d) (hFG : ∀ k, F k → G k) : PD w a gi gn vl lets left G d :=
  { h with fa := hFG _ h.fa, fi := hFG _ h.fi, fn := hFG _ h.fn, fl := fun k hk => ⟨hFG k (h.fl k hk).1, (h.fl k hk).2⟩ }
theorem run_arrayAt (w : World) (x : Addr) (c : Nat) : (Instr.arrayAt 136 (.slice (some x) 64 c)).run Try.prog w = .ok (.pointer (some x)) w := by
  simp [Instr.arrayAt, run_underlying Try.underlying136]
theorem exec_write (a : Act) (o : Oper) (x y : Operand) (i : Int) (b : List UInt8) (hb : b.length = 64) (ho : o.op = .build 138 #[(0, x), (1, y)]) (hx : a.eval x = .int .i64 i) (hy : a.eval y = .agg (bv b).toArray) (w : World) :
    (execOp a.eval o).run Try.prog w = .ok (.value (.agg (.int .i64 i :: bv b).toArray)) w := by
  have := built_write i b hb w
  unfold execOp
  simp only [ho, Sem.run_bind, List.map_toArray, List.map_cons, List.map_nil, hx, hy, this, Result.andThen_ok, Sem.run_pure]
theorem write_parts : ∃ i, Try.prog.info? 138 = some i ∧ i.zero = some (.agg Try.zeroCells138) ∧ i.size = 65 ∧ i.bytes = 72 := info_parts (P := Try.prog) (by kernel_rfl)
theorem write_info : (Try.prog.info? 138).map (·.size) = some 65 := by kernel_rfl
def wcells (x : Nat × List UInt8) : List Value := .int .i64 (x.1 : Int) :: bv x.2
theorem wcells_len {x : Nat × List UInt8} (h : x.2.length = 64) : (wcells x).length = 65 := by simp [wcells, h]
theorem wcells_one (x : Nat × List UInt8) : ∀ v ∈ wcells x, v.oneCell' = true := by
  intro v hv
  rcases List.mem_cons.1 hv with rfl | hv
  · rfl
  · exact bv_one _ v hv
theorem lw_snoc (l : List (Nat × List UInt8)) (x : Nat × List UInt8) : lw (l ++ [x]) = lw l ++ wcells x := by simp [lw, wcells]
theorem wpo_lay1 {o : Oper} {a : Act} {w : World} {K : Act → World → Prop} {Q : Exit → Act → World → Prop} (x : Operand) (ho : o.op = .buildSlice 68 1 #[(0, x)]) (cs : List Value) (hcs : cs.length = 65) (hx : a.eval x = .agg cs.toArray)
    (h : ∀ w', Below w.heap.size w w' → Blk w' w.heap.size 138 cs → K (a.put o.dst (.slice (some ⟨w.heap.size, 0, none⟩) 1 1)) w') : o.wp Try.prog a w K Q := by
  obtain ⟨i, hi, hz, hsz, _⟩ := write_parts
  refine wp_buildSlice 68 138 1 _ ho cs.toArray i _ Try.underlying68 hi hz (by rw [hsz]; decide) (by rw [hsz]; decide) ?_ (h _ (fresh_alloc w _) (alloc_new w _))
  rw [hsz]
  have e := Go.Great.fill_whole (s := 65) (by omega) [Value.agg cs.toArray] ((Array.range (1 * 65)).map ((Value.agg Try.zeroCells138).cells[· % (Value.agg Try.zeroCells138).cells.size]!)) (by intro v hv; simp at hv; subst hv; simp [Value.cells, hcs]) (by simp)
  simpa [hx, Value.cells] using e
theorem wpo_appendW {o : Oper} {a : Act} {w : World} {K : Act → World → Prop} {Q : Exit → Act → World → Prop} (s x : Operand)
    (ho : o.op = .call { callee := .builtin .append, args := #[s, x], argTypes := #[68, 68] })
    (v : Value) (n : Nat) (xs : List Value) (hs : a.eval s = v) (hown : w.ownsRow 0 138 65 v n xs) (g : Nat) (hx : a.eval x = .slice (some ⟨g, 0, none⟩) 1 1) (cs : List Value) (hb : Blk w g 138 cs) (hcs : cs.length = 65) (h1 : ∀ v ∈ cs, v.oneCell' = true)
    (hn : n ≤ 1073741824)
    (h : ∀ v' w', w'.ownsRow 0 138 65 v' (n + 1) (xs ++ cs) → w.grownBy w' v.ownBlock → (v'.ownBlock = v.ownBlock ∨ v'.ownBlock = some w.heap.size) → K (a.put o.dst v') w') : o.wp Try.prog a w K Q := by
  obtain ⟨i, hi, hz, hsz, hby⟩ := write_parts
  obtain ⟨v', w', hr, h2, h3, _, h5⟩ := run_append_own_at (P := Try.prog) w 0 68 o.type 138 i _ 65 72 Try.underlying68 hi hz hsz hby (by simp [Value.cells]) (by omega) v n xs hown ⟨g, 0, none⟩ 1 1 cs (by rw [hcs]) (fun j u hu => by rw [Addr.add_mid, Nat.zero_add]; exact hb.cell hu) h1 (by simp [maxLen]; omega) (by omega) (Nat.zero_le _)
  unfold Oper.wp execOp
  simp only [ho, resolve, invoke, builtin, Sem.run_bind, Sem.run_pure, Result.andThen_ok, List.map_toArray, List.map_cons, List.map_nil, hs, hx, hr]
  exact h v' w' h2 h3 h5
theorem own_lt {w : World} {base : Nat} {e : TypeId} {size : Nat} {v : Value} {n : Nat} {xs : List Value} (h : w.ownsRow base e size v n xs) : ∀ k, v.ownBlock = some k → k < w.heap.size := fun k hk => (h.lt k hk).2
theorem PD.lt {w : World} {a gi gn : Nat} {vl lets : Value} {left : Int} {F : Nat → Prop} {d : Dev} (h : PD w a gi gn vl lets left F d) : a < w.heap.size := h.hd.lt
theorem PD.below {w w' : World} {a gi gn : Nat} {vl lets : Value} {left : Int} {F : Nat → Prop} {d : Dev} (h : PD w a gi gn vl lets left F d) (hb : Below w.heap.size w w') : PD w' a gi gn vl lets left F d :=
  h.keep (Keep.ofBelow (F := fun _ => False) hb) (fun _ _ => id)
theorem through_img (d : Dev) : d.through.2.img = d.img := by unfold Dev.through; split <;> rfl
theorem through_loose (d : Dev) : d.through.2.loose = d.loose := by unfold Dev.through; split <;> rfl
theorem own_slice {w : World} {base : Nat} {e : TypeId} {size : Nat} {v : Value} {n : Nat} {xs : List Value} (h : w.ownsRow base e size v n xs) : ∃ ao c, v = .slice ao n c := by
  rcases h.2 with ⟨rfl, h0⟩ | ⟨g, c, cur, rfl, r⟩
  · exact ⟨none, 0, by rw [h0]⟩
  · exact ⟨_, _, rfl⟩
/-- from the append on -/
theorem write_end {w1 w4 : World} {a gi gn : Nat} {vl lets v4 : Value} {left : Int} {F : Nat → Prop} {d : Dev} {k : Nat} {b : List UInt8} (H1 : PD w1 a gi gn vl lets left F d) (hk : k < d.img.length) (hb : b.length = 64)
    (MK : Keep (fun k => vl.ownBlock = some k) w1 w4) (HO : w4.ownsRow 0 138 65 v4 (d.loose.length + 1) (lw d.loose ++ wcells (k, b))) (HW : v4.ownBlock = vl.ownBlock ∨ ∀ k, v4.ownBlock = some k → w1.heap.size ≤ k) :
    (w4.setCell ⟨a, 2, none⟩ v4).there gn (k * 64) 64 ∧
    PD ((w4.setCell ⟨a, 2, none⟩ v4).drew.setCells gn (k * 64) (bv b)) a gi gn v4 lets left (fun k => F k ∨ (w1.heap.size ≤ k ∧ k < w4.heap.size)) { d with loose := d.loose ++ [(k, b)] } ∧
    Keep F w1 ((w4.setCell ⟨a, 2, none⟩ v4).drew.setCells gn (k * 64) (bv b)) := by
  have hne : ∀ k, v4.ownBlock = some k → (F k ∨ (w1.heap.size ≤ k ∧ k < w4.heap.size)) ∧ k ≠ a ∧ k ≠ gi ∧ k ≠ gn := fun k hk => by
    rcases HW with h | h
    · rw [h] at hk; exact ⟨.inl (H1.fl k hk).1, (H1.fl k hk).2⟩
    · have h1 := h k hk; have h2 := own_lt HO k hk
      have := H1.hd.lt; have := H1.im.lt; have := H1.nw.lt
      exact ⟨.inr ⟨h1, h2⟩, by omega, by omega, by omega⟩
  have hd4 := H1.hd.keep MK (fun h => (H1.fl _ h).2.1 rfl)
  have im4 := H1.im.keep MK (fun h => (H1.fl _ h).2.2.1 rfl)
  have nw4 := H1.nw.keep MK (fun h => (H1.fl _ h).2.2.2 rfl)
  have hd5 := hd4.set 2 v4
  have im5 := im4.other ⟨a, 2, none⟩ v4 (Ne.symm H1.ai)
  have nw5 := nw4.other ⟨a, 2, none⟩ v4 (Ne.symm H1.an)
  have lo5 : (w4.setCell ⟨a, 2, none⟩ v4).ownsRow 0 138 65 v4 (d.loose.length + 1) (lw d.loose ++ wcells (k, b)) := owns_keep HO ((Keep.refl (fun k => k = a) w4).setCell (p := ⟨a, 2, none⟩) rfl v4) (fun k hk => (hne k hk).2.1)
  have h64 := H1.ok.now64
  have hkn : k < d.now.length := by rw [d.now_len]; exact hk
  have MF : Keep F w1 w4 := MK.mono fun k _ hk => (H1.fl k hk).1
  refine ⟨nw5.secThere h64 hkn, ?_, Keep.setCells H1.fn _ _ ((MF.setCell (p := ⟨a, 2, none⟩) H1.fa v4).drew)⟩
  exact {
    ok := ⟨H1.ok.1, H1.ok.2, H1.ok.3, fun x hx => by
      rcases List.mem_append.1 hx with hx | hx
      · exact H1.ok.4 x hx
      · simp at hx; subst hx; exact ⟨hk, hb⟩⟩
    hd := hd5.drew.otherCells _ _ _ H1.an
    im := im5.drew.otherCells _ _ _ H1.gg
    nw := by
      have := nw5.drew.put h64 hkn hb
      have e : ({ d with loose := d.loose ++ [(k, b)] } : Dev).now = d.now.set k b := laid_snoc _ _ _
      rw [e]; exact this
    lo := by
      have := owns_keep lo5 (Keep.setCells (F := fun k => k = gn) (g := gn) rfl (bv b) (k * 64) ((Keep.refl (fun k => k = gn) (w4.setCell ⟨a, 2, none⟩ v4)).drew)) (fun k hk => (hne k hk).2.2.2)
      rw [List.length_append, lw_snoc]; exact this
    fu := H1.fu, lf := H1.lf, ai := H1.ai, an := H1.an, gg := H1.gg, fa := .inl H1.fa, fi := .inl H1.fi, fn := .inl H1.fn, fl := hne }
theorem has_false_of {n : Nat} {i : Int} : has n i = false ∨ ∃ k : Nat, i = (k : Int) ∧ k < n := by
  cases h : has n i
  · exact .inl rfl
  · exact .inr (has_nat h)
set_option maxRecDepth 100000 in
set_option maxHeartbeats 1000000 in
theorem write_any {a gi gn : Nat} {vl lets : Value} {left : Int} {F : Nat → Prop} {d : Dev} (i : Int) (bo : Option Addr) (n c : Nat) (b : List UInt8) (hn : n = b.length) (w : World) (hb : SB w bo c b) (hbF : ∀ x, bo = some x → ¬ F x.block) (hlo : d.loose.length ≤ 1073741824) (h : PD w a gi gn vl lets left F d) :
    Calls Try.prog 48 #[ptr a, .int .i64 i, .slice bo n c] w fun e w' => e = .returned (.int .i64 (d.write i b).1) ∧ (∃ vl' left', PD w' a gi gn vl' lets left' (fun k => F k ∨ (w.heap.size ≤ k ∧ k < w'.heap.size)) (d.write i b).2) ∧ Keep F w w' := by
  have H := hid h
  cases ho : d.out
  rotate_left
  · have hs : d.write i b = (22, d) := by unfold Dev.write; rw [ho]; rfl
    rw [hs]
    have HO := hid ho
    clear h ho hs hn
    unfold ptr
    go_enter Try.func48, Try.ntmps48
    go_wp2_with fail
    refine (ready_any w H.out).mono ?_
    rintro e w' ⟨rfl, rfl⟩
    rw [HO.out, show outCode true = 22 from rfl]
    go_wp2
    go_ret
    exact ⟨rfl, ⟨_, _, H.out.mono fun _ => .inl⟩, Keep.refl _ _⟩
  cases hh : has d.img.length i
  · have hs : d.write i b = (3, d) := by unfold Dev.write; rw [ho]; simp [hh]
    rw [hs]
    have HO := hid ho; have HH := hid hh
    clear h ho hs hh hn
    unfold ptr
    go_enter Try.func48, Try.ntmps48
    go_wp2_with fail
    refine (ready_any w H.out).mono ?_
    rintro e w' ⟨rfl, rfl⟩
    rw [HO.out, show outCode false = 0 from rfl]
    go_wp2_with fail
    refine (has_any i w' H.out).mono ?_
    rintro e w' ⟨rfl, rfl⟩
    rw [HH.out]
    go_wp2
    go_ret
    exact ⟨rfl, ⟨_, _, H.out.mono fun _ => .inl⟩, Keep.refl _ _⟩
  by_cases h64 : b.length = 64
  rotate_left
  · have hs : d.write i b = (2, d) := by unfold Dev.write; rw [ho]; simp [hh, h64]
    rw [hs]
    have hn64 : n ≠ 64 := by omega
    have HO := hid ho; have HH := hid hh
    clear h ho hs hh hn h64
    unfold ptr
    go_enter Try.func48, Try.ntmps48
    go_wp2_with fail
    refine (ready_any w H.out).mono ?_
    rintro e w' ⟨rfl, rfl⟩
    rw [HO.out, show outCode false = 0 from rfl]
    go_wp2_with fail
    refine (has_any i w' H.out).mono ?_
    rintro e w' ⟨rfl, rfl⟩
    rw [HH.out]
    go_wp2
    go_ret
    exact ⟨rfl, ⟨_, _, H.out.mono fun _ => .inl⟩, Keep.refl _ _⟩
  obtain rfl : n = 64 := hn.trans h64
  clear hn
  cases ht : d.through.1
  · have hs : d.write i b = (22, d.through.2) := by unfold Dev.write; rw [ho]; simp [hh, h64, ht]
    rw [hs]
    have HO := hid ho; have HH := hid hh; have HT := hid ht
    clear h ho hs hh ht h64
    unfold ptr
    go_enter Try.func48, Try.ntmps48
    go_wp2_with fail
    refine (ready_any w H.out).mono ?_
    rintro e w' ⟨rfl, rfl⟩
    rw [HO.out, show outCode false = 0 from rfl]
    go_wp2_with fail
    refine (has_any i w' H.out).mono ?_
    rintro e w' ⟨rfl, rfl⟩
    rw [HH.out]
    go_wp2_with fail
    refine (through_any w' H.out HO.out).mono ?_
    rintro e w1 ⟨rfl, ⟨left', h1⟩, hk1⟩
    rw [HT.out]
    go_wp2
    go_ret
    exact ⟨rfl, ⟨_, _, h1.mono fun _ => .inl⟩, hk1⟩
  · obtain ⟨k, rfl, hk⟩ := has_nat hh
    have hs : d.write k b = (0, { d.through.2 with loose := d.loose ++ [(k, b)] }) := by unfold Dev.write; rw [ho]; simp [hh, h64, ht]
    rw [hs]
    have HO := hid ho; have HH := hid hh; have HT := hid ht; have H64 := hid h64
    clear h ho hs hh ht h64
    unfold ptr
    go_enter Try.func48, Try.ntmps48
    go_wp2_with fail
    refine (ready_any w H.out).mono ?_
    rintro e w' ⟨rfl, rfl⟩
    rw [HO.out, show outCode false = 0 from rfl]
    go_wp2_with fail
    refine (has_any k w' H.out).mono ?_
    rintro e w' ⟨rfl, rfl⟩
    rw [HH.out]
    go_wp2_with fail
    refine (through_any w' H.out HO.out).mono ?_
    rintro e w1 ⟨rfl, ⟨left', h1⟩, hk1⟩
    rw [HT.out]
    have H1 := hid h1
    have HK1 := hid hk1
    clear h1 hk1
    obtain ⟨g, o, rfl, hr⟩ : ∃ g o, bo = some ⟨g, o, none⟩ ∧ Hid (w1.rangeAt g o (bv b)) := by
      have hb := hb.keep HK1.out hbF
      rcases hb with ⟨rfl, _, rfl⟩ | ⟨x, rfl, rfl⟩ | ⟨g, o, rfl, hr⟩
      · have := H64.out; simp at this
      · have := H64.out; simp at this
      · exact ⟨g, o, rfl, hr⟩
    have ra := run_arrayAt
    go_wp2_with (first
      | (refine wpList_load_mid rfl 136 (.tmp 29) rfl g o rfl (bv b) _ hr.out Try.underlying136 rfl (by rw [bv_length, H64.out]; exact sec_info) ?_)
      | (refine Go.Great.wpList_readTo rfl _ rfl _ (exec_write _ _ (.tmp 27) (.tmp 30) k b H64.out rfl rfl rfl _) ?_)
      | (refine wpList_store_row rfl 138 (.tmp 8) (.tmp 31) rfl _ _ rfl rfl _ _ (alloc_new w1 _) (by rw [List.size_toArray, List.length_cons, bv_length, H64.out]; exact write_info) ?_ ?_ ?_))
    · exact (show Try.zeroCells138.size = 65 by kernel_rfl).trans (by rw [List.size_toArray]; exact (wcells_len (x := (k, b)) H64.out).symm)
    · exact all_oneCell_toArray (wcells_one (k, b))
    obtain ⟨w2, hw2, hb2, hbe2⟩ := store_new w1 Try.zeroCells138 138 (wcells (k, b))
    rw [show (Value.int .i64 (k : Int) :: bv b).toArray = (wcells (k, b)).toArray from rfl, hw2]
    clear hw2
    have HG8 := hid hb2
    have H2 := hid (H1.out.below hbe2)
    have HBE := hid hbe2
    have hlo' : Hid (d.through.2.loose.length ≤ 1073741824) := by rw [through_loose]; exact hlo
    have hg8a : Hid (w1.heap.size ≠ a) := by have := H1.out.lt; show w1.heap.size ≠ a; omega
    have hg8o : Hid (¬ vl.ownBlock = some w1.heap.size) := fun h => by have := own_lt H1.out.lo _ h; omega
    clear hb2 hbe2
    -- REGION 11
    refine wp_region_held_drew (S := fun w' => Blk w' w1.heap.size 138 (wcells (k, b))) (by kernel_rfl) HG8.out.drew (fun hS => ?_)
    refine wpAnyH_take (i := 0) (v := ?v0x1) (by simp only [List.getElem?_toArray, List.getElem?_cons_zero]; exact rfl) (by kernel_rfl) (by kernel_rfl) (by kernel_rfl) (by exact fun _ _ _ h => h) (Or.inl ⟨by rfl, ?y0x1⟩) hS ?r0x1
    case y0x1 => (intro w' hSw; (try dsimp only at hSw); go_simp; (try with_reducible rfl))
    simp only [Act.put, List.setIfInBounds_toArray, List.set_cons_zero, List.set_cons_succ]
    refine wpAnyH_take (i := 1) (v := ?v1x2) (by simp only [List.getElem?_toArray, List.getElem?_cons_zero, List.getElem?_cons_succ]; exact rfl) (by kernel_rfl) (by kernel_rfl) (by kernel_rfl) (by exact fun _ _ _ h => h) (Or.inl ⟨by rfl, ?y1x2⟩) hS ?r1x2
    case y1x2 => (intro w' hSw; (try dsimp only at hSw); go_simp; (try with_reducible rfl))
    simp only [Act.put, List.setIfInBounds_toArray, List.set_cons_zero, List.set_cons_succ]
    refine wpAnyH_take (i := 2) (v := ?v2x3) (by simp only [List.getElem?_toArray, List.getElem?_cons_zero, List.getElem?_cons_succ]; exact rfl) (by kernel_rfl) (by kernel_rfl) (by kernel_rfl) (by exact fun _ _ _ h => h) (Or.inl ⟨by rfl, ?y2x3⟩) hS ?r2x3
    case y2x3 => (intro w' hSw; (try dsimp only at hSw); go_simp; (try with_reducible rfl))
    simp only [Act.put, List.setIfInBounds_toArray, List.set_cons_zero, List.set_cons_succ]
    refine wpAnyH_take (i := 3) (v := ?v3x4) (by simp only [List.getElem?_toArray, List.getElem?_cons_zero, List.getElem?_cons_succ]; exact rfl) (by kernel_rfl) (by kernel_rfl) (by kernel_rfl) (by exact fun _ _ _ h => h) (Or.inl ⟨by rfl, ?y3x4⟩) hS ?r3x4
    case y3x4 => (intro w' hSw; (try dsimp only at hSw); go_simp; (try with_reducible rfl))
    simp only [Act.put, List.setIfInBounds_toArray, List.set_cons_zero, List.set_cons_succ]
    refine wpAnyH_take (i := 5) (v := ?v5x5) (by simp only [List.getElem?_toArray, List.getElem?_cons_zero, List.getElem?_cons_succ]; exact rfl) (by kernel_rfl) (by kernel_rfl) (by kernel_rfl) (by exact fun _ _ _ h => h) ?y5x5 hS ?r5x5
    case y5x5 => (refine yieldsIf_load_mid ?_ 138 (.tmp 8) ?_ w1.heap.size 0 ?_ (wcells (k, b)) _ ?_ Try.underlying138 ?_ ?_; rfl; rfl; rfl; exact (fun w' hSw => hSw.range fun j v hv => by rw [Nat.zero_add]; exact hv); rfl; (rw [wcells_len H64.out]; exact write_info))
    simp only [Act.put, List.setIfInBounds_toArray, List.set_cons_zero, List.set_cons_succ]
    refine wpAnyH_ready (rs := [4, 6]) (by kernel_rfl) (by simp) ?_
    refine AllReadyH.cons (by simp only [List.getElem?_toArray, List.getElem?_cons_zero, List.getElem?_cons_succ]; exact rfl) (fun K hK => ?_) (AllReadyH.cons (by simp only [List.getElem?_toArray, List.getElem?_cons_zero, List.getElem?_cons_succ]; exact rfl) (fun K hK => ?_) AllReadyH.nil)
    · have hc2 := H2.out.hd.cell (j := 2) rfl
      try have hc2' := (H2.out.below HB3.out).hd.cell (j := 2) rfl
      go_simp
      refine hK.out _ _ ?k4x6 (fun hS => ?s4x6)
      case k4x6 => exact hS
      clear hK K
      try simp only [Act.put, List.setIfInBounds_toArray, List.set_cons_zero, List.set_cons_succ]
      refine wpAnyH_ready (rs := [6]) (by kernel_rfl) (by simp) ?_
      refine AllReadyH.cons (by simp only [List.getElem?_toArray, List.getElem?_cons_zero, List.getElem?_cons_succ]; exact rfl) (fun K hK => ?_) AllReadyH.nil
      refine wpo_lay1 (.tmp 37) rfl (wcells (k, b)) (wcells_len H64.out) rfl ?_
      intro w3 hb3 hc3
      have HB3 : Hid (Below w2.heap.size w2 w3) := ((Below.refl _ w2).drew).trans hb3
      have HC3 := hid hc3
      clear hb3 hc3
      refine hK.out _ _ ?k6x7 (fun hS => ?s6x7)
      case k6x7 => exact HG8.out.below HB3.out (by exact HG8.out.lt)
      clear hK K
      try simp only [Act.put, List.setIfInBounds_toArray, List.set_cons_zero, List.set_cons_succ]
      refine wpAnyH_ready (rs := [7]) (by kernel_rfl) (by simp) ?_
      refine AllReadyH.cons (by simp only [List.getElem?_toArray, List.getElem?_cons_zero, List.getElem?_cons_succ]; exact rfl) (fun K hK => ?_) AllReadyH.nil
      refine wpo_appendW (.tmp 36) (.tmp 38) rfl vl _ _ rfl (H2.out.below HB3.out).lo _ rfl (wcells (k, b)) HC3.out (wcells_len H64.out) (wcells_one _) hlo'.out ?_
      intro v4 w4 ho4 hg4 hw4
      obtain ⟨ao4, c4, rfl⟩ := own_slice ho4
      have HO4 := hid ho4
      have MK2 : Hid (Keep (fun k => vl.ownBlock = some k) w2 w4) := ((Keep.ofBelow (F := fun k => vl.ownBlock = some k) (a := w2) (b := w3) HB3.out).grown hg4 (fun k hk _ => hk))
      have MK1 : Hid (Keep (fun k => vl.ownBlock = some k) w1 w4) := (Keep.ofBelow (F := fun k => vl.ownBlock = some k) HBE.out).trans MK2.out
      have HW4 : Hid ((Value.slice ao4 (d.through.2.loose.length + 1) c4).ownBlock = vl.ownBlock ∨ ∀ k, (Value.slice ao4 (d.through.2.loose.length + 1) c4).ownBlock = some k → w1.heap.size ≤ k) := by
        rcases hw4 with h | h
        · exact .inl h
        · refine .inr fun k hk => ?_
          rw [h] at hk; injection hk with hk
          have h1 := HBE.out.size; have h2 : w2.heap.size ≤ w3.heap.size := HB3.out.size
          omega
      have hd4 := hid (H2.out.hd.keep MK2.out (fun h => (H2.out.fl _ h).2.1 rfl))
      have HG4 := hid (HG8.out.keep MK2.out hg8o.out)
      have HE := hid (write_end H1.out (by rw [through_img]; exact hk) H64.out MK1.out HO4.out HW4.out)
      clear ho4 hg4 hw4
      refine hK.out _ _ ?k7x8 (fun hS => ?s7x8)
      case k7x8 => exact HG4.out
      clear hK K
      try simp only [Act.put, List.setIfInBounds_toArray, List.set_cons_zero, List.set_cons_succ]
      refine wpAnyH_take (i := 8) (v := ?v8x9) (by simp only [List.getElem?_toArray, List.getElem?_cons_zero, List.getElem?_cons_succ]; exact rfl) (by kernel_rfl) (by kernel_rfl) (by kernel_rfl) (by exact fun _ _ _ h => h) (Or.inl ⟨by rfl, ?y8x9⟩) hS ?r8x9
      case y8x9 => (intro w' hSw; (try dsimp only at hSw); go_simp; (try with_reducible rfl))
      simp only [Act.put, List.setIfInBounds_toArray, List.set_cons_zero, List.set_cons_succ]
      refine wpAnyH_take (i := 9) (v := ?v9x10) (by simp only [List.getElem?_toArray, List.getElem?_cons_zero, List.getElem?_cons_succ]; exact rfl) (by kernel_rfl) (by kernel_rfl) (by kernel_rfl) (by exact fun _ _ _ h => h) (Or.inl ⟨by rfl, ?y9x10⟩) hS ?r9x10
      case y9x10 => (intro w' hSw; (try dsimp only at hSw); go_simp; (try with_reducible rfl))
      simp only [Act.put, List.setIfInBounds_toArray, List.set_cons_zero, List.set_cons_succ]
      refine wpAnyH_ready (rs := [10]) (by kernel_rfl) (by simp) ?_
      refine AllReadyH.cons (by simp only [List.getElem?_toArray, List.getElem?_cons_zero, List.getElem?_cons_succ]; exact rfl) (fun K hK => ?_) AllReadyH.nil
      have hc4 := hd4.out.cell (j := 2) rfl
      have hf4 := hd4.out.free 2
      go_simp
      refine hK.out _ _ ?k10x11 (fun hS => ?s10x11)
      case k10x11 => exact HG4.out.other _ _ hg8a.out
      clear hK K
      try simp only [Act.put]
      refine wpAnyH_done (by kernel_rfl) ?_ _
      clear hS
      go_wp2_with fail
      have hk2 : k < d.through.2.img.length := by rw [through_img]; exact hk
      have hd5 := hid (hd4.out.set 2 (Value.slice ao4 (d.through.2.loose.length + 1) c4))
      have HNG : Hid (w1.heap.size ≠ gn) := by have := H1.out.nw.lt; show w1.heap.size ≠ gn; omega
      refine wp_region_held_drew (S := fun w' => w'.cell? ⟨a, 1, none⟩ = some (.slice (some ⟨gn, 0, none⟩) d.through.2.img.length d.through.2.img.length) ∧ Blk w' w1.heap.size 138 (wcells (k, b))) (by kernel_rfl) ⟨hd5.out.drew.cell (j := 1) rfl, (HG4.out.other _ _ hg8a.out).drew⟩ (fun hS => ?_)
      refine wpAnyH_take (i := 0) (v := ?v0x1ze1) (by simp only [List.getElem?_toArray, List.getElem?_cons_zero]; exact rfl) (by kernel_rfl) (by kernel_rfl) (by kernel_rfl) (by exact fun _ _ _ h => h) (Or.inl ⟨by rfl, ?y0x1ze1⟩) hS ?r0x1ze1
      case y0x1ze1 => (intro w' hSw; (try dsimp only at hSw); go_simp; (try with_reducible rfl))
      simp only [Act.put, List.setIfInBounds_toArray, List.set_cons_zero, List.set_cons_succ]
      refine wpAnyH_take (i := 1) (v := ?v1x2ze1) (by simp only [List.getElem?_toArray, List.getElem?_cons_zero, List.getElem?_cons_succ]; exact rfl) (by kernel_rfl) (by kernel_rfl) (by kernel_rfl) (by exact fun _ _ _ h => h) (Or.inl ⟨by rfl, ?y1x2ze1⟩) hS ?r1x2ze1
      case y1x2ze1 => (intro w' hSw; (try dsimp only at hSw); go_simp; (try with_reducible rfl))
      simp only [Act.put, List.setIfInBounds_toArray, List.set_cons_zero, List.set_cons_succ]
      refine wpAnyH_take (i := 2) (v := ?v2x3ze1) (by simp only [List.getElem?_toArray, List.getElem?_cons_zero, List.getElem?_cons_succ]; exact rfl) (by kernel_rfl) (by kernel_rfl) (by kernel_rfl) (by exact fun _ _ _ h => h) (Or.inl ⟨by rfl, ?y2x3ze1⟩) hS ?r2x3ze1
      case y2x3ze1 => (intro w' hSw; (try dsimp only at hSw); go_simp; (try with_reducible rfl))
      simp only [Act.put, List.setIfInBounds_toArray, List.set_cons_zero, List.set_cons_succ]
      refine wpAnyH_take (i := 3) (v := ?v3x4ze1) (by simp only [List.getElem?_toArray, List.getElem?_cons_zero, List.getElem?_cons_succ]; exact rfl) (by kernel_rfl) (by kernel_rfl) (by kernel_rfl) (by exact fun _ _ _ h => h) (Or.inl ⟨by rfl, ?y3x4ze1⟩) hS ?r3x4ze1
      case y3x4ze1 => (intro w' hSw; (try dsimp only at hSw); go_simp; (try with_reducible rfl))
      simp only [Act.put, List.setIfInBounds_toArray, List.set_cons_zero, List.set_cons_succ]
      refine wpAnyH_take (i := 4) (v := ?v4x5ze1) (by simp only [List.getElem?_toArray, List.getElem?_cons_zero, List.getElem?_cons_succ]; exact rfl) (by kernel_rfl) (by kernel_rfl) (by kernel_rfl) (by exact fun _ _ _ h => h) (Or.inl ⟨by rfl, ?y4x5ze1⟩) hS ?r4x5ze1
      case y4x5ze1 => (intro w' hSw; (try dsimp only at hSw); go_simp; (try with_reducible rfl))
      simp only [Act.put, List.setIfInBounds_toArray, List.set_cons_zero, List.set_cons_succ]
      refine wpAnyH_take (i := 5) (v := ?v5x6ze1) (by simp only [List.getElem?_toArray, List.getElem?_cons_zero, List.getElem?_cons_succ]; exact rfl) (by kernel_rfl) (by kernel_rfl) (by kernel_rfl) (by exact fun _ _ _ h => h) (Or.inl ⟨by rfl, ?y5x6ze1⟩) hS ?r5x6ze1
      case y5x6ze1 => (intro w' hSw; (try dsimp only at hSw); go_simp; (try with_reducible rfl))
      simp only [Act.put, List.setIfInBounds_toArray, List.set_cons_zero, List.set_cons_succ]
      refine wpAnyH_take (i := 6) (v := ?v6x7ze1) (by simp only [List.getElem?_toArray, List.getElem?_cons_zero, List.getElem?_cons_succ]; exact rfl) (by kernel_rfl) (by kernel_rfl) (by kernel_rfl) (by exact fun _ _ _ h => h) ?y6x7ze1 hS ?r6x7ze1
      case y6x7ze1 => (refine yieldsIf_load_mid ?_ 136 (.tmp 47) ?_ w1.heap.size 1 ?_ (bv b) _ ?_ Try.underlying136 ?_ ?_; rfl; rfl; rfl; exact (fun w' hSw => hSw.2.range fun j v hv => by rw [Nat.add_comm]; exact hv); rfl; (rw [bv_length, H64.out]; exact sec_info))
      simp only [Act.put, List.setIfInBounds_toArray, List.set_cons_zero, List.set_cons_succ]
      refine wpAnyH_take (i := 7) (v := ?v7x8ze1) (by simp only [List.getElem?_toArray, List.getElem?_cons_zero, List.getElem?_cons_succ]; exact rfl) (by kernel_rfl) (by kernel_rfl) (by kernel_rfl) (by exact fun _ _ _ h => h) (Or.inl ⟨by rfl, ?y7x8ze1⟩) hS ?r7x8ze1
      case y7x8ze1 => (intro w' hSw; (try dsimp only at hSw); go_simp; (try with_reducible rfl))
      simp only [Act.put, List.setIfInBounds_toArray, List.set_cons_zero, List.set_cons_succ]
      refine wpAnyH_ready (rs := [8]) (by kernel_rfl) (by simp) ?_
      refine AllReadyH.cons (by simp only [List.getElem?_toArray, List.getElem?_cons_zero, List.getElem?_cons_succ]; exact rfl) (fun K hK => ?_) AllReadyH.nil
      refine wp_store_mid 136 (.tmp 49) (.tmp 48) rfl gn (k * 64) (bv b).toArray rfl rfl (by rw [List.size_toArray, bv_length, H64.out]; exact HE.out.1) (by rw [List.size_toArray, bv_length, H64.out]; exact sec_info) (bv_cells b) ?_
      refine hK.out _ _ ?k8x9ze1 (fun hS => ?s8x9ze1)
      case k8x9ze1 => exact ⟨by rw [World.cell?_setCells_out _ _ _ _ _ (fun h => absurd h H1.out.an)]; exact hS.1, hS.2.otherCells _ _ _ HNG.out⟩
      clear hK K
      try simp only [Act.put]
      refine wpAnyH_done (by kernel_rfl) ?_ _
      go_wp2
      go_ret
      obtain ⟨_, he, hke⟩ := HE.out
      rw [show ({ d.through.2 with loose := d.through.2.loose ++ [(k, b)] } : Dev) = { d.through.2 with loose := d.loose ++ [(k, b)] } by rw [through_loose]] at he
      exact ⟨rfl, ⟨_, _, he.mono (fun k hk => hk.imp id fun h => ⟨Nat.le_trans HK1.out.size h.1, by rw [size_setCells']; simpa using h.2⟩)⟩, HK1.out.trans hke⟩
      
    · refine wpo_lay1 (.tmp 37) rfl (wcells (k, b)) (wcells_len H64.out) rfl ?_
      intro w3 hb3 hc3
      have HB3 : Hid (Below w2.heap.size w2 w3) := ((Below.refl _ w2).drew).trans hb3
      have HC3 := hid hc3
      clear hb3 hc3
      refine hK.out _ _ ?k6x12 (fun hS => ?s6x12)
      case k6x12 => exact HG8.out.below HB3.out (by exact HG8.out.lt)
      clear hK K
      try simp only [Act.put, List.setIfInBounds_toArray, List.set_cons_zero, List.set_cons_succ]
      refine wpAnyH_ready (rs := [4]) (by kernel_rfl) (by simp) ?_
      refine AllReadyH.cons (by simp only [List.getElem?_toArray, List.getElem?_cons_zero, List.getElem?_cons_succ]; exact rfl) (fun K hK => ?_) AllReadyH.nil
      have hc2 := H2.out.hd.cell (j := 2) rfl
      try have hc2' := (H2.out.below HB3.out).hd.cell (j := 2) rfl
      go_simp
      refine hK.out _ _ ?k4x13 (fun hS => ?s4x13)
      case k4x13 => exact hS
      clear hK K
      try simp only [Act.put, List.setIfInBounds_toArray, List.set_cons_zero, List.set_cons_succ]
      refine wpAnyH_ready (rs := [7]) (by kernel_rfl) (by simp) ?_
      refine AllReadyH.cons (by simp only [List.getElem?_toArray, List.getElem?_cons_zero, List.getElem?_cons_succ]; exact rfl) (fun K hK => ?_) AllReadyH.nil
      refine wpo_appendW (.tmp 36) (.tmp 38) rfl vl _ _ rfl (H2.out.below HB3.out).lo _ rfl (wcells (k, b)) HC3.out (wcells_len H64.out) (wcells_one _) hlo'.out ?_
      intro v4 w4 ho4 hg4 hw4
      obtain ⟨ao4, c4, rfl⟩ := own_slice ho4
      have HO4 := hid ho4
      have MK2 : Hid (Keep (fun k => vl.ownBlock = some k) w2 w4) := ((Keep.ofBelow (F := fun k => vl.ownBlock = some k) (a := w2) (b := w3) HB3.out).grown hg4 (fun k hk _ => hk))
      have MK1 : Hid (Keep (fun k => vl.ownBlock = some k) w1 w4) := (Keep.ofBelow (F := fun k => vl.ownBlock = some k) HBE.out).trans MK2.out
      have HW4 : Hid ((Value.slice ao4 (d.through.2.loose.length + 1) c4).ownBlock = vl.ownBlock ∨ ∀ k, (Value.slice ao4 (d.through.2.loose.length + 1) c4).ownBlock = some k → w1.heap.size ≤ k) := by
        rcases hw4 with h | h
        · exact .inl h
        · refine .inr fun k hk => ?_
          rw [h] at hk; injection hk with hk
          have h1 := HBE.out.size; have h2 : w2.heap.size ≤ w3.heap.size := HB3.out.size
          omega
      have hd4 := hid (H2.out.hd.keep MK2.out (fun h => (H2.out.fl _ h).2.1 rfl))
      have HG4 := hid (HG8.out.keep MK2.out hg8o.out)
      have HE := hid (write_end H1.out (by rw [through_img]; exact hk) H64.out MK1.out HO4.out HW4.out)
      clear ho4 hg4 hw4
      refine hK.out _ _ ?k7x14 (fun hS => ?s7x14)
      case k7x14 => exact HG4.out
      clear hK K
      try simp only [Act.put, List.setIfInBounds_toArray, List.set_cons_zero, List.set_cons_succ]
      refine wpAnyH_take (i := 8) (v := ?v8x15) (by simp only [List.getElem?_toArray, List.getElem?_cons_zero, List.getElem?_cons_succ]; exact rfl) (by kernel_rfl) (by kernel_rfl) (by kernel_rfl) (by exact fun _ _ _ h => h) (Or.inl ⟨by rfl, ?y8x15⟩) hS ?r8x15
      case y8x15 => (intro w' hSw; (try dsimp only at hSw); go_simp; (try with_reducible rfl))
      simp only [Act.put, List.setIfInBounds_toArray, List.set_cons_zero, List.set_cons_succ]
      refine wpAnyH_take (i := 9) (v := ?v9x16) (by simp only [List.getElem?_toArray, List.getElem?_cons_zero, List.getElem?_cons_succ]; exact rfl) (by kernel_rfl) (by kernel_rfl) (by kernel_rfl) (by exact fun _ _ _ h => h) (Or.inl ⟨by rfl, ?y9x16⟩) hS ?r9x16
      case y9x16 => (intro w' hSw; (try dsimp only at hSw); go_simp; (try with_reducible rfl))
      simp only [Act.put, List.setIfInBounds_toArray, List.set_cons_zero, List.set_cons_succ]
      refine wpAnyH_ready (rs := [10]) (by kernel_rfl) (by simp) ?_
      refine AllReadyH.cons (by simp only [List.getElem?_toArray, List.getElem?_cons_zero, List.getElem?_cons_succ]; exact rfl) (fun K hK => ?_) AllReadyH.nil
      have hc4 := hd4.out.cell (j := 2) rfl
      have hf4 := hd4.out.free 2
      go_simp
      refine hK.out _ _ ?k10x17 (fun hS => ?s10x17)
      case k10x17 => exact HG4.out.other _ _ hg8a.out
      clear hK K
      try simp only [Act.put]
      refine wpAnyH_done (by kernel_rfl) ?_ _
      clear hS
      go_wp2_with fail
      have hk2 : k < d.through.2.img.length := by rw [through_img]; exact hk
      have hd5 := hid (hd4.out.set 2 (Value.slice ao4 (d.through.2.loose.length + 1) c4))
      have HNG : Hid (w1.heap.size ≠ gn) := by have := H1.out.nw.lt; show w1.heap.size ≠ gn; omega
      refine wp_region_held_drew (S := fun w' => w'.cell? ⟨a, 1, none⟩ = some (.slice (some ⟨gn, 0, none⟩) d.through.2.img.length d.through.2.img.length) ∧ Blk w' w1.heap.size 138 (wcells (k, b))) (by kernel_rfl) ⟨hd5.out.drew.cell (j := 1) rfl, (HG4.out.other _ _ hg8a.out).drew⟩ (fun hS => ?_)
      refine wpAnyH_take (i := 0) (v := ?v0x1ze2) (by simp only [List.getElem?_toArray, List.getElem?_cons_zero]; exact rfl) (by kernel_rfl) (by kernel_rfl) (by kernel_rfl) (by exact fun _ _ _ h => h) (Or.inl ⟨by rfl, ?y0x1ze2⟩) hS ?r0x1ze2
      case y0x1ze2 => (intro w' hSw; (try dsimp only at hSw); go_simp; (try with_reducible rfl))
      simp only [Act.put, List.setIfInBounds_toArray, List.set_cons_zero, List.set_cons_succ]
      refine wpAnyH_take (i := 1) (v := ?v1x2ze2) (by simp only [List.getElem?_toArray, List.getElem?_cons_zero, List.getElem?_cons_succ]; exact rfl) (by kernel_rfl) (by kernel_rfl) (by kernel_rfl) (by exact fun _ _ _ h => h) (Or.inl ⟨by rfl, ?y1x2ze2⟩) hS ?r1x2ze2
      case y1x2ze2 => (intro w' hSw; (try dsimp only at hSw); go_simp; (try with_reducible rfl))
      simp only [Act.put, List.setIfInBounds_toArray, List.set_cons_zero, List.set_cons_succ]
      refine wpAnyH_take (i := 2) (v := ?v2x3ze2) (by simp only [List.getElem?_toArray, List.getElem?_cons_zero, List.getElem?_cons_succ]; exact rfl) (by kernel_rfl) (by kernel_rfl) (by kernel_rfl) (by exact fun _ _ _ h => h) (Or.inl ⟨by rfl, ?y2x3ze2⟩) hS ?r2x3ze2
      case y2x3ze2 => (intro w' hSw; (try dsimp only at hSw); go_simp; (try with_reducible rfl))
      simp only [Act.put, List.setIfInBounds_toArray, List.set_cons_zero, List.set_cons_succ]
      refine wpAnyH_take (i := 3) (v := ?v3x4ze2) (by simp only [List.getElem?_toArray, List.getElem?_cons_zero, List.getElem?_cons_succ]; exact rfl) (by kernel_rfl) (by kernel_rfl) (by kernel_rfl) (by exact fun _ _ _ h => h) (Or.inl ⟨by rfl, ?y3x4ze2⟩) hS ?r3x4ze2
      case y3x4ze2 => (intro w' hSw; (try dsimp only at hSw); go_simp; (try with_reducible rfl))
      simp only [Act.put, List.setIfInBounds_toArray, List.set_cons_zero, List.set_cons_succ]
      refine wpAnyH_take (i := 4) (v := ?v4x5ze2) (by simp only [List.getElem?_toArray, List.getElem?_cons_zero, List.getElem?_cons_succ]; exact rfl) (by kernel_rfl) (by kernel_rfl) (by kernel_rfl) (by exact fun _ _ _ h => h) (Or.inl ⟨by rfl, ?y4x5ze2⟩) hS ?r4x5ze2
      case y4x5ze2 => (intro w' hSw; (try dsimp only at hSw); go_simp; (try with_reducible rfl))
      simp only [Act.put, List.setIfInBounds_toArray, List.set_cons_zero, List.set_cons_succ]
      refine wpAnyH_take (i := 5) (v := ?v5x6ze2) (by simp only [List.getElem?_toArray, List.getElem?_cons_zero, List.getElem?_cons_succ]; exact rfl) (by kernel_rfl) (by kernel_rfl) (by kernel_rfl) (by exact fun _ _ _ h => h) (Or.inl ⟨by rfl, ?y5x6ze2⟩) hS ?r5x6ze2
      case y5x6ze2 => (intro w' hSw; (try dsimp only at hSw); go_simp; (try with_reducible rfl))
      simp only [Act.put, List.setIfInBounds_toArray, List.set_cons_zero, List.set_cons_succ]
      refine wpAnyH_take (i := 6) (v := ?v6x7ze2) (by simp only [List.getElem?_toArray, List.getElem?_cons_zero, List.getElem?_cons_succ]; exact rfl) (by kernel_rfl) (by kernel_rfl) (by kernel_rfl) (by exact fun _ _ _ h => h) ?y6x7ze2 hS ?r6x7ze2
      case y6x7ze2 => (refine yieldsIf_load_mid ?_ 136 (.tmp 47) ?_ w1.heap.size 1 ?_ (bv b) _ ?_ Try.underlying136 ?_ ?_; rfl; rfl; rfl; exact (fun w' hSw => hSw.2.range fun j v hv => by rw [Nat.add_comm]; exact hv); rfl; (rw [bv_length, H64.out]; exact sec_info))
      simp only [Act.put, List.setIfInBounds_toArray, List.set_cons_zero, List.set_cons_succ]
      refine wpAnyH_take (i := 7) (v := ?v7x8ze2) (by simp only [List.getElem?_toArray, List.getElem?_cons_zero, List.getElem?_cons_succ]; exact rfl) (by kernel_rfl) (by kernel_rfl) (by kernel_rfl) (by exact fun _ _ _ h => h) (Or.inl ⟨by rfl, ?y7x8ze2⟩) hS ?r7x8ze2
      case y7x8ze2 => (intro w' hSw; (try dsimp only at hSw); go_simp; (try with_reducible rfl))
      simp only [Act.put, List.setIfInBounds_toArray, List.set_cons_zero, List.set_cons_succ]
      refine wpAnyH_ready (rs := [8]) (by kernel_rfl) (by simp) ?_
      refine AllReadyH.cons (by simp only [List.getElem?_toArray, List.getElem?_cons_zero, List.getElem?_cons_succ]; exact rfl) (fun K hK => ?_) AllReadyH.nil
      refine wp_store_mid 136 (.tmp 49) (.tmp 48) rfl gn (k * 64) (bv b).toArray rfl rfl (by rw [List.size_toArray, bv_length, H64.out]; exact HE.out.1) (by rw [List.size_toArray, bv_length, H64.out]; exact sec_info) (bv_cells b) ?_
      refine hK.out _ _ ?k8x9ze2 (fun hS => ?s8x9ze2)
      case k8x9ze2 => exact ⟨by rw [World.cell?_setCells_out _ _ _ _ _ (fun h => absurd h H1.out.an)]; exact hS.1, hS.2.otherCells _ _ _ HNG.out⟩
      clear hK K
      try simp only [Act.put]
      refine wpAnyH_done (by kernel_rfl) ?_ _
      go_wp2
      go_ret
      obtain ⟨_, he, hke⟩ := HE.out
      rw [show ({ d.through.2 with loose := d.through.2.loose ++ [(k, b)] } : Dev) = { d.through.2 with loose := d.loose ++ [(k, b)] } by rw [through_loose]] at he
      exact ⟨rfl, ⟨_, _, he.mono (fun k hk => hk.imp id fun h => ⟨Nat.le_trans HK1.out.size h.1, by rw [size_setCells']; simpa using h.2⟩)⟩, HK1.out.trans hke⟩
      
end Go.Proofs.Ytlondopgibcikaa
namespace Go.Proofs.Ytlondopgibcikaa
open Go.RowKit Ent

theorem sec_parts : ∃ i, Try.prog.info? 136 = some i ∧ i.zero = some (.agg (Array.replicate 64 (.int .u8 0))) ∧ i.size = 64 ∧ i.bytes = 64 := info_parts (P := Try.prog) (by kernel_rfl)
theorem run_copy_secs (w : World) (ty : TypeId) (gi gn n : Nat) (cs : List Value) (hl : cs.length = n * 64) (hs : w.rangeAt gn 0 cs) (ht : w.there gi 0 (n * 64)) (h1 : ∀ v ∈ cs, v.oneCell' = true) :
    (Builtin.copy_ #[67, 67] ty #[.slice (some ⟨gi, 0, none⟩) n n, .slice (some ⟨gn, 0, none⟩) n n]).run Try.prog w = .ok (goInt n) (w.setCells gi 0 cs) := by
  obtain ⟨i, hi, _, hz, _⟩ := sec_parts
  have hl' := run_loadCells_list (P := Try.prog) w ⟨gn, 0, none⟩ cs (fun j v hv => by rw [Addr.add_mid]; exact hs j v hv)
  have hst := run_storeCells_cells (P := Try.prog) gi 0 cs 0 w (fun j hj => by simpa using (ht j (by omega)).1) (fun j hj => by simpa using (ht j (by omega)).2) h1
  rw [hl] at hl'
  simp only [Nat.add_zero] at hst
  simp [Builtin.copy_, run_underlying Try.underlying67, Builtin.lenOf, Builtin.firstCells, sizeOf, typeInfo, hi, hz, hl', hst]
theorem wpo_copySecs {o : Oper} {a : Act} {w : World} {K : Act → World → Prop} {Q : Exit → Act → World → Prop} (s x : Operand)
    (ho : o.op = .call { callee := .builtin .copy, args := #[s, x], argTypes := #[67, 67] })
    (gi gn n : Nat) (cs : List Value) (hs : a.eval s = .slice (some ⟨gi, 0, none⟩) n n) (hx : a.eval x = .slice (some ⟨gn, 0, none⟩) n n) (hl : cs.length = n * 64) (hr : w.rangeAt gn 0 cs) (ht : w.there gi 0 (n * 64)) (h1 : ∀ v ∈ cs, v.oneCell' = true)
    (h : K (a.put o.dst (goInt n)) (w.setCells gi 0 cs)) : o.wp Try.prog a w K Q := by
  unfold Oper.wp execOp
  simp only [ho, resolve, invoke, builtin, Sem.run_bind, Sem.run_pure, Result.andThen_ok, List.map_toArray, List.map_cons, List.map_nil, hs, hx, run_copy_secs w _ gi gn n cs hl hr ht h1]
  exact h
theorem Blk.over {w : World} {g : Nat} {T : TypeId} {vs : List Value} (h : Blk w g T vs) (cs : List Value) (hl : cs.length = vs.length) : Blk (w.setCells g 0 cs) g T cs := by
  have := h.setCells cs _ 0 (by omega)
  rw [Nat.zero_add, hl, List.drop_of_length_le (Nat.le_refl _)] at this
  simpa using this
theorem through_out (d : Dev) (h : d.through.1 = true) : d.through.2.out = d.out := by
  unfold Dev.through at h ⊢; split <;> simp_all
theorem through_now (d : Dev) : d.through.2.now = d.now := by unfold Dev.now; rw [through_img, through_loose]
theorem flush_end {w1 : World} {a gi gn : Nat} {vl lets : Value} {left : Int} {F : Nat → Prop} {d : Dev} (h : PD w1 a gi gn vl lets left F d) :
    (w1.drew.setCells gi 0 (bv d.now.flatten)).cell? ⟨a, 2, none⟩ = some vl ∧ (w1.drew.setCells gi 0 (bv d.now.flatten)).frozen? ⟨a, 2, none⟩ = false ∧
    PD ((w1.drew.setCells gi 0 (bv d.now.flatten)).setCell ⟨a, 2, none⟩ (.slice none 0 0)) a gi gn (.slice none 0 0) lets left F { d with img := d.now, loose := [] } ∧
    Keep F w1 ((w1.drew.setCells gi 0 (bv d.now.flatten)).setCell ⟨a, 2, none⟩ (.slice none 0 0)) := by
  have hl : (bv d.now.flatten).length = (bv d.img.flatten).length := by rw [bv_length, bv_length, h.ok.now64.len, h.ok.s64.len, d.now_len]
  have hd2 := h.hd.drew.otherCells gi 0 (bv d.now.flatten) h.ai
  have nl := d.now_len
  refine ⟨hd2.cell (j := 2) rfl, hd2.free 2, ?_, (Keep.setCells h.fi _ _ (Keep.refl F w1).drew).setCell (p := ⟨a, 2, none⟩) h.fa _⟩
  exact {
    ok := ⟨h.ok.now64, by show d.now.length ≤ 65536; rw [nl]; exact h.ok.2, by show 1 ≤ d.now.length; rw [nl]; exact h.ok.3, fun x hx => by simp at hx⟩
    hd := by
      have := hd2.set 2 (.slice none 0 0)
      show Blk _ _ _ (head6 gi gn d.now.length _ _ _ _)
      rw [nl]; exact this
    im := (h.im.drew.over _ hl).other _ _ (Ne.symm h.ai)
    nw := (h.nw.drew.otherCells _ _ _ (Ne.symm h.gg)).other _ _ (Ne.symm h.an)
    lo := World.ownsRow_nil _ _ _ _
    fu := h.fu, lf := h.lf, ai := h.ai, an := h.an, gg := h.gg, fa := h.fa, fi := h.fi, fn := h.fn, fl := fun k hk => by cases hk }
set_option maxRecDepth 100000 in
set_option maxHeartbeats 1000000 in
theorem flush_any {a gi gn : Nat} {vl lets : Value} {left : Int} {F : Nat → Prop} {d : Dev} (w : World) (h : PD w a gi gn vl lets left F d) :
    Calls Try.prog 41 #[ptr a] w fun e w' => e = .returned (.int .i64 d.flush.1) ∧ (∃ vl' left', PD w' a gi gn vl' lets left' F d.flush.2) ∧ Keep F w w' := by
  have H := hid h
  cases ho : d.out
  rotate_left
  · have hs : d.flush = (22, d) := by unfold Dev.flush; rw [ho]; rfl
    rw [hs]
    have HO := hid ho
    clear h ho hs
    unfold ptr
    go_enter Try.func41, Try.ntmps41
    go_wp2_with fail
    refine (ready_any w H.out).mono ?_
    rintro e w' ⟨rfl, rfl⟩
    rw [HO.out, show outCode true = 22 from rfl]
    go_wp2
    go_ret
    exact ⟨rfl, ⟨_, _, H.out⟩, Keep.refl _ _⟩
  cases ht : d.through.1
  · have hs : d.flush = (22, d.through.2) := by unfold Dev.flush; rw [ho]; simp [ht]
    rw [hs]
    have HO := hid ho; have HT := hid ht
    clear h ho hs ht
    unfold ptr
    go_enter Try.func41, Try.ntmps41
    go_wp2_with fail
    refine (ready_any w H.out).mono ?_
    rintro e w' ⟨rfl, rfl⟩
    rw [HO.out, show outCode false = 0 from rfl]
    go_wp2_with fail
    refine (through_any w' H.out HO.out).mono ?_
    rintro e w1 ⟨rfl, ⟨left', h1⟩, hk1⟩
    rw [HT.out]
    go_wp2
    go_ret
    exact ⟨rfl, ⟨_, _, h1⟩, hk1⟩
  · have hs : d.flush = (0, { d.through.2 with img := d.now, loose := [] }) := by unfold Dev.flush; rw [ho]; simp [ht]
    rw [hs]
    have HO := hid ho; have HT := hid ht
    clear h ho hs ht
    unfold ptr
    go_enter Try.func41, Try.ntmps41
    go_wp2_with fail
    refine (ready_any w H.out).mono ?_
    rintro e w' ⟨rfl, rfl⟩
    rw [HO.out, show outCode false = 0 from rfl]
    go_wp2_with fail
    refine (through_any w' H.out HO.out).mono ?_
    rintro e w1 ⟨rfl, ⟨left', h1⟩, hk1⟩
    rw [HT.out]
    have H1 := hid h1
    have HK1 := hid hk1
    have HN : Hid (d.through.2.now.length = d.through.2.img.length) := hid (Dev.now_len _)
    obtain ⟨aol, cl, hvl⟩ := h1.lv
    have HVL := hid hvl
    clear h1 hk1 hvl
    go_wp2_with fail
    -- REGION 6
    refine wp_region_held_drew (S := fun w' => w'.cell? ⟨a, 0, none⟩ = some (.slice (some ⟨gi, 0, none⟩) d.through.2.img.length d.through.2.img.length) ∧ w'.cell? ⟨a, 1, none⟩ = some (.slice (some ⟨gn, 0, none⟩) d.through.2.img.length d.through.2.img.length)) (by kernel_rfl) ⟨H1.out.hd.drew.cell (j := 0) rfl, H1.out.hd.drew.cell (j := 1) rfl⟩ (fun hS => ?_)
    refine wpAnyH_take (i := 0) (v := ?v0x1) (by simp only [List.getElem?_toArray, List.getElem?_cons_zero]; exact rfl) (by kernel_rfl) (by kernel_rfl) (by kernel_rfl) (by exact fun _ _ _ h => h) (Or.inl ⟨by rfl, ?y0x1⟩) hS ?r0x1
    case y0x1 => (intro w' hSw; (try dsimp only at hSw); go_simp; (try with_reducible rfl))
    simp only [Act.put, List.setIfInBounds_toArray, List.set_cons_zero, List.set_cons_succ]
    refine wpAnyH_take (i := 1) (v := ?v1x2) (by simp only [List.getElem?_toArray, List.getElem?_cons_zero, List.getElem?_cons_succ]; exact rfl) (by kernel_rfl) (by kernel_rfl) (by kernel_rfl) (by exact fun _ _ _ h => h) (Or.inl ⟨by rfl, ?y1x2⟩) hS ?r1x2
    case y1x2 => (intro w' hSw; (try dsimp only at hSw); go_simp; (try with_reducible rfl))
    simp only [Act.put, List.setIfInBounds_toArray, List.set_cons_zero, List.set_cons_succ]
    refine wpAnyH_take (i := 2) (v := ?v2x3) (by simp only [List.getElem?_toArray, List.getElem?_cons_zero, List.getElem?_cons_succ]; exact rfl) (by kernel_rfl) (by kernel_rfl) (by kernel_rfl) (by exact fun _ _ _ h => h) (Or.inl ⟨by rfl, ?y2x3⟩) hS ?r2x3
    case y2x3 => (intro w' hSw; (try dsimp only at hSw); go_simp; (try with_reducible rfl))
    simp only [Act.put, List.setIfInBounds_toArray, List.set_cons_zero, List.set_cons_succ]
    refine wpAnyH_take (i := 3) (v := ?v3x4) (by simp only [List.getElem?_toArray, List.getElem?_cons_zero, List.getElem?_cons_succ]; exact rfl) (by kernel_rfl) (by kernel_rfl) (by kernel_rfl) (by exact fun _ _ _ h => h) (Or.inl ⟨by rfl, ?y3x4⟩) hS ?r3x4
    case y3x4 => (intro w' hSw; (try dsimp only at hSw); go_simp; (try with_reducible rfl))
    simp only [Act.put, List.setIfInBounds_toArray, List.set_cons_zero, List.set_cons_succ]
    refine wpAnyH_take (i := 4) (v := ?v4x5) (by simp only [List.getElem?_toArray, List.getElem?_cons_zero, List.getElem?_cons_succ]; exact rfl) (by kernel_rfl) (by kernel_rfl) (by kernel_rfl) (by exact fun _ _ _ h => h) (Or.inl ⟨by rfl, ?y4x5⟩) hS ?r4x5
    case y4x5 => (intro w' hSw; (try dsimp only at hSw); go_simp; (try with_reducible rfl))
    simp only [Act.put, List.setIfInBounds_toArray, List.set_cons_zero, List.set_cons_succ]
    refine wpAnyH_take (i := 5) (v := ?v5x6) (by simp only [List.getElem?_toArray, List.getElem?_cons_zero, List.getElem?_cons_succ]; exact rfl) (by kernel_rfl) (by kernel_rfl) (by kernel_rfl) (by exact fun _ _ _ h => h) (Or.inl ⟨by rfl, ?y5x6⟩) hS ?r5x6
    case y5x6 => (intro w' hSw; (try dsimp only at hSw); go_simp; (try with_reducible rfl))
    simp only [Act.put, List.setIfInBounds_toArray, List.set_cons_zero, List.set_cons_succ]
    refine wpAnyH_take (i := 6) (v := ?v6x7) (by simp only [List.getElem?_toArray, List.getElem?_cons_zero, List.getElem?_cons_succ]; exact rfl) (by kernel_rfl) (by kernel_rfl) (by kernel_rfl) (by exact fun _ _ _ h => h) (Or.inl ⟨by rfl, ?y6x7⟩) hS ?r6x7
    case y6x7 => (intro w' hSw; (try dsimp only at hSw); go_simp; (try with_reducible rfl))
    simp only [Act.put, List.setIfInBounds_toArray, List.set_cons_zero, List.set_cons_succ]
    refine wpAnyH_take (i := 7) (v := ?v7x8) (by simp only [List.getElem?_toArray, List.getElem?_cons_zero, List.getElem?_cons_succ]; exact rfl) (by kernel_rfl) (by kernel_rfl) (by kernel_rfl) (by exact fun _ _ _ h => h) (Or.inl ⟨by rfl, ?y7x8⟩) hS ?r7x8
    case y7x8 => (intro w' hSw; (try dsimp only at hSw); go_simp; (try with_reducible rfl))
    simp only [Act.put, List.setIfInBounds_toArray, List.set_cons_zero, List.set_cons_succ]
    refine wpAnyH_ready (rs := [8]) (by kernel_rfl) (by simp) ?_
    refine AllReadyH.cons (by simp only [List.getElem?_toArray, List.getElem?_cons_zero, List.getElem?_cons_succ]; exact rfl) (fun K hK => ?_) AllReadyH.nil
    refine wpo_copySecs (.tmp 15) (.tmp 19) rfl gi gn _ (bv d.through.2.now.flatten) rfl rfl (by rw [bv_length, H1.out.ok.now64.len, HN.out]; omega) (H1.out.nw.range fun j v hv => by rw [Nat.zero_add]; exact hv) (H1.out.im.there (by rw [bv_length, H1.out.ok.s64.len]; omega)) (bv_one _) ?_
    refine hK.out _ _ ?k8x9 (fun hS => ?s8x9)
    case k8x9 => exact ⟨by rw [World.cell?_setCells_out _ _ _ _ _ (fun h => absurd h H1.out.ai)]; exact hS.1, by rw [World.cell?_setCells_out _ _ _ _ _ (fun h => absurd h H1.out.ai)]; exact hS.2⟩
    clear hK K
    try simp only [Act.put, List.setIfInBounds_toArray, List.set_cons_zero, List.set_cons_succ]
    refine wpAnyH_done (by kernel_rfl) ?_ _
    clear hS
    have HF := hid (flush_end H1.out)
    have hc2 := HF.out.1
    have hf2 := HF.out.2.1
    go_wp2
    go_ret
    refine ⟨rfl, ⟨.slice none 0 0, left', ?_⟩, HK1.out.trans HF.out.2.2.2⟩
    have := HF.out.2.2.1
    rw [show ({ d.through.2 with img := d.through.2.now, loose := [] } : Dev) = { d.through.2 with img := d.now, loose := [] } by rw [through_now]] at this
    exact this
-- BEHIND FLUSH
theorem made_secs (n : Nat) : madeCells (Value.agg (Array.replicate 64 (.int .u8 0))).cells (n * 64) = (bv (List.replicate (n * 64) 0)).toArray := by
  apply Array.ext_getElem?
  intro i
  by_cases hi : i < n * 64
  · have : i % 64 < 64 := Nat.mod_lt _ (by omega)
    simp [madeCells, bv, hi, Value.cells, this]
  · rw [Array.getElem?_eq_none (by simp [madeCells]; omega), Array.getElem?_eq_none (by simp; omega)]
theorem wpo_makeSecs {o : Oper} {a : Act} {w : World} {K : Act → World → Prop} {Q : Exit → Act → World → Prop} (l c : Operand) (ho : o.op = .makeSlice 67 l c) (n : Nat) (hl : a.eval l = .int .i64 n) (hc : a.eval c = .int .i64 n) (hn : n ≤ 65536)
    (h : ∀ w', Below w.heap.size w w' → Blk w' w.heap.size 136 (bv (Dev.new n).img.flatten) → K (a.put o.dst (.slice (some ⟨w.heap.size, 0, none⟩) n n)) w') : o.wp Try.prog a w K Q := by
  obtain ⟨i, hi, hz, hsz, hby⟩ := sec_parts
  have hr := run_makeSlice (P := Try.prog) w 67 136 i _ Try.underlying67 hi hz .i64 .i64 (n : Int) (n : Int) (by omega) (by omega) (by rw [hsz]; simp; omega) (by rw [hby]; omega) (by omega)
  rw [hsz, Int.toNat_natCast, made_secs, ← Dev.new_flat] at hr
  unfold Oper.wp execOp
  simp only [ho, hl, hc, hr, Sem.run_bind, Sem.run_pure, Result.andThen_ok]
  exact h _ (fresh_alloc w _) (alloc_new w _)
set_option maxRecDepth 100000 in
set_option maxHeartbeats 400000 in
theorem new_bad (n : Int) (hn : n < 1 ∨ 65536 < n) (w : World) :
    Calls Try.prog 46 #[.int .i64 n] w fun e w' => e = .returned (.tuple #[.pointer none, .int .i64 3]) ∧ w' = w := by
  by_cases h1 : n < 1
  all_goals
    (try have h2 : 65536 < n := by omega)
    go_enter Try.func46, Try.ntmps46
    go_wp2
    go_ret2
    exact ⟨rfl, rfl⟩
theorem new_laid {w w1 w2 : World} {n gi gn : Nat} (h1 : 1 ≤ n) (h2 : n ≤ 65536) (hi : Blk w2 gi 136 (bv (Dev.new n).img.flatten)) (hn : Blk w2 gn 136 (bv (Dev.new n).img.flatten)) (hne : gi ≠ gn) (hgi : w.heap.size ≤ gi) (hgn : w.heap.size ≤ gn) (hb : Below w.heap.size w w2)
    (e : w1 = w2.alloc (.cells #[.slice (some ⟨gi, 0, none⟩) n n, .slice (some ⟨gn, 0, none⟩) n n, .slice none 0 0, .nilFunc, .int .i64 0, .bool false] 70)) :
    PDev w1 w2.heap.size (fun k => w.heap.size ≤ k ∧ k < w1.heap.size) (Dev.new n) ∧ Below w.heap.size w w1 := by
  subst e
  have l1 := hi.lt; have l2 := hn.lt
  have hs := hb.size
  have hl : (Dev.new n).img.length = n := by simp [Dev.new]
  refine ⟨⟨gi, gn, .slice none 0 0, .nilFunc, 0, ?_⟩, hb.alloc hb.size _⟩
  exact {
    ok := Dev.new_ok h1 h2
    hd := by rw [hl]; exact alloc_new w2 _
    im := hi.alloc _
    nw := hn.alloc _
    lo := World.ownsRow_nil _ _ _ _
    fu := .inl ⟨rfl, rfl⟩
    lf := by omega
    ai := by omega
    an := by omega
    gg := hne
    fa := ⟨hs, by simp⟩
    fi := ⟨hgi, by simp; omega⟩
    fn := ⟨hgn, by simp; omega⟩
    fl := fun k hk => by cases hk }
set_option maxRecDepth 100000 in
set_option maxHeartbeats 1000000 in
theorem new_any (n : Nat) (hn1 : 1 ≤ n) (hn2 : n ≤ 65536) (w : World) :
    Calls Try.prog 46 #[.int .i64 n] w fun e w' => ∃ a, e = .returned (.tuple #[ptr a, .int .i64 0]) ∧ PDev w' a (fun k => w.heap.size ≤ k ∧ k < w'.heap.size) (Dev.new n) ∧ Below w.heap.size w w' := by
  go_enter Try.func46, Try.ntmps46
  go_wp2_with fail
  refine wp_region_held_drew (S := fun _ => True) (by kernel_rfl) trivial (fun hS => ?_)
  refine wpAnyH_take (i := 0) (v := ?v0x1) (by simp only [List.getElem?_toArray, List.getElem?_cons_zero]; exact rfl) (by kernel_rfl) (by kernel_rfl) (by kernel_rfl) (by exact fun _ _ _ h => h) (Or.inl ⟨by rfl, ?y0x1⟩) hS ?r0x1
  case y0x1 => (intro w' hSw; (try dsimp only at hSw); go_simp; (try with_reducible rfl))
  simp only [Act.put, List.setIfInBounds_toArray, List.set_cons_zero, List.set_cons_succ]
  refine wpAnyH_take (i := 2) (v := ?v2x2) (by simp only [List.getElem?_toArray, List.getElem?_cons_zero, List.getElem?_cons_succ]; exact rfl) (by kernel_rfl) (by kernel_rfl) (by kernel_rfl) (by exact fun _ _ _ h => h) (Or.inl ⟨by rfl, ?y2x2⟩) hS ?r2x2
  case y2x2 => (intro w' hSw; (try dsimp only at hSw); go_simp; (try with_reducible rfl))
  simp only [Act.put, List.setIfInBounds_toArray, List.set_cons_zero, List.set_cons_succ]
  refine wpAnyH_ready (rs := [1, 3]) (by kernel_rfl) (by simp) ?_
  refine AllReadyH.cons (by simp only [List.getElem?_toArray, List.getElem?_cons_zero, List.getElem?_cons_succ]; exact rfl) (fun K hK => ?_) (AllReadyH.cons (by simp only [List.getElem?_toArray, List.getElem?_cons_zero, List.getElem?_cons_succ]; exact rfl) (fun K hK => ?_) AllReadyH.nil)
  · refine wpo_makeSecs (.tmp 10) (.tmp 10) rfl n rfl rfl hn2 ?_
    intro w3 hb3 hc3
    have HB3 := hid hb3
    have HC3 := hid hc3
    clear hb3 hc3
    refine hK.out _ _ ?k1x3 (fun hS => ?s1x3)
    case k1x3 => exact trivial
    clear hK K
    try simp only [Act.put, List.setIfInBounds_toArray, List.set_cons_zero, List.set_cons_succ]
    refine wpAnyH_ready (rs := [3]) (by kernel_rfl) (by simp) ?_
    refine AllReadyH.cons (by simp only [List.getElem?_toArray, List.getElem?_cons_zero, List.getElem?_cons_succ]; exact rfl) (fun K hK => ?_) AllReadyH.nil
    refine wpo_makeSecs (.tmp 12) (.tmp 12) rfl n rfl rfl hn2 ?_
    intro w4 hb4 hc4
    have HB4 := hid hb4
    have HC4 := hid hc4
    clear hb4 hc4
    refine hK.out _ _ ?k3x4 (fun hS => ?s3x4)
    case k3x4 => exact trivial
    clear hK K
    try simp only [Act.put, List.setIfInBounds_toArray, List.set_cons_zero, List.set_cons_succ]
    refine wpAnyH_take (i := 4) (v := ?v4x5) (by simp only [List.getElem?_toArray, List.getElem?_cons_zero, List.getElem?_cons_succ]; exact rfl) (by kernel_rfl) (by kernel_rfl) (by kernel_rfl) (by exact fun _ _ _ h => h) (Or.inl ⟨by rfl, ?y4x5⟩) hS ?r4x5
    case y4x5 => (intro w' hSw; (try dsimp only at hSw); go_simp; (try with_reducible rfl))
    simp only [Act.put, List.setIfInBounds_toArray, List.set_cons_zero, List.set_cons_succ]
    refine wpAnyH_ready (rs := [5]) (by kernel_rfl) (by simp) ?_
    refine AllReadyH.cons (by simp only [List.getElem?_toArray, List.getElem?_cons_zero, List.getElem?_cons_succ]; exact rfl) (fun K hK => ?_) AllReadyH.nil
    go_simp
    refine hK.out _ _ ?k5x6 (fun hS => ?s5x6)
    case k5x6 => exact trivial
    clear hK K
    try simp only [Act.put, List.setIfInBounds_toArray, List.set_cons_zero, List.set_cons_succ]
    refine wpAnyH_take (i := 6) (v := ?v6x7) (by simp only [List.getElem?_toArray, List.getElem?_cons_zero, List.getElem?_cons_succ]; exact rfl) (by kernel_rfl) (by kernel_rfl) (by kernel_rfl) (by exact fun _ _ _ h => h) (Or.inl ⟨by rfl, ?y6x7⟩) hS ?r6x7
    case y6x7 => (intro w' hSw; (try dsimp only at hSw); go_simp; (try with_reducible rfl))
    simp only [Act.put, List.setIfInBounds_toArray, List.set_cons_zero, List.set_cons_succ]
    refine wpAnyH_take (i := 7) (v := ?v7x8) (by simp only [List.getElem?_toArray, List.getElem?_cons_zero, List.getElem?_cons_succ]; exact rfl) (by kernel_rfl) (by kernel_rfl) (by kernel_rfl) (by exact fun _ _ _ h => h) (Or.inl ⟨by rfl, ?y7x8⟩) hS ?r7x8
    case y7x8 => (intro w' hSw; (try dsimp only at hSw); go_simp; (try with_reducible rfl))
    simp only [Act.put, List.setIfInBounds_toArray, List.set_cons_zero, List.set_cons_succ]
    refine wpAnyH_done (by kernel_rfl) ?_ _
    clear hS
    go_wp2
    go_ret2
    first
      | (have h3 : Below w.heap.size w w3 := ((Below.refl _ w).drew).trans HB3.out
         have h4 := th h3 HB4.out
         have l3 : w.heap.size < w3.heap.size := HC3.out.lt
         obtain ⟨hp, hbe⟩ := new_laid (w := w) (w2 := w4) (gi := w.heap.size) (gn := w3.heap.size) hn1 hn2 (Blk.below HC3.out HB4.out l3) HC4.out (by omega) (Nat.le_refl _) (by omega) h4 rfl
         exact ⟨_, rfl, hp, hbe⟩)
      | (have h3 : Below w.heap.size w w4 := ((Below.refl _ w).drew).trans HB4.out
         have h4 := th h3 HB3.out
         have l3 : w.heap.size < w4.heap.size := HC4.out.lt
         obtain ⟨hp, hbe⟩ := new_laid (w := w) (w2 := w3) (gi := w4.heap.size) (gn := w.heap.size) hn1 hn2 HC3.out (Blk.below HC4.out HB3.out l3) (by omega) (by omega) (Nat.le_refl _) h4 rfl
         exact ⟨_, rfl, hp, hbe⟩)
  · refine wpo_makeSecs (.tmp 12) (.tmp 12) rfl n rfl rfl hn2 ?_
    intro w4 hb4 hc4
    have HB4 := hid hb4
    have HC4 := hid hc4
    clear hb4 hc4
    refine hK.out _ _ ?k3x9 (fun hS => ?s3x9)
    case k3x9 => exact trivial
    clear hK K
    try simp only [Act.put, List.setIfInBounds_toArray, List.set_cons_zero, List.set_cons_succ]
    refine wpAnyH_ready (rs := [1]) (by kernel_rfl) (by simp) ?_
    refine AllReadyH.cons (by simp only [List.getElem?_toArray, List.getElem?_cons_zero, List.getElem?_cons_succ]; exact rfl) (fun K hK => ?_) AllReadyH.nil
    refine wpo_makeSecs (.tmp 10) (.tmp 10) rfl n rfl rfl hn2 ?_
    intro w3 hb3 hc3
    have HB3 := hid hb3
    have HC3 := hid hc3
    clear hb3 hc3
    refine hK.out _ _ ?k1x10 (fun hS => ?s1x10)
    case k1x10 => exact trivial
    clear hK K
    try simp only [Act.put, List.setIfInBounds_toArray, List.set_cons_zero, List.set_cons_succ]
    refine wpAnyH_take (i := 4) (v := ?v4x11) (by simp only [List.getElem?_toArray, List.getElem?_cons_zero, List.getElem?_cons_succ]; exact rfl) (by kernel_rfl) (by kernel_rfl) (by kernel_rfl) (by exact fun _ _ _ h => h) (Or.inl ⟨by rfl, ?y4x11⟩) hS ?r4x11
    case y4x11 => (intro w' hSw; (try dsimp only at hSw); go_simp; (try with_reducible rfl))
    simp only [Act.put, List.setIfInBounds_toArray, List.set_cons_zero, List.set_cons_succ]
    refine wpAnyH_ready (rs := [5]) (by kernel_rfl) (by simp) ?_
    refine AllReadyH.cons (by simp only [List.getElem?_toArray, List.getElem?_cons_zero, List.getElem?_cons_succ]; exact rfl) (fun K hK => ?_) AllReadyH.nil
    go_simp
    refine hK.out _ _ ?k5x12 (fun hS => ?s5x12)
    case k5x12 => exact trivial
    clear hK K
    try simp only [Act.put, List.setIfInBounds_toArray, List.set_cons_zero, List.set_cons_succ]
    refine wpAnyH_take (i := 6) (v := ?v6x13) (by simp only [List.getElem?_toArray, List.getElem?_cons_zero, List.getElem?_cons_succ]; exact rfl) (by kernel_rfl) (by kernel_rfl) (by kernel_rfl) (by exact fun _ _ _ h => h) (Or.inl ⟨by rfl, ?y6x13⟩) hS ?r6x13
    case y6x13 => (intro w' hSw; (try dsimp only at hSw); go_simp; (try with_reducible rfl))
    simp only [Act.put, List.setIfInBounds_toArray, List.set_cons_zero, List.set_cons_succ]
    refine wpAnyH_take (i := 7) (v := ?v7x14) (by simp only [List.getElem?_toArray, List.getElem?_cons_zero, List.getElem?_cons_succ]; exact rfl) (by kernel_rfl) (by kernel_rfl) (by kernel_rfl) (by exact fun _ _ _ h => h) (Or.inl ⟨by rfl, ?y7x14⟩) hS ?r7x14
    case y7x14 => (intro w' hSw; (try dsimp only at hSw); go_simp; (try with_reducible rfl))
    simp only [Act.put, List.setIfInBounds_toArray, List.set_cons_zero, List.set_cons_succ]
    refine wpAnyH_done (by kernel_rfl) ?_ _
    clear hS
    go_wp2
    go_ret2
    first
      | (have h3 : Below w.heap.size w w3 := ((Below.refl _ w).drew).trans HB3.out
         have h4 := th h3 HB4.out
         have l3 : w.heap.size < w3.heap.size := HC3.out.lt
         obtain ⟨hp, hbe⟩ := new_laid (w := w) (w2 := w4) (gi := w.heap.size) (gn := w3.heap.size) hn1 hn2 (Blk.below HC3.out HB4.out l3) HC4.out (by omega) (Nat.le_refl _) (by omega) h4 rfl
         exact ⟨_, rfl, hp, hbe⟩)
      | (have h3 : Below w.heap.size w w4 := ((Below.refl _ w).drew).trans HB4.out
         have h4 := th h3 HB3.out
         have l3 : w.heap.size < w4.heap.size := HC4.out.lt
         obtain ⟨hp, hbe⟩ := new_laid (w := w) (w2 := w3) (gi := w4.heap.size) (gn := w.heap.size) hn1 hn2 HC3.out (Blk.below HC4.out HB3.out l3) (by omega) (by omega) (Nat.le_refl _) h4 rfl
         exact ⟨_, rfl, hp, hbe⟩)
end Go.Proofs.Ytlondopgibcikaa
namespace Go.Proofs.Ytlondopgibcikaa
open Go.RowKit Ent

def bbv (l : List Bool) : List Value := l.map Value.bool
theorem bbv_get (l : List Bool) (i : Nat) : (bbv l)[i]? = (l[i]?).map Value.bool := by simp [bbv]
/-- bools that may be read -/
def BL (w : World) (ao : Option Addr) (l : List Bool) : Prop := l = [] ∨ ∃ b o, ao = some ⟨b, o, none⟩ ∧ w.rangeAt b o (bbv l)
theorem BL.keep {w w' : World} {F : Nat → Prop} {ao : Option Addr} {l : List Bool} (h : BL w ao l) (hk : Keep F w w') (hF : l ≠ [] → ∀ a, ao = some a → ¬ F a.block) : BL w' ao l := by
  rcases h with h | ⟨b, o, rfl, h⟩
  · exact .inl h
  · by_cases hl : l = []
    · exact .inl hl
    · exact .inr ⟨b, o, rfl, hk.range h (hF hl _ rfl)⟩
theorem BL.below {w w' : World} {ao : Option Addr} {l : List Bool} (h : BL w ao l) (hb : Below w.heap.size w w') : BL w' ao l := h.keep (Keep.ofBelow (F := fun _ => False) hb) (fun _ _ _ => id)

theorem kept_snoc (keep : List Bool) (x : Nat × List UInt8) : ∀ (l : List (Nat × List UInt8)) (s : Nat), keptOf keep s (l ++ [x]) = keptOf keep s l ++ (if keep[s + l.length]? = some true then [x] else [])
  | [], s => by simp [keptOf]
  | y :: l, s => by
    simp only [List.cons_append, keptOf, List.length_cons, kept_snoc keep x l (s + 1)]
    rw [show s + 1 + l.length = s + (l.length + 1) by omega]
    by_cases h : keep[s]? = some true
    · rw [if_pos h, if_pos h]; rfl
    · rw [if_neg h, if_neg h]
theorem last_snoc (keep : List Bool) (x : Nat × List UInt8) : ∀ (l : List (Nat × List UInt8)) (s : Nat), lastOf keep s (l ++ [x]) = if keep[s + l.length]? = some true then lastOf keep s l else some x
  | [], s => by simp [lastOf]
  | y :: l, s => by
    simp only [List.cons_append, lastOf, List.length_cons, last_snoc keep x l (s + 1)]
    rw [show s + 1 + l.length = s + (l.length + 1) by omega]
    by_cases h : keep[s + (l.length + 1)]? = some true
    · rw [if_pos h, if_pos h]
    · rw [if_neg h, if_neg h]
theorem kept_sub (keep : List Bool) (x : Nat × List UInt8) : ∀ (l : List (Nat × List UInt8)) (s : Nat), x ∈ keptOf keep s l → x ∈ l
  | [], s, h => by simp [keptOf] at h
  | y :: l, s, h => by
    unfold keptOf at h
    split at h
    · rcases List.mem_cons.1 h with rfl | h
      · simp
      · exact List.mem_cons_of_mem _ (kept_sub keep x l _ h)
    · exact List.mem_cons_of_mem _ (kept_sub keep x l _ h)
theorem lw_at {l : List (Nat × List UInt8)} (h : ∀ x ∈ l, x.2.length = 64) {i : Nat} {x : Nat × List UInt8} (hi : l[i]? = some x) (j : Nat) (hj : j < 65) : (lw l)[i * 65 + j]? = (wcells x)[j]? := by
  induction l generalizing i with
  | nil => simp at hi
  | cons y l ih =>
    have hy : (wcells y).length = 65 := wcells_len (h y (by simp))
    have e : lw (y :: l) = wcells y ++ lw l := by simp [lw, wcells]
    rw [e]
    match i with
    | 0 =>
      simp at hi; subst hi
      rw [List.getElem?_append_left (by omega)]; simp
    | i + 1 =>
      simp at hi
      rw [List.getElem?_append_right (by omega), show (i + 1) * 65 + j - (wcells y).length = i * 65 + j by omega]
      exact ih (fun x hx => h x (by simp [hx])) hi
theorem loose_range {w : World} {vl : Value} {l : List (Nat × List UInt8)} (h : w.ownsRow 0 138 65 vl l.length (lw l)) (h64 : ∀ x ∈ l, x.2.length = 64) {i : Nat} {x : Nat × List UInt8} (hi : l[i]? = some x) :
    ∃ gl c, vl = .slice (some ⟨gl, 0, none⟩) l.length c ∧ w.rangeAt gl (i * 65) (wcells x) := by
  have hil := (List.getElem?_eq_some_iff.1 hi).1
  rcases h.2 with ⟨_, h0⟩ | ⟨g, c, cur, rfl, _, hh, _, _, _, ht⟩
  · omega
  · refine ⟨g, c, rfl, fun j v hv => ?_⟩
    have hj : j < 65 := by
      have := (List.getElem?_eq_some_iff.1 hv).1
      rw [wcells_len (h64 x (List.mem_of_getElem? hi))] at this; exact this
    rw [← lw_at h64 hi j hj, ← ht, List.getElem?_take] at hv
    split at hv
    · exact cell_blk hh (by simpa using hv)
    · cases hv
/-- a device's memory, while it falls: the image is L -/
structure PR (w : World) (a gi gn : Nat) (vl lets : Value) (left : Int) (F : Nat → Prop) (n : Nat) (out : Bool) (L N : List (List UInt8)) (l : List (Nat × List UInt8)) : Prop where
  hd : Blk w a 70 (head6 gi gn n vl lets left out)
  im : Blk w gi 136 (bv L.flatten)
  nw : Blk w gn 136 (bv N.flatten)
  lo : w.ownsRow 0 138 65 vl l.length (lw l)
  s64 : S64 L
  n64 : S64 N
  ll : L.length = n
  nl : N.length = n
  l64 : ∀ x ∈ l, x.1 < n ∧ x.2.length = 64
  ai : a ≠ gi
  an : a ≠ gn
  gg : gi ≠ gn
  fa : F a
  fi : F gi
  fn : F gn
  fl : ∀ k, vl.ownBlock = some k → F k ∧ k ≠ a ∧ k ≠ gi ∧ k ≠ gn
theorem PD.raw {w : World} {a gi gn : Nat} {vl lets : Value} {left : Int} {F : Nat → Prop} {d : Dev} (h : PD w a gi gn vl lets left F d) : PR w a gi gn vl lets left F d.img.length d.out d.img d.now d.loose :=
  { hd := h.hd, im := h.im, nw := h.nw, lo := h.lo, s64 := h.ok.s64, n64 := h.ok.now64, ll := rfl, nl := d.now_len, l64 := h.ok.lo, ai := h.ai, an := h.an, gg := h.gg, fa := h.fa, fi := h.fi, fn := h.fn, fl := h.fl }
theorem PR.keep {w w' : World} {a gi gn : Nat} {vl lets : Value} {left : Int} {F G : Nat → Prop} {n : Nat} {out : Bool} {L N : List (List UInt8)} {l : List (Nat × List UInt8)} (h : PR w a gi gn vl lets left F n out L N l) (hk : Keep G w w') (hG : ∀ k, F k → ¬ G k) : PR w' a gi gn vl lets left F n out L N l :=
  { h with hd := h.hd.keep hk (hG _ h.fa), im := h.im.keep hk (hG _ h.fi), nw := h.nw.keep hk (hG _ h.fn), lo := owns_keep h.lo hk fun k hk' => hG k (h.fl k hk').1 }
theorem PR.below {w w' : World} {a gi gn : Nat} {vl lets : Value} {left : Int} {F : Nat → Prop} {n : Nat} {out : Bool} {L N : List (List UInt8)} {l : List (Nat × List UInt8)} (h : PR w a gi gn vl lets left F n out L N l) (hb : Below w.heap.size w w') : PR w' a gi gn vl lets left F n out L N l :=
  h.keep (Keep.ofBelow (F := fun _ => False) hb) (fun _ _ => id)
theorem PR.drew {w : World} {a gi gn : Nat} {vl lets : Value} {left : Int} {F : Nat → Prop} {n : Nat} {out : Bool} {L N : List (List UInt8)} {l : List (Nat × List UInt8)} (h : PR w a gi gn vl lets left F n out L N l) : PR w.drew a gi gn vl lets left F n out L N l :=
  h.keep (Keep.refl (fun _ => False) w).drew (fun _ _ => id)
/-- cells of one sector of the image written anew -/
theorem PR.imaged {w : World} {a gi gn : Nat} {vl lets : Value} {left : Int} {F : Nat → Prop} {n : Nat} {out : Bool} {L N : List (List UInt8)} {l : List (Nat × List UInt8)} (h : PR w a gi gn vl lets left F n out L N l) {i : Nat} (hi : i < n) {s c : List UInt8} (hs : L[i]? = some s) (hc : c.length ≤ 64) :
    PR (w.setCells gi (i * 64) (bv c)) a gi gn vl lets left F n out (L.set i (c ++ s.drop c.length)) N l := by
  have hk : Keep (fun k => k = gi) w (w.setCells gi (i * 64) (bv c)) := Keep.setCells (F := fun k => k = gi) (g := gi) rfl _ _ (Keep.refl _ w)
  have h64 := h.s64.get hs
  have hb : (c ++ s.drop c.length).length = 64 := by simp; omega
  have him : Blk (w.setCells gi (i * 64) (bv c)) gi 136 (bv (L.set i (c ++ s.drop c.length)).flatten) := by
    have := h.im.setCells (bv c) _ (i * 64) (by rw [bv_length, bv_length, h.s64.len, h.ll]; omega)
    rw [h.s64.flat_set (by rw [h.ll]; exact hi), show 64 * i = i * 64 by omega]
    have e : L.flatten.drop (i * 64 + c.length) = s.drop c.length ++ L.flatten.drop (i * 64 + 64) := by
      apply List.ext_getElem?
      intro j
      rw [List.getElem?_drop]
      by_cases hj : c.length + j < 64
      · rw [List.getElem?_append_left (by simp; omega), List.getElem?_drop, ← h.s64.at hs (c.length + j) hj]
        congr 1; omega
      · rw [List.getElem?_append_right (by simp; omega), List.getElem?_drop]
        congr 1; simp; omega
    rw [bv_length] at this
    have e2 : (bv L.flatten).take (i * 64) ++ bv c ++ (bv L.flatten).drop (i * 64 + c.length) = bv (L.flatten.take (i * 64) ++ (c ++ s.drop c.length) ++ L.flatten.drop (i * 64 + 64)) := by
      have : (bv L.flatten).drop (i * 64 + c.length) = bv (L.flatten.drop (i * 64 + c.length)) := by simp [bv, List.map_drop]
      rw [this, e]
      simp [bv, List.map_take]
    rwa [e2] at this
  exact { h with hd := h.hd.keep hk h.ai, im := him, nw := h.nw.keep hk (Ne.symm h.gg), lo := owns_keep h.lo hk fun k hk' => (h.fl k hk').2.2.1, s64 := h.s64.set i hb, ll := by simp [h.ll] }
/-- what is behind k writes -/
structure CrashAt (d : Dev) (keep : List Bool) (k : Nat) (last : Int) (L : List (List UInt8)) : Prop where
  le : k ≤ d.loose.length
  im : L = laidOver d.img (keptOf keep 0 (d.loose.take k))
  la : (last = -1 ∧ lastOf keep 0 (d.loose.take k) = none) ∨ ∃ j : Nat, last = (j : Int) ∧ j < k ∧ lastOf keep 0 (d.loose.take k) = d.loose[j]?
theorem CrashAt.start (d : Dev) (keep : List Bool) : CrashAt d keep 0 (-1) d.img := ⟨Nat.zero_le _, by simp [keptOf, laidOver], .inl ⟨rfl, by simp [lastOf]⟩⟩
theorem CrashAt.kept {d : Dev} {keep : List Bool} {k : Nat} {last : Int} {L : List (List UInt8)} (h : CrashAt d keep k last L) {x : Nat × List UInt8} (hx : d.loose[k]? = some x) (hk : keep[k]? = some true) : CrashAt d keep (k + 1) last (L.set x.1 x.2) := by
  have hl := (List.getElem?_eq_some_iff.1 hx).1
  have ht : d.loose.take (k + 1) = d.loose.take k ++ [x] := by rw [List.take_add_one, hx]; rfl
  have hlen : 0 + (d.loose.take k).length = k := by simp; omega
  refine ⟨by omega, ?_, ?_⟩
  · rw [ht, kept_snoc, hlen, if_pos hk, laid_snoc, ← h.im]
  · rw [ht, last_snoc, hlen, if_pos hk]
    exact h.la.imp id fun ⟨j, h1, h2, h3⟩ => ⟨j, h1, by omega, h3⟩
theorem CrashAt.lost {d : Dev} {keep : List Bool} {k : Nat} {last : Int} {L : List (List UInt8)} (h : CrashAt d keep k last L) {x : Nat × List UInt8} (hx : d.loose[k]? = some x) (hk : ¬ keep[k]? = some true) : CrashAt d keep (k + 1) (k : Int) L := by
  have hl := (List.getElem?_eq_some_iff.1 hx).1
  have ht : d.loose.take (k + 1) = d.loose.take k ++ [x] := by rw [List.take_add_one, hx]; rfl
  have hlen : 0 + (d.loose.take k).length = k := by simp; omega
  refine ⟨by omega, ?_, ?_⟩
  · rw [ht, kept_snoc, hlen, if_neg hk, List.append_nil]; exact h.im
  · rw [ht, last_snoc, hlen, if_neg hk]
    exact .inr ⟨k, rfl, by omega, hx.symm⟩
theorem crash_bad (d : Dev) (keep : List Bool) (torn : Int) (h : torn < 0 ∨ 64 ≤ torn) : d.crash keep torn = (2, d) := by unfold Dev.crash; rw [if_pos h]
theorem crash_good (d : Dev) (keep : List Bool) (t : Nat) (h : t < 64) {last : Int} {L : List (List UInt8)} (hc : CrashAt d keep d.loose.length last L) :
    d.crash keep t = (0, { img := tornIn L (lastOf keep 0 d.loose) t, loose := [], fuse := none, out := false }) := by
  unfold Dev.crash
  have := hc.im
  rw [List.take_length] at this
  rw [if_neg (by omega), ← this]; rfl
theorem wpo_copyBytes {o : Oper} {a : Act} {w : World} {K : Act → World → Prop} {Q : Exit → Act → World → Prop} (s x : Operand)
    (ho : o.op = .call { callee := .builtin .copy, args := #[s, x], argTypes := #[22, 22] })
    (gi oi g og t c1 c2 : Nat) (l : List UInt8) (hs : a.eval s = .slice (some ⟨gi, oi, none⟩) t c1) (hx : a.eval x = .slice (some ⟨g, og, none⟩) t c2) (hl : l.length = t) (hr : w.rangeAt g og (bv l)) (ht : w.there gi oi t)
    (h : K (a.put o.dst (goInt t)) (w.setCells gi oi (bv l))) : o.wp Try.prog a w K Q := by
  obtain ⟨i, hi, _, hz, _⟩ := info_u8
  subst hl
  have hc := run_copy_cells (P := Try.prog) w 22 22 o.type 5 gi oi l.length c1 ⟨g, og, none⟩ l.length c2 (bv l) Try.underlying22 (by rw [hi]; simp [hz]) (by simp) (fun j v hv => by rw [Addr.add_mid]; exact hr j v hv) (fun j hj => (ht j (by simpa using hj)).1) (fun j hj => (ht j (by simpa using hj)).2) (bv_one l)
  rw [bv_length] at hc
  unfold Oper.wp execOp
  simp only [ho, resolve, invoke, builtin, Sem.run_bind, Sem.run_pure, Result.andThen_ok, List.map_toArray, List.map_cons, List.map_nil, hs, hx, hc]
  exact h
theorem run_cut_sec (t : Nat) (ht : t < 64) (w : World) (b o : Nat) : (Instr.sliceAt 136 (.pointer (some ⟨b, o, none⟩)) none (some (.int .i64 (t : Int))) none).run Try.prog w = .ok (.slice (some ⟨b, o, none⟩) t 64) w := by
  obtain ⟨i, hi, _⟩ := info_u8
  have h1 : (0 : Int) ≤ (t : Int) ∧ (t : Int) ≤ 64 := by omega
  simp [Instr.sliceAt, Instr.sliceBounds, Instr.sliceBound, Instr.sureAddr, asIntOf, run_underlying Try.underlying136, sizeOf, typeInfo, hi, h1, Addr.add]
  intro h; omega
theorem wpl_store_new {ops : Array Oper} {rest : List Oper} {o : Oper} {a : Act} {w : World} {Q : Exit → Act → World → Prop} (hgd : o.guard = none) (ty : TypeId) (x y : Operand) (ho : o.op = .store ty x y)
    (old : Array Value) (T : TypeId) (cs : List Value) (hx : a.eval x = .pointer (some ⟨w.heap.size, 0, none⟩)) (hy : a.eval y = .agg cs.toArray) (hi : (Try.prog.info? ty).map (·.size) = some cs.length) (hold : old.size = cs.length) (h1 : ∀ v ∈ cs, v.oneCell' = true)
    (h : ∀ w1, Blk w1 w.heap.size T cs → Below w.heap.size w w1 → wpList Try.prog ops Q rest (a.put o.dst undef) w1) : wpList Try.prog ops Q (o :: rest) a (w.alloc (.cells old T)) := by
  refine wpList_store_row hgd ty x y ho w.heap.size cs.toArray hx hy T old (alloc_new w _) (by simpa using hi) (by simpa using hold) (all_oneCell_toArray h1) ?_
  obtain ⟨w1, hw1, hb1, hbe1⟩ := store_new w old T cs
  rw [hw1]
  exact h w1 hb1 hbe1
/-- from the copy of the image on -/
theorem crash_end {w1 : World} {a gi gn : Nat} {vl lets : Value} {left : Int} {F : Nat → Prop} {n : Nat} {out : Bool} {L N : List (List UInt8)} {l : List (Nat × List UInt8)} (h : PR w1 a gi gn vl lets left F n out L N l) (h1 : 1 ≤ n) (h2 : n ≤ 65536) :
    Blk (w1.drew.setCells gn 0 (bv L.flatten)) a 70 (head6 gi gn n vl lets left out) ∧
    PD ((((w1.drew.setCells gn 0 (bv L.flatten)).setCell ⟨a, 2, none⟩ (.slice none 0 0)).setCell ⟨a, 3, none⟩ .nilFunc).setCell ⟨a, 4, none⟩ (.int .i64 0) |>.setCell ⟨a, 5, none⟩ (.bool false)) a gi gn (.slice none 0 0) .nilFunc 0 F { img := L, loose := [], fuse := none, out := false } ∧
    Keep F w1 ((((w1.drew.setCells gn 0 (bv L.flatten)).setCell ⟨a, 2, none⟩ (.slice none 0 0)).setCell ⟨a, 3, none⟩ .nilFunc).setCell ⟨a, 4, none⟩ (.int .i64 0) |>.setCell ⟨a, 5, none⟩ (.bool false)) := by
  have hl : (bv L.flatten).length = (bv N.flatten).length := by rw [bv_length, bv_length, h.s64.len, h.n64.len, h.ll, h.nl]
  have hd2 := h.hd.drew.otherCells gn 0 (bv L.flatten) h.an
  have hk : Keep (fun k => k = a) (w1.drew.setCells gn 0 (bv L.flatten)) ((((w1.drew.setCells gn 0 (bv L.flatten)).setCell ⟨a, 2, none⟩ (.slice none 0 0)).setCell ⟨a, 3, none⟩ .nilFunc).setCell ⟨a, 4, none⟩ (.int .i64 0) |>.setCell ⟨a, 5, none⟩ (.bool false)) :=
    ((((Keep.refl (fun k => k = a) _).setCell (p := ⟨a, 2, none⟩) rfl _).setCell (p := ⟨a, 3, none⟩) rfl _).setCell (p := ⟨a, 4, none⟩) rfl _).setCell (p := ⟨a, 5, none⟩) rfl _
  refine ⟨hd2, ?_, (Keep.setCells h.fn _ _ (Keep.refl F w1).drew).trans (hk.mono fun k _ e => by rw [e]; exact h.fa)⟩
  exact {
    ok := ⟨h.s64, by show L.length ≤ 65536; rw [h.ll]; exact h2, by show 1 ≤ L.length; rw [h.ll]; exact h1, fun x hx => by simp at hx⟩
    hd := by
      have := (((hd2.set 2 (.slice none 0 0)).set 3 .nilFunc).set 4 (.int .i64 0)).set 5 (.bool false)
      show Blk _ _ _ (head6 gi gn L.length _ _ _ _)
      rw [h.ll]; exact this
    im := (h.im.drew.otherCells _ _ _ h.gg).keep hk (Ne.symm h.ai)
    nw := (h.nw.drew.over _ hl).keep hk (Ne.symm h.an)
    lo := World.ownsRow_nil _ _ _ _
    fu := .inl ⟨rfl, rfl⟩, lf := by omega, ai := h.ai, an := h.an, gg := h.gg, fa := h.fa, fi := h.fi, fn := h.fn, fl := fun k hk => by cases hk }
-- CRASH
set_option maxRecDepth 100000 in
set_option maxHeartbeats 2000000 in
theorem crash_any {a gi gn : Nat} {vl lets : Value} {left : Int} {F : Nat → Prop} {d : Dev} (ko : Option Addr) (kn kc : Nat) (keep : List Bool) (hkn : kn = keep.length) (torn : Int) (w : World) (hbl : BL w ko keep) (hkF : keep ≠ [] → ∀ x, ko = some x → ¬ F x.block) (hkb : kn ≤ 1073741824) (hlo : d.loose.length ≤ 1073741824) (h : PD w a gi gn vl lets left F d) :
    Calls Try.prog 39 #[ptr a, .slice ko kn kc, .int .i64 torn] w fun e w' => e = .returned (.int .i64 (d.crash keep torn).1) ∧ (∃ vl' lets' left', PD w' a gi gn vl' lets' left' F (d.crash keep torn).2) ∧ Keep F w w' := by
  have H := hid h
  have HKN := hid hkn
  clear hkn
  by_cases hbad : torn < 0 ∨ 64 ≤ torn
  · have hs := crash_bad d keep torn hbad
    rw [hs]
    clear h hs
    unfold ptr
    by_cases h0 : torn < 0
    all_goals
      (try have h1 : 64 ≤ torn := by omega)
      clear hbad
      go_enter Try.func39, Try.ntmps39
      go_wp2_with fail
      refine (none_any w H.out).mono ?_
      rintro e w' ⟨rfl, rfl⟩
      go_wp2
      go_ret
      exact ⟨rfl, ⟨_, _, _, H.out⟩, Keep.refl _ _⟩
  obtain ⟨t, rfl⟩ : ∃ t : Nat, torn = (t : Int) := ⟨torn.toNat, by omega⟩
  have ht : t < 64 := by omega
  clear hbad
  obtain ⟨ao, c, rfl⟩ := h.lv
  have c2 := h.hd.cell (j := 2) rfl
  have HP0 := hid h.raw
  have HN1 := hid h.ok.pos
  have HN2 := hid h.ok.len
  clear h
  unfold ptr
  go_enter Try.func39, Try.ntmps39
  go_wp2_with fail
  refine (none_any w H.out).mono ?_
  rintro e w' ⟨rfl, rfl⟩
  go_wp2_with fail
  clear c2
  go_loopw [7, 26] (fun last i wr => ∃ (k : Nat) (L : List (List UInt8)) (lst : Int), i = .int .i64 k ∧ last = .int .i64 lst ∧ CrashAt d keep k lst L ∧ PR wr a gi gn (.slice ao d.loose.length c) lets left F d.img.length d.out L d.now d.loose ∧ Keep F w' wr ∧ BL wr ko keep) (fun _ i _ => d.loose.length - (intOf i).toNat)
  case atStart => exact ⟨0, d.img, -1, rfl, rfl, CrashAt.start d keep, HP0.out, Keep.refl _ _, hbl⟩
  case round =>
    obtain ⟨k, L, lst, rfl, rfl, hc, hp, hk, hb⟩ := hrel
    have HC := hid hc
    have HP := hid hp
    have HK := hid hk
    have HBL := hid hb
    have hkm := hc.le
    clear hc hp hk hb
    by_cases hlt : k < d.loose.length
    · obtain ⟨x, hx⟩ : ∃ x, d.loose[k]? = some x := ⟨_, List.getElem?_eq_getElem hlt⟩
      have HX := hid hx
      have HX64 := hid (HP.out.l64 x (List.mem_of_getElem? hx))
      clear hx
      obtain ⟨gl, c', hv, hrg⟩ := loose_range HP.out.lo (fun y hy => (HP.out.l64 y hy).2) HX.out
      injection hv with e1 e2 e3
      subst e1
      have hr := hid hrg
      clear hrg e2 e3
      have hx1 : x.1 < d.img.length := HX64.out.1
      have HLT := hid hlt
      rcases hkq : keep[k]? with _ | q
      · have HB : Hid (¬ keep[k]? = some true) := by intro h; rw [hkq] at h; cases h
        have hge : kn ≤ k := by rw [HKN.out]; exact List.getElem?_eq_none_iff.1 hkq
        clear hkq
        go_wp2_with (first
          | (refine wpList_load_mid rfl 138 (.tmp 29) rfl gl (k * 65) rfl (wcells x) _ hr.out Try.underlying138 rfl (by rw [wcells_len HX64.out.2]; exact write_info) ?_)
          | (refine wpl_store_new rfl 138 (.tmp 9) (.tmp 30) rfl _ _ (wcells x) rfl rfl (by rw [wcells_len HX64.out.2]; exact write_info) (by rw [wcells_len HX64.out.2]; kernel_rfl) (wcells_one x) ?_; intro w1 hb1 hbe1; have HG1 := hid hb1; have HP1 := hid (HP.out.below hbe1); have HK1 : Hid (Keep F w' w1) := HK.out.trans (Keep.ofBelow hbe1); have HBL1 := hid (HBL.out.below hbe1); have HNG : Hid (wr.heap.size ≠ gi) := hid (by have := HP.out.im.lt; omega); clear hb1 hbe1))
        go_wp2
        go_roundw
        case rel =>
          exact ⟨k + 1, L, k, by go_num, rfl, HC.out.lost HX.out HB.out, HP1.out, HK1.out, HBL1.out⟩
        case measure => simp [intOf]; omega
      · obtain ⟨kb, kof, rfl, hrk⟩ : ∃ b o, ko = some ⟨b, o, none⟩ ∧ Hid (wr.rangeAt b o (bbv keep)) := by
          rcases HBL.out with rfl | ⟨b, o, e, h⟩
          · simp at hkq
          · exact ⟨b, o, e, h⟩
        have hlk : k < kn := by rw [HKN.out]; exact (List.getElem?_eq_some_iff.1 hkq).1
        have hcr : Hid (wr.cell? ⟨kb, kof + k, none⟩ = some (.bool q)) := hrk.out k _ (by rw [bbv_get, hkq]; rfl)
        cases q
        · have HB : Hid (¬ keep[k]? = some true) := by intro h; rw [hkq] at h; cases h
          clear hkq
          go_wp2_with (first
            | (refine wpList_load_mid rfl 138 (.tmp 29) rfl gl (k * 65) rfl (wcells x) _ hr.out Try.underlying138 rfl (by rw [wcells_len HX64.out.2]; exact write_info) ?_)
            | (refine wpl_store_new rfl 138 (.tmp 9) (.tmp 30) rfl _ _ (wcells x) rfl rfl (by rw [wcells_len HX64.out.2]; exact write_info) (by rw [wcells_len HX64.out.2]; kernel_rfl) (wcells_one x) ?_; intro w1 hb1 hbe1; have HG1 := hid hb1; have HP1 := hid (HP.out.below hbe1); have HK1 : Hid (Keep F w' w1) := HK.out.trans (Keep.ofBelow hbe1); have HBL1 := hid (HBL.out.below hbe1); have HNG : Hid (wr.heap.size ≠ gi) := hid (by have := HP.out.im.lt; omega); have hck : w1.cell? ⟨kb, kof + k, none⟩ = some (.bool false) := (by rw [hbe1.cell (World.block_lt_of_cell? wr _ hcr.out)]; exact hcr.out); clear hb1 hbe1))
          go_wp2
          go_roundw
          case rel =>
            exact ⟨k + 1, L, k, by go_num, rfl, HC.out.lost HX.out HB.out, HP1.out, HK1.out, HBL1.out⟩
          case measure => simp [intOf]; omega
        · have HB := hid hkq
          clear hkq
          go_wp2_with (first
            | (refine wpList_load_mid rfl 138 (.tmp 29) rfl gl (k * 65) rfl (wcells x) _ hr.out Try.underlying138 rfl (by rw [wcells_len HX64.out.2]; exact write_info) ?_)
            | (refine wpl_store_new rfl 138 (.tmp 9) (.tmp 30) rfl _ _ (wcells x) rfl rfl (by rw [wcells_len HX64.out.2]; exact write_info) (by rw [wcells_len HX64.out.2]; kernel_rfl) (wcells_one x) ?_; intro w1 hb1 hbe1; have HG1 := hid hb1; have HP1 := hid (HP.out.below hbe1); have HK1 : Hid (Keep F w' w1) := HK.out.trans (Keep.ofBelow hbe1); have HBL1 := hid (HBL.out.below hbe1); have HNG : Hid (wr.heap.size ≠ gi) := hid (by have := HP.out.im.lt; omega); have hck : w1.cell? ⟨kb, kof + k, none⟩ = some (.bool true) := (by rw [hbe1.cell (World.block_lt_of_cell? wr _ hcr.out)]; exact hcr.out); clear hb1 hbe1))
          refine wp_region_held_drew (S := fun w' => w'.cell? ⟨a, 0, none⟩ = some (.slice (some ⟨gi, 0, none⟩) d.img.length d.img.length) ∧ w'.cell? ⟨wr.heap.size, 0, none⟩ = some (.int .i64 (x.1 : Int)) ∧ Blk w' wr.heap.size 138 (wcells x)) (by kernel_rfl) ⟨HP1.out.hd.drew.cell (j := 0) rfl, HG1.out.drew.cell (j := 0) rfl, HG1.out.drew⟩ (fun hS => ?_)
          refine wpAnyH_take (i := 0) (v := ?v0x1) (by simp only [List.getElem?_toArray, List.getElem?_cons_zero]; exact rfl) (by kernel_rfl) (by kernel_rfl) (by kernel_rfl) (by exact fun _ _ _ h => h) (Or.inl ⟨by rfl, ?y0x1⟩) hS ?r0x1
          case y0x1 => (intro w' hSw; (try dsimp only at hSw); go_simp; (try with_reducible rfl))
          simp only [Act.put, List.setIfInBounds_toArray, List.set_cons_zero, List.set_cons_succ]
          refine wpAnyH_take (i := 1) (v := ?v1x2) (by simp only [List.getElem?_toArray, List.getElem?_cons_zero, List.getElem?_cons_succ]; exact rfl) (by kernel_rfl) (by kernel_rfl) (by kernel_rfl) (by exact fun _ _ _ h => h) (Or.inl ⟨by rfl, ?y1x2⟩) hS ?r1x2
          case y1x2 => (intro w' hSw; (try dsimp only at hSw); go_simp; (try with_reducible rfl))
          simp only [Act.put, List.setIfInBounds_toArray, List.set_cons_zero, List.set_cons_succ]
          refine wpAnyH_take (i := 2) (v := ?v2x3) (by simp only [List.getElem?_toArray, List.getElem?_cons_zero, List.getElem?_cons_succ]; exact rfl) (by kernel_rfl) (by kernel_rfl) (by kernel_rfl) (by exact fun _ _ _ h => h) (Or.inl ⟨by rfl, ?y2x3⟩) hS ?r2x3
          case y2x3 => (intro w' hSw; (try dsimp only at hSw); go_simp; (try with_reducible rfl))
          simp only [Act.put, List.setIfInBounds_toArray, List.set_cons_zero, List.set_cons_succ]
          refine wpAnyH_take (i := 3) (v := ?v3x4) (by simp only [List.getElem?_toArray, List.getElem?_cons_zero, List.getElem?_cons_succ]; exact rfl) (by kernel_rfl) (by kernel_rfl) (by kernel_rfl) (by exact fun _ _ _ h => h) (Or.inl ⟨by rfl, ?y3x4⟩) hS ?r3x4
          case y3x4 => (intro w' hSw; (try dsimp only at hSw); go_simp; (try with_reducible rfl))
          simp only [Act.put, List.setIfInBounds_toArray, List.set_cons_zero, List.set_cons_succ]
          refine wpAnyH_take (i := 4) (v := ?v4x5) (by simp only [List.getElem?_toArray, List.getElem?_cons_zero, List.getElem?_cons_succ]; exact rfl) (by kernel_rfl) (by kernel_rfl) (by kernel_rfl) (by exact fun _ _ _ h => h) (Or.inl ⟨by rfl, ?y4x5⟩) hS ?r4x5
          case y4x5 => (intro w' hSw; (try dsimp only at hSw); go_simp; (try with_reducible rfl))
          simp only [Act.put, List.setIfInBounds_toArray, List.set_cons_zero, List.set_cons_succ]
          refine wpAnyH_take (i := 5) (v := ?v5x6) (by simp only [List.getElem?_toArray, List.getElem?_cons_zero, List.getElem?_cons_succ]; exact rfl) (by kernel_rfl) (by kernel_rfl) (by kernel_rfl) (by exact fun _ _ _ h => h) (Or.inl ⟨by rfl, ?y5x6⟩) hS ?r5x6
          case y5x6 => (intro w' hSw; (try dsimp only at hSw); go_simp; (try with_reducible rfl))
          simp only [Act.put, List.setIfInBounds_toArray, List.set_cons_zero, List.set_cons_succ]
          refine wpAnyH_take (i := 6) (v := ?v6x7) (by simp only [List.getElem?_toArray, List.getElem?_cons_zero, List.getElem?_cons_succ]; exact rfl) (by kernel_rfl) (by kernel_rfl) (by kernel_rfl) (by exact fun _ _ _ h => h) (Or.inl ⟨by rfl, ?y6x7⟩) hS ?r6x7
          case y6x7 => (intro w' hSw; (try dsimp only at hSw); go_simp; (try with_reducible rfl))
          simp only [Act.put, List.setIfInBounds_toArray, List.set_cons_zero, List.set_cons_succ]
          refine wpAnyH_take (i := 7) (v := ?v7x8) (by simp only [List.getElem?_toArray, List.getElem?_cons_zero, List.getElem?_cons_succ]; exact rfl) (by kernel_rfl) (by kernel_rfl) (by kernel_rfl) (by exact fun _ _ _ h => h) ?y7x8 hS ?r7x8
          case y7x8 => (refine yieldsIf_load_mid ?_ 136 (.tmp 47) ?_ wr.heap.size 1 ?_ (bv x.2) _ ?_ Try.underlying136 ?_ ?_; rfl; rfl; rfl; exact (fun w' hSw => hSw.2.2.range fun j v hv => by rw [Nat.add_comm]; exact hv); rfl; (rw [bv_length, HX64.out.2]; exact sec_info))
          simp only [Act.put, List.setIfInBounds_toArray, List.set_cons_zero, List.set_cons_succ]
          refine wpAnyH_take (i := 8) (v := ?v8x9) (by simp only [List.getElem?_toArray, List.getElem?_cons_zero, List.getElem?_cons_succ]; exact rfl) (by kernel_rfl) (by kernel_rfl) (by kernel_rfl) (by exact fun _ _ _ h => h) (Or.inl ⟨by rfl, ?y8x9⟩) hS ?r8x9
          case y8x9 => (intro w' hSw; (try dsimp only at hSw); go_simp; (try with_reducible rfl))
          simp only [Act.put, List.setIfInBounds_toArray, List.set_cons_zero, List.set_cons_succ]
          refine wpAnyH_ready (rs := [9]) (by kernel_rfl) (by simp) ?_
          refine AllReadyH.cons (by simp only [List.getElem?_toArray, List.getElem?_cons_zero, List.getElem?_cons_succ]; exact rfl) (fun K hK => ?_) AllReadyH.nil
          refine wp_store_mid 136 (.tmp 49) (.tmp 48) rfl gi (x.1 * 64) (bv x.2).toArray rfl rfl (by rw [List.size_toArray, bv_length, HX64.out.2]; exact HP1.out.im.secThere HP1.out.s64 (by rw [HP1.out.ll]; exact HX64.out.1)) (by rw [List.size_toArray, bv_length, HX64.out.2]; exact sec_info) (bv_cells x.2) ?_
          refine hK.out _ _ ?k9x10 (fun hS => ?s9x10)
          case k9x10 => exact ⟨by rw [World.cell?_setCells_out _ _ _ _ _ (fun h => absurd h HP1.out.ai)]; exact hS.1, by rw [World.cell?_setCells_out _ _ _ _ _ (fun h => absurd h HNG.out)]; exact hS.2.1, hS.2.2.otherCells _ _ _ HNG.out⟩
          clear hK K
          try simp only [Act.put]
          refine wpAnyH_done (by kernel_rfl) ?_ _
          clear hS
          go_wp2
          go_roundw
          case rel =>
            obtain ⟨s, hs⟩ : ∃ s, L[x.1]? = some s := ⟨_, List.getElem?_eq_getElem (by rw [HP1.out.ll]; exact HX64.out.1)⟩
            have hp := HP1.out.drew.imaged HX64.out.1 hs (c := x.2) (by rw [HX64.out.2]; omega)
            rw [HX64.out.2, List.drop_of_length_le (by rw [HP1.out.s64.get hs]; omega), List.append_nil] at hp
            have hkk : Keep F w' ((w1.drew).setCells gi (x.1 * 64) (bv x.2)) := Keep.setCells HP1.out.fi _ _ HK1.out.drew
            exact ⟨k + 1, L.set x.1 x.2, lst, by go_num, rfl, HC.out.kept HX.out HB.out, hp, hkk, hbl.keep hkk hkF⟩
          case measure => simp [intOf]; omega
    · have hk8 : k = d.loose.length := by omega
      have HC : Hid (CrashAt d keep d.loose.length lst L) := by rw [← hk8]; exact HC.out
      subst hk8
      rcases HC.out.la with ⟨rfl, hla⟩ | ⟨j, rfl, hj, hla⟩
      · have HRES : Hid (d.crash keep t = (0, { img := L, loose := [], fuse := none, out := false })) := by
          rw [List.take_length] at hla
          show d.crash keep t = _
          rw [crash_good d keep t ht HC.out, hla]; rfl
        have HP2 := HP
        have HK2 := HK
        clear hla
        generalize L = L2 at HP2 HRES
        go_wp2_with fail
        generalize hw1 : wr = w1 at *
        refine wp_region_held_drew (S := fun w' => w'.cell? ⟨a, 0, none⟩ = some (.slice (some ⟨gi, 0, none⟩) d.img.length d.img.length) ∧ w'.cell? ⟨a, 1, none⟩ = some (.slice (some ⟨gn, 0, none⟩) d.img.length d.img.length)) (by kernel_rfl) ⟨HP2.out.hd.drew.cell (j := 0) rfl, HP2.out.hd.drew.cell (j := 1) rfl⟩ (fun hS => ?_)
        refine wpAnyH_take (i := 0) (v := ?v0x1v) (by simp only [List.getElem?_toArray, List.getElem?_cons_zero]; exact rfl) (by kernel_rfl) (by kernel_rfl) (by kernel_rfl) (by exact fun _ _ _ h => h) (Or.inl ⟨by rfl, ?y0x1v⟩) hS ?r0x1v
        case y0x1v => (intro w' hSw; (try dsimp only at hSw); go_simp; (try with_reducible rfl))
        simp only [Act.put, List.setIfInBounds_toArray, List.set_cons_zero, List.set_cons_succ]
        refine wpAnyH_take (i := 1) (v := ?v1x2v) (by simp only [List.getElem?_toArray, List.getElem?_cons_zero, List.getElem?_cons_succ]; exact rfl) (by kernel_rfl) (by kernel_rfl) (by kernel_rfl) (by exact fun _ _ _ h => h) (Or.inl ⟨by rfl, ?y1x2v⟩) hS ?r1x2v
        case y1x2v => (intro w' hSw; (try dsimp only at hSw); go_simp; (try with_reducible rfl))
        simp only [Act.put, List.setIfInBounds_toArray, List.set_cons_zero, List.set_cons_succ]
        refine wpAnyH_take (i := 2) (v := ?v2x3v) (by simp only [List.getElem?_toArray, List.getElem?_cons_zero, List.getElem?_cons_succ]; exact rfl) (by kernel_rfl) (by kernel_rfl) (by kernel_rfl) (by exact fun _ _ _ h => h) (Or.inl ⟨by rfl, ?y2x3v⟩) hS ?r2x3v
        case y2x3v => (intro w' hSw; (try dsimp only at hSw); go_simp; (try with_reducible rfl))
        simp only [Act.put, List.setIfInBounds_toArray, List.set_cons_zero, List.set_cons_succ]
        refine wpAnyH_take (i := 3) (v := ?v3x4v) (by simp only [List.getElem?_toArray, List.getElem?_cons_zero, List.getElem?_cons_succ]; exact rfl) (by kernel_rfl) (by kernel_rfl) (by kernel_rfl) (by exact fun _ _ _ h => h) (Or.inl ⟨by rfl, ?y3x4v⟩) hS ?r3x4v
        case y3x4v => (intro w' hSw; (try dsimp only at hSw); go_simp; (try with_reducible rfl))
        simp only [Act.put, List.setIfInBounds_toArray, List.set_cons_zero, List.set_cons_succ]
        refine wpAnyH_take (i := 4) (v := ?v4x5v) (by simp only [List.getElem?_toArray, List.getElem?_cons_zero, List.getElem?_cons_succ]; exact rfl) (by kernel_rfl) (by kernel_rfl) (by kernel_rfl) (by exact fun _ _ _ h => h) (Or.inl ⟨by rfl, ?y4x5v⟩) hS ?r4x5v
        case y4x5v => (intro w' hSw; (try dsimp only at hSw); go_simp; (try with_reducible rfl))
        simp only [Act.put, List.setIfInBounds_toArray, List.set_cons_zero, List.set_cons_succ]
        refine wpAnyH_take (i := 5) (v := ?v5x6v) (by simp only [List.getElem?_toArray, List.getElem?_cons_zero, List.getElem?_cons_succ]; exact rfl) (by kernel_rfl) (by kernel_rfl) (by kernel_rfl) (by exact fun _ _ _ h => h) (Or.inl ⟨by rfl, ?y5x6v⟩) hS ?r5x6v
        case y5x6v => (intro w' hSw; (try dsimp only at hSw); go_simp; (try with_reducible rfl))
        simp only [Act.put, List.setIfInBounds_toArray, List.set_cons_zero, List.set_cons_succ]
        refine wpAnyH_take (i := 6) (v := ?v6x7v) (by simp only [List.getElem?_toArray, List.getElem?_cons_zero, List.getElem?_cons_succ]; exact rfl) (by kernel_rfl) (by kernel_rfl) (by kernel_rfl) (by exact fun _ _ _ h => h) (Or.inl ⟨by rfl, ?y6x7v⟩) hS ?r6x7v
        case y6x7v => (intro w' hSw; (try dsimp only at hSw); go_simp; (try with_reducible rfl))
        simp only [Act.put, List.setIfInBounds_toArray, List.set_cons_zero, List.set_cons_succ]
        refine wpAnyH_take (i := 7) (v := ?v7x8v) (by simp only [List.getElem?_toArray, List.getElem?_cons_zero, List.getElem?_cons_succ]; exact rfl) (by kernel_rfl) (by kernel_rfl) (by kernel_rfl) (by exact fun _ _ _ h => h) (Or.inl ⟨by rfl, ?y7x8v⟩) hS ?r7x8v
        case y7x8v => (intro w' hSw; (try dsimp only at hSw); go_simp; (try with_reducible rfl))
        simp only [Act.put, List.setIfInBounds_toArray, List.set_cons_zero, List.set_cons_succ]
        refine wpAnyH_ready (rs := [8]) (by kernel_rfl) (by simp) ?_
        refine AllReadyH.cons (by simp only [List.getElem?_toArray, List.getElem?_cons_zero, List.getElem?_cons_succ]; exact rfl) (fun K hK => ?_) AllReadyH.nil
        refine wpo_copySecs (.tmp 77) (.tmp 81) rfl gn gi _ (bv L2.flatten) rfl rfl (by rw [bv_length, HP2.out.s64.len, HP2.out.ll]; omega) (HP2.out.im.range fun j v hv => by rw [Nat.zero_add]; exact hv) (HP2.out.nw.there (by rw [bv_length, HP2.out.n64.len, HP2.out.nl]; omega)) (bv_one _) ?_
        refine hK.out _ _ ?k8x9v (fun hS => ?s8x9v)
        case k8x9v => exact ⟨by rw [World.cell?_setCells_out _ _ _ _ _ (fun h => absurd h HP2.out.an)]; exact hS.1, by rw [World.cell?_setCells_out _ _ _ _ _ (fun h => absurd h HP2.out.an)]; exact hS.2⟩
        clear hK K
        try simp only [Act.put, List.setIfInBounds_toArray, List.set_cons_zero, List.set_cons_succ]
        refine wpAnyH_done (by kernel_rfl) ?_ _
        clear hS
        have HE := hid (crash_end HP2.out HN1.out HN2.out)
        have e0 := HE.out.1
        have e1 := e0.set 2 (.slice none 0 0)
        have e2 := e1.set 3 .nilFunc
        have e3 := e2.set 4 (.int .i64 0)
        have c2 := e0.cell (j := 2) rfl
        have f2 := e0.free 2
        have c3 := e1.cell (j := 3) rfl
        have f3 := e1.free 3
        have c4 := e2.cell (j := 4) rfl
        have f4 := e2.free 4
        have c5 := e3.cell (j := 5) rfl
        have f5 := e3.free 5
        clear e0 e1 e2 e3
        go_wp2
        go_ret
        refine ⟨by rw [HRES.out]; rfl, ⟨.slice none 0 0, .nilFunc, 0, ?_⟩, HK2.out.trans HE.out.2.2⟩
        rw [HRES.out]
        exact HE.out.2.1
      · rw [List.take_length] at hla
        obtain ⟨x, hx⟩ : ∃ x, d.loose[j]? = some x := ⟨_, List.getElem?_eq_getElem hj⟩
        have HX64 := hid (HP.out.l64 x (List.mem_of_getElem? hx))
        have HLA : Hid (lastOf keep 0 d.loose = some x) := hla.trans hx
        obtain ⟨gl, c', hv, hrg⟩ := loose_range HP.out.lo (fun y hy => (HP.out.l64 y hy).2) hx
        injection hv with e1 e2 e3
        subst e1
        have hr := hid hrg
        have c2 := HP.out.hd.cell (j := 2) rfl
        have rsl := run_cut_sec t ht
        have hx1 : x.1 < d.img.length := HX64.out.1
        clear hrg e2 e3 hla hx
        go_wp2_with (first
          | (refine wpList_load_mid rfl 138 (.tmp 59) rfl gl (j * 65) rfl (wcells x) _ hr.out Try.underlying138 rfl (by rw [wcells_len HX64.out.2]; exact write_info) ?_)
          | (refine wpl_store_new rfl 138 (.tmp 10) (.tmp 60) rfl _ _ (wcells x) rfl rfl (by rw [wcells_len HX64.out.2]; exact write_info) (by rw [wcells_len HX64.out.2]; kernel_rfl) (wcells_one x) ?_; intro w1 hb1 hbe1; have HG1 := hid hb1; have HP1 := hid (HP.out.below hbe1); have HK1 : Hid (Keep F w' w1) := HK.out.trans (Keep.ofBelow hbe1); have HBL1 := hid (HBL.out.below hbe1); have HNG : Hid (wr.heap.size ≠ gi) := hid (by have := HP.out.im.lt; omega); clear hb1 hbe1))
        refine wp_region_held_drew (S := fun w' => w'.cell? ⟨a, 0, none⟩ = some (.slice (some ⟨gi, 0, none⟩) d.img.length d.img.length) ∧ w'.cell? ⟨wr.heap.size, 0, none⟩ = some (.int .i64 (x.1 : Int)) ∧ Blk w' wr.heap.size 138 (wcells x)) (by kernel_rfl) ⟨HP1.out.hd.drew.cell (j := 0) rfl, HG1.out.drew.cell (j := 0) rfl, HG1.out.drew⟩ (fun hS => ?_)
        refine wpAnyH_take (i := 0) (v := ?v0x1u) (by simp only [List.getElem?_toArray, List.getElem?_cons_zero]; exact rfl) (by kernel_rfl) (by kernel_rfl) (by kernel_rfl) (by exact fun _ _ _ h => h) (Or.inl ⟨by rfl, ?y0x1u⟩) hS ?r0x1u
        case y0x1u => (intro w' hSw; (try dsimp only at hSw); go_simp; (try with_reducible rfl))
        simp only [Act.put, List.setIfInBounds_toArray, List.set_cons_zero, List.set_cons_succ]
        refine wpAnyH_take (i := 1) (v := ?v1x2u) (by simp only [List.getElem?_toArray, List.getElem?_cons_zero, List.getElem?_cons_succ]; exact rfl) (by kernel_rfl) (by kernel_rfl) (by kernel_rfl) (by exact fun _ _ _ h => h) (Or.inl ⟨by rfl, ?y1x2u⟩) hS ?r1x2u
        case y1x2u => (intro w' hSw; (try dsimp only at hSw); go_simp; (try with_reducible rfl))
        simp only [Act.put, List.setIfInBounds_toArray, List.set_cons_zero, List.set_cons_succ]
        refine wpAnyH_take (i := 2) (v := ?v2x3u) (by simp only [List.getElem?_toArray, List.getElem?_cons_zero, List.getElem?_cons_succ]; exact rfl) (by kernel_rfl) (by kernel_rfl) (by kernel_rfl) (by exact fun _ _ _ h => h) (Or.inl ⟨by rfl, ?y2x3u⟩) hS ?r2x3u
        case y2x3u => (intro w' hSw; (try dsimp only at hSw); go_simp; (try with_reducible rfl))
        simp only [Act.put, List.setIfInBounds_toArray, List.set_cons_zero, List.set_cons_succ]
        refine wpAnyH_take (i := 3) (v := ?v3x4u) (by simp only [List.getElem?_toArray, List.getElem?_cons_zero, List.getElem?_cons_succ]; exact rfl) (by kernel_rfl) (by kernel_rfl) (by kernel_rfl) (by exact fun _ _ _ h => h) (Or.inl ⟨by rfl, ?y3x4u⟩) hS ?r3x4u
        case y3x4u => (intro w' hSw; (try dsimp only at hSw); go_simp; (try with_reducible rfl))
        simp only [Act.put, List.setIfInBounds_toArray, List.set_cons_zero, List.set_cons_succ]
        refine wpAnyH_take (i := 4) (v := ?v4x5u) (by simp only [List.getElem?_toArray, List.getElem?_cons_zero, List.getElem?_cons_succ]; exact rfl) (by kernel_rfl) (by kernel_rfl) (by kernel_rfl) (by exact fun _ _ _ h => h) (Or.inl ⟨by rfl, ?y4x5u⟩) hS ?r4x5u
        case y4x5u => (intro w' hSw; (try dsimp only at hSw); go_simp; (try with_reducible rfl))
        simp only [Act.put, List.setIfInBounds_toArray, List.set_cons_zero, List.set_cons_succ]
        refine wpAnyH_take (i := 5) (v := ?v5x6u) (by simp only [List.getElem?_toArray, List.getElem?_cons_zero, List.getElem?_cons_succ]; exact rfl) (by kernel_rfl) (by kernel_rfl) (by kernel_rfl) (by exact fun _ _ _ h => h) (Or.inl ⟨by rfl, ?y5x6u⟩) hS ?r5x6u
        case y5x6u => (intro w' hSw; (try dsimp only at hSw); go_simp; (try with_reducible rfl))
        simp only [Act.put, List.setIfInBounds_toArray, List.set_cons_zero, List.set_cons_succ]
        refine wpAnyH_take (i := 6) (v := ?v6x7u) (by simp only [List.getElem?_toArray, List.getElem?_cons_zero, List.getElem?_cons_succ]; exact rfl) (by kernel_rfl) (by kernel_rfl) (by kernel_rfl) (by exact fun _ _ _ h => h) (Or.inl ⟨by rfl, ?y6x7u⟩) hS ?r6x7u
        case y6x7u => (intro w' hSw; (try dsimp only at hSw); go_simp; (try with_reducible rfl))
        simp only [Act.put, List.setIfInBounds_toArray, List.set_cons_zero, List.set_cons_succ]
        refine wpAnyH_take (i := 7) (v := ?v7x8u) (by simp only [List.getElem?_toArray, List.getElem?_cons_zero, List.getElem?_cons_succ]; exact rfl) (by kernel_rfl) (by kernel_rfl) (by kernel_rfl) (by exact fun _ _ _ h => h) (Or.inl ⟨by rfl, ?y7x8u⟩) hS ?r7x8u
        case y7x8u => (intro w' hSw; (try dsimp only at hSw); go_simp; (try with_reducible rfl))
        simp only [Act.put, List.setIfInBounds_toArray, List.set_cons_zero, List.set_cons_succ]
        refine wpAnyH_take (i := 8) (v := ?v8x9u) (by simp only [List.getElem?_toArray, List.getElem?_cons_zero, List.getElem?_cons_succ]; exact rfl) (by kernel_rfl) (by kernel_rfl) (by kernel_rfl) (by exact fun _ _ _ h => h) (Or.inl ⟨by rfl, ?y8x9u⟩) hS ?r8x9u
        case y8x9u => (intro w' hSw; (try dsimp only at hSw); go_simp; (try with_reducible rfl))
        simp only [Act.put, List.setIfInBounds_toArray, List.set_cons_zero, List.set_cons_succ]
        refine wpAnyH_take (i := 9) (v := ?v9x10u) (by simp only [List.getElem?_toArray, List.getElem?_cons_zero, List.getElem?_cons_succ]; exact rfl) (by kernel_rfl) (by kernel_rfl) (by kernel_rfl) (by exact fun _ _ _ h => h) (Or.inl ⟨by rfl, ?y9x10u⟩) hS ?r9x10u
        case y9x10u => (intro w' hSw; (try dsimp only at hSw); go_simp; (try with_reducible rfl))
        simp only [Act.put, List.setIfInBounds_toArray, List.set_cons_zero, List.set_cons_succ]
        refine wpAnyH_take (i := 10) (v := ?v10x11u) (by simp only [List.getElem?_toArray, List.getElem?_cons_zero, List.getElem?_cons_succ]; exact rfl) (by kernel_rfl) (by kernel_rfl) (by kernel_rfl) (by exact fun _ _ _ h => h) (Or.inl ⟨by rfl, ?y10x11u⟩) hS ?r10x11u
        case y10x11u => (intro w' hSw; (try dsimp only at hSw); go_simp; (try with_reducible rfl))
        simp only [Act.put, List.setIfInBounds_toArray, List.set_cons_zero, List.set_cons_succ]
        refine wpAnyH_take (i := 11) (v := ?v11x12u) (by simp only [List.getElem?_toArray, List.getElem?_cons_zero, List.getElem?_cons_succ]; exact rfl) (by kernel_rfl) (by kernel_rfl) (by kernel_rfl) (by exact fun _ _ _ h => h) (Or.inl ⟨by rfl, ?y11x12u⟩) hS ?r11x12u
        case y11x12u => (intro w' hSw; (try dsimp only at hSw); go_simp; (try with_reducible rfl))
        simp only [Act.put, List.setIfInBounds_toArray, List.set_cons_zero, List.set_cons_succ]
        refine wpAnyH_ready (rs := [12]) (by kernel_rfl) (by simp) ?_
        refine AllReadyH.cons (by simp only [List.getElem?_toArray, List.getElem?_cons_zero, List.getElem?_cons_succ]; exact rfl) (fun K hK => ?_) AllReadyH.nil
        refine wpo_copyBytes (.tmp 69) (.tmp 72) rfl gi (x.1 * 64) wr.heap.size 1 t _ _ (x.2.take t) rfl rfl (by rw [List.length_take, HX64.out.2]; omega) ?hr ?ht ?_
        case hr =>
          refine HG1.out.drew.range fun j v hv => ?_
          rw [bv_get, List.getElem?_take] at hv
          rw [Nat.add_comm]
          split at hv
          · show (bv x.2)[j]? = some v; rw [bv_get]; exact hv
          · cases hv
        case ht => exact fun j hj => HP1.out.im.secThere HP1.out.s64 (by rw [HP1.out.ll]; exact HX64.out.1) j (by omega)
        refine hK.out _ _ ?k12x13u (fun hS => ?s12x13u)
        case k12x13u => exact ⟨by rw [World.cell?_setCells_out _ _ _ _ _ (fun h => absurd h HP1.out.ai)]; exact hS.1, by rw [World.cell?_setCells_out _ _ _ _ _ (fun h => absurd h HNG.out)]; exact hS.2.1, hS.2.2.otherCells _ _ _ HNG.out⟩
        clear hK K
        try simp only [Act.put, List.setIfInBounds_toArray, List.set_cons_zero, List.set_cons_succ]
        refine wpAnyH_done (by kernel_rfl) ?_ _
        clear hS
        obtain ⟨s, hs⟩ : ∃ s, L[x.1]? = some s := ⟨_, List.getElem?_eq_getElem (by rw [HP1.out.ll]; exact HX64.out.1)⟩
        have hp := HP1.out.drew.imaged HX64.out.1 hs (c := x.2.take t) (by simp; omega)
        have HP2 := hid hp
        have HK2 : Hid (Keep F w' ((w1.drew).setCells gi (x.1 * 64) (bv (x.2.take t)))) := Keep.setCells HP1.out.fi _ _ HK1.out.drew
        have HRES : Hid (d.crash keep t = (0, { img := L.set x.1 (x.2.take t ++ s.drop (x.2.take t).length), loose := [], fuse := none, out := false })) := by
          show d.crash keep t = _
          rw [crash_good d keep t ht HC.out, HLA.out]
          have h1 : (x.2.take t).length = t := by rw [List.length_take, HX64.out.2]; omega
          rw [h1]; simp [tornIn, hs]
        generalize L.set x.1 (x.2.take t ++ s.drop (x.2.take t).length) = L2 at HP2 HRES
        clear hp hs
        go_wp2_with fail
        refine wp_region_held_drew (S := fun w' => w'.cell? ⟨a, 0, none⟩ = some (.slice (some ⟨gi, 0, none⟩) d.img.length d.img.length) ∧ w'.cell? ⟨a, 1, none⟩ = some (.slice (some ⟨gn, 0, none⟩) d.img.length d.img.length)) (by kernel_rfl) ⟨HP2.out.hd.drew.cell (j := 0) rfl, HP2.out.hd.drew.cell (j := 1) rfl⟩ (fun hS => ?_)
        refine wpAnyH_take (i := 0) (v := ?v0x1y) (by simp only [List.getElem?_toArray, List.getElem?_cons_zero]; exact rfl) (by kernel_rfl) (by kernel_rfl) (by kernel_rfl) (by exact fun _ _ _ h => h) (Or.inl ⟨by rfl, ?y0x1y⟩) hS ?r0x1y
        case y0x1y => (intro w' hSw; (try dsimp only at hSw); go_simp; (try with_reducible rfl))
        simp only [Act.put, List.setIfInBounds_toArray, List.set_cons_zero, List.set_cons_succ]
        refine wpAnyH_take (i := 1) (v := ?v1x2y) (by simp only [List.getElem?_toArray, List.getElem?_cons_zero, List.getElem?_cons_succ]; exact rfl) (by kernel_rfl) (by kernel_rfl) (by kernel_rfl) (by exact fun _ _ _ h => h) (Or.inl ⟨by rfl, ?y1x2y⟩) hS ?r1x2y
        case y1x2y => (intro w' hSw; (try dsimp only at hSw); go_simp; (try with_reducible rfl))
        simp only [Act.put, List.setIfInBounds_toArray, List.set_cons_zero, List.set_cons_succ]
        refine wpAnyH_take (i := 2) (v := ?v2x3y) (by simp only [List.getElem?_toArray, List.getElem?_cons_zero, List.getElem?_cons_succ]; exact rfl) (by kernel_rfl) (by kernel_rfl) (by kernel_rfl) (by exact fun _ _ _ h => h) (Or.inl ⟨by rfl, ?y2x3y⟩) hS ?r2x3y
        case y2x3y => (intro w' hSw; (try dsimp only at hSw); go_simp; (try with_reducible rfl))
        simp only [Act.put, List.setIfInBounds_toArray, List.set_cons_zero, List.set_cons_succ]
        refine wpAnyH_take (i := 3) (v := ?v3x4y) (by simp only [List.getElem?_toArray, List.getElem?_cons_zero, List.getElem?_cons_succ]; exact rfl) (by kernel_rfl) (by kernel_rfl) (by kernel_rfl) (by exact fun _ _ _ h => h) (Or.inl ⟨by rfl, ?y3x4y⟩) hS ?r3x4y
        case y3x4y => (intro w' hSw; (try dsimp only at hSw); go_simp; (try with_reducible rfl))
        simp only [Act.put, List.setIfInBounds_toArray, List.set_cons_zero, List.set_cons_succ]
        refine wpAnyH_take (i := 4) (v := ?v4x5y) (by simp only [List.getElem?_toArray, List.getElem?_cons_zero, List.getElem?_cons_succ]; exact rfl) (by kernel_rfl) (by kernel_rfl) (by kernel_rfl) (by exact fun _ _ _ h => h) (Or.inl ⟨by rfl, ?y4x5y⟩) hS ?r4x5y
        case y4x5y => (intro w' hSw; (try dsimp only at hSw); go_simp; (try with_reducible rfl))
        simp only [Act.put, List.setIfInBounds_toArray, List.set_cons_zero, List.set_cons_succ]
        refine wpAnyH_take (i := 5) (v := ?v5x6y) (by simp only [List.getElem?_toArray, List.getElem?_cons_zero, List.getElem?_cons_succ]; exact rfl) (by kernel_rfl) (by kernel_rfl) (by kernel_rfl) (by exact fun _ _ _ h => h) (Or.inl ⟨by rfl, ?y5x6y⟩) hS ?r5x6y
        case y5x6y => (intro w' hSw; (try dsimp only at hSw); go_simp; (try with_reducible rfl))
        simp only [Act.put, List.setIfInBounds_toArray, List.set_cons_zero, List.set_cons_succ]
        refine wpAnyH_take (i := 6) (v := ?v6x7y) (by simp only [List.getElem?_toArray, List.getElem?_cons_zero, List.getElem?_cons_succ]; exact rfl) (by kernel_rfl) (by kernel_rfl) (by kernel_rfl) (by exact fun _ _ _ h => h) (Or.inl ⟨by rfl, ?y6x7y⟩) hS ?r6x7y
        case y6x7y => (intro w' hSw; (try dsimp only at hSw); go_simp; (try with_reducible rfl))
        simp only [Act.put, List.setIfInBounds_toArray, List.set_cons_zero, List.set_cons_succ]
        refine wpAnyH_take (i := 7) (v := ?v7x8y) (by simp only [List.getElem?_toArray, List.getElem?_cons_zero, List.getElem?_cons_succ]; exact rfl) (by kernel_rfl) (by kernel_rfl) (by kernel_rfl) (by exact fun _ _ _ h => h) (Or.inl ⟨by rfl, ?y7x8y⟩) hS ?r7x8y
        case y7x8y => (intro w' hSw; (try dsimp only at hSw); go_simp; (try with_reducible rfl))
        simp only [Act.put, List.setIfInBounds_toArray, List.set_cons_zero, List.set_cons_succ]
        refine wpAnyH_ready (rs := [8]) (by kernel_rfl) (by simp) ?_
        refine AllReadyH.cons (by simp only [List.getElem?_toArray, List.getElem?_cons_zero, List.getElem?_cons_succ]; exact rfl) (fun K hK => ?_) AllReadyH.nil
        refine wpo_copySecs (.tmp 77) (.tmp 81) rfl gn gi _ (bv L2.flatten) rfl rfl (by rw [bv_length, HP2.out.s64.len, HP2.out.ll]; omega) (HP2.out.im.range fun j v hv => by rw [Nat.zero_add]; exact hv) (HP2.out.nw.there (by rw [bv_length, HP2.out.n64.len, HP2.out.nl]; omega)) (bv_one _) ?_
        refine hK.out _ _ ?k8x9y (fun hS => ?s8x9y)
        case k8x9y => exact ⟨by rw [World.cell?_setCells_out _ _ _ _ _ (fun h => absurd h HP2.out.an)]; exact hS.1, by rw [World.cell?_setCells_out _ _ _ _ _ (fun h => absurd h HP2.out.an)]; exact hS.2⟩
        clear hK K
        try simp only [Act.put, List.setIfInBounds_toArray, List.set_cons_zero, List.set_cons_succ]
        refine wpAnyH_done (by kernel_rfl) ?_ _
        clear hS
        have HE := hid (crash_end HP2.out HN1.out HN2.out)
        have e0 := HE.out.1
        have e1 := e0.set 2 (.slice none 0 0)
        have e2 := e1.set 3 .nilFunc
        have e3 := e2.set 4 (.int .i64 0)
        have c2 := e0.cell (j := 2) rfl
        have f2 := e0.free 2
        have c3 := e1.cell (j := 3) rfl
        have f3 := e1.free 3
        have c4 := e2.cell (j := 4) rfl
        have f4 := e2.free 4
        have c5 := e3.cell (j := 5) rfl
        have f5 := e3.free 5
        clear e0 e1 e2 e3
        go_wp2
        go_ret
        refine ⟨by rw [HRES.out]; rfl, ⟨.slice none 0 0, .nilFunc, 0, ?_⟩, HK2.out.trans HE.out.2.2⟩
        rw [HRES.out]
        exact HE.out.2.1
end Go.Proofs.Ytlondopgibcikaa
namespace Go.Proofs.Ytlondopgibcikaa
open Go.RowKit Ent

def rep (n : Nat) (x : UInt8) : List UInt8 := List.replicate n x
theorem rep_get (n : Nat) (x : UInt8) (i : Nat) : (rep n x)[i]? = if i < n then some x else none := by simp [rep, List.getElem?_replicate]
@[simp] theorem rep_len (n : Nat) (x : UInt8) : (rep n x).length = n := by simp [rep]
theorem made_blk {w : World} {base n g : Nat} {l : List UInt8} (h : w.ownsRow base 5 1 (.slice (some ⟨g, 0, none⟩) n n) n (bv l)) : Blk w g 5 (bv l) := by
  rcases h.2 with ⟨h1, _⟩ | ⟨g', cap', cur, hv, _, hh, hc, _, hs, ht⟩
  · cases h1
  · injection hv with e1 e2 e3
    injection e1 with e1; injection e1 with e1
    subst e1; subst e3
    rw [List.take_of_length_le (by simp; omega)] at ht
    unfold Blk; rw [← ht]; exact hh
theorem blk_owns {w : World} {base n g : Nat} {l : List UInt8} (h : Blk w g 5 (bv l)) (hn : n = l.length) (hb : base ≤ g) (hm : n ≤ maxLen) : w.ownsRow base 5 1 (.slice (some ⟨g, 0, none⟩) n n) n (bv l) :=
  ⟨by simp [hn], .inr ⟨g, n, (bv l).toArray, rfl, hb, h, Nat.le_refl _, hm, by simp [hn], by show ((bv l).toArray.toList).take (n * 1) = bv l; rw [List.take_of_length_le (by simp [hn])]⟩⟩
set_option maxRecDepth 100000 in
set_option maxHeartbeats 400000 in
theorem full_any (x : UInt8) (n : Nat) (hn : n ≤ 1073741824) (w : World) :
    Calls Try.prog 49 #[.int .u8 x.toNat, .int .i64 n] w fun e w' => e = .returned (.slice (some ⟨w.heap.size, 0, none⟩) n n) ∧ Blk w' w.heap.size 5 (bv (rep n x)) ∧ Below w.heap.size w w' := by
  go_enter Try.func49, Try.ntmps49
  go_wp2_with (refine wpl_make rfl (.tmp 7) (.tmp 7) rfl w.heap.size _ _ n rfl rfl rfl rfl (by omega) (Nat.le_refl _) ?_; intro w6 ho6 hg6; have HM := hid (made_blk ho6); have HB6 := hid (below_of_grown_none hg6); clear ho6 hg6)
  go_loopw [6] (fun i wr => ∃ k : Nat, k ≤ n ∧ i = .int .i64 k ∧ Blk wr w.heap.size 5 (bv (rep k x ++ rep (n - k) 0)) ∧ Below w.heap.size w wr) (fun i _ => n - (intOf i).toNat)
  case atStart => exact ⟨0, Nat.zero_le _, rfl, HM.out, HB6.out⟩
  case round =>
    obtain ⟨k, hk, rfl, hm, hb⟩ := hrel
    have HM := hid hm; have HB := hid hb
    clear hm hb
    by_cases hlt : k < n
    · have hc : wr.cell? ⟨w.heap.size, k, none⟩ = some (.int .u8 0) := HM.out.cell (by rw [bv_get, List.getElem?_append_right (by simp), rep_get, rep_len, if_pos (by omega)]; rfl)
      have hf := HM.out.free k
      go_wp2
      go_roundw
      case rel =>
        refine ⟨k + 1, by omega, by go_num, ?_, HB.out.setCell (by simp) _⟩
        have := HM.out.set k (.int .u8 x.toNat)
        have e : (bv (rep k x ++ rep (n - k) 0)).set k (.int .u8 x.toNat) = bv (rep (k + 1) x ++ rep (n - (k + 1)) 0) := by
          apply List.ext_getElem?
          intro j
          rw [List.getElem?_set, bv_get, bv_get]
          by_cases hjk : k = j
          · subst hjk
            rw [if_pos rfl, if_pos (by simp; omega), List.getElem?_append_left (by simp), rep_get, if_pos (by omega)]; rfl
          · rw [if_neg hjk]
            by_cases hj : j < k
            · rw [List.getElem?_append_left (by simpa using hj), List.getElem?_append_left (by simp; omega), rep_get, rep_get, if_pos hj, if_pos (by omega)]
            · rw [List.getElem?_append_right (by simp; omega), List.getElem?_append_right (by simp; omega), rep_get, rep_get, rep_len, rep_len]
              by_cases hjn : j < n
              · rw [if_pos (by omega), if_pos (by omega)]
              · rw [if_neg (by omega), if_neg (by omega)]
        rwa [e] at this
      case measure => simp [intOf]; omega
    · have hk8 : k = n := by omega
      subst hk8
      go_wp2
      go_ret
      have := HM.out
      rw [Nat.sub_self] at this
      exact ⟨rfl, by simpa [rep] using this, HB.out⟩

/-- behind a call that may lay new blocks: what is a device's own -/
def grow (F : Nat → Prop) (w w' : World) : Nat → Prop := fun k => F k ∨ (w.heap.size ≤ k ∧ k < w'.heap.size)
theorem lift_write {a : Nat} {F : Nat → Prop} {d : Dev} (i : Int) (bo : Option Addr) (n c : Nat) (b : List UInt8) (hn : n = b.length) (w : World) (hb : SB w bo c b) (hbF : ∀ x, bo = some x → ¬ F x.block) (hlo : d.loose.length ≤ 1073741824) (h : PDev w a F d) :
    Calls Try.prog 48 #[ptr a, .int .i64 i, .slice bo n c] w fun e w' => e = .returned (.int .i64 (d.write i b).1) ∧ PDev w' a (grow F w w') (d.write i b).2 ∧ Keep F w w' := by
  obtain ⟨gi, gn, vl, lets, left, h⟩ := h
  refine (write_any i bo n c b hn w hb hbF hlo h).mono ?_
  rintro e w' ⟨he, ⟨vl', left', h'⟩, hk⟩
  exact ⟨he, ⟨_, _, _, _, _, h'⟩, hk⟩
theorem lift_flush {a : Nat} {F : Nat → Prop} {d : Dev} (w : World) (h : PDev w a F d) :
    Calls Try.prog 41 #[ptr a] w fun e w' => e = .returned (.int .i64 d.flush.1) ∧ PDev w' a F d.flush.2 ∧ Keep F w w' := by
  obtain ⟨gi, gn, vl, lets, left, h⟩ := h
  refine (flush_any w h).mono ?_
  rintro e w' ⟨he, ⟨vl', left', h'⟩, hk⟩
  exact ⟨he, ⟨_, _, _, _, _, h'⟩, hk⟩
theorem lift_fuse {a : Nat} {F : Nat → Prop} {d : Dev} (n : Int) (h1 : -9223372036854775808 ≤ n) (h2 : n ≤ 9223372036854775807) (w : World) (h : PDev w a F d) :
    Calls Try.prog 40 #[ptr a, .int .i64 n] w fun e w' => e = .returned (.int .i64 (d.setFuse n).1) ∧ PDev w' a F (d.setFuse n).2 ∧ Keep F w w' := by
  obtain ⟨gi, gn, vl, lets, left, h⟩ := h
  refine (fuse_any n h1 h2 w h).mono ?_
  rintro e w' ⟨he, ⟨vl', left', h'⟩, hk⟩
  exact ⟨he, ⟨_, _, _, _, _, h'⟩, hk⟩
theorem lift_crash {a : Nat} {F : Nat → Prop} {d : Dev} (ko : Option Addr) (kn kc : Nat) (keep : List Bool) (hkn : kn = keep.length) (torn : Int) (w : World) (hbl : BL w ko keep) (hkF : keep ≠ [] → ∀ x, ko = some x → ¬ F x.block) (hkb : kn ≤ 1073741824) (hlo : d.loose.length ≤ 1073741824) (h : PDev w a F d) :
    Calls Try.prog 39 #[ptr a, .slice ko kn kc, .int .i64 torn] w fun e w' => e = .returned (.int .i64 (d.crash keep torn).1) ∧ PDev w' a F (d.crash keep torn).2 ∧ Keep F w w' := by
  obtain ⟨gi, gn, vl, lets, left, h⟩ := h
  refine (crash_any ko kn kc keep hkn torn w hbl hkF hkb hlo h).mono ?_
  rintro e w' ⟨he, ⟨vl', lets', left', h'⟩, hk⟩
  exact ⟨he, ⟨_, _, _, _, _, h'⟩, hk⟩
theorem lift_image {a : Nat} {F : Nat → Prop} {d : Dev} (i : Int) (w : World) (h : PDev w a F d) :
    Calls Try.prog 51 #[ptr a, .int .i64 i] w fun e w' => ∃ v, e = .returned (.tuple #[v, .int .i64 (d.image i).2]) ∧ Fresh w.heap.size w' v (d.image i).1 ∧ Below w.heap.size w w' := by
  obtain ⟨gi, gn, vl, lets, left, h⟩ := h; exact image_any i w h
theorem lift_read {a : Nat} {F : Nat → Prop} {d : Dev} (i : Int) (w : World) (h : PDev w a F d) :
    Calls Try.prog 43 #[ptr a, .int .i64 i] w fun e w' => ∃ v, e = .returned (.tuple #[v, .int .i64 (d.read i).2]) ∧ Fresh w.heap.size w' v (d.read i).1 ∧ Below w.heap.size w w' := by
  obtain ⟨gi, gn, vl, lets, left, h⟩ := h; exact read_any i w h
theorem lift_size {a : Nat} {F : Nat → Prop} {d : Dev} (w : World) (h : PDev w a F d) :
    Calls Try.prog 55 #[ptr a] w fun e w' => e = .returned (.int .i64 d.img.length) ∧ w' = w := by
  obtain ⟨gi, gn, vl, lets, left, h⟩ := h; exact size_any w h
theorem lift_out {a : Nat} {F : Nat → Prop} {d : Dev} (w : World) (h : PDev w a F d) :
    Calls Try.prog 42 #[ptr a] w fun e w' => e = .returned (.bool d.out) ∧ w' = w := by
  obtain ⟨gi, gn, vl, lets, left, h⟩ := h; exact out_any w h
theorem lift_loose {a : Nat} {F : Nat → Prop} {d : Dev} (w : World) (h : PDev w a F d) :
    Calls Try.prog 50 #[ptr a] w fun e w' => e = .returned (.int .i64 d.loose.length) ∧ w' = w := by
  obtain ⟨gi, gn, vl, lets, left, h⟩ := h; exact loose_any w h
/-- is a sector of one byte written? -/
def putB (d : Dev) (i : Int) (x : UInt8) : Bool := decide ((d.write i (rep 64 x)).1 = 0)
def putD (d : Dev) (i : Int) (x : UInt8) : Dev := (d.write i (rep 64 x)).2
set_option maxRecDepth 100000 in
set_option maxHeartbeats 400000 in
theorem puts_any {a : Nat} {F : Nat → Prop} {d : Dev} (i : Int) (x : UInt8) (w : World) (h : PDev w a F d) (hF : ∀ k, F k → k < w.heap.size) (hlo : d.loose.length ≤ 1073741824) :
    Calls Try.prog 38 #[ptr a, .int .i64 i, .int .u8 x.toNat] w fun e w' => e = .returned (.bool (putB d i x)) ∧ PDev w' a (grow F w w') (putD d i x) ∧ Keep F w w' := by
  have H := hid h
  clear h
  unfold ptr
  go_enter Try.func38, Try.ntmps38
  go_wp2_with fail
  refine (full_any x 64 (by decide) w).mono ?_
  rintro e w1 ⟨rfl, hm, hb⟩
  have HM := hid hm; have HB := hid hb
  clear hm hb
  go_wp2_with fail
  refine (lift_write i (some ⟨w.heap.size, 0, none⟩) 64 64 (rep 64 x) (by simp) w1 (.inr (.inr ⟨_, _, rfl, HM.out.range fun j v hv => by rw [Nat.zero_add]; exact hv⟩)) (by rintro y ⟨⟩ hy; have := hF _ hy; simp at this) hlo (H.out.below HB.out)).mono ?_
  rintro e w2 ⟨rfl, h2, hk2⟩
  have H2 := hid h2; have HK := hid hk2
  clear h2 hk2
  go_wp2
  go_ret
  refine ⟨?_, H2.out.mono fun k hk => hk.imp id fun h => ⟨Nat.le_trans HB.out.size h.1, h.2⟩, (Keep.ofBelow HB.out).trans HK.out⟩
  unfold putB; rfl
def readB (d : Dev) (i : Int) (x : UInt8) (n : Nat) (y : UInt8) : Bool := decide ((d.read i).2 = 0) && sameB (d.read i).1 (rep n x ++ rep (64 - n) y)
set_option maxRecDepth 100000 in
set_option maxHeartbeats 400000 in
theorem reads_any {a : Nat} {F : Nat → Prop} {d : Dev} (i : Int) (x : UInt8) (n : Nat) (hn : n ≤ 64) (y : UInt8) (w : World) (h : PDev w a F d) :
    Calls Try.prog 45 #[ptr a, .int .i64 i, .int .u8 x.toNat, .int .i64 n, .int .u8 y.toNat] w fun e w' => e = .returned (.bool (readB d i x n y)) ∧ Below w.heap.size w w' := by
  have H := hid h
  clear h
  have hm : ((64 : Int) - (n : Int)) = ((64 - n : Nat) : Int) := by omega
  have HM0 := hid hm
  clear hm
  unfold ptr
  go_enter Try.func45, Try.ntmps45
  go_wp2_with fail
  refine (lift_read i w H.out).mono ?_
  rintro e w1 ⟨v, rfl, hf, hb1⟩
  obtain ⟨ao, cap, rfl, hlc, hs, hwb, hfr⟩ := hf
  have HS := hid hs; have HB := hid hb1
  clear hs hwb hfr hb1 hlc
  by_cases hc : (d.read i).2 = 0
  · have HC := hid hc
    rw [hc]
    clear hc
    go_wp2_with fail
    refine (full_any x n (by omega) w1).mono ?_
    rintro e w2 ⟨rfl, hm2, hb2⟩
    have HM2 := hid hm2; have HB2 := hid hb2
    clear hm2 hb2
    go_wp2_with fail
    rw [HM0.out]
    refine (full_any y (64 - n) (by omega) w2).mono ?_
    rintro e w3 ⟨rfl, hm3, hb3⟩
    have HM3 := hid hm3; have HB3 := hid hb3
    have HO3 : Hid (w3.ownsRow w1.heap.size 5 1 (.slice (some ⟨w1.heap.size, 0, none⟩) n n) n (bv (rep n x))) := hid (blk_owns (HM2.out.below HB3.out HM2.out.lt) (by simp) (Nat.le_refl _) (by simp [maxLen]; omega))
    have HS3 : Hid (SB w3 (some ⟨w2.heap.size, 0, none⟩) (64 - n) (rep (64 - n) y)) := hid (.inr (.inr ⟨_, _, rfl, HM3.out.range fun j v hv => by rw [Nat.zero_add]; exact hv⟩))
    have hsz : Hid (w1.heap.size ≤ w3.heap.size) := hid (Nat.le_trans HB2.out.size HB3.out.size)
    clear hm3 hb3
    go_wp2_with (refine wpl_append_g (by rfl) (.tmp 25) (.tmp 29) rfl w1.heap.size _ n (rep n x) (rep (64 - n) y) rfl HO3.out _ (64 - n) (64 - n) rfl (by simp) HS3.out (by omega) hsz.out ?_; intro v4 w4 ho4 hg4 hn4; clear hn4; have HB4 := hid (below_grown (th HB2.out HB3.out) HO3.out hg4 (Nat.le_refl _)); clear hg4; have HO4 := hid (own_all ho4); clear ho4)
    obtain ⟨a4, c4, rfl, hn4', hc4, hs4', -, -⟩ := HO4.out
    have hs4 := hid hs4'
    have hn4 := hid hn4'
    clear HO4 hc4 hs4' hn4'
    refine (same_any ao a4 _ _ cap c4 (d.read i).1 (rep n x ++ rep (64 - n) y) rfl hn4.out _ (HS.out.below HB4.out) hs4.out).mono ?_
    rintro e w5 ⟨rfl, rfl⟩
    dsimp only
    go_wp2
    go_ret
    exact ⟨by unfold readB; rw [HC.out]; simp, th HB.out HB4.out⟩
  · have HC := hid hc
    have hz : ((d.read i).2 == 0) = false := by simpa using hc
    clear hc
    go_wp2
    go_ret
    exact ⟨by unfold readB; rw [decide_eq_false HC.out]; simp, HB.out⟩
def imageB (d : Dev) (i : Int) (x : UInt8) (n : Nat) (y : UInt8) : Bool := decide ((d.image i).2 = 0) && sameB (d.image i).1 (rep n x ++ rep (64 - n) y)
set_option maxRecDepth 100000 in
set_option maxHeartbeats 400000 in
theorem images_any {a : Nat} {F : Nat → Prop} {d : Dev} (i : Int) (x : UInt8) (n : Nat) (hn : n ≤ 64) (y : UInt8) (w : World) (h : PDev w a F d) :
    Calls Try.prog 44 #[ptr a, .int .i64 i, .int .u8 x.toNat, .int .i64 n, .int .u8 y.toNat] w fun e w' => e = .returned (.bool (imageB d i x n y)) ∧ Below w.heap.size w w' := by
  have H := hid h
  clear h
  have hm : ((64 : Int) - (n : Int)) = ((64 - n : Nat) : Int) := by omega
  have HM0 := hid hm
  clear hm
  unfold ptr
  go_enter Try.func44, Try.ntmps44
  go_wp2_with fail
  refine (lift_image i w H.out).mono ?_
  rintro e w1 ⟨v, rfl, hf, hb1⟩
  obtain ⟨ao, cap, rfl, hlc, hs, hwb, hfr⟩ := hf
  have HS := hid hs; have HB := hid hb1
  clear hs hwb hfr hb1 hlc
  by_cases hc : (d.image i).2 = 0
  · have HC := hid hc
    rw [hc]
    clear hc
    go_wp2_with fail
    refine (full_any x n (by omega) w1).mono ?_
    rintro e w2 ⟨rfl, hm2, hb2⟩
    have HM2 := hid hm2; have HB2 := hid hb2
    clear hm2 hb2
    go_wp2_with fail
    rw [HM0.out]
    refine (full_any y (64 - n) (by omega) w2).mono ?_
    rintro e w3 ⟨rfl, hm3, hb3⟩
    have HM3 := hid hm3; have HB3 := hid hb3
    have HO3 : Hid (w3.ownsRow w1.heap.size 5 1 (.slice (some ⟨w1.heap.size, 0, none⟩) n n) n (bv (rep n x))) := hid (blk_owns (HM2.out.below HB3.out HM2.out.lt) (by simp) (Nat.le_refl _) (by simp [maxLen]; omega))
    have HS3 : Hid (SB w3 (some ⟨w2.heap.size, 0, none⟩) (64 - n) (rep (64 - n) y)) := hid (.inr (.inr ⟨_, _, rfl, HM3.out.range fun j v hv => by rw [Nat.zero_add]; exact hv⟩))
    have hsz : Hid (w1.heap.size ≤ w3.heap.size) := hid (Nat.le_trans HB2.out.size HB3.out.size)
    clear hm3 hb3
    go_wp2_with (refine wpl_append_g (by rfl) (.tmp 25) (.tmp 29) rfl w1.heap.size _ n (rep n x) (rep (64 - n) y) rfl HO3.out _ (64 - n) (64 - n) rfl (by simp) HS3.out (by omega) hsz.out ?_; intro v4 w4 ho4 hg4 hn4; clear hn4; have HB4 := hid (below_grown (th HB2.out HB3.out) HO3.out hg4 (Nat.le_refl _)); clear hg4; have HO4 := hid (own_all ho4); clear ho4)
    obtain ⟨a4, c4, rfl, hn4', hc4, hs4', -, -⟩ := HO4.out
    have hs4 := hid hs4'
    have hn4 := hid hn4'
    clear HO4 hc4 hs4' hn4'
    refine (same_any ao a4 _ _ cap c4 (d.image i).1 (rep n x ++ rep (64 - n) y) rfl hn4.out _ (HS.out.below HB4.out) hs4.out).mono ?_
    rintro e w5 ⟨rfl, rfl⟩
    dsimp only
    go_wp2
    go_ret
    exact ⟨by unfold imageB; rw [HC.out]; simp, th HB.out HB4.out⟩
  · have HC := hid hc
    have hz : ((d.image i).2 == 0) = false := by simpa using hc
    clear hc
    go_wp2
    go_ret
    exact ⟨by unfold imageB; rw [decide_eq_false HC.out]; simp, HB.out⟩
end Go.Proofs.Ytlondopgibcikaa
