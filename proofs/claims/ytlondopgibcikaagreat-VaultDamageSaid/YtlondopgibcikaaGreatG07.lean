/- Rows of slices: lists of bytes in memory. The log, plainly: sectors that tell of themselves what they are. Steps of general use: append, remainders, made rows. The walks of entrepotlaw05's helpers. The walks of the log's small functions. -/
import Derived.Test.YtlondopgibcikaaGreatRows
import Derived.Test.YtlondopgibcikaaGreatG01
import Derived.Test.YtlondopgibcikaaGreatG02
import Derived.Test.YtlondopgibcikaaGreatG03
import Derived.Test.YtlondopgibcikaaGreatG04
import Derived.Test.YtlondopgibcikaaGreatG05
import Derived.Test.YtlondopgibcikaaGreatG06
import Derived.WalkKit
import Derived.Great.Walk
import Derived.WalkSpells
import Derived.WalkLawsBesides
import Derived.Deep.RegionHeld3
import Derived.Laws.IdiomCopy
namespace Go.Proofs.YtlondopgibcikaaGreat
open Go.RowKit Ent
/-- an element type e of slices t -/
structure RowT (t e : TypeId) (z : Value) (s by_ : Nat) : Prop where
  un : Tryz.prog.underlying t = some (.slice e)
  inf : ∃ i, Tryz.prog.info? e = some i ∧ i.zero = some z ∧ i.size = s ∧ i.bytes = by_
  zs : z.cells.size = s
  s0 : 0 < s
  s1 : s ≤ 64
  b1 : by_ ≤ 4096
theorem rowL : RowT 39 44 (.slice none 0 0) 1 24 := ⟨Tryz.underlying39, info_parts (P := Tryz.prog) (by kernel_rfl), rfl, by decide, by decide, by decide⟩
theorem rowW : RowT 61 86 (.agg #[.int .i64 0, .slice none 0 0]) 2 32 := ⟨Tryz.underlying61, info_parts (P := Tryz.prog) (by kernel_rfl), rfl, by decide, by decide, by decide⟩
theorem wpo_layR {t e : TypeId} {z : Value} {s by_ : Nat} (R : RowT t e z s by_) {o : Oper} {a : Act} {w : World} {K : Act → World → Prop} {Q : Exit → Act → World → Prop} (x : Operand) (ho : o.op = .buildSlice t 1 #[(0, x)]) (v : Value) (hx : a.eval x = v) (hv : v.cells.size = s)
    (h : ∀ w', Below w.heap.size w w' → Blk w' w.heap.size e v.cells.toList → K (a.put o.dst (.slice (some ⟨w.heap.size, 0, none⟩) 1 1)) w') : o.wp Tryz.prog a w K Q := by
  obtain ⟨i, hi, hz, hsz, _⟩ := R.inf
  have h0 := R.s0; have h1 := R.s1
  refine wp_buildSlice t e 1 _ ho v.cells i z R.un hi hz (by rw [hsz]; omega) (by rw [hsz]; omega) ?_ (h _ (fresh_alloc w _) (by unfold Blk; rw [alloc_new]))
  rw [hsz]
  have e := Go.Great.fill_whole (s := s) h0 [v] ((Array.range (1 * s)).map (z.cells[· % z.cells.size]!)) (by intro u hu; simp at hu; subst hu; exact hv) (by simp)
  simpa [hx] using e
theorem wpo_appendR {t e : TypeId} {z : Value} {s by_ : Nat} (R : RowT t e z s by_) {o : Oper} {a : Act} {w : World} {K : Act → World → Prop} {Q : Exit → Act → World → Prop} (y x : Operand)
    (ho : o.op = .call { callee := .builtin .append, args := #[y, x], argTypes := #[t, t] })
    (base : Nat) (v : Value) (n : Nat) (xs : List Value) (hs : a.eval y = v) (hown : w.ownsRow base e s v n xs) (g : Nat) (hx : a.eval x = .slice (some ⟨g, 0, none⟩) 1 1) (cs : List Value) (hb : Blk w g e cs) (hcs : cs.length = s) (h1 : ∀ v ∈ cs, v.oneCell' = true)
    (hn : n ≤ 1073741824) (hbase : base ≤ w.heap.size)
    (h : ∀ v' w', w'.ownsRow base e s v' (n + 1) (xs ++ cs) → w.grownBy w' v.ownBlock → (v'.ownBlock = v.ownBlock ∨ v'.ownBlock = some w.heap.size) → K (a.put o.dst v') w') : o.wp Tryz.prog a w K Q := by
  obtain ⟨i, hi, hz, hsz, hby⟩ := R.inf
  have hb1 := R.b1
  have hm : (n + 1) * by_ ≤ (1073741824 + 1) * 4096 := Nat.mul_le_mul (by omega) hb1
  obtain ⟨v', w', hr, h2, h3, _, h5⟩ := run_append_own_at (P := Tryz.prog) w base t o.type e i z s by_ R.un hi hz hsz hby R.zs R.s0 v n xs hown ⟨g, 0, none⟩ 1 1 cs (by rw [hcs]; omega) (fun j u hu => by rw [Addr.add_mid, Nat.zero_add]; exact hb.cell hu) h1 (by simp [maxLen]; omega) (by omega) hbase
  unfold Oper.wp execOp
  simp only [ho, resolve, invoke, builtin, Sem.run_bind, Sem.run_pure, Result.andThen_ok, List.map_toArray, List.map_cons, List.map_nil, hs, hx, hr]
  exact h v' w' h2 h3 h5
theorem wpl_appendR {t e : TypeId} {z : Value} {s by_ : Nat} (R : RowT t e z s by_) {ops : Array Oper} {rest : List Oper} {o : Oper} {a : Act} {w : World} {Q : Exit → Act → World → Prop} (hgd : o.guard = none) (y x : Operand)
    (ho : o.op = .call { callee := .builtin .append, args := #[y, x], argTypes := #[t, t] })
    (base : Nat) (v : Value) (n : Nat) (xs : List Value) (hs : a.eval y = v) (hown : w.ownsRow base e s v n xs) (g : Nat) (hx : a.eval x = .slice (some ⟨g, 0, none⟩) 1 1) (cs : List Value) (hb : Blk w g e cs) (hcs : cs.length = s) (h1 : ∀ v ∈ cs, v.oneCell' = true)
    (hn : n ≤ 1073741824) (hbase : base ≤ w.heap.size)
    (h : ∀ v' w', w'.ownsRow base e s v' (n + 1) (xs ++ cs) → w.grownBy w' v.ownBlock → (v'.ownBlock = v.ownBlock ∨ v'.ownBlock = some w.heap.size) → wpList Tryz.prog ops Q rest (a.put o.dst v') w') : wpList Tryz.prog ops Q (o :: rest) a w :=
  wpList_plain hgd fun _ hK => wpo_appendR R y x ho base v n xs hs hown g hx cs hb hcs h1 hn hbase fun v' w' h1 h2 h3 => hK _ _ (h v' w' h1 h2 h3)
/-! ### A slice of bytes whose block lies in F -/
def SS (w : World) (F : Nat → Prop) (v : Value) (l : List UInt8) : Prop := ∃ ao cap, v = .slice ao l.length cap ∧ l.length ≤ cap ∧ SB w ao cap l ∧ ∀ x, ao = some x → F x.block
theorem SS.keep {w w' : World} {F G : Nat → Prop} {v : Value} {l : List UInt8} (h : SS w F v l) (hk : Keep G w w') (hG : ∀ k, F k → ¬ G k) : SS w' F v l := by
  obtain ⟨ao, cap, hv, hc, hs, hf⟩ := h
  exact ⟨ao, cap, hv, hc, hs.keep hk (fun x hx => hG _ (hf x hx)), hf⟩
theorem SS.mono {w : World} {F G : Nat → Prop} {v : Value} {l : List UInt8} (h : SS w F v l) (hFG : ∀ k, F k → G k) : SS w G v l := by
  obtain ⟨ao, cap, hv, hc, hs, hf⟩ := h
  exact ⟨ao, cap, hv, hc, hs, fun x hx => hFG _ (hf x hx)⟩
theorem SS.one {w : World} {F : Nat → Prop} {v : Value} {l : List UInt8} (h : SS w F v l) : v.oneCell' = true := by
  obtain ⟨ao, cap, rfl, _⟩ := h; rfl
theorem SS.cells {w : World} {F : Nat → Prop} {v : Value} {l : List UInt8} (h : SS w F v l) : v.cells = #[v] := by
  obtain ⟨ao, cap, rfl, _⟩ := h; rfl
theorem SS.fresh {w : World} {B : Nat} {v : Value} {l : List UInt8} (h : Fresh B w v l) : SS w (fun k => B ≤ k ∧ k < w.heap.size) v l := by
  obtain ⟨ao, cap, hv, hc, hs, _, hf⟩ := h
  exact ⟨ao, cap, hv, hc, hs, hf⟩
def RowS (w : World) (F : Nat → Prop) (vs : List Value) (L : List (List UInt8)) : Prop := vs.length = L.length ∧ ∀ (i : Nat) (v : Value) (l : List UInt8), vs[i]? = some v → L[i]? = some l → SS w F v l
theorem RowS.nil (w : World) (F : Nat → Prop) : RowS w F [] [] := ⟨rfl, fun i v l h => by simp at h⟩
theorem RowS.keep {w w' : World} {F G : Nat → Prop} {vs : List Value} {L : List (List UInt8)} (h : RowS w F vs L) (hk : Keep G w w') (hG : ∀ k, F k → ¬ G k) : RowS w' F vs L := ⟨h.1, fun i v l a b => (h.2 i v l a b).keep hk hG⟩
theorem RowS.mono {w : World} {F G : Nat → Prop} {vs : List Value} {L : List (List UInt8)} (h : RowS w F vs L) (hFG : ∀ k, F k → G k) : RowS w G vs L := ⟨h.1, fun i v l a b => (h.2 i v l a b).mono hFG⟩
theorem RowS.at {w : World} {F : Nat → Prop} {vs : List Value} {L : List (List UInt8)} (h : RowS w F vs L) {i : Nat} {l : List UInt8} (hl : L[i]? = some l) : ∃ v, vs[i]? = some v ∧ SS w F v l := by
  obtain ⟨v, hv⟩ : ∃ v, vs[i]? = some v := ⟨_, List.getElem?_eq_getElem (by rw [h.1]; exact (List.getElem?_eq_some_iff.1 hl).1)⟩
  exact ⟨v, hv, h.2 i v l hv hl⟩
theorem RowS.snoc {w : World} {F : Nat → Prop} {vs : List Value} {L : List (List UInt8)} (h : RowS w F vs L) {v : Value} {l : List UInt8} (hv : SS w F v l) : RowS w F (vs ++ [v]) (L ++ [l]) := by
  refine ⟨by simp [h.1], fun i u m hu hm => ?_⟩
  by_cases hi : i < vs.length
  · rw [List.getElem?_append_left hi] at hu
    rw [List.getElem?_append_left (by rw [← h.1]; exact hi)] at hm
    exact h.2 i u m hu hm
  · have hi' : i = vs.length := by
      have := (List.getElem?_eq_some_iff.1 hu).1
      simp at this; omega
    subst hi'
    rw [List.getElem?_append_right (Nat.le_refl _), Nat.sub_self] at hu
    rw [List.getElem?_append_right (by rw [h.1]; exact Nat.le_refl _), h.1, Nat.sub_self] at hm
    simp at hu hm
    subst hu; subst hm; exact hv
theorem RowS.set {w : World} {F : Nat → Prop} {vs : List Value} {L : List (List UInt8)} (h : RowS w F vs L) (i : Nat) {v : Value} {l : List UInt8} (hv : SS w F v l) : RowS w F (vs.set i v) (L.set i l) := by
  refine ⟨by simp [h.1], fun j u m hu hm => ?_⟩
  by_cases hij : i = j
  · subst hij
    rw [List.getElem?_set] at hu hm
    simp at hu hm
    obtain ⟨_, rfl⟩ := hu; obtain ⟨_, rfl⟩ := hm
    exact hv
  · rw [List.getElem?_set_ne hij] at hu hm
    exact h.2 j u m hu hm
theorem RowS.one {w : World} {F : Nat → Prop} {vs : List Value} {L : List (List UInt8)} (h : RowS w F vs L) : ∀ v ∈ vs, v.oneCell' = true := by
  intro v hv
  obtain ⟨i, hi, rfl⟩ := List.getElem_of_mem hv
  obtain ⟨l, hl⟩ : ∃ l, L[i]? = some l := ⟨_, List.getElem?_eq_getElem (by rw [← h.1]; exact hi)⟩
  exact (h.2 i _ l (List.getElem?_eq_getElem hi) hl).one
/-- writes, as the document's device keeps them: a number and bytes -/
def RowW (w : World) (F : Nat → Prop) (vs : List Value) (l : List (Nat × List UInt8)) : Prop := vs.length = 2 * l.length ∧ ∀ (i : Nat) (x : Nat × List UInt8), l[i]? = some x → vs[2 * i]? = some (.int .i64 (x.1 : Int)) ∧ ∃ v, vs[2 * i + 1]? = some v ∧ SS w F v x.2
theorem RowW.nil (w : World) (F : Nat → Prop) : RowW w F [] [] := ⟨rfl, fun i x h => by simp at h⟩
theorem RowW.keep {w w' : World} {F G : Nat → Prop} {vs : List Value} {l : List (Nat × List UInt8)} (h : RowW w F vs l) (hk : Keep G w w') (hG : ∀ k, F k → ¬ G k) : RowW w' F vs l :=
  ⟨h.1, fun i x hx => ⟨(h.2 i x hx).1, by obtain ⟨v, h1, h2⟩ := (h.2 i x hx).2; exact ⟨v, h1, h2.keep hk hG⟩⟩⟩
theorem RowW.mono {w : World} {F G : Nat → Prop} {vs : List Value} {l : List (Nat × List UInt8)} (h : RowW w F vs l) (hFG : ∀ k, F k → G k) : RowW w G vs l :=
  ⟨h.1, fun i x hx => ⟨(h.2 i x hx).1, by obtain ⟨v, h1, h2⟩ := (h.2 i x hx).2; exact ⟨v, h1, h2.mono hFG⟩⟩⟩
theorem RowW.snoc {w : World} {F : Nat → Prop} {vs : List Value} {l : List (Nat × List UInt8)} (h : RowW w F vs l) (i : Nat) {v : Value} {b : List UInt8} (hv : SS w F v b) : RowW w F (vs ++ [.int .i64 (i : Int), v]) (l ++ [(i, b)]) := by
  refine ⟨by simp [h.1]; omega, fun j x hx => ?_⟩
  by_cases hj : j < l.length
  · rw [List.getElem?_append_left hj] at hx
    obtain ⟨h1, u, h2, h3⟩ := h.2 j x hx
    have := h.1
    exact ⟨by rw [List.getElem?_append_left (by omega)]; exact h1, u, by rw [List.getElem?_append_left (by omega)]; exact h2, h3⟩
  · have hj' : j = l.length := by
      have := (List.getElem?_eq_some_iff.1 hx).1
      simp at this; omega
    subst hj'
    rw [List.getElem?_append_right (Nat.le_refl _), Nat.sub_self] at hx
    simp at hx; subst hx
    have := h.1
    refine ⟨by rw [List.getElem?_append_right (by omega), this, Nat.sub_self]; rfl, v, ?_, hv⟩
    rw [List.getElem?_append_right (by omega), this, show 2 * l.length + 1 - 2 * l.length = 1 by omega]; rfl
theorem alc {w : World} {p : Addr} {v : Value} (h : w.cell? p = some v) (o : Obj) : (w.alloc o).cell? p = some v := by rw [World.cell?_alloc_lt w o p (World.block_lt_of_cell? w _ h)]; exact h
theorem own_cell {w : World} {base : Nat} {e : TypeId} {s : Nat} {ao : Option Addr} {n cap : Nat} {xs : List Value} (h : w.ownsRow base e s (.slice ao n cap) n xs) (hn : 0 < n) : ∃ g, ao = some ⟨g, 0, none⟩ ∧ n ≤ cap ∧ base ≤ g ∧ g < w.heap.size ∧ (∀ j v, xs[j]? = some v → w.cell? ⟨g, j, none⟩ = some v) ∧ ∀ j, w.frozen? ⟨g, j, none⟩ = false := by
  rcases h.2 with ⟨h1, h0⟩ | ⟨g, c, cur, hv, hg, hh, hc, hm, hs, ht⟩
  · omega
  · injection hv with e1 e2 e3
    subst e1; subst e3
    refine ⟨g, rfl, hc, hg, lt_blk hh, fun j v hj => ?_, fun j => free_blk hh j⟩
    rw [cell_of_row w g j cur _ _ hh]
    rw [← ht, List.getElem?_take] at hj
    split at hj
    · simpa using hj
    · cases hj
theorem own_set {w : World} {base : Nat} {e : TypeId} {s g n cap : Nat} {xs : List Value} (h : w.ownsRow base e s (.slice (some ⟨g, 0, none⟩) n cap) n xs) (j : Nat) (v : Value) : (w.setCell ⟨g, j, none⟩ v).ownsRow base e s (.slice (some ⟨g, 0, none⟩) n cap) n (xs.set j v) := by
  refine ⟨by simpa using h.1, ?_⟩
  rcases h.2 with ⟨h1, _⟩ | ⟨g', c, cur, hv, hg, hh, hc, hm, hs, ht⟩
  · cases h1
  · injection hv with e1 e2 e3
    injection e1 with e1; injection e1 with e1
    subst e1; subst e3
    refine .inr ⟨g, cap, cur.setIfInBounds j v, rfl, hg, set_blk hh j v, hc, hm, by simpa using hs, ?_⟩
    rw [Array.toList_setIfInBounds, List.take_set, ht]
end Go.Proofs.YtlondopgibcikaaGreat
namespace Go.Proofs.YtlondopgibcikaaGreat
open Go.RowKit Ent
def be4 (n : Nat) : List UInt8 := [UInt8.ofNat (n / 16777216), UInt8.ofNat (n / 65536), UInt8.ofNat (n / 256), UInt8.ofNat n]
@[simp] theorem be4_len (n : Nat) : (be4 n).length = 4 := rfl
/-- zeros -/
def zr (n : Nat) : List UInt8 := List.replicate n 0
@[simp] theorem zr_len (n : Nat) : (zr n).length = n := by simp [zr]
theorem zr_add (a b : Nat) : zr (a + b) = zr a ++ zr b := by simp [zr]
/-- a sector behind its sum -/
def secBody (gen index kind : Nat) (part : List UInt8) : List UInt8 := be4 gen ++ (be4 index ++ ([UInt8.ofNat kind, UInt8.ofNat part.length] ++ (part ++ (zr (49 - part.length) ++ [165]))))
def logSec (gen index kind : Nat) (part : List UInt8) : List UInt8 := be4 (csum (secBody gen index kind part)).toNat ++ secBody gen index kind part
theorem secBody_len {gen index kind : Nat} {part : List UInt8} (h : part.length ≤ 49) : (secBody gen index kind part).length = 60 := by
  simp [secBody]; omega
theorem logSec_len {gen index kind : Nat} {part : List UInt8} (h : part.length ≤ 49) : (logSec gen index kind part).length = 64 := by
  rw [logSec, List.length_append, secBody_len h]; rfl
/-- bytes written over others -/
def putAt (l : List UInt8) (i : Nat) (s : List UInt8) : List UInt8 := l.take i ++ s ++ l.drop (i + s.length)
theorem putAt_mid (a b c s : List UInt8) (i : Nat) (hi : i = a.length) (hb : b.length = s.length) : putAt (a ++ (b ++ c)) i s = a ++ (s ++ c) := by
  subst hi
  unfold putAt
  rw [List.take_append, List.take_length, Nat.sub_self, List.take_zero, List.append_nil, List.drop_append, List.drop_of_length_le (by omega), List.nil_append, Nat.add_sub_cancel_left, List.drop_append, List.drop_of_length_le (by omega), List.nil_append, hb, Nat.sub_self, List.drop_zero, List.append_assoc]
theorem putAt_len (l : List UInt8) (i : Nat) (s : List UInt8) (h : i + s.length ≤ l.length) : (putAt l i s).length = l.length := by
  simp [putAt]; omega
theorem putAt_one (l : List UInt8) (i : Nat) (x : UInt8) (h : i < l.length) : l.set i x = putAt l i [x] := by
  rw [putAt, List.set_eq_take_append_cons_drop, if_pos h]; simp
/-- the kind of a part of so many -/
def kindOf (i many : Nat) : Nat := if many = 1 then 1 else if i = 0 then 2 else if i = many - 1 then 4 else 3
def needOf (n : Nat) : Nat := if n = 0 then 1 else (n + 48) / 49
/-- a sector's kind and part, if it is right -/
def rightOf (b : List UInt8) (gen index : Nat) : Option (Nat × List UInt8) :=
  let kind := (b.getD 12 0).toNat
  let used := (b.getD 13 0).toNat
  if (kind < 1 ∨ 4 < kind) ∨ 49 < used ∨ (kind = 2 ∨ kind = 3) ∧ used ≠ 49 ∨ kind = 4 ∧ used = 0 then none
  else if logSec gen index kind ((b.drop 14).take used) = b then some (kind, (b.drop 14).take used) else none
end Go.Proofs.YtlondopgibcikaaGreat
namespace Go.Proofs.YtlondopgibcikaaGreat
open Go.RowKit Ent
theorem pick_nat (x : Int) (n : Nat) (hn : 0 < n) : ∃ m : Nat, m < n ∧ x % (n : Int) = (m : Int) := by
  have h1 := Int.emod_nonneg x (show (n : Int) ≠ 0 by omega)
  have h2 := Int.emod_lt_of_pos x (show (0 : Int) < n by omega)
  exact ⟨(x % n).toNat, by omega, by omega⟩
end Go.Proofs.YtlondopgibcikaaGreat
namespace Go.Proofs.YtlondopgibcikaaGreat
open Go.RowKit Ent
def rep (n : Nat) (x : UInt8) : List UInt8 := List.replicate n x
@[simp] theorem rep_len (n : Nat) (x : UInt8) : (rep n x).length = n := by simp [rep]
theorem blk_owns {w : World} {base n g : Nat} {l : List UInt8} (h : Blk w g 5 (bv l)) (hn : n = l.length) (hb : base ≤ g) (hm : n ≤ maxLen) : w.ownsRow base 5 1 (.slice (some ⟨g, 0, none⟩) n n) n (bv l) :=
  ⟨by simp [hn], .inr ⟨g, n, (bv l).toArray, rfl, hb, h, Nat.le_refl _, hm, by simp [hn], by show ((bv l).toArray.toList).take (n * 1) = bv l; rw [List.take_of_length_le (by simp [hn])]⟩⟩
/-- behind a call that may lay new blocks: what is a device's own -/
def grow (F : Nat → Prop) (w w' : World) : Nat → Prop := fun k => F k ∨ (w.heap.size ≤ k ∧ k < w'.heap.size)
theorem lift_write {a : Nat} {F : Nat → Prop} {d : Dev} (i : Int) (bo : Option Addr) (n c : Nat) (b : List UInt8) (hn : n = b.length) (w : World) (hb : SB w bo c b) (hbF : ∀ x, bo = some x → ¬ F x.block) (hlo : d.loose.length ≤ 1073741824) (h : PDev w a F d) :
    Calls Tryz.prog 13 #[ptr a, .int .i64 i, .slice bo n c] w fun e w' => e = .returned (.int .i64 (d.write i b).1) ∧ PDev w' a (grow F w w') (d.write i b).2 ∧ Keep F w w' := by
  obtain ⟨gi, gn, vl, lets, left, h⟩ := h
  refine (write_any i bo n c b hn w hb hbF hlo h).mono ?_
  rintro e w' ⟨he, ⟨vl', left', h'⟩, hk⟩
  exact ⟨he, ⟨_, _, _, _, _, h'⟩, hk⟩
theorem lift_flush {a : Nat} {F : Nat → Prop} {d : Dev} (w : World) (h : PDev w a F d) :
    Calls Tryz.prog 16 #[ptr a] w fun e w' => e = .returned (.int .i64 d.flush.1) ∧ PDev w' a F d.flush.2 ∧ Keep F w w' := by
  obtain ⟨gi, gn, vl, lets, left, h⟩ := h
  refine (flush_any w h).mono ?_
  rintro e w' ⟨he, ⟨vl', left', h'⟩, hk⟩
  exact ⟨he, ⟨_, _, _, _, _, h'⟩, hk⟩
theorem lift_fuse {a : Nat} {F : Nat → Prop} {d : Dev} (n : Int) (h1 : -9223372036854775808 ≤ n) (h2 : n ≤ 9223372036854775807) (w : World) (h : PDev w a F d) :
    Calls Tryz.prog 32 #[ptr a, .int .i64 n] w fun e w' => e = .returned (.int .i64 (d.setFuse n).1) ∧ PDev w' a F (d.setFuse n).2 ∧ Keep F w w' := by
  obtain ⟨gi, gn, vl, lets, left, h⟩ := h
  refine (fuse_any n h1 h2 w h).mono ?_
  rintro e w' ⟨he, ⟨vl', left', h'⟩, hk⟩
  exact ⟨he, ⟨_, _, _, _, _, h'⟩, hk⟩
theorem lift_crash {a : Nat} {F : Nat → Prop} {d : Dev} (ko : Option Addr) (kn kc : Nat) (keep : List Bool) (hkn : kn = keep.length) (torn : Int) (w : World) (hbl : BL w ko keep) (hkF : keep ≠ [] → ∀ x, ko = some x → ¬ F x.block) (hkb : kn ≤ 1073741824) (hlo : d.loose.length ≤ 1073741824) (h : PDev w a F d) :
    Calls Tryz.prog 34 #[ptr a, .slice ko kn kc, .int .i64 torn] w fun e w' => e = .returned (.int .i64 (d.crash keep torn).1) ∧ PDev w' a F (d.crash keep torn).2 ∧ Keep F w w' := by
  obtain ⟨gi, gn, vl, lets, left, h⟩ := h
  refine (crash_any ko kn kc keep hkn torn w hbl hkF hkb hlo h).mono ?_
  rintro e w' ⟨he, ⟨vl', lets', left', h'⟩, hk⟩
  exact ⟨he, ⟨_, _, _, _, _, h'⟩, hk⟩
theorem lift_image {a : Nat} {F : Nat → Prop} {d : Dev} (i : Int) (w : World) (h : PDev w a F d) :
    Calls Tryz.prog 12 #[ptr a, .int .i64 i] w fun e w' => ∃ v, e = .returned (.tuple #[v, .int .i64 (d.image i).2]) ∧ Fresh w.heap.size w' v (d.image i).1 ∧ Below w.heap.size w w' := by
  obtain ⟨gi, gn, vl, lets, left, h⟩ := h; exact image_any i w h
theorem lift_read {a : Nat} {F : Nat → Prop} {d : Dev} (i : Int) (w : World) (h : PDev w a F d) :
    Calls Tryz.prog 56 #[ptr a, .int .i64 i] w fun e w' => ∃ v, e = .returned (.tuple #[v, .int .i64 (d.read i).2]) ∧ Fresh w.heap.size w' v (d.read i).1 ∧ Below w.heap.size w w' := by
  obtain ⟨gi, gn, vl, lets, left, h⟩ := h; exact read_any i w h
theorem lift_size {a : Nat} {F : Nat → Prop} {d : Dev} (w : World) (h : PDev w a F d) :
    Calls Tryz.prog 58 #[ptr a] w fun e w' => e = .returned (.int .i64 d.img.length) ∧ w' = w := by
  obtain ⟨gi, gn, vl, lets, left, h⟩ := h; exact size_any w h
theorem lift_out {a : Nat} {F : Nat → Prop} {d : Dev} (w : World) (h : PDev w a F d) :
    Calls Tryz.prog 47 #[ptr a] w fun e w' => e = .returned (.bool d.out) ∧ w' = w := by
  obtain ⟨gi, gn, vl, lets, left, h⟩ := h; exact out_any w h
theorem lift_loose {a : Nat} {F : Nat → Prop} {d : Dev} (w : World) (h : PDev w a F d) :
    Calls Tryz.prog 45 #[ptr a] w fun e w' => e = .returned (.int .i64 d.loose.length) ∧ w' = w := by
  obtain ⟨gi, gn, vl, lets, left, h⟩ := h; exact loose_any w h
end Go.Proofs.YtlondopgibcikaaGreat
namespace Go.Proofs.YtlondopgibcikaaGreat
open Go.RowKit Ent
theorem Blk.putB {w : World} {g : Nat} {T : TypeId} {l : List UInt8} (h : Blk w g T (bv l)) (o : Nat) (s : List UInt8) (hs : o + s.length ≤ l.length) : Blk (w.setCells g o (bv s)) g T (bv (putAt l o s)) := by
  have := h.setCells (bv s) _ o (by rw [bv_length, bv_length]; exact hs)
  rw [bv_length] at this
  simpa [putAt, bv, List.map_take, List.map_drop] using this
theorem Blk.setB {w : World} {g : Nat} {T : TypeId} {l : List UInt8} (h : Blk w g T (bv l)) (i : Nat) (x : UInt8) : Blk (w.setCell ⟨g, i, none⟩ (.int .u8 (x.toNat : Int))) g T (bv (l.set i x)) := by
  have := h.set i (.int .u8 (x.toNat : Int))
  rwa [show (bv l).set i (.int .u8 (x.toNat : Int)) = bv (l.set i x) by simp [bv, List.map_set]] at this
/-- copy of bytes, whatever the lengths -/
theorem wpl_copyB {ops : Array Oper} {rest : List Oper} {o : Oper} {a : Act} {w : World} {Q : Exit → Act → World → Prop} (hgd : o.guard = none) (s x : Operand)
    (ho : o.op = .call { callee := .builtin .copy, args := #[s, x], argTypes := #[44, 44] })
    (gi oi dl dc : Nat) (T : TypeId) (cur : List UInt8) (ao : Option Addr) (sl sc : Nat) (l : List UInt8) (hs : a.eval s = .slice (some ⟨gi, oi, none⟩) dl dc) (hx : a.eval x = .slice ao sl sc) (hl : l.length = sl) (hle : sl ≤ dl) (hsb : SB w ao sc l) (hb : Blk w gi T (bv cur)) (hc : oi + sl ≤ cur.length)
    (h : ∀ w', Blk w' gi T (bv (putAt cur oi l)) → Keep (fun k => k = gi) w w' → wpList Tryz.prog ops Q rest (a.put o.dst (goInt sl)) w') : wpList Tryz.prog ops Q (o :: rest) a w := by
  obtain ⟨i, hi, _, hz, _⟩ := info_u8
  have hin : (Tryz.prog.info? 5).map (·.size) = some 1 := by rw [hi]; simp [hz]
  refine wpList_plain hgd fun _ hK => ?_
  unfold Oper.wp execOp
  subst hl
  have hth := hb.there (o := oi) (n := l.length) (by rw [bv_length]; exact hc)
  have key : (Builtin.copy_ #[44, 44] o.type #[.slice (some ⟨gi, oi, none⟩) dl dc, .slice ao l.length sc]).run Tryz.prog w = .ok (goInt (l.length : Nat)) (w.setCells gi oi (bv l)) := by
    by_cases h0 : l = []
    · subst h0
      have := run_copy_none (P := Tryz.prog) w 44 44 o.type 5 (some ⟨gi, oi, none⟩) ao dl dc 0 sc Tryz.underlying44 hin (by simp)
      simpa [bv, World.setCells] using this
    · rcases hsb with ⟨_, _, h1⟩ | ⟨_, _, h1⟩ | ⟨b, o', rfl, hr⟩
      · exact absurd h1 h0
      · exact absurd h1 h0
      · have := run_copy_cells (P := Tryz.prog) w 44 44 o.type 5 gi oi dl dc ⟨b, o', none⟩ l.length sc (bv l) Tryz.underlying44 hin (by rw [bv_length]; exact (Nat.min_eq_left hle).symm) (fun j v hv => by rw [Addr.add_mid]; exact hr j v hv) (fun j hj => (hth j (by simpa using hj)).1) (fun j hj => (hth j (by simpa using hj)).2) (bv_one l)
        rwa [bv_length] at this
  simp only [ho, resolve, invoke, builtin, Sem.run_bind, Sem.run_pure, Result.andThen_ok, List.map_toArray, List.map_cons, List.map_nil, hs, hx, key]
  exact hK _ _ (h _ (hb.putB oi l hc) (Keep.setCells (F := fun k => k = gi) rfl _ _ (Keep.refl _ w)))
theorem run_cut_log (t : Nat) (ht : t ≤ 60) (w : World) (b : Nat) : (Instr.sliceAt 127 (.pointer (some ⟨b, 0, none⟩)) (some (.int .i64 (t : Int))) none none).run Tryz.prog w = .ok (.slice (some ⟨b, t, none⟩) (64 - t) (64 - t)) w := by
  obtain ⟨i, hi, _, hz1, _⟩ := info_u8
  have h1 : (0 : Int) ≤ (t : Int) ∧ (t : Int) ≤ 64 := by omega
  have h2 : ¬ 64 = t := by omega
  simp [Instr.sliceAt, Instr.sliceBounds, Instr.sliceBound, Instr.sureAddr, asIntOf, run_underlying Tryz.underlying127, sizeOf, typeInfo, hi, hz1, h1, h2, Addr.add]
  rw [if_pos (by omega)]
  by_cases h0 : t = 0
  · subst h0; simp
  · simp [h0]
theorem be4_cells (n : Nat) (h : n < 4294967296) : (#[.int .u8 ((n : Int) / 16777216), .int .u8 ((n : Int) / 65536 % 256), .int .u8 ((n : Int) / 256 % 256), .int .u8 ((n : Int) % 256)] : Array Value) = (bv (be4 n)).toArray := by
  have q : ∀ m : Nat, ((UInt8.ofNat m).toNat : Int) = ((m % 256 : Nat) : Int) := fun m => by simp
  have b0 : ((UInt8.ofNat (n / 16777216)).toNat : Int) = (n : Int) / 16777216 := by rw [q]; omega
  have b1 : ((UInt8.ofNat (n / 65536)).toNat : Int) = (n : Int) / 65536 % 256 := by rw [q]; omega
  have b2 : ((UInt8.ofNat (n / 256)).toNat : Int) = (n : Int) / 256 % 256 := by rw [q]; omega
  have b3 : ((UInt8.ofNat n).toNat : Int) = (n : Int) % 256 := by rw [q]; omega
  show _ = #[Value.int .u8 ((UInt8.ofNat (n / 16777216)).toNat : Int), .int .u8 ((UInt8.ofNat (n / 65536)).toNat : Int), .int .u8 ((UInt8.ofNat (n / 256)).toNat : Int), .int .u8 ((UInt8.ofNat n).toNat : Int)]
  rw [b0, b1, b2, b3]
set_option maxRecDepth 100000 in
set_option maxHeartbeats 400000 in
theorem lay_any (g t n : Nat) (l : List UInt8) (ht : t ≤ 60) (hn : n < 4294967296) (hl : l.length = 64) (w : World) (h : Blk w g 127 (bv l)) :
    Calls Tryz.prog 120 #[.pointer (some ⟨g, 0, none⟩), .int .i64 t, .int .i64 n] w fun e w' => e = .returned (.tuple #[]) ∧ Blk w' g 127 (bv (putAt l t (be4 n))) ∧ Keep (fun k => k = g) w w' := by
  have hr := run_cut_log t ht
  have e := be4_cells n hn
  have HSB : Hid (SB (w.alloc (.cells #[.int .u8 ((n : Int) / 16777216), .int .u8 ((n : Int) / 65536 % 256), .int .u8 ((n : Int) / 256 % 256), .int .u8 ((n : Int) % 256)] 5)) (some ⟨w.heap.size, 0, none⟩) 4 (be4 n)) := hid (by rw [e]; exact SB.laid w (be4 n) 5 4)
  have H1 : Hid (Blk (w.alloc (.cells #[.int .u8 ((n : Int) / 16777216), .int .u8 ((n : Int) / 65536 % 256), .int .u8 ((n : Int) / 256 % 256), .int .u8 ((n : Int) % 256)] 5)) g 127 (bv l)) := hid (h.alloc _)
  have HL := hid hl
  have HB : Hid (Below w.heap.size w (w.alloc (.cells #[.int .u8 ((n : Int) / 16777216), .int .u8 ((n : Int) / 65536 % 256), .int .u8 ((n : Int) / 256 % 256), .int .u8 ((n : Int) % 256)] 5))) := hid (fresh_alloc w _)
  clear h hl e
  go_enter Tryz.func120, Tryz.ntmps120
  go_wp2_with (refine wpl_copyB rfl (.tmp 9) (.tmp 21) rfl g t (64 - t) (64 - t) 127 l (some ⟨w.heap.size, 0, none⟩) 4 4 (be4 n) rfl rfl rfl (by omega) HSB.out H1.out (by rw [HL.out]; omega) ?_; intro w2 h2 hk2; have H2 := hid h2; have HK2 := hid hk2; clear h2 hk2)
  go_end0
  exact ⟨rfl, H2.out, (Keep.ofBelow HB.out).trans HK2.out⟩
theorem logsec_info : (Tryz.prog.info? 127).map (·.size) = some 64 := by kernel_rfl
/-- a kind or a length as a byte -/
theorem byte_nat (n : Nat) : ((n : Int) % 256) = ((UInt8.ofNat n).toNat : Int) := by
  have q : ((UInt8.ofNat n).toNat : Int) = ((n % 256 : Nat) : Int) := by simp
  rw [q]; omega
def mk1 (gen : Nat) : List UInt8 := zr 4 ++ (be4 gen ++ zr 56)
def mk2 (gen index : Nat) : List UInt8 := zr 4 ++ (be4 gen ++ (be4 index ++ zr 52))
def mk3 (gen index kind : Nat) (part : List UInt8) : List UInt8 := zr 4 ++ (be4 gen ++ (be4 index ++ ([UInt8.ofNat kind, UInt8.ofNat part.length] ++ zr 50)))
def mk4 (gen index kind : Nat) (part : List UInt8) : List UInt8 := zr 4 ++ (be4 gen ++ (be4 index ++ ([UInt8.ofNat kind, UInt8.ofNat part.length] ++ (part ++ zr (50 - part.length)))))
def mk5 (gen index kind : Nat) (part : List UInt8) : List UInt8 := zr 4 ++ secBody gen index kind part
theorem mk1_of (gen : Nat) : putAt (zr 64) 4 (be4 gen) = mk1 gen := by
  rw [show (64 : Nat) = 4 + (4 + 56) from rfl, zr_add 4 (4 + 56), zr_add 4 56]
  exact putAt_mid (zr 4) (zr 4) (zr 56) (be4 gen) 4 rfl rfl
theorem mk2_of (gen index : Nat) : putAt (mk1 gen) 8 (be4 index) = mk2 gen index := by
  have := putAt_mid (zr 4 ++ be4 gen) (zr 4) (zr 52) (be4 index) 8 rfl rfl
  rw [← zr_add 4 52] at this
  simpa [mk1, mk2] using this
theorem mk3_of (gen index kind : Nat) (part : List UInt8) : ((mk2 gen index).set 12 (UInt8.ofNat kind)).set 13 (UInt8.ofNat part.length) = mk3 gen index kind part := rfl
theorem mk4_of (gen index kind : Nat) (part : List UInt8) (h : part.length ≤ 49) : putAt (mk3 gen index kind part) 14 part = mk4 gen index kind part := by
  have := putAt_mid (zr 4 ++ (be4 gen ++ (be4 index ++ [UInt8.ofNat kind, UInt8.ofNat part.length]))) (zr part.length) (zr (50 - part.length)) part 14 rfl (by simp)
  rw [← zr_add, show part.length + (50 - part.length) = 50 by omega] at this
  simpa [mk3, mk4] using this
theorem mk5_of (gen index kind : Nat) (part : List UInt8) (h : part.length ≤ 49) : (mk4 gen index kind part).set 63 165 = mk5 gen index kind part := by
  rw [putAt_one _ _ _ (by simp [mk4]; omega)]
  have := putAt_mid (zr 4 ++ (be4 gen ++ (be4 index ++ ([UInt8.ofNat kind, UInt8.ofNat part.length] ++ (part ++ zr (49 - part.length)))))) (zr 1) [] [165] 63 (by simp; omega) rfl
  have e : zr (50 - part.length) = zr (49 - part.length) ++ zr 1 := by rw [← zr_add]; congr 1; omega
  rw [List.append_nil] at this
  simpa [mk4, mk5, secBody, e] using this
theorem mk5_drop (gen index kind : Nat) (part : List UInt8) : (mk5 gen index kind part).drop 4 = secBody gen index kind part := by
  unfold mk5; rw [List.drop_append, zr_len]; simp [zr]
theorem mk6_of (gen index kind : Nat) (part : List UInt8) : putAt (mk5 gen index kind part) 0 (be4 (csum (secBody gen index kind part)).toNat) = logSec gen index kind part := by
  have := putAt_mid [] (zr 4) (secBody gen index kind part) (be4 (csum (secBody gen index kind part)).toNat) 0 rfl rfl
  simpa [mk5, logSec] using this
theorem blk_some {w : World} {g : Nat} {T : TypeId} {vs : List Value} (h : Blk w g T vs) {j : Nat} (hj : j < vs.length) : ∃ v, w.cell? ⟨g, j, none⟩ = some v := ⟨_, h.cell (List.getElem?_eq_getElem hj)⟩
theorem byte_small (n : Nat) (h : n ≤ 255) : (n : Int) = ((UInt8.ofNat n).toNat : Int) := by
  have q : ((UInt8.ofNat n).toNat : Int) = ((n % 256 : Nat) : Int) := by simp
  rw [q]; omega
set_option maxRecDepth 100000 in
set_option maxHeartbeats 1000000 in
theorem lmade_any (gen index kind : Nat) (ao : Option Addr) (n c : Nat) (part : List UInt8) (hn : n = part.length) (h49 : n ≤ 49) (hg : gen < 4294967296) (hi : index < 4294967296) (hk : kind ≤ 255) (w : World) (hp : SB w ao c part) :
    Calls Tryz.prog 104 #[.int .i64 gen, .int .i64 index, .int .i64 kind, .slice ao n c] w fun e w' => e = .returned (.agg (bv (logSec gen index kind part)).toArray) ∧ Below w.heap.size w w' := by
  have HN := hid hn
  clear hn
  have HP := hid hp
  clear hp
  have HKI := hid (byte_small kind hk)
  have HNI := hid (byte_small n (by omega))
  obtain ⟨g, hgg⟩ : ∃ g, g = w.heap.size := ⟨_, rfl⟩
  have HG := hid hgg
  clear hgg
  go_enter Tryz.func104, Tryz.ntmps104
  go_wp2_with fail
  generalize hw1 : w.alloc _ = w1
  have H1 : Hid (Blk w1 w.heap.size 127 (bv (zr 64))) := hid (by rw [← hw1]; exact alloc_new w _)
  have HB1 : Hid (Below w.heap.size w w1) := hid (by rw [← hw1]; exact fresh_alloc w _)
  clear hw1
  rw [← HG.out]
  rw [← HG.out] at H1
  refine (lay_any g 4 gen (zr 64) (by omega) hg (by simp) w1 H1.out).mono ?_
  rintro e w2 ⟨rfl, h2, hk2⟩
  rw [mk1_of] at h2
  have H2 := hid h2; have HK2 := hid hk2
  clear h2 hk2
  go_wp2_with fail
  refine (lay_any g 8 index (mk1 gen) (by omega) hi (by simp [mk1]) w2 H2.out).mono ?_
  rintro e w3 ⟨rfl, h3, hk3⟩
  rw [mk2_of] at h3
  have H3 := hid h3; have HK3 := hid (HK2.out.trans hk3)
  have HB3 : Hid (Below w.heap.size w w3) := hid (HB1.out.trans (HK3.out.belowB (by rw [← HG.out]; exact Nat.le_of_lt (lt_blk H1.out)) (fun k hk e => by rw [e, HG.out] at hk; omega)))
  have c12 : w3.cell? ⟨g, 12, none⟩ = some (.int .u8 0) := h3.cell (j := 12) rfl
  have f12 := h3.free 12
  have h4 := h3.setB 12 (UInt8.ofNat kind)
  rw [← HKI.out] at h4
  have c13 : (w3.setCell ⟨g, 12, none⟩ (.int .u8 (kind : Int))).cell? ⟨g, 13, none⟩ = some (.int .u8 0) := h4.cell (j := 13) rfl
  have f13 := h4.free 13
  have h5 := h4.setB 13 (UInt8.ofNat n)
  rw [← HNI.out] at h5
  have H5 : Hid (Blk ((w3.setCell ⟨g, 12, none⟩ (.int .u8 (kind : Int))).setCell ⟨g, 13, none⟩ (.int .u8 (n : Int))) g 127 (bv (mk3 gen index kind part))) := hid (by rw [HN.out, mk3_of] at h5; rw [← HN.out] at h5; exact h5)
  have HB5 : Hid (Below w.heap.size w ((w3.setCell ⟨g, 12, none⟩ (.int .u8 (kind : Int))).setCell ⟨g, 13, none⟩ (.int .u8 (n : Int)))) := hid ((HB3.out.setCell (p := ⟨g, 12, none⟩) (by rw [HG.out]; exact Nat.le_refl _) _).setCell (p := ⟨g, 13, none⟩) (by rw [HG.out]; exact Nat.le_refl _) _)
  clear h3 hk3 h4 h5
  go_wp2_with (refine wpl_copyB rfl (.tmp 20) (.tmp 21) rfl g 14 49 50 127 (mk3 gen index kind part) ao n c part rfl rfl HN.out.symm h49 (HP.out.below HB5.out) H5.out (by simp [mk3]; omega) ?_; intro w6 h6 hk6; have H6 := hid h6; have HB6 := hid (HB5.out.trans (hk6.belowB HB5.out.size (fun k hk e => by rw [e, HG.out] at hk; omega))); obtain ⟨v63, c63⟩ := blk_some h6 (j := 63) (by rw [bv_length, putAt_len _ _ _ (by simp [mk3]; rw [← HN.out]; omega)]; simp [mk3]); have f63 := h6.free 63; clear h6 hk6)
  have H7 : Hid (Blk (w6.setCell ⟨g, 63, none⟩ (.int .u8 165)) g 127 (bv (mk5 gen index kind part))) := hid (by
    have := H6.out.setB 63 165
    rw [mk4_of _ _ _ _ (by rw [← HN.out]; exact h49), mk5_of _ _ _ _ (by rw [← HN.out]; exact h49)] at this
    exact this)
  have HB7 : Hid (Below w.heap.size w (w6.setCell ⟨g, 63, none⟩ (.int .u8 165))) := hid (HB6.out.setCell (p := ⟨g, 63, none⟩) (by rw [HG.out]; exact Nat.le_refl _) _)
  generalize hw7 : w6.setCell ⟨g, 63, none⟩ (.int .u8 165) = w7 at *
  clear hw7
  refine (sum_any (some ⟨g, 4, none⟩) 60 60 (secBody gen index kind part) (secBody_len (by rw [← HN.out]; exact h49)).symm (by omega) w7 (.inr (.inr ⟨g, 4, rfl, H7.out.range fun j v hv => by
    rw [bv_get, show (mk5 gen index kind part)[4 + j]? = (secBody gen index kind part)[j]? by rw [← mk5_drop, List.getElem?_drop], ← bv_get]; exact hv⟩))).mono ?_
  rintro e w8 ⟨rfl, hb8⟩
  have H8 := hid (H7.out.below hb8 H7.out.lt)
  have HB8 := hid (th HB7.out hb8)
  clear hb8
  go_wp2_with fail
  refine (lay_any g 0 (csum (secBody gen index kind part)).toNat (mk5 gen index kind part) (by omega) (by have := (csum (secBody gen index kind part)).isLt; omega) (by rw [mk5, List.length_append, secBody_len (by rw [← HN.out]; exact h49)]; rfl) w8 H8.out).mono ?_
  rintro e w9 ⟨rfl, h9, hk9⟩
  rw [mk6_of] at h9
  have H9 := hid h9
  have HB9 := hid (HB8.out.trans (hk9.belowB HB8.out.size (fun k hk e => by rw [e, HG.out] at hk; omega)))
  have HL := hid (logSec_len (gen := gen) (index := index) (kind := kind) (part := part) (by rw [← HN.out]; exact h49))
  clear h9 hk9
  go_wp2_with (first | (refine wpList_load_row rfl 127 (.tmp 8) rfl _ rfl _ _ _ _ H9.out Tryz.underlying127 rfl (by rw [List.size_toArray, bv_length, HL.out]; exact logsec_info) ?_) | (refine wpList_store_row rfl 127 (.tmp 8) (.tmp 28) rfl _ _ rfl rfl _ _ H9.out (by rw [List.size_toArray, bv_length, HL.out]; exact logsec_info) ?_ ?_ ?_))
  · rfl
  · exact bv_cells _
  · refine bodyPost_ret (results_cell_row rfl _ _ g 127 (bv (logSec gen index kind part)).toArray (0, 0) _ rfl (setRow_heap _ _ _ _ _ _ H9.out) Tryz.underlying127 rfl (by rw [List.size_toArray, bv_length, HL.out]; exact logsec_info)) rfl ⟨rfl, ?_⟩
    exact below_setRow' HB9.out (by rw [HG.out]; exact Nat.le_refl _) _
end Go.Proofs.YtlondopgibcikaaGreat
