/- Rows of slices: lists of bytes in memory. -/
import Derived.Test.YtlondopgibcikaaRows
import Derived.Test.YtlondopgibcikaaHeap
import Derived.Test.YtlondopgibcikaaKit
import Derived.Test.YtlondopgibcikaaDev
import Derived.Test.YtlondopgibcikaaDevW
import Derived.Test.YtlondopgibcikaaDevV
import Derived.Test.YtlondopgibcikaaDevU
import Derived.WalkKit
import Derived.Great.Walk
namespace Go.Proofs.Ytlondopgibcikaa
open Go.RowKit Ent

/-- an element type e of slices t -/
structure RowT (t e : TypeId) (z : Value) (s by_ : Nat) : Prop where
  un : Try.prog.underlying t = some (.slice e)
  inf : ∃ i, Try.prog.info? e = some i ∧ i.zero = some z ∧ i.size = s ∧ i.bytes = by_
  zs : z.cells.size = s
  s0 : 0 < s
  s1 : s ≤ 64
  b1 : by_ ≤ 4096
theorem rowL : RowT 79 22 (.slice none 0 0) 1 24 := ⟨Try.underlying79, info_parts (P := Try.prog) (by kernel_rfl), rfl, by decide, by decide, by decide⟩
theorem rowW : RowT 139 143 (.agg #[.int .i64 0, .slice none 0 0]) 2 32 := ⟨Try.underlying139, info_parts (P := Try.prog) (by kernel_rfl), rfl, by decide, by decide, by decide⟩
theorem wpo_layR {t e : TypeId} {z : Value} {s by_ : Nat} (R : RowT t e z s by_) {o : Oper} {a : Act} {w : World} {K : Act → World → Prop} {Q : Exit → Act → World → Prop} (x : Operand) (ho : o.op = .buildSlice t 1 #[(0, x)]) (v : Value) (hx : a.eval x = v) (hv : v.cells.size = s)
    (h : ∀ w', Below w.heap.size w w' → Blk w' w.heap.size e v.cells.toList → K (a.put o.dst (.slice (some ⟨w.heap.size, 0, none⟩) 1 1)) w') : o.wp Try.prog a w K Q := by
  obtain ⟨i, hi, hz, hsz, _⟩ := R.inf
  have h0 := R.s0; have h1 := R.s1
  refine wp_buildSlice t e 1 _ ho v.cells i z R.un hi hz (by rw [hsz]; omega) (by rw [hsz]; omega) ?_ (h _ (fresh_alloc w _) (by unfold Blk; rw [alloc_new]))
  rw [hsz]
  have e := Go.Great.fill_whole (s := s) h0 [v] ((Array.range (1 * s)).map (z.cells[· % z.cells.size]!)) (by intro u hu; simp at hu; subst hu; exact hv) (by simp)
  simpa [hx] using e
theorem wpo_appendR {t e : TypeId} {z : Value} {s by_ : Nat} (R : RowT t e z s by_) {o : Oper} {a : Act} {w : World} {K : Act → World → Prop} {Q : Exit → Act → World → Prop} (y x : Operand)
    (ho : o.op = .call { callee := .builtin .append, args := #[y, x], argTypes := #[t, t] })
    (base : Nat) (v : Value) (n : Nat) (xs : List Value) (hs : a.eval y = v) (hown : w.ownsRow base e s v n xs) (g : Nat) (hx : a.eval x = .slice (some ⟨g, 0, none⟩) 1 1) (cs : List Value) (hb : Blk w g e cs) (hcs : cs.length = s) (h1 : ∀ v ∈ cs, v.oneCell' = true)
    (hn : n ≤ 1073741824) (hbase : base ≤ w.heap.size)
    (h : ∀ v' w', w'.ownsRow base e s v' (n + 1) (xs ++ cs) → w.grownBy w' v.ownBlock → (v'.ownBlock = v.ownBlock ∨ v'.ownBlock = some w.heap.size) → K (a.put o.dst v') w') : o.wp Try.prog a w K Q := by
  obtain ⟨i, hi, hz, hsz, hby⟩ := R.inf
  have hb1 := R.b1
  have hm : (n + 1) * by_ ≤ (1073741824 + 1) * 4096 := Nat.mul_le_mul (by omega) hb1
  obtain ⟨v', w', hr, h2, h3, _, h5⟩ := run_append_own_at (P := Try.prog) w base t o.type e i z s by_ R.un hi hz hsz hby R.zs R.s0 v n xs hown ⟨g, 0, none⟩ 1 1 cs (by rw [hcs]; omega) (fun j u hu => by rw [Addr.add_mid, Nat.zero_add]; exact hb.cell hu) h1 (by simp [maxLen]; omega) (by omega) hbase
  unfold Oper.wp execOp
  simp only [ho, resolve, invoke, builtin, Sem.run_bind, Sem.run_pure, Result.andThen_ok, List.map_toArray, List.map_cons, List.map_nil, hs, hx, hr]
  exact h v' w' h2 h3 h5
theorem wpl_appendR {t e : TypeId} {z : Value} {s by_ : Nat} (R : RowT t e z s by_) {ops : Array Oper} {rest : List Oper} {o : Oper} {a : Act} {w : World} {Q : Exit → Act → World → Prop} (hgd : o.guard = none) (y x : Operand)
    (ho : o.op = .call { callee := .builtin .append, args := #[y, x], argTypes := #[t, t] })
    (base : Nat) (v : Value) (n : Nat) (xs : List Value) (hs : a.eval y = v) (hown : w.ownsRow base e s v n xs) (g : Nat) (hx : a.eval x = .slice (some ⟨g, 0, none⟩) 1 1) (cs : List Value) (hb : Blk w g e cs) (hcs : cs.length = s) (h1 : ∀ v ∈ cs, v.oneCell' = true)
    (hn : n ≤ 1073741824) (hbase : base ≤ w.heap.size)
    (h : ∀ v' w', w'.ownsRow base e s v' (n + 1) (xs ++ cs) → w.grownBy w' v.ownBlock → (v'.ownBlock = v.ownBlock ∨ v'.ownBlock = some w.heap.size) → wpList Try.prog ops Q rest (a.put o.dst v') w') : wpList Try.prog ops Q (o :: rest) a w :=
  wpList_plain hgd fun _ hK => wpo_appendR R y x ho base v n xs hs hown g hx cs hb hcs h1 hn hbase fun v' w' h1 h2 h3 => hK _ _ (h v' w' h1 h2 h3)

/-! ### A slice of bytes whose block lies in F -/
def SS (w : World) (F : Nat → Prop) (v : Value) (l : List UInt8) : Prop := ∃ ao cap, v = .slice ao l.length cap ∧ l.length ≤ cap ∧ SB w ao cap l ∧ ∀ x, ao = some x → F x.block
theorem SS.keep {w w' : World} {F G : Nat → Prop} {v : Value} {l : List UInt8} (h : SS w F v l) (hk : Keep G w w') (hG : ∀ k, F k → ¬ G k) : SS w' F v l := by
  obtain ⟨ao, cap, hv, hc, hs, hf⟩ := h
  exact ⟨ao, cap, hv, hc, hs.keep hk (fun x hx => hG _ (hf x hx)), hf⟩
theorem SS.mono {w : World} {F G : Nat → Prop} {v : Value} {l : List UInt8} (h : SS w F v l) (hFG : ∀ k, F k → G k) : SS w G v l := by
  obtain ⟨ao, cap, hv, hc, hs, hf⟩ := h
  exact ⟨ao, cap, hv, hc, hs, fun x hx => hFG _ (hf x hx)⟩
theorem SS.one {w : World} {F : Nat → Prop} {v : Value} {l : List UInt8} (h : SS w F v l) : v.oneCell' = true := by
  obtain ⟨ao, cap, rfl, _⟩ := h; rfl
theorem SS.cells {w : World} {F : Nat → Prop} {v : Value} {l : List UInt8} (h : SS w F v l) : v.cells = #[v] := by
  obtain ⟨ao, cap, rfl, _⟩ := h; rfl
theorem SS.fresh {w : World} {B : Nat} {v : Value} {l : List UInt8} (h : Fresh B w v l) : SS w (fun k => B ≤ k ∧ k < w.heap.size) v l := by
  obtain ⟨ao, cap, hv, hc, hs, _, hf⟩ := h
  exact ⟨ao, cap, hv, hc, hs, hf⟩
def RowS (w : World) (F : Nat → Prop) (vs : List Value) (L : List (List UInt8)) : Prop := vs.length = L.length ∧ ∀ (i : Nat) (v : Value) (l : List UInt8), vs[i]? = some v → L[i]? = some l → SS w F v l
theorem RowS.nil (w : World) (F : Nat → Prop) : RowS w F [] [] := ⟨rfl, fun i v l h => by simp at h⟩
theorem RowS.keep {w w' : World} {F G : Nat → Prop} {vs : List Value} {L : List (List UInt8)} (h : RowS w F vs L) (hk : Keep G w w') (hG : ∀ k, F k → ¬ G k) : RowS w' F vs L := ⟨h.1, fun i v l a b => (h.2 i v l a b).keep hk hG⟩
theorem RowS.mono {w : World} {F G : Nat → Prop} {vs : List Value} {L : List (List UInt8)} (h : RowS w F vs L) (hFG : ∀ k, F k → G k) : RowS w G vs L := ⟨h.1, fun i v l a b => (h.2 i v l a b).mono hFG⟩
theorem RowS.at {w : World} {F : Nat → Prop} {vs : List Value} {L : List (List UInt8)} (h : RowS w F vs L) {i : Nat} {l : List UInt8} (hl : L[i]? = some l) : ∃ v, vs[i]? = some v ∧ SS w F v l := by
  obtain ⟨v, hv⟩ : ∃ v, vs[i]? = some v := ⟨_, List.getElem?_eq_getElem (by rw [h.1]; exact (List.getElem?_eq_some_iff.1 hl).1)⟩
  exact ⟨v, hv, h.2 i v l hv hl⟩
theorem RowS.snoc {w : World} {F : Nat → Prop} {vs : List Value} {L : List (List UInt8)} (h : RowS w F vs L) {v : Value} {l : List UInt8} (hv : SS w F v l) : RowS w F (vs ++ [v]) (L ++ [l]) := by
  refine ⟨by simp [h.1], fun i u m hu hm => ?_⟩
  by_cases hi : i < vs.length
  · rw [List.getElem?_append_left hi] at hu
    rw [List.getElem?_append_left (by rw [← h.1]; exact hi)] at hm
    exact h.2 i u m hu hm
  · have hi' : i = vs.length := by
      have := (List.getElem?_eq_some_iff.1 hu).1
      simp at this; omega
    subst hi'
    rw [List.getElem?_append_right (Nat.le_refl _), Nat.sub_self] at hu
    rw [List.getElem?_append_right (by rw [h.1]; exact Nat.le_refl _), h.1, Nat.sub_self] at hm
    simp at hu hm
    subst hu; subst hm; exact hv
theorem RowS.set {w : World} {F : Nat → Prop} {vs : List Value} {L : List (List UInt8)} (h : RowS w F vs L) (i : Nat) {v : Value} {l : List UInt8} (hv : SS w F v l) : RowS w F (vs.set i v) (L.set i l) := by
  refine ⟨by simp [h.1], fun j u m hu hm => ?_⟩
  by_cases hij : i = j
  · subst hij
    rw [List.getElem?_set] at hu hm
    simp at hu hm
    obtain ⟨_, rfl⟩ := hu; obtain ⟨_, rfl⟩ := hm
    exact hv
  · rw [List.getElem?_set_ne hij] at hu hm
    exact h.2 j u m hu hm
theorem RowS.one {w : World} {F : Nat → Prop} {vs : List Value} {L : List (List UInt8)} (h : RowS w F vs L) : ∀ v ∈ vs, v.oneCell' = true := by
  intro v hv
  obtain ⟨i, hi, rfl⟩ := List.getElem_of_mem hv
  obtain ⟨l, hl⟩ : ∃ l, L[i]? = some l := ⟨_, List.getElem?_eq_getElem (by rw [← h.1]; exact hi)⟩
  exact (h.2 i _ l (List.getElem?_eq_getElem hi) hl).one
/-- writes, as the document's device keeps them: a number and bytes -/
def RowW (w : World) (F : Nat → Prop) (vs : List Value) (l : List (Nat × List UInt8)) : Prop := vs.length = 2 * l.length ∧ ∀ (i : Nat) (x : Nat × List UInt8), l[i]? = some x → vs[2 * i]? = some (.int .i64 (x.1 : Int)) ∧ ∃ v, vs[2 * i + 1]? = some v ∧ SS w F v x.2
theorem RowW.nil (w : World) (F : Nat → Prop) : RowW w F [] [] := ⟨rfl, fun i x h => by simp at h⟩
theorem RowW.keep {w w' : World} {F G : Nat → Prop} {vs : List Value} {l : List (Nat × List UInt8)} (h : RowW w F vs l) (hk : Keep G w w') (hG : ∀ k, F k → ¬ G k) : RowW w' F vs l :=
  ⟨h.1, fun i x hx => ⟨(h.2 i x hx).1, by obtain ⟨v, h1, h2⟩ := (h.2 i x hx).2; exact ⟨v, h1, h2.keep hk hG⟩⟩⟩
theorem RowW.mono {w : World} {F G : Nat → Prop} {vs : List Value} {l : List (Nat × List UInt8)} (h : RowW w F vs l) (hFG : ∀ k, F k → G k) : RowW w G vs l :=
  ⟨h.1, fun i x hx => ⟨(h.2 i x hx).1, by obtain ⟨v, h1, h2⟩ := (h.2 i x hx).2; exact ⟨v, h1, h2.mono hFG⟩⟩⟩
theorem RowW.snoc {w : World} {F : Nat → Prop} {vs : List Value} {l : List (Nat × List UInt8)} (h : RowW w F vs l) (i : Nat) {v : Value} {b : List UInt8} (hv : SS w F v b) : RowW w F (vs ++ [.int .i64 (i : Int), v]) (l ++ [(i, b)]) := by
  refine ⟨by simp [h.1]; omega, fun j x hx => ?_⟩
  by_cases hj : j < l.length
  · rw [List.getElem?_append_left hj] at hx
    obtain ⟨h1, u, h2, h3⟩ := h.2 j x hx
    have := h.1
    exact ⟨by rw [List.getElem?_append_left (by omega)]; exact h1, u, by rw [List.getElem?_append_left (by omega)]; exact h2, h3⟩
  · have hj' : j = l.length := by
      have := (List.getElem?_eq_some_iff.1 hx).1
      simp at this; omega
    subst hj'
    rw [List.getElem?_append_right (Nat.le_refl _), Nat.sub_self] at hx
    simp at hx; subst hx
    have := h.1
    refine ⟨by rw [List.getElem?_append_right (by omega), this, Nat.sub_self]; rfl, v, ?_, hv⟩
    rw [List.getElem?_append_right (by omega), this, show 2 * l.length + 1 - 2 * l.length = 1 by omega]; rfl
theorem alc {w : World} {p : Addr} {v : Value} (h : w.cell? p = some v) (o : Obj) : (w.alloc o).cell? p = some v := by rw [World.cell?_alloc_lt w o p (World.block_lt_of_cell? w _ h)]; exact h
theorem own_cell {w : World} {base : Nat} {e : TypeId} {s : Nat} {ao : Option Addr} {n cap : Nat} {xs : List Value} (h : w.ownsRow base e s (.slice ao n cap) n xs) (hn : 0 < n) : ∃ g, ao = some ⟨g, 0, none⟩ ∧ n ≤ cap ∧ base ≤ g ∧ g < w.heap.size ∧ (∀ j v, xs[j]? = some v → w.cell? ⟨g, j, none⟩ = some v) ∧ ∀ j, w.frozen? ⟨g, j, none⟩ = false := by
  rcases h.2 with ⟨h1, h0⟩ | ⟨g, c, cur, hv, hg, hh, hc, hm, hs, ht⟩
  · omega
  · injection hv with e1 e2 e3
    subst e1; subst e3
    refine ⟨g, rfl, hc, hg, lt_blk hh, fun j v hj => ?_, fun j => free_blk hh j⟩
    rw [cell_of_row w g j cur _ _ hh]
    rw [← ht, List.getElem?_take] at hj
    split at hj
    · simpa using hj
    · cases hj
theorem own_set {w : World} {base : Nat} {e : TypeId} {s g n cap : Nat} {xs : List Value} (h : w.ownsRow base e s (.slice (some ⟨g, 0, none⟩) n cap) n xs) (j : Nat) (v : Value) : (w.setCell ⟨g, j, none⟩ v).ownsRow base e s (.slice (some ⟨g, 0, none⟩) n cap) n (xs.set j v) := by
  refine ⟨by simpa using h.1, ?_⟩
  rcases h.2 with ⟨h1, _⟩ | ⟨g', c, cur, hv, hg, hh, hc, hm, hs, ht⟩
  · cases h1
  · injection hv with e1 e2 e3
    injection e1 with e1; injection e1 with e1
    subst e1; subst e3
    refine .inr ⟨g, cap, cur.setIfInBounds j v, rfl, hg, set_blk hh j v, hc, hm, by simpa using hs, ?_⟩
    rw [Array.toList_setIfInBounds, List.take_set, ht]
end Go.Proofs.Ytlondopgibcikaa
