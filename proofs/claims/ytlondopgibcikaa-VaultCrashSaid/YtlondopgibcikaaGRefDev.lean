/- Rows of slices: lists of bytes in memory. The document's device: how it lies in memory; the walks of what it tells. The walks of what turns the document's device. What lies side by side in memory: assets of a law's own, since a world of so many blocks. Calls of devices among assets. What is asked of a device; how acts lie in memory; the walks of Long and acted. The walk of DeviceKnown. -/
import Derived.Test.YtlondopgibcikaaRows
import Derived.Test.YtlondopgibcikaaGBase
import Derived.Test.YtlondopgibcikaaGDevice
import Derived.WalkKit
import Derived.Great.Walk
import Derived.WalkSpells
import Derived.WalkLawsBesides
import Derived.Deep.RegionHeld3
namespace Go.Proofs.Ytlondopgibcikaa
open Go.RowKit Ent

/-- an element type e of slices t -/
structure RowT (t e : TypeId) (z : Value) (s by_ : Nat) : Prop where
  un : Try.prog.underlying t = some (.slice e)
  inf : ∃ i, Try.prog.info? e = some i ∧ i.zero = some z ∧ i.size = s ∧ i.bytes = by_
  zs : z.cells.size = s
  s0 : 0 < s
  s1 : s ≤ 64
  b1 : by_ ≤ 4096
theorem rowL : RowT 79 22 (.slice none 0 0) 1 24 := ⟨Try.underlying79, info_parts (P := Try.prog) (by kernel_rfl), rfl, by decide, by decide, by decide⟩
theorem rowW : RowT 139 143 (.agg #[.int .i64 0, .slice none 0 0]) 2 32 := ⟨Try.underlying139, info_parts (P := Try.prog) (by kernel_rfl), rfl, by decide, by decide, by decide⟩
theorem wpo_layR {t e : TypeId} {z : Value} {s by_ : Nat} (R : RowT t e z s by_) {o : Oper} {a : Act} {w : World} {K : Act → World → Prop} {Q : Exit → Act → World → Prop} (x : Operand) (ho : o.op = .buildSlice t 1 #[(0, x)]) (v : Value) (hx : a.eval x = v) (hv : v.cells.size = s)
    (h : ∀ w', Below w.heap.size w w' → Blk w' w.heap.size e v.cells.toList → K (a.put o.dst (.slice (some ⟨w.heap.size, 0, none⟩) 1 1)) w') : o.wp Try.prog a w K Q := by
  obtain ⟨i, hi, hz, hsz, _⟩ := R.inf
  have h0 := R.s0; have h1 := R.s1
  refine wp_buildSlice t e 1 _ ho v.cells i z R.un hi hz (by rw [hsz]; omega) (by rw [hsz]; omega) ?_ (h _ (fresh_alloc w _) (by unfold Blk; rw [alloc_new]))
  rw [hsz]
  have e := Go.Great.fill_whole (s := s) h0 [v] ((Array.range (1 * s)).map (z.cells[· % z.cells.size]!)) (by intro u hu; simp at hu; subst hu; exact hv) (by simp)
  simpa [hx] using e
theorem wpo_appendR {t e : TypeId} {z : Value} {s by_ : Nat} (R : RowT t e z s by_) {o : Oper} {a : Act} {w : World} {K : Act → World → Prop} {Q : Exit → Act → World → Prop} (y x : Operand)
    (ho : o.op = .call { callee := .builtin .append, args := #[y, x], argTypes := #[t, t] })
    (base : Nat) (v : Value) (n : Nat) (xs : List Value) (hs : a.eval y = v) (hown : w.ownsRow base e s v n xs) (g : Nat) (hx : a.eval x = .slice (some ⟨g, 0, none⟩) 1 1) (cs : List Value) (hb : Blk w g e cs) (hcs : cs.length = s) (h1 : ∀ v ∈ cs, v.oneCell' = true)
    (hn : n ≤ 1073741824) (hbase : base ≤ w.heap.size)
    (h : ∀ v' w', w'.ownsRow base e s v' (n + 1) (xs ++ cs) → w.grownBy w' v.ownBlock → (v'.ownBlock = v.ownBlock ∨ v'.ownBlock = some w.heap.size) → K (a.put o.dst v') w') : o.wp Try.prog a w K Q := by
  obtain ⟨i, hi, hz, hsz, hby⟩ := R.inf
  have hb1 := R.b1
  have hm : (n + 1) * by_ ≤ (1073741824 + 1) * 4096 := Nat.mul_le_mul (by omega) hb1
  obtain ⟨v', w', hr, h2, h3, _, h5⟩ := run_append_own_at (P := Try.prog) w base t o.type e i z s by_ R.un hi hz hsz hby R.zs R.s0 v n xs hown ⟨g, 0, none⟩ 1 1 cs (by rw [hcs]; omega) (fun j u hu => by rw [Addr.add_mid, Nat.zero_add]; exact hb.cell hu) h1 (by simp [maxLen]; omega) (by omega) hbase
  unfold Oper.wp execOp
  simp only [ho, resolve, invoke, builtin, Sem.run_bind, Sem.run_pure, Result.andThen_ok, List.map_toArray, List.map_cons, List.map_nil, hs, hx, hr]
  exact h v' w' h2 h3 h5
theorem wpl_appendR {t e : TypeId} {z : Value} {s by_ : Nat} (R : RowT t e z s by_) {ops : Array Oper} {rest : List Oper} {o : Oper} {a : Act} {w : World} {Q : Exit → Act → World → Prop} (hgd : o.guard = none) (y x : Operand)
    (ho : o.op = .call { callee := .builtin .append, args := #[y, x], argTypes := #[t, t] })
    (base : Nat) (v : Value) (n : Nat) (xs : List Value) (hs : a.eval y = v) (hown : w.ownsRow base e s v n xs) (g : Nat) (hx : a.eval x = .slice (some ⟨g, 0, none⟩) 1 1) (cs : List Value) (hb : Blk w g e cs) (hcs : cs.length = s) (h1 : ∀ v ∈ cs, v.oneCell' = true)
    (hn : n ≤ 1073741824) (hbase : base ≤ w.heap.size)
    (h : ∀ v' w', w'.ownsRow base e s v' (n + 1) (xs ++ cs) → w.grownBy w' v.ownBlock → (v'.ownBlock = v.ownBlock ∨ v'.ownBlock = some w.heap.size) → wpList Try.prog ops Q rest (a.put o.dst v') w') : wpList Try.prog ops Q (o :: rest) a w :=
  wpList_plain hgd fun _ hK => wpo_appendR R y x ho base v n xs hs hown g hx cs hb hcs h1 hn hbase fun v' w' h1 h2 h3 => hK _ _ (h v' w' h1 h2 h3)

/-! ### A slice of bytes whose block lies in F -/
def SS (w : World) (F : Nat → Prop) (v : Value) (l : List UInt8) : Prop := ∃ ao cap, v = .slice ao l.length cap ∧ l.length ≤ cap ∧ SB w ao cap l ∧ ∀ x, ao = some x → F x.block
theorem SS.keep {w w' : World} {F G : Nat → Prop} {v : Value} {l : List UInt8} (h : SS w F v l) (hk : Keep G w w') (hG : ∀ k, F k → ¬ G k) : SS w' F v l := by
  obtain ⟨ao, cap, hv, hc, hs, hf⟩ := h
  exact ⟨ao, cap, hv, hc, hs.keep hk (fun x hx => hG _ (hf x hx)), hf⟩
theorem SS.mono {w : World} {F G : Nat → Prop} {v : Value} {l : List UInt8} (h : SS w F v l) (hFG : ∀ k, F k → G k) : SS w G v l := by
  obtain ⟨ao, cap, hv, hc, hs, hf⟩ := h
  exact ⟨ao, cap, hv, hc, hs, fun x hx => hFG _ (hf x hx)⟩
theorem SS.one {w : World} {F : Nat → Prop} {v : Value} {l : List UInt8} (h : SS w F v l) : v.oneCell' = true := by
  obtain ⟨ao, cap, rfl, _⟩ := h; rfl
theorem SS.cells {w : World} {F : Nat → Prop} {v : Value} {l : List UInt8} (h : SS w F v l) : v.cells = #[v] := by
  obtain ⟨ao, cap, rfl, _⟩ := h; rfl
theorem SS.fresh {w : World} {B : Nat} {v : Value} {l : List UInt8} (h : Fresh B w v l) : SS w (fun k => B ≤ k ∧ k < w.heap.size) v l := by
  obtain ⟨ao, cap, hv, hc, hs, _, hf⟩ := h
  exact ⟨ao, cap, hv, hc, hs, hf⟩
def RowS (w : World) (F : Nat → Prop) (vs : List Value) (L : List (List UInt8)) : Prop := vs.length = L.length ∧ ∀ (i : Nat) (v : Value) (l : List UInt8), vs[i]? = some v → L[i]? = some l → SS w F v l
theorem RowS.nil (w : World) (F : Nat → Prop) : RowS w F [] [] := ⟨rfl, fun i v l h => by simp at h⟩
theorem RowS.keep {w w' : World} {F G : Nat → Prop} {vs : List Value} {L : List (List UInt8)} (h : RowS w F vs L) (hk : Keep G w w') (hG : ∀ k, F k → ¬ G k) : RowS w' F vs L := ⟨h.1, fun i v l a b => (h.2 i v l a b).keep hk hG⟩
theorem RowS.mono {w : World} {F G : Nat → Prop} {vs : List Value} {L : List (List UInt8)} (h : RowS w F vs L) (hFG : ∀ k, F k → G k) : RowS w G vs L := ⟨h.1, fun i v l a b => (h.2 i v l a b).mono hFG⟩
theorem RowS.at {w : World} {F : Nat → Prop} {vs : List Value} {L : List (List UInt8)} (h : RowS w F vs L) {i : Nat} {l : List UInt8} (hl : L[i]? = some l) : ∃ v, vs[i]? = some v ∧ SS w F v l := by
  obtain ⟨v, hv⟩ : ∃ v, vs[i]? = some v := ⟨_, List.getElem?_eq_getElem (by rw [h.1]; exact (List.getElem?_eq_some_iff.1 hl).1)⟩
  exact ⟨v, hv, h.2 i v l hv hl⟩
theorem RowS.snoc {w : World} {F : Nat → Prop} {vs : List Value} {L : List (List UInt8)} (h : RowS w F vs L) {v : Value} {l : List UInt8} (hv : SS w F v l) : RowS w F (vs ++ [v]) (L ++ [l]) := by
  refine ⟨by simp [h.1], fun i u m hu hm => ?_⟩
  by_cases hi : i < vs.length
  · rw [List.getElem?_append_left hi] at hu
    rw [List.getElem?_append_left (by rw [← h.1]; exact hi)] at hm
    exact h.2 i u m hu hm
  · have hi' : i = vs.length := by
      have := (List.getElem?_eq_some_iff.1 hu).1
      simp at this; omega
    subst hi'
    rw [List.getElem?_append_right (Nat.le_refl _), Nat.sub_self] at hu
    rw [List.getElem?_append_right (by rw [h.1]; exact Nat.le_refl _), h.1, Nat.sub_self] at hm
    simp at hu hm
    subst hu; subst hm; exact hv
theorem RowS.set {w : World} {F : Nat → Prop} {vs : List Value} {L : List (List UInt8)} (h : RowS w F vs L) (i : Nat) {v : Value} {l : List UInt8} (hv : SS w F v l) : RowS w F (vs.set i v) (L.set i l) := by
  refine ⟨by simp [h.1], fun j u m hu hm => ?_⟩
  by_cases hij : i = j
  · subst hij
    rw [List.getElem?_set] at hu hm
    simp at hu hm
    obtain ⟨_, rfl⟩ := hu; obtain ⟨_, rfl⟩ := hm
    exact hv
  · rw [List.getElem?_set_ne hij] at hu hm
    exact h.2 j u m hu hm
theorem RowS.one {w : World} {F : Nat → Prop} {vs : List Value} {L : List (List UInt8)} (h : RowS w F vs L) : ∀ v ∈ vs, v.oneCell' = true := by
  intro v hv
  obtain ⟨i, hi, rfl⟩ := List.getElem_of_mem hv
  obtain ⟨l, hl⟩ : ∃ l, L[i]? = some l := ⟨_, List.getElem?_eq_getElem (by rw [← h.1]; exact hi)⟩
  exact (h.2 i _ l (List.getElem?_eq_getElem hi) hl).one
/-- writes, as the document's device keeps them: a number and bytes -/
def RowW (w : World) (F : Nat → Prop) (vs : List Value) (l : List (Nat × List UInt8)) : Prop := vs.length = 2 * l.length ∧ ∀ (i : Nat) (x : Nat × List UInt8), l[i]? = some x → vs[2 * i]? = some (.int .i64 (x.1 : Int)) ∧ ∃ v, vs[2 * i + 1]? = some v ∧ SS w F v x.2
theorem RowW.nil (w : World) (F : Nat → Prop) : RowW w F [] [] := ⟨rfl, fun i x h => by simp at h⟩
theorem RowW.keep {w w' : World} {F G : Nat → Prop} {vs : List Value} {l : List (Nat × List UInt8)} (h : RowW w F vs l) (hk : Keep G w w') (hG : ∀ k, F k → ¬ G k) : RowW w' F vs l :=
  ⟨h.1, fun i x hx => ⟨(h.2 i x hx).1, by obtain ⟨v, h1, h2⟩ := (h.2 i x hx).2; exact ⟨v, h1, h2.keep hk hG⟩⟩⟩
theorem RowW.mono {w : World} {F G : Nat → Prop} {vs : List Value} {l : List (Nat × List UInt8)} (h : RowW w F vs l) (hFG : ∀ k, F k → G k) : RowW w G vs l :=
  ⟨h.1, fun i x hx => ⟨(h.2 i x hx).1, by obtain ⟨v, h1, h2⟩ := (h.2 i x hx).2; exact ⟨v, h1, h2.mono hFG⟩⟩⟩
theorem RowW.snoc {w : World} {F : Nat → Prop} {vs : List Value} {l : List (Nat × List UInt8)} (h : RowW w F vs l) (i : Nat) {v : Value} {b : List UInt8} (hv : SS w F v b) : RowW w F (vs ++ [.int .i64 (i : Int), v]) (l ++ [(i, b)]) := by
  refine ⟨by simp [h.1]; omega, fun j x hx => ?_⟩
  by_cases hj : j < l.length
  · rw [List.getElem?_append_left hj] at hx
    obtain ⟨h1, u, h2, h3⟩ := h.2 j x hx
    have := h.1
    exact ⟨by rw [List.getElem?_append_left (by omega)]; exact h1, u, by rw [List.getElem?_append_left (by omega)]; exact h2, h3⟩
  · have hj' : j = l.length := by
      have := (List.getElem?_eq_some_iff.1 hx).1
      simp at this; omega
    subst hj'
    rw [List.getElem?_append_right (Nat.le_refl _), Nat.sub_self] at hx
    simp at hx; subst hx
    have := h.1
    refine ⟨by rw [List.getElem?_append_right (by omega), this, Nat.sub_self]; rfl, v, ?_, hv⟩
    rw [List.getElem?_append_right (by omega), this, show 2 * l.length + 1 - 2 * l.length = 1 by omega]; rfl
theorem alc {w : World} {p : Addr} {v : Value} (h : w.cell? p = some v) (o : Obj) : (w.alloc o).cell? p = some v := by rw [World.cell?_alloc_lt w o p (World.block_lt_of_cell? w _ h)]; exact h
theorem own_cell {w : World} {base : Nat} {e : TypeId} {s : Nat} {ao : Option Addr} {n cap : Nat} {xs : List Value} (h : w.ownsRow base e s (.slice ao n cap) n xs) (hn : 0 < n) : ∃ g, ao = some ⟨g, 0, none⟩ ∧ n ≤ cap ∧ base ≤ g ∧ g < w.heap.size ∧ (∀ j v, xs[j]? = some v → w.cell? ⟨g, j, none⟩ = some v) ∧ ∀ j, w.frozen? ⟨g, j, none⟩ = false := by
  rcases h.2 with ⟨h1, h0⟩ | ⟨g, c, cur, hv, hg, hh, hc, hm, hs, ht⟩
  · omega
  · injection hv with e1 e2 e3
    subst e1; subst e3
    refine ⟨g, rfl, hc, hg, lt_blk hh, fun j v hj => ?_, fun j => free_blk hh j⟩
    rw [cell_of_row w g j cur _ _ hh]
    rw [← ht, List.getElem?_take] at hj
    split at hj
    · simpa using hj
    · cases hj
theorem own_set {w : World} {base : Nat} {e : TypeId} {s g n cap : Nat} {xs : List Value} (h : w.ownsRow base e s (.slice (some ⟨g, 0, none⟩) n cap) n xs) (j : Nat) (v : Value) : (w.setCell ⟨g, j, none⟩ v).ownsRow base e s (.slice (some ⟨g, 0, none⟩) n cap) n (xs.set j v) := by
  refine ⟨by simpa using h.1, ?_⟩
  rcases h.2 with ⟨h1, _⟩ | ⟨g', c, cur, hv, hg, hh, hc, hm, hs, ht⟩
  · cases h1
  · injection hv with e1 e2 e3
    injection e1 with e1; injection e1 with e1
    subst e1; subst e3
    refine .inr ⟨g, cap, cur.setIfInBounds j v, rfl, hg, set_blk hh j v, hc, hm, by simpa using hs, ?_⟩
    rw [Array.toList_setIfInBounds, List.take_set, ht]
end Go.Proofs.Ytlondopgibcikaa
namespace Go.Proofs.Ytlondopgibcikaa
open Go.RowKit Ent

def head5 (vL vW : Value) (fused : Bool) (fuse : Int) (out : Bool) : List Value := [vL, vW, .bool fused, .int .i64 fuse, .bool out]
/-- the document's device lies at a: all its own in F, the bytes in Fb -/
structure RR (w : World) (a : Nat) (vL vW : Value) (vsL vsW : List Value) (fused : Bool) (fuse : Int) (F Fb : Nat → Prop) (L : List (List UInt8)) (l : List (Nat × List UInt8)) (out : Bool) : Prop where
  hd : Blk w a 141 (head5 vL vW fused fuse out)
  oL : w.ownsRow 0 22 1 vL L.length vsL
  rL : RowS w Fb vsL L
  oW : w.ownsRow 0 143 2 vW l.length vsW
  rW : RowW w Fb vsW l
  fr : -9223372036854775808 ≤ fuse ∧ fuse ≤ 9223372036854775807
  fa : F a
  na : ¬ Fb a
  fL : ∀ k, vL.ownBlock = some k → F k ∧ ¬ Fb k ∧ k ≠ a
  fW : ∀ k, vW.ownBlock = some k → F k ∧ ¬ Fb k ∧ k ≠ a
  LW : ∀ k, vL.ownBlock = some k → vW.ownBlock = some k → False
  fb : ∀ k, Fb k → F k
  lt : ∀ k, Fb k → k < w.heap.size
theorem RR.keep {w w' : World} {a : Nat} {vL vW : Value} {vsL vsW : List Value} {fused : Bool} {fuse : Int} {F Fb G : Nat → Prop} {L : List (List UInt8)} {l : List (Nat × List UInt8)} {out : Bool}
    (h : RR w a vL vW vsL vsW fused fuse F Fb L l out) (hk : Keep G w w') (hG : ∀ k, F k → ¬ G k) : RR w' a vL vW vsL vsW fused fuse F Fb L l out :=
  { h with hd := h.hd.keep hk (hG _ h.fa), oL := owns_keep h.oL hk fun k hk' => hG k (h.fL k hk').1, rL := h.rL.keep hk fun k hk' => hG k (h.fb k hk'), oW := owns_keep h.oW hk fun k hk' => hG k (h.fW k hk').1, rW := h.rW.keep hk fun k hk' => hG k (h.fb k hk'), lt := fun k hk' => Nat.lt_of_lt_of_le (h.lt k hk') hk.size }
theorem RR.below {w w' : World} {a : Nat} {vL vW : Value} {vsL vsW : List Value} {fused : Bool} {fuse : Int} {F Fb : Nat → Prop} {L : List (List UInt8)} {l : List (Nat × List UInt8)} {out : Bool}
    (h : RR w a vL vW vsL vsW fused fuse F Fb L l out) (hb : Below w.heap.size w w') : RR w' a vL vW vsL vsW fused fuse F Fb L l out :=
  h.keep (Keep.ofBelow (F := fun _ => False) hb) (fun _ _ => id)
theorem RR.drew {w : World} {a : Nat} {vL vW : Value} {vsL vsW : List Value} {fused : Bool} {fuse : Int} {F Fb : Nat → Prop} {L : List (List UInt8)} {l : List (Nat × List UInt8)} {out : Bool}
    (h : RR w a vL vW vsL vsW fused fuse F Fb L l out) : RR w.drew a vL vW vsL vsW fused fuse F Fb L l out := h.keep (Keep.refl (fun _ => False) w).drew (fun _ _ => id)
theorem RR.mono {w : World} {a : Nat} {vL vW : Value} {vsL vsW : List Value} {fused : Bool} {fuse : Int} {F Fb G : Nat → Prop} {L : List (List UInt8)} {l : List (Nat × List UInt8)} {out : Bool}
    (h : RR w a vL vW vsL vsW fused fuse F Fb L l out) (hFG : ∀ k, F k → G k) : RR w a vL vW vsL vsW fused fuse G Fb L l out :=
  { h with fa := hFG _ h.fa, fL := fun k hk => ⟨hFG k (h.fL k hk).1, (h.fL k hk).2⟩, fW := fun k hk => ⟨hFG k (h.fW k hk).1, (h.fW k hk).2⟩, fb := fun k hk => hFG k (h.fb k hk) }
/-- blocks that are new may be bytes of its own -/
theorem RR.more {w w' : World} {a : Nat} {vL vW : Value} {vsL vsW : List Value} {fused : Bool} {fuse : Int} {F Fb : Nat → Prop} {L : List (List UInt8)} {l : List (Nat × List UInt8)} {out : Bool}
    (h : RR w a vL vW vsL vsW fused fuse F Fb L l out) (hb : Below w.heap.size w w') : RR w' a vL vW vsL vsW fused fuse (grow F w w') (grow Fb w w') L l out := by
  have h' := h.below hb
  have hL : ∀ k, vL.ownBlock = some k → k < w.heap.size := own_lt h.oL
  have hW : ∀ k, vW.ownBlock = some k → k < w.heap.size := own_lt h.oW
  exact { hd := h'.hd, oL := h'.oL, rL := h'.rL.mono fun _ => .inl, oW := h'.oW, rW := h'.rW.mono fun _ => .inl, fr := h.fr, fa := .inl h.fa, na := fun hh => by
            rcases hh with hh | hh
            · exact h.na hh
            · have := h.hd.lt; omega
          fL := fun k hk => ⟨.inl (h.fL k hk).1, fun hh => by
            rcases hh with hh | hh
            · exact (h.fL k hk).2.1 hh
            · have := hL k hk; omega, (h.fL k hk).2.2⟩
          fW := fun k hk => ⟨.inl (h.fW k hk).1, fun hh => by
            rcases hh with hh | hh
            · exact (h.fW k hk).2.1 hh
            · have := hW k hk; omega, (h.fW k hk).2.2⟩
          LW := h.LW, fb := fun k hk => hk.imp (h.fb k) id, lt := fun k hk => by
            rcases hk with hk | hk
            · exact Nat.lt_of_lt_of_le (h.lt k hk) hb.size
            · exact hk.2 }
/-- its head is written -/
theorem RR.headed {w w' : World} {a : Nat} {vL vW : Value} {vsL vsW : List Value} {fused fused' : Bool} {fuse fuse' : Int} {F Fb : Nat → Prop} {L : List (List UInt8)} {l : List (Nat × List UInt8)} {out out' : Bool}
    (h : RR w a vL vW vsL vsW fused fuse F Fb L l out) (hk : Keep (fun k => k = a) w w') (hd : Blk w' a 141 (head5 vL vW fused' fuse' out')) (hr : -9223372036854775808 ≤ fuse' ∧ fuse' ≤ 9223372036854775807) : RR w' a vL vW vsL vsW fused' fuse' F Fb L l out' :=
  { hd := hd, oL := owns_keep h.oL hk fun k hk' => (h.fL k hk').2.2, rL := h.rL.keep hk fun k hk' e => h.na (by rw [← e]; exact hk'), oW := owns_keep h.oW hk fun k hk' => (h.fW k hk').2.2, rW := h.rW.keep hk fun k hk' e => h.na (by rw [← e]; exact hk'), fr := hr, fa := h.fa, na := h.na, fL := h.fL, fW := h.fW, LW := h.LW, fb := h.fb, lt := fun k hk' => Nat.lt_of_lt_of_le (h.lt k hk') hk.size }
def FuseR (f : Option Nat) (fused : Bool) (fuse : Int) : Prop := (f = none ∧ fused = false) ∨ ∃ k, f = some k ∧ fused = true ∧ fuse = (k : Int)
def RD (w : World) (a : Nat) (F : Nat → Prop) (d : Dev) : Prop := d.ok ∧ ∃ vL vW vsL vsW fused fuse Fb, RR w a vL vW vsL vsW fused fuse F Fb d.img d.loose d.out ∧ FuseR d.fuse fused fuse
theorem RD.keep {w w' : World} {a : Nat} {F G : Nat → Prop} {d : Dev} (h : RD w a F d) (hk : Keep G w w') (hG : ∀ k, F k → ¬ G k) : RD w' a F d := by
  obtain ⟨ho, vL, vW, vsL, vsW, fused, fuse, Fb, h, hf⟩ := h; exact ⟨ho, vL, vW, vsL, vsW, fused, fuse, Fb, h.keep hk hG, hf⟩
theorem RD.below {w w' : World} {a : Nat} {F : Nat → Prop} {d : Dev} (h : RD w a F d) (hb : Below w.heap.size w w') : RD w' a F d := h.keep (Keep.ofBelow (F := fun _ => False) hb) (fun _ _ => id)
theorem RD.mono {w : World} {a : Nat} {F G : Nat → Prop} {d : Dev} (h : RD w a F d) (hFG : ∀ k, F k → G k) : RD w a G d := by
  obtain ⟨ho, vL, vW, vsL, vsW, fused, fuse, Fb, h, hf⟩ := h; exact ⟨ho, vL, vW, vsL, vsW, fused, fuse, Fb, h.mono hFG, hf⟩
theorem RR.row {w : World} {a : Nat} {vL vW : Value} {vsL vsW : List Value} {fused : Bool} {fuse : Int} {F Fb : Nat → Prop} {L : List (List UInt8)} {l : List (Nat × List UInt8)} {out : Bool}
    (h : RR w a vL vW vsL vsW fused fuse F Fb L l out) : (∃ ao c, vL = .slice ao L.length c) ∧ ∃ ao c, vW = .slice ao l.length c := ⟨own_slice h.oL, own_slice h.oW⟩
/-- a sector, as a slice -/
theorem RR.sec {w : World} {a : Nat} {ao : Option Addr} {c n : Nat} {vW : Value} {vsL vsW : List Value} {fused : Bool} {fuse : Int} {F Fb : Nat → Prop} {L : List (List UInt8)} {l : List (Nat × List UInt8)} {out : Bool}
    (h : RR w a (.slice ao n c) vW vsL vsW fused fuse F Fb L l out) (hn : n = L.length) {i : Nat} {s : List UInt8} (hs : L[i]? = some s) :
    ∃ g, ao = some ⟨g, 0, none⟩ ∧ i < n ∧ ∃ so cap, w.cell? ⟨g, i, none⟩ = some (.slice so s.length cap) ∧ SB w so cap s ∧ s.length ≤ cap := by
  subst hn
  have hi := (List.getElem?_eq_some_iff.1 hs).1
  obtain ⟨g, rfl, _, _, _, hc, _⟩ := own_cell h.oL (by omega)
  obtain ⟨v, hv, so, cap, rfl, hcap, hsb, _⟩ := h.rL.at hs
  exact ⟨g, rfl, hi, so, cap, hc i _ hv, hsb, hcap⟩
theorem RR.wr {w : World} {a : Nat} {ao : Option Addr} {c n : Nat} {vL : Value} {vsL vsW : List Value} {fused : Bool} {fuse : Int} {F Fb : Nat → Prop} {L : List (List UInt8)} {l : List (Nat × List UInt8)} {out : Bool}
    (h : RR w a vL (.slice ao n c) vsL vsW fused fuse F Fb L l out) (hn : n = l.length) {i : Nat} {x : Nat × List UInt8} (hs : l[i]? = some x) :
    ∃ g, ao = some ⟨g, 0, none⟩ ∧ i < n ∧ w.cell? ⟨g, i * 2, none⟩ = some (.int .i64 (x.1 : Int)) ∧ ∃ v, w.cell? ⟨g, i * 2 + 1, none⟩ = some v ∧ SS w Fb v x.2 := by
  subst hn
  have hi := (List.getElem?_eq_some_iff.1 hs).1
  obtain ⟨g, rfl, _, _, _, hc, _⟩ := own_cell h.oW (by omega)
  obtain ⟨h1, v, h2, h3⟩ := h.rW.2 i x hs
  exact ⟨g, rfl, hi, hc _ _ (by rw [Nat.mul_comm]; exact h1), v, hc _ _ (by rw [Nat.mul_comm i 2]; exact h2), h3⟩

theorem wrap_range (x : Int) : -9223372036854775808 ≤ wrap64 x ∧ wrap64 x ≤ 9223372036854775807 := by
  unfold wrap64; omega
theorem owns_emptyB {B : Nat} {w : World} (h : B ≤ w.heap.size) : (w.alloc (.cells #[] 5)).ownsRow B 5 1 (.slice (some ⟨w.heap.size, 0, none⟩) 0 0) 0 (bv []) := by
  obtain ⟨h1, h2⟩ := owns_empty w
  refine ⟨h1, ?_⟩
  rcases h2 with ⟨h2, _⟩ | ⟨g, cap, cur, hv, hg, r⟩
  · cases h2
  · exact .inr ⟨g, cap, cur, hv, Nat.le_trans h hg, r⟩
set_option maxRecDepth 100000 in
set_option maxHeartbeats 400000 in
theorem sizeR_any {a : Nat} {F : Nat → Prop} {d : Dev} (w : World) (h : RD w a F d) :
    Calls Try.prog 56 #[ptr a] w fun e w' => e = .returned (.int .i64 d.img.length) ∧ w' = w := by
  obtain ⟨ho, vL, vW, vsL, vsW, fused, fuse, Fb, h, hf⟩ := h
  obtain ⟨⟨aL, cL, rfl⟩, aW, cW, rfl⟩ := h.row
  have c0 := h.hd.cell (j := 0) rfl
  clear h hf ho
  unfold ptr
  go_enter Try.func56, Try.ntmps56
  go_wp2
  go_ret
  exact ⟨rfl, rfl⟩
set_option maxRecDepth 100000 in
set_option maxHeartbeats 400000 in
theorem outR_any {a : Nat} {F : Nat → Prop} {d : Dev} (w : World) (h : RD w a F d) :
    Calls Try.prog 57 #[ptr a] w fun e w' => e = .returned (.bool d.out) ∧ w' = w := by
  obtain ⟨ho, vL, vW, vsL, vsW, fused, fuse, Fb, h, hf⟩ := h
  have c4 := h.hd.cell (j := 4) rfl
  clear h hf ho
  unfold ptr
  go_enter Try.func57, Try.ntmps57
  go_wp2
  go_ret
  exact ⟨rfl, rfl⟩
set_option maxRecDepth 100000 in
set_option maxHeartbeats 400000 in
theorem looseR_any {a : Nat} {F : Nat → Prop} {d : Dev} (w : World) (h : RD w a F d) :
    Calls Try.prog 58 #[ptr a] w fun e w' => e = .returned (.int .i64 d.loose.length) ∧ w' = w := by
  obtain ⟨ho, vL, vW, vsL, vsW, fused, fuse, Fb, h, hf⟩ := h
  obtain ⟨⟨aL, cL, rfl⟩, aW, cW, rfl⟩ := h.row
  have c1 := h.hd.cell (j := 1) rfl
  clear h hf ho
  unfold ptr
  go_enter Try.func58, Try.ntmps58
  go_wp2
  go_ret
  exact ⟨rfl, rfl⟩
theorem has_cases (n : Nat) (i : Int) : (i < 0 ∧ has n i = false) ∨ ((n : Int) ≤ i ∧ 0 ≤ i ∧ has n i = false) ∨ ∃ k : Nat, i = (k : Int) ∧ k < n ∧ has n i = true := by
  by_cases h : i < 0
  · exact .inl ⟨h, by simp [has]; omega⟩
  · by_cases h2 : (n : Int) ≤ i
    · exact .inr (.inl ⟨h2, by omega, by simp [has]; omega⟩)
    · exact .inr (.inr ⟨i.toNat, by omega, by omega, by simp [has]; omega⟩)
set_option maxRecDepth 100000 in
set_option maxHeartbeats 400000 in
theorem imageR_any {a : Nat} {F : Nat → Prop} {d : Dev} (i : Int) (w : World) (h : RD w a F d) :
    Calls Try.prog 60 #[ptr a, .int .i64 i] w fun e w' => ∃ v, e = .returned (.tuple #[v, .int .i64 (d.image i).2]) ∧ Fresh w.heap.size w' v (d.image i).1 ∧ Below w.heap.size w w' := by
  obtain ⟨ho, vL, vW, vsL, vsW, fused, fuse, Fb, h, hf⟩ := h
  obtain ⟨⟨aL, cL, rfl⟩, aW, cW, rfl⟩ := h.row
  have c0 := h.hd.cell (j := 0) rfl
  have hlen := ho.len
  rcases has_cases d.img.length i with ⟨hi, hh⟩ | ⟨hi, hi0, hh⟩ | ⟨k, rfl, hk, hh⟩
  rotate_right
  · obtain ⟨s, hs⟩ : ∃ s, d.img[k]? = some s := ⟨_, List.getElem?_eq_getElem hk⟩
    have he : d.image k = (s, 0) := by unfold Dev.image secOf; rw [hh]; simp [hs]
    rw [he]
    have H64 := hid (ho.s64.get hs)
    obtain ⟨g, rfl, _, so, cap, hc, hsb, hcap⟩ := h.sec rfl hs
    have HSB := hid hsb
    rw [H64.out] at hc
    have c0' := alc c0
    have hc' := alc hc
    clear h hf hh hs he hsb hcap ho
    unfold ptr
    go_enter Try.func60, Try.ntmps60
    go_wp2_with (refine wpl_append rfl (.tmp 17) (.tmp 24) rfl w.heap.size _ 0 [] s rfl (owns_empty w) so _ cap rfl (by rw [H64.out]) (HSB.out.below ((Below.refl _ _).alloc (Nat.le_refl _) _)) (by omega) (by simp) ?_; intro v2 w2 ho2 hg2 hne; have HB2 := hid (below_grown ((Below.refl _ _).alloc (Nat.le_refl _) _) (owns_empty w) hg2 (Nat.le_refl _)); have HO2 := hid ho2; clear hg2 hne ho2)
    go_ret2
    exact ⟨v2, rfl, Fresh.ofOwns HO2.out, HB2.out⟩
  all_goals
    have he : d.image i = ([], 3) := by unfold Dev.image secOf; rw [hh]; rfl
    rw [he]
    clear h hf hh he ho
    unfold ptr
    go_enter Try.func60, Try.ntmps60
    go_wp2
    go_ret2
    exact ⟨_, rfl, Fresh.nil _ _, Below.refl _ _⟩
theorem laid_take (img : List (List UInt8)) (l : List (Nat × List UInt8)) (k : Nat) {x : Nat × List UInt8} (hx : l[k]? = some x) : laidOver img (l.take (k + 1)) = (laidOver img (l.take k)).set x.1 x.2 := by
  rw [List.take_add_one, hx]; exact laid_snoc _ _ _
set_option maxRecDepth 100000 in
set_option maxHeartbeats 1000000 in
theorem readR_any {a : Nat} {F : Nat → Prop} {d : Dev} (i : Int) (w : World) (h : RD w a F d) (hlo : d.loose.length ≤ 1073741824) :
    Calls Try.prog 59 #[ptr a, .int .i64 i] w fun e w' => ∃ v, e = .returned (.tuple #[v, .int .i64 (d.read i).2]) ∧ Fresh w.heap.size w' v (d.read i).1 ∧ Below w.heap.size w w' := by
  have HD := hid h
  obtain ⟨ho, vL, vW, vsL, vsW, fused, fuse, Fb, h, hf⟩ := h
  obtain ⟨⟨aL, cL, rfl⟩, aW, cW, rfl⟩ := h.row
  have c4 := h.hd.cell (j := 4) rfl
  have H := hid h
  have HO := hid ho
  cases hout : d.out
  rotate_left
  · have hs : d.read i = ([], 22) := by unfold Dev.read; rw [hout]; rfl
    rw [hs]
    rw [hout] at c4
    clear h hf hs hout ho
    unfold ptr
    go_enter Try.func59, Try.ntmps59
    go_wp2
    go_ret2
    exact ⟨_, rfl, Fresh.nil _ _, Below.refl _ _⟩
  rw [hout] at c4
  cases hh : has d.img.length i
  · have hs : d.read i = ([], 3) := by unfold Dev.read secOf; rw [hout, d.now_len, hh]; rfl
    have hi : d.image i = ([], 3) := by unfold Dev.image secOf; rw [hh]; rfl
    rw [hs]
    have HI := hid hi
    clear h hf hs hout hh hi ho
    have hz : ((3 : Int) == 0) = false := by decide
    unfold ptr
    go_enter Try.func59, Try.ntmps59
    go_wp2_with fail
    refine (imageR_any i w HD.out).mono ?_
    rintro e w1 ⟨v, rfl, hfr, hb1⟩
    rw [HI.out] at hfr ⊢
    have HFR := hid hfr
    obtain ⟨ao, cap, rfl, -⟩ := hfr
    have c1 := (H.out.below hb1).hd.cell (j := 1) rfl
    have HB := hid hb1
    clear hb1
    go_wp2_with fail
    by_cases hl0 : 0 < d.loose.length
    all_goals
      go_loopw [6, 8] (fun v i wr => v = .slice ao 0 cap ∧ i = .int .i64 0 ∧ w1 = wr) (fun _ _ _ => 0)
      case atStart => exact ⟨rfl, rfl, rfl⟩
      case round =>
        obtain ⟨rfl, rfl, rfl⟩ := hrel
        go_wp2
        go_ret2
        exact ⟨_, rfl, HFR.out, HB.out⟩
  · obtain ⟨j, rfl, hj⟩ := has_nat hh
    obtain ⟨s, hs⟩ : ∃ s, d.now[j]? = some s := ⟨_, List.getElem?_eq_getElem (by rw [d.now_len]; exact hj)⟩
    obtain ⟨s0, hs0⟩ : ∃ s, d.img[j]? = some s := ⟨_, List.getElem?_eq_getElem hj⟩
    have hi : d.read j = (s, 0) := by unfold Dev.read secOf; rw [hout, d.now_len, hh]; simp [hs]
    have hi0 : d.image j = (s0, 0) := by unfold Dev.image secOf; rw [hh]; simp [hs0]
    rw [hi]
    have HI0 := hid hi0
    have HS := hid hs; have HS0 := hid hs0
    have hlen := ho.len
    clear h hf hout hh hi hi0 hs hs0 ho
    unfold ptr
    go_enter Try.func59, Try.ntmps59
    go_wp2_with fail
    refine (imageR_any j w HD.out).mono ?_
    rintro e w1 ⟨v, rfl, hfr, hb1⟩
    rw [HI0.out] at hfr ⊢
    have HFR := hid hfr
    have HB := hid hb1
    clear hb1 hfr
    go_wp2_with fail
    go_loopw [6, 8] (fun v i wr => ∃ (k : Nat) (t : List UInt8), k ≤ d.loose.length ∧ i = .int .i64 k ∧ Fresh w.heap.size wr v t ∧ (laidOver d.img (d.loose.take k))[j]? = some t ∧ Below w.heap.size w wr) (fun _ i _ => d.loose.length - (intOf i).toNat)
    case atStart => exact ⟨0, s0, Nat.zero_le _, rfl, HFR.out, HS0.out, HB.out⟩
    case round =>
      obtain ⟨k, t, hk, rfl, hft, ht, hb⟩ := hrel
      have HT := hid ht; have HFT := hid hft; have HB := hid hb
      have HR := hid (H.out.below hb)
      have c1 := HR.out.hd.cell (j := 1) rfl
      clear ht hft hb
      by_cases hlt : k < d.loose.length
      · obtain ⟨x, hx⟩ : ∃ x, d.loose[k]? = some x := ⟨_, List.getElem?_eq_getElem hlt⟩
        obtain ⟨g, rfl, _, ca, u, cb, ao, cap, rfl, hcap, hsb, -⟩ := HR.out.wr rfl hx
        have hx64 := HO.out.lo x (List.mem_of_getElem? hx)
        have HX := hid hx; have HSB := hid hsb; have H64 := hid hx64.2
        rw [hx64.2] at cb
        have hxl := hx64.1
        clear hx hsb hx64 hcap
        by_cases he : x.1 = j
        · have hb : ((x.1 : Int) == (j : Int)) = true := by simp [he]
          have c1' := alc c1; have ca' := alc ca; have cb' := alc cb
          have HE := hid he
          clear he
          go_wp2_with (refine wpl_append rfl (.tmp 42) (.tmp 50) rfl w.heap.size _ 0 [] x.2 rfl (owns_emptyB HB.out.size) ao _ cap rfl (by rw [H64.out]) (HSB.out.below ((Below.refl _ _).alloc (Nat.le_refl _) _)) (by omega) (by have := HB.out.size; simp; omega) ?_; intro v2 w2 ho2 hg2 hne; have HB2 := hid (below_grown ((Below.refl _ wr).alloc (Nat.le_refl _) _) (owns_emptyB (Nat.le_refl _)) hg2 (Nat.le_refl _)); have HO2 := hid (Fresh.ofOwns ho2); clear hg2 hne ho2)
          go_roundw
          case rel => exact ⟨k + 1, x.2, by omega, by go_num, HO2.out, by rw [laid_take _ _ _ HX.out, ← HE.out, List.getElem?_set_self (by rw [laid_len]; exact hxl)], th HB.out HB2.out⟩
          case measure => simp [intOf]; omega
        · have hb : ((x.1 : Int) == (j : Int)) = false := by simp; omega
          have HE := hid he
          clear he
          go_wp2
          go_roundw
          case rel => exact ⟨k + 1, t, by omega, by go_num, HFT.out, by rw [laid_take _ _ _ HX.out, List.getElem?_set_ne HE.out]; exact HT.out, HB.out⟩
          case measure => simp [intOf]; omega
      · have hk9 : k = d.loose.length := by omega
        have ht2 : t = s := by
          have h1 := HT.out; have h2 := HS.out
          rw [hk9, List.take_of_length_le (Nat.le_refl _)] at h1
          unfold Dev.now at h2
          rw [h1] at h2; injection h2
        have H2 := hid ht2
        clear ht2
        go_wp2
        go_ret2
        exact ⟨_, rfl, by rw [← H2.out]; exact HFT.out, HB.out⟩
set_option maxRecDepth 100000 in
set_option maxHeartbeats 400000 in
theorem throughR_any {a : Nat} {vL vW : Value} {vsL vsW : List Value} {fused : Bool} {fuse : Int} {F Fb : Nat → Prop} {d : Dev} (w : World) (h : RR w a vL vW vsL vsW fused fuse F Fb d.img d.loose d.out) (hf : FuseR d.fuse fused fuse) (ho : d.out = false) :
    Calls Try.prog 119 #[ptr a] w fun e w' => e = .returned (.bool d.through.1) ∧ (∃ fuse', RR w' a vL vW vsL vsW fused fuse' F Fb d.img d.loose d.through.2.out ∧ FuseR d.through.2.fuse fused fuse') ∧ Keep (fun k => k = a) w w' := by
  have c2 := h.hd.cell (j := 2) rfl
  have c3 := h.hd.cell (j := 3) rfl
  have c4 := h.hd.cell (j := 4) rfl
  have f3 := h.hd.free 3
  have f4 := h.hd.free 4
  have H := hid h
  have hr := h.fr
  rcases hf with ⟨hf, rfl⟩ | ⟨k, hf, rfl, rfl⟩
  · have hth : d.through = (true, d) := by unfold Dev.through; rw [hf]
    rw [hth]
    have HF := hid hf
    have hcs := fun v : Value => World.cell?_setCell_same _ _ v c3
    clear h hf ho hth
    unfold ptr
    go_enter Try.func119, Try.ntmps119
    go_wp2
    go_ret
    refine ⟨rfl, ⟨_, H.out.headed ((Keep.refl (fun k => k = a) w).setCell (p := ⟨a, 3, none⟩) rfl _) (H.out.hd.set 3 _) (wrap_range _), .inl ⟨HF.out, rfl⟩⟩, (Keep.refl (fun k => k = a) w).setCell (p := ⟨a, 3, none⟩) rfl _⟩
  · match k, hf with
    | 0, hf =>
      have hth : d.through = (false, { d with out := true }) := by unfold Dev.through; rw [hf]
      rw [hth]
      have HF := hid hf
      have hz : ((((0 : Nat) : Int)) == 0) = true := by decide
      clear h hf ho hth
      unfold ptr
      go_enter Try.func119, Try.ntmps119
      go_wp2
      go_ret
      exact ⟨rfl, ⟨_, H.out.headed ((Keep.refl (fun k => k = a) w).setCell (p := ⟨a, 4, none⟩) rfl _) (H.out.hd.set 4 _) hr, .inr ⟨0, HF.out, rfl, rfl⟩⟩, (Keep.refl (fun k => k = a) w).setCell (p := ⟨a, 4, none⟩) rfl _⟩
    | k + 1, hf =>
      have hth : d.through = (true, { d with fuse := some k }) := by unfold Dev.through; rw [hf]
      rw [hth]
      have hz : ((((k + 1 : Nat) : Int)) == 0) = false := by simp; omega
      have HE : Hid ((((k + 1 : Nat) : Int)) - 1 = (k : Int)) := hid (by omega)
      clear h hf hth
      have HOO := hid ho
      clear ho
      unfold ptr
      go_enter Try.func119, Try.ntmps119
      go_wp2
      go_ret
      refine ⟨rfl, ⟨_, H.out.headed ((Keep.refl (fun k => k = a) w).setCell (p := ⟨a, 3, none⟩) rfl _) (H.out.hd.set 3 _) (by omega), .inr ⟨k, rfl, rfl, ?_⟩⟩, (Keep.refl (fun k => k = a) w).setCell (p := ⟨a, 3, none⟩) rfl _⟩
      omega
set_option maxRecDepth 100000 in
set_option maxHeartbeats 400000 in
theorem fuseR_any {a : Nat} {F : Nat → Prop} {d : Dev} (n : Int) (h1 : -9223372036854775808 ≤ n) (h2 : n ≤ 9223372036854775807) (w : World) (h : RD w a F d) :
    Calls Try.prog 79 #[ptr a, .int .i64 n] w fun e w' => e = .returned (.int .i64 (d.setFuse n).1) ∧ RD w' a F (d.setFuse n).2 ∧ Keep F w w' := by
  have HD := hid h
  obtain ⟨ho, vL, vW, vsL, vsW, fused, fuse, Fb, h, hf⟩ := h
  have c4 := h.hd.cell (j := 4) rfl
  have c2 := h.hd.cell (j := 2) rfl
  have c3 := h.hd.cell (j := 3) rfl
  have f2 := h.hd.free 2
  have f3 := h.hd.free 3
  have H := hid h
  have HO := hid ho
  have fa := hid h.fa
  cases hout : d.out
  rotate_left
  · have hs : d.setFuse n = (22, d) := by unfold Dev.setFuse; rw [hout]; rfl
    rw [hs]
    rw [hout] at c4
    clear h hf hs hout ho
    unfold ptr
    go_enter Try.func79, Try.ntmps79
    go_wp2
    go_ret
    exact ⟨rfl, HD.out, Keep.refl _ _⟩
  rw [hout] at c4
  by_cases hn : n < 0
  · have hs : d.setFuse n = (2, d) := by unfold Dev.setFuse; rw [hout]; simp [hn]
    rw [hs]
    clear h hf hs hout ho
    unfold ptr
    go_enter Try.func79, Try.ntmps79
    go_wp2
    go_ret
    exact ⟨rfl, HD.out, Keep.refl _ _⟩
  · have hs : d.setFuse n = (0, { d with fuse := some n.toNat }) := by unfold Dev.setFuse; rw [hout]; simp [hn]
    rw [hs]
    have hc3 : ∀ v : Value, (w.setCell ⟨a, 2, none⟩ v).cell? ⟨a, 3, none⟩ = some (.int .i64 fuse) := fun v => by rw [World.cell?_setCell_other _ _ _ _ (by intro e; injection e; omega)]; exact c3
    have hf3 : ∀ v : Value, (w.setCell ⟨a, 2, none⟩ v).frozen? ⟨a, 3, none⟩ = false := fun v => by simpa using f3
    clear h hf hs hout ho
    unfold ptr
    go_enter Try.func79, Try.ntmps79
    go_wp2
    go_ret
    have hk2 : Keep (fun k => k = a) w ((w.setCell ⟨a, 2, none⟩ (.bool true)).setCell ⟨a, 3, none⟩ (.int .i64 n)) := ((Keep.refl (fun k => k = a) w).setCell (p := ⟨a, 2, none⟩) rfl _).setCell (p := ⟨a, 3, none⟩) rfl _
    refine ⟨rfl, ⟨⟨HO.out.1, HO.out.2, HO.out.3, HO.out.4⟩, _, _, _, _, _, _, _, H.out.headed hk2 ((H.out.hd.set 2 _).set 3 _) ⟨h1, h2⟩, .inr ⟨n.toNat, rfl, rfl, by omega⟩⟩, hk2.mono fun k _ hk => by rw [hk]; exact fa.out⟩
end Go.Proofs.Ytlondopgibcikaa
namespace Go.Proofs.Ytlondopgibcikaa
open Go.RowKit Ent

theorem RR.appended {w1 w3 w4 : World} {a : Nat} {vL vW v4 v : Value} {vsL vsW : List Value} {fused : Bool} {fuse : Int} {F Fb : Nat → Prop} {L : List (List UInt8)} {l : List (Nat × List UInt8)} {out : Bool}
    (h : RR w1 a vL vW vsL vsW fused fuse F Fb L l out) (hb : Below w1.heap.size w1 w3) (i : Nat) {b : List UInt8} (hv : SS w3 (fun k => w1.heap.size ≤ k ∧ k < w3.heap.size) v b)
    (ho : w4.ownsRow 0 143 2 v4 (l.length + 1) (vsW ++ [.int .i64 (i : Int), v])) (hg : w3.grownBy w4 vW.ownBlock) (hw : v4.ownBlock = vW.ownBlock ∨ v4.ownBlock = some w3.heap.size) :
    RR (w4.setCell ⟨a, 1, none⟩ v4) a vL v4 vsL (vsW ++ [.int .i64 (i : Int), v]) fused fuse (grow F w1 w4) (grow Fb w1 w3) L (l ++ [(i, b)]) out ∧ Keep F w1 (w4.setCell ⟨a, 1, none⟩ v4) := by
  have h3 := h.more hb
  have hk : Keep (fun k => vW.ownBlock = some k) w3 w4 := (Keep.refl _ w3).grown hg (fun k hk _ => hk)
  have hL3 := own_lt h.oL
  have ha := h.hd.lt
  have hs4 : w3.heap.size ≤ w4.heap.size := hk.size
  have hs1 := hb.size
  have hka : Keep (fun k => k = a) w4 (w4.setCell ⟨a, 1, none⟩ v4) := (Keep.refl (fun k => k = a) w4).setCell (p := ⟨a, 1, none⟩) rfl _
  have hlt4 := own_lt ho
  have hne : ∀ k, v4.ownBlock = some k → k ≠ a := fun k hk => by
    rcases hw with e | e
    · exact (h.fW k (by rw [← e]; exact hk)).2.2
    · rw [e] at hk; injection hk with hk; omega
  have hnb : ∀ k, grow Fb w1 w3 k → ¬ vW.ownBlock = some k := fun k hk e => (h3.fW k e).2.1 hk
  have hna : ∀ k, grow Fb w1 w3 k → ¬ k = a := fun k hk e => h3.na (by rw [← e]; exact hk)
  refine ⟨{
    hd := (h3.hd.keep hk (fun e => (h.fW _ e).2.2 rfl)).set 1 v4
    oL := owns_keep (owns_keep h3.oL hk (fun k h1 h2 => h.LW k h1 h2)) hka fun k hk => (h.fL k hk).2.2
    rL := (h3.rL.keep hk hnb).keep hka hna
    oW := by rw [List.length_append]; exact owns_keep ho hka hne
    rW := (((h3.rW.snoc i (hv.mono fun k hk => .inr hk)).keep hk hnb).keep hka hna)
    fr := h.fr, fa := .inl h.fa, na := h3.na
    fL := fun k hk => ⟨.inl (h.fL k hk).1, (h3.fL k hk).2⟩
    fW := fun k hk => by
      rcases hw with e | e
      · have := h3.fW k (by rw [← e]; exact hk)
        exact ⟨.inl (h.fW k (by rw [← e]; exact hk)).1, this.2⟩
      · have hlt := hlt4 k hk
        rw [e] at hk; injection hk with hk
        refine ⟨.inr ⟨by omega, hlt⟩, fun hh => ?_, by omega⟩
        have := h3.lt k hh
        omega
    LW := fun k h1 h2 => by
      rcases hw with e | e
      · exact h.LW k h1 (by rw [← e]; exact h2)
      · have := hL3 k h1
        rw [e] at h2; injection h2 with h2; omega
    fb := fun k hk => by
      rcases hk with hk | hk
      · exact .inl (h.fb k hk)
      · exact .inr ⟨hk.1, Nat.lt_of_lt_of_le hk.2 hs4⟩
    lt := fun k hk => Nat.lt_of_lt_of_le (h3.lt k hk) (by simpa using hs4) }, ?_⟩
  refine Keep.setCell (p := ⟨a, 1, none⟩) ?_ h.fa v4
  exact (Keep.ofBelow (F := F) hb).trans (hk.mono (fun k _ e => (h.fW k e).1))
theorem RR.setL {w : World} {a g n c : Nat} {vW v : Value} {vsL vsW : List Value} {fused : Bool} {fuse : Int} {F Fb : Nat → Prop} {L : List (List UInt8)} {l : List (Nat × List UInt8)} {out : Bool}
    (h : RR w a (.slice (some ⟨g, 0, none⟩) n c) vW vsL vsW fused fuse F Fb L l out) (hn : n = L.length) (i : Nat) {b : List UInt8} (hv : SS w Fb v b) :
    RR (w.setCell ⟨g, i, none⟩ v) a (.slice (some ⟨g, 0, none⟩) n c) vW (vsL.set i v) vsW fused fuse F Fb (L.set i b) l out := by
  subst hn
  have hk : Keep (fun k => k = g) w (w.setCell ⟨g, i, none⟩ v) := (Keep.refl (fun k => k = g) w).setCell (p := ⟨g, i, none⟩) rfl _
  have hg := h.fL g rfl
  have hnb : ∀ k, Fb k → ¬ k = g := fun k hk e => hg.2.1 (by rw [← e]; exact hk)
  exact { h with
    hd := h.hd.keep hk (fun e => hg.2.2 e.symm)
    oL := by rw [List.length_set]; exact own_set h.oL i v
    rL := (h.rL.set i hv).keep hk hnb
    oW := owns_keep h.oW hk fun k hk e => h.LW g rfl (by rw [← e]; exact hk)
    rW := h.rW.keep hk hnb
    lt := fun k hk => by simpa using h.lt k hk }
theorem RR.cleared {w w' : World} {a : Nat} {vL vW : Value} {vsL vsW : List Value} {fused fused' : Bool} {fuse : Int} {F Fb : Nat → Prop} {L : List (List UInt8)} {l : List (Nat × List UInt8)} {out out' : Bool}
    (h : RR w a vL vW vsL vsW fused fuse F Fb L l out) (hk : Keep (fun k => k = a) w w') (hd : Blk w' a 141 (head5 vL (.slice none 0 0) fused' fuse out')) : RR w' a vL (.slice none 0 0) vsL [] fused' fuse F Fb L [] out' :=
  have hna : ∀ k, Fb k → ¬ k = a := fun k hk e => h.na (by rw [← e]; exact hk)
  { hd := hd, oL := owns_keep h.oL hk fun k hk => (h.fL k hk).2.2, rL := h.rL.keep hk hna, oW := World.ownsRow_nil _ _ _ _, rW := RowW.nil _ _, fr := h.fr, fa := h.fa, na := h.na, fL := h.fL, fW := fun k hk => by simp [Value.ownBlock] at hk, LW := fun k _ hk => by simp [Value.ownBlock] at hk, fb := h.fb, lt := fun k hk' => Nat.lt_of_lt_of_le (h.lt k hk') hk.size }
theorem ok_loose {d : Dev} (h : d.ok) {f : Option Nat} {o : Bool} {k : Nat} {b : List UInt8} (hk : k < d.img.length) (hb : b.length = 64) : ({ img := d.img, loose := d.loose ++ [(k, b)], fuse := f, out := o } : Dev).ok :=
  ⟨h.s64, h.len, h.pos, fun x hx => by
    rcases List.mem_append.1 hx with hx | hx
    · exact h.lo x hx
    · simp at hx; subst hx; exact ⟨hk, hb⟩⟩
theorem through_img' (d : Dev) (l : List (Nat × List UInt8)) : ({ d.through.2 with loose := l } : Dev) = { img := d.img, loose := l, fuse := d.through.2.fuse, out := d.through.2.out } := by rw [← through_img d]
theorem ok_through {d : Dev} (h : d.ok) : d.through.2.ok := ⟨by rw [through_img]; exact h.s64, by rw [through_img]; exact h.len, by rw [through_img]; exact h.pos, by rw [through_img, through_loose]; exact h.lo⟩
theorem ok_flushed {d : Dev} (h : d.ok) {f : Option Nat} {o : Bool} : ({ img := d.now, loose := [], fuse := f, out := o } : Dev).ok :=
  ⟨h.now64, by rw [Dev.now_len]; exact h.len, by rw [Dev.now_len]; exact h.pos, fun x hx => by simp at hx⟩
theorem bl_at {w : World} {ao : Option Addr} {l : List Bool} (h : BL w ao l) {k : Nat} {x : Bool} (hx : l[k]? = some x) : ∃ b o, ao = some ⟨b, o, none⟩ ∧ w.cell? ⟨b, o + k, none⟩ = some (.bool x) := by
  rcases h with rfl | ⟨b, o, rfl, h⟩
  · simp at hx
  · exact ⟨b, o, rfl, h k _ (by rw [bbv_get, hx]; rfl)⟩
theorem rd_of {w : World} {a : Nat} {vL vW : Value} {vsL vsW : List Value} {fuse : Int} {F Fb : Nat → Prop} {d : Dev} (ho : d.ok) (h : RR w a vL vW vsL vsW false fuse F Fb d.img d.loose d.out) (hf : d.fuse = none) : RD w a F d := ⟨ho, vL, vW, vsL, vsW, false, fuse, Fb, h, .inl ⟨hf, rfl⟩⟩
theorem wr_info : (Try.prog.info? 143).map (·.size) = some 2 := by kernel_rfl
theorem s64_crash {d : Dev} (h : d.ok) {keep : List Bool} {k : Nat} {lst : Int} {L : List (List UInt8)} (hc : CrashAt d keep k lst L) {i : Nat} {s : List UInt8} (hs : L[i]? = some s) : s.length = 64 := by
  have := laid_64 (l := keptOf keep 0 (d.loose.take k)) (fun x hx => (h.lo x (List.mem_of_mem_take (kept_sub keep x _ _ hx))).2) h.s64
  rw [← hc.im] at this
  exact this.get hs
theorem RR.appendedL {w1 w3 w4 : World} {a : Nat} {vL vW v4 v : Value} {vsL vsW : List Value} {fused : Bool} {fuse : Int} {F Fb : Nat → Prop} {L : List (List UInt8)} {l : List (Nat × List UInt8)} {out : Bool}
    (h : RR w1 a vL vW vsL vsW fused fuse F Fb L l out) (hb : Below w1.heap.size w1 w3) {b : List UInt8} (hv : SS w3 (fun k => w1.heap.size ≤ k ∧ k < w3.heap.size) v b)
    (ho : w4.ownsRow 0 22 1 v4 (L.length + 1) (vsL ++ [v])) (hg : w3.grownBy w4 vL.ownBlock) (hw : v4.ownBlock = vL.ownBlock ∨ v4.ownBlock = some w3.heap.size) :
    RR (w4.setCell ⟨a, 0, none⟩ v4) a v4 vW (vsL ++ [v]) vsW fused fuse (grow F w1 w4) (grow Fb w1 w3) (L ++ [b]) l out ∧ Keep F w1 (w4.setCell ⟨a, 0, none⟩ v4) := by
  have h3 := h.more hb
  have hk : Keep (fun k => vL.ownBlock = some k) w3 w4 := (Keep.refl _ w3).grown hg (fun k hk _ => hk)
  have hW3 := own_lt h.oW
  have ha := h.hd.lt
  have hs4 : w3.heap.size ≤ w4.heap.size := hk.size
  have hs1 := hb.size
  have hka : Keep (fun k => k = a) w4 (w4.setCell ⟨a, 0, none⟩ v4) := (Keep.refl (fun k => k = a) w4).setCell (p := ⟨a, 0, none⟩) rfl _
  have hlt4 := own_lt ho
  have hne : ∀ k, v4.ownBlock = some k → k ≠ a := fun k hk => by
    rcases hw with e | e
    · exact (h.fL k (by rw [← e]; exact hk)).2.2
    · rw [e] at hk; injection hk with hk; omega
  have hnb : ∀ k, grow Fb w1 w3 k → ¬ vL.ownBlock = some k := fun k hk e => (h3.fL k e).2.1 hk
  have hna : ∀ k, grow Fb w1 w3 k → ¬ k = a := fun k hk e => h3.na (by rw [← e]; exact hk)
  refine ⟨{
    hd := (h3.hd.keep hk (fun e => (h.fL _ e).2.2 rfl)).set 0 v4
    oW := owns_keep (owns_keep h3.oW hk (fun k h1 h2 => h.LW k h2 h1)) hka fun k hk => (h.fW k hk).2.2
    rW := (h3.rW.keep hk hnb).keep hka hna
    oL := by rw [List.length_append]; exact owns_keep ho hka hne
    rL := (((h3.rL.snoc (hv.mono fun k hk => .inr hk)).keep hk hnb).keep hka hna)
    fr := h.fr, fa := .inl h.fa, na := h3.na
    fW := fun k hk => ⟨.inl (h.fW k hk).1, (h3.fW k hk).2⟩
    fL := fun k hk => by
      rcases hw with e | e
      · have := h3.fL k (by rw [← e]; exact hk)
        exact ⟨.inl (h.fL k (by rw [← e]; exact hk)).1, this.2⟩
      · have hlt := hlt4 k hk
        rw [e] at hk; injection hk with hk
        refine ⟨.inr ⟨by omega, hlt⟩, fun hh => ?_, by omega⟩
        have := h3.lt k hh
        omega
    LW := fun k h1 h2 => by
      rcases hw with e | e
      · exact h.LW k (by rw [← e]; exact h1) h2
      · have := hW3 k h2
        rw [e] at h1; injection h1 with h1; omega
    fb := fun k hk => by
      rcases hk with hk | hk
      · exact .inl (h.fb k hk)
      · exact .inr ⟨hk.1, Nat.lt_of_lt_of_le hk.2 hs4⟩
    lt := fun k hk => Nat.lt_of_lt_of_le (h3.lt k hk) (by simpa using hs4) }, ?_⟩
  refine Keep.setCell (p := ⟨a, 0, none⟩) ?_ h.fa v4
  exact (Keep.ofBelow (F := F) hb).trans (hk.mono (fun k _ e => (h.fL k e).1))
theorem wpo_make {o : Oper} {a : Act} {w : World} {K : Act → World → Prop} {Q : Exit → Act → World → Prop} (l c : Operand) (ho : o.op = .makeSlice 22 l c) (n : Nat) (hl : a.eval l = .int .i64 n) (hc : a.eval c = .int .i64 n) (hn : n ≤ 65536)
    (h : ∀ w', Below w.heap.size w w' → Blk w' w.heap.size 5 (bv (List.replicate n 0)) → K (a.put o.dst (.slice (some ⟨w.heap.size, 0, none⟩) n n)) w') : o.wp Try.prog a w K Q := by
  obtain ⟨i, hi, hz, hsz, hby⟩ := info_u8
  have hr := run_makeSlice (P := Try.prog) w 22 5 i _ Try.underlying22 hi hz .i64 .i64 (n : Int) (n : Int) (by omega) (by omega) (by rw [hsz]; simp; omega) (by rw [hby]; omega) (by omega)
  have hm : madeCells (Value.cells (.int .u8 0)) (n * 1) = (bv (List.replicate n 0)).toArray := by
    rw [Nat.mul_one]; have := made_zeros n; rw [← this]
  rw [hsz, Int.toNat_natCast, hm] at hr
  unfold Oper.wp execOp
  simp only [ho, hl, hc, hr, Sem.run_bind, Sem.run_pure, Result.andThen_ok]
  exact h _ (fresh_alloc w _) (alloc_new w _)
/-- a new one -/
theorem RR.fresh (w : World) : RR (w.alloc (.cells #[.slice none 0 0, .slice none 0 0, .bool false, .int .i64 0, .bool false] 141)) w.heap.size (.slice none 0 0) (.slice none 0 0) [] [] false 0 (fun k => w.heap.size ≤ k ∧ k < (w.alloc (.cells #[.slice none 0 0, .slice none 0 0, .bool false, .int .i64 0, .bool false] 141)).heap.size) (fun _ => False) [] [] false :=
  { hd := alloc_new w _, oL := World.ownsRow_nil _ _ _ _, rL := RowS.nil _ _, oW := World.ownsRow_nil _ _ _ _, rW := RowW.nil _ _, fr := by omega, fa := ⟨Nat.le_refl _, by simp⟩, na := id, fL := fun k hk => by simp [Value.ownBlock] at hk, fW := fun k hk => by simp [Value.ownBlock] at hk, LW := fun k hk => by simp [Value.ownBlock] at hk, fb := fun k h => h.elim, lt := fun k h => h.elim }
end Go.Proofs.Ytlondopgibcikaa
namespace Go.Proofs.Ytlondopgibcikaa
open Go.RowKit Ent

abbrev Asset := World → (Nat → Prop) → Prop
structure Good (A : Asset) : Prop where
  keep : ∀ {w w' : World} {F G : Nat → Prop}, A w F → Keep G w w' → (∀ k, F k → ¬ G k) → A w' F
/-- assets side by side, each in blocks of its own, all new since w0 -/
structure St (B : Nat) (w0 w : World) (As : List Asset) : Prop where
  bl : B ≤ w.heap.size
  be : Below B w0 w
  own : ∃ Fs : List (Nat → Prop), Fs.length = As.length ∧
    (∀ (i : Nat) (A : Asset) (F : Nat → Prop), As[i]? = some A → Fs[i]? = some F → Good A ∧ A w F ∧ ∀ k, F k → B ≤ k ∧ k < w.heap.size) ∧
    ∀ (i j : Nat) (F G : Nat → Prop), i ≠ j → Fs[i]? = some F → Fs[j]? = some G → ∀ k, F k → ¬ G k
theorem St.start (w : World) : St w.heap.size w w [] :=
  ⟨Nat.le_refl _, Below.refl _ _, [], rfl, fun i A F hi _ => by simp at hi, fun i j F G _ hi _ => by simp at hi⟩
theorem St.below {B : Nat} {w0 w w' : World} {As : List Asset} (h : St B w0 w As) (hb : Below w.heap.size w w') : St B w0 w' As := by
  obtain ⟨Fs, hl, ho, hd⟩ := h.own
  refine ⟨Nat.le_trans h.bl hb.size, h.be.trans (hb.mono h.bl), Fs, hl, fun i A F hA hF => ?_, hd⟩
  obtain ⟨hg, ha, hk⟩ := ho i A F hA hF
  exact ⟨hg, hg.keep ha (Keep.ofBelow (F := fun _ => False) hb) (fun _ _ => id), fun k hF => ⟨(hk k hF).1, Nat.lt_of_lt_of_le (hk k hF).2 hb.size⟩⟩
theorem get_set_eq {α : Type} {l : List α} {i : Nat} {a x y : α} (hi : l[i]? = some a) (h : (l.set i x)[i]? = some y) : x = y := by
  rw [List.getElem?_set_self (List.getElem?_eq_some_iff.1 hi).1] at h; injection h
/-- one of them, and the others beside it -/
theorem St.open {B : Nat} {w0 w : World} {As : List Asset} (h : St B w0 w As) (i : Nat) {A : Asset} (hi : As[i]? = some A) :
    ∃ F, A w F ∧ (∀ k, F k → B ≤ k ∧ k < w.heap.size) ∧
      (∀ (j : Nat) (C : Asset), i ≠ j → As[j]? = some C → ∃ G, C w G ∧ (∀ k, G k → B ≤ k ∧ k < w.heap.size) ∧ (∀ k, F k → ¬ G k)) ∧
      (∀ (w' : World) (A' : Asset) (F' : Nat → Prop), Keep F w w' → Good A' → A' w' F' → (∀ k, F' k → grow F w w' k) → St B w0 w' (As.set i A')) := by
  obtain ⟨Fs, hl, ho, hd⟩ := h.own
  have hil := (List.getElem?_eq_some_iff.1 hi).1
  obtain ⟨F, hF⟩ : ∃ F, Fs[i]? = some F := ⟨_, List.getElem?_eq_getElem (by omega)⟩
  obtain ⟨hg, ha, hk⟩ := ho i A F hi hF
  refine ⟨F, ha, hk, fun j C hij hC => ?_, fun w' A' F' hkp hg' ha' hF' => ?_⟩
  · obtain ⟨G, hG⟩ : ∃ G, Fs[j]? = some G := ⟨_, List.getElem?_eq_getElem (by have := (List.getElem?_eq_some_iff.1 hC).1; omega)⟩
    obtain ⟨_, hc, hck⟩ := ho j C G hC hG
    exact ⟨G, hc, hck, hd i j F G hij hF hG⟩
  · refine ⟨Nat.le_trans h.bl hkp.size, h.be.trans (hkp.belowB h.bl fun k hkB hF => by have := (hk k hF).1; omega), Fs.set i F', by simp [hl], fun j C G hC hG => ?_, fun j m G H hjm hG hH k hkG hkH => ?_⟩
    · by_cases hij : i = j
      · subst hij
        obtain rfl := get_set_eq hi hC
        obtain rfl := get_set_eq hF hG
        refine ⟨hg', ha', fun k hk' => ?_⟩
        rcases hF' k hk' with h1 | h1
        · exact ⟨(hk k h1).1, Nat.lt_of_lt_of_le (hk k h1).2 hkp.size⟩
        · exact ⟨Nat.le_trans h.bl h1.1, h1.2⟩
      · rw [List.getElem?_set_ne hij] at hC hG
        obtain ⟨g1, c1, k1⟩ := ho j C G hC hG
        exact ⟨g1, g1.keep c1 hkp (fun k a b => hd i j F G hij hF hG k b a), fun k h1 => ⟨(k1 k h1).1, Nat.lt_of_lt_of_le (k1 k h1).2 hkp.size⟩⟩
    · by_cases hij : i = j
      · subst hij
        rw [List.getElem?_set_ne hjm] at hH
        obtain rfl := get_set_eq hF hG
        obtain ⟨C, hC⟩ : ∃ C, As[m]? = some C := ⟨_, List.getElem?_eq_getElem (by have := (List.getElem?_eq_some_iff.1 hH).1; omega)⟩
        rcases hF' k hkG with h1 | h1
        · exact hd i m F H hjm hF hH k h1 hkH
        · have := ((ho m C H hC hH).2.2 k hkH).2; omega
      · rw [List.getElem?_set_ne hij] at hG
        by_cases him : i = m
        · subst him
          obtain rfl := get_set_eq hF hH
          obtain ⟨C, hC⟩ : ∃ C, As[j]? = some C := ⟨_, List.getElem?_eq_getElem (by have := (List.getElem?_eq_some_iff.1 hG).1; omega)⟩
          rcases hF' k hkH with h1 | h1
          · exact hd i j F G (Ne.symm hjm) hF hG k h1 hkG
          · have := ((ho j C G hC hG).2.2 k hkG).2; omega
        · rw [List.getElem?_set_ne him] at hH
          exact hd j m G H hjm hG hH k hkG hkH
/-- one more, that is new -/
theorem St.add {B : Nat} {w0 w w' : World} {As : List Asset} (h : St B w0 w As) (hb : Below w.heap.size w w') {A : Asset} {F : Nat → Prop} (hg : Good A) (hA : A w' F) (hF : ∀ k, F k → w.heap.size ≤ k ∧ k < w'.heap.size) : St B w0 w' (As ++ [A]) := by
  have h' := h.below hb
  obtain ⟨Fs, hl, ho, hd⟩ := h.own
  have ho' : ∀ (i : Nat) (A : Asset) (F : Nat → Prop), As[i]? = some A → Fs[i]? = some F → Good A ∧ A w' F ∧ ∀ k, F k → B ≤ k ∧ k < w.heap.size := fun i A F a b => by
    obtain ⟨g, c, k⟩ := ho i A F a b
    exact ⟨g, g.keep c (Keep.ofBelow (F := fun _ => False) hb) (fun _ _ => id), k⟩
  refine ⟨h'.bl, h'.be, Fs ++ [F], by simp [hl], fun i C G hC hG => ?_, fun i j G H hij hG hH k hkG hkH => ?_⟩
  · by_cases hi : i < As.length
    · rw [List.getElem?_append_left hi] at hC
      rw [List.getElem?_append_left (by omega)] at hG
      obtain ⟨g, c, k⟩ := ho' i C G hC hG
      exact ⟨g, c, fun j hj => ⟨(k j hj).1, Nat.lt_of_lt_of_le (k j hj).2 hb.size⟩⟩
    · have hi' : i = As.length := by
        have := (List.getElem?_eq_some_iff.1 hC).1
        simp at this; omega
      subst hi'
      rw [List.getElem?_append_right (Nat.le_refl _), Nat.sub_self] at hC
      rw [List.getElem?_append_right (by omega), hl, Nat.sub_self] at hG
      simp at hC hG
      subst hC; subst hG
      exact ⟨hg, hA, fun j hj => ⟨Nat.le_trans h.bl (hF j hj).1, (hF j hj).2⟩⟩
  · have key : ∀ (i : Nat) (G : Nat → Prop), Fs[i]? = some G → ∀ k, G k → k < w.heap.size := fun i G hG k hk => by
      obtain ⟨C, hC⟩ : ∃ C, As[i]? = some C := ⟨_, List.getElem?_eq_getElem (by have := (List.getElem?_eq_some_iff.1 hG).1; omega)⟩
      exact ((ho i C G hC hG).2.2 k hk).2
    by_cases hi : i < Fs.length
    · rw [List.getElem?_append_left hi] at hG
      by_cases hj : j < Fs.length
      · rw [List.getElem?_append_left hj] at hH
        exact hd i j G H hij hG hH k hkG hkH
      · have hj' : j = Fs.length := by
          have := (List.getElem?_eq_some_iff.1 hH).1
          simp at this; omega
        subst hj'
        rw [List.getElem?_append_right (Nat.le_refl _), Nat.sub_self] at hH
        simp at hH; subst hH
        have := key i G hG k hkG
        have := (hF k hkH).1; omega
    · have hi' : i = Fs.length := by
        have := (List.getElem?_eq_some_iff.1 hG).1
        simp at this; omega
      subst hi'
      rw [List.getElem?_append_right (Nat.le_refl _), Nat.sub_self] at hG
      simp at hG; subst hG
      by_cases hj : j < Fs.length
      · rw [List.getElem?_append_left hj] at hH
        have := key j H hH k hkH
        have := (hF k hkG).1; omega
      · have := (List.getElem?_eq_some_iff.1 hH).1
        simp at this; omega
/-- the last ones are forgotten -/
theorem St.take {B : Nat} {w0 w : World} {As : List Asset} (h : St B w0 w As) (n : Nat) : St B w0 w (As.take n) := by
  obtain ⟨Fs, hl, ho, hd⟩ := h.own
  refine ⟨h.bl, h.be, Fs.take n, by simp [hl], fun i A F hA hF => ?_, fun i j F G hij hF hG => ?_⟩
  · rw [List.getElem?_take] at hA hF
    split at hA
    · rename_i hn; rw [if_pos hn] at hF; exact ho i A F hA hF
    · cases hA
  · rw [List.getElem?_take] at hF hG
    split at hF
    · split at hG
      · exact hd i j F G hij hF hG
      · cases hG
    · cases hF
/-- a call that turns one of them -/
theorem St.call {B : Nat} {w0 w : World} {As : List Asset} (h : St B w0 w As) (i : Nat) {A A' : Asset} (hi : As[i]? = some A) (hg : Good A') {f : FuncId} {args : Array Value} {R : Ending → Prop}
    (hc : ∀ F, A w F → (∀ k, F k → B ≤ k ∧ k < w.heap.size) → Calls Try.prog f args w fun e w' => R e ∧ A' w' (grow F w w') ∧ Keep F w w') :
    Calls Try.prog f args w fun e w' => R e ∧ St B w0 w' (As.set i A') := by
  obtain ⟨F, ha, hk, _, hcl⟩ := h.open i hi
  refine (hc F ha hk).mono ?_
  rintro e w' ⟨he, ha', hkp⟩
  exact ⟨he, hcl w' A' _ hkp hg ha' (fun _ h => h)⟩
/-- a device among them -/
def dev (a : Nat) (d : Dev) : Asset := fun w F => PDev w a F d
theorem good_dev (a : Nat) (d : Dev) : Good (dev a d) := ⟨fun h hk hG => PDev.keep h hk hG⟩
end Go.Proofs.Ytlondopgibcikaa
namespace Go.Proofs.Ytlondopgibcikaa
open Go.RowKit Ent

/-- a block -/
def blkA (g : Nat) (T : TypeId) (vs : List Value) : Asset := fun w F => Blk w g T vs ∧ F g
theorem good_blkA (g : Nat) (T : TypeId) (vs : List Value) : Good (blkA g T vs) := ⟨fun h hk hG => ⟨h.1.keep hk (hG _ h.2), h.2⟩⟩
/-- what is read beside an asset: old, or another one's block -/
def Apart (B : Nat) (As : List Asset) (i : Nat) (bo : Option Addr) : Prop :=
  (∀ x, bo = some x → x.block < B) ∨ ∃ j g T vs, i ≠ j ∧ As[j]? = some (blkA g T vs) ∧ ∀ x, bo = some x → x.block = g
theorem St.blk {B : Nat} {w0 w : World} {As : List Asset} (h : St B w0 w As) (i : Nat) {g : Nat} {T : TypeId} {vs : List Value} (hi : As[i]? = some (blkA g T vs)) : Blk w g T vs := by
  obtain ⟨F, hA, _⟩ := h.open i hi
  exact hA.1
theorem St.addBlk {B : Nat} {w0 w w' : World} {As : List Asset} (h : St B w0 w As) (hb : Below w.heap.size w w') {g : Nat} {T : TypeId} {vs : List Value} (hg : Blk w' g T vs) (h0 : w.heap.size ≤ g) : St B w0 w' (As ++ [blkA g T vs]) :=
  h.add hb (F := fun k => k = g) (good_blkA g T vs) ⟨hg, rfl⟩ (fun k hk => by rw [hk]; exact ⟨h0, hg.lt⟩)
theorem St.box {B : Nat} {w0 w : World} {As : List Asset} (h : St B w0 w As) (T : TypeId) (vs : List Value) : St B w0 (w.alloc (.cells vs.toArray T)) (As ++ [blkA w.heap.size T vs]) :=
  h.addBlk (fresh_alloc w _) (alloc_new w _) (Nat.le_refl _)
/-- a block of its own is written -/
theorem St.blkTurn {B : Nat} {w0 w w' : World} {As : List Asset} (h : St B w0 w As) (i : Nat) {g : Nat} {T : TypeId} {vs vs' : List Value} (hi : As[i]? = some (blkA g T vs)) (hk : Keep (fun k => k = g) w w') (hg : Blk w' g T vs') : St B w0 w' (As.set i (blkA g T vs')) := by
  obtain ⟨F, hA, hF, _, hcl⟩ := h.open i hi
  exact hcl w' _ F (hk.mono fun k _ e => by rw [e]; exact hA.2) (good_blkA _ _ _) ⟨hg, hA.2⟩ (fun k hk => .inl hk)
/-- .. and forgotten -/
def noA : Asset := fun _ _ => True
theorem good_noA : Good noA := ⟨fun _ _ _ => trivial⟩
theorem St.blkLost {B : Nat} {w0 w w' : World} {As : List Asset} (h : St B w0 w As) (i : Nat) {g : Nat} {T : TypeId} {vs : List Value} (hi : As[i]? = some (blkA g T vs)) (hk : Keep (fun k => k = g) w w') : St B w0 w' (As.set i noA) := by
  obtain ⟨F, hA, hF, _, hcl⟩ := h.open i hi
  exact hcl w' _ F (hk.mono fun k _ e => by rw [e]; exact hA.2) good_noA trivial (fun k hk => .inl hk)
theorem Apart.not {B : Nat} {w : World} {As : List Asset} {i : Nat} {bo : Option Addr} {F : Nat → Prop} (h : Apart B As i bo) (hF : ∀ k, F k → B ≤ k ∧ k < w.heap.size)
    (ho : ∀ (j : Nat) (C : Asset), i ≠ j → As[j]? = some C → ∃ G, C w G ∧ (∀ k, G k → B ≤ k ∧ k < w.heap.size) ∧ (∀ k, F k → ¬ G k)) : ∀ x, bo = some x → ¬ F x.block := by
  intro x hx hf
  rcases h with h | ⟨j, g, T, vs, hij, hj, h⟩
  · have := h x hx; have := (hF _ hf).1; omega
  · obtain ⟨G, hG, _, hd⟩ := ho j _ hij hj
    rw [h x hx] at hf
    exact hd _ hf hG.2
section
variable {B : Nat} {w0 w : World} {As : List Asset} {a : Nat} {d : Dev}
theorem St.dev_write (h : St B w0 w As) (i : Nat) (hi : As[i]? = some (dev a d)) (n : Int) (bo : Option Addr) (m c : Nat) (b : List UInt8) (hm : m = b.length) (hs : SB w bo c b) (hap : Apart B As i bo) (hlo : d.loose.length ≤ 1073741824) :
    Calls Try.prog 48 #[ptr a, .int .i64 n, .slice bo m c] w fun e w' => e = .returned (.int .i64 (d.write n b).1) ∧ St B w0 w' (As.set i (dev a (d.write n b).2)) := by
  obtain ⟨F, hA, hF, ho, hcl⟩ := h.open i hi
  refine (lift_write n bo m c b hm w hs (hap.not hF ho) hlo hA).mono ?_
  rintro e w' ⟨he, hp, hk⟩
  exact ⟨he, hcl w' _ _ hk (good_dev _ _) hp (fun _ h => h)⟩
theorem St.dev_flush (h : St B w0 w As) (i : Nat) (hi : As[i]? = some (dev a d)) :
    Calls Try.prog 41 #[ptr a] w fun e w' => e = .returned (.int .i64 d.flush.1) ∧ St B w0 w' (As.set i (dev a d.flush.2)) := by
  obtain ⟨F, hA, hF, ho, hcl⟩ := h.open i hi
  refine (lift_flush w hA).mono ?_
  rintro e w' ⟨he, hp, hk⟩
  exact ⟨he, hcl w' _ _ hk (good_dev _ _) hp (fun _ h => .inl h)⟩
theorem St.dev_fuse (h : St B w0 w As) (i : Nat) (hi : As[i]? = some (dev a d)) (n : Int) (h1 : -9223372036854775808 ≤ n) (h2 : n ≤ 9223372036854775807) :
    Calls Try.prog 40 #[ptr a, .int .i64 n] w fun e w' => e = .returned (.int .i64 (d.setFuse n).1) ∧ St B w0 w' (As.set i (dev a (d.setFuse n).2)) := by
  obtain ⟨F, hA, hF, ho, hcl⟩ := h.open i hi
  refine (lift_fuse n h1 h2 w hA).mono ?_
  rintro e w' ⟨he, hp, hk⟩
  exact ⟨he, hcl w' _ _ hk (good_dev _ _) hp (fun _ h => .inl h)⟩
theorem St.ok (h : St B w0 w As) (i : Nat) (hi : As[i]? = some (dev a d)) : d.ok := by
  obtain ⟨F, hA, _⟩ := h.open i hi
  obtain ⟨gi, gn, vl, lets, left, hA⟩ := hA
  exact hA.ok
theorem St.dev_crash (h : St B w0 w As) (i : Nat) (hi : As[i]? = some (dev a d)) (ko : Option Addr) (kn kc : Nat) (keep : List Bool) (hkn : kn = keep.length) (torn : Int) (hbl : BL w ko keep) (hap : keep ≠ [] → Apart B As i ko) (hkb : kn ≤ 1073741824) (hlo : d.loose.length ≤ 1073741824) :
    Calls Try.prog 39 #[ptr a, .slice ko kn kc, .int .i64 torn] w fun e w' => e = .returned (.int .i64 (d.crash keep torn).1) ∧ St B w0 w' (As.set i (dev a (d.crash keep torn).2)) := by
  obtain ⟨F, hA, hF, ho, hcl⟩ := h.open i hi
  refine (lift_crash ko kn kc keep hkn torn w hbl (fun hne => (hap hne).not hF ho) hkb hlo hA).mono ?_
  rintro e w' ⟨he, hp, hk⟩
  exact ⟨he, hcl w' _ _ hk (good_dev _ _) hp (fun _ h => .inl h)⟩
theorem St.dev_new (h : St B w0 w As) (n : Nat) (h1 : 1 ≤ n) (h2 : n ≤ 65536) :
    Calls Try.prog 46 #[.int .i64 n] w fun e w' => ∃ a, e = .returned (.tuple #[ptr a, .int .i64 0]) ∧ St B w0 w' (As ++ [dev a (Dev.new n)]) := by
  refine (new_any n h1 h2 w).mono ?_
  rintro e w' ⟨a, he, hp, hb⟩
  exact ⟨a, he, h.add hb (good_dev _ _) hp (fun _ h => h)⟩
theorem St.dev_size (h : St B w0 w As) (i : Nat) (hi : As[i]? = some (dev a d)) :
    Calls Try.prog 55 #[ptr a] w fun e w' => e = .returned (.int .i64 d.img.length) ∧ w' = w := by
  obtain ⟨F, hA, _⟩ := h.open i hi; exact lift_size w hA
theorem St.dev_out (h : St B w0 w As) (i : Nat) (hi : As[i]? = some (dev a d)) :
    Calls Try.prog 42 #[ptr a] w fun e w' => e = .returned (.bool d.out) ∧ w' = w := by
  obtain ⟨F, hA, _⟩ := h.open i hi; exact lift_out w hA
theorem St.dev_loose (h : St B w0 w As) (i : Nat) (hi : As[i]? = some (dev a d)) :
    Calls Try.prog 50 #[ptr a] w fun e w' => e = .returned (.int .i64 d.loose.length) ∧ w' = w := by
  obtain ⟨F, hA, _⟩ := h.open i hi; exact lift_loose w hA
/-- what is told is new -/
def Told (w w' : World) (v : Value) (l : List UInt8) : Prop := ∃ ao cap, v = .slice ao l.length cap ∧ l.length ≤ cap ∧ SB w' ao cap l ∧ WB w' ao l.length ∧ (∀ x, ao = some x → w.heap.size ≤ x.block ∧ x.block < w'.heap.size) ∧ Below w.heap.size w w'
theorem told_of {w' : World} {v : Value} {l : List UInt8} (h : Fresh w.heap.size w' v l) (hb : Below w.heap.size w w') : Told w w' v l := by
  obtain ⟨ao, cap, h1, h2, h3, h4, h5⟩ := h; exact ⟨ao, cap, h1, h2, h3, h4, h5, hb⟩
theorem St.dev_read (h : St B w0 w As) (i : Nat) (hi : As[i]? = some (dev a d)) (n : Int) :
    Calls Try.prog 43 #[ptr a, .int .i64 n] w fun e w' => ∃ v, e = .returned (.tuple #[v, .int .i64 (d.read n).2]) ∧ Told w w' v (d.read n).1 := by
  obtain ⟨F, hA, _⟩ := h.open i hi
  refine (lift_read n w hA).mono ?_
  rintro e w' ⟨v, he, hf, hb⟩; exact ⟨v, he, told_of hf hb⟩
theorem St.dev_image (h : St B w0 w As) (i : Nat) (hi : As[i]? = some (dev a d)) (n : Int) :
    Calls Try.prog 51 #[ptr a, .int .i64 n] w fun e w' => ∃ v, e = .returned (.tuple #[v, .int .i64 (d.image n).2]) ∧ Told w w' v (d.image n).1 := by
  obtain ⟨F, hA, _⟩ := h.open i hi
  refine (lift_image n w hA).mono ?_
  rintro e w' ⟨v, he, hf, hb⟩; exact ⟨v, he, told_of hf hb⟩
end
end Go.Proofs.Ytlondopgibcikaa
namespace Go.Proofs.Ytlondopgibcikaa
open Go.RowKit Ent

/-- an act, and where its bools lie -/
structure Act5 where
  kind : Int
  n : Int
  b : UInt8
  ko : Option Addr
  kc : Nat
  keep : List Bool
def Act5.cells (a : Act5) : List Value := [.int .i64 a.kind, .int .i64 a.n, .int .u8 (a.b.toNat : Int), .slice a.ko a.keep.length a.kc]
structure Act5.fits (w : World) (a : Act5) : Prop where
  k1 : -9223372036854775808 ≤ a.kind ∧ a.kind ≤ 9223372036854775807
  n1 : -9223372036854775808 ≤ a.n ∧ a.n ≤ 9223372036854775807
  bl : BL w a.ko a.keep
  kl : a.keep.length ≤ 9223372036854775807
theorem Act5.fits.below {w w' : World} {a : Act5} (h : a.fits w) (hb : Below w.heap.size w w') : a.fits w' := ⟨h.k1, h.n1, h.bl.below hb, h.kl⟩
/-- acts that may be read -/
def AL5 (w : World) (ao : Option Addr) (l : List Act5) : Prop := l = [] ∨ ∃ b o, ao = some ⟨b, o, none⟩ ∧ ∀ i a, l[i]? = some a → a.fits w ∧ ∀ j v, a.cells[j]? = some v → w.cell? ⟨b, o + i * 4 + j, none⟩ = some v
theorem AL5.below {w w' : World} {ao : Option Addr} {l : List Act5} (h : AL5 w ao l) (hb : Below w.heap.size w w') : AL5 w' ao l := by
  rcases h with h | ⟨b, o, rfl, h⟩
  · exact .inl h
  · refine .inr ⟨b, o, rfl, fun i a ha => ⟨(h i a ha).1.below hb, fun j v hv => ?_⟩⟩
    have hc := (h i a ha).2 j v hv
    rw [hb.cell (World.block_lt_of_cell? w _ hc)]; exact hc
theorem AL5.at {w : World} {ao : Option Addr} {l : List Act5} (h : AL5 w ao l) {i : Nat} {a : Act5} (ha : l[i]? = some a) : ∃ b o, ao = some ⟨b, o, none⟩ ∧ a.fits w ∧ ∀ j v, a.cells[j]? = some v → w.cell? ⟨b, o + i * 4 + j, none⟩ = some v := by
  rcases h with rfl | ⟨b, o, rfl, h⟩
  · simp at ha
  · exact ⟨b, o, rfl, h i a ha⟩
def long5 (l : List Act5) : Bool := (l.take 61).any (fun a => decide (60 < a.keep.length)) || decide (60 < l.length)
theorem any_take_succ {α : Type} (p : α → Bool) (l : List α) (k : Nat) {x : α} (hx : l[k]? = some x) : (l.take (k + 1)).any p = ((l.take k).any p || p x) := by
  rw [List.take_add_one, hx]; simp
set_option maxRecDepth 100000 in
set_option maxHeartbeats 400000 in
theorem long5_any (ao : Option Addr) (n c : Nat) (l : List Act5) (hn : n = l.length) (hb : n ≤ 9223372036854775807) (w : World) (hl : AL5 w ao l) :
    Calls Try.prog 52 #[.slice ao n c] w fun e w' => e = .returned (.bool (long5 l)) ∧ w' = w := by
  subst hn
  go_enter Try.func52, Try.ntmps52
  go_wp2_with fail
  go_loop [3] (fun i => ∃ k : Nat, k ≤ l.length ∧ k ≤ 61 ∧ i = .int .i64 k ∧ (l.take k).any (fun a => decide (60 < a.keep.length)) = false) (fun i => 61 - (intOf i).toNat)
  case atStart => exact ⟨0, Nat.zero_le _, by omega, rfl, by simp⟩
  case round =>
    obtain ⟨k, hk, hk61, rfl, hany⟩ := hrel
    have HA := hid hany
    clear hany
    by_cases hlt : k < l.length ∧ k < 61
    · obtain ⟨hl1, hl2⟩ := hlt
      obtain ⟨x, hx⟩ : ∃ x, l[k]? = some x := ⟨_, List.getElem?_eq_getElem hl1⟩
      obtain ⟨b, o, rfl, hf, hc⟩ := hl.at hx
      have c3 := hc 3 _ rfl
      have hkl := hf.kl
      have HT := hid (any_take_succ (fun a : Act5 => decide (60 < a.keep.length)) l k hx)
      clear hc hx hf
      by_cases h60 : 60 < x.keep.length
      · have HR : Hid (long5 l = true) := hid (by
          unfold long5
          have h1 : (l.take 61).any (fun a : Act5 => decide (60 < a.keep.length)) = true := by
            rw [List.any_eq_true]
            have h2 := HT.out
            rw [HA.out, Bool.false_or, decide_eq_true h60, List.any_eq_true] at h2
            obtain ⟨y, hy, hp⟩ := h2
            exact ⟨y, (List.take_subset_take_left l (by omega)) hy, hp⟩
          rw [h1]; rfl)
        go_wp2
        go_ret
        exact ⟨by rw [HR.out]; rfl, rfl⟩
      · go_wp2
        go_round
        case rel => exact ⟨k + 1, by omega, by omega, by go_num, by rw [HT.out, HA.out, decide_eq_false h60]; rfl⟩
        case measure => simp [intOf]; omega
    · have HR : Hid (long5 l = decide (60 < l.length)) := hid (by
        unfold long5
        have : l.take 61 = l.take k := by
          by_cases h1 : k < 61
          · rw [List.take_of_length_le (by omega), List.take_of_length_le (by omega)]
          · rw [show k = 61 by omega]
        rw [this, HA.out, Bool.false_or])
      by_cases h1 : k < l.length
      · have h2 : ¬ k < 61 := fun h => hlt ⟨h1, h⟩
        clear hlt
        go_wp2
        go_ret
        exact ⟨by rw [HR.out]; congr 1; simp; omega, rfl⟩
      · clear hlt
        go_wp2
        go_ret
        exact ⟨by rw [HR.out]; congr 1; simp; omega, rfl⟩
/-- what an act makes of a device -/
def act5 (d : Dev) (a : Act5) : Dev :=
  if a.kind = 0 then (d.write a.n (rep 64 a.b)).2 else if a.kind = 1 then d.flush.2 else if a.kind = 2 then (d.setFuse a.n).2 else if a.kind = 3 then (d.crash a.keep a.n).2
  else if a.kind = 4 then (d.write a.n (List.replicate a.b.toNat 0)).2 else d
theorem write_loose (d : Dev) (i : Int) (b : List UInt8) : (d.write i b).2.loose.length ≤ d.loose.length + 1 ∧ (d.write i b).2.img.length = d.img.length := by
  unfold Dev.write
  split
  · exact ⟨Nat.le_succ _, rfl⟩
  · split
    · exact ⟨Nat.le_succ _, rfl⟩
    · split
      · exact ⟨Nat.le_succ _, rfl⟩
      · split
        · rw [through_loose, through_img]; exact ⟨Nat.le_succ _, rfl⟩
        · exact ⟨by simp, through_img d ▸ rfl⟩
theorem flush_loose (d : Dev) : d.flush.2.loose.length ≤ d.loose.length ∧ d.flush.2.img.length = d.img.length := by
  unfold Dev.flush
  split
  · exact ⟨Nat.le_refl _, rfl⟩
  · split
    · rw [through_loose, through_img]; exact ⟨Nat.le_refl _, rfl⟩
    · exact ⟨by simp, by rw [Dev.now_len]⟩
theorem fuse_loose (d : Dev) (n : Int) : (d.setFuse n).2.loose = d.loose ∧ (d.setFuse n).2.img = d.img := by
  unfold Dev.setFuse
  split
  · exact ⟨rfl, rfl⟩
  · split <;> exact ⟨rfl, rfl⟩
theorem torn_len (L : List (List UInt8)) (x : Option (Nat × List UInt8)) (t : Nat) : (tornIn L x t).length = L.length := by
  cases x <;> simp [tornIn]
theorem crash_loose (d : Dev) (keep : List Bool) (t : Int) : (d.crash keep t).2.loose.length ≤ d.loose.length ∧ (d.crash keep t).2.img.length = d.img.length := by
  unfold Dev.crash
  split
  · exact ⟨Nat.le_refl _, rfl⟩
  · exact ⟨by simp, by rw [torn_len, laid_len]⟩
theorem act5_loose (d : Dev) (a : Act5) : (act5 d a).loose.length ≤ d.loose.length + 1 ∧ (act5 d a).img.length = d.img.length := by
  unfold act5
  split
  · exact write_loose _ _ _
  · split
    · have := flush_loose d; exact ⟨by omega, this.2⟩
    · split
      · rw [(fuse_loose _ _).1, (fuse_loose _ _).2]; exact ⟨Nat.le_succ _, rfl⟩
      · split
        · have := crash_loose d a.keep a.n; exact ⟨by omega, this.2⟩
        · split
          · exact write_loose _ _ _
          · exact ⟨Nat.le_succ _, rfl⟩
end Go.Proofs.Ytlondopgibcikaa
namespace Go.Proofs.Ytlondopgibcikaa
open Go.RowKit Ent

/-- a device that was made since w0 -/
def DV (B : Nat) (w0 w : World) (a : Nat) (d : Dev) : Prop := B ≤ w.heap.size ∧ Below B w0 w ∧ ∃ F, PDev w a F d ∧ ∀ k, F k → B ≤ k ∧ k < w.heap.size
theorem DV.below {B : Nat} {w0 w w' : World} {a : Nat} {d : Dev} (h : DV B w0 w a d) (hb : Below w.heap.size w w') : DV B w0 w' a d := by
  obtain ⟨h1, h2, F, h3, h4⟩ := h
  exact ⟨Nat.le_trans h1 hb.size, h2.trans (hb.mono h1), F, h3.below hb, fun k hk => ⟨(h4 k hk).1, Nat.lt_of_lt_of_le (h4 k hk).2 hb.size⟩⟩
theorem DV.b {B : Nat} {w0 w : World} {a : Nat} {d : Dev} (h : DV B w0 w a d) : Below B w0 w := h.2.1
theorem DV.turn {B : Nat} {w0 w w' : World} {a : Nat} {d : Dev} {F : Nat → Prop} (h1 : B ≤ w.heap.size) (h2 : Below B w0 w) (h4 : ∀ k, F k → B ≤ k ∧ k < w.heap.size) (hp : PDev w' a (grow F w w') d) (hk : Keep F w w') : DV B w0 w' a d :=
  ⟨Nat.le_trans h1 hk.size, h2.trans (hk.belowB h1 fun k hkB hF => by have := (h4 k hF).1; omega), grow F w w', hp, fun k hkk => by
    rcases hkk with h | h
    · exact ⟨(h4 k h).1, Nat.lt_of_lt_of_le (h4 k h).2 hk.size⟩
    · exact ⟨Nat.le_trans h1 h.1, h.2⟩⟩
theorem dv_puts {B : Nat} {w0 : World} {a : Nat} {d : Dev} (i : Int) (x : UInt8) (w : World) (h : DV B w0 w a d) (hlo : d.loose.length ≤ 1073741824) :
    Calls Try.prog 38 #[ptr a, .int .i64 i, .int .u8 x.toNat] w fun e w' => e = .returned (.bool (putB d i x)) ∧ DV B w0 w' a (putD d i x) := by
  obtain ⟨h1, h2, F, h3, h4⟩ := h
  refine (puts_any i x w h3 (fun k hk => (h4 k hk).2) hlo).mono ?_
  rintro e w' ⟨he, hp, hk⟩
  exact ⟨he, DV.turn h1 h2 h4 hp hk⟩
theorem dv_flush {B : Nat} {w0 : World} {a : Nat} {d : Dev} (w : World) (h : DV B w0 w a d) :
    Calls Try.prog 41 #[ptr a] w fun e w' => e = .returned (.int .i64 d.flush.1) ∧ DV B w0 w' a d.flush.2 := by
  obtain ⟨h1, h2, F, h3, h4⟩ := h
  refine (lift_flush w h3).mono ?_
  rintro e w' ⟨he, hp, hk⟩
  exact ⟨he, DV.turn h1 h2 h4 (hp.mono fun _ => .inl) hk⟩
theorem dv_fuse {B : Nat} {w0 : World} {a : Nat} {d : Dev} (n : Int) (b1 : -9223372036854775808 ≤ n) (b2 : n ≤ 9223372036854775807) (w : World) (h : DV B w0 w a d) :
    Calls Try.prog 40 #[ptr a, .int .i64 n] w fun e w' => e = .returned (.int .i64 (d.setFuse n).1) ∧ DV B w0 w' a (d.setFuse n).2 := by
  obtain ⟨h1, h2, F, h3, h4⟩ := h
  refine (lift_fuse n b1 b2 w h3).mono ?_
  rintro e w' ⟨he, hp, hk⟩
  exact ⟨he, DV.turn h1 h2 h4 (hp.mono fun _ => .inl) hk⟩
/-- the bools lie where the device has nothing: new since, or ahead of B, or nowhere -/
theorem dv_crash {B : Nat} {w0 : World} {a : Nat} {d : Dev} (ko : Option Addr) (kn kc : Nat) (keep : List Bool) (hkn : kn = keep.length) (torn : Int) (w w1 : World) (h : DV B w0 w a d) (hb : Below w.heap.size w w1) (hbl : BL w1 ko keep) (hkF : ∀ x, ko = some x → x.block < B ∨ w.heap.size ≤ x.block) (hkb : kn ≤ 1073741824) (hlo : d.loose.length ≤ 1073741824) :
    Calls Try.prog 39 #[ptr a, .slice ko kn kc, .int .i64 torn] w1 fun e w' => e = .returned (.int .i64 (d.crash keep torn).1) ∧ DV B w0 w' a (d.crash keep torn).2 := by
  obtain ⟨h1, h2, F, h3, h4⟩ := h
  refine (lift_crash ko kn kc keep hkn torn w1 hbl (fun _ x hx hF => by rcases hkF x hx with h | h <;> have := h4 _ hF <;> omega) hkb hlo (h3.below hb)).mono ?_
  rintro e w' ⟨he, hp, hk⟩
  exact ⟨he, DV.turn (Nat.le_trans h1 hb.size) (h2.trans (hb.mono h1)) (fun k hk => ⟨(h4 k hk).1, Nat.lt_of_lt_of_le (h4 k hk).2 hb.size⟩) (hp.mono fun _ => .inl) hk⟩
theorem dv_reads {B : Nat} {w0 : World} {a : Nat} {d : Dev} (i : Int) (x : UInt8) (n : Nat) (hn : n ≤ 64) (y : UInt8) (w : World) (h : DV B w0 w a d) :
    Calls Try.prog 45 #[ptr a, .int .i64 i, .int .u8 x.toNat, .int .i64 n, .int .u8 y.toNat] w fun e w' => e = .returned (.bool (readB d i x n y)) ∧ DV B w0 w' a d := by
  have h' := h
  obtain ⟨h1, h2, F, h3, h4⟩ := h
  refine (reads_any i x n hn y w h3).mono ?_
  rintro e w' ⟨he, hb⟩
  exact ⟨he, h'.below hb⟩
theorem dv_image {B : Nat} {w0 : World} {a : Nat} {d : Dev} (i : Int) (x : UInt8) (n : Nat) (hn : n ≤ 64) (y : UInt8) (w : World) (h : DV B w0 w a d) :
    Calls Try.prog 44 #[ptr a, .int .i64 i, .int .u8 x.toNat, .int .i64 n, .int .u8 y.toNat] w fun e w' => e = .returned (.bool (imageB d i x n y)) ∧ DV B w0 w' a d := by
  have h' := h
  obtain ⟨h1, h2, F, h3, h4⟩ := h
  refine (images_any i x n hn y w h3).mono ?_
  rintro e w' ⟨he, hb⟩
  exact ⟨he, h'.below hb⟩
theorem dv_read {B : Nat} {w0 : World} {a : Nat} {d : Dev} (i : Int) (w : World) (h : DV B w0 w a d) :
    Calls Try.prog 43 #[ptr a, .int .i64 i] w fun e w' => ∃ v, e = .returned (.tuple #[v, .int .i64 (d.read i).2]) ∧ Fresh w.heap.size w' v (d.read i).1 ∧ DV B w0 w' a d := by
  have h' := h
  obtain ⟨h1, h2, F, h3, h4⟩ := h
  refine (lift_read i w h3).mono ?_
  rintro e w' ⟨v, he, hv, hb⟩
  exact ⟨v, he, hv, h'.below hb⟩
theorem dv_loose {B : Nat} {w0 : World} {a : Nat} {d : Dev} (w : World) (h : DV B w0 w a d) :
    Calls Try.prog 50 #[ptr a] w fun e w' => e = .returned (.int .i64 d.loose.length) ∧ w' = w := by
  obtain ⟨h1, h2, F, h3, h4⟩ := h; exact lift_loose w h3
theorem dv_out {B : Nat} {w0 : World} {a : Nat} {d : Dev} (w : World) (h : DV B w0 w a d) :
    Calls Try.prog 42 #[ptr a] w fun e w' => e = .returned (.bool d.out) ∧ w' = w := by
  obtain ⟨h1, h2, F, h3, h4⟩ := h; exact lift_out w h3
theorem dv_new (n : Nat) (hn1 : 1 ≤ n) (hn2 : n ≤ 65536) (w : World) :
    Calls Try.prog 46 #[.int .i64 n] w fun e w' => ∃ a, e = .returned (.tuple #[ptr a, .int .i64 0]) ∧ DV w.heap.size w w' a (Dev.new n) := by
  refine (new_any n hn1 hn2 w).mono ?_
  rintro e w' ⟨a, he, hp, hb⟩
  exact ⟨a, he, hb.size, hb, _, hp, fun k hk => hk⟩

def k0 : Dev := Dev.new 2
def k1 : Dev := putD k0 0 1
def k2 : Dev := k1.flush.2
theorem kf1 : putB k0 0 1 = true := by decide +kernel
theorem kf2 : readB k1 0 1 64 0 = true := by decide +kernel
theorem kf3 : imageB k1 0 0 64 0 = true := by decide +kernel
theorem kf4 : k1.loose.length = 1 := by decide +kernel
theorem kf5 : k1.flush.1 = 0 := by decide +kernel
theorem kf6 : imageB k2 0 1 64 0 = true := by decide +kernel
set_option maxRecDepth 100000 in
set_option maxHeartbeats 400000 in
theorem one_any (w : World) :
    Calls Try.prog 37 #[] w fun e w' => ∃ a, e = .returned (ptr a) ∧ DV w.heap.size w w' a k2 := by
  go_enter Try.func37, Try.ntmps37
  go_wp2_with fail
  refine (dv_new 2 (by omega) (by omega) w).mono ?_
  rintro e w1 ⟨a, rfl, hd1⟩
  have H1 : Hid (DV w.heap.size w w1 a k0) := hid hd1
  clear hd1
  unfold ptr
  go_wp2_with fail
  refine (dv_puts 0 1 w1 H1.out (by decide +kernel)).mono ?_
  rintro e w2 ⟨rfl, hd2⟩
  have H2 : Hid (DV w.heap.size w w2 a k1) := hid hd2
  clear hd2
  rw [kf1]
  go_wp2_with fail
  refine (dv_reads 0 1 64 (by omega) 0 w2 H2.out).mono ?_
  rintro e w3 ⟨rfl, hd3⟩
  have H3 := hid hd3
  clear hd3
  rw [kf2]
  go_wp2_with fail
  refine (dv_image 0 0 64 (by omega) 0 w3 H3.out).mono ?_
  rintro e w4 ⟨rfl, hd4⟩
  have H4 := hid hd4
  clear hd4
  rw [kf3]
  go_wp2_with fail
  refine (dv_loose w4 H4.out).mono ?_
  rintro e w' ⟨rfl, rfl⟩
  rw [kf4]
  go_wp2_with fail
  refine (dv_flush w' H4.out).mono ?_
  rintro e w5 ⟨rfl, hd5⟩
  have H5 : Hid (DV w.heap.size w w5 a k2) := hid hd5
  clear hd5
  rw [kf5]
  go_wp2_with fail
  refine (dv_image 0 1 64 (by omega) 0 w5 H5.out).mono ?_
  rintro e w6 ⟨rfl, hd6⟩
  have H6 := hid hd6
  clear hd6
  rw [kf6]
  go_wp2
  go_ret
  exact ⟨a, rfl, H6.out⟩
theorem dv_write {B : Nat} {w0 : World} {a : Nat} {d : Dev} (i : Int) (bo : Option Addr) (n c : Nat) (b : List UInt8) (hn : n = b.length) (w w1 : World) (h : DV B w0 w a d) (hb : Below w.heap.size w w1) (hs : SB w1 bo c b) (hkF : ∀ x, bo = some x → x.block < B ∨ w.heap.size ≤ x.block) (hlo : d.loose.length ≤ 1073741824) :
    Calls Try.prog 48 #[ptr a, .int .i64 i, .slice bo n c] w1 fun e w' => e = .returned (.int .i64 (d.write i b).1) ∧ DV B w0 w' a (d.write i b).2 := by
  obtain ⟨h1, h2, F, h3, h4⟩ := h
  refine (lift_write i bo n c b hn w1 hs (fun x hx hF => by rcases hkF x hx with h | h <;> have := h4 _ hF <;> omega) hlo (h3.below hb)).mono ?_
  rintro e w' ⟨he, hp, hk⟩
  exact ⟨he, DV.turn (Nat.le_trans h1 hb.size) (h2.trans (hb.mono h1)) (fun k hk => ⟨(h4 k hk).1, Nat.lt_of_lt_of_le (h4 k hk).2 hb.size⟩) hp hk⟩
def a3 : Dev := putD k2 0 2
def a4 : Dev := putD a3 1 3
def a5 : Dev := (a4.crash [false, true] 5).2
theorem af1 : putB k2 0 2 = true := by decide +kernel
theorem af2 : putB a3 1 3 = true := by decide +kernel
theorem af3 : (a4.crash [false, true] 5).1 = 0 := by decide +kernel
theorem af4 : readB a5 0 2 5 1 = true := by decide +kernel
theorem af5 : readB a5 1 3 64 0 = true := by decide +kernel
theorem af6 : a5.loose.length = 0 := by decide +kernel
theorem BL.laid (w : World) (l : List Bool) (T : TypeId) {fr : Nat × Nat} : BL (w.alloc (.cells (bbv l).toArray T fr)) (some ⟨w.heap.size, 0, none⟩) l :=
  .inr ⟨_, _, rfl, fun j v hv => by rw [Nat.zero_add, cell_of_row _ _ _ _ _ _ (alloc_new w _)]; simpa using hv⟩
set_option maxRecDepth 100000 in
set_option maxHeartbeats 400000 in
theorem awake5_any (w : World) :
    Calls Try.prog 47 #[] w fun e w' => e = .returned (.bool true) ∧ Below w.heap.size w w' := by
  go_enter Try.func47, Try.ntmps47
  go_wp2_with fail
  refine (one_any w).mono ?_
  rintro e w1 ⟨a, rfl, hd1⟩
  have H1 := hid hd1
  clear hd1
  unfold ptr
  go_wp2_with fail
  refine (dv_puts 0 2 w1 H1.out (by decide +kernel)).mono ?_
  rintro e w2 ⟨rfl, hd2⟩
  have H2 : Hid (DV w.heap.size w w2 a a3) := hid hd2
  clear hd2
  rw [af1]
  go_wp2_with fail
  refine (dv_puts 1 3 w2 H2.out (by decide +kernel)).mono ?_
  rintro e w3 ⟨rfl, hd3⟩
  have H3 : Hid (DV w.heap.size w w3 a a4) := hid hd3
  clear hd3
  rw [af2]
  go_wp2_with fail
  refine (dv_crash _ 2 2 [false, true] rfl 5 w3 _ H3.out (fresh_alloc w3 _) (BL.laid w3 [false, true] _) (by rintro x ⟨⟩; exact .inr (Nat.le_refl _)) (by decide) (by decide +kernel)).mono ?_
  rintro e w4 ⟨rfl, hd4⟩
  have H4 : Hid (DV w.heap.size w w4 a a5) := hid hd4
  clear hd4
  rw [af3]
  go_wp2_with fail
  refine (dv_reads 0 2 5 (by omega) 1 w4 H4.out).mono ?_
  rintro e w5 ⟨rfl, hd5⟩
  have H5 := hid hd5
  clear hd5
  rw [af4]
  go_wp2_with fail
  refine (dv_reads 1 3 64 (by omega) 0 w5 H5.out).mono ?_
  rintro e w6 ⟨rfl, hd6⟩
  have H6 := hid hd6
  clear hd6
  rw [af5]
  go_wp2_with fail
  refine (dv_loose w6 H6.out).mono ?_
  rintro e w' ⟨rfl, rfl⟩
  rw [af6]
  go_wp2
  go_ret
  exact ⟨rfl, H6.out.b⟩
def p1 : Dev := putD k2 0 2
def p2 : Dev := (p1.crash [] 5).2
def p3 : Dev := (p2.setFuse 1).2
def p4 : Dev := putD p3 0 4
def p5 : Dev := p4.flush.2
def p6 : Dev := (p5.crash [true] 0).2
def p7 : Dev := (p6.write 2 (rep 64 1)).2
def p8 : Dev := (p7.write 0 []).2
def p9 : Dev := (p8.crash [] 64).2
theorem pf2' : (p1.crash [] 5).1 = 0 := by decide +kernel
theorem pf3' : (p2.setFuse 1).1 = 0 := by decide +kernel
theorem pf4' : putB p3 0 4 = true := by decide +kernel
theorem pf5' : p4.flush.1 = 22 := by decide +kernel
theorem pf6' : p5.out = true := by decide +kernel
theorem pf7' : (p5.read 0).2 = 22 := by decide +kernel
theorem pf8' : imageB p5 0 2 5 1 = true := by decide +kernel
theorem pf9' : (p5.crash [true] 0).1 = 0 := by decide +kernel
theorem pf10' : readB p6 0 4 64 0 = true := by decide +kernel
theorem pf11' : (p6.read 2).2 = 3 := by decide +kernel
theorem pf12' : (p6.write 2 (rep 64 1)).1 = 3 := by decide +kernel
theorem pf13' : (p7.write 0 []).1 = 2 := by decide +kernel
theorem pf14' : (p8.crash [] 64).1 = 2 := by decide +kernel
theorem pf15' : (p9.setFuse (-1)).1 = 2 := by decide +kernel
set_option maxRecDepth 100000 in
set_option maxHeartbeats 1000000 in
theorem known5_any (w : World) :
    Calls Try.prog 7 #[] w fun e w' => e = .returned (.bool true) ∧ Below w.heap.size w w' := by
  go_enter Try.func7, Try.ntmps7
  go_wp2_with fail
  refine (one_any w).mono ?_
  rintro e w1 ⟨a, rfl, hd1⟩
  have H1 := hid hd1
  clear hd1
  unfold ptr
  go_wp2_with fail
  refine (dv_puts 0 2 w1 H1.out (by decide +kernel)).mono ?_
  rintro e w2 ⟨rfl, hd2⟩
  have H2 : Hid (DV w.heap.size w w2 a p1) := hid hd2
  clear hd2
  rw [af1]
  go_wp2_with fail
  refine (dv_crash none 0 0 [] rfl 5 w2 w2 H2.out (Below.refl _ _) (.inl rfl) (by rintro x ⟨⟩) (by decide) (by decide +kernel)).mono ?_
  rintro e w3 ⟨rfl, hd3⟩
  have H3 : Hid (DV w.heap.size w w3 a p2) := hid hd3
  clear hd3
  rw [pf2']
  go_wp2_with fail
  refine (dv_fuse 1 (by omega) (by omega) w3 H3.out).mono ?_
  rintro e w4 ⟨rfl, hd4⟩
  have H4 : Hid (DV w.heap.size w w4 a p3) := hid hd4
  clear hd4
  rw [pf3']
  go_wp2_with fail
  refine (dv_puts 0 4 w4 H4.out (by decide +kernel)).mono ?_
  rintro e w5 ⟨rfl, hd5⟩
  have H5 : Hid (DV w.heap.size w w5 a p4) := hid hd5
  clear hd5
  rw [pf4']
  go_wp2_with fail
  refine (dv_flush w5 H5.out).mono ?_
  rintro e w6 ⟨rfl, hd6⟩
  have H6 : Hid (DV w.heap.size w w6 a p5) := hid hd6
  clear hd6
  rw [pf5']
  go_wp2_with fail
  refine (dv_out w6 H6.out).mono ?_
  rintro e w' ⟨rfl, rfl⟩
  rw [pf6']
  go_wp2_with fail
  refine (dv_read 0 w' H6.out).mono ?_
  rintro e w7 ⟨v7, rfl, -, hd7⟩
  have H7 := hid hd7
  clear hd7
  rw [pf7']
  go_wp2_with fail
  refine (dv_image 0 2 5 (by omega) 1 w7 H7.out).mono ?_
  rintro e w8 ⟨rfl, hd8⟩
  have H8 := hid hd8
  clear hd8
  rw [pf8']
  go_wp2_with fail
  refine (dv_crash _ 1 1 [true] rfl 0 w8 _ H8.out (fresh_alloc w8 _) (BL.laid w8 [true] _) (by rintro x ⟨⟩; exact .inr (Nat.le_refl _)) (by decide) (by decide +kernel)).mono ?_
  rintro e w9 ⟨rfl, hd9⟩
  have H9 : Hid (DV w.heap.size w w9 a p6) := hid hd9
  clear hd9
  rw [pf9']
  go_wp2_with fail
  refine (dv_reads 0 4 64 (by omega) 0 w9 H9.out).mono ?_
  rintro e w10 ⟨rfl, hd10⟩
  have H10 := hid hd10
  clear hd10
  rw [pf10']
  go_wp2_with fail
  refine (dv_read 2 w10 H10.out).mono ?_
  rintro e w11 ⟨v11, rfl, -, hd11⟩
  have H11 := hid hd11
  clear hd11
  rw [pf11']
  go_wp2_with fail
  refine (new_bad 0 (by omega) w11).mono ?_
  rintro e w' ⟨rfl, rfl⟩
  go_wp2_with fail
  refine (awake5_any w').mono ?_
  rintro e w12 ⟨rfl, hb12⟩
  have H12 := hid (H11.out.below hb12)
  clear hb12
  go_wp2_with fail
  refine (full_any 1 64 (by decide) w12).mono ?_
  rintro e w13 ⟨rfl, hm13, hb13⟩
  have HM13 := hid hm13; have HB13 := hid hb13
  clear hm13 hb13
  go_wp2_with fail
  refine (dv_write 2 _ 64 64 (rep 64 1) (by simp) w12 w13 H12.out HB13.out (.inr (.inr ⟨_, _, rfl, HM13.out.range fun j v hv => by rw [Nat.zero_add]; exact hv⟩)) (by rintro x ⟨⟩; exact .inr (Nat.le_refl _)) (by decide +kernel)).mono ?_
  rintro e w14 ⟨rfl, hd14⟩
  have H14 : Hid (DV w.heap.size w w14 a p7) := hid hd14
  clear hd14
  rw [pf12']
  go_wp2_with fail
  refine (dv_write 0 none 0 0 [] rfl w14 w14 H14.out (Below.refl _ _) (SB.nil _) (by rintro x ⟨⟩) (by decide +kernel)).mono ?_
  rintro e w15 ⟨rfl, hd15⟩
  have H15 : Hid (DV w.heap.size w w15 a p8) := hid hd15
  clear hd15
  rw [pf13']
  go_wp2_with fail
  refine (dv_crash none 0 0 [] rfl 64 w15 w15 H15.out (Below.refl _ _) (.inl rfl) (by rintro x ⟨⟩) (by decide) (by decide +kernel)).mono ?_
  rintro e w16 ⟨rfl, hd16⟩
  have H16 : Hid (DV w.heap.size w w16 a p9) := hid hd16
  clear hd16
  rw [pf14']
  go_wp2_with fail
  refine (dv_fuse (-1) (by omega) (by omega) w16 H16.out).mono ?_
  rintro e w17 ⟨rfl, hd17⟩
  have HB := hid hd17.b
  clear hd17
  rw [pf15']
  go_wp2
  go_ret
  exact ⟨rfl, HB.out⟩
end Go.Proofs.Ytlondopgibcikaa
