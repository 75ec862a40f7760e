/- The walk of the log's Write. (Printed by wip/log3.py.) What the log's Scan holds: records told, one begun. The log, plainly: what a scan tells of records one behind the other. The walk of the log's Write. (Printed by wip/log3.py.) The walk of the log's Scan. (Printed by wip/log4.py.) The walks of layer 6's helpers: has, SameLists, made, awake. Layer 6's helpers: made, awake, many, room. Assets: bytes that are read. Layer 6's helper many; LogKnown. The kit's LongLists. The log on a device that obeys, plainly. A log on a device that obeys, plainly: what was written is what it has. Plainly: what a log has behind a crash within one record; a record of sectors. -/
import Derived.Test.YtlondopgibcikaaRows
import Derived.Test.YtlondopgibcikaaGBase
import Derived.Test.YtlondopgibcikaaGDevice
import Derived.Test.YtlondopgibcikaaGRefDev
import Derived.Test.YtlondopgibcikaaGLogA
import Derived.WalkKit
import Derived.WalkSpells
import Derived.WalkLawsBesides
import Derived.Deep.RegionHeld3
import Derived.Deep.QuietTactic
import Derived.BigQuiet
import Derived.WalkMore
namespace Go.Proofs.Ytlondopgibcikaa
open Go.RowKit Ent

/-- a record's parts -/
def partsOf (rec : List UInt8) : List (List UInt8) := (List.range (needOf rec.length)).map fun j => (rec.drop (49 * j)).take 49
theorem partsOf_len (rec : List UInt8) : (partsOf rec).length = needOf rec.length := by simp [partsOf]
theorem partsOf_at (rec : List UInt8) {j : Nat} (h : j < needOf rec.length) : (partsOf rec)[j]? = some ((rec.drop (49 * j)).take 49) := by simp [partsOf, h]
theorem partsOf_49 (rec : List UInt8) {j : Nat} {p : List UInt8} (h : (partsOf rec)[j]? = some p) : p.length ≤ 49 := by
  have hj := (List.getElem?_eq_some_iff.1 h).1
  rw [partsOf_len] at hj
  rw [partsOf_at rec hj] at h
  injection h with h; subst h; simp; omega
theorem needOf_pos (n : Nat) : 1 ≤ needOf n := by unfold needOf; split <;> omega
theorem needOf_le {n : Nat} (h : n ≤ 1048576) : needOf n ≤ 21400 := by unfold needOf; split <;> omega
set_option maxRecDepth 100000 in
theorem parts_any (ao : Option Addr) (n c : Nat) (rec : List UInt8) (hn : n = rec.length) (hb : n ≤ 1048576) (hc : n ≤ c) (w : World) (hs : SB w ao c rec) :
    Calls Try.prog 114 #[.slice ao n c] w fun e w' => ∃ v vs, e = .returned v ∧ w'.ownsRow w.heap.size 22 1 v (needOf n) vs ∧ RowS w' (fun k => ∃ x, ao = some x ∧ k = x.block) vs (partsOf rec) ∧ Below w.heap.size w w' := by
  subst hn
  by_cases h0 : rec = []
  · subst h0
    refine ((callsIn_wide (n := 3)).1 (parts_in Fence.wide 3 trivial trivial trivial rfl (Nat.le_refl _) 0 0 0 c ao (.inl rfl) (by omega) (by omega) w)).mono ?_
    rintro e w' ⟨v, he, ho, hbe⟩
    rw [if_pos rfl] at ho
    refine ⟨v, _, he, ho, ⟨rfl, fun i v l hv hl => ?_⟩, hbe⟩
    match i, hv, hl with
    | 0, hv, hl =>
      simp [partsOf, needOf] at hv hl
      subst hv; subst hl
      exact ⟨none, 0, rfl, Nat.le_refl _, SB.nil _, fun x hx => by cases hx⟩
    | i + 1, hv, hl => simp at hv
  · have hne : rec.length ≠ 0 := fun h => h0 (List.eq_nil_of_length_eq_zero h)
    rcases hs with ⟨_, _, h⟩ | ⟨_, _, h⟩ | ⟨b, o, rfl, hr⟩
    · exact absurd h h0
    · exact absurd h h0
    · refine ((callsIn_wide (n := 3)).1 (parts_in Fence.wide 3 trivial trivial trivial rfl (Nat.le_refl _) b o rec.length c _ (.inr rfl) (by omega) hc w)).mono ?_
      rintro e w' ⟨v, he, ho, hbe⟩
      rw [if_neg hne] at ho
      have hq : needOf rec.length = q49 rec.length := by unfold needOf; rw [if_neg hne]; rfl
      have hr' := (Keep.ofBelow (F := fun _ => False) hbe).range hr id
      refine ⟨v, _, he, ho, ⟨by rw [List.length_map, pieces_len, partsOf_len, hq], fun i v l hv hl => ?_⟩, hbe⟩
      have hi := (List.getElem?_eq_some_iff.1 hl).1
      rw [partsOf_len] at hi
      rw [partsOf_at rec hi] at hl
      injection hl with hl; subst hl
      have hv2 : v = .slice (some ⟨b, o + 49 * i, none⟩) (min 49 (rec.length - 49 * i)) (min 49 (rec.length - 49 * i)) := by
        rw [hq] at hi
        simp [pieces, encV, hi] at hv
        exact hv.symm
      subst hv2
      have hl : ((rec.drop (49 * i)).take 49).length = min 49 (rec.length - 49 * i) := by simp
      refine ⟨some ⟨b, o + 49 * i, none⟩, min 49 (rec.length - 49 * i), by rw [hl], by rw [hl]; exact Nat.le_refl _, .inr (.inr ⟨b, o + 49 * i, rfl, fun j u hu => ?_⟩), fun x hx => by cases hx; exact ⟨_, rfl, rfl⟩⟩
      rw [Nat.add_assoc]
      refine hr' (49 * i + j) u ?_
      rw [bv_get] at hu ⊢
      rw [List.getElem?_take] at hu
      split at hu
      · rwa [List.getElem?_drop] at hu
      · cases hu
/-- a record's sectors are written -/
def writeLoop (gen at_ base many : Nat) : Nat → List (List UInt8) → Dev → Int × Dev
  | _, [], d => (0, d)
  | i, p :: ps, d => if (d.write ((base + at_ + i : Nat) : Int) (logSec gen (at_ + i) (kindOf i many) p)).1 ≠ 0 then d.write ((base + at_ + i : Nat) : Int) (logSec gen (at_ + i) (kindOf i many) p)
    else writeLoop gen at_ base many (i + 1) ps (d.write ((base + at_ + i : Nat) : Int) (logSec gen (at_ + i) (kindOf i many) p)).2
def logWrite (d : Dev) (f t g at_ : Int) (rec : List UInt8) : (Int × Int) × Dev :=
  if checkOf d f t g ≠ 0 then ((0, checkOf d f t g), d)
  else if at_ < 0 ∨ t - f < at_ then ((0, 3), d)
  else if 1048576 < rec.length then ((0, 4), d)
  else if t - f - at_ < needOf rec.length then ((0, 10), d)
  else if (writeLoop g.toNat at_.toNat f.toNat (needOf rec.length) 0 (partsOf rec) d).1 ≠ 0 then ((0, (writeLoop g.toNat at_.toNat f.toNat (needOf rec.length) 0 (partsOf rec) d).1), (writeLoop g.toNat at_.toNat f.toNat (needOf rec.length) 0 (partsOf rec) d).2)
  else ((at_ + needOf rec.length, 0), (writeLoop g.toNat at_.toNat f.toNat (needOf rec.length) 0 (partsOf rec) d).2)
theorem sb_keepE {w w' : World} {F : Nat → Prop} {ao : Option Addr} {cap : Nat} {l : List UInt8} (h : SB w ao cap l) (hk : Keep F w w') (hF : l ≠ [] → ∀ a, ao = some a → ¬ F a.block) : SB w' ao cap l := by
  by_cases hl : l = []
  · subst hl
    rcases ao with _ | a
    · rcases h with ⟨_, h, _⟩ | ⟨_, h, _⟩ | ⟨_, _, h, _⟩
      · exact .inl ⟨rfl, h, rfl⟩
      · cases h
      · cases h
    · exact .inr (.inl ⟨a, rfl, rfl⟩)
  · exact h.keep hk (hF hl)
theorem parts_ne {rec : List UInt8} {k : Nat} {p : List UInt8} (h : (partsOf rec)[k]? = some p) (hp : p ≠ []) : rec ≠ [] := by
  rintro rfl
  have hk := (List.getElem?_eq_some_iff.1 h).1
  rw [partsOf_len] at hk
  rw [partsOf_at [] hk] at h
  injection h with h
  exact hp (by rw [← h]; simp)
theorem wpo_allocS {o : Oper} {a : Act} {w : World} {K : Act → World → Prop} {Q : Exit → Act → World → Prop} (ho : o.op = .alloc 145)
    (h : ∀ g w', g = w.heap.size → Below w.heap.size w w' → Blk w' g 145 (bv (zr 64)) → K (a.put o.dst (.pointer (some ⟨g, 0, none⟩))) w') : o.wp Try.prog a w K Q := by
  have hz : (zeroValue 145).run Try.prog w = .ok (.agg (bv (zr 64)).toArray) w := by kernel_rfl
  unfold Oper.wp execOp
  simp only [ho]
  simp [newVar, newRow, newObj, hz, Sem.run_bind, Value.cells, go_sem]
  exact h _ _ rfl (fresh_alloc w _) (alloc_new w _)
end Go.Proofs.Ytlondopgibcikaa
namespace Go.Proofs.Ytlondopgibcikaa
open Go.RowKit Ent

/-- append of bytes, and where they lie then -/
theorem run_append_at (w : World) (ty : TypeId) (base : Nat) (v : Value) (n : Nat) (xs ys : List UInt8) (hown : w.ownsRow base 5 1 v n (bv xs)) (ao : Option Addr) (m c : Nat) (hm : m = ys.length) (hsrc : SB w ao c ys)
    (hb : n + m ≤ 1099511627776) (hbase : base ≤ w.heap.size) :
    ∃ v' w', (Builtin.append_ #[22, 22] ty #[v, .slice ao m c]).run Try.prog w = .ok v' w' ∧ w'.ownsRow base 5 1 v' (n + m) (bv (xs ++ ys)) ∧ w.grownBy w' v.ownBlock ∧ (v'.ownBlock = v.ownBlock ∨ v'.ownBlock = some w.heap.size) := by
  obtain ⟨i, hi, hz0, hz1, hz2⟩ := info_u8
  subst hm
  rcases hsrc with ⟨rfl, rfl, rfl⟩ | ⟨ad, rfl, rfl⟩ | ⟨b, o', rfl, hr⟩
  · exact ⟨v, w, run_append_owned_none (P := Try.prog) w base 22 ty 5 i 1 Try.underlying22 hi v n (bv xs) hown, by simpa using hown, ⟨rfl, rfl, rfl, Nat.le_refl _, fun _ _ _ => rfl⟩, .inl rfl⟩
  · obtain ⟨v', w', h1, h2, h3, _, h5⟩ := run_append_own_at (P := Try.prog) w base 22 ty 5 i (.int .u8 0) 1 1 Try.underlying22 hi hz0 hz1 hz2 rfl (by decide) v n (bv xs) hown ad 0 c (bv []) (by simp) (by intro j u hu; simp [bv] at hu) (bv_one []) (by simp [maxLen]; omega) (by omega) hbase
    rw [← bv_append] at h2
    exact ⟨v', w', h1, h2, h3, h5⟩
  · obtain ⟨v', w', h1, h2, h3, _, h5⟩ := run_append_own_at (P := Try.prog) w base 22 ty 5 i (.int .u8 0) 1 1 Try.underlying22 hi hz0 hz1 hz2 rfl (by decide) v n (bv xs) hown ⟨b, o', none⟩ ys.length c (bv ys) (by simp) (by intro j u hu; rw [Addr.add_mid]; exact hr j u hu) (bv_one ys) (by simp [maxLen]; omega) (by omega) hbase
    rw [← bv_append] at h2
    exact ⟨v', w', h1, h2, h3, h5⟩
theorem wpl_append_at {w : World} {ops : Array Oper} {rest : List Oper} {o : Oper} {a : Act} {Q : Exit → Act → World → Prop} (hgd : o.guard = none) (s x : Operand)
    (ho : o.op = .call { callee := .builtin .append, args := #[s, x], argTypes := #[22, 22] })
    (base : Nat) (v : Value) (n : Nat) (xs ys : List UInt8) (hs : a.eval s = v) (hown : w.ownsRow base 5 1 v n (bv xs)) (ao : Option Addr) (m c : Nat) (hx : a.eval x = .slice ao m c) (hm : m = ys.length) (hsrc : SB w ao c ys)
    (hb : n + m ≤ 1099511627776) (hbase : base ≤ w.heap.size)
    (h : ∀ v' w', w'.ownsRow base 5 1 v' (n + m) (bv (xs ++ ys)) → w.grownBy w' v.ownBlock → (v'.ownBlock = v.ownBlock ∨ v'.ownBlock = some w.heap.size) → wpList Try.prog ops Q rest (a.put o.dst v') w') : wpList Try.prog ops Q (o :: rest) a w := by
  refine wpList_plain hgd fun _ hK => ?_
  obtain ⟨v', w', hr, h2, h3, h4⟩ := run_append_at w o.type base v n xs ys hown ao m c hm hsrc hb hbase
  unfold Oper.wp execOp
  simp only [ho, resolve, invoke, builtin, Sem.run_bind, Sem.run_pure, Result.andThen_ok, List.map_toArray, List.map_cons, List.map_nil, hs, hx, hr]
  exact hK _ _ (h v' w' h2 h3 h4)
/-- bytes that may be read and written -/
def SW (w : World) (F : Nat → Prop) (v : Value) (l : List UInt8) : Prop := ∃ ao cap, v = .slice ao l.length cap ∧ l.length ≤ cap ∧ SB w ao cap l ∧ WB w ao l.length ∧ ∀ x, ao = some x → F x.block
theorem SW.keep {w w' : World} {F G : Nat → Prop} {v : Value} {l : List UInt8} (h : SW w F v l) (hk : Keep G w w') (hG : ∀ k, F k → ¬ G k) : SW w' F v l := by
  obtain ⟨ao, cap, hv, hc, hs, hw, hf⟩ := h
  exact ⟨ao, cap, hv, hc, hs.keep hk (fun x hx => hG _ (hf x hx)), hw.keep hk (fun x hx => hG _ (hf x hx)), hf⟩
theorem SW.mono {w : World} {F G : Nat → Prop} {v : Value} {l : List UInt8} (h : SW w F v l) (hFG : ∀ k, F k → G k) : SW w G v l := by
  obtain ⟨ao, cap, hv, hc, hs, hw, hf⟩ := h
  exact ⟨ao, cap, hv, hc, hs, hw, fun x hx => hFG _ (hf x hx)⟩
theorem SW.ss {w : World} {F : Nat → Prop} {v : Value} {l : List UInt8} (h : SW w F v l) : SS w F v l := by
  obtain ⟨ao, cap, hv, hc, hs, hw, hf⟩ := h; exact ⟨ao, cap, hv, hc, hs, hf⟩
def RowSW (w : World) (F : Nat → Prop) (vs : List Value) (L : List (List UInt8)) : Prop := vs.length = L.length ∧ ∀ (i : Nat) (v : Value) (l : List UInt8), vs[i]? = some v → L[i]? = some l → SW w F v l
theorem RowSW.ss {w : World} {F : Nat → Prop} {vs : List Value} {L : List (List UInt8)} (h : RowSW w F vs L) : RowS w F vs L := ⟨h.1, fun i v l a b => (h.2 i v l a b).ss⟩
theorem RowSW.nil (w : World) (F : Nat → Prop) : RowSW w F [] [] := ⟨rfl, fun i v l h => by simp at h⟩
theorem RowSW.keep {w w' : World} {F G : Nat → Prop} {vs : List Value} {L : List (List UInt8)} (h : RowSW w F vs L) (hk : Keep G w w') (hG : ∀ k, F k → ¬ G k) : RowSW w' F vs L := ⟨h.1, fun i v l a b => (h.2 i v l a b).keep hk hG⟩
theorem RowSW.mono {w : World} {F G : Nat → Prop} {vs : List Value} {L : List (List UInt8)} (h : RowSW w F vs L) (hFG : ∀ k, F k → G k) : RowSW w G vs L := ⟨h.1, fun i v l a b => (h.2 i v l a b).mono hFG⟩
theorem RowSW.snoc {w : World} {F : Nat → Prop} {vs : List Value} {L : List (List UInt8)} (h : RowSW w F vs L) {v : Value} {l : List UInt8} (hv : SW w F v l) : RowSW w F (vs ++ [v]) (L ++ [l]) := by
  refine ⟨by simp [h.1], fun i u m hu hm => ?_⟩
  by_cases hi : i < vs.length
  · rw [List.getElem?_append_left hi] at hu
    rw [List.getElem?_append_left (by rw [← h.1]; exact hi)] at hm
    exact h.2 i u m hu hm
  · have hi' : i = vs.length := by
      have := (List.getElem?_eq_some_iff.1 hu).1
      simp at this; omega
    subst hi'
    rw [List.getElem?_append_right (Nat.le_refl _), Nat.sub_self] at hu
    rw [List.getElem?_append_right (by rw [h.1]; exact Nat.le_refl _), h.1, Nat.sub_self] at hm
    simp at hu hm
    subst hu; subst hm; exact hv
/-- lists of bytes that are new since B blocks -/
def FreshL (B : Nat) (w : World) (v : Value) (L : List (List UInt8)) : Prop := ∃ vs Fb, w.ownsRow B 22 1 v L.length vs ∧ RowSW w Fb vs L ∧ (∀ k, Fb k → B ≤ k ∧ k < w.heap.size) ∧ ∀ k, v.ownBlock = some k → ¬ Fb k
structure ScanI (B : Nat) (w0 wr : World) (vo vr : Value) (out : List (List UInt8)) (rec : List UInt8) (vs : List Value) (Fb : Nat → Prop) : Prop where
  be : Below B w0 wr
  bl : B ≤ wr.heap.size
  oo : wr.ownsRow B 22 1 vo out.length vs
  ro : RowSW wr Fb vs out
  rr : wr.ownsRow B 5 1 vr rec.length (bv rec)
  fb : ∀ k, Fb k → B ≤ k ∧ k < wr.heap.size
  no : ∀ k, vo.ownBlock = some k → ¬ Fb k
  nr : ∀ k, vr.ownBlock = some k → ¬ Fb k ∧ vo.ownBlock ≠ some k
section
variable {B : Nat} {w0 wr w' : World} {vo vr : Value} {out : List (List UInt8)} {rec : List UInt8} {vs : List Value} {Fb : Nat → Prop}
theorem ScanI.start (w0 : World) : ScanI w0.heap.size w0 w0 (.slice none 0 0) (.slice none 0 0) [] [] [] (fun _ => False) :=
  { be := Below.refl _ _, bl := Nat.le_refl _, oo := World.ownsRow_nil _ _ _ _, ro := RowSW.nil _ _, rr := World.ownsRow_nil _ _ _ _, fb := fun _ h => h.elim, no := fun _ h => by simp [Value.ownBlock] at h, nr := fun _ h => by simp [Value.ownBlock] at h }
theorem ScanI.below (h : ScanI B w0 wr vo vr out rec vs Fb) (hb : Below wr.heap.size wr w') : ScanI B w0 w' vo vr out rec vs Fb :=
  { h with be := h.be.trans (hb.mono h.bl), bl := Nat.le_trans h.bl hb.size, oo := owns_below h.oo hb, ro := h.ro.keep (Keep.ofBelow (F := fun _ => False) hb) (fun _ _ => id), rr := owns_below h.rr hb, fb := fun k hk => ⟨(h.fb k hk).1, Nat.lt_of_lt_of_le (h.fb k hk).2 hb.size⟩ }
theorem ScanI.grew (h : ScanI B w0 wr vo vr out rec vs Fb) {v' : Value} {p : List UInt8} (ho : w'.ownsRow B 5 1 v' (rec.length + p.length) (bv (rec ++ p))) (hg : wr.grownBy w' vr.ownBlock) (hw : v'.ownBlock = vr.ownBlock ∨ v'.ownBlock = some wr.heap.size) : ScanI B w0 w' vo v' out (rec ++ p) vs Fb := by
  have hk : Keep (fun k => vr.ownBlock = some k) wr w' := (Keep.refl _ wr).grown hg (fun k hk _ => hk)
  exact { be := h.be.grown hg h.bl (owns_ge h.rr)
          bl := Nat.le_trans h.bl hk.size
          oo := owns_keep h.oo hk (fun k h1 h2 => (h.nr k h2).2 h1)
          ro := h.ro.keep hk (fun k h1 h2 => (h.nr k h2).1 h1)
          rr := by rw [List.length_append]; exact ho
          fb := fun k hk' => ⟨(h.fb k hk').1, Nat.lt_of_lt_of_le (h.fb k hk').2 hk.size⟩
          no := h.no
          nr := fun k hk' => by
            rcases hw with e | e
            · exact h.nr k (by rw [← e]; exact hk')
            · rw [e] at hk'; injection hk' with hk'
              refine ⟨fun hf => by have := (h.fb k hf).2; omega, fun he => ?_⟩
              have := own_lt h.oo k he; omega }
/-- a record is told -/
theorem ScanI.told (h : ScanI B w0 wr vo vr out rec vs Fb) {v' : Value} (ho : w'.ownsRow B 22 1 v' (out.length + 1) (vs ++ [vr])) (hg : wr.grownBy w' vo.ownBlock) (hw : v'.ownBlock = vo.ownBlock ∨ v'.ownBlock = some wr.heap.size) :
    ScanI B w0 w' v' (.slice none 0 0) (out ++ [rec]) [] (vs ++ [vr]) (fun k => Fb k ∨ vr.ownBlock = some k) := by
  have hk : Keep (fun k => vo.ownBlock = some k) wr w' := (Keep.refl _ wr).grown hg (fun k hk _ => hk)
  have hsw : SW wr (fun k => Fb k ∨ vr.ownBlock = some k) vr rec := by
    obtain ⟨ao, cap, rfl, _, hc, hs, hwb, _⟩ := own_all h.rr
    refine ⟨ao, cap, rfl, hc, hs, hwb, fun x hx => .inr (by rw [hx]; rfl)⟩
  exact { be := h.be.grown hg h.bl (owns_ge h.oo)
          bl := Nat.le_trans h.bl hk.size
          oo := by rw [List.length_append]; exact ho
          ro := (h.ro.mono (fun _ => .inl)).snoc hsw |>.keep hk (fun k h1 h2 => by
            rcases h1 with h1 | h1
            · exact h.no k h2 h1
            · exact (h.nr k h1).2 h2)
          rr := World.ownsRow_nil _ _ _ _
          fb := fun k hk' => by
            rcases hk' with hk' | hk'
            · exact ⟨(h.fb k hk').1, Nat.lt_of_lt_of_le (h.fb k hk').2 hk.size⟩
            · exact ⟨owns_ge h.rr k hk', Nat.lt_of_lt_of_le (own_lt h.rr k hk') hk.size⟩
          no := fun k hk' => by
            rcases hw with e | e
            · rintro (h1 | h1)
              · exact h.no k (by rw [← e]; exact hk') h1
              · exact (h.nr k h1).2 (by rw [← e]; exact hk')
            · rw [e] at hk'; injection hk' with hk'
              rintro (h1 | h1)
              · have := (h.fb k h1).2; omega
              · have := own_lt h.rr k h1; omega
          nr := fun k hk' => by simp [Value.ownBlock] at hk' }
theorem ScanI.fresh (h : ScanI B w0 wr vo vr out rec vs Fb) : FreshL B wr vo out := ⟨vs, Fb, h.oo, h.ro, h.fb, h.no⟩
end
def scanLoop (d : Dev) (base gen : Nat) : Nat → Nat → List (List UInt8) → Nat → List UInt8 → Bool → List (List UInt8) × Nat
  | 0, _, out, next, _, _ => (out, next)
  | m + 1, i, out, next, rec, begun =>
    match rightOf (d.read ((base + i : Nat) : Int)).1 gen i with
    | none => (out, next)
    | some (k, p) =>
      if begun ≠ decide (k = 3 ∨ k = 4) then (out, next)
      else if k = 2 ∨ k = 3 then scanLoop d base gen m (i + 1) out next (rec ++ p) true
      else scanLoop d base gen m (i + 1) (out ++ [rec ++ p]) (i + 1) [] false
def logScan (d : Dev) (f t g : Int) : List (List UInt8) × Int × Int :=
  if checkOf d f t g ≠ 0 then ([], 0, checkOf d f t g) else if d.out then ([], 0, 22)
  else ((scanLoop d f.toNat g.toNat (t - f).toNat 0 [] 0 [] false).1, ((scanLoop d f.toNat g.toNat (t - f).toNat 0 [] 0 [] false).2 : Int), 0)
theorem read_len {d : Dev} (h : d.ok) (ho : d.out = false) {i : Nat} (hi : i < d.img.length) : (d.read (i : Int)).1.length = 64 := by
  obtain ⟨s, hs⟩ : ∃ s, d.now[i]? = some s := ⟨_, List.getElem?_eq_getElem (by rw [d.now_len]; exact hi)⟩
  have hh : has d.img.length (i : Int) = true := by simp [has]; omega
  have : d.read (i : Int) = (s, 0) := by unfold Dev.read secOf; rw [ho, d.now_len, hh]; simp [hs]
  rw [this]
  exact h.now64.get hs
theorem right_kind {b : List UInt8} {gen index k : Nat} {p : List UInt8} (h : rightOf b gen index = some (k, p)) : 1 ≤ k ∧ k ≤ 4 ∧ p.length ≤ 49 := by
  unfold rightOf at h
  simp only at h
  split at h
  · cases h
  · rename_i hh
    split at h
    · injection h with h; injection h with h1 h2
      subst h1; subst h2
      exact ⟨by omega, by omega, Nat.le_trans (List.length_take_le _ _) (by omega)⟩
    · cases h
theorem right_part {b : List UInt8} {gen index k : Nat} {p : List UInt8} (h : rightOf b gen index = some (k, p)) : ∃ u, p = (b.drop 14).take u := by
  unfold rightOf at h
  simp only at h
  split at h
  · cases h
  · split at h
    · injection h with h; injection h with h1 h2
      exact ⟨_, h2.symm⟩
    · cases h
end Go.Proofs.Ytlondopgibcikaa
namespace Go.Proofs.Ytlondopgibcikaa
open Go.RowKit Ent

/-! ### what is right -/
theorem sec_split (gen idx k : Nat) (p : List UInt8) : logSec gen idx k p = be4 (csum (secBody gen idx k p)).toNat ++ (be4 gen ++ (be4 idx ++ ([UInt8.ofNat k, UInt8.ofNat p.length] ++ (p ++ (zr (49 - p.length) ++ [165]))))) := rfl
theorem sec_12 (gen idx k : Nat) (p : List UInt8) : (logSec gen idx k p).getD 12 0 = UInt8.ofNat k := by
  rw [sec_split]; simp [be4]
theorem sec_13 (gen idx k : Nat) (p : List UInt8) : (logSec gen idx k p).getD 13 0 = UInt8.ofNat p.length := by
  rw [sec_split]; simp [be4]
theorem sec_14 (gen idx k : Nat) (p : List UInt8) : ((logSec gen idx k p).drop 14).take p.length = p := by
  rw [sec_split]; simp [be4]
theorem sec_63 {gen idx k : Nat} {p : List UInt8} (h : p.length ≤ 49) : (logSec gen idx k p)[63]? = some 165 := by
  have hl := logSec_len (gen := gen) (index := idx) (kind := k) h
  have h1 : logSec gen idx k p = (be4 (csum (secBody gen idx k p)).toNat ++ (be4 gen ++ (be4 idx ++ ([UInt8.ofNat k, UInt8.ofNat p.length] ++ (p ++ zr (49 - p.length)))))) ++ [165] := by
    rw [sec_split]; simp only [List.append_assoc]
  have h2 : (be4 (csum (secBody gen idx k p)).toNat ++ (be4 gen ++ (be4 idx ++ ([UInt8.ofNat k, UInt8.ofNat p.length] ++ (p ++ zr (49 - p.length)))))).length = 63 := by
    rw [h1, List.length_append] at hl; simpa using hl
  rw [h1, List.getElem?_append_right (by rw [h2]; exact Nat.le_refl _), h2]
  rfl
/-- may a sector be of this kind with a part of this length? -/
def fitK (k u : Nat) : Prop := 1 ≤ k ∧ k ≤ 4 ∧ u ≤ 49 ∧ (k = 2 ∨ k = 3 → u = 49) ∧ (k = 4 → u ≠ 0)
theorem nat8 {n : Nat} (h : n < 256) : (UInt8.ofNat n).toNat = n := by simp; omega
theorem right_sec {gen idx k : Nat} {p : List UInt8} (h : fitK k p.length) : rightOf (logSec gen idx k p) gen idx = some (k, p) := by
  obtain ⟨h1, h2, h3, h4, h5⟩ := h
  have hk := nat8 (n := k) (by omega)
  have hu := nat8 (n := p.length) (by omega)
  unfold rightOf
  simp only [sec_12, sec_13, hk, hu, sec_14]
  rw [if_neg (by omega), if_pos trivial]
theorem right_is {b : List UInt8} {gen idx k : Nat} {p : List UInt8} (h : rightOf b gen idx = some (k, p)) : b = logSec gen idx k p ∧ p.length ≤ 49 := by
  have h3 := (right_kind h).2.2
  unfold rightOf at h
  simp only at h
  split at h
  · cases h
  · split at h
    · rename_i hh
      injection h with h; injection h with ha hb
      subst ha; subst hb
      exact ⟨hh.symm, h3⟩
    · cases h
theorem sec_other {gen idx k gen' idx' k' : Nat} {p p' : List UInt8} (hg : gen < 4294967296) (hi : idx < 4294967296) (hg' : gen' < 4294967296) (hi' : idx' < 4294967296) (h : logSec gen idx k p = logSec gen' idx' k' p') : gen = gen' ∧ idx = idx' := by
  rw [sec_split, sec_split] at h
  have h1 := (List.append_inj h rfl).2
  have h2 := List.append_inj h1 rfl
  have h3 := List.append_inj h2.2 rfl
  exact ⟨be4_inj hg hg' h2.1, be4_inj hi hi' h3.1⟩
/-- a sector of another log, or of another place -/
theorem wrong_sec {gen idx k gen' idx' : Nat} {p : List UInt8} (hg : gen < 4294967296) (hi : idx < 4294967296) (hg' : gen' < 4294967296) (hi' : idx' < 4294967296) (h : gen ≠ gen' ∨ idx ≠ idx') : rightOf (logSec gen idx k p) gen' idx' = none := by
  rcases hr : rightOf (logSec gen idx k p) gen' idx' with _ | ⟨k', p'⟩
  · rfl
  · have := sec_other hg hi hg' hi' (right_is hr).1
    omega
theorem wrong_63 {b : List UInt8} {gen idx : Nat} (h : b[63]? ≠ some 165) : rightOf b gen idx = none := by
  rcases hr : rightOf b gen idx with _ | ⟨k', p'⟩
  · rfl
  · obtain ⟨h1, h2⟩ := right_is hr
    rw [h1] at h
    exact absurd (sec_63 h2) h
theorem wrong_zr (gen idx : Nat) : rightOf (zr 64) gen idx = none := wrong_63 (by simp [zr])

/-! ### scans -/
def scanS (S : Nat → List UInt8) (gen : Nat) : Nat → Nat → List (List UInt8) → Nat → List UInt8 → Bool → List (List UInt8) × Nat
  | 0, _, out, next, _, _ => (out, next)
  | m + 1, i, out, next, rec, begun =>
    match rightOf (S i) gen i with
    | none => (out, next)
    | some (k, p) =>
      if begun ≠ decide (k = 3 ∨ k = 4) then (out, next)
      else if k = 2 ∨ k = 3 then scanS S gen m (i + 1) out next (rec ++ p) true
      else scanS S gen m (i + 1) (out ++ [rec ++ p]) (i + 1) [] false
theorem scanLoop_S (d : Dev) (base gen : Nat) : ∀ (m i : Nat) (out : List (List UInt8)) (next : Nat) (rec : List UInt8) (b : Bool), scanLoop d base gen m i out next rec b = scanS (fun i => (d.read ((base + i : Nat) : Int)).1) gen m i out next rec b
  | 0, _, _, _, _, _ => rfl
  | m + 1, i, out, next, rec, b => by
    rw [scanLoop, scanS]
    rcases rightOf (d.read ((base + i : Nat) : Int)).1 gen i with _ | ⟨k, p⟩
    · rfl
    · simp only [scanLoop_S d base gen m]
theorem scanS_stop {S : Nat → List UInt8} {gen m i : Nat} {out : List (List UInt8)} {next : Nat} {rec : List UInt8} {b : Bool} (h : rightOf (S i) gen i = none) : scanS S gen m i out next rec b = (out, next) := by
  cases m
  · rfl
  · rw [scanS, h]
/-- the j-th sector of a record that lies at at_ -/
def recSec (gen at_ : Nat) (rec : List UInt8) (j : Nat) : List UInt8 := logSec gen (at_ + j) (kindOf j (needOf rec.length)) ((rec.drop (49 * j)).take 49)
theorem part_fit (rec : List UInt8) {j : Nat} (h : j < needOf rec.length) : fitK (kindOf j (needOf rec.length)) ((rec.drop (49 * j)).take 49).length := by
  have hl : ((rec.drop (49 * j)).take 49).length = min 49 (rec.length - 49 * j) := by simp
  rw [hl]
  unfold needOf at h ⊢
  unfold kindOf fitK
  split at h <;> rename_i h0
  · have : j = 0 := by omega
    subst this
    simp [h0]
  · rw [if_neg h0]
    split
    · omega
    · split
      · omega
      · split <;> omega
theorem right_rec (gen at_ : Nat) (rec : List UInt8) {j : Nat} (h : j < needOf rec.length) : rightOf (recSec gen at_ rec j) gen (at_ + j) = some (kindOf j (needOf rec.length), (rec.drop (49 * j)).take 49) := right_sec (part_fit rec h)
theorem take_part (rec : List UInt8) (j : Nat) : rec.take (49 * j) ++ (rec.drop (49 * j)).take 49 = rec.take (49 * (j + 1)) := by
  rw [show 49 * (j + 1) = 49 * j + 49 by omega, List.take_add]
theorem take_all (rec : List UInt8) : rec.take (49 * needOf rec.length) = rec := by
  apply List.take_of_length_le
  unfold needOf; split <;> omega
/-- within a record -/
theorem scan_part {S : Nat → List UInt8} {gen at_ : Nat} {rec : List UInt8} {out : List (List UInt8)} : ∀ (j m : Nat), j < needOf rec.length → (∀ i, i < j → S (at_ + i) = recSec gen at_ rec i) →
    scanS S gen (j + m) at_ out at_ [] false = scanS S gen m (at_ + j) out at_ (rec.take (49 * j)) (decide (0 < j)) := by
  intro j
  induction j with
  | zero => intro m _ _; simp
  | succ j ih =>
    intro m hj hS
    rw [show j + 1 + m = j + (m + 1) by omega, ih (m + 1) (by omega) (fun i hi => hS i (by omega)), scanS, hS j (by omega), right_rec gen at_ rec (by omega)]
    have hk : kindOf j (needOf rec.length) = if j = 0 then 2 else 3 := by
      unfold kindOf; rw [if_neg (by omega)]
      split
      · rfl
      · rw [if_neg (by omega)]
    simp only [hk]
    by_cases h0 : j = 0
    · subst h0; simp
    · have hd : decide (0 < j) = true := by simp; omega
      simp [h0, hd, take_part, ← Nat.add_assoc]
/-- over a record -/
theorem scan_rec {S : Nat → List UInt8} {gen at_ : Nat} {rec : List UInt8} {out : List (List UInt8)} (m : Nat) (hS : ∀ i, i < needOf rec.length → S (at_ + i) = recSec gen at_ rec i) :
    scanS S gen (needOf rec.length + m) at_ out at_ [] false = scanS S gen m (at_ + needOf rec.length) (out ++ [rec]) (at_ + needOf rec.length) [] false := by
  have hp := needOf_pos rec.length
  obtain ⟨j, hj⟩ : ∃ j, needOf rec.length = j + 1 := ⟨needOf rec.length - 1, by omega⟩
  rw [show needOf rec.length + m = j + (m + 1) by omega, scan_part j (m + 1) (by omega) (fun i hi => hS i (by omega)), scanS, hS j (by omega), right_rec gen at_ rec (by omega)]
  have ht := take_all rec
  rw [hj, ← take_part] at ht
  have hk : kindOf j (needOf rec.length) = if j = 0 then 1 else 4 := by
    unfold kindOf
    by_cases h0 : j = 0
    · rw [if_pos (by omega), if_pos h0]
    · rw [if_neg (by omega), if_neg h0, if_pos (by omega), if_neg h0]
  simp only [hk]
  by_cases h0 : j = 0
  · subst h0; simp at ht ⊢; rw [hj]; simp [ht]
  · have hd : decide (0 < j) = true := by simp; omega
    rw [if_neg h0, hd]
    simp only [hj, ht, ← Nat.add_assoc]
    simp
/-! ### records one behind the other -/
def needsOf : List (List UInt8) → Nat
  | [] => 0
  | r :: L => needOf r.length + needsOf L
theorem needsOf_snoc (L : List (List UInt8)) (r : List UInt8) : needsOf (L ++ [r]) = needsOf L + needOf r.length := by
  induction L with
  | nil => simp [needsOf]
  | cons x L ih => simp [needsOf, ih]; omega
/-- do these records lie in the sectors from at_ on? -/
def LiesIn (S : Nat → List UInt8) (gen : Nat) : Nat → List (List UInt8) → Prop
  | _, [] => True
  | at_, r :: L => (∀ j, j < needOf r.length → S (at_ + j) = recSec gen at_ r j) ∧ LiesIn S gen (at_ + needOf r.length) L
theorem scan_recs {S : Nat → List UInt8} {gen : Nat} (m : Nat) : ∀ (L : List (List UInt8)) (at_ : Nat) (out : List (List UInt8)), LiesIn S gen at_ L →
    scanS S gen (needsOf L + m) at_ out at_ [] false = scanS S gen m (at_ + needsOf L) (out ++ L) (at_ + needsOf L) [] false
  | [], at_, out, _ => by simp [needsOf]
  | r :: L, at_, out, h => by
    rw [show needsOf (r :: L) + m = needOf r.length + (needsOf L + m) by simp [needsOf]; omega, scan_rec _ h.1, scan_recs m L _ _ h.2]
    simp [needsOf, Nat.add_assoc]
theorem LiesIn.snoc {S : Nat → List UInt8} {gen : Nat} : ∀ {L : List (List UInt8)} {at_ : Nat} {r : List UInt8}, LiesIn S gen at_ L → (∀ j, j < needOf r.length → S (at_ + needsOf L + j) = recSec gen (at_ + needsOf L) r j) → LiesIn S gen at_ (L ++ [r])
  | [], at_, r, _, h2 => by exact ⟨by simpa [needsOf] using h2, trivial⟩
  | x :: L, at_, r, h, h2 => by
    refine ⟨h.1, LiesIn.snoc h.2 ?_⟩
    intro j hj
    have := h2 j hj
    simpa [needsOf, Nat.add_assoc] using this
theorem LiesIn.same {S T : Nat → List UInt8} {gen : Nat} : ∀ {L : List (List UInt8)} {at_ : Nat}, LiesIn S gen at_ L → (∀ i, at_ ≤ i → i < at_ + needsOf L → T i = S i) → LiesIn T gen at_ L
  | [], _, _, _ => trivial
  | x :: L, at_, h, h2 => by
    refine ⟨fun j hj => ?_, h.2.same fun i h3 h4 => h2 i (by omega) (by simp [needsOf]; omega)⟩
    rw [h2 (at_ + j) (by omega) (by simp [needsOf]; omega)]
    exact h.1 j hj
/-- whatever lies in a sector of records lies there under its own index -/
theorem LiesIn.at {S : Nat → List UInt8} {gen : Nat} : ∀ {L : List (List UInt8)} {at_ : Nat}, LiesIn S gen at_ L → ∀ i, at_ ≤ i → i < at_ + needsOf L → ∃ k p, S i = logSec gen i k p
  | [], at_, _, i, h1, h2 => by simp [needsOf] at h2; omega
  | x :: L, at_, h, i, h1, h2 => by
    by_cases hi : i < at_ + needOf x.length
    · refine ⟨kindOf (i - at_) (needOf x.length), ((x.drop (49 * (i - at_))).take 49), ?_⟩
      have := h.1 (i - at_) (by omega)
      rw [show at_ + (i - at_) = i by omega] at this
      rw [this, recSec, show at_ + (i - at_) = i by omega]
    · exact h.2.at i (by omega) (by simp [needsOf] at h2; omega)
/-- a scan from the start, behind which nothing right lies -/
theorem scan_all {S : Nat → List UInt8} {gen m : Nat} {L : List (List UInt8)} (h : LiesIn S gen 0 L) (hm : needsOf L ≤ m) (hz : needsOf L < m → rightOf (S (needsOf L)) gen (needsOf L) = none) : scanS S gen m 0 [] 0 [] false = (L, needsOf L) := by
  have h1 := scan_recs (m - needsOf L) L 0 [] h
  rw [show needsOf L + (m - needsOf L) = m by omega] at h1
  rw [h1]
  simp only [Nat.zero_add, List.nil_append]
  by_cases hlt : needsOf L < m
  · exact scanS_stop (hz hlt)
  · rw [show m - needsOf L = 0 by omega]; rfl
/-- .. behind which a record lies that was not finished -/
theorem scan_torn {S : Nat → List UInt8} {gen m j : Nat} {L : List (List UInt8)} {r : List UInt8} (h : LiesIn S gen 0 L) (hj : j < needOf r.length) (hm : needsOf L + j < m) (hp : ∀ i, i < j → S (needsOf L + i) = recSec gen (needsOf L) r i) (hz : rightOf (S (needsOf L + j)) gen (needsOf L + j) = none) : scanS S gen m 0 [] 0 [] false = (L, needsOf L) := by
  have h1 := scan_recs (m - needsOf L) L 0 [] h
  rw [show needsOf L + (m - needsOf L) = m by omega] at h1
  rw [h1]
  simp only [Nat.zero_add, List.nil_append]
  have h2 := scan_part (S := S) (gen := gen) (at_ := needsOf L) (rec := r) (out := L) j (m - needsOf L - j) hj hp
  rw [show j + (m - needsOf L - j) = m - needsOf L by omega] at h2
  rw [h2]
  exact scanS_stop hz
end Go.Proofs.Ytlondopgibcikaa
namespace Go.Proofs.Ytlondopgibcikaa
open Go.RowKit Ent

theorem kindOf_le (i many : Nat) : kindOf i many ≤ 255 := by unfold kindOf; split <;> (try split) <;> (try split) <;> omega
set_option maxRecDepth 100000 in
set_option maxHeartbeats 4000000 in
theorem logWrite_any {a : Nat} {F : Nat → Prop} {d : Dev} (f t g at_ : Int) (ao : Option Addr) (rn rc : Nat) (rec : List UInt8) (hrn : rn = rec.length) (hrc : rn ≤ rc) (hrm : rn ≤ 9223372036854775807) (w : World) (hs : SB w ao rc rec) (hsF : rec ≠ [] → ∀ x, ao = some x → ¬ F x.block) (h : PDev w a F d) (hF : ∀ k, F k → k < w.heap.size) (hlo : d.loose.length ≤ 1073000000) (ha1 : -9223372036854775808 ≤ at_ ∧ at_ ≤ 9223372036854775807) :
    Calls Try.prog 64 #[ptr a, .agg #[.int .i64 f, .int .i64 t, .int .i64 g], .int .i64 at_, .slice ao rn rc] w fun e w' => e = .returned (.tuple #[.int .i64 (logWrite d f t g at_ rec).1.1, .int .i64 (logWrite d f t g at_ rec).1.2]) ∧ PDev w' a (grow F w w') (logWrite d f t g at_ rec).2 ∧ Keep F w w' := by
  have hok : d.ok := by obtain ⟨_, _, _, _, _, h⟩ := h; exact h.ok
  have HLEN := hid hok.len
  have HRN := hid hrn
  have HSB := hid hs; have HSF := hid hsF; have HF := hid hF
  obtain ⟨w1, hw1⟩ : ∃ w1, w.alloc (.cells #[.int .i64 f, .int .i64 t, .int .i64 g] 76) = w1 := ⟨_, rfl⟩
  have HW1 := hid hw1
  have HBX : Hid (Blk w1 w.heap.size 76 [.int .i64 f, .int .i64 t, .int .i64 g]) := hid (by rw [← hw1]; exact alloc_new w _)
  have HB1 : Hid (Below w.heap.size w w1) := hid (by rw [← hw1]; exact fresh_alloc w _)
  have H1 := hid (h.below HB1.out)
  clear hw1 h hF hok hrn hs hsF
  unfold ptr
  by_cases hc : checkOf d f t g ≠ 0
  · have HE : Hid (logWrite d f t g at_ rec = ((0, checkOf d f t g), d)) := hid (by unfold logWrite; rw [if_pos hc])
    have H3 := hid ((check_code d f t g).resolve_left hc)
    clear hc
    go_enter Try.func64, Try.ntmps64
    go_wp2_with fail
    rw [HW1.out]
    refine (check_any f t g w1 H1.out).mono ?_
    rintro e w2 ⟨rfl, hb2⟩
    rw [H3.out]
    have HB2 := hid hb2
    clear hb2
    go_wp2
    go_ret2
    exact ⟨by rw [HE.out]; show _ = Ending.returned (.tuple #[.int .i64 0, .int .i64 (checkOf d f t g)]); rw [H3.out]; rfl, by rw [HE.out]; exact (H1.out.below HB2.out).mono fun _ => .inl, (Keep.ofBelow HB1.out).trans (Keep.ofBelow HB2.out)⟩
  obtain ⟨h1, h2, h3, h4, h5⟩ := check_ok hc
  have H0 : Hid (checkOf d f t g = 0) := hid (by simpa using hc)
  have HCN := hid hc
  clear hc
  obtain ⟨n, rfl⟩ : ∃ n : Nat, f = (n : Int) := ⟨f.toNat, by omega⟩
  obtain ⟨m, rfl⟩ : ∃ m : Nat, t = (n : Int) + (m : Int) := ⟨(t - n).toNat, by omega⟩
  obtain ⟨gm, rfl⟩ : ∃ gm : Nat, g = (gm : Int) := ⟨g.toNat, by omega⟩
  have hnm : n + m ≤ 65536 := by have := HLEN.out; omega
  have hsub : ((n : Int) + (m : Int) - (n : Int)) = (m : Int) := by omega
  have HSUB := hid hsub
  clear h1 h2 h3
  by_cases ha : at_ < 0 ∨ (m : Int) < at_
  · have HE : Hid (logWrite d n (n + m) gm at_ rec = ((0, 3), d)) := hid (by unfold logWrite; rw [if_neg HCN.out, if_pos (by rw [HSUB.out]; exact ha)])
    by_cases ha0 : at_ < 0
    all_goals
      (try have ha2 : (m : Int) < at_ := by omega)
      clear ha
      go_enter Try.func64, Try.ntmps64
      go_wp2_with fail
      rw [HW1.out]
      refine (check_any n (n + m) gm w1 H1.out).mono ?_
      rintro e w2 ⟨rfl, hb2⟩
      rw [H0.out]
      have cb0 := (HBX.out.below hb2 HBX.out.lt).cell (j := 0) rfl
      have cb1 := (HBX.out.below hb2 HBX.out.lt).cell (j := 1) rfl
      have HB2 := hid hb2
      clear hb2
      go_wp2
      go_ret2
      exact ⟨by rw [HE.out]; rfl, by rw [HE.out]; exact (H1.out.below HB2.out).mono fun _ => .inl, (Keep.ofBelow HB1.out).trans (Keep.ofBelow HB2.out)⟩
  obtain ⟨A, rfl⟩ : ∃ A : Nat, at_ = (A : Int) := ⟨at_.toNat, by omega⟩
  have hA : A ≤ m := by omega
  have HAN := hid ha
  clear ha ha1
  by_cases hl : 1048576 < rn
  · have HE : Hid (logWrite d n (n + m) gm A rec = ((0, 4), d)) := hid (by unfold logWrite; rw [if_neg HCN.out, if_neg (by rw [HSUB.out]; exact HAN.out), if_pos (by rw [← HRN.out]; exact hl)])
    go_enter Try.func64, Try.ntmps64
    go_wp2_with fail
    rw [HW1.out]
    refine (check_any n (n + m) gm w1 H1.out).mono ?_
    rintro e w2 ⟨rfl, hb2⟩
    rw [H0.out]
    have cb0 := (HBX.out.below hb2 HBX.out.lt).cell (j := 0) rfl
    have cb1 := (HBX.out.below hb2 HBX.out.lt).cell (j := 1) rfl
    have HB2 := hid hb2
    clear hb2
    go_wp2
    go_ret2
    exact ⟨by rw [HE.out]; rfl, by rw [HE.out]; exact (H1.out.below HB2.out).mono fun _ => .inl, (Keep.ofBelow HB1.out).trans (Keep.ofBelow HB2.out)⟩
  have hrn2 : rn ≤ 1048576 := by omega
  clear hl
  obtain ⟨Q, hQ⟩ : ∃ Q, Q = needOf rn := ⟨_, rfl⟩
  have hQ1 : 1 ≤ Q := by rw [hQ]; exact needOf_pos rn
  have HQ := hid hQ
  clear hQ
  by_cases hfull : m < A + Q
  · have HE : Hid (logWrite d n (n + m) gm A rec = ((0, 10), d)) := hid (by unfold logWrite; rw [if_neg HCN.out, if_neg (by rw [HSUB.out]; exact HAN.out), if_neg (by rw [← HRN.out]; omega), if_pos (by rw [HSUB.out, ← HRN.out, ← HQ.out]; omega)])
    have hdec : decide ((m : Int) - (A : Int) < ((needOf rn : Nat) : Int)) = true := decide_eq_true (by rw [← HQ.out]; omega)
    go_enter Try.func64, Try.ntmps64
    go_wp2_with fail
    rw [HW1.out]
    refine (check_any n (n + m) gm w1 H1.out).mono ?_
    rintro e w2 ⟨rfl, hb2⟩
    rw [H0.out]
    have cb0 := (HBX.out.below hb2 HBX.out.lt).cell (j := 0) rfl
    have cb1 := (HBX.out.below hb2 HBX.out.lt).cell (j := 1) rfl
    have HB2 := hid hb2
    clear hb2
    have hwr1 : IntKind.i64.wrap ((n : Int) + (m : Int) - (n : Int)) = (m : Int) := by rw [IntWalk.i64_in _ (by omega)]; omega
    have hwr2 : IntKind.i64.wrap ((m : Int) - (A : Int)) = (m : Int) - (A : Int) := IntWalk.i64_in _ (by omega)
    go_wp2_with fail
    go_quiet ((go_at_call 61; exact Calls.quiet_of_same (need_any rn hrn2 _)))
    go_wp2
    go_ret2
    exact ⟨by rw [HE.out]; rfl, by rw [HE.out]; exact (H1.out.below (below_drewN HB2.out _)).mono fun _ => .inl, (Keep.ofBelow HB1.out).trans (Keep.ofBelow (below_drewN HB2.out _))⟩
  have HE : Hid (logWrite d n (n + m) gm A rec = if (writeLoop gm A n Q 0 (partsOf rec) d).1 ≠ 0 then ((0, (writeLoop gm A n Q 0 (partsOf rec) d).1), (writeLoop gm A n Q 0 (partsOf rec) d).2) else (((A : Int) + (Q : Nat), 0), (writeLoop gm A n Q 0 (partsOf rec) d).2)) := hid (by
    unfold logWrite
    rw [if_neg HCN.out, if_neg (by rw [HSUB.out]; exact HAN.out), if_neg (by rw [← HRN.out]; omega), if_neg (by rw [HSUB.out, ← HRN.out, ← HQ.out]; omega), ← HRN.out, ← HQ.out]
    simp only [Int.toNat_natCast])
  have hdec : decide ((m : Int) - (A : Int) < ((needOf rn : Nat) : Int)) = false := decide_eq_false (by rw [← HQ.out]; omega)
  go_enter Try.func64, Try.ntmps64
  go_wp2_with fail
  rw [HW1.out]
  refine (check_any n (n + m) gm w1 H1.out).mono ?_
  rintro e w2 ⟨rfl, hb2⟩
  rw [H0.out]
  have cb0 := (HBX.out.below hb2 HBX.out.lt).cell (j := 0) rfl
  have cb1 := (HBX.out.below hb2 HBX.out.lt).cell (j := 1) rfl
  have HB2 := hid hb2
  clear hb2
  have hwr1 : IntKind.i64.wrap ((n : Int) + (m : Int) - (n : Int)) = (m : Int) := by rw [IntWalk.i64_in _ (by omega)]; omega
  have hwr2 : IntKind.i64.wrap ((m : Int) - (A : Int)) = (m : Int) - (A : Int) := IntWalk.i64_in _ (by omega)
  go_wp2_with fail
  go_quiet ((go_at_call 61; exact Calls.quiet_of_same (need_any rn hrn2 _)))
  clear cb0 cb1 hwr1 hwr2 hdec
  go_wp2_with fail
  have HB2' : Hid (Below w.heap.size w (w2.drewN nq)) := hid (below_drewN (th HB1.out HB2.out) _)
  refine (parts_any ao rn rc rec HRN.out hrn2 hrc (w2.drewN nq) (HSB.out.below HB2'.out)).mono ?_
  rintro e w3 ⟨v, vs, rfl, ho, hrs, hb3⟩
  rw [← HQ.out] at ho
  obtain ⟨vo, vc, rfl⟩ := own_slice ho
  obtain ⟨gl, rfl, -, hgl0, -, hcl, -⟩ := own_cell ho (by omega)
  have HCL := hid hcl
  have HRS := hid hrs
  have HB13 : Hid (Below w.heap.size w w3) := hid (th HB2'.out hb3)
  have HBX3 := hid (((HBX.out.below HB2.out HBX.out.lt).below (below_drewN (Below.refl _ _) nq) (by exact (HBX.out.below HB2.out HBX.out.lt).lt)).below hb3 (by exact (HBX.out.below HB2.out HBX.out.lt).lt))
  have H3 := hid ((((H1.out.below HB2.out).below (below_drewN (Below.refl _ _) nq))).below hb3)
  have HGLB : Hid (w.heap.size ≤ gl) := hid (Nat.le_trans HB2'.out.size hgl0)
  have HBF : Hid (¬ F w.heap.size) := hid (fun hh => by have := HF.out _ hh; omega)
  clear ho hcl hrs hb3 hgl0
  go_wp2_with fail
  go_loopw [54] (fun i wr => ∃ (k : Nat) (d' : Dev) (G : Nat → Prop), k ≤ Q ∧ i = .int .i64 k ∧ writeLoop gm A n Q 0 (partsOf rec) d = writeLoop gm A n Q k ((partsOf rec).drop k) d' ∧ Turn F w3 wr a d' G ∧ d'.loose.length ≤ d.loose.length + k) (fun i _ => Q - (intOf i).toNat)
  case atStart => exact ⟨0, d, F, Nat.zero_le _, rfl, rfl, Turn.start H3.out, Nat.le_refl _⟩
  case round =>
    obtain ⟨k, d', G, hk, rfl, hl, ht, hlo'⟩ := hrel
    have HL := hid hl; have HT := hid ht
    have HGL := hid (ht.lt (fun j hj => Nat.lt_of_lt_of_le (HF.out j hj) HB13.out.size))
    have HWR := hid ht.k.size
    clear hl ht
    by_cases hlt : k < Q
    · obtain ⟨part, hpart⟩ : ∃ p, (partsOf rec)[k]? = some p := ⟨_, List.getElem?_eq_getElem (by rw [partsOf_len, ← HRN.out, ← HQ.out]; exact hlt)⟩
      have HDROP : Hid ((partsOf rec).drop k = part :: (partsOf rec).drop (k + 1)) := hid (by
        rw [List.drop_eq_getElem_cons (by rw [partsOf_len, ← HRN.out, ← HQ.out]; exact hlt)]
        congr 1
        have := List.getElem?_eq_some_iff.1 hpart
        exact this.2)
      obtain ⟨pl, hpl⟩ : ∃ pl, pl = part.length := ⟨_, rfl⟩
      have hpl49 : pl ≤ 49 := by rw [hpl]; exact partsOf_49 rec hpart
      obtain ⟨pv, hpv, po, pc, hpe, hpcap, hps, hpf⟩ := HRS.out.at hpart
      rw [← hpl] at hpe
      subst hpe
      have HPL := hid hpl
      have HPS := hid hps
      have HPF : Hid (part ≠ [] → ∀ x, po = some x → ¬ F x.block) := hid (fun hne x hx => by obtain ⟨y, hy, hxy⟩ := hpf x hx; rw [hxy]; exact HSF.out (parts_ne hpart hne) y hy)
      have hcell : wr.cell? ⟨gl, k, none⟩ = some (.slice po pl pc) := by
        have h3 := HCL.out k _ hpv
        rw [HT.out.k.cell (World.block_lt_of_cell? w3 _ h3) (fun hh => by
          have h1 := HGLB.out
          have := HF.out _ hh; simp at this; omega)]
        exact h3
      obtain ⟨ix, hix⟩ : ∃ ix, ix = A + k := ⟨_, rfl⟩
      obtain ⟨na, hna⟩ : ∃ na, na = n + A := ⟨_, rfl⟩
      obtain ⟨nak, hnak⟩ : ∃ nak, nak = n + A + k := ⟨_, rfl⟩
      have hw1 : IntKind.i64.wrap ((A : Int) + (k : Int)) = (ix : Int) := by rw [IntWalk.i64_in _ (by omega)]; omega
      have hw2 : IntKind.i64.wrap ((n : Int) + (A : Int)) = (na : Int) := by rw [IntWalk.i64_in _ (by omega)]; omega
      have hw3 : IntKind.i64.wrap ((na : Int) + (k : Int)) = (nak : Int) := by rw [IntWalk.i64_in _ (by omega)]; omega
      have hixb : ix < 4294967296 := by omega
      have hgmb : gm < 4294967296 := by omega
      have HIX := hid hix; have HNAK := hid hnak
      have HSLL : Hid ((logSec gm ix (kindOf k Q) part).length = 64) := hid (logSec_len (by rw [← hpl]; exact hpl49))
      obtain ⟨sec, hsec⟩ : ∃ sec, logSec gm ix (kindOf k Q) part = sec := ⟨_, rfl⟩
      have HSL : Hid (sec.length = 64) := hid (by rw [← hsec]; exact HSLL.out)
      have HSEC := hid hsec
      clear hpart hpl hpv hpcap hps hpf hix hna hnak hsec
      go_wp2_with fail
      have HTc := hid (HT.out.below (Below.refl _ _).drew)
      have HZ := hid (Nat.le_refl wr.heap.size)
      refine wp_region_held_drew (S := fun w' => w'.cell? ⟨w.heap.size, 2, none⟩ = some (.int .i64 (gm : Int))) (by kernel_rfl) ((HBX3.out.keep HTc.out.k HBF.out).cell (j := 2) rfl) (fun hS => ?_)
      refine wpAnyH_take (i := 0) (v := ?v0x1) (by simp only [List.getElem?_toArray, List.getElem?_cons_zero]; exact rfl) (by kernel_rfl) (by kernel_rfl) (by kernel_rfl) (by exact fun _ _ _ h => h) (Or.inl ⟨by rfl, ?y0x1⟩) hS ?r0x1
      case y0x1 => (intro w' hSw; (try dsimp only at hSw); go_simp; (try with_reducible rfl))
      simp only [Act.put, List.setIfInBounds_toArray, List.set_cons_zero, List.set_cons_succ]
      refine wpAnyH_take (i := 1) (v := ?v1x2) (by simp only [List.getElem?_toArray, List.getElem?_cons_zero, List.getElem?_cons_succ]; exact rfl) (by kernel_rfl) (by kernel_rfl) (by kernel_rfl) (by exact fun _ _ _ h => h) (Or.inl ⟨by rfl, ?y1x2⟩) hS ?r1x2
      case y1x2 => (intro w' hSw; (try dsimp only at hSw); go_simp; (try with_reducible rfl))
      simp only [Act.put, List.setIfInBounds_toArray, List.set_cons_zero, List.set_cons_succ]
      refine wpAnyH_take (i := 2) (v := ?v2x3) (by simp only [List.getElem?_toArray, List.getElem?_cons_zero, List.getElem?_cons_succ]; exact rfl) (by kernel_rfl) (by kernel_rfl) (by kernel_rfl) (by exact fun _ _ _ h => h) (Or.inl ⟨by rfl, ?y2x3⟩) hS ?r2x3
      case y2x3 => (intro w' hSw; (try dsimp only at hSw); go_simp; (try with_reducible rfl))
      simp only [Act.put, List.setIfInBounds_toArray, List.set_cons_zero, List.set_cons_succ]
      refine wpAnyH_take (i := 3) (v := ?v3x4) (by simp only [List.getElem?_toArray, List.getElem?_cons_zero, List.getElem?_cons_succ]; exact rfl) (by kernel_rfl) (by kernel_rfl) (by kernel_rfl) (by exact fun _ _ _ h => h) (Or.inl ⟨by rfl, ?y3x4⟩) hS ?r3x4
      case y3x4 => (intro w' hSw; (try dsimp only at hSw); go_simp; (try with_reducible rfl))
      simp only [Act.put, List.setIfInBounds_toArray, List.set_cons_zero, List.set_cons_succ]
      refine wpAnyH_take (i := 4) (v := ?v4x5) (by simp only [List.getElem?_toArray, List.getElem?_cons_zero, List.getElem?_cons_succ]; exact rfl) (by kernel_rfl) (by kernel_rfl) (by kernel_rfl) (by exact fun _ _ _ h => h) (Or.inl ⟨by rfl, ?y4x5⟩) hS ?r4x5
      case y4x5 => (intro w' hSw; (try dsimp only at hSw); go_simp; (try with_reducible rfl))
      simp only [Act.put, List.setIfInBounds_toArray, List.set_cons_zero, List.set_cons_succ]
      refine wpAnyH_take (i := 5) (v := ?v5x6) (by simp only [List.getElem?_toArray, List.getElem?_cons_zero, List.getElem?_cons_succ]; exact rfl) (by kernel_rfl) (by kernel_rfl) (by kernel_rfl) (by exact fun _ _ _ h => h) (Or.inl ⟨by rfl, ?y5x6⟩) hS ?r5x6
      case y5x6 => (intro w' hSw; (try dsimp only at hSw); go_simp; (try with_reducible rfl))
      simp only [Act.put, List.setIfInBounds_toArray, List.set_cons_zero, List.set_cons_succ]
      refine wpAnyH_take (i := 6) (v := ?v6x7) (by simp only [List.getElem?_toArray, List.getElem?_cons_zero, List.getElem?_cons_succ]; exact rfl) (by kernel_rfl) (by kernel_rfl) (by kernel_rfl) (by exact fun _ _ _ h => h) (Or.inl ⟨by rfl, ?y6x7⟩) hS ?r6x7
      case y6x7 => (intro w' hSw; (try dsimp only at hSw); go_simp; (try with_reducible rfl))
      simp only [Act.put, List.setIfInBounds_toArray, List.set_cons_zero, List.set_cons_succ]
      refine wpAnyH_take (i := 7) (v := ?v7x8) (by simp only [List.getElem?_toArray, List.getElem?_cons_zero, List.getElem?_cons_succ]; exact rfl) (by kernel_rfl) (by kernel_rfl) (by kernel_rfl) (by exact fun _ _ _ h => h) (Or.inl ⟨by rfl, ?y7x8⟩) hS ?r7x8
      case y7x8 => (intro w' hSw; (try dsimp only at hSw); go_simp; (try with_reducible rfl))
      simp only [Act.put, List.setIfInBounds_toArray, List.set_cons_zero, List.set_cons_succ]
      refine wpAnyH_take (i := 9) (v := ?v9x9) (by simp only [List.getElem?_toArray, List.getElem?_cons_zero, List.getElem?_cons_succ]; exact rfl) (by kernel_rfl) (by kernel_rfl) (by kernel_rfl) (by exact fun _ _ _ h => h) (Or.inl ⟨by rfl, ?y9x9⟩) hS ?r9x9
      case y9x9 => (intro w' hSw; (try dsimp only at hSw); go_simp; (try with_reducible rfl))
      simp only [Act.put, List.setIfInBounds_toArray, List.set_cons_zero, List.set_cons_succ]
      refine wpAnyH_ready (rs := [8, 11]) (by kernel_rfl) (by simp) ?_
      refine AllReadyH.cons (by simp only [List.getElem?_toArray, List.getElem?_cons_zero, List.getElem?_cons_succ]; exact rfl) (fun K hK => ?_) (AllReadyH.cons (by simp only [List.getElem?_toArray, List.getElem?_cons_zero, List.getElem?_cons_succ]; exact rfl) (fun K hK => ?_) AllReadyH.nil)
      · go_simp
        refine (kinds_any k Q (by omega) (by omega) _).mono ?_
        rintro e w' ⟨rfl, rfl⟩
        refine hK.out _ _ ?k8x10 (fun hS => ?s8x10)
        case k8x10 => exact hS
        clear hK K
        try simp only [Act.put, List.setIfInBounds_toArray, List.set_cons_zero, List.set_cons_succ]
        refine wpAnyH_ready (rs := [10, 11]) (by kernel_rfl) (by simp) ?_
        refine AllReadyH.cons (by simp only [List.getElem?_toArray, List.getElem?_cons_zero, List.getElem?_cons_succ]; exact rfl) (fun K hK => ?_) (AllReadyH.cons (by simp only [List.getElem?_toArray, List.getElem?_cons_zero, List.getElem?_cons_succ]; exact rfl) (fun K hK => ?_) AllReadyH.nil)
        · go_simp
          refine (lmade_any gm ix (kindOf k Q) po pl pc part HPL.out hpl49 (by omega) (by omega) (kindOf_le k Q) _ (sb_keepE HPS.out HTc.out.k HPF.out)).mono ?_
          rintro e w5 ⟨rfl, hb5⟩
          have HTc := hid (HTc.out.below hb5)
          try have HM := hid (HM.out.below hb5 HM.out.lt)
          have HZ := hid (Nat.le_trans HZ.out hb5.size)
          clear hb5
          refine hK.out _ _ ?k10x11 (fun hS => ?s10x11)
          case k10x11 => exact (HBX3.out.keep (HTc.out).k (HBF.out)).cell (j := 2) rfl
          clear hK K
          try simp only [Act.put, List.setIfInBounds_toArray, List.set_cons_zero, List.set_cons_succ]
          refine wpAnyH_ready (rs := [11]) (by kernel_rfl) (by simp) ?_
          refine AllReadyH.cons (by simp only [List.getElem?_toArray, List.getElem?_cons_zero, List.getElem?_cons_succ]; exact rfl) (fun K hK => ?_) AllReadyH.nil
          refine wpo_allocS rfl ?_
          intro g w5 hgg hb5 hm5
          have HGG := hid (show wr.heap.size ≤ g by rw [hgg]; exact HZ.out)
          have HTc := hid (HTc.out.below hb5)
          have HM := hid hm5
          have HZ := hid (Nat.le_trans HZ.out hb5.size)
          clear hgg hb5 hm5
          refine hK.out _ _ ?k11x12 (fun hS => ?s11x12)
          case k11x12 => exact (HBX3.out.keep (HTc.out).k (HBF.out)).cell (j := 2) rfl
          clear hK K
          try simp only [Act.put, List.setIfInBounds_toArray, List.set_cons_zero, List.set_cons_succ]
          refine wpAnyH_ready (rs := [12]) (by kernel_rfl) (by simp) ?_
          refine AllReadyH.cons (by simp only [List.getElem?_toArray, List.getElem?_cons_zero, List.getElem?_cons_succ]; exact rfl) (fun K hK => ?_) AllReadyH.nil
          refine wp_store_mid 145 (.tmp 14) (.tmp 69) rfl g 0 (bv (logSec gm ix (kindOf k Q) part)).toArray rfl rfl (by rw [List.size_toArray, bv_length, HSLL.out]; exact HM.out.there (by simp)) (by rw [List.size_toArray, bv_length, HSLL.out]; exact logsec_info) (bv_cells _) ?_
          have HM2 := hid (HM.out.over (bv (logSec gm ix (kindOf k Q) part)) (by rw [bv_length, bv_length, HSLL.out]; rfl))
          have HK2 := hid (Keep.setCells (F := fun j => j = g) rfl (bv (logSec gm ix (kindOf k Q) part)) 0 (Keep.refl (fun j => j = g) w5))
          have HT6 := hid (HTc.out.aside HK2.out (fun hh => by have := HGL.out _ hh; have := HGG.out; omega) (by have := HGG.out; have := HWR.out; omega))
          refine hK.out _ _ ?k12x13 (fun hS => ?s12x13)
          case k12x13 => exact (HBX3.out.keep HT6.out.k HBF.out).cell (j := 2) rfl
          clear hK K
          try simp only [Act.put]
          refine wpAnyH_done (by kernel_rfl) ?_ _
          clear hS
          generalize w5.setCells g 0 (bv (logSec gm ix (kindOf k Q) part)) = w6 at *
          rw [HSEC.out] at HM2
          go_wp2_with fail
          refine wp_region_held_drew (S := fun w' => w'.cell? ⟨w.heap.size, 0, none⟩ = some (.int .i64 (n : Int))) (by kernel_rfl) ((HBX3.out.keep HT6.out.k HBF.out).drew.cell (j := 0) rfl) (fun hS => ?_)
          refine wpAnyH_take (i := 0) (v := ?v0x1qe1) (by simp only [List.getElem?_toArray, List.getElem?_cons_zero]; exact rfl) (by kernel_rfl) (by kernel_rfl) (by kernel_rfl) (by exact fun _ _ _ h => h) (Or.inl ⟨by rfl, ?y0x1qe1⟩) hS ?r0x1qe1
          case y0x1qe1 => (intro w' hSw; (try dsimp only at hSw); go_simp; (try with_reducible rfl))
          simp only [Act.put, List.setIfInBounds_toArray, List.set_cons_zero, List.set_cons_succ]
          refine wpAnyH_take (i := 1) (v := ?v1x2qe1) (by simp only [List.getElem?_toArray, List.getElem?_cons_zero, List.getElem?_cons_succ]; exact rfl) (by kernel_rfl) (by kernel_rfl) (by kernel_rfl) (by exact fun _ _ _ h => h) (Or.inl ⟨by rfl, ?y1x2qe1⟩) hS ?r1x2qe1
          case y1x2qe1 => (intro w' hSw; (try dsimp only at hSw); go_simp; (try with_reducible rfl))
          simp only [Act.put, List.setIfInBounds_toArray, List.set_cons_zero, List.set_cons_succ]
          refine wpAnyH_take (i := 2) (v := ?v2x3qe1) (by simp only [List.getElem?_toArray, List.getElem?_cons_zero, List.getElem?_cons_succ]; exact rfl) (by kernel_rfl) (by kernel_rfl) (by kernel_rfl) (by exact fun _ _ _ h => h) (Or.inl ⟨by rfl, ?y2x3qe1⟩) hS ?r2x3qe1
          case y2x3qe1 => (intro w' hSw; (try dsimp only at hSw); go_simp; (try with_reducible rfl))
          simp only [Act.put, List.setIfInBounds_toArray, List.set_cons_zero, List.set_cons_succ]
          refine wpAnyH_take (i := 3) (v := ?v3x4qe1) (by simp only [List.getElem?_toArray, List.getElem?_cons_zero, List.getElem?_cons_succ]; exact rfl) (by kernel_rfl) (by kernel_rfl) (by kernel_rfl) (by exact fun _ _ _ h => h) (Or.inl ⟨by rfl, ?y3x4qe1⟩) hS ?r3x4qe1
          case y3x4qe1 => (intro w' hSw; (try dsimp only at hSw); go_simp; (try with_reducible rfl))
          simp only [Act.put, List.setIfInBounds_toArray, List.set_cons_zero, List.set_cons_succ]
          refine wpAnyH_take (i := 4) (v := ?v4x5qe1) (by simp only [List.getElem?_toArray, List.getElem?_cons_zero, List.getElem?_cons_succ]; exact rfl) (by kernel_rfl) (by kernel_rfl) (by kernel_rfl) (by exact fun _ _ _ h => h) (Or.inl ⟨by rfl, ?y4x5qe1⟩) hS ?r4x5qe1
          case y4x5qe1 => (intro w' hSw; (try dsimp only at hSw); go_simp; (try with_reducible rfl))
          simp only [Act.put, List.setIfInBounds_toArray, List.set_cons_zero, List.set_cons_succ]
          refine wpAnyH_take (i := 5) (v := ?v5x6qe1) (by simp only [List.getElem?_toArray, List.getElem?_cons_zero, List.getElem?_cons_succ]; exact rfl) (by kernel_rfl) (by kernel_rfl) (by kernel_rfl) (by exact fun _ _ _ h => h) (Or.inl ⟨by rfl, ?y5x6qe1⟩) hS ?r5x6qe1
          case y5x6qe1 => (intro w' hSw; (try dsimp only at hSw); go_simp; (try with_reducible rfl))
          simp only [Act.put, List.setIfInBounds_toArray, List.set_cons_zero, List.set_cons_succ]
          refine wpAnyH_take (i := 6) (v := ?v6x7qe1) (by simp only [List.getElem?_toArray, List.getElem?_cons_zero, List.getElem?_cons_succ]; exact rfl) (by kernel_rfl) (by kernel_rfl) (by kernel_rfl) (by exact fun _ _ _ h => h) (Or.inl ⟨by rfl, ?y6x7qe1⟩) hS ?r6x7qe1
          case y6x7qe1 => (intro w' hSw; (try dsimp only at hSw); go_simp; (try with_reducible rfl))
          simp only [Act.put, List.setIfInBounds_toArray, List.set_cons_zero, List.set_cons_succ]
          refine wpAnyH_take (i := 7) (v := ?v7x8qe1) (by simp only [List.getElem?_toArray, List.getElem?_cons_zero, List.getElem?_cons_succ]; exact rfl) (by kernel_rfl) (by kernel_rfl) (by kernel_rfl) (by exact fun _ _ _ h => h) (Or.inl ⟨by rfl, ?y7x8qe1⟩) hS ?r7x8qe1
          case y7x8qe1 => (intro w' hSw; (try dsimp only at hSw); go_simp; (try with_reducible rfl))
          simp only [Act.put, List.setIfInBounds_toArray, List.set_cons_zero, List.set_cons_succ]
          refine wpAnyH_ready (rs := [8]) (by kernel_rfl) (by simp) ?_
          refine AllReadyH.cons (by simp only [List.getElem?_toArray, List.getElem?_cons_zero, List.getElem?_cons_succ]; exact rfl) (fun K hK => ?_) AllReadyH.nil
          go_simp
          refine (lift_write (F := G) (d := d') (nak : Int) (some ⟨g, 0, none⟩) 64 64 sec HSL.out.symm w6.drew (.inr (.inr ⟨g, 0, rfl, HM2.out.range fun j v hv => by rw [Nat.zero_add]; exact hv⟩)) (fun x hx hh => by cases hx; exact absurd (HGL.out g hh) (by have := HGG.out; omega)) (by omega) (HT6.out.below (Below.refl _ _).drew).p).mono ?_
          rintro e w7 ⟨rfl, h7, hk7⟩
          obtain ⟨r, hr⟩ : ∃ r, d'.write (nak : Int) sec = r := ⟨_, rfl⟩
          rw [hr] at h7
          have HT7 := hid ((HT6.out.below (Below.refl _ _).drew).step h7 hk7)
          have HR := hid hr
          clear h7 hk7 hr
          refine hK.out _ _ ?k8x9qe1 (fun hS => ?s8x9qe1)
          case k8x9qe1 => exact (HBX3.out.keep HT7.out.k HBF.out).cell (j := 0) rfl
          clear hK K
          try simp only [Act.put, List.setIfInBounds_toArray, List.set_cons_zero, List.set_cons_succ]
          refine wpAnyH_take (i := 9) (v := ?v9x10qe1) (by simp only [List.getElem?_toArray, List.getElem?_cons_zero, List.getElem?_cons_succ]; exact rfl) (by kernel_rfl) (by kernel_rfl) (by kernel_rfl) (by exact fun _ _ _ h => h) (Or.inl ⟨by rfl, ?y9x10qe1⟩) hS ?r9x10qe1
          case y9x10qe1 => (intro w' hSw; (try dsimp only at hSw); go_simp; (try with_reducible rfl))
          simp only [Act.put, List.setIfInBounds_toArray, List.set_cons_zero, List.set_cons_succ]
          refine wpAnyH_done (by kernel_rfl) ?_ _
          clear hS
          rw [HR.out]
          have HL1 : Hid (writeLoop gm A n Q 0 (partsOf rec) d = if r.1 ≠ 0 then r else writeLoop gm A n Q (k + 1) ((partsOf rec).drop (k + 1)) r.2) := hid (by
            rw [HL.out, HDROP.out, writeLoop, ← HIX.out, ← HNAK.out, HSEC.out, HR.out])
          have hlo2 := (write_loose d' (nak : Int) sec).1
          rw [HR.out] at hlo2
          by_cases hc : r.1 = 0
          · have HL2 : Hid (writeLoop gm A n Q 0 (partsOf rec) d = writeLoop gm A n Q (k + 1) ((partsOf rec).drop (k + 1)) r.2) := hid (by rw [HL1.out, if_neg (by simpa using hc)])
            rw [hc]
            clear hc hw1 hw2 hw3
            go_wp2
            go_roundw
            case rel => exact ⟨k + 1, r.2, _, by omega, by go_num, HL2.out, HT7.out, by omega⟩
            case measure => simp [intOf]; omega
          · have HRR : Hid (logWrite d n (n + m) gm A rec = ((0, r.1), r.2)) := hid (by rw [HE.out, HL1.out, if_pos hc, if_pos hc])
            have hz : (r.1 == 0) = false := by simpa using hc
            have hz2 : (r.1 != 0) = true := by simpa using hc
            clear hc hw1 hw2 hw3
            go_wp2
            go_ret2
            have hst := (HT7.out.rebase (HB13.out)).stop
            exact ⟨by rw [HRR.out]; rfl, by rw [HRR.out]; exact hst.1, hst.2⟩
    
        · refine wpo_allocS rfl ?_
          intro g w5 hgg hb5 hm5
          have HGG := hid (show wr.heap.size ≤ g by rw [hgg]; exact HZ.out)
          have HTc := hid (HTc.out.below hb5)
          have HM := hid hm5
          have HZ := hid (Nat.le_trans HZ.out hb5.size)
          clear hgg hb5 hm5
          refine hK.out _ _ ?k11x14 (fun hS => ?s11x14)
          case k11x14 => exact (HBX3.out.keep (HTc.out).k (HBF.out)).cell (j := 2) rfl
          clear hK K
          try simp only [Act.put, List.setIfInBounds_toArray, List.set_cons_zero, List.set_cons_succ]
          refine wpAnyH_ready (rs := [10]) (by kernel_rfl) (by simp) ?_
          refine AllReadyH.cons (by simp only [List.getElem?_toArray, List.getElem?_cons_zero, List.getElem?_cons_succ]; exact rfl) (fun K hK => ?_) AllReadyH.nil
          go_simp
          refine (lmade_any gm ix (kindOf k Q) po pl pc part HPL.out hpl49 (by omega) (by omega) (kindOf_le k Q) _ (sb_keepE HPS.out HTc.out.k HPF.out)).mono ?_
          rintro e w5 ⟨rfl, hb5⟩
          have HTc := hid (HTc.out.below hb5)
          try have HM := hid (HM.out.below hb5 HM.out.lt)
          have HZ := hid (Nat.le_trans HZ.out hb5.size)
          clear hb5
          refine hK.out _ _ ?k10x15 (fun hS => ?s10x15)
          case k10x15 => exact (HBX3.out.keep (HTc.out).k (HBF.out)).cell (j := 2) rfl
          clear hK K
          try simp only [Act.put, List.setIfInBounds_toArray, List.set_cons_zero, List.set_cons_succ]
          refine wpAnyH_ready (rs := [12]) (by kernel_rfl) (by simp) ?_
          refine AllReadyH.cons (by simp only [List.getElem?_toArray, List.getElem?_cons_zero, List.getElem?_cons_succ]; exact rfl) (fun K hK => ?_) AllReadyH.nil
          refine wp_store_mid 145 (.tmp 14) (.tmp 69) rfl g 0 (bv (logSec gm ix (kindOf k Q) part)).toArray rfl rfl (by rw [List.size_toArray, bv_length, HSLL.out]; exact HM.out.there (by simp)) (by rw [List.size_toArray, bv_length, HSLL.out]; exact logsec_info) (bv_cells _) ?_
          have HM2 := hid (HM.out.over (bv (logSec gm ix (kindOf k Q) part)) (by rw [bv_length, bv_length, HSLL.out]; rfl))
          have HK2 := hid (Keep.setCells (F := fun j => j = g) rfl (bv (logSec gm ix (kindOf k Q) part)) 0 (Keep.refl (fun j => j = g) w5))
          have HT6 := hid (HTc.out.aside HK2.out (fun hh => by have := HGL.out _ hh; have := HGG.out; omega) (by have := HGG.out; have := HWR.out; omega))
          refine hK.out _ _ ?k12x16 (fun hS => ?s12x16)
          case k12x16 => exact (HBX3.out.keep HT6.out.k HBF.out).cell (j := 2) rfl
          clear hK K
          try simp only [Act.put]
          refine wpAnyH_done (by kernel_rfl) ?_ _
          clear hS
          generalize w5.setCells g 0 (bv (logSec gm ix (kindOf k Q) part)) = w6 at *
          rw [HSEC.out] at HM2
          go_wp2_with fail
          refine wp_region_held_drew (S := fun w' => w'.cell? ⟨w.heap.size, 0, none⟩ = some (.int .i64 (n : Int))) (by kernel_rfl) ((HBX3.out.keep HT6.out.k HBF.out).drew.cell (j := 0) rfl) (fun hS => ?_)
          refine wpAnyH_take (i := 0) (v := ?v0x1qe2) (by simp only [List.getElem?_toArray, List.getElem?_cons_zero]; exact rfl) (by kernel_rfl) (by kernel_rfl) (by kernel_rfl) (by exact fun _ _ _ h => h) (Or.inl ⟨by rfl, ?y0x1qe2⟩) hS ?r0x1qe2
          case y0x1qe2 => (intro w' hSw; (try dsimp only at hSw); go_simp; (try with_reducible rfl))
          simp only [Act.put, List.setIfInBounds_toArray, List.set_cons_zero, List.set_cons_succ]
          refine wpAnyH_take (i := 1) (v := ?v1x2qe2) (by simp only [List.getElem?_toArray, List.getElem?_cons_zero, List.getElem?_cons_succ]; exact rfl) (by kernel_rfl) (by kernel_rfl) (by kernel_rfl) (by exact fun _ _ _ h => h) (Or.inl ⟨by rfl, ?y1x2qe2⟩) hS ?r1x2qe2
          case y1x2qe2 => (intro w' hSw; (try dsimp only at hSw); go_simp; (try with_reducible rfl))
          simp only [Act.put, List.setIfInBounds_toArray, List.set_cons_zero, List.set_cons_succ]
          refine wpAnyH_take (i := 2) (v := ?v2x3qe2) (by simp only [List.getElem?_toArray, List.getElem?_cons_zero, List.getElem?_cons_succ]; exact rfl) (by kernel_rfl) (by kernel_rfl) (by kernel_rfl) (by exact fun _ _ _ h => h) (Or.inl ⟨by rfl, ?y2x3qe2⟩) hS ?r2x3qe2
          case y2x3qe2 => (intro w' hSw; (try dsimp only at hSw); go_simp; (try with_reducible rfl))
          simp only [Act.put, List.setIfInBounds_toArray, List.set_cons_zero, List.set_cons_succ]
          refine wpAnyH_take (i := 3) (v := ?v3x4qe2) (by simp only [List.getElem?_toArray, List.getElem?_cons_zero, List.getElem?_cons_succ]; exact rfl) (by kernel_rfl) (by kernel_rfl) (by kernel_rfl) (by exact fun _ _ _ h => h) (Or.inl ⟨by rfl, ?y3x4qe2⟩) hS ?r3x4qe2
          case y3x4qe2 => (intro w' hSw; (try dsimp only at hSw); go_simp; (try with_reducible rfl))
          simp only [Act.put, List.setIfInBounds_toArray, List.set_cons_zero, List.set_cons_succ]
          refine wpAnyH_take (i := 4) (v := ?v4x5qe2) (by simp only [List.getElem?_toArray, List.getElem?_cons_zero, List.getElem?_cons_succ]; exact rfl) (by kernel_rfl) (by kernel_rfl) (by kernel_rfl) (by exact fun _ _ _ h => h) (Or.inl ⟨by rfl, ?y4x5qe2⟩) hS ?r4x5qe2
          case y4x5qe2 => (intro w' hSw; (try dsimp only at hSw); go_simp; (try with_reducible rfl))
          simp only [Act.put, List.setIfInBounds_toArray, List.set_cons_zero, List.set_cons_succ]
          refine wpAnyH_take (i := 5) (v := ?v5x6qe2) (by simp only [List.getElem?_toArray, List.getElem?_cons_zero, List.getElem?_cons_succ]; exact rfl) (by kernel_rfl) (by kernel_rfl) (by kernel_rfl) (by exact fun _ _ _ h => h) (Or.inl ⟨by rfl, ?y5x6qe2⟩) hS ?r5x6qe2
          case y5x6qe2 => (intro w' hSw; (try dsimp only at hSw); go_simp; (try with_reducible rfl))
          simp only [Act.put, List.setIfInBounds_toArray, List.set_cons_zero, List.set_cons_succ]
          refine wpAnyH_take (i := 6) (v := ?v6x7qe2) (by simp only [List.getElem?_toArray, List.getElem?_cons_zero, List.getElem?_cons_succ]; exact rfl) (by kernel_rfl) (by kernel_rfl) (by kernel_rfl) (by exact fun _ _ _ h => h) (Or.inl ⟨by rfl, ?y6x7qe2⟩) hS ?r6x7qe2
          case y6x7qe2 => (intro w' hSw; (try dsimp only at hSw); go_simp; (try with_reducible rfl))
          simp only [Act.put, List.setIfInBounds_toArray, List.set_cons_zero, List.set_cons_succ]
          refine wpAnyH_take (i := 7) (v := ?v7x8qe2) (by simp only [List.getElem?_toArray, List.getElem?_cons_zero, List.getElem?_cons_succ]; exact rfl) (by kernel_rfl) (by kernel_rfl) (by kernel_rfl) (by exact fun _ _ _ h => h) (Or.inl ⟨by rfl, ?y7x8qe2⟩) hS ?r7x8qe2
          case y7x8qe2 => (intro w' hSw; (try dsimp only at hSw); go_simp; (try with_reducible rfl))
          simp only [Act.put, List.setIfInBounds_toArray, List.set_cons_zero, List.set_cons_succ]
          refine wpAnyH_ready (rs := [8]) (by kernel_rfl) (by simp) ?_
          refine AllReadyH.cons (by simp only [List.getElem?_toArray, List.getElem?_cons_zero, List.getElem?_cons_succ]; exact rfl) (fun K hK => ?_) AllReadyH.nil
          go_simp
          refine (lift_write (F := G) (d := d') (nak : Int) (some ⟨g, 0, none⟩) 64 64 sec HSL.out.symm w6.drew (.inr (.inr ⟨g, 0, rfl, HM2.out.range fun j v hv => by rw [Nat.zero_add]; exact hv⟩)) (fun x hx hh => by cases hx; exact absurd (HGL.out g hh) (by have := HGG.out; omega)) (by omega) (HT6.out.below (Below.refl _ _).drew).p).mono ?_
          rintro e w7 ⟨rfl, h7, hk7⟩
          obtain ⟨r, hr⟩ : ∃ r, d'.write (nak : Int) sec = r := ⟨_, rfl⟩
          rw [hr] at h7
          have HT7 := hid ((HT6.out.below (Below.refl _ _).drew).step h7 hk7)
          have HR := hid hr
          clear h7 hk7 hr
          refine hK.out _ _ ?k8x9qe2 (fun hS => ?s8x9qe2)
          case k8x9qe2 => exact (HBX3.out.keep HT7.out.k HBF.out).cell (j := 0) rfl
          clear hK K
          try simp only [Act.put, List.setIfInBounds_toArray, List.set_cons_zero, List.set_cons_succ]
          refine wpAnyH_take (i := 9) (v := ?v9x10qe2) (by simp only [List.getElem?_toArray, List.getElem?_cons_zero, List.getElem?_cons_succ]; exact rfl) (by kernel_rfl) (by kernel_rfl) (by kernel_rfl) (by exact fun _ _ _ h => h) (Or.inl ⟨by rfl, ?y9x10qe2⟩) hS ?r9x10qe2
          case y9x10qe2 => (intro w' hSw; (try dsimp only at hSw); go_simp; (try with_reducible rfl))
          simp only [Act.put, List.setIfInBounds_toArray, List.set_cons_zero, List.set_cons_succ]
          refine wpAnyH_done (by kernel_rfl) ?_ _
          clear hS
          rw [HR.out]
          have HL1 : Hid (writeLoop gm A n Q 0 (partsOf rec) d = if r.1 ≠ 0 then r else writeLoop gm A n Q (k + 1) ((partsOf rec).drop (k + 1)) r.2) := hid (by
            rw [HL.out, HDROP.out, writeLoop, ← HIX.out, ← HNAK.out, HSEC.out, HR.out])
          have hlo2 := (write_loose d' (nak : Int) sec).1
          rw [HR.out] at hlo2
          by_cases hc : r.1 = 0
          · have HL2 : Hid (writeLoop gm A n Q 0 (partsOf rec) d = writeLoop gm A n Q (k + 1) ((partsOf rec).drop (k + 1)) r.2) := hid (by rw [HL1.out, if_neg (by simpa using hc)])
            rw [hc]
            clear hc hw1 hw2 hw3
            go_wp2
            go_roundw
            case rel => exact ⟨k + 1, r.2, _, by omega, by go_num, HL2.out, HT7.out, by omega⟩
            case measure => simp [intOf]; omega
          · have HRR : Hid (logWrite d n (n + m) gm A rec = ((0, r.1), r.2)) := hid (by rw [HE.out, HL1.out, if_pos hc, if_pos hc])
            have hz : (r.1 == 0) = false := by simpa using hc
            have hz2 : (r.1 != 0) = true := by simpa using hc
            clear hc hw1 hw2 hw3
            go_wp2
            go_ret2
            have hst := (HT7.out.rebase (HB13.out)).stop
            exact ⟨by rw [HRR.out]; rfl, by rw [HRR.out]; exact hst.1, hst.2⟩
    
      · refine wpo_allocS rfl ?_
        intro g w5 hgg hb5 hm5
        have HGG := hid (show wr.heap.size ≤ g by rw [hgg]; exact HZ.out)
        have HTc := hid (HTc.out.below hb5)
        have HM := hid hm5
        have HZ := hid (Nat.le_trans HZ.out hb5.size)
        clear hgg hb5 hm5
        refine hK.out _ _ ?k11x17 (fun hS => ?s11x17)
        case k11x17 => exact (HBX3.out.keep (HTc.out).k (HBF.out)).cell (j := 2) rfl
        clear hK K
        try simp only [Act.put, List.setIfInBounds_toArray, List.set_cons_zero, List.set_cons_succ]
        refine wpAnyH_ready (rs := [8]) (by kernel_rfl) (by simp) ?_
        refine AllReadyH.cons (by simp only [List.getElem?_toArray, List.getElem?_cons_zero, List.getElem?_cons_succ]; exact rfl) (fun K hK => ?_) AllReadyH.nil
        go_simp
        refine (kinds_any k Q (by omega) (by omega) _).mono ?_
        rintro e w' ⟨rfl, rfl⟩
        refine hK.out _ _ ?k8x18 (fun hS => ?s8x18)
        case k8x18 => exact hS
        clear hK K
        try simp only [Act.put, List.setIfInBounds_toArray, List.set_cons_zero, List.set_cons_succ]
        refine wpAnyH_ready (rs := [10]) (by kernel_rfl) (by simp) ?_
        refine AllReadyH.cons (by simp only [List.getElem?_toArray, List.getElem?_cons_zero, List.getElem?_cons_succ]; exact rfl) (fun K hK => ?_) AllReadyH.nil
        go_simp
        refine (lmade_any gm ix (kindOf k Q) po pl pc part HPL.out hpl49 (by omega) (by omega) (kindOf_le k Q) _ (sb_keepE HPS.out HTc.out.k HPF.out)).mono ?_
        rintro e w5 ⟨rfl, hb5⟩
        have HTc := hid (HTc.out.below hb5)
        try have HM := hid (HM.out.below hb5 HM.out.lt)
        have HZ := hid (Nat.le_trans HZ.out hb5.size)
        clear hb5
        refine hK.out _ _ ?k10x19 (fun hS => ?s10x19)
        case k10x19 => exact (HBX3.out.keep (HTc.out).k (HBF.out)).cell (j := 2) rfl
        clear hK K
        try simp only [Act.put, List.setIfInBounds_toArray, List.set_cons_zero, List.set_cons_succ]
        refine wpAnyH_ready (rs := [12]) (by kernel_rfl) (by simp) ?_
        refine AllReadyH.cons (by simp only [List.getElem?_toArray, List.getElem?_cons_zero, List.getElem?_cons_succ]; exact rfl) (fun K hK => ?_) AllReadyH.nil
        refine wp_store_mid 145 (.tmp 14) (.tmp 69) rfl g 0 (bv (logSec gm ix (kindOf k Q) part)).toArray rfl rfl (by rw [List.size_toArray, bv_length, HSLL.out]; exact HM.out.there (by simp)) (by rw [List.size_toArray, bv_length, HSLL.out]; exact logsec_info) (bv_cells _) ?_
        have HM2 := hid (HM.out.over (bv (logSec gm ix (kindOf k Q) part)) (by rw [bv_length, bv_length, HSLL.out]; rfl))
        have HK2 := hid (Keep.setCells (F := fun j => j = g) rfl (bv (logSec gm ix (kindOf k Q) part)) 0 (Keep.refl (fun j => j = g) w5))
        have HT6 := hid (HTc.out.aside HK2.out (fun hh => by have := HGL.out _ hh; have := HGG.out; omega) (by have := HGG.out; have := HWR.out; omega))
        refine hK.out _ _ ?k12x20 (fun hS => ?s12x20)
        case k12x20 => exact (HBX3.out.keep HT6.out.k HBF.out).cell (j := 2) rfl
        clear hK K
        try simp only [Act.put]
        refine wpAnyH_done (by kernel_rfl) ?_ _
        clear hS
        generalize w5.setCells g 0 (bv (logSec gm ix (kindOf k Q) part)) = w6 at *
        rw [HSEC.out] at HM2
        go_wp2_with fail
        refine wp_region_held_drew (S := fun w' => w'.cell? ⟨w.heap.size, 0, none⟩ = some (.int .i64 (n : Int))) (by kernel_rfl) ((HBX3.out.keep HT6.out.k HBF.out).drew.cell (j := 0) rfl) (fun hS => ?_)
        refine wpAnyH_take (i := 0) (v := ?v0x1qe3) (by simp only [List.getElem?_toArray, List.getElem?_cons_zero]; exact rfl) (by kernel_rfl) (by kernel_rfl) (by kernel_rfl) (by exact fun _ _ _ h => h) (Or.inl ⟨by rfl, ?y0x1qe3⟩) hS ?r0x1qe3
        case y0x1qe3 => (intro w' hSw; (try dsimp only at hSw); go_simp; (try with_reducible rfl))
        simp only [Act.put, List.setIfInBounds_toArray, List.set_cons_zero, List.set_cons_succ]
        refine wpAnyH_take (i := 1) (v := ?v1x2qe3) (by simp only [List.getElem?_toArray, List.getElem?_cons_zero, List.getElem?_cons_succ]; exact rfl) (by kernel_rfl) (by kernel_rfl) (by kernel_rfl) (by exact fun _ _ _ h => h) (Or.inl ⟨by rfl, ?y1x2qe3⟩) hS ?r1x2qe3
        case y1x2qe3 => (intro w' hSw; (try dsimp only at hSw); go_simp; (try with_reducible rfl))
        simp only [Act.put, List.setIfInBounds_toArray, List.set_cons_zero, List.set_cons_succ]
        refine wpAnyH_take (i := 2) (v := ?v2x3qe3) (by simp only [List.getElem?_toArray, List.getElem?_cons_zero, List.getElem?_cons_succ]; exact rfl) (by kernel_rfl) (by kernel_rfl) (by kernel_rfl) (by exact fun _ _ _ h => h) (Or.inl ⟨by rfl, ?y2x3qe3⟩) hS ?r2x3qe3
        case y2x3qe3 => (intro w' hSw; (try dsimp only at hSw); go_simp; (try with_reducible rfl))
        simp only [Act.put, List.setIfInBounds_toArray, List.set_cons_zero, List.set_cons_succ]
        refine wpAnyH_take (i := 3) (v := ?v3x4qe3) (by simp only [List.getElem?_toArray, List.getElem?_cons_zero, List.getElem?_cons_succ]; exact rfl) (by kernel_rfl) (by kernel_rfl) (by kernel_rfl) (by exact fun _ _ _ h => h) (Or.inl ⟨by rfl, ?y3x4qe3⟩) hS ?r3x4qe3
        case y3x4qe3 => (intro w' hSw; (try dsimp only at hSw); go_simp; (try with_reducible rfl))
        simp only [Act.put, List.setIfInBounds_toArray, List.set_cons_zero, List.set_cons_succ]
        refine wpAnyH_take (i := 4) (v := ?v4x5qe3) (by simp only [List.getElem?_toArray, List.getElem?_cons_zero, List.getElem?_cons_succ]; exact rfl) (by kernel_rfl) (by kernel_rfl) (by kernel_rfl) (by exact fun _ _ _ h => h) (Or.inl ⟨by rfl, ?y4x5qe3⟩) hS ?r4x5qe3
        case y4x5qe3 => (intro w' hSw; (try dsimp only at hSw); go_simp; (try with_reducible rfl))
        simp only [Act.put, List.setIfInBounds_toArray, List.set_cons_zero, List.set_cons_succ]
        refine wpAnyH_take (i := 5) (v := ?v5x6qe3) (by simp only [List.getElem?_toArray, List.getElem?_cons_zero, List.getElem?_cons_succ]; exact rfl) (by kernel_rfl) (by kernel_rfl) (by kernel_rfl) (by exact fun _ _ _ h => h) (Or.inl ⟨by rfl, ?y5x6qe3⟩) hS ?r5x6qe3
        case y5x6qe3 => (intro w' hSw; (try dsimp only at hSw); go_simp; (try with_reducible rfl))
        simp only [Act.put, List.setIfInBounds_toArray, List.set_cons_zero, List.set_cons_succ]
        refine wpAnyH_take (i := 6) (v := ?v6x7qe3) (by simp only [List.getElem?_toArray, List.getElem?_cons_zero, List.getElem?_cons_succ]; exact rfl) (by kernel_rfl) (by kernel_rfl) (by kernel_rfl) (by exact fun _ _ _ h => h) (Or.inl ⟨by rfl, ?y6x7qe3⟩) hS ?r6x7qe3
        case y6x7qe3 => (intro w' hSw; (try dsimp only at hSw); go_simp; (try with_reducible rfl))
        simp only [Act.put, List.setIfInBounds_toArray, List.set_cons_zero, List.set_cons_succ]
        refine wpAnyH_take (i := 7) (v := ?v7x8qe3) (by simp only [List.getElem?_toArray, List.getElem?_cons_zero, List.getElem?_cons_succ]; exact rfl) (by kernel_rfl) (by kernel_rfl) (by kernel_rfl) (by exact fun _ _ _ h => h) (Or.inl ⟨by rfl, ?y7x8qe3⟩) hS ?r7x8qe3
        case y7x8qe3 => (intro w' hSw; (try dsimp only at hSw); go_simp; (try with_reducible rfl))
        simp only [Act.put, List.setIfInBounds_toArray, List.set_cons_zero, List.set_cons_succ]
        refine wpAnyH_ready (rs := [8]) (by kernel_rfl) (by simp) ?_
        refine AllReadyH.cons (by simp only [List.getElem?_toArray, List.getElem?_cons_zero, List.getElem?_cons_succ]; exact rfl) (fun K hK => ?_) AllReadyH.nil
        go_simp
        refine (lift_write (F := G) (d := d') (nak : Int) (some ⟨g, 0, none⟩) 64 64 sec HSL.out.symm w6.drew (.inr (.inr ⟨g, 0, rfl, HM2.out.range fun j v hv => by rw [Nat.zero_add]; exact hv⟩)) (fun x hx hh => by cases hx; exact absurd (HGL.out g hh) (by have := HGG.out; omega)) (by omega) (HT6.out.below (Below.refl _ _).drew).p).mono ?_
        rintro e w7 ⟨rfl, h7, hk7⟩
        obtain ⟨r, hr⟩ : ∃ r, d'.write (nak : Int) sec = r := ⟨_, rfl⟩
        rw [hr] at h7
        have HT7 := hid ((HT6.out.below (Below.refl _ _).drew).step h7 hk7)
        have HR := hid hr
        clear h7 hk7 hr
        refine hK.out _ _ ?k8x9qe3 (fun hS => ?s8x9qe3)
        case k8x9qe3 => exact (HBX3.out.keep HT7.out.k HBF.out).cell (j := 0) rfl
        clear hK K
        try simp only [Act.put, List.setIfInBounds_toArray, List.set_cons_zero, List.set_cons_succ]
        refine wpAnyH_take (i := 9) (v := ?v9x10qe3) (by simp only [List.getElem?_toArray, List.getElem?_cons_zero, List.getElem?_cons_succ]; exact rfl) (by kernel_rfl) (by kernel_rfl) (by kernel_rfl) (by exact fun _ _ _ h => h) (Or.inl ⟨by rfl, ?y9x10qe3⟩) hS ?r9x10qe3
        case y9x10qe3 => (intro w' hSw; (try dsimp only at hSw); go_simp; (try with_reducible rfl))
        simp only [Act.put, List.setIfInBounds_toArray, List.set_cons_zero, List.set_cons_succ]
        refine wpAnyH_done (by kernel_rfl) ?_ _
        clear hS
        rw [HR.out]
        have HL1 : Hid (writeLoop gm A n Q 0 (partsOf rec) d = if r.1 ≠ 0 then r else writeLoop gm A n Q (k + 1) ((partsOf rec).drop (k + 1)) r.2) := hid (by
          rw [HL.out, HDROP.out, writeLoop, ← HIX.out, ← HNAK.out, HSEC.out, HR.out])
        have hlo2 := (write_loose d' (nak : Int) sec).1
        rw [HR.out] at hlo2
        by_cases hc : r.1 = 0
        · have HL2 : Hid (writeLoop gm A n Q 0 (partsOf rec) d = writeLoop gm A n Q (k + 1) ((partsOf rec).drop (k + 1)) r.2) := hid (by rw [HL1.out, if_neg (by simpa using hc)])
          rw [hc]
          clear hc hw1 hw2 hw3
          go_wp2
          go_roundw
          case rel => exact ⟨k + 1, r.2, _, by omega, by go_num, HL2.out, HT7.out, by omega⟩
          case measure => simp [intOf]; omega
        · have HRR : Hid (logWrite d n (n + m) gm A rec = ((0, r.1), r.2)) := hid (by rw [HE.out, HL1.out, if_pos hc, if_pos hc])
          have hz : (r.1 == 0) = false := by simpa using hc
          have hz2 : (r.1 != 0) = true := by simpa using hc
          clear hc hw1 hw2 hw3
          go_wp2
          go_ret2
          have hst := (HT7.out.rebase (HB13.out)).stop
          exact ⟨by rw [HRR.out]; rfl, by rw [HRR.out]; exact hst.1, hst.2⟩
  
    · have hk9 : k = Q := by omega
      have HL1 : Hid (writeLoop gm A n Q 0 (partsOf rec) d = (0, d')) := hid (by
        rw [HL.out, List.drop_of_length_le (by rw [partsOf_len, ← HRN.out, ← HQ.out, hk9]; exact Nat.le_refl _), writeLoop])
      have HRR : Hid (logWrite d n (n + m) gm A rec = (((A : Int) + (Q : Nat), 0), d')) := hid (by rw [HE.out, HL1.out]; simp)
      go_wp2
      go_ret2
      have hst := (HT.out.rebase (HB13.out)).stop
      exact ⟨by rw [HRR.out]; rfl, by rw [HRR.out]; exact hst.1, hst.2⟩
end Go.Proofs.Ytlondopgibcikaa
namespace Go.Proofs.Ytlondopgibcikaa
open Go.RowKit Ent

theorem FreshL.base {B B' : Nat} {w : World} {v : Value} {L : List (List UInt8)} (h : FreshL B w v L) (hb : B' ≤ B) : FreshL B' w v L := by
  obtain ⟨vs, Fb, h1, h2, h3, h4⟩ := h
  exact ⟨vs, Fb, ⟨h1.1, h1.2.imp id fun ⟨g, c, cur, e1, e2, e3⟩ => ⟨g, c, cur, e1, Nat.le_trans hb e2, e3⟩⟩, h2, fun k hk => ⟨Nat.le_trans hb (h3 k hk).1, (h3 k hk).2⟩, h4⟩
theorem FreshL.nil (B : Nat) (w : World) : FreshL B w (.slice none 0 0) [] := ⟨[], fun _ => False, World.ownsRow_nil _ _ _ _, RowSW.nil _ _, fun _ h => h.elim, fun _ h => by simp [Value.ownBlock] at h⟩
set_option maxRecDepth 100000 in
set_option maxHeartbeats 4000000 in
theorem scan_any {a : Nat} {F : Nat → Prop} {d : Dev} (f t g : Int) (w : World) (h : PDev w a F d) :
    Calls Try.prog 65 #[ptr a, .agg #[.int .i64 f, .int .i64 t, .int .i64 g]] w fun e w' => ∃ v, e = .returned (.tuple #[v, .int .i64 (logScan d f t g).2.1, .int .i64 (logScan d f t g).2.2]) ∧ FreshL w.heap.size w' v (logScan d f t g).1 ∧ Below w.heap.size w w' := by
  have hok : d.ok := by obtain ⟨_, _, _, _, _, h⟩ := h; exact h.ok
  have HOK := hid hok
  obtain ⟨w1, hw1⟩ : ∃ w1, w.alloc (.cells #[.int .i64 f, .int .i64 t, .int .i64 g] 76) = w1 := ⟨_, rfl⟩
  have HW1 := hid hw1
  have HBX : Hid (Blk w1 w.heap.size 76 [.int .i64 f, .int .i64 t, .int .i64 g]) := hid (by rw [← hw1]; exact alloc_new w _)
  have HB1 : Hid (Below w.heap.size w w1) := hid (by rw [← hw1]; exact fresh_alloc w _)
  have H1 := hid (h.below HB1.out)
  clear hw1 h hok
  unfold ptr
  by_cases hc : checkOf d f t g ≠ 0
  · have HE : Hid (logScan d f t g = ([], 0, checkOf d f t g)) := hid (by unfold logScan; rw [if_pos hc])
    have H3 := hid ((check_code d f t g).resolve_left hc)
    clear hc
    go_enter Try.func65, Try.ntmps65
    go_wp2_with fail
    rw [HW1.out]
    have x0 := HBX.out.cell (j := 0) rfl
    have x1 := HBX.out.cell (j := 1) rfl
    have x2 := HBX.out.cell (j := 2) rfl
    go_step3
    go_wp2_with fail
    clear x0 x1 x2
    refine (check_any f t g w1 H1.out).mono ?_
    rintro e w2 ⟨rfl, hb2⟩
    have HB2 := hid (th HB1.out hb2)
    have H2 := hid (H1.out.below hb2)
    have HBX2 := hid (HBX.out.below hb2 HBX.out.lt)
    clear hb2
    rw [H3.out]
    go_wp2
    ((try rw [Exit.noGoto_ret]); go_ret3)
    exact ⟨_, by rw [HE.out]; show _ = Ending.returned (.tuple #[_, .int .i64 0, .int .i64 (checkOf d f t g)]); rw [H3.out]; rfl, by rw [HE.out]; exact FreshL.nil _ _, HB2.out⟩
  obtain ⟨h1, h2, h3, h4, h5⟩ := check_ok hc
  have H0 : Hid (checkOf d f t g = 0) := hid (by simpa using hc)
  have HCN := hid hc
  clear hc
  obtain ⟨n, rfl⟩ : ∃ n : Nat, f = (n : Int) := ⟨f.toNat, by omega⟩
  obtain ⟨m, rfl⟩ : ∃ m : Nat, t = (n : Int) + (m : Int) := ⟨(t - n).toNat, by omega⟩
  obtain ⟨gm, rfl⟩ : ∃ gm : Nat, g = (gm : Int) := ⟨g.toNat, by omega⟩
  have hnm : n + m ≤ d.img.length := by omega
  have hlen := HOK.out.len
  have hsub : ((n : Int) + (m : Int) - (n : Int)) = (m : Int) := by omega
  have HSUB := hid hsub
  clear h1 h2 h3 hsub
  cases hout : d.out
  rotate_left
  · have HE : Hid (logScan d n (n + m) gm = ([], 0, 22)) := hid (by unfold logScan; rw [if_neg HCN.out, hout]; rfl)
    have HO := hid hout
    clear hout
    go_enter Try.func65, Try.ntmps65
    go_wp2_with fail
    rw [HW1.out]
    have x0 := HBX.out.cell (j := 0) rfl
    have x1 := HBX.out.cell (j := 1) rfl
    have x2 := HBX.out.cell (j := 2) rfl
    go_step3
    go_wp2_with fail
    clear x0 x1 x2
    refine (check_any n (n + m) gm w1 H1.out).mono ?_
    rintro e w2 ⟨rfl, hb2⟩
    have HB2 := hid (th HB1.out hb2)
    have H2 := hid (H1.out.below hb2)
    have HBX2 := hid (HBX.out.below hb2 HBX.out.lt)
    clear hb2
    rw [H0.out]
    go_wp2_with fail
    refine (lift_out w2 H2.out).mono ?_
    rintro e w' ⟨rfl, rfl⟩
    rw [HO.out]
    go_wp2
    ((try rw [Exit.noGoto_ret]); go_ret3)
    exact ⟨_, by rw [HE.out]; rfl, by rw [HE.out]; exact FreshL.nil _ _, HB2.out⟩
  have HE : Hid (logScan d n (n + m) gm = ((scanLoop d n gm m 0 [] 0 [] false).1, ((scanLoop d n gm m 0 [] 0 [] false).2 : Int), 0)) := hid (by
    unfold logScan
    rw [if_neg HCN.out, hout, HSUB.out]
    simp only [Int.toNat_natCast]; rfl)
  have HO := hid hout
  clear hout
  go_enter Try.func65, Try.ntmps65
  go_wp2_with fail
  rw [HW1.out]
  have x0 := HBX.out.cell (j := 0) rfl
  have x1 := HBX.out.cell (j := 1) rfl
  have x2 := HBX.out.cell (j := 2) rfl
  go_step3
  go_wp2_with fail
  clear x0 x1 x2
  refine (check_any n (n + m) gm w1 H1.out).mono ?_
  rintro e w2 ⟨rfl, hb2⟩
  have HB2 := hid (th HB1.out hb2)
  have H2 := hid (H1.out.below hb2)
  have HBX2 := hid (HBX.out.below hb2 HBX.out.lt)
  clear hb2
  rw [H0.out]
  go_wp2_with fail
  refine (lift_out w2 H2.out).mono ?_
  rintro e w' ⟨rfl, rfl⟩
  rw [HO.out]
  have cb0 := HBX2.out.cell (j := 0) rfl
  have cb1 := HBX2.out.cell (j := 1) rfl
  go_wp2_with fail
  go_step3
  go_wp2_with fail
  clear cb0 cb1
  go_loopw [4, 5, 7, 8, 27] (fun v4 nx v7 bg i wr => ∃ (vo vr : Value) (k : Nat) (out : List (List UInt8)) (next : Nat) (rec : List UInt8) (begun : Bool) (vs : List Value) (Fb : Nat → Prop), vo = v4 ∧ vr = v7 ∧ k ≤ m ∧ i = .int .i64 k ∧ nx = .int .i64 next ∧ bg = .bool begun ∧ ScanI w'.heap.size w' wr vo vr out rec vs Fb ∧ scanLoop d n gm m 0 [] 0 [] false = scanLoop d n gm (m - k) k out next rec begun ∧ out.length ≤ k ∧ rec.length ≤ 49 * k) (fun _ _ _ _ i _ => m - (intOf i).toNat)
  case atStart => exact ⟨_, _, 0, [], 0, [], false, [], _, rfl, rfl, Nat.zero_le _, rfl, rfl, rfl, ScanI.start w', rfl, Nat.le_refl _, Nat.le_refl _⟩
  case round =>
    obtain ⟨vo, vr, k, out, next, rec, begun, vs, Fb, rfl, rfl, hk, rfl, rfl, rfl, hI, hl, hol, hrl⟩ := hrel
    have HI := hid hI; have HL := hid hl
    have HBr := hid (HBX2.out.below hI.be HBX2.out.lt)
    have HP := hid (H2.out.below hI.be)
    have cb0 := HBr.out.cell (j := 0) rfl
    have cb2 := HBr.out.cell (j := 2) rfl
    clear hI hl
    by_cases hlt : k < m
    · have HNK : Hid ((n : Int) + (k : Int) = ((n + k : Nat) : Int)) := hid (by omega)
      have HB64 := hid (read_len HOK.out HO.out (show n + k < d.img.length by omega))
      have HSTEP : Hid (scanLoop d n gm (m - k) k out next rec begun = match rightOf (d.read ((n + k : Nat) : Int)).1 gm k with
        | none => (out, next)
        | some (kd, p) => if begun ≠ decide (kd = 3 ∨ kd = 4) then (out, next) else if kd = 2 ∨ kd = 3 then scanLoop d n gm (m - (k + 1)) (k + 1) out next (rec ++ p) true else scanLoop d n gm (m - (k + 1)) (k + 1) (out ++ [rec ++ p]) (k + 1) [] false) := hid (by
          rw [show m - k = (m - (k + 1)) + 1 by omega, scanLoop]; first | done | rfl)
      go_wp2_with fail
      refine (lift_read ((n : Int) + (k : Int)) wr HP.out).mono ?_
      rintro e w4 ⟨v, rfl, hf, hb4⟩
      rw [HNK.out] at hf ⊢
      obtain ⟨b, hbq⟩ : ∃ b, (d.read ((n + k : Nat) : Int)).1 = b := ⟨_, rfl⟩
      rw [hbq] at hf HB64 HSTEP
      obtain ⟨ao, cap, rfl, hcap, hsb, -⟩ := hf
      rw [HB64.out] at hcap ⊢
      obtain ⟨gb, ob, rfl, hrg⟩ : ∃ g o, ao = some ⟨g, o, none⟩ ∧ w4.rangeAt g o (bv b) := by
        rcases hsb with ⟨_, _, h⟩ | ⟨_, _, h⟩ | ⟨g, o, h1, h2⟩
        · have := HB64.out; rw [h] at this; simp at this
        · have := HB64.out; rw [h] at this; simp at this
        · exact ⟨g, o, h1, h2⟩
      have HRG := hid hrg
      have HI4 := hid (HI.out.below hb4)
      have cb24 : w4.cell? ⟨w.heap.size, 2, none⟩ = some (.int .i64 (gm : Int)) := by rw [hb4.cell (World.block_lt_of_cell? wr _ cb2)]; exact cb2
      clear hsb hrg hb4 hbq
      go_wp2_with fail
      refine (right_any gb ob cap b HB64.out hcap gm k (by omega) (by omega) w4 HRG.out).mono ?_
      rintro e w5 ⟨hR, hb5⟩
      have HI5 := hid (HI4.out.below hb5)
      have HRG5 := hid ((Keep.ofBelow (F := fun _ => False) hb5).range HRG.out id)
      clear hb5
      unfold RightRet at hR
      rcases hro0 : rightOf b gm k with _ | ⟨kd, p⟩
      · have hro := hid hro0
        rw [hro0] at hR
        subst hR
        clear hro0
        have HSL : Hid (scanLoop d n gm m 0 [] 0 [] false = (out, next)) := hid (by rw [HL.out, HSTEP.out, hro.out])
        go_wp2
        ((try rw [Exit.noGoto_ret]); go_ret3)
        exact ⟨vo, by rw [HE.out, HSL.out]; rfl, by rw [HE.out, HSL.out]; exact (HI5.out.fresh).base HB2.out.size, HB2.out.trans (HI5.out.be.mono HB2.out.size)⟩
      · have hkd := right_kind hro0
        obtain ⟨u, hu⟩ := right_part hro0
        have hro := hid hro0
        rw [hro0] at hR
        subst hR
        have hp49 := hkd.2.2
        have HSBP : Hid (SB w5 (some ⟨gb, ob + 14, none⟩) (cap - 14) p) := hid (.inr (.inr ⟨gb, ob + 14, rfl, fun j v hv => by
          rw [Nat.add_assoc]
          refine HRG5.out (14 + j) v ?_
          rw [bv_get] at hv ⊢
          rw [hu, List.getElem?_take] at hv
          split at hv
          · rwa [List.getElem?_drop] at hv
          · cases hv⟩))
        clear hro0 hu
        obtain rfl | rfl | rfl | rfl : kd = 1 ∨ kd = 2 ∨ kd = 3 ∨ kd = 4 := by omega
        all_goals clear hkd
        all_goals cases begun
        · have HSL : Hid (scanLoop d n gm m 0 [] 0 [] false = scanLoop d n gm (m - (k + 1)) (k + 1) (out ++ [rec ++ p]) (k + 1) [] false) := hid (by rw [HL.out, HSTEP.out, hro.out]; simp)
          go_wp2_with (first | (refine wpl_append_at rfl (.tmp 58) (.tmp 59) rfl w'.heap.size vr rec.length rec p rfl HI5.out.rr (some ⟨gb, ob + 14, none⟩) p.length (cap - 14) rfl rfl HSBP.out (by omega) HI5.out.bl ?_; intro v6 w6 ho6 hg6 hw6; obtain ⟨a6, c6, rfl⟩ := own_slice ho6; have HI6 := hid (HI5.out.grew ho6 hg6 hw6); clear ho6 hg6 hw6) | (refine wpl_appendR rowL rfl (.tmp 68) (.tmp 70) rfl w'.heap.size vo out.length vs rfl (HI6.out.below (fresh_alloc w6 _)).oo w6.heap.size rfl [.slice a6 (rec.length + p.length) c6] (alloc_new w6 _) rfl (by intro u hu; simp at hu; subst hu; rfl) (by omega) (by have := HI6.out.bl; simp; omega) ?_; intro v7 w7 ho7 hg7 hw7; have HI7 := hid ((HI6.out.below (fresh_alloc w6 _)).told ho7 hg7 hw7); clear ho7 hg7 hw7))
          go_roundw
          case rel => exact ⟨_, _, k + 1, out ++ [rec ++ p], k + 1, [], false, vs ++ [.slice a6 (rec.length + p.length) c6], _, rfl, rfl, by omega, by go_num, rfl, rfl, HI7.out, HSL.out, by rw [List.length_append]; simp; omega, by simp⟩
          case measure => simp [intOf]; omega
        · have HSL : Hid (scanLoop d n gm m 0 [] 0 [] false = (out, next)) := hid (by rw [HL.out, HSTEP.out, hro.out]; simp)
          go_wp2
          ((try rw [Exit.noGoto_ret]); go_ret3)
          exact ⟨vo, by rw [HE.out, HSL.out]; rfl, by rw [HE.out, HSL.out]; exact (HI5.out.fresh).base HB2.out.size, HB2.out.trans (HI5.out.be.mono HB2.out.size)⟩
        · have HSL : Hid (scanLoop d n gm m 0 [] 0 [] false = scanLoop d n gm (m - (k + 1)) (k + 1) out next (rec ++ p) true) := hid (by rw [HL.out, HSTEP.out, hro.out]; simp)
          go_wp2_with (refine wpl_append_at rfl (.tmp 58) (.tmp 59) rfl w'.heap.size vr rec.length rec p rfl HI5.out.rr (some ⟨gb, ob + 14, none⟩) p.length (cap - 14) rfl rfl HSBP.out (by omega) HI5.out.bl ?_; intro v6 w6 ho6 hg6 hw6; obtain ⟨a6, c6, rfl⟩ := own_slice ho6; have HI6 := hid (HI5.out.grew ho6 hg6 hw6); clear ho6 hg6 hw6)
          go_roundw
          case rel => exact ⟨_, _, k + 1, out, next, rec ++ p, true, vs, Fb, rfl, rfl, by omega, by go_num, rfl, rfl, HI6.out, HSL.out, by omega, by rw [List.length_append]; omega⟩
          case measure => simp [intOf]; omega
        · have HSL : Hid (scanLoop d n gm m 0 [] 0 [] false = (out, next)) := hid (by rw [HL.out, HSTEP.out, hro.out]; simp)
          go_wp2
          ((try rw [Exit.noGoto_ret]); go_ret3)
          exact ⟨vo, by rw [HE.out, HSL.out]; rfl, by rw [HE.out, HSL.out]; exact (HI5.out.fresh).base HB2.out.size, HB2.out.trans (HI5.out.be.mono HB2.out.size)⟩
        · have HSL : Hid (scanLoop d n gm m 0 [] 0 [] false = (out, next)) := hid (by rw [HL.out, HSTEP.out, hro.out]; simp)
          go_wp2
          ((try rw [Exit.noGoto_ret]); go_ret3)
          exact ⟨vo, by rw [HE.out, HSL.out]; rfl, by rw [HE.out, HSL.out]; exact (HI5.out.fresh).base HB2.out.size, HB2.out.trans (HI5.out.be.mono HB2.out.size)⟩
        · have HSL : Hid (scanLoop d n gm m 0 [] 0 [] false = scanLoop d n gm (m - (k + 1)) (k + 1) out next (rec ++ p) true) := hid (by rw [HL.out, HSTEP.out, hro.out]; simp)
          go_wp2_with (refine wpl_append_at rfl (.tmp 58) (.tmp 59) rfl w'.heap.size vr rec.length rec p rfl HI5.out.rr (some ⟨gb, ob + 14, none⟩) p.length (cap - 14) rfl rfl HSBP.out (by omega) HI5.out.bl ?_; intro v6 w6 ho6 hg6 hw6; obtain ⟨a6, c6, rfl⟩ := own_slice ho6; have HI6 := hid (HI5.out.grew ho6 hg6 hw6); clear ho6 hg6 hw6)
          go_roundw
          case rel => exact ⟨_, _, k + 1, out, next, rec ++ p, true, vs, Fb, rfl, rfl, by omega, by go_num, rfl, rfl, HI6.out, HSL.out, by omega, by rw [List.length_append]; omega⟩
          case measure => simp [intOf]; omega
        · have HSL : Hid (scanLoop d n gm m 0 [] 0 [] false = (out, next)) := hid (by rw [HL.out, HSTEP.out, hro.out]; simp)
          go_wp2
          ((try rw [Exit.noGoto_ret]); go_ret3)
          exact ⟨vo, by rw [HE.out, HSL.out]; rfl, by rw [HE.out, HSL.out]; exact (HI5.out.fresh).base HB2.out.size, HB2.out.trans (HI5.out.be.mono HB2.out.size)⟩
        · have HSL : Hid (scanLoop d n gm m 0 [] 0 [] false = scanLoop d n gm (m - (k + 1)) (k + 1) (out ++ [rec ++ p]) (k + 1) [] false) := hid (by rw [HL.out, HSTEP.out, hro.out]; simp)
          go_wp2_with (first | (refine wpl_append_at rfl (.tmp 58) (.tmp 59) rfl w'.heap.size vr rec.length rec p rfl HI5.out.rr (some ⟨gb, ob + 14, none⟩) p.length (cap - 14) rfl rfl HSBP.out (by omega) HI5.out.bl ?_; intro v6 w6 ho6 hg6 hw6; obtain ⟨a6, c6, rfl⟩ := own_slice ho6; have HI6 := hid (HI5.out.grew ho6 hg6 hw6); clear ho6 hg6 hw6) | (refine wpl_appendR rowL rfl (.tmp 68) (.tmp 70) rfl w'.heap.size vo out.length vs rfl (HI6.out.below (fresh_alloc w6 _)).oo w6.heap.size rfl [.slice a6 (rec.length + p.length) c6] (alloc_new w6 _) rfl (by intro u hu; simp at hu; subst hu; rfl) (by omega) (by have := HI6.out.bl; simp; omega) ?_; intro v7 w7 ho7 hg7 hw7; have HI7 := hid ((HI6.out.below (fresh_alloc w6 _)).told ho7 hg7 hw7); clear ho7 hg7 hw7))
          go_roundw
          case rel => exact ⟨_, _, k + 1, out ++ [rec ++ p], k + 1, [], false, vs ++ [.slice a6 (rec.length + p.length) c6], _, rfl, rfl, by omega, by go_num, rfl, rfl, HI7.out, HSL.out, by rw [List.length_append]; simp; omega, by simp⟩
          case measure => simp [intOf]; omega
    · have hk9 : k = m := by omega
      have HSL : Hid (scanLoop d n gm m 0 [] 0 [] false = (out, next)) := hid (by rw [HL.out, hk9, Nat.sub_self, scanLoop])
      go_wp2
      ((try rw [Exit.noGoto_ret]); go_ret3)
      exact ⟨vo, by rw [HE.out, HSL.out]; rfl, by rw [HE.out, HSL.out]; exact (HI.out.fresh).base HB2.out.size, HB2.out.trans (HI.out.be.mono HB2.out.size)⟩
end Go.Proofs.Ytlondopgibcikaa
namespace Go.Proofs.Ytlondopgibcikaa
open Go.RowKit Ent

/-- lists of bytes that may be read -/
def LR (w : World) (ao : Option Addr) (L : List (List UInt8)) : Prop := L = [] ∨ ∃ b o, ao = some ⟨b, o, none⟩ ∧ ∀ (i : Nat) (l : List UInt8), L[i]? = some l → ∃ lo cap, w.cell? ⟨b, o + i, none⟩ = some (.slice lo l.length cap) ∧ l.length ≤ cap ∧ SB w lo cap l
theorem LR.below {w w' : World} {ao : Option Addr} {L : List (List UInt8)} (h : LR w ao L) (hb : Below w.heap.size w w') : LR w' ao L := by
  rcases h with h | ⟨b, o, rfl, h⟩
  · exact .inl h
  · refine .inr ⟨b, o, rfl, fun i l hl => ?_⟩
    obtain ⟨lo, cap, hc, hcap, hs⟩ := h i l hl
    exact ⟨lo, cap, by rw [hb.cell (World.block_lt_of_cell? w _ hc)]; exact hc, hcap, hs.below hb⟩
theorem LR.at {w : World} {ao : Option Addr} {L : List (List UInt8)} (h : LR w ao L) {i : Nat} {l : List UInt8} (hl : L[i]? = some l) : ∃ b o lo cap, ao = some ⟨b, o, none⟩ ∧ w.cell? ⟨b, o + i, none⟩ = some (.slice lo l.length cap) ∧ l.length ≤ cap ∧ SB w lo cap l := by
  rcases h with rfl | ⟨b, o, rfl, h⟩
  · simp at hl
  · obtain ⟨lo, cap, h1, h2, h3⟩ := h i l hl
    exact ⟨b, o, lo, cap, rfl, h1, h2, h3⟩
theorem LR.ofRow {w : World} {B : Nat} {ao : Option Addr} {n cap : Nat} {vs : List Value} {F : Nat → Prop} {L : List (List UInt8)} (ho : w.ownsRow B 22 1 (.slice ao n cap) n vs) (hr : RowS w F vs L) (hn : n = L.length) : LR w ao L := by
  subst hn
  by_cases h0 : L = []
  · exact .inl h0
  · obtain ⟨g, rfl, _, _, _, hc, _⟩ := own_cell ho (List.length_pos_iff.2 h0)
    refine .inr ⟨g, 0, rfl, fun i l hl => ?_⟩
    obtain ⟨v, hv, lo, c, rfl, hcap, hs, _⟩ := hr.at hl
    exact ⟨lo, c, by rw [Nat.zero_add]; exact hc i _ hv, hcap, hs⟩
theorem FreshL.lr {B : Nat} {w : World} {v : Value} {L : List (List UInt8)} (h : FreshL B w v L) : ∃ ao cap, v = .slice ao L.length cap ∧ LR w ao L := by
  obtain ⟨vs, Fb, ho, hr, _, _⟩ := h
  obtain ⟨ao, cap, rfl⟩ := own_slice ho
  exact ⟨ao, cap, rfl, LR.ofRow ho hr.ss rfl⟩
def sameL (L R : List (List UInt8)) : Bool := decide (L = R)
theorem same_drewN (ao bo : Option Addr) (n m c d : Nat) (l r : List UInt8) (hn : n = l.length) (hm : m = r.length) (w : World) (q : Nat) (hl : SB w ao c l) (hr : SB w bo d r) :
    Calls Try.prog 27 #[.slice ao n c, .slice bo m d] (w.drewN q) fun e w' => e = .returned (.bool (sameB l r)) ∧ w' = w.drewN q :=
  (same_any ao bo n m c d l r hn hm (w.drewN q) (hl.below (below_drewN (Below.refl _ _) q)) (hr.below (below_drewN (Below.refl _ _) q))).mono fun _ _ ⟨h1, h2⟩ => ⟨h1, h2.symm⟩
set_option maxRecDepth 100000 in
set_option maxHeartbeats 1000000 in
theorem sameLists_any (ao bo : Option Addr) (n m c d : Nat) (L R : List (List UInt8)) (hn : n = L.length) (hm : m = R.length) (hb : n ≤ 1073741824) (hb2 : m ≤ 1073741824) (w : World) (hl : LR w ao L) (hr : LR w bo R) :
    Calls Try.prog 83 #[.slice ao n c, .slice bo m d] w fun e w' => e = .returned (.bool (sameL L R)) ∧ Below w.heap.size w w' := by
  have HN := hid hn; have HM := hid hm
  have HL := hid hl; have HR := hid hr
  clear hn hm hl hr
  by_cases hne : n = m
  rotate_left
  · have HS : Hid (sameL L R = false) := hid (by
      unfold sameL
      rw [decide_eq_false_iff_not]; intro h; rw [h] at HN; exact hne (HN.out.trans HM.out.symm))
    have hb0 : ((n : Int) == (m : Int)) = false := by rw [beq_eq_false_iff_ne]; omega
    go_enter Try.func83, Try.ntmps83
    go_wp2_with fail
    go_loopw [5, 6] (fun s i wr => s = .bool false ∧ i = .int .i64 0 ∧ w = wr) (fun _ _ _ => 0)
    case atStart => exact ⟨rfl, rfl, rfl⟩
    case round =>
      obtain ⟨rfl, rfl, rfl⟩ := hrel
      go_wp2
      go_ret
      exact ⟨by rw [HS.out]; rfl, Below.refl _ _⟩
  subst hne
  go_enter Try.func83, Try.ntmps83
  go_wp2_with fail
  go_loopw [5, 6] (fun s i wr => ∃ (k : Nat) (b : Bool), k ≤ n ∧ i = .int .i64 k ∧ s = .bool b ∧ (b = true ↔ L.take k = R.take k) ∧ Below w.heap.size w wr) (fun _ i _ => n - (intOf i).toNat)
  case atStart => exact ⟨0, true, Nat.zero_le _, rfl, rfl, by simp, Below.refl _ _⟩
  case round =>
    obtain ⟨k, b, hk, rfl, rfl, ht, hbe⟩ := hrel
    have HT := hid ht; have HB := hid hbe
    clear ht hbe
    cases b
    · have HS : Hid (sameL L R = false) := hid (by
        unfold sameL
        rw [decide_eq_false_iff_not]; intro h
        exact absurd (HT.out.2 (by rw [h])) (by simp))
      go_wp2
      go_ret
      exact ⟨by rw [HS.out]; rfl, HB.out⟩
    · by_cases hlt : k < n
      · obtain ⟨l, hl⟩ : ∃ l, L[k]? = some l := ⟨_, List.getElem?_eq_getElem (by rw [← HN.out]; exact hlt)⟩
        obtain ⟨r, hr⟩ : ∃ r, R[k]? = some r := ⟨_, List.getElem?_eq_getElem (by rw [← HM.out]; exact hlt)⟩
        obtain ⟨b1, o1, lo1, cap1, rfl, cx, _, hs1⟩ := (HL.out.below HB.out).at hl
        obtain ⟨b2, o2, lo2, cap2, rfl, cy, _, hs2⟩ := (HR.out.below HB.out).at hr
        have HS1 := hid hs1; have HS2 := hid hs2
        have HLL := hid hl; have HRR := hid hr
        clear hl hr hs1 hs2
        go_wp2_with fail
        go_quiet ((go_at_call 27; exact Calls.quiet_of_same (same_drewN lo1 lo2 l.length r.length cap1 cap2 l r rfl rfl wr _ HS1.out HS2.out)))
        go_wp2
        go_roundw
        case rel =>
          refine ⟨k + 1, sameB l r, by omega, by go_num, rfl, ?_, below_drewN HB.out _⟩
          rw [List.take_add_one, List.take_add_one, HLL.out, HRR.out, HT.out.1 (by first | exact trivial | rfl)]
          simp [sameB]
        case measure => simp [intOf]; omega
      · have hk9 : k = n := by omega
        have HS : Hid (sameL L R = true) := hid (by
          have h := HT.out.1 rfl
          rw [hk9, List.take_of_length_le (by rw [HN.out]; exact Nat.le_refl _), List.take_of_length_le (by rw [HM.out]; exact Nat.le_refl _)] at h
          unfold sameL; rw [h]; simp)
        go_wp2
        go_ret
        exact ⟨by rw [HS.out]; rfl, HB.out⟩
section
variable {B : Nat} {w0 w : World} {As : List Asset} {a : Nat} {d : Dev}
theorem St.log_blank (h : St B w0 w As) (i : Nat) (hi : As[i]? = some (dev a d)) (f t g : Int) (hlo : d.loose.length ≤ 1073000000) :
    Calls Try.prog 67 #[ptr a, .agg #[.int .i64 f, .int .i64 t, .int .i64 g]] w fun e w' => e = .returned (.int .i64 (blankOf d f t g).1) ∧ St B w0 w' (As.set i (dev a (blankOf d f t g).2)) := by
  obtain ⟨F, hA, hF, ho, hcl⟩ := h.open i hi
  refine (blank_any f t g w hA (fun k hk => (hF k hk).2) hlo).mono ?_
  rintro e w' ⟨he, hp, hk⟩
  exact ⟨he, hcl w' _ _ hk (good_dev _ _) hp (fun _ h => h)⟩
theorem St.log_write (h : St B w0 w As) (i : Nat) (hi : As[i]? = some (dev a d)) (f t g at_ : Int) (ao : Option Addr) (rn rc : Nat) (rec : List UInt8) (hrn : rn = rec.length) (hrc : rn ≤ rc) (hrm : rn ≤ 9223372036854775807) (hs : SB w ao rc rec) (hap : rec ≠ [] → Apart B As i ao) (hlo : d.loose.length ≤ 1073000000) (ha1 : -9223372036854775808 ≤ at_ ∧ at_ ≤ 9223372036854775807) :
    Calls Try.prog 64 #[ptr a, .agg #[.int .i64 f, .int .i64 t, .int .i64 g], .int .i64 at_, .slice ao rn rc] w fun e w' => e = .returned (.tuple #[.int .i64 (logWrite d f t g at_ rec).1.1, .int .i64 (logWrite d f t g at_ rec).1.2]) ∧ St B w0 w' (As.set i (dev a (logWrite d f t g at_ rec).2)) := by
  obtain ⟨F, hA, hF, ho, hcl⟩ := h.open i hi
  refine (logWrite_any f t g at_ ao rn rc rec hrn hrc hrm w hs (fun hne => (hap hne).not hF ho) hA (fun k hk => (hF k hk).2) hlo ha1).mono ?_
  rintro e w' ⟨he, hp, hk⟩
  exact ⟨he, hcl w' _ _ hk (good_dev _ _) hp (fun _ h => h)⟩
theorem St.log_scan (h : St B w0 w As) (i : Nat) (hi : As[i]? = some (dev a d)) (f t g : Int) :
    Calls Try.prog 65 #[ptr a, .agg #[.int .i64 f, .int .i64 t, .int .i64 g]] w fun e w' => ∃ v, e = .returned (.tuple #[v, .int .i64 (logScan d f t g).2.1, .int .i64 (logScan d f t g).2.2]) ∧ FreshL w.heap.size w' v (logScan d f t g).1 ∧ Below w.heap.size w w' := by
  obtain ⟨F, hA, _⟩ := h.open i hi
  exact scan_any f t g w hA
theorem St.log_check (h : St B w0 w As) (i : Nat) (hi : As[i]? = some (dev a d)) (f t g : Int) :
    Calls Try.prog 66 #[ptr a, .agg #[.int .i64 f, .int .i64 t, .int .i64 g]] w fun e w' => e = .returned (.int .i64 (checkOf d f t g)) ∧ Below w.heap.size w w' := by
  obtain ⟨F, hA, _⟩ := h.open i hi
  exact check_any f t g w hA
end
set_option maxRecDepth 100000 in
theorem area6_any (g : Int) (w : World) : Calls Try.prog 69 #[.int .i64 g] w fun e w' => e = .returned (.agg #[.int .i64 1, .int .i64 4, .int .i64 g]) ∧ Below w.heap.size w w' := by
  go_enter Try.func69, Try.ntmps69
  go_wp2
  refine bodyPost_ret (results_cell_row rfl _ _ w.heap.size 76 #[.int .i64 1, .int .i64 4, .int .i64 g] (0, 0) _ rfl (alloc_new w _) Try.underlying76 rfl (by kernel_rfl)) rfl ⟨rfl, fresh_alloc w _⟩
/-- has an area just these records? -/
def hasB (d : Dev) (f t g next : Int) (W : List (List UInt8)) : Bool := decide ((logScan d f t g).2.2 = 0) && (decide ((logScan d f t g).2.1 = next) && sameL (logScan d f t g).1 W)
theorem scan_len (d : Dev) (base gen : Nat) : ∀ (m i : Nat) (out : List (List UInt8)) (next : Nat) (rec : List UInt8) (b : Bool), (scanLoop d base gen m i out next rec b).1.length ≤ out.length + m
  | 0, _, out, _, _, _ => by simp [scanLoop]
  | m + 1, i, out, next, rec, b => by
    rw [scanLoop]
    split
    · simp
    · split
      · simp
      · split
        · have := scan_len d base gen m (i + 1) out next (rec ++ by assumption) true
          omega
        · have := scan_len d base gen m (i + 1) (out ++ [rec ++ by assumption]) (i + 1) [] false
          rw [List.length_append] at this; simp at this; omega
theorem logScan_len {d : Dev} (h : d.ok) (f t g : Int) : (logScan d f t g).1.length ≤ 65536 := by
  have := h.len
  unfold logScan
  split
  · exact Nat.zero_le _
  · rename_i hc
    have hc := check_ok hc
    split
    · exact Nat.zero_le _
    · refine Nat.le_trans (scan_len d f.toNat g.toNat (t - f).toNat 0 [] 0 [] false) ?_
      simp; omega
set_option maxRecDepth 100000 in
set_option maxHeartbeats 400000 in
theorem has6_any {a : Nat} {F : Nat → Prop} {d : Dev} (f t g next : Int) (ao : Option Addr) (n c : Nat) (L : List (List UInt8)) (hn : n = L.length) (hnb : n ≤ 1073741824) (w : World) (hL : LR w ao L) (h : PDev w a F d) :
    Calls Try.prog 71 #[ptr a, .agg #[.int .i64 f, .int .i64 t, .int .i64 g], .int .i64 next, .slice ao n c] w fun e w' => e = .returned (.bool (hasB d f t g next L)) ∧ Below w.heap.size w w' := by
  have hok : d.ok := by obtain ⟨_, _, _, _, _, h⟩ := h; exact h.ok
  have HLEN := hid (logScan_len hok f t g)
  have HN := hid hn
  obtain ⟨w1, hw1⟩ : ∃ w1, w.alloc (.cells #[.int .i64 f, .int .i64 t, .int .i64 g] 76) = w1 := ⟨_, rfl⟩
  have HW1 := hid hw1
  have HBX : Hid (Blk w1 w.heap.size 76 [.int .i64 f, .int .i64 t, .int .i64 g]) := hid (by rw [← hw1]; exact alloc_new w _)
  have HB1 : Hid (Below w.heap.size w w1) := hid (by rw [← hw1]; exact fresh_alloc w _)
  have H1 := hid (h.below HB1.out)
  have HL1 := hid (hL.below HB1.out)
  clear hw1 h hok hn hL
  unfold ptr
  go_enter Try.func71, Try.ntmps71
  go_wp2_with fail
  rw [HW1.out]
  have x0 := HBX.out.cell (j := 0) rfl
  have x1 := HBX.out.cell (j := 1) rfl
  have x2 := HBX.out.cell (j := 2) rfl
  go_wp2_with fail
  refine (scan_any f t g w1 H1.out).mono ?_
  rintro e w2 ⟨v, rfl, hf, hb2⟩
  clear x0 x1 x2
  obtain ⟨l, hl⟩ : ∃ l, (logScan d f t g).1 = l := ⟨_, rfl⟩
  rw [hl] at hf HLEN
  obtain ⟨bo, cap, rfl, hlr⟩ := hf.lr
  have HB2 := hid (HB1.out.trans (hb2.mono HB1.out.size))
  have HLL := hid (HL1.out.below hb2)
  have HLR := hid hlr
  have HLE := hid hl
  clear hf hb2 hlr hl
  obtain ⟨e, he⟩ : ∃ e, (logScan d f t g).2.2 = e := ⟨_, rfl⟩
  obtain ⟨m, hm⟩ : ∃ m, (logScan d f t g).2.1 = m := ⟨_, rfl⟩
  rw [he, hm]
  have HH : Hid (hasB d f t g next L = (decide (e = 0) && (decide (m = next) && sameL l L))) := hid (by rw [hasB, HLE.out, he, hm])
  clear he hm
  obtain ⟨n2, hn2⟩ : ∃ n2, l.length = n2 := ⟨_, rfl⟩
  have HN2 := hid hn2
  have hb5 : n2 ≤ 65536 := by rw [← hn2]; exact HLEN.out
  rw [hn2]
  clear hn2
  by_cases h1 : e = 0
  · subst h1
    by_cases h2 : m = next
    · subst h2
      have z2 : (m == m) = true := beq_self_eq_true m
      have z3 : decide (m = m) = true := by simp
      go_wp2_with fail
      refine (sameLists_any bo ao n2 n cap c l L HN2.out.symm HN.out (by omega) hnb w2 HLR.out HLL.out).mono ?_
      rintro e w3 ⟨rfl, hb3⟩
      have HB3 := hid (HB2.out.trans (hb3.mono HB2.out.size))
      clear hb3
      go_wp2
      go_ret
      exact ⟨by rw [HH.out]; simp, HB3.out⟩
    · have z2 : (m == next) = false := by rw [beq_eq_false_iff_ne]; exact h2
      have z3 : decide (m = next) = false := by simp [h2]
      have HZ := hid z3
      go_wp2
      go_ret
      exact ⟨by rw [HH.out, HZ.out]; rfl, HB2.out⟩
  · have z2 : (e == 0) = false := by rw [beq_eq_false_iff_ne]; exact h1
    have z3 : decide (e = 0) = false := by simp [h1]
    have HZ := hid z3
    go_wp2
    go_ret
    exact ⟨by rw [HH.out, HZ.out]; rfl, HB2.out⟩
end Go.Proofs.Ytlondopgibcikaa
namespace Go.Proofs.Ytlondopgibcikaa
open Go.RowKit Ent

section
variable {B : Nat} {w0 w w1 : World} {As : List Asset} {a : Nat} {d : Dev}
/-- one of them, in a world that has only more blocks -/
theorem St.open2 (h : St B w0 w As) (hb : Below w.heap.size w w1) (i : Nat) {A : Asset} (hi : As[i]? = some A) :
    ∃ F, A w1 F ∧ (∀ k, F k → B ≤ k ∧ k < w.heap.size) ∧ ∀ (w' : World) (A' : Asset) (F' : Nat → Prop), Keep F w1 w' → Good A' → A' w' F' → (∀ k, F' k → grow F w1 w' k) → St B w0 w' (As.set i A') := by
  obtain ⟨Fs, hl, ho, _⟩ := h.own
  obtain ⟨F, hA, hF, _, hcl⟩ := h.open i hi
  have hg : Good A := by
    obtain ⟨G, hG⟩ : ∃ G, Fs[i]? = some G := ⟨_, List.getElem?_eq_getElem (by rw [hl]; exact (List.getElem?_eq_some_iff.1 hi).1)⟩
    exact (ho i A G hi hG).1
  refine ⟨F, hg.keep hA (Keep.ofBelow (F := fun _ => False) hb) (fun _ _ h => h), hF, fun w' A' F' hk hg' ha' hF' => ?_⟩
  refine hcl w' A' F' ((Keep.ofBelow hb).trans hk) hg' ha' (fun k hk' => ?_)
  rcases hF' k hk' with h1 | h1
  · exact .inl h1
  · exact .inr ⟨Nat.le_trans hb.size h1.1, h1.2⟩
theorem St.log_write2 (h : St B w0 w As) (hb : Below w.heap.size w w1) (i : Nat) (hi : As[i]? = some (dev a d)) (f t g at_ : Int) (ao : Option Addr) (rn rc : Nat) (rec : List UInt8) (hrn : rn = rec.length) (hrc : rn ≤ rc) (hrm : rn ≤ 9223372036854775807) (hs : SB w1 ao rc rec) (hap : rec ≠ [] → ∀ x, ao = some x → x.block < B ∨ w.heap.size ≤ x.block) (hlo : d.loose.length ≤ 1073000000) (ha1 : -9223372036854775808 ≤ at_ ∧ at_ ≤ 9223372036854775807) :
    Calls Try.prog 64 #[ptr a, .agg #[.int .i64 f, .int .i64 t, .int .i64 g], .int .i64 at_, .slice ao rn rc] w1 fun e w' => e = .returned (.tuple #[.int .i64 (logWrite d f t g at_ rec).1.1, .int .i64 (logWrite d f t g at_ rec).1.2]) ∧ St B w0 w' (As.set i (dev a (logWrite d f t g at_ rec).2)) := by
  obtain ⟨F, hA, hF, hcl⟩ := h.open2 hb i hi
  refine (logWrite_any f t g at_ ao rn rc rec hrn hrc hrm w1 hs (fun hne x hx hF' => by rcases hap hne x hx with h | h <;> have := hF _ hF' <;> omega) hA (fun k hk => Nat.lt_of_lt_of_le (hF k hk).2 hb.size) hlo ha1).mono ?_
  rintro e w' ⟨he, hp, hk⟩
  exact ⟨he, hcl w' _ _ hk (good_dev _ _) hp (fun _ h => h)⟩
theorem St.log_has (h : St B w0 w As) (hb : Below w.heap.size w w1) (i : Nat) (hi : As[i]? = some (dev a d)) (f t g next : Int) (ao : Option Addr) (n c : Nat) (L : List (List UInt8)) (hn : n = L.length) (hnb : n ≤ 1073741824) (hL : LR w1 ao L) :
    Calls Try.prog 71 #[ptr a, .agg #[.int .i64 f, .int .i64 t, .int .i64 g], .int .i64 next, .slice ao n c] w1 fun e w' => e = .returned (.bool (hasB d f t g next L)) ∧ St B w0 w' As := by
  obtain ⟨F, hA, hF, hcl⟩ := h.open2 hb i hi
  refine (has6_any f t g next ao n c L hn hnb w1 hL hA).mono ?_
  rintro e w' ⟨he, hb'⟩
  exact ⟨he, h.below (hb.trans (hb'.mono hb.size))⟩
end
def m60 : Dev := Dev.new 4
def m61 : Dev := (blankOf m60 1 4 7).2
def m62 : Dev := (logWrite m61 1 4 7 0 [97, 98, 99]).2
def m63 : Dev := m62.flush.2
theorem mf1 : (blankOf m60 1 4 7).1 = 0 := by decide +kernel
theorem mf2 : (logWrite m61 1 4 7 0 [97, 98, 99]).1 = (1, 0) := by decide +kernel
theorem mf3 : m62.flush.1 = 0 := by decide +kernel
theorem mf4 : hasB m63 1 4 7 1 [[97, 98, 99]] = true := by decide +kernel
theorem mf5 : hasB m63 1 4 8 0 [] = true := by decide +kernel
theorem mf6 : m60.loose.length ≤ 1073000000 := by decide +kernel
theorem mf7 : m61.loose.length ≤ 1073000000 := by decide +kernel
set_option maxRecDepth 100000 in
set_option maxHeartbeats 400000 in
theorem made6_any {B : Nat} {w0 : World} {As : List Asset} (w : World) (h : St B w0 w As) :
    Calls Try.prog 68 #[] w fun e w' => ∃ a, e = .returned (ptr a) ∧ St B w0 w' (As ++ [dev a m63]) := by
  have H0 := hid h
  clear h
  go_enter Try.func68, Try.ntmps68
  go_wp2_with fail
  refine (H0.out.dev_new 4 (by omega) (by omega)).mono ?_
  rintro e w1 ⟨a, rfl, h1⟩
  have HI : Hid ((As ++ [dev a m60])[As.length]? = some (dev a m60)) := hid (by simp)
  have HI1 : Hid ((As ++ [dev a m61])[As.length]? = some (dev a m61)) := hid (by simp)
  have HI2 : Hid ((As ++ [dev a m62])[As.length]? = some (dev a m62)) := hid (by simp)
  have H1 : Hid (St B w0 w1 (As ++ [dev a m60])) := hid h1
  clear h1
  unfold ptr
  have kc := fun (w : World) (C : Array Value) (n c : Nat) => Lib.run_convert_bytes_const (P := Try.prog) w 22 5 C n c Try.underlying22 Try.underlying5
  go_wp2_with fail
  refine (area6_any 7 w1).mono ?_
  rintro e w2 ⟨rfl, hb2⟩
  have H2 := hid (H1.out.below hb2)
  clear hb2
  go_wp2_with fail
  refine (H2.out.log_blank As.length HI.out 1 4 7 mf6).mono ?_
  rintro e w3 ⟨rfl, h3⟩
  have H3 : Hid (St B w0 w3 (As ++ [dev a m61])) := hid (by simpa [m61] using h3)
  clear h3
  rw [mf1]
  go_wp2_with fail
  refine (area6_any 7 w3).mono ?_
  rintro e w4 ⟨rfl, hb4⟩
  have H4 := hid (H3.out.below hb4)
  clear hb4
  go_wp2_with fail
  refine (H4.out.log_write2 (fresh_alloc w4 _) As.length HI1.out 1 4 7 0 _ 3 3 [97, 98, 99] rfl (by omega) (by omega) (SB.laid w4 [97, 98, 99] _ _) (by rintro _ x ⟨⟩; exact .inr (Nat.le_refl _)) mf7 (by omega)).mono ?_
  rintro e w5 ⟨rfl, h5⟩
  have H5 : Hid (St B w0 w5 (As ++ [dev a m62])) := hid (by simpa [m62] using h5)
  clear h5
  rw [mf2]
  go_wp2_with fail
  refine (H5.out.dev_flush As.length HI2.out).mono ?_
  rintro e w6 ⟨rfl, h6⟩
  have H6 : Hid (St B w0 w6 (As ++ [dev a m63])) := hid (by simpa [m63] using h6)
  clear h6
  rw [mf3]
  go_wp2
  go_ret
  exact ⟨a, rfl, H6.out⟩
theorem LR.ofRange {w : World} {g : Nat} {vs : List Value} {L : List (List UInt8)} (hr : w.rangeAt g 0 vs) (hvs : ∀ (i : Nat) (l : List UInt8), L[i]? = some l → ∃ lo cap, vs[i]? = some (.slice lo l.length cap) ∧ l.length ≤ cap ∧ SB w lo cap l) : LR w (some ⟨g, 0, none⟩) L := by
  refine .inr ⟨_, _, rfl, fun i m hm => ?_⟩
  obtain ⟨lo, cap, h1, h2, h3⟩ := hvs i m hm
  exact ⟨lo, cap, hr i _ h1, h2, h3⟩
theorem LR.laid1 (w : World) (v : Value) (lo : Option Addr) (c : Nat) (l : List UInt8) (hv : v = .slice lo l.length c) (hc : l.length ≤ c) (T : TypeId) (hs : SB w lo c l) {fr : Nat × Nat} {g : Nat} (hg : g = w.heap.size) :
    LR (w.alloc (.cells #[v] T fr)) (some ⟨g, 0, none⟩) [l] := by
  subst hg
  refine LR.ofRange (vs := [v]) (fun j u hu => by rw [Nat.zero_add]; exact (cell_of_row _ _ _ _ _ _ (alloc_new w _)).trans (by simpa using hu)) (fun i m hm => ?_)
  rcases i with _ | i
  · injection hm with hm; subst hm
    exact ⟨lo, c, by rw [hv]; rfl, hc, hs.below (fresh_alloc w _)⟩
  · simp at hm
theorem LR.laid2 (w : World) (v u : Value) (lo lo2 : Option Addr) (c c2 : Nat) (l m : List UInt8) (hv : v = .slice lo l.length c) (hu : u = .slice lo2 m.length c2) (hc : l.length ≤ c) (hc2 : m.length ≤ c2) (T : TypeId) (hs : SB w lo c l) (hs2 : SB w lo2 c2 m) {fr : Nat × Nat} {g : Nat} (hg : g = w.heap.size) :
    LR (w.alloc (.cells #[v, u] T fr)) (some ⟨g, 0, none⟩) [l, m] := by
  subst hg
  refine LR.ofRange (vs := [v, u]) (fun j u hu => by rw [Nat.zero_add]; exact (cell_of_row _ _ _ _ _ _ (alloc_new w _)).trans (by simpa using hu)) (fun i x hx => ?_)
  rcases i with _ | _ | i
  · injection hx with hx; subst hx
    exact ⟨lo, c, by rw [hv]; rfl, hc, hs.below (fresh_alloc w _)⟩
  · injection hx with hx; subst hx
    exact ⟨lo2, c2, by rw [hu]; rfl, hc2, hs2.below (fresh_alloc w _)⟩
  · simp at hx
set_option maxRecDepth 100000 in
set_option maxHeartbeats 400000 in
theorem awake6_any (w : World) : Calls Try.prog 63 #[] w fun e w' => e = .returned (.bool true) ∧ Below w.heap.size w w' := by
  go_enter Try.func63, Try.ntmps63
  go_wp2_with fail
  refine (made6_any w (St.start w)).mono ?_
  rintro e w1 ⟨a, rfl, h1⟩
  have H1 := hid h1
  clear h1
  unfold ptr
  have kc := fun (w : World) (C : Array Value) (n c : Nat) => Lib.run_convert_bytes_const (P := Try.prog) w 22 5 C n c Try.underlying22 Try.underlying5
  go_wp2_with fail
  refine (need_any 50 (by omega) w1).mono ?_
  rintro e w' ⟨rfl, rfl⟩
  rw [show needOf 50 = 2 from rfl]
  go_wp2_with fail
  refine (area6_any 7 w').mono ?_
  rintro e w2 ⟨rfl, hb2⟩
  have H2 := hid (H1.out.below hb2)
  clear hb2
  go_wp2_with fail
  refine (H2.out.log_has (w1 := (w2.alloc (Obj.cells #[Value.int IntKind.u8 97, Value.int IntKind.u8 98, Value.int IntKind.u8 99] 5 (3, 4))).alloc (Obj.cells #[Value.slice (some { block := w2.heap.size, off := 0 }) 3 3] 22)) ((fresh_alloc w2 _).alloc (by simp) _) 0 rfl 1 4 7 1 _ 1 1 [[97, 98, 99]] rfl (by omega) (LR.laid1 _ _ _ 3 [97, 98, 99] rfl (by decide) _ (SB.laid w2 [97, 98, 99] _ _) (by simp))).mono ?_
  rintro e w3 ⟨rfl, h3⟩
  have H3 := hid h3
  clear h3
  rw [mf4]
  go_wp2_with fail
  refine (area6_any 8 w3).mono ?_
  rintro e w4 ⟨rfl, hb4⟩
  have H4 := hid (H3.out.below hb4)
  clear hb4
  go_wp2_with fail
  refine (H4.out.log_has (Below.refl _ _) 0 rfl 1 4 8 0 none 0 0 [] rfl (by omega) (.inl rfl)).mono ?_
  rintro e w5 ⟨rfl, h5⟩
  have H5 := hid h5
  clear h5
  rw [mf5]
  go_wp2
  go_ret
  exact ⟨rfl, H5.out.be⟩
end Go.Proofs.Ytlondopgibcikaa
namespace Go.Proofs.Ytlondopgibcikaa
open Go.RowKit Ent

theorem sb_lt {w : World} {ao : Option Addr} {cap : Nat} {l : List UInt8} (h : SB w ao cap l) (hne : l ≠ []) : ∀ a, ao = some a → a.block < w.heap.size := by
  intro a ha
  rcases h with ⟨_, _, h⟩ | ⟨_, _, h⟩ | ⟨b, o, h1, h2⟩
  · exact absurd h hne
  · exact absurd h hne
  · rw [h1] at ha; injection ha with ha; subst ha
    obtain ⟨x, l', rfl⟩ := List.exists_cons_of_ne_nil hne
    exact World.block_lt_of_cell? w ⟨b, o + 0, none⟩ (h2 0 (.int .u8 (x.toNat : Int)) (by simp [bv]))
/-- bytes that are read -/
def sbA (ao : Option Addr) (cap : Nat) (l : List UInt8) : Asset := fun w F => SB w ao cap l ∧ ∀ x, ao = some x → F x.block
theorem good_sbA (ao : Option Addr) (cap : Nat) (l : List UInt8) : Good (sbA ao cap l) := ⟨fun h hk hG => ⟨h.1.keep hk (fun a ha => hG _ (h.2 a ha)), h.2⟩⟩
/-- a row of its own -/
def ownA (T : TypeId) (s : Nat) (v : Value) (q : Nat) (vs : List Value) : Asset := fun w F => w.ownsRow 0 T s v q vs ∧ ∀ k, v.ownBlock = some k → F k
theorem good_ownA (T : TypeId) (s : Nat) (v : Value) (q : Nat) (vs : List Value) : Good (ownA T s v q vs) := ⟨fun h hk hG => ⟨owns_keep h.1 hk (fun k hk' => hG _ (h.2 k hk')), h.2⟩⟩
/-- the slices of a row that are read -/
def ReadRow (w : World) (vs : List Value) (L : List (List UInt8)) : Prop := vs.length = L.length ∧ ∀ (i : Nat) (l : List UInt8), L[i]? = some l → ∃ lo cap, vs[i]? = some (.slice lo l.length cap) ∧ l.length ≤ cap ∧ SB w lo cap l
theorem ReadRow.nil (w : World) : ReadRow w [] [] := ⟨rfl, fun i l h => by simp at h⟩
theorem ReadRow.snoc {w : World} {vs : List Value} {L : List (List UInt8)} (h : ReadRow w vs L) {lo : Option Addr} {n cap : Nat} {l : List UInt8} (hn : n = l.length) (hc : n ≤ cap) (hs : SB w lo cap l) : ReadRow w (vs ++ [.slice lo n cap]) (L ++ [l]) := by
  subst hn
  refine ⟨by simp [h.1], fun i m hm => ?_⟩
  by_cases hi : i < L.length
  · rw [List.getElem?_append_left hi] at hm
    obtain ⟨lo', cap', h1, h2, h3⟩ := h.2 i m hm
    exact ⟨lo', cap', by rw [List.getElem?_append_left (by rw [h.1]; exact hi)]; exact h1, h2, h3⟩
  · have hi' : i = L.length := by
      have := (List.getElem?_eq_some_iff.1 hm).1
      simp at this; omega
    subst hi'
    rw [List.getElem?_append_right (Nat.le_refl _), Nat.sub_self] at hm
    simp at hm
    subst hm
    exact ⟨lo, cap, by rw [List.getElem?_append_right (by rw [h.1]; exact Nat.le_refl _), h.1, Nat.sub_self]; rfl, hc, hs⟩
theorem ReadRow.below {w w' : World} {vs : List Value} {L : List (List UInt8)} (h : ReadRow w vs L) (hb : Below w.heap.size w w') : ReadRow w' vs L :=
  ⟨h.1, fun i l hl => by obtain ⟨lo, cap, h1, h2, h3⟩ := h.2 i l hl; exact ⟨lo, cap, h1, h2, h3.below hb⟩⟩
theorem ReadRow.lr {w : World} {base : Nat} {T : TypeId} {v : Value} {q : Nat} {vs : List Value} {L : List (List UInt8)} (h : ReadRow w vs L) (ho : w.ownsRow base T 1 v q vs) : ∃ ao cap, v = .slice ao q cap ∧ q = L.length ∧ LR w ao L := by
  have hl := ho.1
  rw [Nat.mul_one, h.1] at hl
  rcases ho.2 with ⟨rfl, rfl⟩ | ⟨g, cap, cur, rfl, _, hh, _, _, _, ht⟩
  · exact ⟨none, 0, rfl, hl.symm, .inl (List.eq_nil_of_length_eq_zero hl)⟩
  · refine ⟨_, cap, rfl, hl.symm, LR.ofRange (vs := vs) (fun j u hu => ?_) h.2⟩
    rw [Nat.zero_add, cell_of_row w g j cur _ _ hh]
    rw [← ht, List.getElem?_take] at hu
    split at hu
    · simpa using hu
    · cases hu
section
variable {B : Nat} {w0 w w1 : World} {As : List Asset} {a : Nat} {d : Dev}
theorem St.addSB (h : St B w0 w As) (hb : Below w.heap.size w w1) {ao : Option Addr} {cap : Nat} {l : List UInt8} (hs : SB w1 ao cap l) (hr : ∀ x, ao = some x → w.heap.size ≤ x.block ∧ x.block < w1.heap.size) : St B w0 w1 (As ++ [sbA ao cap l]) :=
  h.add hb (F := fun k => ∃ x, ao = some x ∧ k = x.block) (good_sbA ao cap l) ⟨hs, fun x hx => ⟨x, hx, rfl⟩⟩ (fun k ⟨x, hx, e⟩ => by rw [e]; exact hr x hx)
theorem St.sb (h : St B w0 w As) (i : Nat) {ao : Option Addr} {cap : Nat} {l : List UInt8} (hi : As[i]? = some (sbA ao cap l)) : SB w ao cap l := by
  obtain ⟨F, hA, _⟩ := h.open i hi
  exact hA.1
theorem St.sbRange (h : St B w0 w As) (i : Nat) {ao : Option Addr} {cap : Nat} {l : List UInt8} (hi : As[i]? = some (sbA ao cap l)) : ∀ x, ao = some x → B ≤ x.block ∧ x.block < w.heap.size := by
  obtain ⟨F, hA, hF, _⟩ := h.open i hi
  exact fun x hx => hF _ (hA.2 x hx)
/-- an asset is written into the log -/
theorem St.log_write3 (h : St B w0 w As) (i : Nat) (hi : As[i]? = some (dev a d)) (f t g at_ : Int) (j : Nat) (hij : i ≠ j) (ao : Option Addr) (rn rc : Nat) (rec : List UInt8) (hj : As[j]? = some (sbA ao rc rec)) (hrn : rn = rec.length) (hrc : rn ≤ rc) (hrm : rn ≤ 9223372036854775807) (hlo : d.loose.length ≤ 1073000000) (ha1 : -9223372036854775808 ≤ at_ ∧ at_ ≤ 9223372036854775807) :
    Calls Try.prog 64 #[ptr a, .agg #[.int .i64 f, .int .i64 t, .int .i64 g], .int .i64 at_, .slice ao rn rc] w fun e w' => e = .returned (.tuple #[.int .i64 (logWrite d f t g at_ rec).1.1, .int .i64 (logWrite d f t g at_ rec).1.2]) ∧ St B w0 w' (As.set i (dev a (logWrite d f t g at_ rec).2)) := by
  obtain ⟨F, hA, hF, ho, hcl⟩ := h.open i hi
  obtain ⟨G, hG, _, hFG⟩ := ho j _ hij hj
  refine (logWrite_any f t g at_ ao rn rc rec hrn hrc hrm w hG.1 (fun _ x hx hf => hFG _ hf (hG.2 x hx)) hA (fun k hk => (hF k hk).2) hlo ha1).mono ?_
  rintro e w' ⟨he, hp, hk⟩
  exact ⟨he, hcl w' _ _ hk (good_dev _ _) hp (fun _ h => h)⟩
theorem St.dev_write3 (h : St B w0 w As) (i : Nat) (hi : As[i]? = some (dev a d)) (n : Int) (j : Nat) (hij : i ≠ j) (bo : Option Addr) (m c : Nat) (b : List UInt8) (hj : As[j]? = some (sbA bo c b)) (hm : m = b.length) (hlo : d.loose.length ≤ 1073741824) :
    Calls Try.prog 48 #[ptr a, .int .i64 n, .slice bo m c] w fun e w' => e = .returned (.int .i64 (d.write n b).1) ∧ St B w0 w' (As.set i (dev a (d.write n b).2)) := by
  obtain ⟨F, hA, hF, ho, hcl⟩ := h.open i hi
  obtain ⟨G, hG, _, hFG⟩ := ho j _ hij hj
  refine (lift_write n bo m c b hm w hG.1 (fun x hx hf => hFG _ hf (hG.2 x hx)) hlo hA).mono ?_
  rintro e w' ⟨he, hp, hk⟩
  exact ⟨he, hcl w' _ _ hk (good_dev _ _) hp (fun _ h => h)⟩
theorem St.addOwn (h : St B w0 w As) (T : TypeId) (s : Nat) : St B w0 w (As ++ [ownA T s (.slice none 0 0) 0 []]) :=
  h.add (Below.refl _ _) (F := fun _ => False) (good_ownA _ _ _ _ _) ⟨World.ownsRow_nil _ _ _ _, fun k hk => by simp [Value.ownBlock] at hk⟩ (fun k hk => hk.elim)
theorem St.own_ (h : St B w0 w As) (i : Nat) {T : TypeId} {s : Nat} {v : Value} {q : Nat} {vs : List Value} (hi : As[i]? = some (ownA T s v q vs)) : w.ownsRow 0 T s v q vs := by
  obtain ⟨F, hA, _⟩ := h.open i hi
  exact hA.1
/-- .. grows -/
theorem St.ownGrow (h : St B w0 w As) (i : Nat) {T : TypeId} {s : Nat} {v v' : Value} {q q' : Nat} {vs vs' : List Value} (hi : As[i]? = some (ownA T s v q vs)) (ho : w1.ownsRow 0 T s v' q' vs') (hg : w.grownBy w1 v.ownBlock) (hv : v'.ownBlock = v.ownBlock ∨ v'.ownBlock = some w.heap.size) : St B w0 w1 (As.set i (ownA T s v' q' vs')) := by
  obtain ⟨F, hA, hF, _, hcl⟩ := h.open i hi
  refine hcl w1 _ (fun k => v'.ownBlock = some k) ?_ (good_ownA _ _ _ _ _) ⟨ho, fun k hk => hk⟩ (fun k hk => ?_)
  · exact ⟨hg.os, hg.tape, hg.output, hg.size, fun k hk hn => hg.block k hk (fun e => hn (hA.2 k e.symm))⟩
  · rcases hv with hv | hv
    · exact .inl (hA.2 k (by rw [← hv]; exact hk))
    · have h1 := ho.lt k hk
      rw [hv] at hk; injection hk with hk
      exact .inr ⟨by omega, h1.2⟩
/-- a block in the place of nothing -/
theorem St.newAt (h : St B w0 w As) (i : Nat) (hi : As[i]? = some noA) (hb : Below w.heap.size w w1) {g : Nat} {T : TypeId} {vs : List Value} (hB : Blk w1 g T vs) (hg : w.heap.size ≤ g) : St B w0 w1 (As.set i (blkA g T vs)) := by
  obtain ⟨F, _, _, _, hcl⟩ := h.open i hi
  exact hcl w1 _ (fun k => k = g) (Keep.ofBelow hb) (good_blkA _ _ _) ⟨hB, rfl⟩ (fun k hk => by rw [hk]; exact .inr ⟨hg, hB.lt⟩)
theorem St.addNo (h : St B w0 w As) : St B w0 w (As ++ [noA]) := h.add (Below.refl _ _) (F := fun _ => False) good_noA trivial (fun _ hk => hk.elim)
end
end Go.Proofs.Ytlondopgibcikaa
namespace Go.Proofs.Ytlondopgibcikaa
open Go.RowKit Ent

def manyL (n : Nat) : List UInt8 := (List.range n).map fun i => UInt8.ofNat (i * 7)
theorem manyL_succ (n : Nat) : manyL (n + 1) = manyL n ++ [UInt8.ofNat (n * 7)] := by simp [manyL, List.range_succ]
@[simp] theorem manyL_len (n : Nat) : (manyL n).length = n := by simp [manyL]
theorem byte7 (k : Nat) : (k : Int) * 7 % 256 = ((UInt8.ofNat (k * 7)).toNat : Int) := by
  simp
set_option maxRecDepth 100000 in
set_option maxHeartbeats 400000 in
theorem many_any (n : Nat) (hn : n ≤ 1048576) (w : World) :
    Calls Try.prog 70 #[.int .i64 n] w fun e w' => ∃ v, e = .returned v ∧ w'.ownsRow w.heap.size 5 1 v n (bv (manyL n)) ∧ Below w.heap.size w w' := by
  go_enter Try.func70, Try.ntmps70
  go_wp2_with fail
  go_loopw [3, 4] (fun v3 i wr => ∃ (VO : Value) (k : Nat), VO = v3 ∧ k ≤ n ∧ i = .int .i64 k ∧ wr.ownsRow w.heap.size 5 1 VO k (bv (manyL k)) ∧ Below w.heap.size w wr) (fun _ i _ => n - (intOf i).toNat)
  case atStart => exact ⟨_, 0, rfl, Nat.zero_le _, rfl, World.ownsRow_nil _ _ _ _, Below.refl _ _⟩
  case round =>
    obtain ⟨VO, k, rfl, hk, rfl, ho, hb⟩ := hrel
    have HO := hid ho; have HB := hid hb
    clear ho hb
    by_cases hlt : k < n
    · have HSB : Hid (SB (wr.alloc (.cells #[.int .u8 ((k : Int) * 7 % 256)] 5)) (some ⟨wr.heap.size, 0, none⟩) 1 [UInt8.ofNat (k * 7)]) := hid (by rw [byte7]; exact SB.laid wr [UInt8.ofNat (k * 7)] _ 1)
      go_wp2_with (refine wpl_append rfl (.tmp 10) (.tmp 14) rfl w.heap.size _ _ _ [UInt8.ofNat (k * 7)] rfl (HO.out.alloc _) (some ⟨wr.heap.size, 0, none⟩) 1 1 rfl rfl HSB.out (by omega) (by have := HB.out.size; simp; omega) ?_; intro v2 w2 ho2 hg2 _; have HO2 := hid ho2; have HB2 := hid (below_grown (HB.out.alloc HB.out.size _) (HO.out.alloc _) hg2 (Nat.le_refl _)); clear ho2 hg2)
      go_roundw
      case rel => exact ⟨_, k + 1, rfl, by omega, by go_num, by rw [manyL_succ]; exact HO2.out, HB2.out⟩
      case measure => simp [intOf]; omega
    · have hk9 : k = n := by omega
      subst hk9
      go_wp2
      go_ret
      exact ⟨_, rfl, HO.out, HB.out⟩
def n61 : Dev := (logWrite m63 1 4 7 1 (manyL 50)).2
def n62 : Dev := (logWrite n61 1 4 7 3 []).2
def n63 : Dev := n62.flush.2
def n64 : Dev := (n61.crash [true] 63).2
theorem nf1 : (logWrite m63 1 4 7 1 (manyL 50)).1 = (3, 0) := by decide +kernel
theorem nf2 : (logWrite n61 1 4 7 3 []).1 = (0, 10) := by decide +kernel
theorem nf3 : n62.flush.1 = 0 := by decide +kernel
theorem nf4 : hasB n63 1 4 7 3 [[97, 98, 99], manyL 50] = true := by decide +kernel
theorem nf5 : hasB n63 1 4 8 0 [] = true := by decide +kernel
theorem nf6 : checkOf n63 2 5 7 = 3 := by decide +kernel
theorem nf7 : checkOf n63 1 4 0 = 3 := by decide +kernel
theorem nf8 : (n61.crash [true] 63).1 = 0 := by decide +kernel
theorem nf9 : hasB n64 1 4 7 1 [[97, 98, 99]] = true := by decide +kernel
theorem nl1 : m63.loose.length ≤ 1073000000 := by decide +kernel
theorem nl2 : n61.loose.length ≤ 1073000000 := by decide +kernel
section
variable {B : Nat} {w0 w w1 : World} {As : List Asset} {a : Nat} {d : Dev}
theorem St.dev_crash2 (h : St B w0 w As) (hb : Below w.heap.size w w1) (i : Nat) (hi : As[i]? = some (dev a d)) (ko : Option Addr) (kn kc : Nat) (keep : List Bool) (hkn : kn = keep.length) (torn : Int) (hbl : BL w1 ko keep) (hap : ∀ x, ko = some x → x.block < B ∨ w.heap.size ≤ x.block) (hkb : kn ≤ 1073741824) (hlo : d.loose.length ≤ 1073741824) :
    Calls Try.prog 39 #[ptr a, .slice ko kn kc, .int .i64 torn] w1 fun e w' => e = .returned (.int .i64 (d.crash keep torn).1) ∧ St B w0 w' (As.set i (dev a (d.crash keep torn).2)) := by
  obtain ⟨F, hA, hF, hcl⟩ := h.open2 hb i hi
  refine (lift_crash ko kn kc keep hkn torn w1 hbl (fun _ x hx hF' => by rcases hap x hx with h | h <;> have := hF _ hF' <;> omega) hkb hlo hA).mono ?_
  rintro e w' ⟨he, hp, hk⟩
  exact ⟨he, hcl w' _ _ hk (good_dev _ _) hp (fun _ h => .inl h)⟩
end
set_option maxRecDepth 100000 in
set_option maxHeartbeats 1000000 in
theorem known6_any {B : Nat} {w0 : World} (w : World) (h : St B w0 w []) : Calls Try.prog 14 #[] w fun e w' => e = .returned (.bool true) ∧ ∃ As, St B w0 w' As := by
  have H0 := hid h
  clear h
  go_enter Try.func14, Try.ntmps14
  go_wp2_with fail
  refine (made6_any w H0.out).mono ?_
  rintro e w1 ⟨a, rfl, h1⟩
  have H1 := hid h1
  clear h1
  unfold ptr
  go_wp2_with fail
  refine (made6_any w1 H1.out).mono ?_
  rintro e w2 ⟨b, rfl, h2⟩
  have H2 : Hid (St B w0 w2 [dev a m63, dev b m63]) := hid h2
  clear h2
  unfold ptr
  go_wp2_with fail
  refine (area6_any 7 w2).mono ?_
  rintro e w3 ⟨rfl, hb⟩
  have H3 := hid (H2.out.below hb)
  clear hb
  go_wp2_with fail
  refine (many_any 50 (by omega) w3).mono ?_
  rintro e w4 ⟨v, rfl, ho, hb⟩
  obtain ⟨ao, cs, rfl, hnn, hcc, hss, -, hgg⟩ := own_all ho
  have HS4 := hid hss; have HC4 := hid hcc; have HG4 := hid hgg
  have HB4 := hid hb
  clear ho hb hnn hss hcc hgg
  go_wp2_with fail
  refine (H3.out.log_write2 HB4.out 0 rfl 1 4 7 1 ao 50 cs (manyL 50) rfl HC4.out (by omega) HS4.out (fun _ x hx => .inr (HG4.out x hx).1) nl1 (by omega)).mono ?_
  rintro e w5 ⟨rfl, h'⟩
  have H5 : Hid (St B w0 w5 [dev a n61, dev b m63]) := hid h'
  clear h'
  rw [nf1]
  go_wp2_with fail
  refine (area6_any 7 w5).mono ?_
  rintro e w6 ⟨rfl, hb⟩
  have H6 := hid (H5.out.below hb)
  clear hb
  go_wp2_with fail
  refine (H6.out.log_write2 (Below.refl _ _) 0 rfl 1 4 7 3 none 0 0 [] rfl (by omega) (by omega) (SB.nil _) (by rintro _ x ⟨⟩) nl2 (by omega)).mono ?_
  rintro e w7 ⟨rfl, h'⟩
  have H7 : Hid (St B w0 w7 [dev a n62, dev b m63]) := hid h'
  clear h'
  rw [nf2]
  go_wp2_with fail
  refine (H7.out.dev_flush 0 rfl).mono ?_
  rintro e w8 ⟨rfl, h'⟩
  have H8 : Hid (St B w0 w8 [dev a n63, dev b m63]) := hid h'
  clear h'
  rw [nf3]
  have kc := fun (w : World) (C : Array Value) (n c : Nat) => Lib.run_convert_bytes_const (P := Try.prog) w 22 5 C n c Try.underlying22 Try.underlying5
  go_wp2_with fail
  refine (area6_any 7 w8).mono ?_
  rintro e w9 ⟨rfl, hb⟩
  have H9 := hid (H8.out.below hb)
  clear hb
  go_wp2_with fail
  refine (many_any 50 (by omega) (w9.alloc (Obj.cells #[Value.int IntKind.u8 97, Value.int IntKind.u8 98, Value.int IntKind.u8 99] 5 (3, 4)))).mono ?_
  rintro e w10 ⟨v, rfl, ho, hb⟩
  obtain ⟨ao, cs, rfl, hnn, hcc, hss, -, hgg⟩ := own_all ho
  have HSA := hid ((SB.laid w9 [97, 98, 99] 5 3 (fr := (3, 4))).below hb)
  have HSM := hid hss; have HCM := hid hcc
  have HBM := hid ((fresh_alloc w9 (Obj.cells #[Value.int IntKind.u8 97, Value.int IntKind.u8 98, Value.int IntKind.u8 99] 5 (3, 4))).trans (hb.mono (by simp)))
  clear ho hb hnn hss hcc hgg
  go_wp2_with fail
  refine (H9.out.log_has (HBM.out.alloc HBM.out.size _) 0 rfl 1 4 7 3 _ 2 2 [[97, 98, 99], manyL 50] rfl (by omega) (LR.laid2 _ _ _ _ _ 3 cs [97, 98, 99] (manyL 50) rfl rfl (by decide) HCM.out _ HSA.out HSM.out rfl)).mono ?_
  rintro e w11 ⟨rfl, h'⟩
  have H11 := hid h'
  clear h' HSA HSM HCM HBM
  rw [nf4]
  go_wp2_with fail
  refine (area6_any 8 w11).mono ?_
  rintro e w12 ⟨rfl, hb⟩
  have H12 := hid (H11.out.below hb)
  clear hb
  go_wp2_with fail
  refine (H12.out.log_has (Below.refl _ _) 0 rfl 1 4 8 0 none 0 0 [] rfl (by omega) (.inl rfl)).mono ?_
  rintro e w13 ⟨rfl, h'⟩
  have H13 := hid h'
  clear h'
  rw [nf5]
  go_wp2_with fail
  refine (H13.out.log_check 0 rfl 2 5 7).mono ?_
  rintro e w14 ⟨rfl, hb⟩
  have H14 := hid (H13.out.below hb)
  clear hb
  rw [nf6]
  go_wp2_with fail
  refine (area6_any 0 w14).mono ?_
  rintro e w15 ⟨rfl, hb⟩
  have H15 := hid (H14.out.below hb)
  clear hb
  go_wp2_with fail
  refine (H15.out.log_check 0 rfl 1 4 0).mono ?_
  rintro e w16 ⟨rfl, hb⟩
  have H16 := hid (H15.out.below hb)
  clear hb
  rw [nf7]
  go_wp2_with fail
  refine (need_any 0 (by omega) w16).mono ?_
  rintro e w17 ⟨rfl, hwq⟩
  have H17 : Hid (St B w0 w17 [dev a n63, dev b m63]) := hid (by rw [hwq]; exact H16.out)
  clear hwq
  rw [show needOf 0 = 1 from rfl]
  go_wp2_with fail
  refine (need_any 49 (by omega) w17).mono ?_
  rintro e w18 ⟨rfl, hwq⟩
  have H18 : Hid (St B w0 w18 [dev a n63, dev b m63]) := hid (by rw [hwq]; exact H17.out)
  clear hwq
  rw [show needOf 49 = 1 from rfl]
  go_wp2_with fail
  refine (need_bad (-1) (by omega) w18).mono ?_
  rintro e w19 ⟨rfl, hwq⟩
  have H19 : Hid (St B w0 w19 [dev a n63, dev b m63]) := hid (by rw [hwq]; exact H18.out)
  clear hwq
  go_wp2_with fail
  refine (area6_any 7 w19).mono ?_
  rintro e w20 ⟨rfl, hb⟩
  have H20 := hid (H19.out.below hb)
  clear hb
  go_wp2_with fail
  refine (many_any 50 (by omega) w20).mono ?_
  rintro e w21 ⟨v, rfl, ho, hb⟩
  obtain ⟨ao, cs, rfl, hnn, hcc, hss, -, hgg⟩ := own_all ho
  have HS21 := hid hss; have HC21 := hid hcc; have HG21 := hid hgg
  have HB21 := hid hb
  clear ho hb hnn hss hcc hgg
  go_wp2_with fail
  refine (H20.out.log_write2 HB21.out 1 rfl 1 4 7 1 ao 50 cs (manyL 50) rfl HC21.out (by omega) HS21.out (fun _ x hx => .inr (HG21.out x hx).1) nl1 (by omega)).mono ?_
  rintro e w22 ⟨rfl, h'⟩
  have H22 : Hid (St B w0 w22 [dev a n63, dev b n61]) := hid h'
  clear h'
  rw [nf1]
  go_wp2_with fail
  refine (awake6_any w22).mono ?_
  rintro e w23 ⟨rfl, hb⟩
  have H23 := hid (H22.out.below hb)
  clear hb
  go_wp2_with fail
  refine (H23.out.dev_crash2 (fresh_alloc w23 _) 1 rfl _ 1 1 [true] rfl 63 (BL.laid w23 [true] _) (by rintro x ⟨⟩; exact .inr (Nat.le_refl _)) (by omega) (Nat.le_trans nl2 (by omega))).mono ?_
  rintro e w24 ⟨rfl, h'⟩
  have H24 : Hid (St B w0 w24 [dev a n63, dev b n64]) := hid h'
  clear h'
  rw [nf8]
  go_wp2_with fail
  refine (area6_any 7 w24).mono ?_
  rintro e w25 ⟨rfl, hb⟩
  have H25 := hid (H24.out.below hb)
  clear hb
  go_wp2_with fail
  refine (H25.out.log_has ((fresh_alloc w25 (Obj.cells #[Value.int IntKind.u8 97, Value.int IntKind.u8 98, Value.int IntKind.u8 99] 5 (3, 4))).alloc (by simp) _) 1 rfl 1 4 7 1 _ 1 1 [[97, 98, 99]] rfl (by omega) (LR.laid1 _ _ _ 3 [97, 98, 99] rfl (by decide) _ (SB.laid w25 [97, 98, 99] _ _) (by simp))).mono ?_
  rintro e w26 ⟨rfl, h'⟩
  have H26 := hid h'
  clear h'
  rw [nf9]
  go_wp2
  go_ret
  exact ⟨rfl, _, H26.out⟩
theorem logKnown_walk (w : World) : Calls Try.prog 14 #[] w fun e w' => e = .returned (.bool true) ∧ Below w.heap.size w w' :=
  (known6_any w (St.start w)).mono fun _ _ ⟨h1, _, h2⟩ => ⟨h1, h2.be⟩
end Go.Proofs.Ytlondopgibcikaa
namespace Go.Proofs.Ytlondopgibcikaa
open Go.RowKit Ent


def longL (L : List (List UInt8)) (n m : Nat) : Bool := decide (n < L.length) || L.any fun l => decide (m < l.length)
theorem longL_no {L : List (List UInt8)} {n m : Nat} (h : longL L n m = false) : L.length ≤ n ∧ ∀ l ∈ L, l.length ≤ m := by
  simp [longL] at h
  exact ⟨h.1, h.2⟩
theorem longL_hit {L : List (List UInt8)} {n m k : Nat} {l : List UInt8} (h : L[k]? = some l) (hl : m < l.length) : longL L n m = true := by
  have : l ∈ L := List.mem_of_getElem? h
  simp only [longL, Bool.or_eq_true, List.any_eq_true, decide_eq_true_eq]
  exact .inr ⟨l, this, hl⟩
theorem longL_end {L : List (List UInt8)} {n m k : Nat} (hk : L.length ≤ k ∨ n < k) (h : ∀ i l, i < k → L[i]? = some l → l.length ≤ m) : longL L n m = decide (n < L.length) := by
  by_cases hn : n < L.length
  · simp [longL, hn]
  · have : (L.any fun l => decide (m < l.length)) = false := by
      rw [List.any_eq_false]
      intro l hl
      obtain ⟨i, hi⟩ := List.mem_iff_getElem?.1 hl
      have := (List.getElem?_eq_some_iff.1 hi).1
      have := h i l (by omega) hi
      simp; omega
    rw [longL, this, Bool.or_false]
set_option maxRecDepth 100000 in
set_option maxHeartbeats 400000 in
theorem longLists_any (ao : Option Addr) (q c : Nat) (L : List (List UInt8)) (n m : Nat) (hq : q = L.length) (hn : n ≤ 1048576) (hqb : q ≤ 9223372036854775807) (w : World) (hL : LR w ao L) :
    Calls Try.prog 72 #[.slice ao q c, .int .i64 n, .int .i64 m] w fun e w' => e = .returned (.bool (longL L n m)) ∧ w' = w := by
  have HQ := hid hq; have HL := hid hL
  clear hq hL
  go_enter Try.func72, Try.ntmps72
  go_wp2_with fail
  go_loopw [7] (fun i wr => ∃ k : Nat, k ≤ n + 1 ∧ k ≤ q ∧ i = .int .i64 k ∧ wr = w ∧ ∀ i l, i < k → L[i]? = some l → l.length ≤ m) (fun i _ => n + 1 - (intOf i).toNat)
  case atStart => exact ⟨0, by omega, by omega, rfl, rfl, fun i l h => by omega⟩
  case round =>
    obtain ⟨k, hk, hkq, rfl, rfl, hA⟩ := hrel
    have HA := hid hA
    clear hA
    by_cases h1 : k < q
    · by_cases h2 : k ≤ n
      · obtain ⟨l, hl⟩ : ∃ l, L[k]? = some l := ⟨_, List.getElem?_eq_getElem (by rw [← HQ.out]; exact h1)⟩
        obtain ⟨b1, o1, lo1, cap1, rfl, cx, hcap, hs1⟩ := HL.out.at hl
        have HLL := hid hl
        obtain ⟨u, hu⟩ : ∃ u, l.length = u := ⟨_, rfl⟩
        have HU := hid hu
        rw [hu] at cx
        clear hl hs1 hcap hu
        by_cases h3 : m < u
        · go_wp2
          go_ret
          exact ⟨by rw [longL_hit HLL.out (by rw [HU.out]; exact h3)]; rfl, rfl⟩
        · go_wp2
          go_roundw
          case rel => exact ⟨k + 1, by omega, by omega, by go_num, by trivial, fun i x hi hx => by
            by_cases hik : i = k
            · subst hik; rw [HLL.out] at hx; injection hx with hx; subst hx; rw [HU.out]; omega
            · exact HA.out i x (by omega) hx⟩
          case measure => simp [intOf]; omega
      · have HE : Hid (longL L n m = decide (n < q)) := hid (by rw [longL_end (.inr (show n < k by omega)) HA.out, ← HQ.out])
        have z : decide (n < q) = true := by simp; omega
        go_wp2
        go_ret
        exact ⟨by rw [HE.out, z]; rfl, rfl⟩
    · have hkq2 : k = q := by omega
      subst hkq2
      have HE : Hid (longL L n m = decide (n < k)) := hid (by rw [longL_end (.inl (by rw [← HQ.out]; exact Nat.le_refl _)) HA.out, ← HQ.out])
      by_cases h5 : n < k
      · go_wp2
        go_ret
        exact ⟨by rw [HE.out]; simp [h5], rfl⟩
      · go_wp2
        go_ret
        exact ⟨by rw [HE.out]; simp [h5], rfl⟩
end Go.Proofs.Ytlondopgibcikaa
namespace Go.Proofs.Ytlondopgibcikaa
open Go.RowKit Ent

/-- a device of n sectors without a fuse, that runs -/
structure Fine (d : Dev) (n : Nat) : Prop where
  ok : d.ok
  fuse : d.fuse = none
  run : d.out = false
  len : d.img.length = n
theorem Fine.new {n : Nat} (h1 : 1 ≤ n) (h2 : n ≤ 65536) : Fine (Dev.new n) n := ⟨Dev.new_ok h1 h2, rfl, rfl, by simp [Dev.new]⟩
theorem Fine.write {d : Dev} {n i : Nat} {b : List UInt8} (h : Fine d n) (hi : i < n) (hb : b.length = 64) : d.write (i : Int) b = (0, { d with loose := d.loose ++ [(i, b)] }) := by
  have hh : has d.img.length (i : Int) = true := by simp [has, h.len]; omega
  have ht : d.through = (true, d) := by unfold Dev.through; rw [h.fuse]
  unfold Dev.write
  rw [h.run, hh, ht]
  simp [hb, h.run]
theorem Fine.more {d : Dev} {n : Nat} (h : Fine d n) {ws : List (Nat × List UInt8)} (hw : ∀ x ∈ ws, x.1 < n ∧ x.2.length = 64) : Fine { d with loose := d.loose ++ ws } n :=
  ⟨⟨h.ok.s64, h.ok.len, h.ok.pos, fun x hx => by
    rcases List.mem_append.1 hx with hx | hx
    · exact h.ok.lo x hx
    · have := hw x hx; exact ⟨by rw [h.len]; exact this.1, this.2⟩⟩, h.fuse, h.run, h.len⟩
theorem Fine.flush {d : Dev} {n : Nat} (h : Fine d n) : d.flush = (0, { d with img := d.now, loose := [] }) := by
  have ht : d.through = (true, d) := by unfold Dev.through; rw [h.fuse]
  unfold Dev.flush
  rw [h.run, ht]
  simp [h.run]
theorem Fine.flushed {d : Dev} {n : Nat} (h : Fine d n) : Fine { d with img := d.now, loose := [] } n :=
  ⟨⟨h.ok.now64, by rw [Dev.now_len]; exact h.ok.len, by rw [Dev.now_len]; exact h.ok.pos, fun x hx => by cases hx⟩, h.fuse, h.run, by rw [← h.len]; exact Dev.now_len d⟩
theorem laid_append (l m : List (Nat × List UInt8)) (img : List (List UInt8)) : laidOver img (l ++ m) = laidOver (laidOver img l) m := by simp [laidOver]
theorem now_more (d : Dev) (ws : List (Nat × List UInt8)) : ({ d with loose := d.loose ++ ws } : Dev).now = laidOver d.now ws := laid_append _ _ _
/-- writes one behind the other -/
def runW (base : Nat) (g : Nat → List UInt8) (i k : Nat) : List (Nat × List UInt8) := (List.range' i k).map fun j => (base + j, g j)
theorem runW_at (base : Nat) (g : Nat → List UInt8) : ∀ (k i : Nat) (img : List (List UInt8)), base + i + k ≤ img.length → ∀ x, (laidOver img (runW base g i k))[x]? = if base + i ≤ x ∧ x < base + i + k then some (g (x - base)) else img[x]? := by
  intro k
  induction k with
  | zero => intro i img _ x; rw [if_neg (by omega)]; rfl
  | succ k ih =>
    intro i img hl x
    show (laidOver (img.set (base + i) (g i)) (runW base g (i + 1) k))[x]? = _
    rw [ih (i + 1) _ (by simp; omega), List.getElem?_set]
    by_cases h1 : base + i = x
    · rw [if_neg (by omega), if_pos h1, if_pos (by omega), if_pos (by omega)]
      congr 2; omega
    · by_cases h2 : base + (i + 1) ≤ x ∧ x < base + (i + 1) + k
      · rw [if_pos h2, if_pos (by omega)]
      · rw [if_neg h2, if_neg h1, if_neg (by omega)]
/-- a record's writes -/
def recWs (gen at_ base : Nat) (rec : List UInt8) : List (Nat × List UInt8) := runW (base + at_) (recSec gen at_ rec) 0 (needOf rec.length)
theorem recSec_len (gen at_ : Nat) (rec : List UInt8) (j : Nat) : (recSec gen at_ rec j).length = 64 := logSec_len (List.length_take_le _ _)
theorem runW_mem {base i k : Nat} {g : Nat → List UInt8} {x : Nat × List UInt8} (h : x ∈ runW base g i k) : ∃ j, i ≤ j ∧ j < i + k ∧ x = (base + j, g j) := by
  simp only [runW, List.mem_map, List.mem_range'_1] at h
  obtain ⟨j, hj, rfl⟩ := h
  exact ⟨j, hj.1, hj.2, rfl⟩
theorem recWs_fit {gen at_ base n : Nat} {rec : List UInt8} (h : base + at_ + needOf rec.length ≤ n) : ∀ x ∈ recWs gen at_ base rec, x.1 < n ∧ x.2.length = 64 := by
  intro x hx
  obtain ⟨j, _, hj, rfl⟩ := runW_mem hx
  exact ⟨by omega, recSec_len _ _ _ _⟩
theorem write_run {gen at_ base n : Nat} {rec : List UInt8} : ∀ (k i : Nat) (d : Dev), Fine d n → i + k = needOf rec.length → base + at_ + i + k ≤ n →
    writeLoop gen at_ base (needOf rec.length) i ((List.range' i k).map fun j => (rec.drop (49 * j)).take 49) d = (0, { d with loose := d.loose ++ runW (base + at_) (recSec gen at_ rec) i k }) := by
  intro k
  induction k with
  | zero => intro i d _ _ _; simp [writeLoop, runW]
  | succ k ih =>
    intro i d h hk hn
    have hw := h.write (i := base + at_ + i) (b := recSec gen at_ rec i) (by omega) (recSec_len _ _ _ _)
    rw [List.range'_succ, List.map_cons, writeLoop]
    unfold recSec at hw
    rw [hw]
    simp only [ne_eq, not_true_eq_false, if_false]
    rw [ih (i + 1) _ (h.more (ws := [(base + at_ + i, _)]) (by intro x hx; simp at hx; subst hx; exact ⟨by simp; omega, recSec_len gen at_ rec i⟩)) (by omega) (by omega)]
    simp [runW, List.range'_succ, recSec]
theorem parts_range (rec : List UInt8) : partsOf rec = (List.range' 0 (needOf rec.length)).map fun j => (rec.drop (49 * j)).take 49 := by
  rw [partsOf, List.range_eq_range']
theorem check_fine {d : Dev} {n f t g : Nat} (h : Fine d n) (h1 : f ≤ t) (h2 : t ≤ n) (h3 : 1 ≤ g) (h4 : g ≤ 2147483647) : checkOf d (f : Int) (t : Int) (g : Int) = 0 := by
  unfold checkOf
  rw [if_neg (by rw [h.len]; omega)]
theorem write_fine {d : Dev} {n f t g at_ : Nat} {rec : List UInt8} (h : Fine d n) (h1 : f ≤ t) (h2 : t ≤ n) (h3 : 1 ≤ g) (h4 : g ≤ 2147483647) (hr : rec.length ≤ 1048576) (hn : at_ + needOf rec.length ≤ t - f) :
    logWrite d (f : Int) (t : Int) (g : Int) (at_ : Int) rec = ((((at_ + needOf rec.length : Nat) : Int), 0), { d with loose := d.loose ++ recWs g at_ f rec }) := by
  unfold logWrite
  rw [check_fine h h1 h2 h3 h4, if_neg (by omega), if_neg (by omega), if_neg (by omega), if_neg (by omega)]
  simp only [Int.toNat_natCast]
  rw [parts_range, write_run (needOf rec.length) 0 d h (by omega) (by omega)]
  simp [recWs]
theorem write_full {d : Dev} {n f t g at_ : Nat} {rec : List UInt8} (h : Fine d n) (h1 : f ≤ t) (h2 : t ≤ n) (h3 : 1 ≤ g) (h4 : g ≤ 2147483647) (hr : rec.length ≤ 1048576) (ha : at_ ≤ t - f) (hn : t - f < at_ + needOf rec.length) :
    logWrite d (f : Int) (t : Int) (g : Int) (at_ : Int) rec = ((0, 10), d) := by
  unfold logWrite
  rw [check_fine h h1 h2 h3 h4, if_neg (by omega), if_neg (by omega), if_neg (by omega), if_pos (by omega)]
/-- what is blanked -/
theorem blank_run {n : Nat} : ∀ (k i : Nat) (d : Dev), Fine d n → i + k ≤ n → blankLoop d i k = (0, { d with loose := d.loose ++ runW 0 (fun _ => zr 64) i k }) := by
  intro k
  induction k with
  | zero => intro i d _ _; simp [blankLoop, runW]
  | succ k ih =>
    intro i d h hn
    rw [blankLoop, h.write (by omega) (by simp)]
    simp only [ne_eq, not_true_eq_false, if_false]
    rw [ih (i + 1) _ (h.more (ws := [(i, _)]) (by intro x hx; simp at hx; subst hx; exact ⟨by simp; omega, by simp⟩)) (by omega)]
    simp [runW, List.range'_succ]
theorem blank_fine {d : Dev} {n f t g : Nat} (h : Fine d n) (h1 : f ≤ t) (h2 : t ≤ n) (h3 : 1 ≤ g) (h4 : g ≤ 2147483647) :
    blankOf d (f : Int) (t : Int) (g : Int) = (0, { d with img := laidOver d.now (runW 0 (fun _ => zr 64) f (t - f)), loose := [] }) := by
  unfold blankOf
  rw [check_fine h h1 h2 h3 h4, if_neg (by omega)]
  simp only [Int.toNat_natCast]
  rw [show ((t : Int) - (f : Int)).toNat = t - f by omega, blank_run (t - f) f d h (by omega)]
  have hf := (h.more (ws := runW 0 (fun _ => zr 64) f (t - f)) (by intro x hx; obtain ⟨j, h5, h6, rfl⟩ := runW_mem hx; exact ⟨by simp; omega, by simp⟩)).flush
  simp only [ne_eq, not_true_eq_false, if_false]
  rw [hf, now_more]
theorem blank_new {n f t g : Nat} (h0 : 1 ≤ n) (h00 : n ≤ 65536) (h1 : f ≤ t) (h2 : t ≤ n) (h3 : 1 ≤ g) (h4 : g ≤ 2147483647) :
    blankOf (Dev.new n) (f : Int) (t : Int) (g : Int) = (0, Dev.new n) := by
  rw [blank_fine (Fine.new h0 h00) h1 h2 h3 h4]
  have : laidOver (Dev.new n).now (runW 0 (fun _ => zr 64) f (t - f)) = (Dev.new n).img := by
    apply List.ext_getElem?
    intro x
    rw [runW_at _ _ _ _ _ (by rw [Dev.now_len]; simp [Dev.new]; omega)]
    split
    · rw [show (Dev.new n).img = List.replicate n (zr 64) from rfl, List.getElem?_replicate, if_pos (by omega)]
    · rfl
  rw [this]
  rfl
/-- a sector that is read -/
theorem read_fine {d : Dev} {n i : Nat} (h : Fine d n) (hi : i < n) {s : List UInt8} (hs : d.now[i]? = some s) : d.read (i : Int) = (s, 0) := by
  have hh : has d.now.length (i : Int) = true := by rw [Dev.now_len, h.len]; simp [has]; omega
  unfold Dev.read secOf
  rw [h.run, hh]
  simp [hs]
def secAt (d : Dev) (base : Nat) : Nat → List UInt8 := fun i => (d.read ((base + i : Nat) : Int)).1
theorem has_fine {d : Dev} {n f t g : Nat} (h : Fine d n) (h1 : f ≤ t) (h2 : t ≤ n) (h3 : 1 ≤ g) (h4 : g ≤ 2147483647) {L : List (List UInt8)} {N : Nat} (hs : scanS (secAt d f) g (t - f) 0 [] 0 [] false = (L, N)) :
    hasB d (f : Int) (t : Int) (g : Int) (N : Int) L = true := by
  have : logScan d (f : Int) (t : Int) (g : Int) = (L, (N : Int), 0) := by
    unfold logScan
    rw [check_fine h h1 h2 h3 h4, if_neg (by omega), h.run]
    simp only [Int.toNat_natCast]
    rw [show ((t : Int) - (f : Int)).toNat = t - f by omega, scanLoop_S]
    unfold secAt at hs
    rw [hs]; rfl
  unfold hasB
  rw [this]
  simp [sameL]
end Go.Proofs.Ytlondopgibcikaa
namespace Go.Proofs.Ytlondopgibcikaa
open Go.RowKit Ent

/-- an area that has these records, and noughts behind them -/
structure LogD (d : Dev) (n f t g : Nat) (L : List (List UInt8)) : Prop where
  fine : Fine d n
  ft : f ≤ t
  tn : t < n
  g1 : 1 ≤ g
  g2 : g ≤ 2147483647
  n1 : n ≤ 65536
  room : needsOf L ≤ t - f
  lies : LiesIn (secAt d f) g 0 L
  rest : ∀ i, needsOf L ≤ i → f + i < n → secAt d f i = zr 64
theorem sec_now {d : Dev} {n base i : Nat} (h : Fine d n) (hi : base + i < n) : d.now[base + i]? = some (secAt d base i) := by
  have hl : base + i < d.now.length := by rw [Dev.now_len, h.len]; exact hi
  obtain ⟨s, hs⟩ : ∃ s, d.now[base + i]? = some s := ⟨_, List.getElem?_eq_getElem hl⟩
  rw [secAt, read_fine h hi hs, hs]
theorem sec_of {d : Dev} {n base i : Nat} (h : Fine d n) (hi : base + i < n) {s : List UInt8} (hs : d.now[base + i]? = some s) : secAt d base i = s := by
  rw [secAt, read_fine h hi hs]
theorem read_sec {d : Dev} {n base i : Nat} (h : Fine d n) (hi : base + i < n) : d.read ((base + i : Nat) : Int) = (secAt d base i, 0) := by
  rw [read_fine h hi (sec_now h hi)]
theorem LogD.new {n f t g : Nat} (h1 : f ≤ t) (h2 : t < n) (h3 : 1 ≤ g) (h4 : g ≤ 2147483647) (h5 : n ≤ 65536) : LogD (Dev.new n) n f t g [] := by
  have hf := Fine.new (n := n) (by omega) h5
  refine ⟨hf, h1, h2, h3, h4, h5, Nat.zero_le _, trivial, fun i _ hi => sec_of hf hi ?_⟩
  show (List.replicate n (zr 64))[f + i]? = _
  rw [List.getElem?_replicate, if_pos hi]
theorem sec_more {d : Dev} {n base at_ gen : Nat} {rec : List UInt8} (h : Fine d n) (hn : base + at_ + needOf rec.length ≤ n) {i : Nat} (hi : base + i < n) :
    secAt { d with loose := d.loose ++ recWs gen at_ base rec } base i = if at_ ≤ i ∧ i < at_ + needOf rec.length then recSec gen at_ rec (i - at_) else secAt d base i := by
  refine sec_of (h.more (recWs_fit hn)) hi ?_
  rw [now_more, recWs, runW_at _ _ _ _ _ (by rw [Dev.now_len, h.len]; omega)]
  by_cases h1 : at_ ≤ i ∧ i < at_ + needOf rec.length
  · rw [if_pos (by omega), if_pos h1]
    congr 2; omega
  · rw [if_neg (by omega), if_neg h1]
    exact sec_now h hi
theorem needsOf_nil : needsOf [] = 0 := rfl
theorem LogD.written {d : Dev} {n f t g : Nat} {L : List (List UInt8)} (h : LogD d n f t g L) {r : List UInt8} (hr : needsOf L + needOf r.length ≤ t - f) : LogD { d with loose := d.loose ++ recWs g (needsOf L) f r } n f t g (L ++ [r]) := by
  have h1 := h.tn; have h2 := h.ft
  have hn : f + needsOf L + needOf r.length ≤ n := by omega
  refine ⟨h.fine.more (recWs_fit hn), h.ft, h.tn, h.g1, h.g2, h.n1, by rw [needsOf_snoc]; exact hr, ?_, fun i hi hin => ?_⟩
  · refine LiesIn.snoc (h.lies.same fun i _ hi => ?_) fun j hj => ?_
    · rw [sec_more h.fine hn (by omega), if_neg (by omega)]
    · rw [sec_more h.fine hn (by omega), if_pos (by omega)]
      rw [show 0 + needsOf L + j - needsOf L = j by omega, Nat.zero_add]
  · rw [needsOf_snoc] at hi
    rw [sec_more h.fine hn hin, if_neg (by omega)]
    exact h.rest i (by omega) hin
theorem LogD.write {d : Dev} {n f t g : Nat} {L : List (List UInt8)} (h : LogD d n f t g L) {r : List UInt8} (hl : r.length ≤ 1048576) (hr : needsOf L + needOf r.length ≤ t - f) :
    logWrite d (f : Int) (t : Int) (g : Int) (needsOf L : Int) r = (((needsOf (L ++ [r]) : Int), 0), { d with loose := d.loose ++ recWs g (needsOf L) f r }) := by
  rw [write_fine h.fine h.ft (Nat.le_of_lt h.tn) h.g1 h.g2 hl hr, needsOf_snoc]
theorem LogD.full {d : Dev} {n f t g : Nat} {L : List (List UInt8)} (h : LogD d n f t g L) {r : List UInt8} (hl : r.length ≤ 1048576) (hr : t - f < needsOf L + needOf r.length) :
    logWrite d (f : Int) (t : Int) (g : Int) (needsOf L : Int) r = ((0, 10), d) :=
  write_full h.fine h.ft (Nat.le_of_lt h.tn) h.g1 h.g2 hl h.room hr
theorem LogD.now {d e : Dev} {n f t g : Nat} {L : List (List UInt8)} (h : LogD d n f t g L) (he : Fine e n) (hs : e.now = d.now) : LogD e n f t g L := by
  have key : ∀ i, f + i < n → secAt e f i = secAt d f i := fun i hi => sec_of he hi (by rw [hs]; exact sec_now h.fine hi)
  have h1 := h.tn; have h2 := h.ft; have h3 := h.room
  exact ⟨he, h.ft, h.tn, h.g1, h.g2, h.n1, h.room, h.lies.same fun i _ hi => key i (by omega), fun i hi hin => by rw [key i hin]; exact h.rest i hi hin⟩
theorem LogD.flushed {d : Dev} {n f t g : Nat} {L : List (List UInt8)} (h : LogD d n f t g L) : LogD { d with img := d.now, loose := [] } n f t g L := h.now h.fine.flushed rfl
theorem LogD.scan {d : Dev} {n f t g : Nat} {L : List (List UInt8)} (h : LogD d n f t g L) : hasB d (f : Int) (t : Int) (g : Int) (needsOf L : Int) L = true := by
  have h1 := h.tn; have h2 := h.ft
  exact has_fine h.fine h.ft (Nat.le_of_lt h.tn) h.g1 h.g2 (scan_all h.lies h.room fun hlt => by rw [h.rest _ (Nat.le_refl _) (by omega)]; exact wrong_zr _ _)
/-- what lies in a sector: a record's, or noughts -/
theorem LogD.what {d : Dev} {n f t g : Nat} {L : List (List UInt8)} (h : LogD d n f t g L) {i : Nat} (hi : f + i < n) : (∃ k p, secAt d f i = logSec g i k p) ∨ secAt d f i = zr 64 := by
  by_cases h1 : i < needsOf L
  · exact .inl (h.lies.at i (Nat.zero_le _) (by omega))
  · exact .inr (h.rest i (by omega) hi)
theorem has_none {d : Dev} {n f t g : Nat} (h : Fine d n) (h1 : f ≤ t) (h2 : t < n) (h3 : 1 ≤ g) (h4 : g ≤ 2147483647) (hz : rightOf (secAt d f 0) g 0 = none) : hasB d (f : Int) (t : Int) (g : Int) 0 [] = true :=
  has_fine (N := 0) h h1 (Nat.le_of_lt h2) h3 h4 (scanS_stop hz)
/-- under another generation -/
theorem LogD.other {d : Dev} {n f t g o : Nat} {L : List (List UInt8)} (h : LogD d n f t g L) (h3 : 1 ≤ o) (h4 : o ≤ 2147483647) (hne : g ≠ o) : hasB d (f : Int) (t : Int) (o : Int) 0 [] = true := by
  have h1 := h.tn; have h2 := h.ft; have h5 := h.g2
  refine has_none h.fine h.ft h.tn h3 h4 ?_
  rcases h.what (i := 0) (by omega) with ⟨k, p, hs⟩ | hs
  · rw [hs]; exact wrong_sec (by omega) (by omega) (by omega) (by omega) (.inl hne)
  · rw [hs]; exact wrong_zr _ _
/-- from the next sector on -/
theorem LogD.next {d : Dev} {n f t g : Nat} {L : List (List UInt8)} (h : LogD d n f t g L) (hft : f < t) : hasB d ((f + 1 : Nat) : Int) (t : Int) (g : Int) 0 [] = true := by
  have h1 := h.tn; have h2 := h.ft; have h5 := h.g2
  refine has_none h.fine hft h.tn h.g1 h.g2 ?_
  rw [show secAt d (f + 1) 0 = secAt d f 1 from rfl]
  rcases h.what (i := 1) (by omega) with ⟨k, p, hs⟩ | hs
  · rw [hs]; exact wrong_sec (by omega) (by omega) (by omega) (by omega) (.inr (by omega))
  · rw [hs]; exact wrong_zr _ _
/-- a sector of another place, behind the records -/
theorem LogD.alien {d : Dev} {n f t g : Nat} {L : List (List UInt8)} (h : LogD d n f t g L) {b : List UInt8} (hb : b.length = 64) (hr : rightOf b g (needsOf L) = none) :
    d.write ((f + needsOf L : Nat) : Int) b = (0, { d with loose := d.loose ++ [(f + needsOf L, b)] }) ∧ hasB { d with loose := d.loose ++ [(f + needsOf L, b)] } (f : Int) (t : Int) (g : Int) (needsOf L : Int) L = true := by
  have h1 := h.tn; have h2 := h.ft; have h3 := h.room
  have hin : f + needsOf L < n := by omega
  refine ⟨h.fine.write hin hb, ?_⟩
  have hf := h.fine.more (ws := [(f + needsOf L, b)]) (by intro x hx; simp at hx; subst hx; exact ⟨hin, hb⟩)
  have key : ∀ i, f + i < n → secAt { d with loose := d.loose ++ [(f + needsOf L, b)] } f i = if i = needsOf L then b else secAt d f i := fun i hi => by
    refine sec_of hf hi ?_
    rw [now_more]
    show (d.now.set (f + needsOf L) b)[f + i]? = _
    rw [List.getElem?_set]
    by_cases he : i = needsOf L
    · subst he
      rw [if_pos rfl, if_pos rfl, if_pos (by rw [Dev.now_len, h.fine.len]; exact hi)]
    · rw [if_neg (by omega), if_neg he]
      exact sec_now h.fine hi
  refine has_fine hf h.ft (Nat.le_of_lt h.tn) h.g1 h.g2 (scan_all (h.lies.same fun i _ hi => ?_) h.room fun hlt => ?_)
  · rw [key i (by omega), if_neg (by omega)]
  · rw [key _ hin, if_pos rfl]; exact hr
end Go.Proofs.Ytlondopgibcikaa
namespace Go.Proofs.Ytlondopgibcikaa
open Go.RowKit Ent

theorem kept_run (keep : List Bool) (base : Nat) (g : Nat → List UInt8) : ∀ (m i : Nat) (img : List (List UInt8)), base + i + m ≤ img.length → ∀ x,
    (laidOver img (keptOf keep i (runW base g i m)))[x]? = if (base + i ≤ x ∧ x < base + i + m) ∧ keep[x - base]? = some true then some (g (x - base)) else img[x]? := by
  intro m
  induction m with
  | zero => intro i img _ x; rw [if_neg (by omega)]; rfl
  | succ m ih =>
    intro i img hl x
    rw [show runW base g i (m + 1) = (base + i, g i) :: runW base g (i + 1) m by simp [runW, List.range'_succ]]
    rw [keptOf]
    by_cases hk : keep[i]? = some true
    · rw [if_pos hk]
      show (laidOver (img.set (base + i) (g i)) (keptOf keep (i + 1) (runW base g (i + 1) m)))[x]? = _
      rw [ih (i + 1) _ (by simp; omega), List.getElem?_set]
      by_cases h1 : base + i = x
      · subst h1
        rw [if_neg (by omega), if_pos rfl, if_pos (by omega), if_pos ⟨by omega, by rw [Nat.add_sub_cancel_left]; exact hk⟩, Nat.add_sub_cancel_left]
      · by_cases h2 : (base + (i + 1) ≤ x ∧ x < base + (i + 1) + m) ∧ keep[x - base]? = some true
        · rw [if_pos h2, if_pos ⟨by omega, h2.2⟩]
        · rw [if_neg h2, if_neg h1, if_neg (fun h3 => h2 ⟨by omega, h3.2⟩)]
    · rw [if_neg hk, ih (i + 1) _ (by omega)]
      by_cases h1 : base + i = x
      · subst h1
        rw [if_neg (by omega), if_neg (fun h3 => hk (by rw [Nat.add_sub_cancel_left] at h3; exact h3.2))]
      · by_cases h2 : (base + (i + 1) ≤ x ∧ x < base + (i + 1) + m) ∧ keep[x - base]? = some true
        · rw [if_pos h2, if_pos ⟨by omega, h2.2⟩]
        · rw [if_neg h2, if_neg (fun h3 => h2 ⟨by omega, h3.2⟩)]
theorem last_run (keep : List Bool) (base : Nat) (g : Nat → List UInt8) : ∀ (m i : Nat),
    (lastOf keep i (runW base g i m) = none ∧ ∀ j, i ≤ j → j < i + m → keep[j]? = some true) ∨
    ∃ j, i ≤ j ∧ j < i + m ∧ keep[j]? ≠ some true ∧ lastOf keep i (runW base g i m) = some (base + j, g j) := by
  intro m
  induction m with
  | zero => intro i; exact .inl ⟨rfl, fun j h1 h2 => by omega⟩
  | succ m ih =>
    intro i
    rw [show runW base g i (m + 1) = (base + i, g i) :: runW base g (i + 1) m by simp [runW, List.range'_succ]]
    rw [lastOf]
    rcases ih (i + 1) with ⟨h1, h2⟩ | ⟨j, h1, h2, h3, h4⟩
    · rw [h1]
      by_cases hk : keep[i]? = some true
      · refine .inl ⟨by simp [hk], fun j h3 h4 => ?_⟩
        by_cases hj : j = i
        · subst hj; exact hk
        · exact h2 j (by omega) (by omega)
      · exact .inr ⟨i, Nat.le_refl _, by omega, hk, by simp [hk]⟩
    · rw [h4]
      exact .inr ⟨j, by omega, by omega, h3, rfl⟩
theorem runW_len (base : Nat) (g : Nat → List UInt8) (i k : Nat) : (runW base g i k).length = k := by simp [runW]
/-- behind a crash -/
def crashed (d : Dev) (ws : List (Nat × List UInt8)) (keep : List Bool) (t : Nat) : Dev := { img := tornIn (laidOver d.img (keptOf keep 0 ws)) (lastOf keep 0 ws) t, loose := [], fuse := none, out := false }
theorem crash_is {d : Dev} {ws : List (Nat × List UInt8)} (hl : d.loose = []) {keep : List Bool} {t : Nat} (ht : t < 64) : ({ d with loose := d.loose ++ ws } : Dev).crash keep (t : Int) = (0, crashed d ws keep t) := by
  unfold Dev.crash crashed
  rw [if_neg (by omega), hl]
  simp
theorem tornIn_len (L : List (List UInt8)) (x : Option (Nat × List UInt8)) (t : Nat) : (tornIn L x t).length = L.length := by
  rcases x with _ | x
  · rfl
  · simp [tornIn]
section
variable {d : Dev} {n f t g : Nat} {L : List (List UInt8)} {r : List UInt8} {keep : List Bool} {q : Nat}
/-- what lies behind a crash, place by place -/
theorem crashed_at (h : LogD d n f t g L) (hl : d.loose = []) (hr : needsOf L + needOf r.length ≤ t - f) (hq : q < 64) (i : Nat) (hi : f + i < n) :
    ∃ s, (crashed d (recWs g (needsOf L) f r) keep q).img[f + i]? = some s ∧
      ((i < needsOf L ∨ needsOf L + needOf r.length ≤ i) → s = secAt d f i) ∧
      (∀ j, i = needsOf L + j → j < needOf r.length → (keep[j]? = some true → s = recSec g (needsOf L) r j) ∧ (keep[j]? ≠ some true → s[63]? ≠ some 165)) ∧ s.length = 64 := by
  have h1 := h.tn; have h2 := h.ft
  have hnow : d.now = d.img := by unfold Dev.now; rw [hl]; rfl
  have hK := kept_run keep (f + needsOf L) (recSec g (needsOf L) r) (needOf r.length) 0 d.img (by rw [h.fine.len]; omega) (f + i)
  have hsec := sec_now h.fine hi
  rw [hnow] at hsec
  have hlen := h.fine.ok.s64.get hsec
  rw [hsec] at hK
  have base : ∃ s, (laidOver d.img (keptOf keep 0 (recWs g (needsOf L) f r)))[f + i]? = some s ∧
      ((i < needsOf L ∨ needsOf L + needOf r.length ≤ i) → s = secAt d f i) ∧
      (∀ j, i = needsOf L + j → j < needOf r.length → (keep[j]? = some true → s = recSec g (needsOf L) r j) ∧ (keep[j]? ≠ some true → s = zr 64)) ∧ s.length = 64 := by
    by_cases hc : (f + needsOf L + 0 ≤ f + i ∧ f + i < f + needsOf L + 0 + needOf r.length) ∧ keep[f + i - (f + needsOf L)]? = some true
    · rw [if_pos hc] at hK
      refine ⟨_, hK, fun h3 => by omega, fun j hj hjl => ?_, recSec_len _ _ _ _⟩
      subst hj
      rw [show f + (needsOf L + j) - (f + needsOf L) = j by omega] at hc ⊢
      exact ⟨fun _ => rfl, fun h4 => absurd hc.2 h4⟩
    · rw [if_neg hc] at hK
      refine ⟨_, hK, fun _ => rfl, fun j hj hjl => ?_, hlen⟩
      subst hj
      rw [show f + (needsOf L + j) - (f + needsOf L) = j by omega] at hc
      exact ⟨fun h4 => absurd ⟨by omega, h4⟩ hc, fun _ => h.rest _ (by omega) hi⟩
  obtain ⟨s, hs, ha, hb, hs64⟩ := base
  rcases last_run keep (f + needsOf L) (recSec g (needsOf L) r) (needOf r.length) 0 with ⟨h3, h4⟩ | ⟨j, _, hj, hk, h3⟩
  · refine ⟨s, ?_, ha, fun j hj hjl => ⟨(hb j hj hjl).1, fun h5 => absurd (h4 j (by omega) (by omega)) h5⟩, hs64⟩
    show (tornIn _ (lastOf keep 0 (runW _ _ 0 _)) q)[f + i]? = _
    rw [h3]; exact hs
  · by_cases hij : i = needsOf L + j
    · have hz := (hb j hij (by omega)).2 hk
      refine ⟨(recSec g (needsOf L) r j).take q ++ s.drop q, ?_, fun h5 => by omega, fun j' hj' hjl => ?_, by simp [recSec_len, hs64]; omega⟩
      · show (tornIn _ (lastOf keep 0 (runW _ _ 0 _)) q)[f + i]? = _
        rw [h3]
        show ((laidOver d.img (keptOf keep 0 (recWs g (needsOf L) f r))).set (f + needsOf L + j) ((recSec g (needsOf L) r j).take q ++ ((laidOver d.img (keptOf keep 0 (recWs g (needsOf L) f r))).getD (f + needsOf L + j) []).drop q))[f + i]? = _
        have hlt := (List.getElem?_eq_some_iff.1 hs).1
        rw [show f + needsOf L + j = f + i by omega, List.getElem?_set_self hlt, List.getD_eq_getElem?_getD, hs]
        rfl
      · obtain rfl : j' = j := by omega
        refine ⟨fun h5 => absurd h5 hk, fun _ => ?_⟩
        have e1 : ((recSec g (needsOf L) r j').take q).length = q := by simp [recSec_len]; omega
        rw [List.getElem?_append_right (by omega), e1, List.getElem?_drop, show q + (63 - q) = 63 by omega, hz]
        simp [zr]
    · refine ⟨s, ?_, ha, fun j' hj' hjl => ⟨(hb j' hj' hjl).1, fun h5 => by rw [(hb j' hj' hjl).2 h5]; simp [zr]⟩, hs64⟩
      show (tornIn _ (lastOf keep 0 (runW _ _ 0 _)) q)[f + i]? = _
      rw [h3]
      show ((laidOver d.img (keptOf keep 0 (recWs g (needsOf L) f r))).set (f + needsOf L + j) _)[f + i]? = _
      rw [List.getElem?_set_ne (by omega)]
      exact hs
theorem crashed_len (h : LogD d n f t g L) : (crashed d (recWs g (needsOf L) f r) keep q).img.length = n := by
  show (tornIn _ _ _).length = _
  rw [tornIn_len, laid_len, h.fine.len]
theorem crashed_fine (h : LogD d n f t g L) (_hl : d.loose = []) (hr : needsOf L + needOf r.length ≤ t - f) (hq : q < 64) : Fine (crashed d (recWs g (needsOf L) f r) keep q) n := by
  have h1 := h.tn; have h2 := h.ft
  refine ⟨⟨fun s hs => ?_, by rw [crashed_len h]; exact h.n1, by rw [crashed_len h]; omega, fun x hx => by cases hx⟩, rfl, rfl, crashed_len h⟩
  have h64 : S64 (laidOver d.img (keptOf keep 0 (recWs g (needsOf L) f r))) := by
    refine laid_64 (fun x hx => ?_) h.fine.ok.s64
    have key : ∀ (l : List (Nat × List UInt8)) (k : Nat), x ∈ keptOf keep k l → x ∈ l := by
      intro l
      induction l with
      | nil => intro k hx; exact hx
      | cons y l ih =>
        intro k hx
        rw [keptOf] at hx
        split at hx
        · rcases List.mem_cons.1 hx with rfl | hx
          · exact List.mem_cons_self
          · exact List.mem_cons_of_mem _ (ih _ hx)
        · exact List.mem_cons_of_mem _ (ih _ hx)
    exact (recWs_fit (n := n) (by omega) x (key _ _ hx)).2
  rcases last_run keep (f + needsOf L) (recSec g (needsOf L) r) (needOf r.length) 0 with ⟨h3, h4⟩ | ⟨j, _, hj, hk, h3⟩
  · have hs' : s ∈ tornIn (laidOver d.img (keptOf keep 0 (recWs g (needsOf L) f r))) (lastOf keep 0 (runW (f + needsOf L) (recSec g (needsOf L) r) 0 (needOf r.length))) q := hs
    rw [h3] at hs'
    exact h64 s hs'
  · have hs' : s ∈ tornIn (laidOver d.img (keptOf keep 0 (recWs g (needsOf L) f r))) (lastOf keep 0 (runW (f + needsOf L) (recSec g (needsOf L) r) 0 (needOf r.length))) q := hs
    rw [h3] at hs'
    rcases List.mem_or_eq_of_mem_set hs' with h5 | rfl
    · exact h64 s h5
    · have hlt : f + needsOf L + j < (laidOver d.img (keptOf keep 0 (recWs g (needsOf L) f r))).length := by rw [laid_len, h.fine.len]; omega
      have h6 := h64.get (List.getElem?_eq_getElem hlt)
      show ((recSec g (needsOf L) r j).take q ++ ((laidOver d.img (keptOf keep 0 (recWs g (needsOf L) f r))).getD (f + needsOf L + j) []).drop q).length = 64
      rw [List.getD_eq_getElem?_getD, List.getElem?_eq_getElem hlt]
      simp only [Option.getD_some, List.length_append, List.length_take, List.length_drop, recSec_len, h6]
      omega
theorem crashed_sec (h : LogD d n f t g L) (hl : d.loose = []) (hr : needsOf L + needOf r.length ≤ t - f) (hq : q < 64) (i : Nat) (hi : f + i < n) :
      ((i < needsOf L ∨ needsOf L + needOf r.length ≤ i) → secAt (crashed d (recWs g (needsOf L) f r) keep q) f i = secAt d f i) ∧
      (∀ j, i = needsOf L + j → j < needOf r.length → (keep[j]? = some true → secAt (crashed d (recWs g (needsOf L) f r) keep q) f i = recSec g (needsOf L) r j) ∧ (keep[j]? ≠ some true → (secAt (crashed d (recWs g (needsOf L) f r) keep q) f i)[63]? ≠ some 165)) := by
  obtain ⟨s, hs, h1, h2, _⟩ := crashed_at (keep := keep) h hl hr hq i hi
  have := sec_of (crashed_fine (keep := keep) h hl hr hq) hi (s := s) hs
  rw [this]
  exact ⟨h1, h2⟩
/-- all of it was kept -/
theorem crashed_all (h : LogD d n f t g L) (hl : d.loose = []) (hr : needsOf L + needOf r.length ≤ t - f) (hq : q < 64) (hk : ∀ j, j < needOf r.length → keep[j]? = some true) : hasB (crashed d (recWs g (needsOf L) f r) keep q) (f : Int) (t : Int) (g : Int) (needsOf (L ++ [r]) : Int) (L ++ [r]) = true := by
  have h1 := h.tn; have h2 := h.ft
  have hS := crashed_sec (keep := keep) h hl hr hq
  refine LogD.scan (n := n) ⟨crashed_fine h hl hr hq, h.ft, h.tn, h.g1, h.g2, h.n1, by rw [needsOf_snoc]; exact hr, ?_, fun i hi hin => ?_⟩
  · refine LiesIn.snoc (h.lies.same fun i _ hi => (hS i (by omega)).1 (.inl (by omega))) fun j hj => ?_
    rw [Nat.zero_add]
    exact ((hS (needsOf L + j) (by omega)).2 j rfl hj).1 (hk j hj)
  · rw [needsOf_snoc] at hi
    rw [(hS i hin).1 (.inr hi)]
    exact h.rest i (by omega) hin
/-- some of it was not -/
theorem crashed_some (h : LogD d n f t g L) (hl : d.loose = []) (hr : needsOf L + needOf r.length ≤ t - f) (hq : q < 64) {j : Nat} (hj : j < needOf r.length) (hp : ∀ i, i < j → keep[i]? = some true) (hk : keep[j]? ≠ some true) : hasB (crashed d (recWs g (needsOf L) f r) keep q) (f : Int) (t : Int) (g : Int) (needsOf L : Int) L = true := by
  have h1 := h.tn; have h2 := h.ft; have h3 := h.room
  have hS := crashed_sec (keep := keep) h hl hr hq
  refine has_fine (crashed_fine h hl hr hq) h.ft (Nat.le_of_lt h.tn) h.g1 h.g2 (scan_torn (j := j) (r := r) (h.lies.same fun i _ hi => (hS i (by omega)).1 (.inl (by omega))) hj (by omega) (fun i hi => ?_) ?_)
  · exact ((hS (needsOf L + i) (by omega)).2 i rfl (by omega)).1 (hp i hi)
  · exact wrong_63 (((hS (needsOf L + j) (by omega)).2 j rfl hj).2 hk)
end
/-- the sectors up to one, side by side -/
def secsTo (d : Dev) (i : Nat) : List UInt8 := ((List.range i).map (secAt d 0)).flatten
theorem secsTo_succ (d : Dev) (i : Nat) : secsTo d (i + 1) = secsTo d i ++ secAt d 0 i := by simp [secsTo, List.range_succ]
def insideOf (d : Dev) (n k i : Nat) : List UInt8 := (List.replicate k (secsTo d n)).flatten ++ secsTo d i
theorem insideOf_zero (d : Dev) (n : Nat) : insideOf d n 0 0 = [] := by simp [insideOf, secsTo]
theorem insideOf_succ (d : Dev) (n k i : Nat) : insideOf d n k (i + 1) = insideOf d n k i ++ secAt d 0 i := by simp [insideOf, secsTo_succ]
theorem insideOf_round (d : Dev) (n k : Nat) : insideOf d n k n = insideOf d n (k + 1) 0 := by
  simp [insideOf, secsTo, List.replicate_succ']
theorem secAt_len {d : Dev} {n base i : Nat} (h : Fine d n) (hi : base + i < n) : (secAt d base i).length = 64 := h.ok.now64.get (sec_now h hi)
theorem secsTo_len {d : Dev} {n : Nat} (h : Fine d n) : ∀ i, i ≤ n → (secsTo d i).length = 64 * i
  | 0, _ => rfl
  | i + 1, hi => by rw [secsTo_succ, List.length_append, secsTo_len h i (by omega), secAt_len h (by omega)]; omega
theorem insideOf_len {d : Dev} {n m : Nat} (h : Fine d n) (hm : m ≤ n) (k : Nat) {i : Nat} (hi : i ≤ m) : (insideOf d m k i).length = 64 * (k * m + i) := by
  have key : ∀ (k : Nat) (l : List UInt8), (List.replicate k l).flatten.length = k * l.length := by intro k l; simp
  rw [insideOf, List.length_append, secsTo_len h i (by omega), key, secsTo_len h m hm, Nat.mul_add, Nat.mul_left_comm]
end Go.Proofs.Ytlondopgibcikaa
