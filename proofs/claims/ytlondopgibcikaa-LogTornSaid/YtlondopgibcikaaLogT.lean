/- What the log's Scan holds: records told, one begun. -/
import Derived.Test.YtlondopgibcikaaRows
import Derived.Test.YtlondopgibcikaaHeap
import Derived.Test.YtlondopgibcikaaKit
import Derived.Test.YtlondopgibcikaaDev
import Derived.Test.YtlondopgibcikaaDevW
import Derived.Test.YtlondopgibcikaaDevV
import Derived.Test.YtlondopgibcikaaDevU
import Derived.Test.YtlondopgibcikaaLL
import Derived.Test.YtlondopgibcikaaLogP
import Derived.Test.YtlondopgibcikaaLogZ
import Derived.Test.YtlondopgibcikaaLogB
namespace Go.Proofs.Ytlondopgibcikaa
open Go.RowKit Ent

/-- append of bytes, and where they lie then -/
theorem run_append_at (w : World) (ty : TypeId) (base : Nat) (v : Value) (n : Nat) (xs ys : List UInt8) (hown : w.ownsRow base 5 1 v n (bv xs)) (ao : Option Addr) (m c : Nat) (hm : m = ys.length) (hsrc : SB w ao c ys)
    (hb : n + m ≤ 1099511627776) (hbase : base ≤ w.heap.size) :
    ∃ v' w', (Builtin.append_ #[22, 22] ty #[v, .slice ao m c]).run Try.prog w = .ok v' w' ∧ w'.ownsRow base 5 1 v' (n + m) (bv (xs ++ ys)) ∧ w.grownBy w' v.ownBlock ∧ (v'.ownBlock = v.ownBlock ∨ v'.ownBlock = some w.heap.size) := by
  obtain ⟨i, hi, hz0, hz1, hz2⟩ := info_u8
  subst hm
  rcases hsrc with ⟨rfl, rfl, rfl⟩ | ⟨ad, rfl, rfl⟩ | ⟨b, o', rfl, hr⟩
  · exact ⟨v, w, run_append_owned_none (P := Try.prog) w base 22 ty 5 i 1 Try.underlying22 hi v n (bv xs) hown, by simpa using hown, ⟨rfl, rfl, rfl, Nat.le_refl _, fun _ _ _ => rfl⟩, .inl rfl⟩
  · obtain ⟨v', w', h1, h2, h3, _, h5⟩ := run_append_own_at (P := Try.prog) w base 22 ty 5 i (.int .u8 0) 1 1 Try.underlying22 hi hz0 hz1 hz2 rfl (by decide) v n (bv xs) hown ad 0 c (bv []) (by simp) (by intro j u hu; simp [bv] at hu) (bv_one []) (by simp [maxLen]; omega) (by omega) hbase
    rw [← bv_append] at h2
    exact ⟨v', w', h1, h2, h3, h5⟩
  · obtain ⟨v', w', h1, h2, h3, _, h5⟩ := run_append_own_at (P := Try.prog) w base 22 ty 5 i (.int .u8 0) 1 1 Try.underlying22 hi hz0 hz1 hz2 rfl (by decide) v n (bv xs) hown ⟨b, o', none⟩ ys.length c (bv ys) (by simp) (by intro j u hu; rw [Addr.add_mid]; exact hr j u hu) (bv_one ys) (by simp [maxLen]; omega) (by omega) hbase
    rw [← bv_append] at h2
    exact ⟨v', w', h1, h2, h3, h5⟩
theorem wpl_append_at {w : World} {ops : Array Oper} {rest : List Oper} {o : Oper} {a : Act} {Q : Exit → Act → World → Prop} (hgd : o.guard = none) (s x : Operand)
    (ho : o.op = .call { callee := .builtin .append, args := #[s, x], argTypes := #[22, 22] })
    (base : Nat) (v : Value) (n : Nat) (xs ys : List UInt8) (hs : a.eval s = v) (hown : w.ownsRow base 5 1 v n (bv xs)) (ao : Option Addr) (m c : Nat) (hx : a.eval x = .slice ao m c) (hm : m = ys.length) (hsrc : SB w ao c ys)
    (hb : n + m ≤ 1099511627776) (hbase : base ≤ w.heap.size)
    (h : ∀ v' w', w'.ownsRow base 5 1 v' (n + m) (bv (xs ++ ys)) → w.grownBy w' v.ownBlock → (v'.ownBlock = v.ownBlock ∨ v'.ownBlock = some w.heap.size) → wpList Try.prog ops Q rest (a.put o.dst v') w') : wpList Try.prog ops Q (o :: rest) a w := by
  refine wpList_plain hgd fun _ hK => ?_
  obtain ⟨v', w', hr, h2, h3, h4⟩ := run_append_at w o.type base v n xs ys hown ao m c hm hsrc hb hbase
  unfold Oper.wp execOp
  simp only [ho, resolve, invoke, builtin, Sem.run_bind, Sem.run_pure, Result.andThen_ok, List.map_toArray, List.map_cons, List.map_nil, hs, hx, hr]
  exact hK _ _ (h v' w' h2 h3 h4)
/-- bytes that may be read and written -/
def SW (w : World) (F : Nat → Prop) (v : Value) (l : List UInt8) : Prop := ∃ ao cap, v = .slice ao l.length cap ∧ l.length ≤ cap ∧ SB w ao cap l ∧ WB w ao l.length ∧ ∀ x, ao = some x → F x.block
theorem SW.keep {w w' : World} {F G : Nat → Prop} {v : Value} {l : List UInt8} (h : SW w F v l) (hk : Keep G w w') (hG : ∀ k, F k → ¬ G k) : SW w' F v l := by
  obtain ⟨ao, cap, hv, hc, hs, hw, hf⟩ := h
  exact ⟨ao, cap, hv, hc, hs.keep hk (fun x hx => hG _ (hf x hx)), hw.keep hk (fun x hx => hG _ (hf x hx)), hf⟩
theorem SW.mono {w : World} {F G : Nat → Prop} {v : Value} {l : List UInt8} (h : SW w F v l) (hFG : ∀ k, F k → G k) : SW w G v l := by
  obtain ⟨ao, cap, hv, hc, hs, hw, hf⟩ := h
  exact ⟨ao, cap, hv, hc, hs, hw, fun x hx => hFG _ (hf x hx)⟩
theorem SW.ss {w : World} {F : Nat → Prop} {v : Value} {l : List UInt8} (h : SW w F v l) : SS w F v l := by
  obtain ⟨ao, cap, hv, hc, hs, hw, hf⟩ := h; exact ⟨ao, cap, hv, hc, hs, hf⟩
def RowSW (w : World) (F : Nat → Prop) (vs : List Value) (L : List (List UInt8)) : Prop := vs.length = L.length ∧ ∀ (i : Nat) (v : Value) (l : List UInt8), vs[i]? = some v → L[i]? = some l → SW w F v l
theorem RowSW.ss {w : World} {F : Nat → Prop} {vs : List Value} {L : List (List UInt8)} (h : RowSW w F vs L) : RowS w F vs L := ⟨h.1, fun i v l a b => (h.2 i v l a b).ss⟩
theorem RowSW.nil (w : World) (F : Nat → Prop) : RowSW w F [] [] := ⟨rfl, fun i v l h => by simp at h⟩
theorem RowSW.keep {w w' : World} {F G : Nat → Prop} {vs : List Value} {L : List (List UInt8)} (h : RowSW w F vs L) (hk : Keep G w w') (hG : ∀ k, F k → ¬ G k) : RowSW w' F vs L := ⟨h.1, fun i v l a b => (h.2 i v l a b).keep hk hG⟩
theorem RowSW.mono {w : World} {F G : Nat → Prop} {vs : List Value} {L : List (List UInt8)} (h : RowSW w F vs L) (hFG : ∀ k, F k → G k) : RowSW w G vs L := ⟨h.1, fun i v l a b => (h.2 i v l a b).mono hFG⟩
theorem RowSW.snoc {w : World} {F : Nat → Prop} {vs : List Value} {L : List (List UInt8)} (h : RowSW w F vs L) {v : Value} {l : List UInt8} (hv : SW w F v l) : RowSW w F (vs ++ [v]) (L ++ [l]) := by
  refine ⟨by simp [h.1], fun i u m hu hm => ?_⟩
  by_cases hi : i < vs.length
  · rw [List.getElem?_append_left hi] at hu
    rw [List.getElem?_append_left (by rw [← h.1]; exact hi)] at hm
    exact h.2 i u m hu hm
  · have hi' : i = vs.length := by
      have := (List.getElem?_eq_some_iff.1 hu).1
      simp at this; omega
    subst hi'
    rw [List.getElem?_append_right (Nat.le_refl _), Nat.sub_self] at hu
    rw [List.getElem?_append_right (by rw [h.1]; exact Nat.le_refl _), h.1, Nat.sub_self] at hm
    simp at hu hm
    subst hu; subst hm; exact hv
/-- lists of bytes that are new since B blocks -/
def FreshL (B : Nat) (w : World) (v : Value) (L : List (List UInt8)) : Prop := ∃ vs Fb, w.ownsRow B 22 1 v L.length vs ∧ RowSW w Fb vs L ∧ (∀ k, Fb k → B ≤ k ∧ k < w.heap.size) ∧ ∀ k, v.ownBlock = some k → ¬ Fb k
structure ScanI (B : Nat) (w0 wr : World) (vo vr : Value) (out : List (List UInt8)) (rec : List UInt8) (vs : List Value) (Fb : Nat → Prop) : Prop where
  be : Below B w0 wr
  bl : B ≤ wr.heap.size
  oo : wr.ownsRow B 22 1 vo out.length vs
  ro : RowSW wr Fb vs out
  rr : wr.ownsRow B 5 1 vr rec.length (bv rec)
  fb : ∀ k, Fb k → B ≤ k ∧ k < wr.heap.size
  no : ∀ k, vo.ownBlock = some k → ¬ Fb k
  nr : ∀ k, vr.ownBlock = some k → ¬ Fb k ∧ vo.ownBlock ≠ some k
section
variable {B : Nat} {w0 wr w' : World} {vo vr : Value} {out : List (List UInt8)} {rec : List UInt8} {vs : List Value} {Fb : Nat → Prop}
theorem ScanI.start (w0 : World) : ScanI w0.heap.size w0 w0 (.slice none 0 0) (.slice none 0 0) [] [] [] (fun _ => False) :=
  { be := Below.refl _ _, bl := Nat.le_refl _, oo := World.ownsRow_nil _ _ _ _, ro := RowSW.nil _ _, rr := World.ownsRow_nil _ _ _ _, fb := fun _ h => h.elim, no := fun _ h => by simp [Value.ownBlock] at h, nr := fun _ h => by simp [Value.ownBlock] at h }
theorem ScanI.below (h : ScanI B w0 wr vo vr out rec vs Fb) (hb : Below wr.heap.size wr w') : ScanI B w0 w' vo vr out rec vs Fb :=
  { h with be := h.be.trans (hb.mono h.bl), bl := Nat.le_trans h.bl hb.size, oo := owns_below h.oo hb, ro := h.ro.keep (Keep.ofBelow (F := fun _ => False) hb) (fun _ _ => id), rr := owns_below h.rr hb, fb := fun k hk => ⟨(h.fb k hk).1, Nat.lt_of_lt_of_le (h.fb k hk).2 hb.size⟩ }
theorem ScanI.grew (h : ScanI B w0 wr vo vr out rec vs Fb) {v' : Value} {p : List UInt8} (ho : w'.ownsRow B 5 1 v' (rec.length + p.length) (bv (rec ++ p))) (hg : wr.grownBy w' vr.ownBlock) (hw : v'.ownBlock = vr.ownBlock ∨ v'.ownBlock = some wr.heap.size) : ScanI B w0 w' vo v' out (rec ++ p) vs Fb := by
  have hk : Keep (fun k => vr.ownBlock = some k) wr w' := (Keep.refl _ wr).grown hg (fun k hk _ => hk)
  exact { be := h.be.grown hg h.bl (owns_ge h.rr)
          bl := Nat.le_trans h.bl hk.size
          oo := owns_keep h.oo hk (fun k h1 h2 => (h.nr k h2).2 h1)
          ro := h.ro.keep hk (fun k h1 h2 => (h.nr k h2).1 h1)
          rr := by rw [List.length_append]; exact ho
          fb := fun k hk' => ⟨(h.fb k hk').1, Nat.lt_of_lt_of_le (h.fb k hk').2 hk.size⟩
          no := h.no
          nr := fun k hk' => by
            rcases hw with e | e
            · exact h.nr k (by rw [← e]; exact hk')
            · rw [e] at hk'; injection hk' with hk'
              refine ⟨fun hf => by have := (h.fb k hf).2; omega, fun he => ?_⟩
              have := own_lt h.oo k he; omega }
/-- a record is told -/
theorem ScanI.told (h : ScanI B w0 wr vo vr out rec vs Fb) {v' : Value} (ho : w'.ownsRow B 22 1 v' (out.length + 1) (vs ++ [vr])) (hg : wr.grownBy w' vo.ownBlock) (hw : v'.ownBlock = vo.ownBlock ∨ v'.ownBlock = some wr.heap.size) :
    ScanI B w0 w' v' (.slice none 0 0) (out ++ [rec]) [] (vs ++ [vr]) (fun k => Fb k ∨ vr.ownBlock = some k) := by
  have hk : Keep (fun k => vo.ownBlock = some k) wr w' := (Keep.refl _ wr).grown hg (fun k hk _ => hk)
  have hsw : SW wr (fun k => Fb k ∨ vr.ownBlock = some k) vr rec := by
    obtain ⟨ao, cap, rfl, _, hc, hs, hwb, _⟩ := own_all h.rr
    refine ⟨ao, cap, rfl, hc, hs, hwb, fun x hx => .inr (by rw [hx]; rfl)⟩
  exact { be := h.be.grown hg h.bl (owns_ge h.oo)
          bl := Nat.le_trans h.bl hk.size
          oo := by rw [List.length_append]; exact ho
          ro := (h.ro.mono (fun _ => .inl)).snoc hsw |>.keep hk (fun k h1 h2 => by
            rcases h1 with h1 | h1
            · exact h.no k h2 h1
            · exact (h.nr k h1).2 h2)
          rr := World.ownsRow_nil _ _ _ _
          fb := fun k hk' => by
            rcases hk' with hk' | hk'
            · exact ⟨(h.fb k hk').1, Nat.lt_of_lt_of_le (h.fb k hk').2 hk.size⟩
            · exact ⟨owns_ge h.rr k hk', Nat.lt_of_lt_of_le (own_lt h.rr k hk') hk.size⟩
          no := fun k hk' => by
            rcases hw with e | e
            · rintro (h1 | h1)
              · exact h.no k (by rw [← e]; exact hk') h1
              · exact (h.nr k h1).2 (by rw [← e]; exact hk')
            · rw [e] at hk'; injection hk' with hk'
              rintro (h1 | h1)
              · have := (h.fb k h1).2; omega
              · have := own_lt h.rr k h1; omega
          nr := fun k hk' => by simp [Value.ownBlock] at hk' }
theorem ScanI.fresh (h : ScanI B w0 wr vo vr out rec vs Fb) : FreshL B wr vo out := ⟨vs, Fb, h.oo, h.ro, h.fb, h.no⟩
end
def scanLoop (d : Dev) (base gen : Nat) : Nat → Nat → List (List UInt8) → Nat → List UInt8 → Bool → List (List UInt8) × Nat
  | 0, _, out, next, _, _ => (out, next)
  | m + 1, i, out, next, rec, begun =>
    match rightOf (d.read ((base + i : Nat) : Int)).1 gen i with
    | none => (out, next)
    | some (k, p) =>
      if begun ≠ decide (k = 3 ∨ k = 4) then (out, next)
      else if k = 2 ∨ k = 3 then scanLoop d base gen m (i + 1) out next (rec ++ p) true
      else scanLoop d base gen m (i + 1) (out ++ [rec ++ p]) (i + 1) [] false
def logScan (d : Dev) (f t g : Int) : List (List UInt8) × Int × Int :=
  if checkOf d f t g ≠ 0 then ([], 0, checkOf d f t g) else if d.out then ([], 0, 22)
  else ((scanLoop d f.toNat g.toNat (t - f).toNat 0 [] 0 [] false).1, ((scanLoop d f.toNat g.toNat (t - f).toNat 0 [] 0 [] false).2 : Int), 0)
theorem read_len {d : Dev} (h : d.ok) (ho : d.out = false) {i : Nat} (hi : i < d.img.length) : (d.read (i : Int)).1.length = 64 := by
  obtain ⟨s, hs⟩ : ∃ s, d.now[i]? = some s := ⟨_, List.getElem?_eq_getElem (by rw [d.now_len]; exact hi)⟩
  have hh : has d.img.length (i : Int) = true := by simp [has]; omega
  have : d.read (i : Int) = (s, 0) := by unfold Dev.read secOf; rw [ho, d.now_len, hh]; simp [hs]
  rw [this]
  exact h.now64.get hs
theorem right_kind {b : List UInt8} {gen index k : Nat} {p : List UInt8} (h : rightOf b gen index = some (k, p)) : 1 ≤ k ∧ k ≤ 4 ∧ p.length ≤ 49 := by
  unfold rightOf at h
  simp only at h
  split at h
  · cases h
  · rename_i hh
    split at h
    · injection h with h; injection h with h1 h2
      subst h1; subst h2
      exact ⟨by omega, by omega, Nat.le_trans (List.length_take_le _ _) (by omega)⟩
    · cases h
theorem right_part {b : List UInt8} {gen index k : Nat} {p : List UInt8} (h : rightOf b gen index = some (k, p)) : ∃ u, p = (b.drop 14).take u := by
  unfold rightOf at h
  simp only at h
  split at h
  · cases h
  · split at h
    · injection h with h; injection h with h1 h2
      exact ⟨_, h2.symm⟩
    · cases h
end Go.Proofs.Ytlondopgibcikaa
