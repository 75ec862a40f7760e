/- What the log's Scan holds: records told, one begun. The walk of the log's Scan. The walks of layer 6's helpers: has, SameLists, made, awake. -/
import Derived.Test.YtlondopgibcikaaGreatRows
import Derived.Test.YtlondopgibcikaaGreatG01
import Derived.Test.YtlondopgibcikaaGreatG02
import Derived.Test.YtlondopgibcikaaGreatG03
import Derived.Test.YtlondopgibcikaaGreatG04
import Derived.Test.YtlondopgibcikaaGreatG05
import Derived.Test.YtlondopgibcikaaGreatG06
import Derived.Test.YtlondopgibcikaaGreatG07
import Derived.Test.YtlondopgibcikaaGreatG08
import Derived.Test.YtlondopgibcikaaGreatG09
import Derived.Test.YtlondopgibcikaaGreatG10
import Derived.Test.YtlondopgibcikaaGreatG13
import Derived.Test.YtlondopgibcikaaGreatG14
import Derived.Test.YtlondopgibcikaaGreatG15
import Derived.WalkKit
import Derived.WalkMore
import Derived.WalkSpells
import Derived.WalkLawsBesides
import Derived.Deep.RegionHeld3
import Derived.Deep.QuietTactic
import Derived.BigQuiet
namespace Go.Proofs.YtlondopgibcikaaGreat
open Go.RowKit Ent
/-- append of bytes, and where they lie then -/
theorem run_append_at (w : World) (ty : TypeId) (base : Nat) (v : Value) (n : Nat) (xs ys : List UInt8) (hown : w.ownsRow base 5 1 v n (bv xs)) (ao : Option Addr) (m c : Nat) (hm : m = ys.length) (hsrc : SB w ao c ys)
    (hb : n + m ≤ 1099511627776) (hbase : base ≤ w.heap.size) :
    ∃ v' w', (Builtin.append_ #[44, 44] ty #[v, .slice ao m c]).run Tryz.prog w = .ok v' w' ∧ w'.ownsRow base 5 1 v' (n + m) (bv (xs ++ ys)) ∧ w.grownBy w' v.ownBlock ∧ (v'.ownBlock = v.ownBlock ∨ v'.ownBlock = some w.heap.size) := by
  obtain ⟨i, hi, hz0, hz1, hz2⟩ := info_u8
  subst hm
  rcases hsrc with ⟨rfl, rfl, rfl⟩ | ⟨ad, rfl, rfl⟩ | ⟨b, o', rfl, hr⟩
  · exact ⟨v, w, run_append_owned_none (P := Tryz.prog) w base 44 ty 5 i 1 Tryz.underlying44 hi v n (bv xs) hown, by simpa using hown, ⟨rfl, rfl, rfl, Nat.le_refl _, fun _ _ _ => rfl⟩, .inl rfl⟩
  · obtain ⟨v', w', h1, h2, h3, _, h5⟩ := run_append_own_at (P := Tryz.prog) w base 44 ty 5 i (.int .u8 0) 1 1 Tryz.underlying44 hi hz0 hz1 hz2 rfl (by decide) v n (bv xs) hown ad 0 c (bv []) (by simp) (by intro j u hu; simp [bv] at hu) (bv_one []) (by simp [maxLen]; omega) (by omega) hbase
    rw [← bv_append] at h2
    exact ⟨v', w', h1, h2, h3, h5⟩
  · obtain ⟨v', w', h1, h2, h3, _, h5⟩ := run_append_own_at (P := Tryz.prog) w base 44 ty 5 i (.int .u8 0) 1 1 Tryz.underlying44 hi hz0 hz1 hz2 rfl (by decide) v n (bv xs) hown ⟨b, o', none⟩ ys.length c (bv ys) (by simp) (by intro j u hu; rw [Addr.add_mid]; exact hr j u hu) (bv_one ys) (by simp [maxLen]; omega) (by omega) hbase
    rw [← bv_append] at h2
    exact ⟨v', w', h1, h2, h3, h5⟩
theorem wpl_append_at {w : World} {ops : Array Oper} {rest : List Oper} {o : Oper} {a : Act} {Q : Exit → Act → World → Prop} (hgd : o.guard = none) (s x : Operand)
    (ho : o.op = .call { callee := .builtin .append, args := #[s, x], argTypes := #[44, 44] })
    (base : Nat) (v : Value) (n : Nat) (xs ys : List UInt8) (hs : a.eval s = v) (hown : w.ownsRow base 5 1 v n (bv xs)) (ao : Option Addr) (m c : Nat) (hx : a.eval x = .slice ao m c) (hm : m = ys.length) (hsrc : SB w ao c ys)
    (hb : n + m ≤ 1099511627776) (hbase : base ≤ w.heap.size)
    (h : ∀ v' w', w'.ownsRow base 5 1 v' (n + m) (bv (xs ++ ys)) → w.grownBy w' v.ownBlock → (v'.ownBlock = v.ownBlock ∨ v'.ownBlock = some w.heap.size) → wpList Tryz.prog ops Q rest (a.put o.dst v') w') : wpList Tryz.prog ops Q (o :: rest) a w := by
  refine wpList_plain hgd fun _ hK => ?_
  obtain ⟨v', w', hr, h2, h3, h4⟩ := run_append_at w o.type base v n xs ys hown ao m c hm hsrc hb hbase
  unfold Oper.wp execOp
  simp only [ho, resolve, invoke, builtin, Sem.run_bind, Sem.run_pure, Result.andThen_ok, List.map_toArray, List.map_cons, List.map_nil, hs, hx, hr]
  exact hK _ _ (h v' w' h2 h3 h4)
/-- bytes that may be read and written -/
def SW (w : World) (F : Nat → Prop) (v : Value) (l : List UInt8) : Prop := ∃ ao cap, v = .slice ao l.length cap ∧ l.length ≤ cap ∧ SB w ao cap l ∧ WB w ao l.length ∧ ∀ x, ao = some x → F x.block
theorem SW.keep {w w' : World} {F G : Nat → Prop} {v : Value} {l : List UInt8} (h : SW w F v l) (hk : Keep G w w') (hG : ∀ k, F k → ¬ G k) : SW w' F v l := by
  obtain ⟨ao, cap, hv, hc, hs, hw, hf⟩ := h
  exact ⟨ao, cap, hv, hc, hs.keep hk (fun x hx => hG _ (hf x hx)), hw.keep hk (fun x hx => hG _ (hf x hx)), hf⟩
theorem SW.mono {w : World} {F G : Nat → Prop} {v : Value} {l : List UInt8} (h : SW w F v l) (hFG : ∀ k, F k → G k) : SW w G v l := by
  obtain ⟨ao, cap, hv, hc, hs, hw, hf⟩ := h
  exact ⟨ao, cap, hv, hc, hs, hw, fun x hx => hFG _ (hf x hx)⟩
theorem SW.ss {w : World} {F : Nat → Prop} {v : Value} {l : List UInt8} (h : SW w F v l) : SS w F v l := by
  obtain ⟨ao, cap, hv, hc, hs, hw, hf⟩ := h; exact ⟨ao, cap, hv, hc, hs, hf⟩
def RowSW (w : World) (F : Nat → Prop) (vs : List Value) (L : List (List UInt8)) : Prop := vs.length = L.length ∧ ∀ (i : Nat) (v : Value) (l : List UInt8), vs[i]? = some v → L[i]? = some l → SW w F v l
theorem RowSW.ss {w : World} {F : Nat → Prop} {vs : List Value} {L : List (List UInt8)} (h : RowSW w F vs L) : RowS w F vs L := ⟨h.1, fun i v l a b => (h.2 i v l a b).ss⟩
theorem RowSW.nil (w : World) (F : Nat → Prop) : RowSW w F [] [] := ⟨rfl, fun i v l h => by simp at h⟩
theorem RowSW.keep {w w' : World} {F G : Nat → Prop} {vs : List Value} {L : List (List UInt8)} (h : RowSW w F vs L) (hk : Keep G w w') (hG : ∀ k, F k → ¬ G k) : RowSW w' F vs L := ⟨h.1, fun i v l a b => (h.2 i v l a b).keep hk hG⟩
theorem RowSW.mono {w : World} {F G : Nat → Prop} {vs : List Value} {L : List (List UInt8)} (h : RowSW w F vs L) (hFG : ∀ k, F k → G k) : RowSW w G vs L := ⟨h.1, fun i v l a b => (h.2 i v l a b).mono hFG⟩
theorem RowSW.snoc {w : World} {F : Nat → Prop} {vs : List Value} {L : List (List UInt8)} (h : RowSW w F vs L) {v : Value} {l : List UInt8} (hv : SW w F v l) : RowSW w F (vs ++ [v]) (L ++ [l]) := by
  refine ⟨by simp [h.1], fun i u m hu hm => ?_⟩
  by_cases hi : i < vs.length
  · rw [List.getElem?_append_left hi] at hu
    rw [List.getElem?_append_left (by rw [← h.1]; exact hi)] at hm
    exact h.2 i u m hu hm
  · have hi' : i = vs.length := by
      have := (List.getElem?_eq_some_iff.1 hu).1
      simp at this; omega
    subst hi'
    rw [List.getElem?_append_right (Nat.le_refl _), Nat.sub_self] at hu
    rw [List.getElem?_append_right (by rw [h.1]; exact Nat.le_refl _), h.1, Nat.sub_self] at hm
    simp at hu hm
    subst hu; subst hm; exact hv
/-- lists of bytes that are new since B blocks -/
def FreshL (B : Nat) (w : World) (v : Value) (L : List (List UInt8)) : Prop := ∃ vs Fb, w.ownsRow B 44 1 v L.length vs ∧ RowSW w Fb vs L ∧ (∀ k, Fb k → B ≤ k ∧ k < w.heap.size) ∧ ∀ k, v.ownBlock = some k → ¬ Fb k
structure ScanI (B : Nat) (w0 wr : World) (vo vr : Value) (out : List (List UInt8)) (rec : List UInt8) (vs : List Value) (Fb : Nat → Prop) : Prop where
  be : Below B w0 wr
  bl : B ≤ wr.heap.size
  oo : wr.ownsRow B 44 1 vo out.length vs
  ro : RowSW wr Fb vs out
  rr : wr.ownsRow B 5 1 vr rec.length (bv rec)
  fb : ∀ k, Fb k → B ≤ k ∧ k < wr.heap.size
  no : ∀ k, vo.ownBlock = some k → ¬ Fb k
  nr : ∀ k, vr.ownBlock = some k → ¬ Fb k ∧ vo.ownBlock ≠ some k
section
variable {B : Nat} {w0 wr w' : World} {vo vr : Value} {out : List (List UInt8)} {rec : List UInt8} {vs : List Value} {Fb : Nat → Prop}
theorem ScanI.start (w0 : World) : ScanI w0.heap.size w0 w0 (.slice none 0 0) (.slice none 0 0) [] [] [] (fun _ => False) :=
  { be := Below.refl _ _, bl := Nat.le_refl _, oo := World.ownsRow_nil _ _ _ _, ro := RowSW.nil _ _, rr := World.ownsRow_nil _ _ _ _, fb := fun _ h => h.elim, no := fun _ h => by simp [Value.ownBlock] at h, nr := fun _ h => by simp [Value.ownBlock] at h }
theorem ScanI.below (h : ScanI B w0 wr vo vr out rec vs Fb) (hb : Below wr.heap.size wr w') : ScanI B w0 w' vo vr out rec vs Fb :=
  { h with be := h.be.trans (hb.mono h.bl), bl := Nat.le_trans h.bl hb.size, oo := owns_below h.oo hb, ro := h.ro.keep (Keep.ofBelow (F := fun _ => False) hb) (fun _ _ => id), rr := owns_below h.rr hb, fb := fun k hk => ⟨(h.fb k hk).1, Nat.lt_of_lt_of_le (h.fb k hk).2 hb.size⟩ }
theorem ScanI.grew (h : ScanI B w0 wr vo vr out rec vs Fb) {v' : Value} {p : List UInt8} (ho : w'.ownsRow B 5 1 v' (rec.length + p.length) (bv (rec ++ p))) (hg : wr.grownBy w' vr.ownBlock) (hw : v'.ownBlock = vr.ownBlock ∨ v'.ownBlock = some wr.heap.size) : ScanI B w0 w' vo v' out (rec ++ p) vs Fb := by
  have hk : Keep (fun k => vr.ownBlock = some k) wr w' := (Keep.refl _ wr).grown hg (fun k hk _ => hk)
  exact { be := h.be.grown hg h.bl (owns_ge h.rr)
          bl := Nat.le_trans h.bl hk.size
          oo := owns_keep h.oo hk (fun k h1 h2 => (h.nr k h2).2 h1)
          ro := h.ro.keep hk (fun k h1 h2 => (h.nr k h2).1 h1)
          rr := by rw [List.length_append]; exact ho
          fb := fun k hk' => ⟨(h.fb k hk').1, Nat.lt_of_lt_of_le (h.fb k hk').2 hk.size⟩
          no := h.no
          nr := fun k hk' => by
            rcases hw with e | e
            · exact h.nr k (by rw [← e]; exact hk')
            · rw [e] at hk'; injection hk' with hk'
              refine ⟨fun hf => by have := (h.fb k hf).2; omega, fun he => ?_⟩
              have := own_lt h.oo k he; omega }
/-- a record is told -/
theorem ScanI.told (h : ScanI B w0 wr vo vr out rec vs Fb) {v' : Value} (ho : w'.ownsRow B 44 1 v' (out.length + 1) (vs ++ [vr])) (hg : wr.grownBy w' vo.ownBlock) (hw : v'.ownBlock = vo.ownBlock ∨ v'.ownBlock = some wr.heap.size) :
    ScanI B w0 w' v' (.slice none 0 0) (out ++ [rec]) [] (vs ++ [vr]) (fun k => Fb k ∨ vr.ownBlock = some k) := by
  have hk : Keep (fun k => vo.ownBlock = some k) wr w' := (Keep.refl _ wr).grown hg (fun k hk _ => hk)
  have hsw : SW wr (fun k => Fb k ∨ vr.ownBlock = some k) vr rec := by
    obtain ⟨ao, cap, rfl, _, hc, hs, hwb, _⟩ := own_all h.rr
    refine ⟨ao, cap, rfl, hc, hs, hwb, fun x hx => .inr (by rw [hx]; rfl)⟩
  exact { be := h.be.grown hg h.bl (owns_ge h.oo)
          bl := Nat.le_trans h.bl hk.size
          oo := by rw [List.length_append]; exact ho
          ro := (h.ro.mono (fun _ => .inl)).snoc hsw |>.keep hk (fun k h1 h2 => by
            rcases h1 with h1 | h1
            · exact h.no k h2 h1
            · exact (h.nr k h1).2 h2)
          rr := World.ownsRow_nil _ _ _ _
          fb := fun k hk' => by
            rcases hk' with hk' | hk'
            · exact ⟨(h.fb k hk').1, Nat.lt_of_lt_of_le (h.fb k hk').2 hk.size⟩
            · exact ⟨owns_ge h.rr k hk', Nat.lt_of_lt_of_le (own_lt h.rr k hk') hk.size⟩
          no := fun k hk' => by
            rcases hw with e | e
            · rintro (h1 | h1)
              · exact h.no k (by rw [← e]; exact hk') h1
              · exact (h.nr k h1).2 (by rw [← e]; exact hk')
            · rw [e] at hk'; injection hk' with hk'
              rintro (h1 | h1)
              · have := (h.fb k h1).2; omega
              · have := own_lt h.rr k h1; omega
          nr := fun k hk' => by simp [Value.ownBlock] at hk' }
theorem ScanI.fresh (h : ScanI B w0 wr vo vr out rec vs Fb) : FreshL B wr vo out := ⟨vs, Fb, h.oo, h.ro, h.fb, h.no⟩
end
def scanLoop (d : Dev) (base gen : Nat) : Nat → Nat → List (List UInt8) → Nat → List UInt8 → Bool → List (List UInt8) × Nat
  | 0, _, out, next, _, _ => (out, next)
  | m + 1, i, out, next, rec, begun =>
    match rightOf (d.read ((base + i : Nat) : Int)).1 gen i with
    | none => (out, next)
    | some (k, p) =>
      if begun ≠ decide (k = 3 ∨ k = 4) then (out, next)
      else if k = 2 ∨ k = 3 then scanLoop d base gen m (i + 1) out next (rec ++ p) true
      else scanLoop d base gen m (i + 1) (out ++ [rec ++ p]) (i + 1) [] false
def logScan (d : Dev) (f t g : Int) : List (List UInt8) × Int × Int :=
  if checkOf d f t g ≠ 0 then ([], 0, checkOf d f t g) else if d.out then ([], 0, 22)
  else ((scanLoop d f.toNat g.toNat (t - f).toNat 0 [] 0 [] false).1, ((scanLoop d f.toNat g.toNat (t - f).toNat 0 [] 0 [] false).2 : Int), 0)
theorem read_len {d : Dev} (h : d.ok) (ho : d.out = false) {i : Nat} (hi : i < d.img.length) : (d.read (i : Int)).1.length = 64 := by
  obtain ⟨s, hs⟩ : ∃ s, d.now[i]? = some s := ⟨_, List.getElem?_eq_getElem (by rw [d.now_len]; exact hi)⟩
  have hh : has d.img.length (i : Int) = true := by simp [has]; omega
  have : d.read (i : Int) = (s, 0) := by unfold Dev.read secOf; rw [ho, d.now_len, hh]; simp [hs]
  rw [this]
  exact h.now64.get hs
theorem right_kind {b : List UInt8} {gen index k : Nat} {p : List UInt8} (h : rightOf b gen index = some (k, p)) : 1 ≤ k ∧ k ≤ 4 ∧ p.length ≤ 49 := by
  unfold rightOf at h
  simp only at h
  split at h
  · cases h
  · rename_i hh
    split at h
    · injection h with h; injection h with h1 h2
      subst h1; subst h2
      exact ⟨by omega, by omega, Nat.le_trans (List.length_take_le _ _) (by omega)⟩
    · cases h
theorem right_part {b : List UInt8} {gen index k : Nat} {p : List UInt8} (h : rightOf b gen index = some (k, p)) : ∃ u, p = (b.drop 14).take u := by
  unfold rightOf at h
  simp only at h
  split at h
  · cases h
  · split at h
    · injection h with h; injection h with h1 h2
      exact ⟨_, h2.symm⟩
    · cases h
end Go.Proofs.YtlondopgibcikaaGreat
namespace Go.Proofs.YtlondopgibcikaaGreat
open Go.RowKit Ent
theorem FreshL.base {B B' : Nat} {w : World} {v : Value} {L : List (List UInt8)} (h : FreshL B w v L) (hb : B' ≤ B) : FreshL B' w v L := by
  obtain ⟨vs, Fb, h1, h2, h3, h4⟩ := h
  exact ⟨vs, Fb, ⟨h1.1, h1.2.imp id fun ⟨g, c, cur, e1, e2, e3⟩ => ⟨g, c, cur, e1, Nat.le_trans hb e2, e3⟩⟩, h2, fun k hk => ⟨Nat.le_trans hb (h3 k hk).1, (h3 k hk).2⟩, h4⟩
theorem FreshL.nil (B : Nat) (w : World) : FreshL B w (.slice none 0 0) [] := ⟨[], fun _ => False, World.ownsRow_nil _ _ _ _, RowSW.nil _ _, fun _ h => h.elim, fun _ h => by simp [Value.ownBlock] at h⟩
set_option maxRecDepth 100000 in
set_option maxHeartbeats 4000000 in
theorem scan_any {a : Nat} {F : Nat → Prop} {d : Dev} (f t g : Int) (w : World) (h : PDev w a F d) :
    Calls Tryz.prog 62 #[ptr a, .agg #[.int .i64 f, .int .i64 t, .int .i64 g]] w fun e w' => ∃ v, e = .returned (.tuple #[v, .int .i64 (logScan d f t g).2.1, .int .i64 (logScan d f t g).2.2]) ∧ FreshL w.heap.size w' v (logScan d f t g).1 ∧ Below w.heap.size w w' := by
  have hok : d.ok := by obtain ⟨_, _, _, _, _, h⟩ := h; exact h.ok
  have HOK := hid hok
  obtain ⟨w1, hw1⟩ : ∃ w1, w.alloc (.cells #[.int .i64 f, .int .i64 t, .int .i64 g] 99) = w1 := ⟨_, rfl⟩
  have HW1 := hid hw1
  have HBX : Hid (Blk w1 w.heap.size 99 [.int .i64 f, .int .i64 t, .int .i64 g]) := hid (by rw [← hw1]; exact alloc_new w _)
  have HB1 : Hid (Below w.heap.size w w1) := hid (by rw [← hw1]; exact fresh_alloc w _)
  have H1 := hid (h.below HB1.out)
  clear hw1 h hok
  unfold ptr
  by_cases hc : checkOf d f t g ≠ 0
  · have HE : Hid (logScan d f t g = ([], 0, checkOf d f t g)) := hid (by unfold logScan; rw [if_pos hc])
    have H3 := hid ((check_code d f t g).resolve_left hc)
    clear hc
    go_enter Tryz.func62, Tryz.ntmps62
    go_wp2_with fail
    rw [HW1.out]
    have x0 := HBX.out.cell (j := 0) rfl
    have x1 := HBX.out.cell (j := 1) rfl
    have x2 := HBX.out.cell (j := 2) rfl
    go_step3
    go_wp2_with fail
    clear x0 x1 x2
    refine (check_any f t g w1 H1.out).mono ?_
    rintro e w2 ⟨rfl, hb2⟩
    have HB2 := hid (th HB1.out hb2)
    have H2 := hid (H1.out.below hb2)
    have HBX2 := hid (HBX.out.below hb2 HBX.out.lt)
    clear hb2
    rw [H3.out]
    go_wp2
    ((try rw [Exit.noGoto_ret]); go_ret3)
    exact ⟨_, by rw [HE.out]; show _ = Ending.returned (.tuple #[_, .int .i64 0, .int .i64 (checkOf d f t g)]); rw [H3.out]; rfl, by rw [HE.out]; exact FreshL.nil _ _, HB2.out⟩
  obtain ⟨h1, h2, h3, h4, h5⟩ := check_ok hc
  have H0 : Hid (checkOf d f t g = 0) := hid (by simpa using hc)
  have HCN := hid hc
  clear hc
  obtain ⟨n, rfl⟩ : ∃ n : Nat, f = (n : Int) := ⟨f.toNat, by omega⟩
  obtain ⟨m, rfl⟩ : ∃ m : Nat, t = (n : Int) + (m : Int) := ⟨(t - n).toNat, by omega⟩
  obtain ⟨gm, rfl⟩ : ∃ gm : Nat, g = (gm : Int) := ⟨g.toNat, by omega⟩
  have hnm : n + m ≤ d.img.length := by omega
  have hlen := HOK.out.len
  have hsub : ((n : Int) + (m : Int) - (n : Int)) = (m : Int) := by omega
  have HSUB := hid hsub
  clear h1 h2 h3 hsub
  cases hout : d.out
  rotate_left
  · have HE : Hid (logScan d n (n + m) gm = ([], 0, 22)) := hid (by unfold logScan; rw [if_neg HCN.out, hout]; rfl)
    have HO := hid hout
    clear hout
    go_enter Tryz.func62, Tryz.ntmps62
    go_wp2_with fail
    rw [HW1.out]
    have x0 := HBX.out.cell (j := 0) rfl
    have x1 := HBX.out.cell (j := 1) rfl
    have x2 := HBX.out.cell (j := 2) rfl
    go_step3
    go_wp2_with fail
    clear x0 x1 x2
    refine (check_any n (n + m) gm w1 H1.out).mono ?_
    rintro e w2 ⟨rfl, hb2⟩
    have HB2 := hid (th HB1.out hb2)
    have H2 := hid (H1.out.below hb2)
    have HBX2 := hid (HBX.out.below hb2 HBX.out.lt)
    clear hb2
    rw [H0.out]
    go_wp2_with fail
    refine (lift_out w2 H2.out).mono ?_
    rintro e w' ⟨rfl, rfl⟩
    rw [HO.out]
    go_wp2
    ((try rw [Exit.noGoto_ret]); go_ret3)
    exact ⟨_, by rw [HE.out]; rfl, by rw [HE.out]; exact FreshL.nil _ _, HB2.out⟩
  have HE : Hid (logScan d n (n + m) gm = ((scanLoop d n gm m 0 [] 0 [] false).1, ((scanLoop d n gm m 0 [] 0 [] false).2 : Int), 0)) := hid (by
    unfold logScan
    rw [if_neg HCN.out, hout, HSUB.out]
    simp only [Int.toNat_natCast]; rfl)
  have HO := hid hout
  clear hout
  go_enter Tryz.func62, Tryz.ntmps62
  go_wp2_with fail
  rw [HW1.out]
  have x0 := HBX.out.cell (j := 0) rfl
  have x1 := HBX.out.cell (j := 1) rfl
  have x2 := HBX.out.cell (j := 2) rfl
  go_step3
  go_wp2_with fail
  clear x0 x1 x2
  refine (check_any n (n + m) gm w1 H1.out).mono ?_
  rintro e w2 ⟨rfl, hb2⟩
  have HB2 := hid (th HB1.out hb2)
  have H2 := hid (H1.out.below hb2)
  have HBX2 := hid (HBX.out.below hb2 HBX.out.lt)
  clear hb2
  rw [H0.out]
  go_wp2_with fail
  refine (lift_out w2 H2.out).mono ?_
  rintro e w' ⟨rfl, rfl⟩
  rw [HO.out]
  have cb0 := HBX2.out.cell (j := 0) rfl
  have cb1 := HBX2.out.cell (j := 1) rfl
  go_wp2_with fail
  go_step3
  go_wp2_with fail
  clear cb0 cb1
  go_loopw [4, 5, 7, 8, 27] (fun v4 nx v7 bg i wr => ∃ (vo vr : Value) (k : Nat) (out : List (List UInt8)) (next : Nat) (rec : List UInt8) (begun : Bool) (vs : List Value) (Fb : Nat → Prop), vo = v4 ∧ vr = v7 ∧ k ≤ m ∧ i = .int .i64 k ∧ nx = .int .i64 next ∧ bg = .bool begun ∧ ScanI w'.heap.size w' wr vo vr out rec vs Fb ∧ scanLoop d n gm m 0 [] 0 [] false = scanLoop d n gm (m - k) k out next rec begun ∧ out.length ≤ k ∧ rec.length ≤ 49 * k) (fun _ _ _ _ i _ => m - (intOf i).toNat)
  case atStart => exact ⟨_, _, 0, [], 0, [], false, [], _, rfl, rfl, Nat.zero_le _, rfl, rfl, rfl, ScanI.start w', rfl, Nat.le_refl _, Nat.le_refl _⟩
  case round =>
    obtain ⟨vo, vr, k, out, next, rec, begun, vs, Fb, rfl, rfl, hk, rfl, rfl, rfl, hI, hl, hol, hrl⟩ := hrel
    have HI := hid hI; have HL := hid hl
    have HBr := hid (HBX2.out.below hI.be HBX2.out.lt)
    have HP := hid (H2.out.below hI.be)
    have cb0 := HBr.out.cell (j := 0) rfl
    have cb2 := HBr.out.cell (j := 2) rfl
    clear hI hl
    by_cases hlt : k < m
    · have HNK : Hid ((n : Int) + (k : Int) = ((n + k : Nat) : Int)) := hid (by omega)
      have HB64 := hid (read_len HOK.out HO.out (show n + k < d.img.length by omega))
      have HSTEP : Hid (scanLoop d n gm (m - k) k out next rec begun = match rightOf (d.read ((n + k : Nat) : Int)).1 gm k with
        | none => (out, next)
        | some (kd, p) => if begun ≠ decide (kd = 3 ∨ kd = 4) then (out, next) else if kd = 2 ∨ kd = 3 then scanLoop d n gm (m - (k + 1)) (k + 1) out next (rec ++ p) true else scanLoop d n gm (m - (k + 1)) (k + 1) (out ++ [rec ++ p]) (k + 1) [] false) := hid (by
          rw [show m - k = (m - (k + 1)) + 1 by omega, scanLoop]; first | done | rfl)
      go_wp2_with fail
      refine (lift_read ((n : Int) + (k : Int)) wr HP.out).mono ?_
      rintro e w4 ⟨v, rfl, hf, hb4⟩
      rw [HNK.out] at hf ⊢
      obtain ⟨b, hbq⟩ : ∃ b, (d.read ((n + k : Nat) : Int)).1 = b := ⟨_, rfl⟩
      rw [hbq] at hf HB64 HSTEP
      obtain ⟨ao, cap, rfl, hcap, hsb, -⟩ := hf
      rw [HB64.out] at hcap ⊢
      obtain ⟨gb, ob, rfl, hrg⟩ : ∃ g o, ao = some ⟨g, o, none⟩ ∧ w4.rangeAt g o (bv b) := by
        rcases hsb with ⟨_, _, h⟩ | ⟨_, _, h⟩ | ⟨g, o, h1, h2⟩
        · have := HB64.out; rw [h] at this; simp at this
        · have := HB64.out; rw [h] at this; simp at this
        · exact ⟨g, o, h1, h2⟩
      have HRG := hid hrg
      have HI4 := hid (HI.out.below hb4)
      have cb24 : w4.cell? ⟨w.heap.size, 2, none⟩ = some (.int .i64 (gm : Int)) := by rw [hb4.cell (World.block_lt_of_cell? wr _ cb2)]; exact cb2
      clear hsb hrg hb4 hbq
      go_wp2_with fail
      refine (right_any gb ob cap b HB64.out hcap gm k (by omega) (by omega) w4 HRG.out).mono ?_
      rintro e w5 ⟨hR, hb5⟩
      have HI5 := hid (HI4.out.below hb5)
      have HRG5 := hid ((Keep.ofBelow (F := fun _ => False) hb5).range HRG.out id)
      clear hb5
      unfold RightRet at hR
      rcases hro0 : rightOf b gm k with _ | ⟨kd, p⟩
      · have hro := hid hro0
        rw [hro0] at hR
        subst hR
        clear hro0
        have HSL : Hid (scanLoop d n gm m 0 [] 0 [] false = (out, next)) := hid (by rw [HL.out, HSTEP.out, hro.out])
        go_wp2
        ((try rw [Exit.noGoto_ret]); go_ret3)
        exact ⟨vo, by rw [HE.out, HSL.out]; rfl, by rw [HE.out, HSL.out]; exact (HI5.out.fresh).base HB2.out.size, HB2.out.trans (HI5.out.be.mono HB2.out.size)⟩
      · have hkd := right_kind hro0
        obtain ⟨u, hu⟩ := right_part hro0
        have hro := hid hro0
        rw [hro0] at hR
        subst hR
        have hp49 := hkd.2.2
        have HSBP : Hid (SB w5 (some ⟨gb, ob + 14, none⟩) (cap - 14) p) := hid (.inr (.inr ⟨gb, ob + 14, rfl, fun j v hv => by
          rw [Nat.add_assoc]
          refine HRG5.out (14 + j) v ?_
          rw [bv_get] at hv ⊢
          rw [hu, List.getElem?_take] at hv
          split at hv
          · rwa [List.getElem?_drop] at hv
          · cases hv⟩))
        clear hro0 hu
        obtain rfl | rfl | rfl | rfl : kd = 1 ∨ kd = 2 ∨ kd = 3 ∨ kd = 4 := by omega
        all_goals clear hkd
        all_goals cases begun
        · have HSL : Hid (scanLoop d n gm m 0 [] 0 [] false = scanLoop d n gm (m - (k + 1)) (k + 1) (out ++ [rec ++ p]) (k + 1) [] false) := hid (by rw [HL.out, HSTEP.out, hro.out]; simp)
          go_wp2_with (first | (refine wpl_append_at rfl (.tmp 58) (.tmp 59) rfl w'.heap.size vr rec.length rec p rfl HI5.out.rr (some ⟨gb, ob + 14, none⟩) p.length (cap - 14) rfl rfl HSBP.out (by omega) HI5.out.bl ?_; intro v6 w6 ho6 hg6 hw6; obtain ⟨a6, c6, rfl⟩ := own_slice ho6; have HI6 := hid (HI5.out.grew ho6 hg6 hw6); clear ho6 hg6 hw6) | (refine wpl_appendR rowL rfl (.tmp 68) (.tmp 70) rfl w'.heap.size vo out.length vs rfl (HI6.out.below (fresh_alloc w6 _)).oo w6.heap.size rfl [.slice a6 (rec.length + p.length) c6] (alloc_new w6 _) rfl (by intro u hu; simp at hu; subst hu; rfl) (by omega) (by have := HI6.out.bl; simp; omega) ?_; intro v7 w7 ho7 hg7 hw7; have HI7 := hid ((HI6.out.below (fresh_alloc w6 _)).told ho7 hg7 hw7); clear ho7 hg7 hw7))
          go_roundw
          case rel => exact ⟨_, _, k + 1, out ++ [rec ++ p], k + 1, [], false, vs ++ [.slice a6 (rec.length + p.length) c6], _, rfl, rfl, by omega, by go_num, rfl, rfl, HI7.out, HSL.out, by rw [List.length_append]; simp; omega, by simp⟩
          case measure => simp [intOf]; omega
        · have HSL : Hid (scanLoop d n gm m 0 [] 0 [] false = (out, next)) := hid (by rw [HL.out, HSTEP.out, hro.out]; simp)
          go_wp2
          ((try rw [Exit.noGoto_ret]); go_ret3)
          exact ⟨vo, by rw [HE.out, HSL.out]; rfl, by rw [HE.out, HSL.out]; exact (HI5.out.fresh).base HB2.out.size, HB2.out.trans (HI5.out.be.mono HB2.out.size)⟩
        · have HSL : Hid (scanLoop d n gm m 0 [] 0 [] false = scanLoop d n gm (m - (k + 1)) (k + 1) out next (rec ++ p) true) := hid (by rw [HL.out, HSTEP.out, hro.out]; simp)
          go_wp2_with (refine wpl_append_at rfl (.tmp 58) (.tmp 59) rfl w'.heap.size vr rec.length rec p rfl HI5.out.rr (some ⟨gb, ob + 14, none⟩) p.length (cap - 14) rfl rfl HSBP.out (by omega) HI5.out.bl ?_; intro v6 w6 ho6 hg6 hw6; obtain ⟨a6, c6, rfl⟩ := own_slice ho6; have HI6 := hid (HI5.out.grew ho6 hg6 hw6); clear ho6 hg6 hw6)
          go_roundw
          case rel => exact ⟨_, _, k + 1, out, next, rec ++ p, true, vs, Fb, rfl, rfl, by omega, by go_num, rfl, rfl, HI6.out, HSL.out, by omega, by rw [List.length_append]; omega⟩
          case measure => simp [intOf]; omega
        · have HSL : Hid (scanLoop d n gm m 0 [] 0 [] false = (out, next)) := hid (by rw [HL.out, HSTEP.out, hro.out]; simp)
          go_wp2
          ((try rw [Exit.noGoto_ret]); go_ret3)
          exact ⟨vo, by rw [HE.out, HSL.out]; rfl, by rw [HE.out, HSL.out]; exact (HI5.out.fresh).base HB2.out.size, HB2.out.trans (HI5.out.be.mono HB2.out.size)⟩
        · have HSL : Hid (scanLoop d n gm m 0 [] 0 [] false = (out, next)) := hid (by rw [HL.out, HSTEP.out, hro.out]; simp)
          go_wp2
          ((try rw [Exit.noGoto_ret]); go_ret3)
          exact ⟨vo, by rw [HE.out, HSL.out]; rfl, by rw [HE.out, HSL.out]; exact (HI5.out.fresh).base HB2.out.size, HB2.out.trans (HI5.out.be.mono HB2.out.size)⟩
        · have HSL : Hid (scanLoop d n gm m 0 [] 0 [] false = scanLoop d n gm (m - (k + 1)) (k + 1) out next (rec ++ p) true) := hid (by rw [HL.out, HSTEP.out, hro.out]; simp)
          go_wp2_with (refine wpl_append_at rfl (.tmp 58) (.tmp 59) rfl w'.heap.size vr rec.length rec p rfl HI5.out.rr (some ⟨gb, ob + 14, none⟩) p.length (cap - 14) rfl rfl HSBP.out (by omega) HI5.out.bl ?_; intro v6 w6 ho6 hg6 hw6; obtain ⟨a6, c6, rfl⟩ := own_slice ho6; have HI6 := hid (HI5.out.grew ho6 hg6 hw6); clear ho6 hg6 hw6)
          go_roundw
          case rel => exact ⟨_, _, k + 1, out, next, rec ++ p, true, vs, Fb, rfl, rfl, by omega, by go_num, rfl, rfl, HI6.out, HSL.out, by omega, by rw [List.length_append]; omega⟩
          case measure => simp [intOf]; omega
        · have HSL : Hid (scanLoop d n gm m 0 [] 0 [] false = (out, next)) := hid (by rw [HL.out, HSTEP.out, hro.out]; simp)
          go_wp2
          ((try rw [Exit.noGoto_ret]); go_ret3)
          exact ⟨vo, by rw [HE.out, HSL.out]; rfl, by rw [HE.out, HSL.out]; exact (HI5.out.fresh).base HB2.out.size, HB2.out.trans (HI5.out.be.mono HB2.out.size)⟩
        · have HSL : Hid (scanLoop d n gm m 0 [] 0 [] false = scanLoop d n gm (m - (k + 1)) (k + 1) (out ++ [rec ++ p]) (k + 1) [] false) := hid (by rw [HL.out, HSTEP.out, hro.out]; simp)
          go_wp2_with (first | (refine wpl_append_at rfl (.tmp 58) (.tmp 59) rfl w'.heap.size vr rec.length rec p rfl HI5.out.rr (some ⟨gb, ob + 14, none⟩) p.length (cap - 14) rfl rfl HSBP.out (by omega) HI5.out.bl ?_; intro v6 w6 ho6 hg6 hw6; obtain ⟨a6, c6, rfl⟩ := own_slice ho6; have HI6 := hid (HI5.out.grew ho6 hg6 hw6); clear ho6 hg6 hw6) | (refine wpl_appendR rowL rfl (.tmp 68) (.tmp 70) rfl w'.heap.size vo out.length vs rfl (HI6.out.below (fresh_alloc w6 _)).oo w6.heap.size rfl [.slice a6 (rec.length + p.length) c6] (alloc_new w6 _) rfl (by intro u hu; simp at hu; subst hu; rfl) (by omega) (by have := HI6.out.bl; simp; omega) ?_; intro v7 w7 ho7 hg7 hw7; have HI7 := hid ((HI6.out.below (fresh_alloc w6 _)).told ho7 hg7 hw7); clear ho7 hg7 hw7))
          go_roundw
          case rel => exact ⟨_, _, k + 1, out ++ [rec ++ p], k + 1, [], false, vs ++ [.slice a6 (rec.length + p.length) c6], _, rfl, rfl, by omega, by go_num, rfl, rfl, HI7.out, HSL.out, by rw [List.length_append]; simp; omega, by simp⟩
          case measure => simp [intOf]; omega
    · have hk9 : k = m := by omega
      have HSL : Hid (scanLoop d n gm m 0 [] 0 [] false = (out, next)) := hid (by rw [HL.out, hk9, Nat.sub_self, scanLoop])
      go_wp2
      ((try rw [Exit.noGoto_ret]); go_ret3)
      exact ⟨vo, by rw [HE.out, HSL.out]; rfl, by rw [HE.out, HSL.out]; exact (HI.out.fresh).base HB2.out.size, HB2.out.trans (HI.out.be.mono HB2.out.size)⟩
end Go.Proofs.YtlondopgibcikaaGreat
namespace Go.Proofs.YtlondopgibcikaaGreat
open Go.RowKit Ent
/-- lists of bytes that may be read -/
def LR (w : World) (ao : Option Addr) (L : List (List UInt8)) : Prop := L = [] ∨ ∃ b o, ao = some ⟨b, o, none⟩ ∧ ∀ (i : Nat) (l : List UInt8), L[i]? = some l → ∃ lo cap, w.cell? ⟨b, o + i, none⟩ = some (.slice lo l.length cap) ∧ l.length ≤ cap ∧ SB w lo cap l
theorem LR.below {w w' : World} {ao : Option Addr} {L : List (List UInt8)} (h : LR w ao L) (hb : Below w.heap.size w w') : LR w' ao L := by
  rcases h with h | ⟨b, o, rfl, h⟩
  · exact .inl h
  · refine .inr ⟨b, o, rfl, fun i l hl => ?_⟩
    obtain ⟨lo, cap, hc, hcap, hs⟩ := h i l hl
    exact ⟨lo, cap, by rw [hb.cell (World.block_lt_of_cell? w _ hc)]; exact hc, hcap, hs.below hb⟩
theorem LR.at {w : World} {ao : Option Addr} {L : List (List UInt8)} (h : LR w ao L) {i : Nat} {l : List UInt8} (hl : L[i]? = some l) : ∃ b o lo cap, ao = some ⟨b, o, none⟩ ∧ w.cell? ⟨b, o + i, none⟩ = some (.slice lo l.length cap) ∧ l.length ≤ cap ∧ SB w lo cap l := by
  rcases h with rfl | ⟨b, o, rfl, h⟩
  · simp at hl
  · obtain ⟨lo, cap, h1, h2, h3⟩ := h i l hl
    exact ⟨b, o, lo, cap, rfl, h1, h2, h3⟩
theorem LR.ofRow {w : World} {B : Nat} {ao : Option Addr} {n cap : Nat} {vs : List Value} {F : Nat → Prop} {L : List (List UInt8)} (ho : w.ownsRow B 44 1 (.slice ao n cap) n vs) (hr : RowS w F vs L) (hn : n = L.length) : LR w ao L := by
  subst hn
  by_cases h0 : L = []
  · exact .inl h0
  · obtain ⟨g, rfl, _, _, _, hc, _⟩ := own_cell ho (List.length_pos_iff.2 h0)
    refine .inr ⟨g, 0, rfl, fun i l hl => ?_⟩
    obtain ⟨v, hv, lo, c, rfl, hcap, hs, _⟩ := hr.at hl
    exact ⟨lo, c, by rw [Nat.zero_add]; exact hc i _ hv, hcap, hs⟩
theorem FreshL.lr {B : Nat} {w : World} {v : Value} {L : List (List UInt8)} (h : FreshL B w v L) : ∃ ao cap, v = .slice ao L.length cap ∧ LR w ao L := by
  obtain ⟨vs, Fb, ho, hr, _, _⟩ := h
  obtain ⟨ao, cap, rfl⟩ := own_slice ho
  exact ⟨ao, cap, rfl, LR.ofRow ho hr.ss rfl⟩
def sameL (L R : List (List UInt8)) : Bool := decide (L = R)
theorem same_drewN (ao bo : Option Addr) (n m c d : Nat) (l r : List UInt8) (hn : n = l.length) (hm : m = r.length) (w : World) (q : Nat) (hl : SB w ao c l) (hr : SB w bo d r) :
    Calls Tryz.prog 44 #[.slice ao n c, .slice bo m d] (w.drewN q) fun e w' => e = .returned (.bool (sameB l r)) ∧ w' = w.drewN q :=
  (same_any ao bo n m c d l r hn hm (w.drewN q) (hl.below (below_drewN (Below.refl _ _) q)) (hr.below (below_drewN (Below.refl _ _) q))).mono fun _ _ ⟨h1, h2⟩ => ⟨h1, h2.symm⟩
set_option maxRecDepth 100000 in
set_option maxHeartbeats 1000000 in
theorem sameLists_any (ao bo : Option Addr) (n m c d : Nat) (L R : List (List UInt8)) (hn : n = L.length) (hm : m = R.length) (hb : n ≤ 1073741824) (hb2 : m ≤ 1073741824) (w : World) (hl : LR w ao L) (hr : LR w bo R) :
    Calls Tryz.prog 30 #[.slice ao n c, .slice bo m d] w fun e w' => e = .returned (.bool (sameL L R)) ∧ Below w.heap.size w w' := by
  have HN := hid hn; have HM := hid hm
  have HL := hid hl; have HR := hid hr
  clear hn hm hl hr
  by_cases hne : n = m
  rotate_left
  · have HS : Hid (sameL L R = false) := hid (by
      unfold sameL
      rw [decide_eq_false_iff_not]; intro h; rw [h] at HN; exact hne (HN.out.trans HM.out.symm))
    have hb0 : ((n : Int) == (m : Int)) = false := by rw [beq_eq_false_iff_ne]; omega
    go_enter Tryz.func30, Tryz.ntmps30
    go_wp2_with fail
    go_loopw [5, 6] (fun s i wr => s = .bool false ∧ i = .int .i64 0 ∧ w = wr) (fun _ _ _ => 0)
    case atStart => exact ⟨rfl, rfl, rfl⟩
    case round =>
      obtain ⟨rfl, rfl, rfl⟩ := hrel
      go_wp2
      go_ret
      exact ⟨by rw [HS.out]; rfl, Below.refl _ _⟩
  subst hne
  go_enter Tryz.func30, Tryz.ntmps30
  go_wp2_with fail
  go_loopw [5, 6] (fun s i wr => ∃ (k : Nat) (b : Bool), k ≤ n ∧ i = .int .i64 k ∧ s = .bool b ∧ (b = true ↔ L.take k = R.take k) ∧ Below w.heap.size w wr) (fun _ i _ => n - (intOf i).toNat)
  case atStart => exact ⟨0, true, Nat.zero_le _, rfl, rfl, by simp, Below.refl _ _⟩
  case round =>
    obtain ⟨k, b, hk, rfl, rfl, ht, hbe⟩ := hrel
    have HT := hid ht; have HB := hid hbe
    clear ht hbe
    cases b
    · have HS : Hid (sameL L R = false) := hid (by
        unfold sameL
        rw [decide_eq_false_iff_not]; intro h
        exact absurd (HT.out.2 (by rw [h])) (by simp))
      go_wp2
      go_ret
      exact ⟨by rw [HS.out]; rfl, HB.out⟩
    · by_cases hlt : k < n
      · obtain ⟨l, hl⟩ : ∃ l, L[k]? = some l := ⟨_, List.getElem?_eq_getElem (by rw [← HN.out]; exact hlt)⟩
        obtain ⟨r, hr⟩ : ∃ r, R[k]? = some r := ⟨_, List.getElem?_eq_getElem (by rw [← HM.out]; exact hlt)⟩
        obtain ⟨b1, o1, lo1, cap1, rfl, cx, _, hs1⟩ := (HL.out.below HB.out).at hl
        obtain ⟨b2, o2, lo2, cap2, rfl, cy, _, hs2⟩ := (HR.out.below HB.out).at hr
        have HS1 := hid hs1; have HS2 := hid hs2
        have HLL := hid hl; have HRR := hid hr
        clear hl hr hs1 hs2
        go_wp2_with fail
        go_quiet ((go_at_call 44; exact Calls.quiet_of_same (same_drewN lo1 lo2 l.length r.length cap1 cap2 l r rfl rfl wr _ HS1.out HS2.out)))
        go_wp2
        go_roundw
        case rel =>
          refine ⟨k + 1, sameB l r, by omega, by go_num, rfl, ?_, below_drewN HB.out _⟩
          rw [List.take_add_one, List.take_add_one, HLL.out, HRR.out, HT.out.1 (by first | exact trivial | rfl)]
          simp [sameB]
        case measure => simp [intOf]; omega
      · have hk9 : k = n := by omega
        have HS : Hid (sameL L R = true) := hid (by
          have h := HT.out.1 rfl
          rw [hk9, List.take_of_length_le (by rw [HN.out]; exact Nat.le_refl _), List.take_of_length_le (by rw [HM.out]; exact Nat.le_refl _)] at h
          unfold sameL; rw [h]; simp)
        go_wp2
        go_ret
        exact ⟨by rw [HS.out]; rfl, HB.out⟩
section
variable {B : Nat} {w0 w : World} {As : List Asset} {a : Nat} {d : Dev}
theorem St.log_blank (h : St B w0 w As) (i : Nat) (hi : As[i]? = some (dev a d)) (f t g : Int) (hlo : d.loose.length ≤ 1073000000) :
    Calls Tryz.prog 86 #[ptr a, .agg #[.int .i64 f, .int .i64 t, .int .i64 g]] w fun e w' => e = .returned (.int .i64 (blankOf d f t g).1) ∧ St B w0 w' (As.set i (dev a (blankOf d f t g).2)) := by
  obtain ⟨F, hA, hF, ho, hcl⟩ := h.open i hi
  refine (blank_any f t g w hA (fun k hk => (hF k hk).2) hlo).mono ?_
  rintro e w' ⟨he, hp, hk⟩
  exact ⟨he, hcl w' _ _ hk (good_dev _ _) hp (fun _ h => h)⟩
theorem St.log_scan (h : St B w0 w As) (i : Nat) (hi : As[i]? = some (dev a d)) (f t g : Int) :
    Calls Tryz.prog 62 #[ptr a, .agg #[.int .i64 f, .int .i64 t, .int .i64 g]] w fun e w' => ∃ v, e = .returned (.tuple #[v, .int .i64 (logScan d f t g).2.1, .int .i64 (logScan d f t g).2.2]) ∧ FreshL w.heap.size w' v (logScan d f t g).1 ∧ Below w.heap.size w w' := by
  obtain ⟨F, hA, _⟩ := h.open i hi
  exact scan_any f t g w hA
end
end Go.Proofs.YtlondopgibcikaaGreat
