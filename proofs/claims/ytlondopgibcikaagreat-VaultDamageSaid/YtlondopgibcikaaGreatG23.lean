/- The vault's counts. The vault's counts, Format. -/
import Derived.Test.YtlondopgibcikaaGreatRows
import Derived.Test.YtlondopgibcikaaGreatG01
import Derived.Test.YtlondopgibcikaaGreatG02
import Derived.Test.YtlondopgibcikaaGreatG06
import Derived.Test.YtlondopgibcikaaGreatG07
import Derived.Test.YtlondopgibcikaaGreatG08
import Derived.Test.YtlondopgibcikaaGreatG09
import Derived.Test.YtlondopgibcikaaGreatG16
import Derived.Test.YtlondopgibcikaaGreatG17
import Derived.Test.YtlondopgibcikaaGreatG21
import Derived.Test.YtlondopgibcikaaGreatG22
import Derived.WalkKit
import Derived.WalkSpells
import Derived.WalkLawsBesides
import Derived.Deep.RegionHeld3
import Derived.Deep.QuietTactic
import Derived.BigQuiet
import Derived.Great.Walk
namespace Go.Proofs.YtlondopgibcikaaGreat
open Go.RowKit Ent
theorem rowF : RowT 125 49 .nilFunc 1 8 := ⟨Tryz.underlying125, info_parts (P := Tryz.prog) (by kernel_rfl), rfl, by decide, by decide, by decide⟩
/-- values of one cell laid side by side -/
theorem wpo_layV {t e : TypeId} {z : Value} {by_ : Nat} (R : RowT t e z 1 by_) {o : Oper} {a : Act} {w : World} {K : Act → World → Prop} {Q : Exit → Act → World → Prop} (n : Nat) (parts : Array (Nat × Operand)) (ho : o.op = .buildSlice t n parts) (vs : List Value) (hn : vs.length = n) (h0 : 0 < n) (h1 : n ≤ 1000) (hv : ∀ v ∈ vs, v.cells = #[v])
    (hx : (parts.map fun (i, x) => (i, a.eval x)).toList = (vs.zipIdx 0).map fun x => (x.2, x.1))
    (h : ∀ w', Below w.heap.size w w' → Blk w' w.heap.size e vs → K (a.put o.dst (.slice (some ⟨w.heap.size, 0, none⟩) n n)) w') : o.wp Tryz.prog a w K Q := by
  obtain ⟨i, hi, hz, hsz, _⟩ := R.inf
  refine wp_buildSlice t e n parts ho vs.toArray i z R.un hi hz (by rw [hsz]; omega) (by rw [hsz]; omega) ?_ (h _ (fresh_alloc w _) (by unfold Blk; rw [alloc_new]))
  rw [hsz, hx]
  have e := Go.Great.fill_whole (s := 1) (by omega) vs ((Array.range (n * 1)).map (z.cells[· % z.cells.size]!)) (by intro u hu; rw [hv u hu]; rfl) (by simp [hn])
  have e2 : (vs.flatMap fun v => v.cells.toList) = vs := by
    clear e hx h ho hn
    induction vs with
    | nil => rfl
    | cons v r ih => rw [List.flatMap_cons, ih (fun u hu => hv u (by simp [hu])), hv v (by simp)]; rfl
  rw [e2] at e
  exact e
theorem wpl_layV {t e : TypeId} {z : Value} {by_ : Nat} (R : RowT t e z 1 by_) {ops : Array Oper} {rest : List Oper} {o : Oper} {a : Act} {w : World} {Q : Exit → Act → World → Prop} (hgd : o.guard = none) (n : Nat) (parts : Array (Nat × Operand)) (ho : o.op = .buildSlice t n parts) (vs : List Value) (hn : vs.length = n) (h0 : 0 < n) (h1 : n ≤ 1000) (hv : ∀ v ∈ vs, v.cells = #[v])
    (hx : (parts.map fun (i, x) => (i, a.eval x)).toList = (vs.zipIdx 0).map fun x => (x.2, x.1))
    (h : ∀ w', Below w.heap.size w w' → Blk w' w.heap.size e vs → wpList Tryz.prog ops Q rest (a.put o.dst (.slice (some ⟨w.heap.size, 0, none⟩) n n)) w') : wpList Tryz.prog ops Q (o :: rest) a w :=
  wpList_plain hgd fun _ hK => wpo_layV R n parts ho vs hn h0 h1 hv hx fun w' h1 h2 => hK _ _ (h w' h1 h2)
section
variable {B : Nat} {w0 w w1 : World} {As X : List Asset} {a : Nat} {d : Dev}
theorem St.dev_write2 (h : St B w0 w As) (hb : Below w.heap.size w w1) (i : Nat) (hi : As[i]? = some (dev a d)) (n : Int) (bo : Option Addr) (m c : Nat) (b : List UInt8) (hm : m = b.length) (hs : SB w1 bo c b) (hap : ∀ x, bo = some x → x.block < B ∨ w.heap.size ≤ x.block) (hlo : d.loose.length ≤ 1073741824) :
    Calls Tryz.prog 13 #[ptr a, .int .i64 n, .slice bo m c] w1 fun e w' => e = .returned (.int .i64 (d.write n b).1) ∧ St B w0 w' (As.set i (dev a (d.write n b).2)) := by
  obtain ⟨F, hA, hF, hcl⟩ := h.open2 hb i hi
  refine (lift_write n bo m c b hm w1 hs (fun x hx hF' => by rcases hap x hx with h | h <;> have := hF _ hF' <;> omega) hlo hA).mono ?_
  rintro e w' ⟨he, hp, hk⟩
  exact ⟨he, hcl w' _ _ hk (good_dev _ _) hp (fun _ h => h)⟩
theorem get_pre {A : Asset} {i : Nat} (hi : As[i]? = some A) : (As ++ X)[i]? = some A := by
  rw [List.getElem?_append_left (List.getElem?_eq_some_iff.1 hi).1]; exact hi
theorem get_post (k : Nat) {A : Asset} (hk : X[k]? = some A) : (As ++ X)[As.length + k]? = some A := by
  rw [List.getElem?_append_right (by omega), Nat.add_sub_cancel_left]; exact hk
theorem set_pre {A C : Asset} {i : Nat} (hi : As[i]? = some A) : (As ++ X).set i C = As.set i C ++ X := List.set_append_left _ _ (List.getElem?_eq_some_iff.1 hi).1
theorem set_get {A C : Asset} {i : Nat} (hi : As[i]? = some A) : (As.set i C)[i]? = some C := List.getElem?_set_self (List.getElem?_eq_some_iff.1 hi).1
theorem St.drop_post (h : St B w0 w (As ++ X)) : St B w0 w As := by
  have := h.take As.length
  rwa [List.take_left] at this
end
theorem ownsSB {w : World} {base : Nat} {v : Value} {n : Nat} {l : List UInt8} (h : w.ownsRow base 5 1 v n (bv l)) (hn : 0 < n) : ∃ g c, v = .slice (some ⟨g, 0, none⟩) n c ∧ base ≤ g ∧ SB w (some ⟨g, 0, none⟩) c l := by
  rcases h.2 with ⟨h1, h0⟩ | ⟨g, c, cur, hv, hg, hh, hc, hm, hs, ht⟩
  · omega
  · refine ⟨g, c, hv, hg, .inr (.inr ⟨g, 0, rfl, fun j u hu => ?_⟩)⟩
    rw [Nat.zero_add, cell_of_row w g j cur _ _ hh]
    rw [← ht, List.getElem?_take] at hu
    split at hu
    · simpa using hu
    · cases hu
/-- things done one behind the other, up to the first that fails -/
def seqOf {S : Type} (fs : Nat → S → Int × S) : Nat → Nat → S → Int × S
  | _, 0, s => (0, s)
  | k, m + 1, s => let r := fs k s; if r.1 = 0 then seqOf fs (k + 1) m r.2 else r
theorem vall_seq {S : Type} (A : S → World → Prop) (Q : Nat → S → Prop) (fs : Nat → S → Int × S) (g n : Nat) (hn : n ≤ 1000) (ids : Nat → FuncId) (firsts caps : Nat → Array Value)
    (hcell : ∀ i s w, i < n → A s w → w.cell? ⟨g, i, none⟩ = some (.func (.func (ids i)) (firsts i) (caps i)))
    (hstep : ∀ i s w, i < n → Q i s → A s w → Calls Tryz.prog (ids i) (firsts i ++ caps i) w fun e w' => e = .returned (.int .i64 (fs i s).1) ∧ A (fs i s).2 w' ∧ ((fs i s).1 = 0 → Q (i + 1) (fs i s).2))
    (henter : ∀ i, i < n → ∀ (xs : Array Value) (w : World), (callFunc (ids i) xs).run Tryz.prog w = .ok (.enter (ids i) xs) w) (w : World) (s : S) (h0 : A s w) (hQ : Q 0 s) :
    Calls Tryz.prog 64 #[.slice (some ⟨g, 0, none⟩) n n] w fun e w' => e = .returned (.int .i64 (seqOf fs 0 n s).1) ∧ A (seqOf fs 0 n s).2 w' := by
  refine (vall_any g n hn ids firsts caps (fun k w => ∃ s', A s' w ∧ Q k s' ∧ seqOf fs 0 n s = seqOf fs k (n - k) s') (fun c w => ∃ s', A s' w ∧ seqOf fs 0 n s = (c, s')) ?_ ?_ henter w ⟨s, h0, hQ, rfl⟩).mono ?_
  · rintro i w hi ⟨s', ha, _, _⟩
    exact hcell i s' w hi ha
  · rintro i w hi ⟨s', ha, hq, hs⟩
    refine (hstep i s' w hi hq ha).mono ?_
    rintro e w' ⟨he, ha', hq'⟩
    have hm : n - i = (n - (i + 1)) + 1 := by omega
    rw [hm] at hs
    have hs2 : seqOf fs 0 n s = if (fs i s').1 = 0 then seqOf fs (i + 1) (n - (i + 1)) (fs i s').2 else fs i s' := hs
    refine ⟨_, he, fun hc => ⟨_, ha', hq' hc, ?_⟩, fun hc => ⟨_, ha', ?_⟩⟩
    · rw [hs2, if_pos hc]
    · rw [hs2, if_neg hc]
  · rintro e w' ⟨c, rfl, h1, h2⟩
    by_cases hc : c = 0
    · subst hc
      obtain ⟨s', ha, _, hs⟩ := h1 rfl
      rw [Nat.sub_self] at hs
      rw [hs]
      exact ⟨rfl, ha⟩
    · obtain ⟨s', ha, hs⟩ := h2 hc
      rw [hs]
      exact ⟨rfl, ha⟩
set_option maxRecDepth 100000 in
set_option maxHeartbeats 1000000 in
theorem vcounts1 {B : Nat} {w0 w : World} {As : List Asset} {a : Nat} {d : Dev} (h : St B w0 w As) (i : Nat) (hi : As[i]? = some (dev a d)) (jd jg jh bd bg bh gen : Nat) (hh : List UInt8) (hjd : As[jd]? = some (blkA bd 26 [ptr a])) (hjg : As[jg]? = some (blkA bg 3 [.int .i64 gen])) (hjh : As[jh]? = some (blkA bh 120 (bv hh))) (hid1 : i ≠ jd) (hig : i ≠ jg) (hl : hh.length = 32) (hg : gen ≤ 2147483648) (hlo : d.loose.length ≤ 1073741824) :
    Calls Tryz.prog 109 #[ptr bd, ptr bg, ptr bh] w fun e w' => e = .returned (.int .i64 (d.write ((gen % 2 : Nat) : Int) (hh ++ hh)).1) ∧ St B w0 w' (As.set i (dev a (d.write ((gen % 2 : Nat) : Int) (hh ++ hh)).2)) := by
  have cd := (h.blk jd hjd).cell (j := 0) rfl
  have cg := (h.blk jg hjg).cell (j := 0) rfl
  have CD := hid cd; have CG := hid cg
  have HH := hid (h.blk jh hjh)
  have H := hid h; have HI := hid hi; have HL := hid hl; have HJD := hid hjd; have HJG := hid hjg
  obtain ⟨r, hr⟩ : ∃ r, gen % 2 = r := ⟨_, rfl⟩
  have hr2 : r < 2 := by omega
  have HR : Hid ((gen : Int).tmod 2 = (r : Int)) := hid (by rw [Int.tmod_eq_emod_of_nonneg (by omega)]; omega)
  rw [hr]
  clear h hi hjd hjg hjh hl hr
  unfold ptr at cd cg ⊢
  go_enter Tryz.func109, Tryz.ntmps109
  go_upto_region 1 with fail
  refine wp_region_held_drew (S := fun w' => w'.cell? ⟨bd, 0, none⟩ = some (.pointer (some ⟨a, 0, none⟩)) ∧ w'.cell? ⟨bg, 0, none⟩ = some (.int .i64 gen)) (by kernel_rfl) ⟨cd, cg⟩ (fun hS => ?_)
  refine tkH (i := 0) (v := ?v0x1z) (y := Or.inl ⟨by rfl, ?y0x1z⟩) (s := hS) (h := ?r0x1z)
  case y0x1z => (intro w' hSw; (try dsimp only at hSw); go_simp; (try with_reducible rfl))
  simp only [Act.put, sA, sB, sC]
  refine tkH (i := 1) (v := ?v1x2z) (y := Or.inl ⟨by rfl, ?y1x2z⟩) (s := hS) (h := ?r1x2z)
  case y1x2z => (intro w' hSw; (try dsimp only at hSw); go_simp; (try with_reducible rfl))
  simp only [Act.put, sA, sB, sC]
  refine tkH (i := 2) (v := ?v2x3z) (y := Or.inl ⟨by rfl, ?y2x3z⟩) (s := hS) (h := ?r2x3z)
  case y2x3z => (intro w' hSw; (try dsimp only at hSw); go_simp; (try with_reducible rfl))
  simp only [Act.put, sA, sB, sC]
  refine tkH (i := 3) (v := ?v3x4z) (y := Or.inl ⟨by rfl, ?y3x4z⟩) (s := hS) (h := ?r3x4z)
  case y3x4z => (intro w' hSw; (try dsimp only at hSw); go_simp; (try with_reducible rfl))
  simp only [Act.put, sA, sB, sC]
  refine tkH (i := 4) (v := ?v4x5z) (y := Or.inl ⟨by rfl, ?y4x5z⟩) (s := hS) (h := ?r4x5z)
  case y4x5z => (intro w' hSw; (try dsimp only at hSw); go_simp; (try with_reducible rfl))
  simp only [Act.put, sA, sB, sC]
  refine rdH (i := 5) (h := fun K hK => ?_)
  refine wpo_layV rowL 2 _ rfl [.slice (some ⟨bh, 0, none⟩) 32 32, .slice (some ⟨bh, 0, none⟩) 32 32] rfl (by omega) (by omega) (by simp [Value.cells]) (by simp [Act.eval]) ?_
  intro w5 hb5 h5
  have hS5 := And.intro ((hb5.cell (World.block_lt_of_cell? _ _ hS.1)).trans hS.1) ((hb5.cell (World.block_lt_of_cell? _ _ hS.2)).trans hS.2)
  have HB5 : Hid (Below w.heap.size w w5) := hid ((Below.refl w.heap.size w).drew.trans hb5)
  have HH5 := hid (HH.out.drew.below hb5 HH.out.drew.lt)
  have HLR : Hid (LR w5 (some ⟨w.heap.size, 0, none⟩) [hh, hh]) := hid (.inr ⟨_, _, rfl, fun k l hk => by
    rcases k with _ | _ | k
    · cases hk; exact ⟨some ⟨bh, 0, none⟩, 32, by rw [HL.out]; exact h5.cell (j := 0) rfl, by rw [HL.out]; exact Nat.le_refl _, .inr (.inr ⟨_, _, rfl, HH5.out.range fun j v hv => by rw [Nat.zero_add]; exact hv⟩)⟩
    · cases hk; exact ⟨some ⟨bh, 0, none⟩, 32, by rw [HL.out]; exact h5.cell (j := 1) rfl, by rw [HL.out]; exact Nat.le_refl _, .inr (.inr ⟨_, _, rfl, HH5.out.range fun j v hv => by rw [Nat.zero_add]; exact hv⟩)⟩
    · cases hk⟩)
  clear hb5 h5
  refine hK.out _ _ ?k5x6z (fun hS => ?s5x6z)
  case k5x6z => exact hS5
  clear hK K
  try simp only [Act.put, sA, sB, sC]
  refine rdH (i := 6) (h := fun K hK => ?_)
  go_simp
  refine (vconcat_two w.heap.size hh HL.out w5 HLR.out).mono ?_
  rintro e w6 ⟨v6, rfl, ho6, hb6⟩
  obtain ⟨g6, c6, rfl, hg6, hs6⟩ := ownsSB ho6 (by omega)
  have hS6 := And.intro ((hb6.cell (World.block_lt_of_cell? _ _ hS5.1)).trans hS5.1) ((hb6.cell (World.block_lt_of_cell? _ _ hS5.2)).trans hS5.2)
  have HB6 := hid (th HB5.out hb6)
  have HG6 : Hid (w.heap.size ≤ g6) := hid (Nat.le_trans HB5.out.size hg6)
  have HS6 := hid hs6
  clear ho6 hb6 hs6 hg6
  refine hK.out _ _ ?k6x7z (fun hS => ?s6x7z)
  case k6x7z => exact hS6
  clear hK K
  try simp only [Act.put, sA, sB, sC]
  refine rdH (i := 7) (h := fun K hK => ?_)
  go_simp
  rw [HR.out]
  refine (H.out.dev_write2 HB6.out i HI.out r _ 64 _ (hh ++ hh) (by simp [HL.out]) HS6.out (fun x hx => by cases hx; exact .inr HG6.out) hlo).mono ?_
  rintro e w7 ⟨rfl, h7⟩
  have H7 := hid h7
  have hS7 := And.intro ((H7.out.blk jd (by rw [List.getElem?_set_ne hid1]; exact HJD.out)).cell (j := 0) rfl) ((H7.out.blk jg (by rw [List.getElem?_set_ne hig]; exact HJG.out)).cell (j := 0) rfl)
  clear h7
  refine hK.out _ _ ?k7x8z (fun hS => ?s7x8z)
  case k7x8z => exact hS7
  clear hK K
  try simp only [Act.put, sA, sB, sC]
  refine tkH (i := 8) (v := ?v8x9z) (y := Or.inl ⟨by rfl, ?y8x9z⟩) (s := hS) (h := ?r8x9z)
  case y8x9z => (intro w' hSw; (try dsimp only at hSw); go_simp; (try with_reducible rfl))
  simp only [Act.put, sA, sB, sC]
  refine wpAnyH_done (by kernel_rfl) ?_ _
  go_wp2
  go_ret
  exact ⟨rfl, H7.out⟩
end Go.Proofs.YtlondopgibcikaaGreat
namespace Go.Proofs.YtlondopgibcikaaGreat
open Go.RowKit Ent
theorem if_wanted {c p q : Prop} [Decidable c] (hc : c) (hp : p) : if c then p else q := by rw [if_pos hc]; exact hp
/-- a superblock's sector -/
def supSec (gen n : Nat) : List UInt8 := supHalf gen n ++ supHalf gen n
theorem supSec_len (gen n : Nat) : (supSec gen n).length = 64 := by simp [supSec, supHalf_len]
/-- one more thing, if the first went well -/
def andD (r : Int × Dev) (f : Dev → Int × Dev) : Int × Dev := if r.1 = 0 then f r.2 else r
theorem andD_last (r : Int × Dev) : (if r.1 = 0 then (0, r.2) else r) = r := by
  obtain ⟨c, d⟩ := r
  by_cases h : c = 0
  · simp [h]
  · simp [h]
/-- the superblock of a generation is written -/
def countsD (d : Dev) (gen : Nat) : Int × Dev := andD (d.write ((gen % 2 : Nat) : Int) (supSec gen d.img.length)) Dev.flush
section
variable {B : Nat} {w0 w w1 : World} {As X : List Asset} {a : Nat} {d : Dev}
theorem get_post' (i : Nat) {A C Y : Asset} (hi : As[i]? = some A) (k : Nat) (hk : X[k]? = some Y) : ((As ++ X).set i C)[As.length + k]? = some Y := by
  have := (List.getElem?_eq_some_iff.1 hi).1
  rw [List.getElem?_set_ne (by omega)]
  exact get_post k hk
theorem ne_post {i : Nat} {A : Asset} (hi : As[i]? = some A) (k : Nat) : i ≠ As.length + k := by
  have := (List.getElem?_eq_some_iff.1 hi).1
  omega
theorem St.addBlk' (h : St B w0 w (As ++ X)) (hb : Below w.heap.size w w1) {g : Nat} {T : TypeId} {vs : List Value} (hg : Blk w1 g T vs) (h0 : w.heap.size ≤ g) : St B w0 w1 (As ++ (X ++ [blkA g T vs])) := by
  rw [← List.append_assoc]; exact h.addBlk hb hg h0
theorem set_same {i : Nat} {A : Asset} (hi : As[i]? = some A) : As.set i A = As := by
  obtain ⟨h1, h2⟩ := List.getElem?_eq_some_iff.1 hi
  rw [← h2]; exact List.set_getElem_self h1
theorem set_twice {i : Nat} {A C : Asset} : (As.set i A).set i C = As.set i C := List.set_set ..
end
theorem enter_c1 (xs : Array Value) (w : World) : (callFunc 109 xs).run Tryz.prog w = .ok (.enter 109 xs) w := by kernel_rfl
theorem vcounts_all {B : Nat} {w0 w : World} {As : List Asset} {a : Nat} {d : Dev} (bd bg bh g gen n : Nat) (h : St B w0 w (As ++ [blkA bd 26 [ptr a], blkA bg 3 [.int .i64 gen], blkA bh 120 (bv (supHalf gen n)), blkA g 49 [.func (.func 109) #[] #[ptr bd, ptr bg, ptr bh], .func (.func 16) #[ptr a] #[]]])) (i : Nat) (hi : As[i]? = some (dev a d)) (hn : d.img.length = n) (hg : gen ≤ 2147483648) (hlo : d.loose.length ≤ 1073741824) :
    Calls Tryz.prog 64 #[.slice (some ⟨g, 0, none⟩) 2 2] w fun e w' => e = .returned (.int .i64 (countsD d gen).1) ∧ St B w0 w' (As.set i (dev a (countsD d gen).2)) := by
  refine (vall_seq (S := Dev) (fun s w => St B w0 w ((As ++ [blkA bd 26 [ptr a], blkA bg 3 [.int .i64 gen], blkA bh 120 (bv (supHalf gen n)), blkA g 49 [.func (.func 109) #[] #[ptr bd, ptr bg, ptr bh], .func (.func 16) #[ptr a] #[]]]).set i (dev a s))) (fun k s => k = 0 → s = d) (fun k s => if k = 0 then s.write ((gen % 2 : Nat) : Int) (supSec gen n) else s.flush) g 2 (by omega) (fun k => if k = 0 then 109 else 16) (fun k => if k = 0 then #[] else #[ptr a]) (fun k => if k = 0 then #[ptr bd, ptr bg, ptr bh] else #[]) ?_ ?_ ?_ w d ?_ (fun _ => rfl)).mono ?_
  · intro k s w' hk hs
    have := hs.blk (As.length + 3) (get_post' i hi 3 rfl)
    rcases (by omega : k = 0 ∨ k = 1) with rfl | rfl
    · exact this.cell (j := 0) rfl
    · exact this.cell (j := 1) rfl
  · intro k s w' hk hq hs
    have hi' := set_get (C := dev a s) (get_pre (X := [blkA bd 26 [ptr a], blkA bg 3 [.int .i64 gen], blkA bh 120 (bv (supHalf gen n)), blkA g 49 [.func (.func 109) #[] #[ptr bd, ptr bg, ptr bh], .func (.func 16) #[ptr a] #[]]]) hi)
    rcases (by omega : k = 0 ∨ k = 1) with rfl | rfl
    · obtain rfl := hq rfl
      refine (vcounts1 hs i hi' (As.length + 0) (As.length + 1) (As.length + 2) bd bg bh gen (supHalf gen n) (get_post' i hi 0 rfl) (get_post' i hi 1 rfl) (get_post' i hi 2 rfl) (ne_post hi 0) (ne_post hi 1) (supHalf_len _ _) hg hlo).mono ?_
      rintro e w2 ⟨rfl, h2⟩
      rw [set_twice] at h2
      exact ⟨rfl, h2, fun _ h0 => absurd h0 (by omega)⟩
    · refine (hs.dev_flush i hi').mono ?_
      rintro e w2 ⟨rfl, h2⟩
      rw [set_twice] at h2
      exact ⟨rfl, h2, fun _ h0 => absurd h0 (by omega)⟩
  · intro k hk xs w'
    rcases (by omega : k = 0 ∨ k = 1) with rfl | rfl
    · exact enter_c1 xs w'
    · exact enter_flush xs w'
  · have : ((As ++ [blkA bd 26 [ptr a], blkA bg 3 [.int .i64 gen], blkA bh 120 (bv (supHalf gen n)), blkA g 49 [.func (.func 109) #[] #[ptr bd, ptr bg, ptr bh], .func (.func 16) #[ptr a] #[]]]).set i (dev a d)) = _ := set_same (get_pre hi)
    rw [this]; exact h
  · rintro e w' ⟨rfl, h'⟩
    have e1 : seqOf (fun k s => if k = 0 then s.write ((gen % 2 : Nat) : Int) (supSec gen n) else Dev.flush s) 0 2 d = countsD d gen := by
      unfold countsD andD
      rw [hn]
      show (if (d.write ((gen % 2 : Nat) : Int) (supSec gen n)).1 = 0 then (if (Dev.flush (d.write ((gen % 2 : Nat) : Int) (supSec gen n)).2).1 = 0 then (0, (Dev.flush (d.write ((gen % 2 : Nat) : Int) (supSec gen n)).2).2) else Dev.flush (d.write ((gen % 2 : Nat) : Int) (supSec gen n)).2) else d.write ((gen % 2 : Nat) : Int) (supSec gen n)) = _
      rw [andD_last]
    rw [e1] at h' ⊢
    rw [set_pre hi] at h'
    exact ⟨rfl, h'.drop_post⟩
set_option maxRecDepth 100000 in
set_option maxHeartbeats 1000000 in
theorem vcounts_any {B : Nat} {w0 w : World} {As : List Asset} {a : Nat} {d : Dev} (h : St B w0 w As) (i : Nat) (hi : As[i]? = some (dev a d)) (gen : Nat) (hg : gen ≤ 2147483648) (hlo : d.loose.length ≤ 1073741824) :
    Calls Tryz.prog 88 #[ptr a, .int .i64 gen] w fun e w' => e = .returned (.int .i64 (countsD d gen).1) ∧ St B w0 w' (As.set i (dev a (countsD d gen).2)) := by
  have hok := (h.ok i hi).len
  have HI := hid hi
  obtain ⟨w1, hw1⟩ : ∃ w1, w.alloc (.cells #[ptr a] 26) = w1 := ⟨_, rfl⟩
  obtain ⟨bd, hbd⟩ : ∃ bd, w.heap.size = bd := ⟨_, rfl⟩
  have h1 : St B w0 w1 (As ++ [blkA bd 26 [ptr a]]) := by rw [← hw1, ← hbd]; exact h.box _ _
  obtain ⟨wb, hwb⟩ : ∃ wb, w1.alloc (.cells #[.int .i64 gen] 3) = wb := ⟨_, rfl⟩
  obtain ⟨bg, hbg⟩ : ∃ bg, w1.heap.size = bg := ⟨_, rfl⟩
  have h2 : St B w0 wb (As ++ [blkA bd 26 [ptr a], blkA bg 3 [.int .i64 gen]]) := by
    rw [← hwb, ← hbg]; exact h1.addBlk' (fresh_alloc w1 _) (alloc_new w1 _) (Nat.le_refl _)
  have H2 := hid h2
  have cd := (h2.blk (As.length + 0) (get_post 0 rfl)).cell (j := 0) rfl
  have cg := (h2.blk (As.length + 1) (get_post 1 rfl)).cell (j := 0) rfl
  obtain ⟨n, hn⟩ : ∃ n, d.img.length = n := ⟨_, rfl⟩
  have HN := hid hn
  rw [hn] at hok
  have HBG : Hid (bd + 1 = bg) := hid (by rw [← hbg, ← hw1, ← hbd]; exact (World.size_alloc _ _).symm)
  have HW1 := hid hw1; have HWB := hid hwb; have HBD := hid hbd
  clear h hi h1 h2 hn hw1 hwb hbd hbg
  unfold ptr at cd HW1 ⊢
  go_enter Tryz.func88, Tryz.ntmps88
  go_upto_region 1 with fail
  rw [HW1.out, HWB.out, HBD.out, HBG.out]
  have HB : Hid (Below wb.heap.size wb wb.drew) := hid (Below.refl _ _).drew
  refine wp_region_held_drew (S := fun w' => w'.cell? ⟨bd, 0, none⟩ = some (.pointer (some ⟨a, 0, none⟩)) ∧ w'.cell? ⟨bg, 0, none⟩ = some (.int .i64 gen)) (by kernel_rfl) ⟨cd, cg⟩ (fun hS => ?_)
  refine tkH (i := 0) (v := ?v0x1z) (y := Or.inl ⟨by rfl, ?y0x1z⟩) (s := hS) (h := ?r0x1z)
  case y0x1z => (intro w' hSw; (try dsimp only at hSw); go_simp; (try with_reducible rfl))
  simp only [Act.put, sA, sB, sC]
  refine tkH (i := 1) (v := ?v1x2z) (y := Or.inl ⟨by rfl, ?y1x2z⟩) (s := hS) (h := ?r1x2z)
  case y1x2z => (intro w' hSw; (try dsimp only at hSw); go_simp; (try with_reducible rfl))
  simp only [Act.put, sA, sB, sC]
  refine wpAnyH_ready (rs := [2, 4]) (by kernel_rfl) (by simp) ?_
  refine AllReadyH.cons (by simp only [List.getElem?_toArray, List.getElem?_cons_zero, List.getElem?_cons_succ]; exact rfl) (fun K hK => ?_) (AllReadyH.cons (by simp only [List.getElem?_toArray, List.getElem?_cons_zero, List.getElem?_cons_succ]; exact rfl) (fun K hK => ?_) AllReadyH.nil)
  · go_simp
    first | refine ((H2.out.below HB.out).dev_size i (get_pre HI.out)).mono ?_ | (have HB := hid HB.out.drew; have HZ := hid HZ.out.drew; refine ((H2.out.below HB.out).dev_size i (get_pre HI.out)).mono ?_)
    rintro e w' ⟨rfl, hw'⟩
    subst w'
    rw [HN.out]
    refine hK.out _ _ ?k2x3z (fun hS => ?s2x3z)
    case k2x3z => exact hS
    clear hK K
    try simp only [Act.put, sA, sB, sC]
    refine wpAnyH_ready (rs := [3, 4]) (by kernel_rfl) (by simp) ?_
    refine AllReadyH.cons (by simp only [List.getElem?_toArray, List.getElem?_cons_zero, List.getElem?_cons_succ]; exact rfl) (fun K hK => ?_) (AllReadyH.cons (by simp only [List.getElem?_toArray, List.getElem?_cons_zero, List.getElem?_cons_succ]; exact rfl) (fun K hK => ?_) AllReadyH.nil)
    · go_simp
      refine (vsuper_any gen n (by omega) (by omega) _).mono ?_
      rintro e w5 ⟨rfl, hb5⟩
      have hS5 := And.intro ((hb5.cell (World.block_lt_of_cell? _ _ hS.1)).trans hS.1) ((hb5.cell (World.block_lt_of_cell? _ _ hS.2)).trans hS.2)
      have HB : Hid (Below wb.heap.size wb w5) := by first | exact hid (th HB.out hb5) | exact hid (th HB.out.drew hb5)
      try have HZ : Hid (Blk w5 bh 120 (bv (zr 32))) := by first | exact hid (HZ.out.below hb5 HZ.out.lt) | exact hid (HZ.out.drew.below hb5 HZ.out.drew.lt)
      clear hb5
      refine hK.out _ _ ?k3x4z (fun hS => ?s3x4z)
      case k3x4z => exact hS5
      clear hK K
      try simp only [Act.put, sA, sB, sC]
      refine rdH (i := 4) (h := fun K hK => ?_)
      go_simp
      try (refine if_wanted (by first | rfl | kernel_rfl) ?_; go_simp)
      first | generalize hbE : w5.heap.size = bh | generalize hbE : wb.heap.size = bh
      generalize hw4 : World.alloc _ _ = w4
      have hbh : wb.heap.size ≤ bh := by rw [← hbE]; first | exact HB.out.size | exact Nat.le_refl _
      have hz : Blk w4 bh 120 (bv (zr 32)) := by rw [← hw4, ← hbE]; exact alloc_new _ _
      have hS4 : w4.cell? ⟨bd, 0, none⟩ = some (.pointer (some ⟨a, 0, none⟩)) ∧ w4.cell? ⟨bg, 0, none⟩ = some (.int .i64 gen) := by rw [← hw4]; exact ⟨alc hS.1 _, alc hS.2 _⟩
      have HB : Hid (Below wb.heap.size wb w4) := hid (by rw [← hw4]; first | exact HB.out.alloc HB.out.size _ | exact ((Below.refl _ _).alloc (Nat.le_refl _) _))
      have HZ := hid hz
      clear hz hw4 hbE
      refine hK.out _ _ ?k4x5z (fun hS => ?s4x5z)
      case k4x5z => exact hS4
      clear hK K
      try simp only [Act.put, sA, sB, sC]
      refine rdH (i := 5) (h := fun K hK => ?_)
      refine wp_store_row 120 (.tmp 5) (.tmp 9) rfl bh (bv (supHalf gen n)).toArray rfl rfl _ _ HZ.out (by rw [List.size_toArray, bv_length, supHalf_len]; exact half_info) (by rw [List.size_toArray, List.size_toArray, bv_length, bv_length, supHalf_len]; rfl) (by exact bv_cells _) ?_
      have HB5 := hid (below_setRow' HB.out hbh (bv (supHalf gen n)).toArray)
      have HZ5 := hid (setRow_heap _ _ _ (bv (supHalf gen n)).toArray _ _ HZ.out)
      have hS5 := And.intro ((HB5.out.cell (World.block_lt_of_cell? wb _ cd)).trans cd) ((HB5.out.cell (World.block_lt_of_cell? wb _ cg)).trans cg)
      refine hK.out _ _ ?k5x6z (fun hS => ?s5x6z)
      case k5x6z => exact hS5
      clear hK K
      try simp only [Act.put]
      refine wpAnyH_done (by kernel_rfl) ?_ _
      have H5 : Hid (St B w0 _ (As ++ [blkA bd 26 [ptr a], blkA bg 3 [.int .i64 gen], blkA bh 120 (bv (supHalf gen n))])) := hid (H2.out.addBlk' HB5.out HZ5.out hbh)
      generalize hws : World.setRow _ _ _ = ws at H5 hS5 ⊢
      clear hS HB5 HZ5 hws
      have cd5 := hS5.1
      go_wp2_with (refine wpl_layV rowF rfl 2 _ rfl [.func (.func 109) #[] #[ptr bd, ptr bg, ptr bh], .func (.func 16) #[ptr a] #[]] rfl (by omega) (by omega) (by simp [Value.cells]) (by simp [Act.eval, ptr]) ?_; intro w6 hb6 h6; have H6 := hid (H5.out.addBlk' hb6 h6 (Nat.le_refl _)); clear hb6 h6)
      obtain ⟨g6, hg6⟩ : ∃ g6, ws.heap.size = g6 := ⟨_, rfl⟩
      rw [hg6]
      rw [hg6] at H6
      clear hg6
      refine (vcounts_all bd bg bh g6 gen n H6.out i HI.out HN.out hg hlo).mono ?_
      rintro e w7 ⟨rfl, h7⟩
      have H7 := hid h7
      clear h7
      go_wp2
      go_ret
      exact ⟨rfl, H7.out⟩
    · go_simp
      try (refine if_wanted (by first | rfl | kernel_rfl) ?_; go_simp)
      first | generalize hbE : w5.heap.size = bh | generalize hbE : wb.heap.size = bh
      generalize hw4 : World.alloc _ _ = w4
      have hbh : wb.heap.size ≤ bh := by rw [← hbE]; first | exact HB.out.size | exact Nat.le_refl _
      have hz : Blk w4 bh 120 (bv (zr 32)) := by rw [← hw4, ← hbE]; exact alloc_new _ _
      have hS4 : w4.cell? ⟨bd, 0, none⟩ = some (.pointer (some ⟨a, 0, none⟩)) ∧ w4.cell? ⟨bg, 0, none⟩ = some (.int .i64 gen) := by rw [← hw4]; exact ⟨alc hS.1 _, alc hS.2 _⟩
      have HB : Hid (Below wb.heap.size wb w4) := hid (by rw [← hw4]; first | exact HB.out.alloc HB.out.size _ | exact ((Below.refl _ _).alloc (Nat.le_refl _) _))
      have HZ := hid hz
      clear hz hw4 hbE
      refine hK.out _ _ ?k4x7z (fun hS => ?s4x7z)
      case k4x7z => exact hS4
      clear hK K
      try simp only [Act.put, sA, sB, sC]
      refine rdH (i := 3) (h := fun K hK => ?_)
      go_simp
      refine (vsuper_any gen n (by omega) (by omega) _).mono ?_
      rintro e w5 ⟨rfl, hb5⟩
      have hS5 := And.intro ((hb5.cell (World.block_lt_of_cell? _ _ hS.1)).trans hS.1) ((hb5.cell (World.block_lt_of_cell? _ _ hS.2)).trans hS.2)
      have HB : Hid (Below wb.heap.size wb w5) := by first | exact hid (th HB.out hb5) | exact hid (th HB.out.drew hb5)
      try have HZ : Hid (Blk w5 bh 120 (bv (zr 32))) := by first | exact hid (HZ.out.below hb5 HZ.out.lt) | exact hid (HZ.out.drew.below hb5 HZ.out.drew.lt)
      clear hb5
      refine hK.out _ _ ?k3x8z (fun hS => ?s3x8z)
      case k3x8z => exact hS5
      clear hK K
      try simp only [Act.put, sA, sB, sC]
      refine rdH (i := 5) (h := fun K hK => ?_)
      refine wp_store_row 120 (.tmp 5) (.tmp 9) rfl bh (bv (supHalf gen n)).toArray rfl rfl _ _ HZ.out (by rw [List.size_toArray, bv_length, supHalf_len]; exact half_info) (by rw [List.size_toArray, List.size_toArray, bv_length, bv_length, supHalf_len]; rfl) (by exact bv_cells _) ?_
      have HB5 := hid (below_setRow' HB.out hbh (bv (supHalf gen n)).toArray)
      have HZ5 := hid (setRow_heap _ _ _ (bv (supHalf gen n)).toArray _ _ HZ.out)
      have hS5 := And.intro ((HB5.out.cell (World.block_lt_of_cell? wb _ cd)).trans cd) ((HB5.out.cell (World.block_lt_of_cell? wb _ cg)).trans cg)
      refine hK.out _ _ ?k5x9z (fun hS => ?s5x9z)
      case k5x9z => exact hS5
      clear hK K
      try simp only [Act.put]
      refine wpAnyH_done (by kernel_rfl) ?_ _
      have H5 : Hid (St B w0 _ (As ++ [blkA bd 26 [ptr a], blkA bg 3 [.int .i64 gen], blkA bh 120 (bv (supHalf gen n))])) := hid (H2.out.addBlk' HB5.out HZ5.out hbh)
      generalize hws : World.setRow _ _ _ = ws at H5 hS5 ⊢
      clear hS HB5 HZ5 hws
      have cd5 := hS5.1
      go_wp2_with (refine wpl_layV rowF rfl 2 _ rfl [.func (.func 109) #[] #[ptr bd, ptr bg, ptr bh], .func (.func 16) #[ptr a] #[]] rfl (by omega) (by omega) (by simp [Value.cells]) (by simp [Act.eval, ptr]) ?_; intro w6 hb6 h6; have H6 := hid (H5.out.addBlk' hb6 h6 (Nat.le_refl _)); clear hb6 h6)
      obtain ⟨g6, hg6⟩ : ∃ g6, ws.heap.size = g6 := ⟨_, rfl⟩
      rw [hg6]
      rw [hg6] at H6
      clear hg6
      refine (vcounts_all bd bg bh g6 gen n H6.out i HI.out HN.out hg hlo).mono ?_
      rintro e w7 ⟨rfl, h7⟩
      have H7 := hid h7
      clear h7
      go_wp2
      go_ret
      exact ⟨rfl, H7.out⟩
  · go_simp
    try (refine if_wanted (by first | rfl | kernel_rfl) ?_; go_simp)
    first | generalize hbE : w5.heap.size = bh | generalize hbE : wb.heap.size = bh
    generalize hw4 : World.alloc _ _ = w4
    have hbh : wb.heap.size ≤ bh := by rw [← hbE]; first | exact HB.out.size | exact Nat.le_refl _
    have hz : Blk w4 bh 120 (bv (zr 32)) := by rw [← hw4, ← hbE]; exact alloc_new _ _
    have hS4 : w4.cell? ⟨bd, 0, none⟩ = some (.pointer (some ⟨a, 0, none⟩)) ∧ w4.cell? ⟨bg, 0, none⟩ = some (.int .i64 gen) := by rw [← hw4]; exact ⟨alc hS.1 _, alc hS.2 _⟩
    have HB : Hid (Below wb.heap.size wb w4) := hid (by rw [← hw4]; first | exact HB.out.alloc HB.out.size _ | exact ((Below.refl _ _).alloc (Nat.le_refl _) _))
    have HZ := hid hz
    clear hz hw4 hbE
    refine hK.out _ _ ?k4x10z (fun hS => ?s4x10z)
    case k4x10z => exact hS4
    clear hK K
    try simp only [Act.put, sA, sB, sC]
    refine rdH (i := 2) (h := fun K hK => ?_)
    go_simp
    first | refine ((H2.out.below HB.out).dev_size i (get_pre HI.out)).mono ?_ | (have HB := hid HB.out.drew; have HZ := hid HZ.out.drew; refine ((H2.out.below HB.out).dev_size i (get_pre HI.out)).mono ?_)
    rintro e w' ⟨rfl, hw'⟩
    subst w'
    rw [HN.out]
    refine hK.out _ _ ?k2x11z (fun hS => ?s2x11z)
    case k2x11z => exact hS
    clear hK K
    try simp only [Act.put, sA, sB, sC]
    refine rdH (i := 3) (h := fun K hK => ?_)
    go_simp
    refine (vsuper_any gen n (by omega) (by omega) _).mono ?_
    rintro e w5 ⟨rfl, hb5⟩
    have hS5 := And.intro ((hb5.cell (World.block_lt_of_cell? _ _ hS.1)).trans hS.1) ((hb5.cell (World.block_lt_of_cell? _ _ hS.2)).trans hS.2)
    have HB : Hid (Below wb.heap.size wb w5) := by first | exact hid (th HB.out hb5) | exact hid (th HB.out.drew hb5)
    try have HZ : Hid (Blk w5 bh 120 (bv (zr 32))) := by first | exact hid (HZ.out.below hb5 HZ.out.lt) | exact hid (HZ.out.drew.below hb5 HZ.out.drew.lt)
    clear hb5
    refine hK.out _ _ ?k3x12z (fun hS => ?s3x12z)
    case k3x12z => exact hS5
    clear hK K
    try simp only [Act.put, sA, sB, sC]
    refine rdH (i := 5) (h := fun K hK => ?_)
    refine wp_store_row 120 (.tmp 5) (.tmp 9) rfl bh (bv (supHalf gen n)).toArray rfl rfl _ _ HZ.out (by rw [List.size_toArray, bv_length, supHalf_len]; exact half_info) (by rw [List.size_toArray, List.size_toArray, bv_length, bv_length, supHalf_len]; rfl) (by exact bv_cells _) ?_
    have HB5 := hid (below_setRow' HB.out hbh (bv (supHalf gen n)).toArray)
    have HZ5 := hid (setRow_heap _ _ _ (bv (supHalf gen n)).toArray _ _ HZ.out)
    have hS5 := And.intro ((HB5.out.cell (World.block_lt_of_cell? wb _ cd)).trans cd) ((HB5.out.cell (World.block_lt_of_cell? wb _ cg)).trans cg)
    refine hK.out _ _ ?k5x13z (fun hS => ?s5x13z)
    case k5x13z => exact hS5
    clear hK K
    try simp only [Act.put]
    refine wpAnyH_done (by kernel_rfl) ?_ _
    have H5 : Hid (St B w0 _ (As ++ [blkA bd 26 [ptr a], blkA bg 3 [.int .i64 gen], blkA bh 120 (bv (supHalf gen n))])) := hid (H2.out.addBlk' HB5.out HZ5.out hbh)
    generalize hws : World.setRow _ _ _ = ws at H5 hS5 ⊢
    clear hS HB5 HZ5 hws
    have cd5 := hS5.1
    go_wp2_with (refine wpl_layV rowF rfl 2 _ rfl [.func (.func 109) #[] #[ptr bd, ptr bg, ptr bh], .func (.func 16) #[ptr a] #[]] rfl (by omega) (by omega) (by simp [Value.cells]) (by simp [Act.eval, ptr]) ?_; intro w6 hb6 h6; have H6 := hid (H5.out.addBlk' hb6 h6 (Nat.le_refl _)); clear hb6 h6)
    obtain ⟨g6, hg6⟩ : ∃ g6, ws.heap.size = g6 := ⟨_, rfl⟩
    rw [hg6]
    rw [hg6] at H6
    clear hg6
    refine (vcounts_all bd bg bh g6 gen n H6.out i HI.out HN.out hg hlo).mono ?_
    rintro e w7 ⟨rfl, h7⟩
    have H7 := hid h7
    clear h7
    go_wp2
    go_ret
    exact ⟨rfl, H7.out⟩
end Go.Proofs.YtlondopgibcikaaGreat
