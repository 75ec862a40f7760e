/- The vault's moves. -/
import Derived.Test.YtlondopgibcikaaGreatRows
import Derived.Test.YtlondopgibcikaaGreatG01
import Derived.Test.YtlondopgibcikaaGreatG02
import Derived.Test.YtlondopgibcikaaGreatG06
import Derived.Test.YtlondopgibcikaaGreatG07
import Derived.Test.YtlondopgibcikaaGreatG08
import Derived.Test.YtlondopgibcikaaGreatG09
import Derived.Test.YtlondopgibcikaaGreatG10
import Derived.Test.YtlondopgibcikaaGreatG14
import Derived.Test.YtlondopgibcikaaGreatG15
import Derived.Test.YtlondopgibcikaaGreatG16
import Derived.Test.YtlondopgibcikaaGreatG17
import Derived.Test.YtlondopgibcikaaGreatG18
import Derived.Test.YtlondopgibcikaaGreatG21
import Derived.Test.YtlondopgibcikaaGreatG22
import Derived.Test.YtlondopgibcikaaGreatG23
import Derived.Test.YtlondopgibcikaaGreatG24
import Derived.Test.YtlondopgibcikaaGreatG25
import Derived.Test.YtlondopgibcikaaGreatG26
import Derived.WalkKit
import Derived.WalkSpells
import Derived.WalkLawsBesides
import Derived.Deep.RegionHeld3
import Derived.Deep.QuietTactic
import Derived.BigQuiet
namespace Go.Proofs.YtlondopgibcikaaGreat
open Go.RowKit Ent
/-- what moves does, one behind the other -/
def movesFs (f t gen : Nat) (L : List (List UInt8)) (k : Nat) (s : Dev × Int) : Int × (Dev × Int) :=
  if k = 0 then ((blankOf s.1 (f : Nat) (t : Nat) (gen : Nat)).1, ((blankOf s.1 (f : Nat) (t : Nat) (gen : Nat)).2, s.2))
  else if k = 1 then recsD (f : Nat) (t : Nat) (gen : Nat) L s.2 s.1
  else if k = 2 then (s.1.flush.1, (s.1.flush.2, s.2))
  else ((countsD s.1 gen).1, ((countsD s.1 gen).2, s.2))
def movesD (d : Dev) (gen : Nat) (L : List (List UInt8)) : Int × (Dev × Int) := seqOf (movesFs (fromOf d.img.length gen) (fromOf d.img.length gen + halfOf d.img.length) gen L) 0 4 (d, 0)
theorem movesFs_loose (f t gen : Nat) (L : List (List UInt8)) (k : Nat) (s : Dev × Int) : (movesFs f t gen L k s).2.1.loose.length ≤ s.1.loose.length + (L.length + 1) * s.1.img.length + 1 ∧ (movesFs f t gen L k s).2.1.img.length = s.1.img.length := by
  have hm : (L.length + 1) * s.1.img.length = L.length * s.1.img.length + s.1.img.length := Nat.succ_mul _ _
  unfold movesFs
  split
  · have := blank_loose s.1 (f : Nat) (t : Nat) (gen : Nat); exact ⟨by show _ ≤ _; simp only; omega, this.2⟩
  · split
    · have := recsD_loose (f : Nat) (t : Nat) (gen : Nat) L s.2 s.1; exact ⟨by omega, this.2⟩
    · split
      · have := flush_loose s.1; exact ⟨by simp only; omega, this.2⟩
      · have := counts_loose s.1 gen; exact ⟨by simp only; omega, this.2⟩
theorem seqOf_loose {S : Type} (fs : Nat → S → Int × S) (m : S → Nat) (g : S → Nat) (K : Nat) (h : ∀ k s, m (fs k s).2 ≤ m s + K ∧ g (fs k s).2 = g s) : ∀ (n k : Nat) (s : S), m (seqOf fs k n s).2 ≤ m s + n * K ∧ g (seqOf fs k n s).2 = g s
  | 0, k, s => ⟨by simp [seqOf], rfl⟩
  | n + 1, k, s => by
    have h1 := h k s
    have h2 := seqOf_loose fs m g K h n (k + 1) (fs k s).2
    have h3 : (n + 1) * K = n * K + K := Nat.succ_mul n K
    unfold seqOf
    simp only
    split
    · exact ⟨by omega, by rw [h2.2, h1.2]⟩
    · exact ⟨by omega, h1.2⟩
theorem enter_m1 (xs : Array Value) (w : World) : (callFunc 100 xs).run Tryz.prog w = .ok (.enter 100 xs) w := by kernel_rfl
theorem enter_m2 (xs : Array Value) (w : World) : (callFunc 101 xs).run Tryz.prog w = .ok (.enter 101 xs) w := by kernel_rfl
theorem enter_m3 (xs : Array Value) (w : World) : (callFunc 102 xs).run Tryz.prog w = .ok (.enter 102 xs) w := by kernel_rfl
def mvIds (k : Nat) : FuncId := if k = 0 then 101 else if k = 1 then 100 else if k = 2 then 16 else 102
theorem vmoves_all {B : Nat} {w0 w : World} {As : List Asset} {a : Nat} {d : Dev} (i : Nat) (hi : As[i]? = some (dev a d)) (j v gen : Nat) (next : Int) (br : Bool) (Lv : List (List UInt8)) (hj : As[j]? = some (vaultA v a gen next br Lv)) (hij : i ≠ j) (bv bl bg bt ba g : Nat) (lo : Option Addr) (len c gen' : Nat) (f t : Nat) (L : List (List UInt8)) (hlen : len = L.length) (hl1 : len ≤ 1000) (hL : LentI B w0 As i lo L) (hl2 : ∀ l ∈ L, l.length ≤ 1073741824) (hg : gen' ≤ 2147483648)
    (h : St B w0 w (As.set i (dev a d) ++ mvX bv bl bg bt ba v lo len c gen' 0 f t [blkA g 49 [.func (.func 101) #[] #[ptr bv, ptr ba], .func (.func 100) #[] #[ptr bl, ptr bv, ptr ba, ptr bt], .func (.func 16) #[ptr a] #[], .func (.func 102) #[] #[ptr bv, ptr bg]]])) (hlo : d.loose.length ≤ 100000000) :
    Calls Tryz.prog 64 #[.slice (some ⟨g, 0, none⟩) 4 4] w fun e w' => e = .returned (.int .i64 (seqOf (movesFs f t gen' L) 0 4 (d, 0)).1) ∧ St B w0 w' (As.set i (dev a (seqOf (movesFs f t gen' L) 0 4 (d, 0)).2.1) ++ mvX bv bl bg bt ba v lo len c gen' (seqOf (movesFs f t gen' L) 0 4 (d, 0)).2.2 f t [blkA g 49 [.func (.func 101) #[] #[ptr bv, ptr ba], .func (.func 100) #[] #[ptr bl, ptr bv, ptr ba, ptr bt], .func (.func 16) #[ptr a] #[], .func (.func 102) #[] #[ptr bv, ptr bg]]]) := by
  have hok := (h.ok i (set_mid hi)).len
  have hK : (L.length + 1) * d.img.length + 1 ≤ 65700000 := by
    have : (L.length + 1) * d.img.length ≤ 1001 * 65536 := Nat.mul_le_mul (by omega) hok
    omega
  refine vall_seq (S := Dev × Int) (fun s w => St B w0 w (As.set i (dev a s.1) ++ mvX bv bl bg bt ba v lo len c gen' s.2 f t [blkA g 49 [.func (.func 101) #[] #[ptr bv, ptr ba], .func (.func 100) #[] #[ptr bl, ptr bv, ptr ba, ptr bt], .func (.func 16) #[ptr a] #[], .func (.func 102) #[] #[ptr bv, ptr bg]]])) (fun k s => (k < 2 → s.2 = 0) ∧ s.1.loose.length ≤ d.loose.length + k * 65700000 ∧ s.1.img.length = d.img.length) (movesFs f t gen' L) g 4 (by omega) mvIds (fun k => if k = 2 then #[ptr a] else #[]) (fun k => if k = 0 then #[ptr bv, ptr ba] else if k = 1 then #[ptr bl, ptr bv, ptr ba, ptr bt] else if k = 2 then #[] else #[ptr bv, ptr bg]) ?_ ?_ ?_ w (d, 0) h ⟨fun _ => rfl, by simp only; omega, rfl⟩
  · intro k s w' hk hs
    have := hs.blk (As.length + 5) (set_post 5 rfl)
    rcases (by omega : k = 0 ∨ k = 1 ∨ k = 2 ∨ k = 3) with rfl | rfl | rfl | rfl
    · exact this.cell (j := 0) rfl
    · exact this.cell (j := 1) rfl
    · exact this.cell (j := 2) rfl
    · exact this.cell (j := 3) rfl
  · intro k s w' hk hq hs
    have hl := movesFs_loose f t gen' L k s
    rw [hq.2.2] at hl
    have hlo' : s.1.loose.length ≤ 500000000 := by have := hq.2.1; omega
    have hq2 : (movesFs f t gen' L k s).2.1.loose.length ≤ d.loose.length + (k + 1) * 65700000 ∧ (movesFs f t gen' L k s).2.1.img.length = d.img.length := ⟨by have := hq.2.1; omega, hl.2⟩
    obtain ⟨s1, s2⟩ := s
    rcases (by omega : k = 0 ∨ k = 1 ∨ k = 2 ∨ k = 3) with rfl | rfl | rfl | rfl
    · refine (vmoves2 i hi j v gen next br Lv hj hij bv bl bg bt ba lo len c gen' f t _ s2 s1 hs (by dsimp only at hlo'; omega)).mono ?_
      rintro e w2 ⟨rfl, h2⟩
      exact ⟨rfl, h2, fun _ => ⟨fun _ => hq.1 (by omega), hq2⟩⟩
    · obtain rfl := hq.1 (by omega)
      refine (vmoves1 i hi j v gen next br Lv hj hij bv bl bg bt ba lo len c gen' f t _ 0 (by omega) L hlen hl1 hL hl2 s1 hs hlo').mono ?_
      rintro e w2 ⟨rfl, h2⟩
      exact ⟨rfl, h2, fun _ => ⟨fun h => by omega, hq2⟩⟩
    · refine (hs.dev_flush i (set_mid hi)).mono ?_
      rintro e w2 ⟨rfl, h2⟩
      rw [set_twice' hi] at h2
      exact ⟨rfl, h2, fun _ => ⟨fun h => by omega, hq2⟩⟩
    · refine (vmoves3 i hi j v gen next br Lv hj hij bv bl bg bt ba lo len c gen' f t _ hg s2 s1 hs (by dsimp only at hlo'; omega)).mono ?_
      rintro e w2 ⟨rfl, h2⟩
      exact ⟨rfl, h2, fun _ => ⟨fun h => by omega, hq2⟩⟩
  · intro k hk xs w'
    rcases (by omega : k = 0 ∨ k = 1 ∨ k = 2 ∨ k = 3) with rfl | rfl | rfl | rfl
    · exact enter_m2 xs w'
    · exact enter_m1 xs w'
    · exact enter_flush xs w'
    · exact enter_m3 xs w'
/-- one asset or the other, as it went well or not -/
def asIf (c : Int) (A C : Asset) : Asset := if c = 0 then A else C
theorem asIf_zero (A C : Asset) : asIf 0 A C = A := if_pos rfl
theorem asIf_ne {c : Int} (h : ¬ c = 0) (A C : Asset) : asIf c A C = C := if_neg h
theorem St.apartV {B : Nat} {w0 w : World} {As : List Asset} (h : St B w0 w As) {j k v a gen : Nat} {next : Int} {br : Bool} {L : List (List UInt8)} {g : Nat} {T : TypeId} {vs : List Value} (hj : As[j]? = some (vaultA v a gen next br L)) (hk : As[k]? = some (blkA g T vs)) (hjk : j ≠ k) : g ≠ v := by
  obtain ⟨F, ⟨vl, G, hb, hv, _⟩, _, ho, _⟩ := h.open j hj
  obtain ⟨H, hH, _, hd⟩ := ho k _ hjk hk
  intro e
  rw [← e] at hv
  exact hd g hv hH.2
/-- a vault's cells are written anew, its records are new -/
theorem St.vaultTurn {B : Nat} {w0 w w5 w' : World} {As : List Asset} (h : St B w0 w As) (j : Nat) {v a gen : Nat} {next : Int} {br : Bool} {Lv : List (List UInt8)} (hj : As[j]? = some (vaultA v a gen next br Lv)) (hb : Below w.heap.size w w5) (hk : Keep (fun k => k = v) w5 w') {a' gen' : Nat} {next' : Int} {br' : Bool} {r : Value} {L : List (List UInt8)} (hv : Blk w' v 102 (vCells a' gen' next' r br')) {M : Nat} (hM : w.heap.size ≤ M) (hf : FreshL M w5 r L) : St B w0 w' (As.set j (vaultA v a' gen' next' br' L)) := by
  obtain ⟨F, ⟨vl, G, hbl, hvF, hl, hn, hG⟩, hF, _, hcl⟩ := h.open j hj
  have hvlt : v < w.heap.size := (hF v hvF).2
  have hsz := hk.size
  refine hcl w' _ (fun k => k = v ∨ (M ≤ k ∧ k < w5.heap.size)) ((Keep.ofBelow hb).trans (hk.mono fun k _ e => by rw [e]; exact hvF)) (good_vaultA _ _ _ _ _ _) ⟨r, fun k => M ≤ k ∧ k < w5.heap.size, hv, .inl rfl, (good_listA r L).keep hf.listA hk (fun k h1 h2 => by omega), fun h1 => by omega, fun k h1 => .inr h1⟩ (fun k hk' => ?_)
  rcases hk' with rfl | hk'
  · exact .inl hvF
  · exact .inr ⟨by omega, by omega⟩
set_option maxRecDepth 100000 in
set_option maxHeartbeats 2000000 in
theorem vmoves_any {B : Nat} {w0 w : World} {As : List Asset} {a : Nat} {d : Dev} (h : St B w0 w As) (i : Nat) (hi : As[i]? = some (dev a d)) (j v gen : Nat) (next : Int) (br : Bool) (Lv : List (List UInt8)) (hj : As[j]? = some (vaultA v a gen next br Lv)) (hij : i ≠ j) (lo : Option Addr) (len c : Nat) (L : List (List UInt8)) (hlen : len = L.length) (hl1 : len ≤ 1000) (hL : LentI B w0 As i lo L) (hl2 : ∀ l ∈ L, l.length ≤ 1073741824) (hg : gen < 2147483648) (hn2 : 2 ≤ d.img.length) (hlo : d.loose.length ≤ 100000000) :
    Calls Tryz.prog 68 #[ptr v, .slice lo len c] w fun e w' => e = .returned (.int .i64 (movesD d (gen + 1) L).1) ∧ St B w0 w' ((As.set i (dev a (movesD d (gen + 1) L).2.1)).set j (asIf (movesD d (gen + 1) L).1 (vaultA v a (gen + 1) (movesD d (gen + 1) L).2.2 br L) (vaultA v a gen next br Lv))) := by
  have hok := (h.ok i hi).len
  obtain ⟨gn, hgn⟩ : ∃ gn, gen + 1 = gn := ⟨_, rfl⟩
  obtain ⟨n, hnn⟩ : ∃ n, d.img.length = n := ⟨_, rfl⟩
  obtain ⟨fr, hfr⟩ : ∃ fr, fromOf n gn = fr := ⟨_, rfl⟩
  obtain ⟨hf, hhf⟩ : ∃ hf, halfOf n = hf := ⟨_, rfl⟩
  obtain ⟨tw, hto⟩ : ∃ tw, fr + hf = tw := ⟨_, rfl⟩
  have HN := hid hnn; have HFR := hid hfr; have HHF := hid hhf; have HTO := hid hto
  have HM : Hid (seqOf (movesFs fr tw gn L) 0 4 (d, 0) = movesD d (gen + 1) L) := hid (by unfold movesD; rw [hgn, hnn, hfr, hhf, hto])
  clear hnn hfr hhf hto
  have HGN := hid hgn
  have hg2 : gn ≤ 2147483648 := by omega
  obtain ⟨bv, hbv⟩ : ∃ bv, w.heap.size = bv := ⟨_, rfl⟩
  obtain ⟨w1, hw1⟩ : ∃ w1, w.alloc (.cells #[ptr v] 34) = w1 := ⟨_, rfl⟩
  have h1 : St B w0 w1 (As ++ [blkA bv 34 [ptr v]]) := by rw [← hw1, ← hbv]; exact h.box _ _
  obtain ⟨bl, hbl⟩ : ∃ bl, w1.heap.size = bl := ⟨_, rfl⟩
  obtain ⟨w2, hw2⟩ : ∃ w2, w1.alloc (.cells #[.slice lo len c] 39) = w2 := ⟨_, rfl⟩
  have h2 : St B w0 w2 (As ++ [blkA bv 34 [ptr v], blkA bl 39 [.slice lo len c]]) := by
    rw [← hw2, ← hbl]; exact h1.addBlk' (fresh_alloc w1 _) (alloc_new w1 _) (Nat.le_refl _)
  obtain ⟨bg, hbg⟩ : ∃ bg, w2.heap.size = bg := ⟨_, rfl⟩
  obtain ⟨w3, hw3⟩ : ∃ w3, w2.alloc (.cells #[.int .i64 (gn : Nat)] 3) = w3 := ⟨_, rfl⟩
  obtain ⟨bt, hbt⟩ : ∃ bt, w3.heap.size = bt := ⟨_, rfl⟩
  obtain ⟨wm, hw4⟩ : ∃ wm, w3.alloc (.cells #[.int .i64 0] 3) = wm := ⟨_, rfl⟩
  have h3 : St B w0 w3 (As ++ [blkA bv 34 [ptr v], blkA bl 39 [.slice lo len c], blkA bg 3 [.int .i64 (gn : Nat)]]) := by
    rw [← hw3, ← hbg]; exact h2.addBlk' (fresh_alloc w2 _) (alloc_new w2 _) (Nat.le_refl _)
  have h4 : St B w0 wm (As ++ [blkA bv 34 [ptr v], blkA bl 39 [.slice lo len c], blkA bg 3 [.int .i64 (gn : Nat)], blkA bt 3 [.int .i64 0]]) := by
    rw [← hw4, ← hbt]; exact h3.addBlk' (fresh_alloc w3 _) (alloc_new w3 _) (Nat.le_refl _)
  have H1 := hid h1; have H2 := hid h2; have H4 := hid h4
  have HI := hid hi; have HJ := hid hj
  have HW1 := hid hw1; have HW2 := hid hw2; have HW3 := hid hw3; have HW4 := hid hw4
  have HBV := hid hbv; have HBG := hid hbg
  have HBL : Hid (bv + 1 = bl) := hid (by rw [← hbl, ← hw1, ← hbv]; exact (World.size_alloc _ _).symm)
  have HBT : Hid (bg + 1 = bt) := hid (by rw [← hbt, ← hw3, ← hbg]; exact (World.size_alloc _ _).symm)
  obtain ⟨vl, hvb⟩ := h2.vault j (get_pre hj)
  have c1 := hvb.cell (j := 1) rfl
  have cb := (h2.blk (As.length + 0) (get_post 0 rfl)).cell (j := 0) rfl
  have qg : IntKind.i64.wrap ((gen : Int) + 1) = (gn : Int) := by rw [IntWalk.i64_in _ (by omega)]; omega
  have HLEN := hid hlen
  have H0 := hid h
  clear h h1 h2 h3 h4 hi hj hw1 hw2 hw3 hw4 hbv hbl hbg hbt hvb hlen hgn
  unfold ptr at cb HW1 ⊢
  go_enter Tryz.func68, Tryz.ntmps68
  go_upto_region 1 with fail
  rw [HW1.out, HBV.out, HW2.out, HBL.out]
  go_upto_region 2 with fail
  rw [HBG.out, HBT.out, HW3.out, HW4.out]
  obtain ⟨vl, hvb⟩ := H4.out.vault j (get_pre HJ.out)
  have c0 := hvb.cell (j := 0) rfl
  have cb := (H4.out.blk (As.length + 0) (get_post 0 rfl)).cell (j := 0) rfl
  have cg := (H4.out.blk (As.length + 2) (get_post 2 rfl)).cell (j := 0) rfl
  unfold ptr at c0 cb
  have HI2 : Hid ((As ++ [blkA bv 34 [ptr v], blkA bl 39 [.slice lo len c], blkA bg 3 [.int .i64 (gn : Nat)], blkA bt 3 [.int .i64 0]])[i]? = some (dev a d)) := hid (get_pre HI.out)
  clear hvb
  have HB : Hid (Below wm.heap.size wm wm.drew) := hid (Below.refl _ _).drew
  have hS00 : wm.cell? ⟨bv, 0, none⟩ = some (.pointer (some ⟨v, 0, none⟩)) ∧ wm.cell? ⟨v, 0, none⟩ = some (.pointer (some ⟨a, 0, none⟩)) ∧ wm.cell? ⟨bg, 0, none⟩ = some (.int .i64 (gn : Nat)) := ⟨cb, c0, cg⟩
  refine wp_region_held_drew (S := fun w' => w'.cell? ⟨bv, 0, none⟩ = some (.pointer (some ⟨v, 0, none⟩)) ∧ w'.cell? ⟨v, 0, none⟩ = some (.pointer (some ⟨a, 0, none⟩)) ∧ w'.cell? ⟨bg, 0, none⟩ = some (.int .i64 (gn : Nat))) (by kernel_rfl) hS00 (fun hS => ?_)
  refine tkH (i := 0) (v := ?v0x1z) (y := Or.inl ⟨by rfl, ?y0x1z⟩) (s := hS) (h := ?r0x1z)
  case y0x1z => (intro w' hSw; (try dsimp only at hSw); go_simp; (try with_reducible rfl))
  simp only [Act.put, sA, sB, sC]
  refine tkH (i := 1) (v := ?v1x2z) (y := Or.inl ⟨by rfl, ?y1x2z⟩) (s := hS) (h := ?r1x2z)
  case y1x2z => (intro w' hSw; (try dsimp only at hSw); go_simp; (try with_reducible rfl))
  simp only [Act.put, sA, sB, sC]
  refine tkH (i := 2) (v := ?v2x3z) (y := Or.inl ⟨by rfl, ?y2x3z⟩) (s := hS) (h := ?r2x3z)
  case y2x3z => (intro w' hSw; (try dsimp only at hSw); go_simp; (try with_reducible rfl))
  simp only [Act.put, sA, sB, sC]
  refine tkH (i := 3) (v := ?v3x4z) (y := Or.inl ⟨by rfl, ?y3x4z⟩) (s := hS) (h := ?r3x4z)
  case y3x4z => (intro w' hSw; (try dsimp only at hSw); go_simp; (try with_reducible rfl))
  simp only [Act.put, sA, sB, sC]
  refine tkH (i := 4) (v := ?v4x5z) (y := Or.inl ⟨by rfl, ?y4x5z⟩) (s := hS) (h := ?r4x5z)
  case y4x5z => (intro w' hSw; (try dsimp only at hSw); go_simp; (try with_reducible rfl))
  simp only [Act.put, sA, sB, sC]
  refine wpAnyH_ready (rs := [5, 6]) (by kernel_rfl) (by simp) ?_
  refine AllReadyH.cons (by simp only [List.getElem?_toArray, List.getElem?_cons_zero, List.getElem?_cons_succ]; exact rfl) (fun K hK => ?_) (AllReadyH.cons (by simp only [List.getElem?_toArray, List.getElem?_cons_zero, List.getElem?_cons_succ]; exact rfl) (fun K hK => ?_) AllReadyH.nil)
  · go_simp
    first | refine (H4.out.v_area HB.out i HI2.out gn hg2 hn2).mono ?_ | (have HB := hid HB.out.drew; have HZ := hid HZ.out.drew; refine (H4.out.v_area HB.out i HI2.out gn hg2 hn2).mono ?_)
    rintro e w5 ⟨rfl, hb5⟩
    rw [HN.out, HFR.out, HHF.out, HTO.out]
    have hS5 : w5.cell? ⟨bv, 0, none⟩ = some (.pointer (some ⟨v, 0, none⟩)) ∧ w5.cell? ⟨v, 0, none⟩ = some (.pointer (some ⟨a, 0, none⟩)) ∧ w5.cell? ⟨bg, 0, none⟩ = some (.int .i64 (gn : Nat)) := ⟨(hb5.cell (World.block_lt_of_cell? _ _ hS.1)).trans hS.1, (hb5.cell (World.block_lt_of_cell? _ _ hS.2.1)).trans hS.2.1, (hb5.cell (World.block_lt_of_cell? _ _ hS.2.2)).trans hS.2.2⟩
    have HB := hid (th HB.out hb5)
    try have HZ := hid (HZ.out.below hb5 HZ.out.lt)
    clear hb5
    refine hK.out _ _ ?k5x6z (fun hS => ?s5x6z)
    case k5x6z => exact hS5
    clear hK K
    try simp only [Act.put, sA, sB, sC]
    refine rdH (i := 6) (h := fun K hK => ?_)
    go_simp
    try (refine if_wanted (by first | rfl | kernel_rfl) ?_; go_simp)
    first | generalize hbE : w5.heap.size = bh | generalize hbE : wm.heap.size = bh
    generalize hw4 : World.alloc _ _ = w4
    have hbh : wm.heap.size ≤ bh := by rw [← hbE]; first | exact HB.out.size | exact Nat.le_refl _
    have hz : Blk w4 bh 99 [.int .i64 0, .int .i64 0, .int .i64 0] := by rw [← hw4, ← hbE]; exact alloc_new _ _
    have hS4 : w4.cell? ⟨bv, 0, none⟩ = some (.pointer (some ⟨v, 0, none⟩)) ∧ w4.cell? ⟨v, 0, none⟩ = some (.pointer (some ⟨a, 0, none⟩)) ∧ w4.cell? ⟨bg, 0, none⟩ = some (.int .i64 (gn : Nat)) := by rw [← hw4]; exact ⟨alc hS.1 _, alc hS.2.1 _, alc hS.2.2 _⟩
    have HB : Hid (Below wm.heap.size wm w4) := hid (by rw [← hw4]; first | exact HB.out.alloc HB.out.size _ | exact ((Below.refl _ _).alloc (Nat.le_refl _) _))
    have HZ := hid hz
    clear hz hw4 hbE
    refine hK.out _ _ ?k6x7z (fun hS => ?s6x7z)
    case k6x7z => exact hS4
    clear hK K
    try simp only [Act.put, sA, sB, sC]
    refine rdH (i := 7) (h := fun K hK => ?_)
    refine wp_store_row 99 (.tmp 7) (.tmp 20) rfl bh [.int .i64 (fr : Nat), .int .i64 (tw : Nat), .int .i64 (gn : Nat)].toArray rfl rfl _ _ HZ.out (by kernel_rfl) rfl (by simp [Value.oneCell']) ?_
    have HB5 := hid (below_setRow' HB.out hbh [.int .i64 (fr : Nat), .int .i64 (tw : Nat), .int .i64 (gn : Nat)].toArray)
    have HZ5 := hid (setRow_heap _ _ _ [.int .i64 (fr : Nat), .int .i64 (tw : Nat), .int .i64 (gn : Nat)].toArray _ _ HZ.out)
    have hS5 := And.intro ((HB5.out.cell (World.block_lt_of_cell? _ _ hS00.1)).trans hS00.1) (And.intro ((HB5.out.cell (World.block_lt_of_cell? _ _ hS00.2.1)).trans hS00.2.1) ((HB5.out.cell (World.block_lt_of_cell? _ _ hS00.2.2)).trans hS00.2.2))
    refine hK.out _ _ ?k7x8z (fun hS => ?s7x8z)
    case k7x8z => exact hS5
    clear hK K
    try simp only [Act.put]
    refine wpAnyH_done (by kernel_rfl) ?_ _
    generalize hws : World.setRow _ _ _ = ws at HB5 HZ5 hS5 ⊢
    clear hS hws
    have HZ5 : Hid (Blk ws bh 99 [.int .i64 (fr : Nat), .int .i64 (tw : Nat), .int .i64 (gn : Nat)]) := HZ5
    have H5 := hid (H4.out.addBlk' HB5.out HZ5.out hbh)
    obtain ⟨vl, hvb⟩ := H5.out.vault j (get_pre HJ.out)
    have c0' := hvb.cell (j := 0) rfl
    have cb' := (H5.out.blk (As.length + 0) (get_post 0 rfl)).cell (j := 0) rfl
    unfold ptr at c0' cb'
    clear hvb
    go_wp2_with (refine wpl_layV rowF rfl 4 _ rfl [.func (.func 101) #[] #[ptr bv, ptr bh], .func (.func 100) #[] #[ptr bl, ptr bv, ptr bh, ptr bt], .func (.func 16) #[ptr a] #[], .func (.func 102) #[] #[ptr bv, ptr bg]] rfl (by omega) (by omega) (by simp [Value.cells]) (by simp [Act.eval, ptr]) ?_; intro w6 hb6 h6; have H6 := hid (H5.out.addBlk' hb6 h6 (Nat.le_refl _)); clear hb6 h6)
    obtain ⟨g6, hg6⟩ : ∃ g6, ws.heap.size = g6 := ⟨_, rfl⟩
    rw [hg6]
    rw [hg6] at H6
    clear hg6
    have H6 : Hid (St B w0 w6 (As.set i (dev a d) ++ mvX bv bl bg bt bh v lo len c gn 0 fr tw [blkA g6 49 [.func (.func 101) #[] #[ptr bv, ptr bh], .func (.func 100) #[] #[ptr bl, ptr bv, ptr bh, ptr bt], .func (.func 16) #[ptr a] #[], .func (.func 102) #[] #[ptr bv, ptr bg]]])) := hid (by rw [set_same HI.out]; exact H6.out)
    refine (vmoves_all i HI.out j v gen next br Lv HJ.out hij bv bl bg bt bh g6 lo len c gn fr tw L HLEN.out hl1 hL hl2 hg2 H6.out hlo).mono ?_
    rintro e w7 ⟨rfl, h7⟩
    rw [HM.out] at h7 ⊢
    clear H6 HB5 HZ5 hS5 c0' cb'
    generalize hx : movesD d (gen + 1) L = x at h7 ⊢
    obtain ⟨ec, dx, px⟩ := x
    have HX := hid hx
    have H7 := hid h7
    dsimp only at H7 ⊢
    clear h7 hx HM
    by_cases hec : ec = 0
    · subst hec
      have HCP : Hid (∀ w1, Below w7.heap.size w7 w1 → Calls Tryz.prog 92 #[.slice lo len c] w1 fun e w' => ∃ v, e = .returned v ∧ FreshL w1.heap.size w' v L ∧ Below w1.heap.size w1 w') := hid (fun w1 hb => by
        obtain ⟨F, hF⟩ := ((hL.set (dev a dx)).app).lrf (H7.out.below hb)
        exact vcopied_any lo len c L HLEN.out (by omega) hl2 w1 hF.lr)
      have cb7 := (H7.out.blk (As.length + 0) (set_post 0 rfl)).cell (j := 0) rfl
      have cl7 := (H7.out.blk (As.length + 1) (set_post 1 rfl)).cell (j := 0) rfl
      have cg7 := (H7.out.blk (As.length + 2) (set_post 2 rfl)).cell (j := 0) rfl
      have ct7 := (H7.out.blk (As.length + 3) (set_post 3 rfl)).cell (j := 0) rfl
      have N1 := hid (H7.out.apartV (set_beside HJ.out hij) (set_post 0 rfl) (ne_post HJ.out 0))
      have N2 := hid (H7.out.apartV (set_beside HJ.out hij) (set_post 1 rfl) (ne_post HJ.out 1))
      have N3 := hid (H7.out.apartV (set_beside HJ.out hij) (set_post 2 rfl) (ne_post HJ.out 2))
      have N4 := hid (H7.out.apartV (set_beside HJ.out hij) (set_post 3 rfl) (ne_post HJ.out 3))
      unfold ptr at cb7
      go_upto_region 6 with fail
      refine wp_region_held_drew (S := fun w' => w'.cell? ⟨bv, 0, none⟩ = some (.pointer (some ⟨v, 0, none⟩)) ∧ w'.cell? ⟨bl, 0, none⟩ = some (.slice lo len c) ∧ w'.cell? ⟨bg, 0, none⟩ = some (.int .i64 (gn : Nat)) ∧ w'.cell? ⟨bt, 0, none⟩ = some (.int .i64 px)) (by kernel_rfl) ⟨cb7, cl7, cg7, ct7⟩ (fun hS => ?_)
      refine tkH (i := 0) (v := ?v0x1qe1) (y := Or.inl ⟨by rfl, ?y0x1qe1⟩) (s := hS) (h := ?r0x1qe1)
      case y0x1qe1 => (intro w' hSw; (try dsimp only at hSw); go_simp; (try with_reducible rfl))
      simp only [Act.put, sA, sB, sC]
      refine tkH (i := 1) (v := ?v1x2qe1) (y := Or.inl ⟨by rfl, ?y1x2qe1⟩) (s := hS) (h := ?r1x2qe1)
      case y1x2qe1 => (intro w' hSw; (try dsimp only at hSw); go_simp; (try with_reducible rfl))
      simp only [Act.put, sA, sB, sC]
      refine tkH (i := 2) (v := ?v2x3qe1) (y := Or.inl ⟨by rfl, ?y2x3qe1⟩) (s := hS) (h := ?r2x3qe1)
      case y2x3qe1 => (intro w' hSw; (try dsimp only at hSw); go_simp; (try with_reducible rfl))
      simp only [Act.put, sA, sB, sC]
      refine tkH (i := 3) (v := ?v3x4qe1) (y := Or.inl ⟨by rfl, ?y3x4qe1⟩) (s := hS) (h := ?r3x4qe1)
      case y3x4qe1 => (intro w' hSw; (try dsimp only at hSw); go_simp; (try with_reducible rfl))
      simp only [Act.put, sA, sB, sC]
      refine tkH (i := 4) (v := ?v4x5qe1) (y := Or.inl ⟨by rfl, ?y4x5qe1⟩) (s := hS) (h := ?r4x5qe1)
      case y4x5qe1 => (intro w' hSw; (try dsimp only at hSw); go_simp; (try with_reducible rfl))
      simp only [Act.put, sA, sB, sC]
      refine tkH (i := 5) (v := ?v5x6qe1) (y := Or.inl ⟨by rfl, ?y5x6qe1⟩) (s := hS) (h := ?r5x6qe1)
      case y5x6qe1 => (intro w' hSw; (try dsimp only at hSw); go_simp; (try with_reducible rfl))
      simp only [Act.put, sA, sB, sC]
      refine rdH (i := 6) (h := fun K hK => ?_)
      go_simp
      refine (HCP.out _ (Below.refl _ _).drew).mono ?_
      rintro e w5 ⟨r, rfl, hf, hb5⟩
      obtain ⟨ro, rc, hr, _⟩ := listA_lst hf.listA
      rw [← HLEN.out] at hr
      subst hr
      have hb5 := (Below.refl w7.heap.size w7).drew.trans hb5
      have hS5 := And.intro ((hb5.cell (World.block_lt_of_cell? _ _ hS.1)).trans hS.1) (And.intro ((hb5.cell (World.block_lt_of_cell? _ _ hS.2.1)).trans hS.2.1) (And.intro ((hb5.cell (World.block_lt_of_cell? _ _ hS.2.2.1)).trans hS.2.2.1) ((hb5.cell (World.block_lt_of_cell? _ _ hS.2.2.2)).trans hS.2.2.2)))
      obtain ⟨vl5, hv5⟩ := (H7.out.below hb5).vault j (set_beside HJ.out hij)
      have HB5 := hid hb5; have HF5 := hid hf; have HV5 := hid hv5
      have s1 := hv5.cell (j := 1) rfl
      have f1 := hv5.free 1
      clear hb5 hf hv5
      refine hK.out _ _ ?k6x7qe1 (fun hS => ?s6x7qe1)
      case k6x7qe1 => exact hS5
      clear hK K
      try simp only [Act.put, sA, sB, sC]
      refine tkH (i := 7) (v := ?v7x8qe1) (y := Or.inl ⟨by rfl, ?y7x8qe1⟩) (s := hS) (h := ?r7x8qe1)
      case y7x8qe1 => (intro w' hSw; (try dsimp only at hSw); go_simp; (try with_reducible rfl))
      simp only [Act.put, sA, sB, sC]
      refine tkH (i := 8) (v := ?v8x9qe1) (y := Or.inl ⟨by rfl, ?y8x9qe1⟩) (s := hS) (h := ?r8x9qe1)
      case y8x9qe1 => (intro w' hSw; (try dsimp only at hSw); go_simp; (try with_reducible rfl))
      simp only [Act.put, sA, sB, sC]
      refine rdH (i := 9) (h := fun K hK => ?_)
      go_simp
      generalize hw8 : World.setCell _ _ _ = w8
      have hS8 : w8.cell? ⟨bv, 0, none⟩ = some (.pointer (some ⟨v, 0, none⟩)) ∧ w8.cell? ⟨bl, 0, none⟩ = some (.slice lo len c) ∧ w8.cell? ⟨bg, 0, none⟩ = some (.int .i64 (gn : Nat)) ∧ w8.cell? ⟨bt, 0, none⟩ = some (.int .i64 px) := by rw [← hw8]; exact And.intro ((World.cell?_setCell_other w5 _ _ _ (fun e => by injection e with e; exact N1.out e.symm)).trans hS.1) (And.intro ((World.cell?_setCell_other w5 _ _ _ (fun e => by injection e with e; exact N2.out e.symm)).trans hS.2.1) (And.intro ((World.cell?_setCell_other w5 _ _ _ (fun e => by injection e with e; exact N3.out e.symm)).trans hS.2.2.1) ((World.cell?_setCell_other w5 _ _ _ (fun e => by injection e with e; exact N4.out e.symm)).trans hS.2.2.2)))
      have HV8 : Hid (Blk w8 v 102 (vCells a gn next vl5 br)) := hid (by rw [← hw8]; exact HV5.out.set 1 _)
      have HK8 : Hid (Keep (fun k => k = v) w5 w8) := hid (by rw [← hw8]; exact (Keep.refl (fun k => k = v) w5).setCell (p := ⟨v, 1, none⟩) rfl _)
      have s2 := HV8.out.cell (j := 2) rfl
      have f2 := HV8.out.free 2
      clear hw8 s1 f1 HV5
      refine hK.out _ _ ?k9x10qe1 (fun hS => ?s9x10qe1)
      case k9x10qe1 => exact hS8
      clear hK K
      try simp only [Act.put]
      refine tkH (i := 10) (v := ?v10x11qe1) (y := Or.inl ⟨by rfl, ?y10x11qe1⟩) (s := hS) (h := ?r10x11qe1)
      case y10x11qe1 => (intro w' hSw; (try dsimp only at hSw); go_simp; (try with_reducible rfl))
      simp only [Act.put, sA, sB, sC]
      refine tkH (i := 11) (v := ?v11x12qe1) (y := Or.inl ⟨by rfl, ?y11x12qe1⟩) (s := hS) (h := ?r11x12qe1)
      case y11x12qe1 => (intro w' hSw; (try dsimp only at hSw); go_simp; (try with_reducible rfl))
      simp only [Act.put, sA, sB, sC]
      refine rdH (i := 12) (h := fun K hK => ?_)
      go_simp
      generalize hw9 : World.setCell _ _ _ = w9
      have hS9 : w9.cell? ⟨bv, 0, none⟩ = some (.pointer (some ⟨v, 0, none⟩)) ∧ w9.cell? ⟨bl, 0, none⟩ = some (.slice lo len c) ∧ w9.cell? ⟨bg, 0, none⟩ = some (.int .i64 (gn : Nat)) ∧ w9.cell? ⟨bt, 0, none⟩ = some (.int .i64 px) := by rw [← hw9]; exact And.intro ((World.cell?_setCell_other w8 _ _ _ (fun e => by injection e with e; exact N1.out e.symm)).trans hS.1) (And.intro ((World.cell?_setCell_other w8 _ _ _ (fun e => by injection e with e; exact N2.out e.symm)).trans hS.2.1) (And.intro ((World.cell?_setCell_other w8 _ _ _ (fun e => by injection e with e; exact N3.out e.symm)).trans hS.2.2.1) ((World.cell?_setCell_other w8 _ _ _ (fun e => by injection e with e; exact N4.out e.symm)).trans hS.2.2.2)))
      have HV9 : Hid (Blk w9 v 102 (vCells a gn px vl5 br)) := hid (by rw [← hw9]; exact HV8.out.set 2 _)
      have HK9 : Hid (Keep (fun k => k = v) w5 w9) := hid (by rw [← hw9]; exact HK8.out.setCell (p := ⟨v, 2, none⟩) rfl _)
      have s3 := HV9.out.cell (j := 3) rfl
      have f3 := HV9.out.free 3
      clear hw9 s2 f2 HV8 HK8
      refine hK.out _ _ ?k12x13qe1 (fun hS => ?s12x13qe1)
      case k12x13qe1 => exact hS9
      clear hK K
      try simp only [Act.put]
      refine tkH (i := 13) (v := ?v13x14qe1) (y := Or.inl ⟨by rfl, ?y13x14qe1⟩) (s := hS) (h := ?r13x14qe1)
      case y13x14qe1 => (intro w' hSw; (try dsimp only at hSw); go_simp; (try with_reducible rfl))
      simp only [Act.put, sA, sB, sC]
      refine tkH (i := 14) (v := ?v14x15qe1) (y := Or.inl ⟨by rfl, ?y14x15qe1⟩) (s := hS) (h := ?r14x15qe1)
      case y14x15qe1 => (intro w' hSw; (try dsimp only at hSw); go_simp; (try with_reducible rfl))
      simp only [Act.put, sA, sB, sC]
      refine rdH (i := 15) (h := fun K hK => ?_)
      go_simp
      generalize hw10 : World.setCell _ _ _ = w10
      have hS10 : w10.cell? ⟨bv, 0, none⟩ = some (.pointer (some ⟨v, 0, none⟩)) ∧ w10.cell? ⟨bl, 0, none⟩ = some (.slice lo len c) ∧ w10.cell? ⟨bg, 0, none⟩ = some (.int .i64 (gn : Nat)) ∧ w10.cell? ⟨bt, 0, none⟩ = some (.int .i64 px) := by rw [← hw10]; exact And.intro ((World.cell?_setCell_other w9 _ _ _ (fun e => by injection e with e; exact N1.out e.symm)).trans hS.1) (And.intro ((World.cell?_setCell_other w9 _ _ _ (fun e => by injection e with e; exact N2.out e.symm)).trans hS.2.1) (And.intro ((World.cell?_setCell_other w9 _ _ _ (fun e => by injection e with e; exact N3.out e.symm)).trans hS.2.2.1) ((World.cell?_setCell_other w9 _ _ _ (fun e => by injection e with e; exact N4.out e.symm)).trans hS.2.2.2)))
      have HV10 : Hid (Blk w10 v 102 (vCells a gn px (.slice ro len rc) br)) := hid (by rw [← hw10]; exact HV9.out.set 3 _)
      have HK10 : Hid (Keep (fun k => k = v) w5 w10) := hid (by rw [← hw10]; exact HK9.out.setCell (p := ⟨v, 3, none⟩) rfl _)
      clear hw10 s3 f3 HV9 HK9
      refine hK.out _ _ ?k15x16qe1 (fun hS => ?s15x16qe1)
      case k15x16qe1 => exact hS10
      clear hK K
      try simp only [Act.put]
      refine wpAnyH_done (by kernel_rfl) ?_ _
      clear hS hS5 hS8 hS9 hS10
      have h8 := H7.out.vaultTurn j (set_beside HJ.out hij) HB5.out HK10.out HV10.out (Nat.le_refl _) HF5.out
      have H8 := hid h8
      clear h8
      go_wp2
      go_ret
      rw [HX.out]
      refine ⟨rfl, ?_⟩
      dsimp only
      rw [asIf_zero, HGN.out]
      have h9 := H8.out
      rw [set_pre (by rw [List.getElem?_set_ne hij]; exact HJ.out)] at h9
      exact h9.drop_post
    · have HNZ := hid hec
      have hnb : (ec == 0) = false := by rw [beq_eq_false_iff_ne]; exact hec
      clear hec
      go_wp2
      go_ret
      rw [HX.out]
      refine ⟨rfl, ?_⟩
      dsimp only
      rw [asIf_ne HNZ.out, set_same (by rw [List.getElem?_set_ne hij]; exact HJ.out)]
      exact H7.out.drop_post
  · go_simp
    try (refine if_wanted (by first | rfl | kernel_rfl) ?_; go_simp)
    first | generalize hbE : w5.heap.size = bh | generalize hbE : wm.heap.size = bh
    generalize hw4 : World.alloc _ _ = w4
    have hbh : wm.heap.size ≤ bh := by rw [← hbE]; first | exact HB.out.size | exact Nat.le_refl _
    have hz : Blk w4 bh 99 [.int .i64 0, .int .i64 0, .int .i64 0] := by rw [← hw4, ← hbE]; exact alloc_new _ _
    have hS4 : w4.cell? ⟨bv, 0, none⟩ = some (.pointer (some ⟨v, 0, none⟩)) ∧ w4.cell? ⟨v, 0, none⟩ = some (.pointer (some ⟨a, 0, none⟩)) ∧ w4.cell? ⟨bg, 0, none⟩ = some (.int .i64 (gn : Nat)) := by rw [← hw4]; exact ⟨alc hS.1 _, alc hS.2.1 _, alc hS.2.2 _⟩
    have HB : Hid (Below wm.heap.size wm w4) := hid (by rw [← hw4]; first | exact HB.out.alloc HB.out.size _ | exact ((Below.refl _ _).alloc (Nat.le_refl _) _))
    have HZ := hid hz
    clear hz hw4 hbE
    refine hK.out _ _ ?k6x9z (fun hS => ?s6x9z)
    case k6x9z => exact hS4
    clear hK K
    try simp only [Act.put, sA, sB, sC]
    refine rdH (i := 5) (h := fun K hK => ?_)
    go_simp
    first | refine (H4.out.v_area HB.out i HI2.out gn hg2 hn2).mono ?_ | (have HB := hid HB.out.drew; have HZ := hid HZ.out.drew; refine (H4.out.v_area HB.out i HI2.out gn hg2 hn2).mono ?_)
    rintro e w5 ⟨rfl, hb5⟩
    rw [HN.out, HFR.out, HHF.out, HTO.out]
    have hS5 : w5.cell? ⟨bv, 0, none⟩ = some (.pointer (some ⟨v, 0, none⟩)) ∧ w5.cell? ⟨v, 0, none⟩ = some (.pointer (some ⟨a, 0, none⟩)) ∧ w5.cell? ⟨bg, 0, none⟩ = some (.int .i64 (gn : Nat)) := ⟨(hb5.cell (World.block_lt_of_cell? _ _ hS.1)).trans hS.1, (hb5.cell (World.block_lt_of_cell? _ _ hS.2.1)).trans hS.2.1, (hb5.cell (World.block_lt_of_cell? _ _ hS.2.2)).trans hS.2.2⟩
    have HB := hid (th HB.out hb5)
    try have HZ := hid (HZ.out.below hb5 HZ.out.lt)
    clear hb5
    refine hK.out _ _ ?k5x10z (fun hS => ?s5x10z)
    case k5x10z => exact hS5
    clear hK K
    try simp only [Act.put, sA, sB, sC]
    refine rdH (i := 7) (h := fun K hK => ?_)
    refine wp_store_row 99 (.tmp 7) (.tmp 20) rfl bh [.int .i64 (fr : Nat), .int .i64 (tw : Nat), .int .i64 (gn : Nat)].toArray rfl rfl _ _ HZ.out (by kernel_rfl) rfl (by simp [Value.oneCell']) ?_
    have HB5 := hid (below_setRow' HB.out hbh [.int .i64 (fr : Nat), .int .i64 (tw : Nat), .int .i64 (gn : Nat)].toArray)
    have HZ5 := hid (setRow_heap _ _ _ [.int .i64 (fr : Nat), .int .i64 (tw : Nat), .int .i64 (gn : Nat)].toArray _ _ HZ.out)
    have hS5 := And.intro ((HB5.out.cell (World.block_lt_of_cell? _ _ hS00.1)).trans hS00.1) (And.intro ((HB5.out.cell (World.block_lt_of_cell? _ _ hS00.2.1)).trans hS00.2.1) ((HB5.out.cell (World.block_lt_of_cell? _ _ hS00.2.2)).trans hS00.2.2))
    refine hK.out _ _ ?k7x11z (fun hS => ?s7x11z)
    case k7x11z => exact hS5
    clear hK K
    try simp only [Act.put]
    refine wpAnyH_done (by kernel_rfl) ?_ _
    generalize hws : World.setRow _ _ _ = ws at HB5 HZ5 hS5 ⊢
    clear hS hws
    have HZ5 : Hid (Blk ws bh 99 [.int .i64 (fr : Nat), .int .i64 (tw : Nat), .int .i64 (gn : Nat)]) := HZ5
    have H5 := hid (H4.out.addBlk' HB5.out HZ5.out hbh)
    obtain ⟨vl, hvb⟩ := H5.out.vault j (get_pre HJ.out)
    have c0' := hvb.cell (j := 0) rfl
    have cb' := (H5.out.blk (As.length + 0) (get_post 0 rfl)).cell (j := 0) rfl
    unfold ptr at c0' cb'
    clear hvb
    go_wp2_with (refine wpl_layV rowF rfl 4 _ rfl [.func (.func 101) #[] #[ptr bv, ptr bh], .func (.func 100) #[] #[ptr bl, ptr bv, ptr bh, ptr bt], .func (.func 16) #[ptr a] #[], .func (.func 102) #[] #[ptr bv, ptr bg]] rfl (by omega) (by omega) (by simp [Value.cells]) (by simp [Act.eval, ptr]) ?_; intro w6 hb6 h6; have H6 := hid (H5.out.addBlk' hb6 h6 (Nat.le_refl _)); clear hb6 h6)
    obtain ⟨g6, hg6⟩ : ∃ g6, ws.heap.size = g6 := ⟨_, rfl⟩
    rw [hg6]
    rw [hg6] at H6
    clear hg6
    have H6 : Hid (St B w0 w6 (As.set i (dev a d) ++ mvX bv bl bg bt bh v lo len c gn 0 fr tw [blkA g6 49 [.func (.func 101) #[] #[ptr bv, ptr bh], .func (.func 100) #[] #[ptr bl, ptr bv, ptr bh, ptr bt], .func (.func 16) #[ptr a] #[], .func (.func 102) #[] #[ptr bv, ptr bg]]])) := hid (by rw [set_same HI.out]; exact H6.out)
    refine (vmoves_all i HI.out j v gen next br Lv HJ.out hij bv bl bg bt bh g6 lo len c gn fr tw L HLEN.out hl1 hL hl2 hg2 H6.out hlo).mono ?_
    rintro e w7 ⟨rfl, h7⟩
    rw [HM.out] at h7 ⊢
    clear H6 HB5 HZ5 hS5 c0' cb'
    generalize hx : movesD d (gen + 1) L = x at h7 ⊢
    obtain ⟨ec, dx, px⟩ := x
    have HX := hid hx
    have H7 := hid h7
    dsimp only at H7 ⊢
    clear h7 hx HM
    by_cases hec : ec = 0
    · subst hec
      have HCP : Hid (∀ w1, Below w7.heap.size w7 w1 → Calls Tryz.prog 92 #[.slice lo len c] w1 fun e w' => ∃ v, e = .returned v ∧ FreshL w1.heap.size w' v L ∧ Below w1.heap.size w1 w') := hid (fun w1 hb => by
        obtain ⟨F, hF⟩ := ((hL.set (dev a dx)).app).lrf (H7.out.below hb)
        exact vcopied_any lo len c L HLEN.out (by omega) hl2 w1 hF.lr)
      have cb7 := (H7.out.blk (As.length + 0) (set_post 0 rfl)).cell (j := 0) rfl
      have cl7 := (H7.out.blk (As.length + 1) (set_post 1 rfl)).cell (j := 0) rfl
      have cg7 := (H7.out.blk (As.length + 2) (set_post 2 rfl)).cell (j := 0) rfl
      have ct7 := (H7.out.blk (As.length + 3) (set_post 3 rfl)).cell (j := 0) rfl
      have N1 := hid (H7.out.apartV (set_beside HJ.out hij) (set_post 0 rfl) (ne_post HJ.out 0))
      have N2 := hid (H7.out.apartV (set_beside HJ.out hij) (set_post 1 rfl) (ne_post HJ.out 1))
      have N3 := hid (H7.out.apartV (set_beside HJ.out hij) (set_post 2 rfl) (ne_post HJ.out 2))
      have N4 := hid (H7.out.apartV (set_beside HJ.out hij) (set_post 3 rfl) (ne_post HJ.out 3))
      unfold ptr at cb7
      go_upto_region 6 with fail
      refine wp_region_held_drew (S := fun w' => w'.cell? ⟨bv, 0, none⟩ = some (.pointer (some ⟨v, 0, none⟩)) ∧ w'.cell? ⟨bl, 0, none⟩ = some (.slice lo len c) ∧ w'.cell? ⟨bg, 0, none⟩ = some (.int .i64 (gn : Nat)) ∧ w'.cell? ⟨bt, 0, none⟩ = some (.int .i64 px)) (by kernel_rfl) ⟨cb7, cl7, cg7, ct7⟩ (fun hS => ?_)
      refine tkH (i := 0) (v := ?v0x1qe2) (y := Or.inl ⟨by rfl, ?y0x1qe2⟩) (s := hS) (h := ?r0x1qe2)
      case y0x1qe2 => (intro w' hSw; (try dsimp only at hSw); go_simp; (try with_reducible rfl))
      simp only [Act.put, sA, sB, sC]
      refine tkH (i := 1) (v := ?v1x2qe2) (y := Or.inl ⟨by rfl, ?y1x2qe2⟩) (s := hS) (h := ?r1x2qe2)
      case y1x2qe2 => (intro w' hSw; (try dsimp only at hSw); go_simp; (try with_reducible rfl))
      simp only [Act.put, sA, sB, sC]
      refine tkH (i := 2) (v := ?v2x3qe2) (y := Or.inl ⟨by rfl, ?y2x3qe2⟩) (s := hS) (h := ?r2x3qe2)
      case y2x3qe2 => (intro w' hSw; (try dsimp only at hSw); go_simp; (try with_reducible rfl))
      simp only [Act.put, sA, sB, sC]
      refine tkH (i := 3) (v := ?v3x4qe2) (y := Or.inl ⟨by rfl, ?y3x4qe2⟩) (s := hS) (h := ?r3x4qe2)
      case y3x4qe2 => (intro w' hSw; (try dsimp only at hSw); go_simp; (try with_reducible rfl))
      simp only [Act.put, sA, sB, sC]
      refine tkH (i := 4) (v := ?v4x5qe2) (y := Or.inl ⟨by rfl, ?y4x5qe2⟩) (s := hS) (h := ?r4x5qe2)
      case y4x5qe2 => (intro w' hSw; (try dsimp only at hSw); go_simp; (try with_reducible rfl))
      simp only [Act.put, sA, sB, sC]
      refine tkH (i := 5) (v := ?v5x6qe2) (y := Or.inl ⟨by rfl, ?y5x6qe2⟩) (s := hS) (h := ?r5x6qe2)
      case y5x6qe2 => (intro w' hSw; (try dsimp only at hSw); go_simp; (try with_reducible rfl))
      simp only [Act.put, sA, sB, sC]
      refine rdH (i := 6) (h := fun K hK => ?_)
      go_simp
      refine (HCP.out _ (Below.refl _ _).drew).mono ?_
      rintro e w5 ⟨r, rfl, hf, hb5⟩
      obtain ⟨ro, rc, hr, _⟩ := listA_lst hf.listA
      rw [← HLEN.out] at hr
      subst hr
      have hb5 := (Below.refl w7.heap.size w7).drew.trans hb5
      have hS5 := And.intro ((hb5.cell (World.block_lt_of_cell? _ _ hS.1)).trans hS.1) (And.intro ((hb5.cell (World.block_lt_of_cell? _ _ hS.2.1)).trans hS.2.1) (And.intro ((hb5.cell (World.block_lt_of_cell? _ _ hS.2.2.1)).trans hS.2.2.1) ((hb5.cell (World.block_lt_of_cell? _ _ hS.2.2.2)).trans hS.2.2.2)))
      obtain ⟨vl5, hv5⟩ := (H7.out.below hb5).vault j (set_beside HJ.out hij)
      have HB5 := hid hb5; have HF5 := hid hf; have HV5 := hid hv5
      have s1 := hv5.cell (j := 1) rfl
      have f1 := hv5.free 1
      clear hb5 hf hv5
      refine hK.out _ _ ?k6x7qe2 (fun hS => ?s6x7qe2)
      case k6x7qe2 => exact hS5
      clear hK K
      try simp only [Act.put, sA, sB, sC]
      refine tkH (i := 7) (v := ?v7x8qe2) (y := Or.inl ⟨by rfl, ?y7x8qe2⟩) (s := hS) (h := ?r7x8qe2)
      case y7x8qe2 => (intro w' hSw; (try dsimp only at hSw); go_simp; (try with_reducible rfl))
      simp only [Act.put, sA, sB, sC]
      refine tkH (i := 8) (v := ?v8x9qe2) (y := Or.inl ⟨by rfl, ?y8x9qe2⟩) (s := hS) (h := ?r8x9qe2)
      case y8x9qe2 => (intro w' hSw; (try dsimp only at hSw); go_simp; (try with_reducible rfl))
      simp only [Act.put, sA, sB, sC]
      refine rdH (i := 9) (h := fun K hK => ?_)
      go_simp
      generalize hw8 : World.setCell _ _ _ = w8
      have hS8 : w8.cell? ⟨bv, 0, none⟩ = some (.pointer (some ⟨v, 0, none⟩)) ∧ w8.cell? ⟨bl, 0, none⟩ = some (.slice lo len c) ∧ w8.cell? ⟨bg, 0, none⟩ = some (.int .i64 (gn : Nat)) ∧ w8.cell? ⟨bt, 0, none⟩ = some (.int .i64 px) := by rw [← hw8]; exact And.intro ((World.cell?_setCell_other w5 _ _ _ (fun e => by injection e with e; exact N1.out e.symm)).trans hS.1) (And.intro ((World.cell?_setCell_other w5 _ _ _ (fun e => by injection e with e; exact N2.out e.symm)).trans hS.2.1) (And.intro ((World.cell?_setCell_other w5 _ _ _ (fun e => by injection e with e; exact N3.out e.symm)).trans hS.2.2.1) ((World.cell?_setCell_other w5 _ _ _ (fun e => by injection e with e; exact N4.out e.symm)).trans hS.2.2.2)))
      have HV8 : Hid (Blk w8 v 102 (vCells a gn next vl5 br)) := hid (by rw [← hw8]; exact HV5.out.set 1 _)
      have HK8 : Hid (Keep (fun k => k = v) w5 w8) := hid (by rw [← hw8]; exact (Keep.refl (fun k => k = v) w5).setCell (p := ⟨v, 1, none⟩) rfl _)
      have s2 := HV8.out.cell (j := 2) rfl
      have f2 := HV8.out.free 2
      clear hw8 s1 f1 HV5
      refine hK.out _ _ ?k9x10qe2 (fun hS => ?s9x10qe2)
      case k9x10qe2 => exact hS8
      clear hK K
      try simp only [Act.put]
      refine tkH (i := 10) (v := ?v10x11qe2) (y := Or.inl ⟨by rfl, ?y10x11qe2⟩) (s := hS) (h := ?r10x11qe2)
      case y10x11qe2 => (intro w' hSw; (try dsimp only at hSw); go_simp; (try with_reducible rfl))
      simp only [Act.put, sA, sB, sC]
      refine tkH (i := 11) (v := ?v11x12qe2) (y := Or.inl ⟨by rfl, ?y11x12qe2⟩) (s := hS) (h := ?r11x12qe2)
      case y11x12qe2 => (intro w' hSw; (try dsimp only at hSw); go_simp; (try with_reducible rfl))
      simp only [Act.put, sA, sB, sC]
      refine rdH (i := 12) (h := fun K hK => ?_)
      go_simp
      generalize hw9 : World.setCell _ _ _ = w9
      have hS9 : w9.cell? ⟨bv, 0, none⟩ = some (.pointer (some ⟨v, 0, none⟩)) ∧ w9.cell? ⟨bl, 0, none⟩ = some (.slice lo len c) ∧ w9.cell? ⟨bg, 0, none⟩ = some (.int .i64 (gn : Nat)) ∧ w9.cell? ⟨bt, 0, none⟩ = some (.int .i64 px) := by rw [← hw9]; exact And.intro ((World.cell?_setCell_other w8 _ _ _ (fun e => by injection e with e; exact N1.out e.symm)).trans hS.1) (And.intro ((World.cell?_setCell_other w8 _ _ _ (fun e => by injection e with e; exact N2.out e.symm)).trans hS.2.1) (And.intro ((World.cell?_setCell_other w8 _ _ _ (fun e => by injection e with e; exact N3.out e.symm)).trans hS.2.2.1) ((World.cell?_setCell_other w8 _ _ _ (fun e => by injection e with e; exact N4.out e.symm)).trans hS.2.2.2)))
      have HV9 : Hid (Blk w9 v 102 (vCells a gn px vl5 br)) := hid (by rw [← hw9]; exact HV8.out.set 2 _)
      have HK9 : Hid (Keep (fun k => k = v) w5 w9) := hid (by rw [← hw9]; exact HK8.out.setCell (p := ⟨v, 2, none⟩) rfl _)
      have s3 := HV9.out.cell (j := 3) rfl
      have f3 := HV9.out.free 3
      clear hw9 s2 f2 HV8 HK8
      refine hK.out _ _ ?k12x13qe2 (fun hS => ?s12x13qe2)
      case k12x13qe2 => exact hS9
      clear hK K
      try simp only [Act.put]
      refine tkH (i := 13) (v := ?v13x14qe2) (y := Or.inl ⟨by rfl, ?y13x14qe2⟩) (s := hS) (h := ?r13x14qe2)
      case y13x14qe2 => (intro w' hSw; (try dsimp only at hSw); go_simp; (try with_reducible rfl))
      simp only [Act.put, sA, sB, sC]
      refine tkH (i := 14) (v := ?v14x15qe2) (y := Or.inl ⟨by rfl, ?y14x15qe2⟩) (s := hS) (h := ?r14x15qe2)
      case y14x15qe2 => (intro w' hSw; (try dsimp only at hSw); go_simp; (try with_reducible rfl))
      simp only [Act.put, sA, sB, sC]
      refine rdH (i := 15) (h := fun K hK => ?_)
      go_simp
      generalize hw10 : World.setCell _ _ _ = w10
      have hS10 : w10.cell? ⟨bv, 0, none⟩ = some (.pointer (some ⟨v, 0, none⟩)) ∧ w10.cell? ⟨bl, 0, none⟩ = some (.slice lo len c) ∧ w10.cell? ⟨bg, 0, none⟩ = some (.int .i64 (gn : Nat)) ∧ w10.cell? ⟨bt, 0, none⟩ = some (.int .i64 px) := by rw [← hw10]; exact And.intro ((World.cell?_setCell_other w9 _ _ _ (fun e => by injection e with e; exact N1.out e.symm)).trans hS.1) (And.intro ((World.cell?_setCell_other w9 _ _ _ (fun e => by injection e with e; exact N2.out e.symm)).trans hS.2.1) (And.intro ((World.cell?_setCell_other w9 _ _ _ (fun e => by injection e with e; exact N3.out e.symm)).trans hS.2.2.1) ((World.cell?_setCell_other w9 _ _ _ (fun e => by injection e with e; exact N4.out e.symm)).trans hS.2.2.2)))
      have HV10 : Hid (Blk w10 v 102 (vCells a gn px (.slice ro len rc) br)) := hid (by rw [← hw10]; exact HV9.out.set 3 _)
      have HK10 : Hid (Keep (fun k => k = v) w5 w10) := hid (by rw [← hw10]; exact HK9.out.setCell (p := ⟨v, 3, none⟩) rfl _)
      clear hw10 s3 f3 HV9 HK9
      refine hK.out _ _ ?k15x16qe2 (fun hS => ?s15x16qe2)
      case k15x16qe2 => exact hS10
      clear hK K
      try simp only [Act.put]
      refine wpAnyH_done (by kernel_rfl) ?_ _
      clear hS hS5 hS8 hS9 hS10
      have h8 := H7.out.vaultTurn j (set_beside HJ.out hij) HB5.out HK10.out HV10.out (Nat.le_refl _) HF5.out
      have H8 := hid h8
      clear h8
      go_wp2
      go_ret
      rw [HX.out]
      refine ⟨rfl, ?_⟩
      dsimp only
      rw [asIf_zero, HGN.out]
      have h9 := H8.out
      rw [set_pre (by rw [List.getElem?_set_ne hij]; exact HJ.out)] at h9
      exact h9.drop_post
    · have HNZ := hid hec
      have hnb : (ec == 0) = false := by rw [beq_eq_false_iff_ne]; exact hec
      clear hec
      go_wp2
      go_ret
      rw [HX.out]
      refine ⟨rfl, ?_⟩
      dsimp only
      rw [asIf_ne HNZ.out, set_same (by rw [List.getElem?_set_ne hij]; exact HJ.out)]
      exact H7.out.drop_post
end Go.Proofs.YtlondopgibcikaaGreat
