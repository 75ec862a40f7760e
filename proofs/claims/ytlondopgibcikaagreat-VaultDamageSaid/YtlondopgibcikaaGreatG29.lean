/- The vault's Replace. The vault's Append: what it calls. -/
import Derived.Test.YtlondopgibcikaaGreatRows
import Derived.Test.YtlondopgibcikaaGreatG01
import Derived.Test.YtlondopgibcikaaGreatG02
import Derived.Test.YtlondopgibcikaaGreatG06
import Derived.Test.YtlondopgibcikaaGreatG07
import Derived.Test.YtlondopgibcikaaGreatG08
import Derived.Test.YtlondopgibcikaaGreatG09
import Derived.Test.YtlondopgibcikaaGreatG10
import Derived.Test.YtlondopgibcikaaGreatG14
import Derived.Test.YtlondopgibcikaaGreatG15
import Derived.Test.YtlondopgibcikaaGreatG16
import Derived.Test.YtlondopgibcikaaGreatG17
import Derived.Test.YtlondopgibcikaaGreatG18
import Derived.Test.YtlondopgibcikaaGreatG21
import Derived.Test.YtlondopgibcikaaGreatG22
import Derived.Test.YtlondopgibcikaaGreatG23
import Derived.Test.YtlondopgibcikaaGreatG24
import Derived.Test.YtlondopgibcikaaGreatG25
import Derived.Test.YtlondopgibcikaaGreatG26
import Derived.Test.YtlondopgibcikaaGreatG28
import Derived.WalkKit
import Derived.WalkSpells
import Derived.WalkLawsBesides
import Derived.Deep.RegionHeld3
import Derived.Deep.QuietTactic
import Derived.BigQuiet
namespace Go.Proofs.YtlondopgibcikaaGreat
open Go.RowKit Ent
/-- how a vault stands, beside its device -/
structure VS where
  gen : Nat
  next : Int
  br : Bool
  L : List (List UInt8)
def vsA (v a : Nat) (s : VS) : Asset := vaultA v a s.gen s.next s.br s.L
/-- why a vault is not ready -/
def readyOf (s : VS) : Int := if s.br then 23 else 0
/-- behind moves -/
def movedV (d : Dev) (s : VS) (L : List (List UInt8)) : Int × Dev × VS :=
  if (movesD d (s.gen + 1) L).1 = 0 then (0, (movesD d (s.gen + 1) L).2.1, ⟨s.gen + 1, (movesD d (s.gen + 1) L).2.2, s.br, L⟩) else ((movesD d (s.gen + 1) L).1, (movesD d (s.gen + 1) L).2.1, { s with br := true })
def replaceV (d : Dev) (s : VS) (L : List (List UInt8)) : Int × Dev × VS :=
  if s.br then (23, d, s) else if fitsOf s.gen d.img.length L ≠ 0 then (fitsOf s.gen d.img.length L, d, s) else movedV d s L
section
variable {B : Nat} {w0 w w1 : World} {As X : List Asset} {a : Nat} {d : Dev}
theorem St.v_told (h : St B w0 w As) (j : Nat) {v gen : Nat} {next : Int} {br : Bool} {L : List (List UInt8)} (hj : As[j]? = some (vaultA v a gen next br L)) (c : Int) :
    Calls Tryz.prog 74 #[ptr v, .int .i64 c] w fun e w' => e = .returned (.int .i64 c) ∧ St B w0 w' (As.set j (vaultA v a gen next (br || decide (c ≠ 0)) L)) := by
  obtain ⟨F, ⟨vl, G, hb, hv, hl, hn, hG⟩, hF, _, hcl⟩ := h.open j hj
  refine (vtold_any v a gen next c vl br w hb).mono ?_
  rintro e w' ⟨rfl, hb', hk⟩
  exact ⟨rfl, hcl w' _ F (hk.mono fun k _ e => by rw [e]; exact hv) (good_vaultA _ _ _ _ _ _) ⟨vl, G, hb', hv, (good_listA vl L).keep hl hk (fun k h1 h2 => hn (by rw [← h2]; exact h1)), hn, hG⟩ (fun _ => .inl)⟩
theorem St.v_ready (h : St B w0 w As) (j : Nat) {v : Nat} {s : VS} (hj : As[j]? = some (vsA v a s)) :
    Calls Tryz.prog 70 #[ptr v] w fun e w' => e = .returned (.int .i64 (readyOf s)) ∧ w' = w := by
  obtain ⟨vl, hb⟩ := h.vault j hj
  exact vready_any v a _ _ vl _ w hb
theorem St.v_fits (h : St B w0 w As) (i : Nat) (hi : As[i]? = some (dev a d)) (j : Nat) {v : Nat} {s : VS} (hj : As[j]? = some (vsA v a s)) (lo : Option Addr) (len c : Nat) (L : List (List UInt8)) (hL : LR w lo L) (hlen : len = L.length) (hl1 : len ≤ 1000) (hg : s.gen ≤ 2147483648) (hl2 : ∀ l ∈ L, l.length ≤ 1073741824) (hn2 : 2 ≤ d.img.length) :
    Calls Tryz.prog 66 #[ptr v, .slice lo len c] w fun e w' => e = .returned (.int .i64 (fitsOf s.gen d.img.length L)) ∧ St B w0 w' As := by
  obtain ⟨vl, hb⟩ := h.vault j hj
  refine (vfits_any h i hi v s.gen s.next vl s.br hb lo len c L hL hlen hl1 hg hl2 hn2).mono ?_
  rintro e w' ⟨rfl, hb'⟩
  exact ⟨rfl, h.below hb'⟩
end
set_option maxRecDepth 100000 in
theorem vreplace1 {B : Nat} {w0 w : World} {As : List Asset} {a : Nat} {d : Dev} (h : St B w0 w As) (i : Nat) (hi : As[i]? = some (dev a d)) (j v : Nat) (s : VS) (hj : As[j]? = some (vsA v a s)) (kv kl bv bl : Nat) (lo : Option Addr) (len c : Nat) (hkv : As[kv]? = some (blkA bv 34 [ptr v])) (hkl : As[kl]? = some (blkA bl 39 [.slice lo len c])) (L : List (List UInt8)) (hL : LR w lo L) (hlen : len = L.length) (hl1 : len ≤ 1000) (hg : s.gen ≤ 2147483648) (hl2 : ∀ l ∈ L, l.length ≤ 1073741824) (hn2 : 2 ≤ d.img.length) :
    Calls Tryz.prog 79 #[ptr bv, ptr bl] w fun e w' => e = .returned (.int .i64 (fitsOf s.gen d.img.length L)) ∧ St B w0 w' As := by
  have cv := (h.blk kv hkv).cell (j := 0) rfl
  have cl := (h.blk kl hkl).cell (j := 0) rfl
  have HC := hid (h.v_fits i hi j hj lo len c L hL hlen hl1 hg hl2 hn2)
  clear h hi hj hkv hkl hL hlen hl2
  unfold ptr at cv HC ⊢
  go_enter Tryz.func79, Tryz.ntmps79
  go_wp2_with fail
  refine HC.out.mono ?_
  rintro e w' ⟨rfl, h'⟩
  have H' := hid h'
  clear h'
  go_wp2
  go_ret
  exact ⟨rfl, H'.out⟩
theorem enter_r1 (xs : Array Value) (w : World) : (callFunc 79 xs).run Tryz.prog w = .ok (.enter 79 xs) w := by kernel_rfl
theorem enter_ready (xs : Array Value) (w : World) : (callFunc 70 xs).run Tryz.prog w = .ok (.enter 70 xs) w := by kernel_rfl
def firstOf (c e : Int) : Int := if c = 0 then e else c
theorem vreplace_all {B : Nat} {w0 w : World} {As : List Asset} {a : Nat} {d : Dev} (i : Nat) (hi : As[i]? = some (dev a d)) (j v : Nat) (s : VS) (hj : As[j]? = some (vsA v a s)) (bv bl g : Nat) (lo : Option Addr) (len c : Nat) (L : List (List UInt8)) (hL : LentI B w0 As i lo L) (hlen : len = L.length) (hl1 : len ≤ 1000) (hg : s.gen ≤ 2147483648) (hl2 : ∀ l ∈ L, l.length ≤ 1073741824) (hn2 : 2 ≤ d.img.length)
    (h : St B w0 w (As ++ [blkA bv 34 [ptr v], blkA bl 39 [.slice lo len c], blkA g 49 [.func (.func 70) #[ptr v] #[], .func (.func 79) #[] #[ptr bv, ptr bl]]])) :
    Calls Tryz.prog 64 #[.slice (some ⟨g, 0, none⟩) 2 2] w fun e w' => e = .returned (.int .i64 (firstOf (readyOf s) (fitsOf s.gen d.img.length L))) ∧ St B w0 w' (As ++ [blkA bv 34 [ptr v], blkA bl 39 [.slice lo len c], blkA g 49 [.func (.func 70) #[ptr v] #[], .func (.func 79) #[] #[ptr bv, ptr bl]]]) := by
  refine (vall_seq (S := Unit) (fun _ w => St B w0 w (As ++ [blkA bv 34 [ptr v], blkA bl 39 [.slice lo len c], blkA g 49 [.func (.func 70) #[ptr v] #[], .func (.func 79) #[] #[ptr bv, ptr bl]]])) (fun _ _ => True) (fun k _ => (if k = 0 then readyOf s else fitsOf s.gen d.img.length L, ())) g 2 (by omega) (fun k => if k = 0 then 70 else 79) (fun k => if k = 0 then #[ptr v] else #[]) (fun k => if k = 0 then #[] else #[ptr bv, ptr bl]) ?_ ?_ ?_ w () h trivial).mono ?_
  · intro k s w' hk hs
    have := hs.blk (As.length + 2) (get_post 2 rfl)
    rcases (by omega : k = 0 ∨ k = 1) with rfl | rfl
    · exact this.cell (j := 0) rfl
    · exact this.cell (j := 1) rfl
  · intro k s' w' hk _ hs
    rcases (by omega : k = 0 ∨ k = 1) with rfl | rfl
    · refine (hs.v_ready j (get_pre hj)).mono ?_
      rintro e w2 ⟨rfl, rfl⟩
      exact ⟨rfl, hs, fun _ => trivial⟩
    · obtain ⟨F, hF⟩ := (hL.app).lrf hs
      refine (vreplace1 hs i (get_pre hi) j v s (get_pre hj) (As.length + 0) (As.length + 1) bv bl lo len c (get_post 0 rfl) (get_post 1 rfl) L hF.lr hlen hl1 hg hl2 hn2).mono ?_
      rintro e w2 ⟨rfl, h2⟩
      exact ⟨rfl, h2, fun _ => trivial⟩
  · intro k hk xs w'
    rcases (by omega : k = 0 ∨ k = 1) with rfl | rfl
    · exact enter_ready xs w'
    · exact enter_r1 xs w'
  · rintro e w' ⟨rfl, h'⟩
    refine ⟨?_, h'⟩
    unfold firstOf seqOf seqOf seqOf
    simp only [if_pos]
    by_cases h0 : readyOf s = 0
    · simp only [h0, if_pos]
      by_cases h1 : fitsOf s.gen d.img.length L = 0
      · simp [h1]
      · simp [h1]
    · simp [h0]
theorem set_post2 {As X : List Asset} {i j : Nat} {C D : Asset} (k : Nat) {E : Asset} (hk : X[k]? = some E) : ((As.set i C).set j D ++ X)[As.length + k]? = some E := by
  have := get_post (As := (As.set i C).set j D) k hk
  rwa [List.length_set, List.length_set] at this
set_option maxRecDepth 100000 in
set_option maxHeartbeats 2000000 in
theorem vreplace_any {B : Nat} {w0 w : World} {As : List Asset} {a : Nat} {d : Dev} (h : St B w0 w As) (i : Nat) (hi : As[i]? = some (dev a d)) (j v : Nat) (s : VS) (hj : As[j]? = some (vsA v a s)) (hij : i ≠ j) (lo : Option Addr) (len c : Nat) (L : List (List UInt8)) (hL : LentI B w0 As i lo L) (hlen : len = L.length) (hl1 : len ≤ 1000) (hg : s.gen ≤ 2147483647) (hl2 : ∀ l ∈ L, l.length ≤ 1073741824) (hn2 : 2 ≤ d.img.length) (hlo : d.loose.length ≤ 100000000) :
    Calls Tryz.prog 28 #[ptr v, .slice lo len c] w fun e w' => e = .returned (.int .i64 (replaceV d s L).1) ∧ St B w0 w' ((As.set i (dev a (replaceV d s L).2.1)).set j (vsA v a (replaceV d s L).2.2)) := by
  obtain ⟨bv, hbv⟩ : ∃ bv, w.heap.size = bv := ⟨_, rfl⟩
  obtain ⟨w1, hw1⟩ : ∃ w1, w.alloc (.cells #[ptr v] 34) = w1 := ⟨_, rfl⟩
  have h1 : St B w0 w1 (As ++ [blkA bv 34 [ptr v]]) := by rw [← hw1, ← hbv]; exact h.box _ _
  obtain ⟨bl, hbl⟩ : ∃ bl, w1.heap.size = bl := ⟨_, rfl⟩
  obtain ⟨w2, hw2⟩ : ∃ w2, w1.alloc (.cells #[.slice lo len c] 39) = w2 := ⟨_, rfl⟩
  have h2 : St B w0 w2 (As ++ [blkA bv 34 [ptr v], blkA bl 39 [.slice lo len c]]) := by
    rw [← hw2, ← hbl]; exact h1.addBlk' (fresh_alloc w1 _) (alloc_new w1 _) (Nat.le_refl _)
  have H2 := hid h2
  have HI := hid hi; have HJ := hid hj; have HLEN := hid hlen
  have HW1 := hid hw1; have HW2 := hid hw2; have HBV := hid hbv
  have HBL : Hid (bv + 1 = bl) := hid (by rw [← hbl, ← hw1, ← hbv]; exact (World.size_alloc _ _).symm)
  have cb := (h2.blk (As.length + 0) (get_post 0 rfl)).cell (j := 0) rfl
  have cl := (h2.blk (As.length + 1) (get_post 1 rfl)).cell (j := 0) rfl
  clear h h1 h2 hi hj hw1 hw2 hbv hbl hlen
  unfold ptr at cb HW1 ⊢
  go_enter Tryz.func28, Tryz.ntmps28
  go_upto_region 1 with fail
  rw [HW1.out, HBV.out, HW2.out, HBL.out]
  go_wp2_with (refine wpl_layV rowF rfl 2 _ rfl [.func (.func 70) #[ptr v] #[], .func (.func 79) #[] #[ptr bv, ptr bl]] rfl (by omega) (by omega) (by simp [Value.cells]) (by simp [Act.eval, ptr]) ?_; intro w6 hb6 h6; have H6 := hid (H2.out.addBlk' hb6 h6 (Nat.le_refl _)); clear hb6 h6)
  obtain ⟨g6, hg6⟩ : ∃ g6, w2.heap.size = g6 := ⟨_, rfl⟩
  rw [hg6]
  rw [hg6] at H6
  clear hg6
  refine (vreplace_all i HI.out j v s HJ.out bv bl g6 lo len c L hL HLEN.out hl1 (by omega) hl2 hn2 H6.out).mono ?_
  rintro e w3 ⟨rfl, h3⟩
  have H3 := hid h3
  clear h3 H6
  generalize hec : firstOf (readyOf s) (fitsOf s.gen d.img.length L) = e0
  by_cases he0 : e0 = 0
  · subst he0
    have hbr : s.br = false := by
      unfold firstOf readyOf at hec
      rcases hb : s.br with _ | _
      · rfl
      · rw [hb] at hec; simp at hec
    have hft : fitsOf s.gen d.img.length L = 0 := by
      unfold firstOf readyOf at hec
      rw [hbr] at hec; simpa using hec
    have hgl : s.gen < 2147483647 := by
      unfold fitsOf at hft
      split at hft
      · simp at hft
      · omega
    have HRV : Hid (replaceV d s L = movedV d s L) := hid (by unfold replaceV; rw [hbr, if_neg (by simp), if_neg (by rw [hft]; simp)])
    have HMV : Hid (∀ w1, Below w3.heap.size w3 w1 → Calls Tryz.prog 68 #[ptr v, .slice lo len c] w1 fun e w' => e = .returned (.int .i64 (movesD d (s.gen + 1) L).1) ∧ St B w0 w' _) := hid (fun w1 hb => vmoves_any (H3.out.below hb) i (get_pre HI.out) j v s.gen s.next s.br s.L (get_pre HJ.out) hij lo len c L HLEN.out hl1 (hL.app) hl2 (by omega) hn2 hlo)
    have HTOLD : Hid (∀ (ec : Int) (dx : Dev) (px : Int) (w7 : World), St B w0 w7 ((As.set i (dev a dx)).set j (asIf ec (vaultA v a (s.gen + 1) px s.br L) (vaultA v a s.gen s.next s.br s.L)) ++ [blkA bv 34 [ptr v], blkA bl 39 [.slice lo len c], blkA g6 49 [.func (.func 70) #[ptr v] #[], .func (.func 79) #[] #[ptr bv, ptr bl]]]) →
        Calls Tryz.prog 74 #[ptr v, .int .i64 ec] w7 fun e w' => e = .returned (.int .i64 ec) ∧ St B w0 w' ((As.set i (dev a dx)).set j (asIf ec (vaultA v a (s.gen + 1) px s.br L) (vaultA v a s.gen s.next true s.L)) ++ [blkA bv 34 [ptr v], blkA bl 39 [.slice lo len c], blkA g6 49 [.func (.func 70) #[ptr v] #[], .func (.func 79) #[] #[ptr bv, ptr bl]]])) := hid (fun ec dx px w7 h7 => by
      have hjl : j < (As.set i (dev a dx)).length := by rw [List.length_set]; exact (List.getElem?_eq_some_iff.1 HJ.out).1
      by_cases hec : ec = 0
      · rw [hec, asIf_zero] at h7
        rw [hec, asIf_zero]
        refine (h7.v_told j (get_pre (List.getElem?_set_self hjl)) 0).mono ?_
        rintro e w8 ⟨rfl, h8⟩
        rw [set_pre (List.getElem?_set_self hjl), List.set_set] at h8
        exact ⟨rfl, by simpa using h8⟩
      · rw [asIf_ne hec] at h7
        rw [asIf_ne hec]
        refine (h7.v_told j (get_pre (List.getElem?_set_self hjl)) ec).mono ?_
        rintro e w8 ⟨rfl, h8⟩
        rw [set_pre (List.getElem?_set_self hjl), List.set_set] at h8
        exact ⟨rfl, by simpa [hec] using h8⟩)
    have cb3 := (H3.out.blk (As.length + 0) (get_post 0 rfl)).cell (j := 0) rfl
    have cl3 := (H3.out.blk (As.length + 1) (get_post 1 rfl)).cell (j := 0) rfl
    unfold ptr at cb3 HMV HTOLD
    clear hec hbr hft
    go_upto_region 4 with fail
    refine wp_region_held_drew (S := fun w' => w'.cell? ⟨bv, 0, none⟩ = some (.pointer (some ⟨v, 0, none⟩)) ∧ w'.cell? ⟨bl, 0, none⟩ = some (.slice lo len c)) (by kernel_rfl) ⟨cb3, cl3⟩ (fun hS => ?_)
    refine tkH (i := 0) (v := ?v0x1z) (y := Or.inl ⟨by rfl, ?y0x1z⟩) (s := hS) (h := ?r0x1z)
    case y0x1z => (intro w' hSw; (try dsimp only at hSw); go_simp; (try with_reducible rfl))
    simp only [Act.put, sA, sB, sC]
    refine tkH (i := 1) (v := ?v1x2z) (y := Or.inl ⟨by rfl, ?y1x2z⟩) (s := hS) (h := ?r1x2z)
    case y1x2z => (intro w' hSw; (try dsimp only at hSw); go_simp; (try with_reducible rfl))
    simp only [Act.put, sA, sB, sC]
    refine tkH (i := 2) (v := ?v2x3z) (y := Or.inl ⟨by rfl, ?y2x3z⟩) (s := hS) (h := ?r2x3z)
    case y2x3z => (intro w' hSw; (try dsimp only at hSw); go_simp; (try with_reducible rfl))
    simp only [Act.put, sA, sB, sC]
    refine rdH (i := 3) (h := fun K hK => ?_)
    go_simp
    refine (HMV.out _ (Below.refl _ _).drew).mono ?_
    rintro e w7 ⟨rfl, h7⟩
    rw [set_pre HI.out, set_pre (by rw [List.getElem?_set_ne hij]; exact HJ.out)] at h7
    generalize hx : movesD d (s.gen + 1) L = x at h7 ⊢
    obtain ⟨ec, dx, px⟩ := x
    have HX := hid hx
    have H7 := hid h7
    dsimp only at H7 ⊢
    have hS7 := And.intro ((H7.out.blk (As.length + 0) (set_post2 0 rfl)).cell (j := 0) rfl) ((H7.out.blk (As.length + 1) (set_post2 1 rfl)).cell (j := 0) rfl)
    unfold ptr at hS7
    clear h7 hx
    refine hK.out _ _ ?k3x4z (fun hS => ?s3x4z)
    case k3x4z => exact hS7
    clear hK K
    try simp only [Act.put, sA, sB, sC]
    refine rdH (i := 4) (h := fun K hK => ?_)
    go_simp
    refine (HTOLD.out ec dx px w7 H7.out).mono ?_
    rintro e w8 ⟨rfl, h8⟩
    have H8 := hid h8
    have hS8 := And.intro ((H8.out.blk (As.length + 0) (set_post2 0 rfl)).cell (j := 0) rfl) ((H8.out.blk (As.length + 1) (set_post2 1 rfl)).cell (j := 0) rfl)
    unfold ptr at hS8
    clear h8
    refine hK.out _ _ ?k4x5z (fun hS => ?s4x5z)
    case k4x5z => exact hS8
    clear hK K
    try simp only [Act.put, sA, sB, sC]
    refine tkH (i := 5) (v := ?v5x6z) (y := Or.inl ⟨by rfl, ?y5x6z⟩) (s := hS) (h := ?r5x6z)
    case y5x6z => (intro w' hSw; (try dsimp only at hSw); go_simp; (try with_reducible rfl))
    simp only [Act.put, sA, sB, sC]
    refine wpAnyH_done (by kernel_rfl) ?_ _
    clear hS hS7 hS8
    go_wp2
    go_ret
    rw [HRV.out]
    unfold movedV
    rw [HX.out]
    dsimp only
    by_cases hec : ec = 0
    · rw [if_pos hec]
      have h9 := H8.out.drop_post
      rw [hec, asIf_zero] at h9
      refine ⟨by rw [hec]; rfl, ?_⟩
      unfold vsA
      simpa using h9
    · rw [if_neg hec]
      have h9 := H8.out.drop_post
      rw [asIf_ne hec] at h9
      refine ⟨rfl, ?_⟩
      unfold vsA
      simpa [hec] using h9
  · have hnb : (e0 != 0) = true := by simpa using he0
    have HRV : Hid (replaceV d s L = (e0, d, s)) := hid (by
      unfold replaceV
      unfold firstOf readyOf at hec
      rcases hb : s.br with _ | _
      · rw [hb] at hec
        rw [if_neg (by simp)]
        simp only [Bool.false_eq_true, if_false, if_true] at hec
        rw [if_pos (by rw [hec]; exact he0), hec]
      · rw [hb] at hec
        rw [if_pos rfl]
        simp at hec
        rw [hec])
    have HEC := hid he0
    clear hec he0
    go_wp2
    go_ret
    rw [HRV.out]
    refine ⟨rfl, ?_⟩
    rw [set_same HI.out, set_same HJ.out]
    exact H3.out.drop_post
end Go.Proofs.YtlondopgibcikaaGreat
namespace Go.Proofs.YtlondopgibcikaaGreat
open Go.RowKit Ent
/-- bytes that are lent beside an asset: old ones, or another asset's -/
def LentR (B : Nat) (w0 : World) (As : List Asset) (i : Nat) (lo : Option Addr) (cap : Nat) (rec : List UInt8) : Prop := (SB w0 lo cap rec ∧ (rec ≠ [] → ∀ x, lo = some x → x.block < B)) ∨ ∃ (j : Nat) (A : Asset), i ≠ j ∧ As[j]? = some A ∧ ∀ w F, A w F → SB w lo cap rec ∧ (rec ≠ [] → ∀ x, lo = some x → F x.block)
section
variable {B : Nat} {w0 w w1 : World} {As X : List Asset} {a : Nat} {d : Dev} {lo : Option Addr} {cap : Nat} {rec : List UInt8}
theorem LentR.app {i : Nat} (h : LentR B w0 As i lo cap rec) : LentR B w0 (As ++ X) i lo cap rec := by
  rcases h with h | ⟨j, A, h1, h2, h3⟩
  · exact .inl h
  · exact .inr ⟨j, A, h1, get_pre h2, h3⟩
theorem LentR.set {i : Nat} (C : Asset) (h : LentR B w0 As i lo cap rec) : LentR B w0 (As.set i C) i lo cap rec := by
  rcases h with h | ⟨j, A, h1, h2, h3⟩
  · exact .inl h
  · exact .inr ⟨j, A, h1, by rw [List.getElem?_set_ne h1]; exact h2, h3⟩
/-- .. whatever becomes of a third one -/
def LentR2 (B : Nat) (w0 : World) (As : List Asset) (i k : Nat) (lo : Option Addr) (cap : Nat) (rec : List UInt8) : Prop := (SB w0 lo cap rec ∧ (rec ≠ [] → ∀ x, lo = some x → x.block < B)) ∨ ∃ (j : Nat) (A : Asset), i ≠ j ∧ k ≠ j ∧ As[j]? = some A ∧ ∀ w F, A w F → SB w lo cap rec ∧ (rec ≠ [] → ∀ x, lo = some x → F x.block)
theorem LentR2.one {i k : Nat} (h : LentR2 B w0 As i k lo cap rec) : LentR B w0 As i lo cap rec := by
  rcases h with h | ⟨j, A, h1, _, h2, h3⟩
  · exact .inl h
  · exact .inr ⟨j, A, h1, h2, h3⟩
theorem LentR2.set2 {i k : Nat} (C D : Asset) (h : LentR2 B w0 As i k lo cap rec) : LentR B w0 ((As.set i C).set k D) i lo cap rec := by
  rcases h with h | ⟨j, A, h1, h4, h2, h3⟩
  · exact .inl h
  · exact .inr ⟨j, A, h1, by rw [List.getElem?_set_ne h4, List.getElem?_set_ne h1]; exact h2, h3⟩
theorem LentR.sb {i : Nat} (h : LentR B w0 As i lo cap rec) (hs : St B w0 w As) : SB w lo cap rec := by
  rcases h with ⟨h1, h2⟩ | ⟨j, A, h1, h2, h3⟩
  · exact sb_keepE h1 (keepB hs.be) (fun hne x hx hF => by have := h2 hne x hx; omega)
  · obtain ⟨F, hA, _⟩ := hs.open j h2
    exact (h3 _ _ hA).1
theorem St.log_writeR (h : St B w0 w As) (i : Nat) (hi : As[i]? = some (dev a d)) (hl : LentR B w0 As i lo cap rec) (f t g at_ : Int) (rn : Nat) (hrn : rn = rec.length) (hrc : rn ≤ cap) (hrm : rn ≤ 9223372036854775807) (hlo : d.loose.length ≤ 1073000000) (ha1 : -9223372036854775808 ≤ at_ ∧ at_ ≤ 9223372036854775807) :
    Calls Tryz.prog 73 #[ptr a, .agg #[.int .i64 f, .int .i64 t, .int .i64 g], .int .i64 at_, .slice lo rn cap] w fun e w' => e = .returned (.tuple #[.int .i64 (logWrite d f t g at_ rec).1.1, .int .i64 (logWrite d f t g at_ rec).1.2]) ∧ St B w0 w' (As.set i (dev a (logWrite d f t g at_ rec).2)) := by
  have hsb := hl.sb h
  obtain ⟨F, hA, hF, ho, hcl⟩ := h.open i hi
  have hap : rec ≠ [] → ∀ x, lo = some x → ¬ F x.block := by
    intro hne x hx hf
    rcases hl with ⟨_, h2⟩ | ⟨j, A, h1, h2, h3⟩
    · have := h2 hne x hx; have := hF _ hf; omega
    · obtain ⟨G, hG, _, hd⟩ := ho j _ h1 h2
      exact hd _ hf ((h3 _ _ hG).2 hne x hx)
  refine (logWrite_any f t g at_ lo rn cap rec hrn hrc hrm w hsb hap hA (fun k hk => (hF k hk).2) hlo ha1).mono ?_
  rintro e w' ⟨he, hp, hk⟩
  exact ⟨he, hcl w' _ _ hk (good_dev _ _) hp (fun _ h => h)⟩
end
/-- what Append holds beside the rest -/
def apX (bv bl bn v : Nat) (lo : Option Addr) (rn rc : Nat) (p : Int) (Y : List Asset) : List Asset := [blkA bv 34 [ptr v], blkA bl 44 [.slice lo rn rc], blkA bn 3 [.int .i64 p]] ++ Y
/-- what Append does on the device -/
def appendFs (f t gen : Nat) (next : Int) (rec : List UInt8) (k : Nat) (s : Dev × Int) : Int × (Dev × Int) :=
  if k = 0 then ((logWrite s.1 (f : Nat) (t : Nat) (gen : Nat) next rec).1.2, ((logWrite s.1 (f : Nat) (t : Nat) (gen : Nat) next rec).2, (logWrite s.1 (f : Nat) (t : Nat) (gen : Nat) next rec).1.1)) else (s.1.flush.1, (s.1.flush.2, s.2))
def appendD (d : Dev) (gen : Nat) (next : Int) (rec : List UInt8) : Int × (Dev × Int) := seqOf (appendFs (fromOf d.img.length gen) (fromOf d.img.length gen + halfOf d.img.length) gen next rec) 0 2 (d, 0)
def appendedV (d : Dev) (s : VS) (rec : List UInt8) : Int × Dev × VS :=
  if (appendD d s.gen s.next rec).1 = 0 then (0, (appendD d s.gen s.next rec).2.1, { s with next := (appendD d s.gen s.next rec).2.2, L := s.L ++ [rec] }) else ((appendD d s.gen s.next rec).1, (appendD d s.gen s.next rec).2.1, { s with br := true })
def appendV (d : Dev) (s : VS) (rec : List UInt8) : Int × Dev × VS :=
  if s.br then (23, d, s) else if 1048576 < rec.length then (4, d, s) else if freeOf d.img.length s.next < needOf rec.length then (10, d, s) else appendedV d s rec
set_option maxRecDepth 100000 in
set_option maxHeartbeats 2000000 in
theorem vappend1 {B : Nat} {w0 w : World} {As : List Asset} {a : Nat} {d : Dev} (i : Nat) (hi : As[i]? = some (dev a d)) (j v : Nat) (s : VS) (hj : As[j]? = some (vsA v a s)) (hij : i ≠ j) (bv bl bn : Nat) (lo : Option Addr) (rn rc : Nat) (rec : List UInt8) (hrn : rn = rec.length) (hrc : rn ≤ rc) (hrm : rn ≤ 1048576) (hL : LentR B w0 As i lo rc rec) (hg : s.gen ≤ 2147483648) (hnx : 0 ≤ s.next ∧ s.next ≤ 131072) (Y : List Asset) (p : Int) (x : Dev) (n fr tw hf : Nat) (hnn : x.img.length = n) (hfr : fromOf n s.gen = fr) (hhf : halfOf n = hf) (hto : fr + hf = tw) (hn2 : 2 ≤ x.img.length) (h : St B w0 w (As.set i (dev a x) ++ apX bv bl bn v lo rn rc p Y)) (hlo : x.loose.length ≤ 1073000000) :
    Calls Tryz.prog 72 #[ptr bv, ptr bl, ptr bn] w fun e w' => e = .returned (.int .i64 (logWrite x (fr : Nat) (tw : Nat) (s.gen : Nat) s.next rec).1.2) ∧ St B w0 w' (As.set i (dev a (logWrite x (fr : Nat) (tw : Nat) (s.gen : Nat) s.next rec).2) ++ apX bv bl bn v lo rn rc (logWrite x (fr : Nat) (tw : Nat) (s.gen : Nat) s.next rec).1.1 Y) := by
  obtain ⟨vl, hvb⟩ := h.vault j (set_beside hj hij)
  have cv0 := hvb.cell (j := 0) rfl
  have cv1 := hvb.cell (j := 1) rfl
  have cv2 := hvb.cell (j := 2) rfl
  have cb := (h.blk (As.length + 0) (set_post 0 rfl)).cell (j := 0) rfl
  have cl := (h.blk (As.length + 1) (set_post 1 rfl)).cell (j := 0) rfl
  unfold ptr at cb cv0
  have H := hid h; have HI := hid hi; have HJ := hid hj; have HL := hid hL; have HRN := hid hrn; have HRC := hid hrc
  have HN := hid hnn; have HFR := hid hfr; have HHF := hid hhf; have HTO := hid hto
  clear h hi hj hL hvb hrn hnn hfr hhf hto hrc
  unfold ptr
  go_enter Tryz.func72, Tryz.ntmps72
  go_upto_region 1 with fail
  refine wp_region_held_drew (S := fun w' => w'.cell? ⟨bv, 0, none⟩ = some (.pointer (some ⟨v, 0, none⟩)) ∧ w'.cell? ⟨v, 0, none⟩ = some (.pointer (some ⟨a, 0, none⟩)) ∧ w'.cell? ⟨v, 1, none⟩ = some (.int .i64 s.gen) ∧ w'.cell? ⟨v, 2, none⟩ = some (.int .i64 s.next) ∧ w'.cell? ⟨bl, 0, none⟩ = some (.slice lo rn rc)) (by kernel_rfl) ⟨cb, cv0, cv1, cv2, cl⟩ (fun hS => ?_)
  refine tkH (i := 0) (v := ?v0x1z) (y := Or.inl ⟨by rfl, ?y0x1z⟩) (s := hS) (h := ?r0x1z)
  case y0x1z => (intro w' hSw; (try dsimp only at hSw); go_simp; (try with_reducible rfl))
  simp only [Act.put, sA, sB, sC]
  refine tkH (i := 1) (v := ?v1x2z) (y := Or.inl ⟨by rfl, ?y1x2z⟩) (s := hS) (h := ?r1x2z)
  case y1x2z => (intro w' hSw; (try dsimp only at hSw); go_simp; (try with_reducible rfl))
  simp only [Act.put, sA, sB, sC]
  refine tkH (i := 2) (v := ?v2x3z) (y := Or.inl ⟨by rfl, ?y2x3z⟩) (s := hS) (h := ?r2x3z)
  case y2x3z => (intro w' hSw; (try dsimp only at hSw); go_simp; (try with_reducible rfl))
  simp only [Act.put, sA, sB, sC]
  refine tkH (i := 3) (v := ?v3x4z) (y := Or.inl ⟨by rfl, ?y3x4z⟩) (s := hS) (h := ?r3x4z)
  case y3x4z => (intro w' hSw; (try dsimp only at hSw); go_simp; (try with_reducible rfl))
  simp only [Act.put, sA, sB, sC]
  refine tkH (i := 4) (v := ?v4x5z) (y := Or.inl ⟨by rfl, ?y4x5z⟩) (s := hS) (h := ?r4x5z)
  case y4x5z => (intro w' hSw; (try dsimp only at hSw); go_simp; (try with_reducible rfl))
  simp only [Act.put, sA, sB, sC]
  refine tkH (i := 5) (v := ?v5x6z) (y := Or.inl ⟨by rfl, ?y5x6z⟩) (s := hS) (h := ?r5x6z)
  case y5x6z => (intro w' hSw; (try dsimp only at hSw); go_simp; (try with_reducible rfl))
  simp only [Act.put, sA, sB, sC]
  refine tkH (i := 6) (v := ?v6x7z) (y := Or.inl ⟨by rfl, ?y6x7z⟩) (s := hS) (h := ?r6x7z)
  case y6x7z => (intro w' hSw; (try dsimp only at hSw); go_simp; (try with_reducible rfl))
  simp only [Act.put, sA, sB, sC]
  refine tkH (i := 7) (v := ?v7x8z) (y := Or.inl ⟨by rfl, ?y7x8z⟩) (s := hS) (h := ?r7x8z)
  case y7x8z => (intro w' hSw; (try dsimp only at hSw); go_simp; (try with_reducible rfl))
  simp only [Act.put, sA, sB, sC]
  refine tkH (i := 8) (v := ?v8x9z) (y := Or.inl ⟨by rfl, ?y8x9z⟩) (s := hS) (h := ?r8x9z)
  case y8x9z => (intro w' hSw; (try dsimp only at hSw); go_simp; (try with_reducible rfl))
  simp only [Act.put, sA, sB, sC]
  refine tkH (i := 9) (v := ?v9x10z) (y := Or.inl ⟨by rfl, ?y9x10z⟩) (s := hS) (h := ?r9x10z)
  case y9x10z => (intro w' hSw; (try dsimp only at hSw); go_simp; (try with_reducible rfl))
  simp only [Act.put, sA, sB, sC]
  refine tkH (i := 10) (v := ?v10x11z) (y := Or.inl ⟨by rfl, ?y10x11z⟩) (s := hS) (h := ?r10x11z)
  case y10x11z => (intro w' hSw; (try dsimp only at hSw); go_simp; (try with_reducible rfl))
  simp only [Act.put, sA, sB, sC]
  refine tkH (i := 11) (v := ?v11x12z) (y := Or.inl ⟨by rfl, ?y11x12z⟩) (s := hS) (h := ?r11x12z)
  case y11x12z => (intro w' hSw; (try dsimp only at hSw); go_simp; (try with_reducible rfl))
  simp only [Act.put, sA, sB, sC]
  refine tkH (i := 13) (v := ?v13x13z) (y := Or.inl ⟨by rfl, ?y13x13z⟩) (s := hS) (h := ?r13x13z)
  case y13x13z => (intro w' hSw; (try dsimp only at hSw); go_simp; (try with_reducible rfl))
  simp only [Act.put, sA, sB, sC]
  refine tkH (i := 14) (v := ?v14x14z) (y := Or.inl ⟨by rfl, ?y14x14z⟩) (s := hS) (h := ?r14x14z)
  case y14x14z => (intro w' hSw; (try dsimp only at hSw); go_simp; (try with_reducible rfl))
  simp only [Act.put, sA, sB, sC]
  refine tkH (i := 15) (v := ?v15x15z) (y := Or.inl ⟨by rfl, ?y15x15z⟩) (s := hS) (h := ?r15x15z)
  case y15x15z => (intro w' hSw; (try dsimp only at hSw); go_simp; (try with_reducible rfl))
  simp only [Act.put, sA, sB, sC]
  refine tkH (i := 16) (v := ?v16x16z) (y := Or.inl ⟨by rfl, ?y16x16z⟩) (s := hS) (h := ?r16x16z)
  case y16x16z => (intro w' hSw; (try dsimp only at hSw); go_simp; (try with_reducible rfl))
  simp only [Act.put, sA, sB, sC]
  refine tkH (i := 17) (v := ?v17x17z) (y := Or.inl ⟨by rfl, ?y17x17z⟩) (s := hS) (h := ?r17x17z)
  case y17x17z => (intro w' hSw; (try dsimp only at hSw); go_simp; (try with_reducible rfl))
  simp only [Act.put, sA, sB, sC]
  refine rdH (i := 12) (h := fun K hK => ?_)
  go_simp
  refine (H.out.v_area (Below.refl _ _).drew i (set_mid HI.out) s.gen hg hn2).mono ?_
  rintro e w5 ⟨rfl, hb5⟩
  rw [HN.out, HFR.out, HHF.out, HTO.out]
  have hb5 := (Below.refl w.heap.size w).drew.trans hb5
  have hS5 : w5.cell? ⟨bv, 0, none⟩ = some (.pointer (some ⟨v, 0, none⟩)) ∧ w5.cell? ⟨v, 0, none⟩ = some (.pointer (some ⟨a, 0, none⟩)) ∧ w5.cell? ⟨v, 1, none⟩ = some (.int .i64 s.gen) ∧ w5.cell? ⟨v, 2, none⟩ = some (.int .i64 s.next) ∧ w5.cell? ⟨bl, 0, none⟩ = some (.slice lo rn rc) := ⟨(hb5.cell (World.block_lt_of_cell? _ _ hS.1)).trans hS.1, (hb5.cell (World.block_lt_of_cell? _ _ hS.2.1)).trans hS.2.1, (hb5.cell (World.block_lt_of_cell? _ _ hS.2.2.1)).trans hS.2.2.1, (hb5.cell (World.block_lt_of_cell? _ _ hS.2.2.2.1)).trans hS.2.2.2.1, (hb5.cell (World.block_lt_of_cell? _ _ hS.2.2.2.2)).trans hS.2.2.2.2⟩
  have H5 := hid (H.out.below hb5)
  clear hb5
  refine hK.out _ _ ?k12x18z (fun hS => ?s12x18z)
  case k12x18z => exact hS5
  clear hK K
  try simp only [Act.put, sA, sB, sC]
  refine rdH (i := 18) (h := fun K hK => ?_)
  go_simp
  refine (H5.out.log_writeR i (set_mid HI.out) (HL.out.set _).app (fr : Nat) (tw : Nat) (s.gen : Nat) s.next rn HRN.out HRC.out (by omega) (by omega) (by omega)).mono ?_
  rintro e w7 ⟨rfl, h7⟩
  rw [set_twice' HI.out] at h7
  generalize hx : logWrite x (fr : Nat) (tw : Nat) (s.gen : Nat) s.next rec = r at h7 ⊢
  obtain ⟨⟨nx, ex⟩, dx⟩ := r
  have HX := hid hx
  have H7 := hid h7
  dsimp only at H7 ⊢
  obtain ⟨vl', hvb'⟩ := H7.out.vault j (set_beside HJ.out hij)
  have hv0 := hvb'.cell (j := 0) rfl
  have hv1 := hvb'.cell (j := 1) rfl
  have hv2 := hvb'.cell (j := 2) rfl
  have hb1 := (H7.out.blk (As.length + 0) (set_post 0 rfl)).cell (j := 0) rfl
  have hb2 := (H7.out.blk (As.length + 1) (set_post 1 rfl)).cell (j := 0) rfl
  have ct := (H7.out.blk (As.length + 2) (set_post 2 rfl)).cell (j := 0) rfl
  have ft := (H7.out.blk (As.length + 2) (set_post 2 rfl)).free 0
  unfold ptr at hv0 hb1
  have hS7 := And.intro hb1 (And.intro hv0 (And.intro hv1 (And.intro hv2 hb2)))
  clear h7 hx hvb' hv0 hv1 hv2 hb1 hb2
  refine hK.out _ _ ?k18x19z (fun hS => ?s18x19z)
  case k18x19z => exact hS7
  clear hK K
  try simp only [Act.put, sA, sB, sC]
  refine tkH (i := 19) (v := ?v19x20z) (y := Or.inl ⟨by rfl, ?y19x20z⟩) (s := hS) (h := ?r19x20z)
  case y19x20z => (intro w' hSw; (try dsimp only at hSw); go_simp; (try with_reducible rfl))
  simp only [Act.put, sA, sB, sC]
  refine tkH (i := 20) (v := ?v20x21z) (y := Or.inl ⟨by rfl, ?y20x21z⟩) (s := hS) (h := ?r20x21z)
  case y20x21z => (intro w' hSw; (try dsimp only at hSw); go_simp; (try with_reducible rfl))
  simp only [Act.put, sA, sB, sC]
  refine tkH (i := 21) (v := ?v21x22z) (y := Or.inl ⟨by rfl, ?y21x22z⟩) (s := hS) (h := ?r21x22z)
  case y21x22z => (intro w' hSw; (try dsimp only at hSw); go_simp; (try with_reducible rfl))
  simp only [Act.put, sA, sB, sC]
  refine rdH (i := 22) (h := fun K hK => ?_)
  go_simp
  generalize hw8 : World.setCell _ _ _ = w8
  have h8 : St B w0 w8 (As.set i (dev a dx) ++ apX bv bl bn v lo rn rc nx Y) := by
    have := H7.out.blkTurn (As.length + 2) (set_post 2 rfl) ((Keep.refl (fun k => k = bn) w7).setCell (p := ⟨bn, 0, none⟩) rfl (.int .i64 nx)) ((H7.out.blk (As.length + 2) (set_post 2 rfl)).set 0 (.int .i64 nx))
    rw [set_postTurn, hw8] at this
    exact this
  have H8 := hid h8
  obtain ⟨vl', hvb'⟩ := H8.out.vault j (set_beside HJ.out hij)
  have hv0 := hvb'.cell (j := 0) rfl
  have hv1 := hvb'.cell (j := 1) rfl
  have hv2 := hvb'.cell (j := 2) rfl
  have hb1 := (H8.out.blk (As.length + 0) (set_post 0 rfl)).cell (j := 0) rfl
  have hb2 := (H8.out.blk (As.length + 1) (set_post 1 rfl)).cell (j := 0) rfl
  unfold ptr at hv0 hb1
  have hS8 := And.intro hb1 (And.intro hv0 (And.intro hv1 (And.intro hv2 hb2)))
  clear h8 hw8 hvb' hv0 hv1 hv2 hb1 hb2 ct ft
  refine hK.out _ _ ?k22x23z (fun hS => ?s22x23z)
  case k22x23z => exact hS8
  clear hK K
  try simp only [Act.put]
  refine tkH (i := 23) (v := ?v23x24z) (y := Or.inl ⟨by rfl, ?y23x24z⟩) (s := hS) (h := ?r23x24z)
  case y23x24z => (intro w' hSw; (try dsimp only at hSw); go_simp; (try with_reducible rfl))
  simp only [Act.put, sA, sB, sC]
  refine wpAnyH_done (by kernel_rfl) ?_ _
  clear hS hS7 hS8
  go_wp2
  go_ret
  rw [HX.out]
  exact ⟨rfl, H8.out⟩
end Go.Proofs.YtlondopgibcikaaGreat
