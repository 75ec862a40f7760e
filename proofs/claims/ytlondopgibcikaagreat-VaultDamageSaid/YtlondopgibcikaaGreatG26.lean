/- A vault as one asset; what its moves calls. append(s, make([]byte, m)...): noughts behind a row of one's own. The document's vault (entrepotref07): four, super, area, right; the plain law of right. -/
import Derived.Test.YtlondopgibcikaaGreatRows
import Derived.Test.YtlondopgibcikaaGreatG01
import Derived.Test.YtlondopgibcikaaGreatG02
import Derived.Test.YtlondopgibcikaaGreatG06
import Derived.Test.YtlondopgibcikaaGreatG07
import Derived.Test.YtlondopgibcikaaGreatG08
import Derived.Test.YtlondopgibcikaaGreatG09
import Derived.Test.YtlondopgibcikaaGreatG10
import Derived.Test.YtlondopgibcikaaGreatG14
import Derived.Test.YtlondopgibcikaaGreatG15
import Derived.Test.YtlondopgibcikaaGreatG16
import Derived.Test.YtlondopgibcikaaGreatG17
import Derived.Test.YtlondopgibcikaaGreatG18
import Derived.Test.YtlondopgibcikaaGreatG21
import Derived.Test.YtlondopgibcikaaGreatG22
import Derived.Test.YtlondopgibcikaaGreatG23
import Derived.Test.YtlondopgibcikaaGreatG24
import Derived.Test.YtlondopgibcikaaGreatG25
import Derived.WalkKit
import Derived.WalkSpells
import Derived.WalkLawsBesides
import Derived.Deep.RegionHeld3
import Derived.Deep.QuietTactic
import Derived.BigQuiet
import Derived.Lib.AppendZerosOnto
namespace Go.Proofs.YtlondopgibcikaaGreat
open Go.RowKit Ent
/-- a vault in memory, its records with it -/
def vaultA (v a gen : Nat) (next : Int) (br : Bool) (L : List (List UInt8)) : Asset := fun w F => ∃ vl G, Blk w v 102 (vCells a gen next vl br) ∧ F v ∧ listA vl L w G ∧ ¬ G v ∧ ∀ k, G k → F k
theorem good_vaultA (v a gen : Nat) (next : Int) (br : Bool) (L : List (List UInt8)) : Good (vaultA v a gen next br L) := ⟨fun ⟨vl, G, hb, hv, hl, hn, hG⟩ hk hF => ⟨vl, G, hb.keep hk (hF _ hv), hv, (good_listA vl L).keep hl hk (fun k h => hF _ (hG k h)), hn, hG⟩⟩
theorem St.vault {B : Nat} {w0 w : World} {As : List Asset} (h : St B w0 w As) (j : Nat) {v a gen : Nat} {next : Int} {br : Bool} {L : List (List UInt8)} (hj : As[j]? = some (vaultA v a gen next br L)) : ∃ vl, Blk w v 102 (vCells a gen next vl br) := by
  obtain ⟨F, ⟨vl, G, hb, _⟩, _⟩ := h.open j hj
  exact ⟨vl, hb⟩
/-- records are written one behind the other -/
def recsD (f t g : Int) : List (List UInt8) → Int → Dev → Int × Dev × Int
  | [], p, d => (0, d, p)
  | r :: L, p, d => if (logWrite d f t g p r).1.2 = 0 then recsD f t g L (logWrite d f t g p r).1.1 (logWrite d f t g p r).2 else ((logWrite d f t g p r).1.2, (logWrite d f t g p r).2, p)
theorem logWrite_next {d : Dev} {f t g p : Int} {r : List UInt8} (h : (logWrite d f t g p r).1.2 = 0) : 0 ≤ p ∧ (logWrite d f t g p r).1.1 = p + needOf r.length ∧ p + needOf r.length ≤ t - f ∧ 0 ≤ f ∧ t ≤ d.img.length := by
  unfold logWrite at h ⊢
  split at h
  · rename_i h1; exact absurd h h1
  · rename_i h1
    have hc := check_ok h1
    rw [if_neg h1]
    split at h
    · simp at h
    · rename_i h2
      rw [if_neg h2]
      split at h
      · simp at h
      · rename_i h3
        rw [if_neg h3]
        split at h
        · simp at h
        · rename_i h4
          rw [if_neg h4]
          split at h
          · rename_i h5; exact absurd h h5
          · rename_i h5
            rw [if_neg h5]
            exact ⟨by omega, rfl, by omega, hc.1, hc.2.2.1⟩
theorem recsD_loose (f t g : Int) : ∀ (L : List (List UInt8)) (p : Int) (d : Dev), (recsD f t g L p d).2.1.loose.length ≤ d.loose.length + L.length * d.img.length ∧ (recsD f t g L p d).2.1.img.length = d.img.length
  | [], p, d => ⟨by simp [recsD], rfl⟩
  | r :: L, p, d => by
    have h1 := lwrite_loose d f t g p r
    unfold recsD
    split
    · have h2 := recsD_loose f t g L (logWrite d f t g p r).1.1 (logWrite d f t g p r).2
      rw [h1.2] at h2
      refine ⟨?_, h2.2⟩
      rw [List.length_cons, Nat.succ_mul]; omega
    · refine ⟨?_, h1.2⟩
      rw [List.length_cons, Nat.succ_mul]
      show (logWrite d f t g p r).2.loose.length ≤ _
      omega
/-- what moves holds beside the rest -/
def mvX (bv bl bg bt ba v : Nat) (lo : Option Addr) (len c gen : Nat) (p : Int) (f t : Nat) (Y : List Asset) : List Asset :=
  [blkA bv 34 [ptr v], blkA bl 39 [.slice lo len c], blkA bg 3 [.int .i64 gen], blkA bt 3 [.int .i64 p], blkA ba 99 [.int .i64 f, .int .i64 t, .int .i64 gen]] ++ Y
theorem set_mid {As X : List Asset} {i : Nat} {A C : Asset} (hi : As[i]? = some A) : (As.set i C ++ X)[i]? = some C := get_pre (set_get hi)
theorem set_beside {As X : List Asset} {i j : Nat} {C D : Asset} (hj : As[j]? = some D) (hij : i ≠ j) : (As.set i C ++ X)[j]? = some D := get_pre (by rw [List.getElem?_set_ne hij]; exact hj)
theorem set_post {As X : List Asset} {i : Nat} {C : Asset} (k : Nat) {D : Asset} (hk : X[k]? = some D) : (As.set i C ++ X)[As.length + k]? = some D := by
  have := get_post (As := As.set i C) k hk
  rwa [List.length_set] at this
theorem set_twice' {As X : List Asset} {i : Nat} {A C D : Asset} (hi : As[i]? = some A) : (As.set i C ++ X).set i D = As.set i D ++ X := by
  rw [set_pre (set_get hi), set_twice]
theorem set_postTurn {As X : List Asset} {i : Nat} {C : Asset} (k : Nat) {D : Asset} : (As.set i C ++ X).set (As.length + k) D = As.set i C ++ X.set k D := by
  rw [List.set_append_right _ _ (by rw [List.length_set]; omega), List.length_set, Nat.add_sub_cancel_left]
set_option maxRecDepth 100000 in
set_option maxHeartbeats 1000000 in
theorem vmoves2 {B : Nat} {w0 w : World} {As : List Asset} {a : Nat} {d : Dev} (i : Nat) (hi : As[i]? = some (dev a d)) (j v gen : Nat) (next : Int) (br : Bool) (Lv : List (List UInt8)) (hj : As[j]? = some (vaultA v a gen next br Lv)) (hij : i ≠ j) (bv bl bg bt ba : Nat) (lo : Option Addr) (len c gen' : Nat) (f t : Nat) (Y : List Asset) (p : Int) (s : Dev) (h : St B w0 w (As.set i (dev a s) ++ mvX bv bl bg bt ba v lo len c gen' p f t Y)) (hlo : s.loose.length ≤ 1073000000) :
    Calls Tryz.prog 101 #[ptr bv, ptr ba] w fun e w' => e = .returned (.int .i64 (blankOf s (f : Nat) (t : Nat) (gen' : Nat)).1) ∧ St B w0 w' (As.set i (dev a (blankOf s (f : Nat) (t : Nat) (gen' : Nat)).2) ++ mvX bv bl bg bt ba v lo len c gen' p f t Y) := by
  obtain ⟨vl, hvb⟩ := h.vault j (set_beside hj hij)
  have cv := hvb.cell (j := 0) rfl
  have cb := (h.blk (As.length + 0) (set_post 0 rfl)).cell (j := 0) rfl
  have hba := h.blk (As.length + 4) (set_post 4 rfl)
  have ca0 := hba.cell (j := 0) rfl
  have ca1 := hba.cell (j := 1) rfl
  have ca2 := hba.cell (j := 2) rfl
  have cg := (h.blk (As.length + 2) (set_post 2 rfl)).cell (j := 0) rfl
  unfold ptr at cb cv
  have H := hid h; have HI := hid hi; have HJ := hid hj
  clear h hi hj hvb hba cg
  unfold ptr
  go_enter Tryz.func101, Tryz.ntmps101
  go_upto_region 1 with fail
  refine wp_region_held_drew (S := fun w' => w'.cell? ⟨bv, 0, none⟩ = some (.pointer (some ⟨v, 0, none⟩)) ∧ w'.cell? ⟨v, 0, none⟩ = some (.pointer (some ⟨a, 0, none⟩)) ∧ w'.cell? ⟨ba, 0, none⟩ = some (.int .i64 (f : Nat)) ∧ w'.cell? ⟨ba, 1, none⟩ = some (.int .i64 (t : Nat)) ∧ w'.cell? ⟨ba, 2, none⟩ = some (.int .i64 (gen' : Nat))) (by kernel_rfl) ⟨cb, cv, ca0, ca1, ca2⟩ (fun hS => ?_)
  refine tkH (i := 0) (v := ?v0x1z) (y := Or.inl ⟨by rfl, ?y0x1z⟩) (s := hS) (h := ?r0x1z)
  case y0x1z => (intro w' hSw; (try dsimp only at hSw); go_simp; (try with_reducible rfl))
  simp only [Act.put, sA, sB, sC]
  refine tkH (i := 1) (v := ?v1x2z) (y := Or.inl ⟨by rfl, ?y1x2z⟩) (s := hS) (h := ?r1x2z)
  case y1x2z => (intro w' hSw; (try dsimp only at hSw); go_simp; (try with_reducible rfl))
  simp only [Act.put, sA, sB, sC]
  refine tkH (i := 2) (v := ?v2x3z) (y := Or.inl ⟨by rfl, ?y2x3z⟩) (s := hS) (h := ?r2x3z)
  case y2x3z => (intro w' hSw; (try dsimp only at hSw); go_simp; (try with_reducible rfl))
  simp only [Act.put, sA, sB, sC]
  refine tkH (i := 3) (v := ?v3x4z) (y := Or.inl ⟨by rfl, ?y3x4z⟩) (s := hS) (h := ?r3x4z)
  case y3x4z => (intro w' hSw; (try dsimp only at hSw); go_simp; (try with_reducible rfl))
  simp only [Act.put, sA, sB, sC]
  refine tkH (i := 4) (v := ?v4x5z) (y := Or.inl ⟨by rfl, ?y4x5z⟩) (s := hS) (h := ?r4x5z)
  case y4x5z => (intro w' hSw; (try dsimp only at hSw); go_simp; (try with_reducible rfl))
  simp only [Act.put, sA, sB, sC]
  refine rdH (i := 5) (h := fun K hK => ?_)
  go_simp
  refine ((H.out.below (Below.refl _ _).drew).log_blank i (set_mid HI.out) (f : Nat) (t : Nat) (gen' : Nat) (by omega)).mono ?_
  rintro e w7 ⟨rfl, h7⟩
  rw [set_twice' HI.out] at h7
  have H7 := hid h7
  obtain ⟨vl', hvb'⟩ := H7.out.vault j (set_beside HJ.out hij)
  have hb0 := hvb'.cell (j := 0) rfl
  have hb1 := (H7.out.blk (As.length + 0) (set_post 0 rfl)).cell (j := 0) rfl
  have hb2 := H7.out.blk (As.length + 4) (set_post 4 rfl)
  unfold ptr at hb0 hb1
  have hS7 := And.intro hb1 (And.intro hb0 (And.intro (hb2.cell (j := 0) rfl) (And.intro (hb2.cell (j := 1) rfl) (hb2.cell (j := 2) rfl))))
  clear h7 hvb' hb0 hb1 hb2
  refine hK.out _ _ ?k5x6z (fun hS => ?s5x6z)
  case k5x6z => exact hS7
  clear hK K
  try simp only [Act.put, sA, sB, sC]
  refine tkH (i := 6) (v := ?v6x7z) (y := Or.inl ⟨by rfl, ?y6x7z⟩) (s := hS) (h := ?r6x7z)
  case y6x7z => (intro w' hSw; (try dsimp only at hSw); go_simp; (try with_reducible rfl))
  simp only [Act.put, sA, sB, sC]
  refine wpAnyH_done (by kernel_rfl) ?_ _
  go_wp2
  go_ret
  exact ⟨rfl, H7.out⟩
theorem St.v_counts {B : Nat} {w0 w : World} {As : List Asset} {a : Nat} {d : Dev} (h : St B w0 w As) (i : Nat) (hi : As[i]? = some (dev a d)) (gen : Nat) (hg : gen ≤ 2147483648) (hlo : d.loose.length ≤ 1073741824) :
    Calls Tryz.prog 88 #[ptr a, .int .i64 gen] w fun e w' => e = .returned (.int .i64 (countsD d gen).1) ∧ St B w0 w' (As.set i (dev a (countsD d gen).2)) := vcounts_any h i hi gen hg hlo
set_option maxRecDepth 100000 in
set_option maxHeartbeats 1000000 in
theorem vmoves3 {B : Nat} {w0 w : World} {As : List Asset} {a : Nat} {d : Dev} (i : Nat) (hi : As[i]? = some (dev a d)) (j v gen : Nat) (next : Int) (br : Bool) (Lv : List (List UInt8)) (hj : As[j]? = some (vaultA v a gen next br Lv)) (hij : i ≠ j) (bv bl bg bt ba : Nat) (lo : Option Addr) (len c gen' : Nat) (f t : Nat) (Y : List Asset) (hg : gen' ≤ 2147483648) (p : Int) (s : Dev) (h : St B w0 w (As.set i (dev a s) ++ mvX bv bl bg bt ba v lo len c gen' p f t Y)) (hlo : s.loose.length ≤ 1073000000) :
    Calls Tryz.prog 102 #[ptr bv, ptr bg] w fun e w' => e = .returned (.int .i64 (countsD s gen').1) ∧ St B w0 w' (As.set i (dev a (countsD s gen').2) ++ mvX bv bl bg bt ba v lo len c gen' p f t Y) := by
  obtain ⟨vl, hvb⟩ := h.vault j (set_beside hj hij)
  have cv := hvb.cell (j := 0) rfl
  have cb := (h.blk (As.length + 0) (set_post 0 rfl)).cell (j := 0) rfl
  have hba := h.blk (As.length + 4) (set_post 4 rfl)
  have ca0 := hba.cell (j := 0) rfl
  have ca1 := hba.cell (j := 1) rfl
  have ca2 := hba.cell (j := 2) rfl
  have cg := (h.blk (As.length + 2) (set_post 2 rfl)).cell (j := 0) rfl
  unfold ptr at cb cv
  have H := hid h; have HI := hid hi; have HJ := hid hj
  clear h hi hj hvb hba ca0 ca1 ca2
  unfold ptr
  go_enter Tryz.func102, Tryz.ntmps102
  go_upto_region 1 with fail
  refine wp_region_held_drew (S := fun w' => w'.cell? ⟨bv, 0, none⟩ = some (.pointer (some ⟨v, 0, none⟩)) ∧ w'.cell? ⟨v, 0, none⟩ = some (.pointer (some ⟨a, 0, none⟩)) ∧ w'.cell? ⟨bg, 0, none⟩ = some (.int .i64 (gen' : Nat))) (by kernel_rfl) ⟨cb, cv, cg⟩ (fun hS => ?_)
  refine tkH (i := 0) (v := ?v0x1z) (y := Or.inl ⟨by rfl, ?y0x1z⟩) (s := hS) (h := ?r0x1z)
  case y0x1z => (intro w' hSw; (try dsimp only at hSw); go_simp; (try with_reducible rfl))
  simp only [Act.put, sA, sB, sC]
  refine tkH (i := 1) (v := ?v1x2z) (y := Or.inl ⟨by rfl, ?y1x2z⟩) (s := hS) (h := ?r1x2z)
  case y1x2z => (intro w' hSw; (try dsimp only at hSw); go_simp; (try with_reducible rfl))
  simp only [Act.put, sA, sB, sC]
  refine tkH (i := 2) (v := ?v2x3z) (y := Or.inl ⟨by rfl, ?y2x3z⟩) (s := hS) (h := ?r2x3z)
  case y2x3z => (intro w' hSw; (try dsimp only at hSw); go_simp; (try with_reducible rfl))
  simp only [Act.put, sA, sB, sC]
  refine tkH (i := 3) (v := ?v3x4z) (y := Or.inl ⟨by rfl, ?y3x4z⟩) (s := hS) (h := ?r3x4z)
  case y3x4z => (intro w' hSw; (try dsimp only at hSw); go_simp; (try with_reducible rfl))
  simp only [Act.put, sA, sB, sC]
  refine tkH (i := 4) (v := ?v4x5z) (y := Or.inl ⟨by rfl, ?y4x5z⟩) (s := hS) (h := ?r4x5z)
  case y4x5z => (intro w' hSw; (try dsimp only at hSw); go_simp; (try with_reducible rfl))
  simp only [Act.put, sA, sB, sC]
  refine rdH (i := 5) (h := fun K hK => ?_)
  go_simp
  refine ((H.out.below (Below.refl _ _).drew).v_counts i (set_mid HI.out) gen' hg (by omega)).mono ?_
  rintro e w7 ⟨rfl, h7⟩
  rw [set_twice' HI.out] at h7
  have H7 := hid h7
  obtain ⟨vl', hvb'⟩ := H7.out.vault j (set_beside HJ.out hij)
  have hb0 := hvb'.cell (j := 0) rfl
  have hb1 := (H7.out.blk (As.length + 0) (set_post 0 rfl)).cell (j := 0) rfl
  have hb2 := H7.out.blk (As.length + 2) (set_post 2 rfl)
  unfold ptr at hb0 hb1
  have hS7 := And.intro hb1 (And.intro hb0 (hb2.cell (j := 0) rfl))
  clear h7 hvb' hb0 hb1 hb2
  refine hK.out _ _ ?k5x6z (fun hS => ?s5x6z)
  case k5x6z => exact hS7
  clear hK K
  try simp only [Act.put, sA, sB, sC]
  refine tkH (i := 6) (v := ?v6x7z) (y := Or.inl ⟨by rfl, ?y6x7z⟩) (s := hS) (h := ?r6x7z)
  case y6x7z => (intro w' hSw; (try dsimp only at hSw); go_simp; (try with_reducible rfl))
  simp only [Act.put, sA, sB, sC]
  refine wpAnyH_done (by kernel_rfl) ?_ _
  go_wp2
  go_ret
  exact ⟨rfl, H7.out⟩
set_option maxRecDepth 100000 in
set_option maxHeartbeats 2000000 in
theorem vmoves1 {B : Nat} {w0 w : World} {As : List Asset} {a : Nat} {d : Dev} (i : Nat) (hi : As[i]? = some (dev a d)) (j v gen : Nat) (next : Int) (br : Bool) (Lv : List (List UInt8)) (hj : As[j]? = some (vaultA v a gen next br Lv)) (hij : i ≠ j) (bv bl bg bt ba : Nat) (lo : Option Addr) (len c gen' : Nat) (f t : Nat) (Y : List Asset) (p0 : Int) (hp0 : 0 ≤ p0 ∧ p0 ≤ 65536) (L : List (List UInt8)) (hlen : len = L.length) (hl1 : len ≤ 1000) (hL : LentI B w0 As i lo L) (hl2 : ∀ l ∈ L, l.length ≤ 1073741824) (s : Dev) (h : St B w0 w (As.set i (dev a s) ++ mvX bv bl bg bt ba v lo len c gen' p0 f t Y)) (hlo : s.loose.length ≤ 500000000) :
    Calls Tryz.prog 100 #[ptr bl, ptr bv, ptr ba, ptr bt] w fun e w' => e = .returned (.int .i64 (recsD (f : Nat) (t : Nat) (gen' : Nat) L p0 s).1) ∧ St B w0 w' (As.set i (dev a (recsD (f : Nat) (t : Nat) (gen' : Nat) L p0 s).2.1) ++ mvX bv bl bg bt ba v lo len c gen' (recsD (f : Nat) (t : Nat) (gen' : Nat) L p0 s).2.2 f t Y) := by
  have cl := (h.blk (As.length + 1) (set_post 1 rfl)).cell (j := 0) rfl
  have hok := (h.ok i (set_mid hi)).len
  have H := hid h; have HI := hid hi; have HJ := hid hj; have HL := hid hL; have HLEN := hid hlen; have HL2 := hid hl2
  obtain ⟨n, hn⟩ : ∃ n, s.img.length = n := ⟨_, rfl⟩
  have HN := hid hn
  rw [hn] at hok
  clear h hi hj hL hlen hl2 hn
  unfold ptr
  go_enter Tryz.func100, Tryz.ntmps100
  go_wp2_with fail
  go_loopw [11] (fun x wr => ∃ (k : Nat) (p : Int) (dk : Dev), k ≤ len ∧ x = .int .i64 k ∧ (0 ≤ p ∧ p ≤ 65536) ∧ dk.loose.length ≤ s.loose.length + k * n ∧ dk.img.length = n ∧ recsD (f : Nat) (t : Nat) (gen' : Nat) L p0 s = recsD (f : Nat) (t : Nat) (gen' : Nat) (L.drop k) p dk ∧ St B w0 wr (As.set i (dev a dk) ++ mvX bv bl bg bt ba v lo len c gen' p f t Y)) (fun x _ => len - (intOf x).toNat)
  case atStart => exact ⟨0, p0, s, Nat.zero_le _, rfl, hp0, by omega, HN.out, rfl, H.out⟩
  case round =>
    obtain ⟨k, p, dk, hk, rfl, hp, hlk, hik, hrec, hs⟩ := hrel
    have HREC := hid hrec; have H := hid hs
    clear hrec hs
    have hkn : k * n ≤ 1000 * 65536 := Nat.mul_le_mul (by omega) hok
    by_cases hlt : k < len
    · obtain ⟨r, hr⟩ : ∃ r, L[k]? = some r := ⟨_, List.getElem?_eq_getElem (by rw [← HLEN.out]; exact hlt)⟩
      have hrm := HL2.out r (List.mem_of_getElem? hr)
      obtain ⟨b, o, ro, rc, rfl, cr, hw⟩ := H.out.log_writeL i (set_mid HI.out) (HL.out.set (dev a dk)).app (f : Nat) (t : Nat) (gen' : Nat) p k r hr (by omega) (by omega) (by omega)
      have HR := hid hr; have HW := hid hw
      have hdrop : L.drop k = r :: L.drop (k + 1) := by
        have hkl : k < L.length := (List.getElem?_eq_some_iff.1 hr).1
        rw [List.drop_eq_getElem_cons hkl, (List.getElem?_eq_some_iff.1 hr).2]
      have HD := hid hdrop
      clear hr hw hdrop
      obtain ⟨q, hq⟩ : ∃ q, r.length = q := ⟨_, rfl⟩
      rw [hq] at cr hrm HW
      clear hq
      obtain ⟨vl, hvb⟩ := H.out.vault j (set_beside HJ.out hij)
      have cv := hvb.cell (j := 0) rfl
      have cb := (H.out.blk (As.length + 0) (set_post 0 rfl)).cell (j := 0) rfl
      have hba := H.out.blk (As.length + 4) (set_post 4 rfl)
      have ca0 := hba.cell (j := 0) rfl
      have ca1 := hba.cell (j := 1) rfl
      have ca2 := hba.cell (j := 2) rfl
      have ct := (H.out.blk (As.length + 3) (set_post 3 rfl)).cell (j := 0) rfl
      unfold ptr at cb cv
      clear hvb hba
      go_upto_region 4 with fail
      refine wp_region_held_drew (S := fun w' => w'.cell? ⟨bv, 0, none⟩ = some (.pointer (some ⟨v, 0, none⟩)) ∧ w'.cell? ⟨v, 0, none⟩ = some (.pointer (some ⟨a, 0, none⟩)) ∧ w'.cell? ⟨ba, 0, none⟩ = some (.int .i64 (f : Nat)) ∧ w'.cell? ⟨ba, 1, none⟩ = some (.int .i64 (t : Nat)) ∧ w'.cell? ⟨ba, 2, none⟩ = some (.int .i64 (gen' : Nat)) ∧ w'.cell? ⟨bt, 0, none⟩ = some (.int .i64 p)) (by kernel_rfl) ⟨cb, cv, ca0, ca1, ca2, ct⟩ (fun hS => ?_)
      refine tkH (i := 0) (v := ?v0x1z) (y := Or.inl ⟨by rfl, ?y0x1z⟩) (s := hS) (h := ?r0x1z)
      case y0x1z => (intro w' hSw; (try dsimp only at hSw); go_simp; (try with_reducible rfl))
      simp only [Act.put, sA, sB, sC]
      refine tkH (i := 1) (v := ?v1x2z) (y := Or.inl ⟨by rfl, ?y1x2z⟩) (s := hS) (h := ?r1x2z)
      case y1x2z => (intro w' hSw; (try dsimp only at hSw); go_simp; (try with_reducible rfl))
      simp only [Act.put, sA, sB, sC]
      refine tkH (i := 2) (v := ?v2x3z) (y := Or.inl ⟨by rfl, ?y2x3z⟩) (s := hS) (h := ?r2x3z)
      case y2x3z => (intro w' hSw; (try dsimp only at hSw); go_simp; (try with_reducible rfl))
      simp only [Act.put, sA, sB, sC]
      refine tkH (i := 3) (v := ?v3x4z) (y := Or.inl ⟨by rfl, ?y3x4z⟩) (s := hS) (h := ?r3x4z)
      case y3x4z => (intro w' hSw; (try dsimp only at hSw); go_simp; (try with_reducible rfl))
      simp only [Act.put, sA, sB, sC]
      refine tkH (i := 4) (v := ?v4x5z) (y := Or.inl ⟨by rfl, ?y4x5z⟩) (s := hS) (h := ?r4x5z)
      case y4x5z => (intro w' hSw; (try dsimp only at hSw); go_simp; (try with_reducible rfl))
      simp only [Act.put, sA, sB, sC]
      refine tkH (i := 5) (v := ?v5x6z) (y := Or.inl ⟨by rfl, ?y5x6z⟩) (s := hS) (h := ?r5x6z)
      case y5x6z => (intro w' hSw; (try dsimp only at hSw); go_simp; (try with_reducible rfl))
      simp only [Act.put, sA, sB, sC]
      refine tkH (i := 6) (v := ?v6x7z) (y := Or.inl ⟨by rfl, ?y6x7z⟩) (s := hS) (h := ?r6x7z)
      case y6x7z => (intro w' hSw; (try dsimp only at hSw); go_simp; (try with_reducible rfl))
      simp only [Act.put, sA, sB, sC]
      refine rdH (i := 7) (h := fun K hK => ?_)
      go_simp
      refine (HW.out _ (Below.refl _ _).drew).mono ?_
      rintro e w7 ⟨rfl, h7⟩
      rw [set_twice' HI.out] at h7
      have H7 := hid h7
      obtain ⟨vl', hvb'⟩ := H7.out.vault j (set_beside HJ.out hij)
      have hb0 := hvb'.cell (j := 0) rfl
      have hb1 := (H7.out.blk (As.length + 0) (set_post 0 rfl)).cell (j := 0) rfl
      have hb2 := H7.out.blk (As.length + 4) (set_post 4 rfl)
      unfold ptr at hb0 hb1
      have hS7 := And.intro hb1 (And.intro hb0 (And.intro (hb2.cell (j := 0) rfl) (And.intro (hb2.cell (j := 1) rfl) (And.intro (hb2.cell (j := 2) rfl) ((H7.out.blk (As.length + 3) (set_post 3 rfl)).cell (j := 0) rfl)))))
      clear h7 hvb' hb0 hb1 hb2
      refine hK.out _ _ ?k7x8z (fun hS => ?s7x8z)
      case k7x8z => exact hS7
      clear hK K
      try simp only [Act.put, sA, sB, sC]
      refine tkH (i := 8) (v := ?v8x9z) (y := Or.inl ⟨by rfl, ?y8x9z⟩) (s := hS) (h := ?r8x9z)
      case y8x9z => (intro w' hSw; (try dsimp only at hSw); go_simp; (try with_reducible rfl))
      simp only [Act.put, sA, sB, sC]
      refine tkH (i := 9) (v := ?v9x10z) (y := Or.inl ⟨by rfl, ?y9x10z⟩) (s := hS) (h := ?r9x10z)
      case y9x10z => (intro w' hSw; (try dsimp only at hSw); go_simp; (try with_reducible rfl))
      simp only [Act.put, sA, sB, sC]
      refine tkH (i := 10) (v := ?v10x11z) (y := Or.inl ⟨by rfl, ?y10x11z⟩) (s := hS) (h := ?r10x11z)
      case y10x11z => (intro w' hSw; (try dsimp only at hSw); go_simp; (try with_reducible rfl))
      simp only [Act.put, sA, sB, sC]
      refine tkH (i := 11) (v := ?v11x12z) (y := Or.inl ⟨by rfl, ?y11x12z⟩) (s := hS) (h := ?r11x12z)
      case y11x12z => (intro w' hSw; (try dsimp only at hSw); go_simp; (try with_reducible rfl))
      simp only [Act.put, sA, sB, sC]
      refine tkH (i := 12) (v := ?v12x13z) (y := Or.inl ⟨by rfl, ?y12x13z⟩) (s := hS) (h := ?r12x13z)
      case y12x13z => (intro w' hSw; (try dsimp only at hSw); go_simp; (try with_reducible rfl))
      simp only [Act.put, sA, sB, sC]
      refine wpAnyH_done (by kernel_rfl) ?_ _
      generalize hx : logWrite dk (f : Nat) (t : Nat) (gen' : Nat) p r = x at H7
      obtain ⟨⟨nx, ex⟩, dx⟩ := x
      have HX := hid hx
      clear hx hS hS7
      dsimp only at H7 ⊢
      by_cases hex : ex = 0
      · subst hex
        have hnx := logWrite_next (d := dk) (f := (f : Nat)) (t := (t : Nat)) (g := (gen' : Nat)) (p := p) (r := r) (by rw [HX.out])
        rw [HX.out] at hnx
        have hlx := lwrite_loose dk (f : Nat) (t : Nat) (gen' : Nat) p r
        rw [HX.out] at hlx
        dsimp only at hnx hlx
        have hsm : (k + 1) * n = k * n + n := Nat.succ_mul k n
        have hnb : 0 ≤ nx ∧ nx ≤ 65536 := by omega
        have hlb : dx.loose.length ≤ s.loose.length + (k + 1) * n := by omega
        have hib : Hid (dx.img.length = n) := hid (by omega)
        have HR2 : Hid (recsD (f : Nat) (t : Nat) (gen' : Nat) L p0 s = recsD (f : Nat) (t : Nat) (gen' : Nat) (L.drop (k + 1)) nx dx) := hid (by rw [HREC.out, HD.out, recsD, HX.out, if_pos rfl])
        clear hnx hlx hsm
        have ct := (H7.out.blk (As.length + 3) (set_post 3 rfl)).cell (j := 0) rfl
        have ft := (H7.out.blk (As.length + 3) (set_post 3 rfl)).free 0
        go_wp2_with fail
        have h8 := H7.out.blkTurn (As.length + 3) (set_post 3 rfl) ((Keep.refl (fun k => k = bt) w7).setCell (p := ⟨bt, 0, none⟩) rfl (.int .i64 nx)) ((H7.out.blk (As.length + 3) (set_post 3 rfl)).set 0 (.int .i64 nx))
        rw [set_postTurn] at h8
        have H8 : Hid (St B w0 (w7.setCell ⟨bt, 0, none⟩ (.int .i64 nx)) (As.set i (dev a dx) ++ mvX bv bl bg bt ba v (some ⟨b, o, none⟩) len c gen' nx f t Y)) := hid h8
        clear h8 ct ft
        go_roundw
        case rel => exact ⟨k + 1, nx, dx, by omega, by go_num, hnb, hlb, hib.out, HR2.out, H8.out⟩
        case measure => simp [intOf]; omega
      · have hne : (ex != 0) = true := by simpa using hex
        have hnz := hid hex
        clear hex
        have HR2 : Hid (recsD (f : Nat) (t : Nat) (gen' : Nat) L p0 s = (ex, dx, p)) := hid (by rw [HREC.out, HD.out, recsD, HX.out, if_neg hnz.out])
        go_wp2
        go_ret
        rw [HR2.out]
        exact ⟨rfl, H7.out⟩
    · obtain rfl : k = len := by omega
      have HR2 : Hid (recsD (f : Nat) (t : Nat) (gen' : Nat) L p0 s = (0, dk, p)) := hid (by rw [HREC.out, List.drop_of_length_le (by rw [HLEN.out]; exact Nat.le_refl _), recsD])
      go_wp2
      go_ret
      rw [HR2.out]
      exact ⟨rfl, H.out⟩
end Go.Proofs.YtlondopgibcikaaGreat
namespace Go.Proofs.YtlondopgibcikaaGreat
open Go.RowKit Ent
theorem alloc_old_z (w : World) (o : Obj) (i : Nat) (h : i < w.heap.size) : (w.alloc o).heap[i]? = w.heap[i]? := by
  show (w.heap.push o)[i]? = w.heap[i]?
  rw [Array.getElem?_push, if_neg (Nat.ne_of_lt h)]
theorem zero_bv (m : Nat) : (Builtin.zeroCells (Value.cells (.int .u8 0)) m).toList = bv (zr m) := by
  apply List.ext_getElem?
  intro i
  by_cases hi : i < m
  · simp [Builtin.zeroCells, bv, zr, hi, Value.cells, Nat.mod_one]
  · simp [Builtin.zeroCells, bv, zr, hi, Value.cells]; try omega
theorem run_append_Z (w : World) (ty : TypeId) (base : Nat) (v : Value) (n : Nat) (xs : List UInt8) (hown : w.ownsRow base 5 1 v n (bv xs)) (hn : 0 < n) (m : Nat) (hm : 0 < m)
    (hb : n + m ≤ 1099511627776) (hbase : base ≤ w.heap.size) :
    ∃ v' w', (Builtin.append_ #[44, 3] ty #[v, .int .i64 m]).run Tryz.prog w = .ok v' w' ∧ w'.ownsRow base 5 1 v' (n + m) (bv (xs ++ zr m)) ∧ w.grownBy w' v.ownBlock := by
  obtain ⟨i, hi, hz0, hz1, hz2⟩ := info_u8
  have hxl : (bv xs).length = n := by simpa using hown.1
  have hlen : (bv (xs ++ zr m)).length = (n + m) * 1 := by simp [bv, zr] at hxl ⊢; omega
  have hZ := zero_bv m
  have hzl : (bv (zr m)).length = m := by simp [bv, zr]
  rcases hown.2 with ⟨_, rfl⟩ | ⟨g, cap, cur, rfl, hbg, hg, hnc, hcm, hcs, htake⟩
  · omega
  · simp only [Nat.mul_one] at hcs htake
    by_cases hroom : n + m ≤ cap
    · have hfit : n + (bv (zr m)).length ≤ cur.size := by omega
      have hst := run_storeCells_at Tryz.prog g n 5 (bv (zr m)) 0 cur w hg (by simpa using hfit) (bv_one _)
      simp only [Nat.add_zero] at hst
      have hwr : IntKind.i64.wrap (m : Int) = m := by rw [IntKind.wrap_i64]; omega
      have hneg : ¬ ((m : Int) < 0) := by omega
      have h48 : ¬ (281474976710656 < (m : Int)) := by omega
      have hm0 : m ≠ 0 := by omega
      refine ⟨.slice (some ⟨g, 0, none⟩) (n + m) cap, w.setRow g (cur.toList.take n ++ bv (zr m) ++ cur.toList.drop (n + (bv (zr m)).length)).toArray, ?_, ⟨hlen, .inr ⟨g, cap, _, rfl, hbg, setRow_heap w g cur _ 5 _ hg, hroom, hcm, ?_, ?_⟩⟩, ⟨rfl, rfl, rfl, by simp, fun k _ hk => setRow_other w g k _ (fun e => hk (by simp [Value.ownBlock, e]))⟩⟩
      · simp [Builtin.append_, run_underlying Tryz.underlying44, run_underlying Tryz.underlying3, sizeOf, typeInfo, zeroValue, hi, hz0, hz1, hz2, asInt, asIntOf, hwr, hneg, h48, hm0, hroom, Addr.add_lit, hZ, hst]
      · simp only [List.size_toArray, List.length_append, List.length_take, List.length_drop, Array.length_toList]
        omega
      · rw [htake, ← bv_append, ← hlen]
        exact List.take_left
    · have hr := Go.Lib.run_append_grow_zeros (P := Tryz.prog) w 44 3 ty 5 i (.int .u8 0) .i64 .i64 Tryz.underlying44 Tryz.underlying3 hi hz0 (some ⟨g, 0, none⟩) n cap (bv xs)
        (by rw [hz1]; exact run_firstCells_some (P := Tryz.prog) w.drew 1 n ⟨g, 0, none⟩ n cap (bv xs) (by omega) (fun j u hu => by have := hown.cells (g := g) rfl j u hu; exact this))
        m hm (by omega) (by omega) (by omega) (by rw [hz2]; omega) (by rw [hz2]; exact growslice_fits (by omega) (by omega))
      have hge := grownCap_ge w (n + m) cap 5
      have hcm2 : grownCap w (n + m) cap 5 ≤ maxLen := grownCap_le_maxLen w (n + m) cap 5 (by simp [maxLen]; omega)
      refine ⟨_, _, hr, ⟨hlen, .inr ⟨w.heap.size, _, _, rfl, hbase, heap_alloc_new w.drew _, hge, hcm2, ?_, ?_⟩⟩, ⟨rfl, rfl, rfl, by simp, fun k hk _ => alloc_old_z w.drew _ k hk⟩⟩
      · simp only [Array.size_append, List.size_toArray, size_zeroCells, hxl]
        simp [Value.cells]
        omega
      · rw [Nat.mul_one, Array.toList_append, Array.toList_append, hZ, ← bv_append]
        rw [show n + m = (bv (xs ++ zr m)).length by omega]
        exact List.take_left
theorem wpl_appendZs {w : World} {ops : Array Oper} {rest : List Oper} {o : Oper} {a : Act} {Q : Exit → Act → World → Prop} (hgd : o.guard = none) (s x : Operand)
    (ho : o.op = .call { callee := .builtin .append, args := #[s, x], argTypes := #[44, 3] })
    (base : Nat) (v : Value) (n m : Nat) (xs : List UInt8) (hs : a.eval s = v) (hx : a.eval x = .int .i64 m) (hown : w.ownsRow base 5 1 v n (bv xs)) (hn : 0 < n) (hm : 0 < m)
    (hb : n + m ≤ 1099511627776) (hbase : base ≤ w.heap.size)
    (h : ∀ v' w', w'.ownsRow base 5 1 v' (n + m) (bv (xs ++ zr m)) → w.grownBy w' v.ownBlock → wpList Tryz.prog ops Q rest (a.put o.dst v') w') : wpList Tryz.prog ops Q (o :: rest) a w := by
  obtain ⟨v', w', hr, h2, h3⟩ := run_append_Z w o.type base v n xs hown hn m hm hb hbase
  exact Go.Lib.wpList_append_run w hgd s x 44 3 ho v (.int .i64 m) hs hx v' w' hr (h v' w' h2 h3)
end Go.Proofs.YtlondopgibcikaaGreat
namespace Go.Proofs.YtlondopgibcikaaGreat
open Go.RowKit Ent
theorem be4_bv (n : Nat) (h : n < 4294967296) : bv (be4 n) = [.int .u8 ((n : Int) / 16777216), .int .u8 ((n : Int) / 65536 % 256), .int .u8 ((n : Int) / 256 % 256), .int .u8 ((n : Int) % 256)] := by
  rw [bz0 n h, bz1, bz2, bz3]; simp [be4, bv]
set_option maxRecDepth 100000 in
theorem four_any (n : Nat) (hn : n < 4294967296) (w : World) :
    Calls Tryz.prog 111 #[.int .i64 n] w fun e w' => e = .returned (.slice (some ⟨w.heap.size, 0, none⟩) 4 4) ∧ w' = w.alloc (.cells (bv (be4 n)).toArray 5) := by
  rw [be4_bv n hn]
  go_enter Tryz.func111, Tryz.ntmps111
  go_wp2
  go_ret
  exact ⟨rfl, rfl⟩
theorem four_own (n : Nat) {B : Nat} (w : World) (hB : B ≤ w.heap.size) : (w.alloc (.cells (bv (be4 n)).toArray 5)).ownsRow B 5 1 (.slice (some ⟨w.heap.size, 0, none⟩) 4 4) 4 (bv (be4 n)) :=
  ⟨by simp, .inr ⟨w.heap.size, 4, _, rfl, hB, alloc_new w _, Nat.le_refl _, by simp [maxLen], by simp, by rw [List.take_of_length_le (by simp)]⟩⟩
set_option maxRecDepth 100000 in
set_option maxHeartbeats 1000000 in
theorem rsuper_any (gen n : Nat) (hg : gen < 4294967296) (hn : n < 4294967296) (w : World) :
    Calls Tryz.prog 90 #[.int .i64 gen, .int .i64 n] w fun e w' => ∃ v, e = .returned v ∧ w'.ownsRow w.heap.size 5 1 v 64 (bv (supSec gen n)) ∧ Below w.heap.size w w' := by
  go_enter Tryz.func90, Tryz.ntmps90
  go_wp2_with fail
  refine (four_any gen hg _).mono ?_
  rintro e w1 ⟨rfl, hw1⟩
  have hb1 : Below w.heap.size w w1 := by rw [hw1]; exact fresh_alloc _ _
  have ho1 : w1.ownsRow w.heap.size 5 1 (.slice (some ⟨w.heap.size, 0, none⟩) 4 4) 4 (bv (be4 gen)) := by rw [hw1]; exact four_own gen w (Nat.le_refl _)
  have HB1 := hid hb1; have HO1 := hid ho1
  clear hb1 ho1 hw1
  go_wp2_with fail
  refine (four_any n hn _).mono ?_
  rintro e w2 ⟨rfl, hw2⟩
  have HB2 : Hid (Below w.heap.size w w2) := hid (by rw [hw2]; exact HB1.out.alloc HB1.out.size _)
  have HO2 : Hid (w2.ownsRow w.heap.size 5 1 (.slice (some ⟨w.heap.size, 0, none⟩) 4 4) 4 (bv (be4 gen))) := hid (by rw [hw2]; exact HO1.out.alloc _)
  have HS2 : Hid (SB w2 (some ⟨w1.heap.size, 0, none⟩) 4 (be4 n)) := hid (by rw [hw2]; exact SB.laid w1 (be4 n) _ 4)
  clear hw2
  go_wp2_with (first
    | (refine wpl_append rfl (.tmp 8) (.tmp 10) rfl w.heap.size _ 4 (be4 gen) (be4 n) rfl HO2.out _ 4 4 rfl rfl HS2.out (by omega) HB2.out.size ?_
       intro v3 w3 ho3 hg3 _
       have HB3 := hid (below_grown HB2.out HO2.out hg3 (Nat.le_refl _))
       have HO3 := hid ho3
       clear ho3 hg3)
    | (refine wpl_append rfl (.tmp 11) (.tmp 12) rfl w.heap.size _ 8 (be4 gen ++ be4 n) [7] rfl (HO3.out.alloc _) _ 1 1 rfl rfl (SB.laid w3 [7] _ 1) (by omega) (by have := HB3.out.size; simp; omega) ?_
       intro v4 w4 ho4 hg4 _
       have HB4 := hid (below_grown (HB3.out.alloc HB3.out.size _) (HO3.out.alloc _) hg4 (Nat.le_refl _))
       have HO4 := hid ho4
       clear ho4 hg4)
    | (refine wpl_appendZs rfl (.tmp 14) (.const (.int .i64 19)) rfl w.heap.size v4 9 19 (be4 gen ++ be4 n ++ [7]) rfl rfl HO4.out (by omega) (by omega) (by omega) HB4.out.size ?_
       intro v5 w5 ho5 hg5
       have HB5 := hid (below_grown HB4.out HO4.out hg5 (Nat.le_refl _))
       have HO5 : Hid (w5.ownsRow w.heap.size 5 1 v5 28 (bv (supBody gen n))) := hid (by
         have := ho5
         rw [show be4 gen ++ be4 n ++ [7] ++ zr 19 = supBody gen n by simp [supBody, List.append_assoc]] at this
         exact this)
       clear ho5 hg5))
  obtain ⟨a5, c5, rfl, _, hs5⟩ := SB.ofOwns HO5.out
  have HS5 := hid hs5
  clear hs5
  go_wp2_with fail
  refine (rsum_any a5 28 c5 (supBody gen n) rfl (by omega) _ HS5.out).mono ?_
  rintro e w6 ⟨rfl, hw6⟩
  subst w6
  have hcs : (csum (supBody gen n)).toNat < 4294967296 := (csum (supBody gen n)).isLt
  go_wp2_with fail
  refine (four_any (csum (supBody gen n)).toNat (by omega) _).mono ?_
  rintro e w7 ⟨rfl, hw7⟩
  have HB7 : Hid (Below w.heap.size w w7) := hid (by rw [hw7]; exact HB5.out.alloc HB5.out.size _)
  have HO7 : Hid (w7.ownsRow w.heap.size 5 1 (.slice (some ⟨w5.heap.size, 0, none⟩) 4 4) 4 (bv (be4 (csum (supBody gen n)).toNat))) := hid (by rw [hw7]; exact four_own _ w5 HB5.out.size)
  have HS7 : Hid (SB w7 a5 c5 (supBody gen n)) := hid (by rw [hw7]; exact HS5.out.below (fresh_alloc _ _))
  clear hw7
  go_wp2_with (first
    | (refine wpl_append rfl (.tmp 19) (.tmp 20) rfl w.heap.size _ 4 _ (supBody gen n) rfl HO7.out _ 28 c5 rfl (supBody_len gen n).symm HS7.out (by omega) HB7.out.size ?_
       intro v8 w8 ho8 hg8 _
       have HB8 := hid (below_grown HB7.out HO7.out hg8 (Nat.le_refl _))
       have HO8 : Hid (w8.ownsRow w.heap.size 5 1 v8 32 (bv (supHalf gen n))) := hid ho8
       clear ho8 hg8
       obtain ⟨a8, c8, rfl, _, hs8⟩ := SB.ofOwns HO8.out
       have HS8 := hid hs8
       clear hs8)
    | (refine wpl_append rfl (.tmp 22) (.tmp 23) rfl w.heap.size _ 0 [] (supHalf gen n) rfl (owns_emptyB HB8.out.size) _ 32 c8 rfl (supHalf_len gen n).symm (HS8.out.below (fresh_alloc _ _)) (by omega) (by have := HB8.out.size; simp; omega) ?_
       intro v9 w9 ho9 hg9 hn9
       have HB9 := hid (below_grown (HB8.out.alloc HB8.out.size _) (owns_emptyB HB8.out.size) hg9 (Nat.le_refl _))
       have HO9 : Hid (w9.ownsRow w.heap.size 5 1 v9 32 (bv (supHalf gen n))) := hid (by simpa using ho9)
       have HO8b : Hid (w9.ownsRow w.heap.size 5 1 (.slice a8 32 c8) 32 (bv (supHalf gen n))) := hid ((HO8.out.alloc _).kept hg9 (by
         cases a8 with
         | none => exact .inl rfl
         | some x =>
           right
           have := HO8.out.lt x.block rfl
           intro e
           have e2 : x.block = w8.heap.size := Option.some.inj e
           omega))
       clear ho9 hg9 hn9
       obtain ⟨a9, c9, hv9, _, hs9⟩ := SB.ofOwns HO8b.out
       obtain ⟨rfl, rfl⟩ : a8 = a9 ∧ c8 = c9 := by simpa using hv9
       have HS9 := hid hs9
       clear hs9 hv9)
    | (refine wpl_append rfl (.tmp 24) (.tmp 25) rfl w.heap.size _ 32 (supHalf gen n) (supHalf gen n) rfl HO9.out _ 32 c8 rfl (supHalf_len gen n).symm HS9.out (by omega) HB9.out.size ?_
       intro v10 w10 ho10 hg10 _
       have HB10 := hid (below_grown HB9.out HO9.out hg10 (Nat.le_refl _))
       have HO10 := hid ho10
       clear ho10 hg10))
  go_ret
  exact ⟨_, rfl, HO10.out, HB10.out⟩
end Go.Proofs.YtlondopgibcikaaGreat
