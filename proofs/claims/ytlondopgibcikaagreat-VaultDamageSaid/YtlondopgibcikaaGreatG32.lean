/- The vault's Append. -/
import Derived.Test.YtlondopgibcikaaGreatRows
import Derived.Test.YtlondopgibcikaaGreatG01
import Derived.Test.YtlondopgibcikaaGreatG02
import Derived.Test.YtlondopgibcikaaGreatG06
import Derived.Test.YtlondopgibcikaaGreatG07
import Derived.Test.YtlondopgibcikaaGreatG08
import Derived.Test.YtlondopgibcikaaGreatG09
import Derived.Test.YtlondopgibcikaaGreatG10
import Derived.Test.YtlondopgibcikaaGreatG14
import Derived.Test.YtlondopgibcikaaGreatG15
import Derived.Test.YtlondopgibcikaaGreatG16
import Derived.Test.YtlondopgibcikaaGreatG17
import Derived.Test.YtlondopgibcikaaGreatG18
import Derived.Test.YtlondopgibcikaaGreatG21
import Derived.Test.YtlondopgibcikaaGreatG22
import Derived.Test.YtlondopgibcikaaGreatG23
import Derived.Test.YtlondopgibcikaaGreatG24
import Derived.Test.YtlondopgibcikaaGreatG25
import Derived.Test.YtlondopgibcikaaGreatG26
import Derived.Test.YtlondopgibcikaaGreatG28
import Derived.Test.YtlondopgibcikaaGreatG29
import Derived.WalkKit
import Derived.WalkSpells
import Derived.WalkLawsBesides
import Derived.Deep.RegionHeld3
import Derived.Deep.QuietTactic
import Derived.BigQuiet
namespace Go.Proofs.YtlondopgibcikaaGreat
open Go.RowKit Ent
theorem enter_a1 (xs : Array Value) (w : World) : (callFunc 72 xs).run Tryz.prog w = .ok (.enter 72 xs) w := by kernel_rfl
theorem vappend_all {B : Nat} {w0 w : World} {As : List Asset} {a : Nat} {d : Dev} (i : Nat) (hi : As[i]? = some (dev a d)) (j v : Nat) (s : VS) (hj : As[j]? = some (vsA v a s)) (hij : i ≠ j) (bv bl bn g : Nat) (lo : Option Addr) (rn rc : Nat) (rec : List UInt8) (hrn : rn = rec.length) (hrc : rn ≤ rc) (hrm : rn ≤ 1048576) (hL : LentR B w0 As i lo rc rec) (hg : s.gen ≤ 2147483648) (hnx : 0 ≤ s.next ∧ s.next ≤ 131072) (hn2 : 2 ≤ d.img.length) (h : St B w0 w (As.set i (dev a d) ++ apX bv bl bn v lo rn rc 0 [blkA g 49 [.func (.func 72) #[] #[ptr bv, ptr bl, ptr bn], .func (.func 16) #[ptr a] #[]]])) (hlo : d.loose.length ≤ 100000000) :
    Calls Tryz.prog 64 #[.slice (some ⟨g, 0, none⟩) 2 2] w fun e w' => e = .returned (.int .i64 (appendD d s.gen s.next rec).1) ∧ St B w0 w' (As.set i (dev a (appendD d s.gen s.next rec).2.1) ++ apX bv bl bn v lo rn rc (appendD d s.gen s.next rec).2.2 [blkA g 49 [.func (.func 72) #[] #[ptr bv, ptr bl, ptr bn], .func (.func 16) #[ptr a] #[]]]) := by
  unfold appendD
  refine vall_seq (S := Dev × Int) (fun z w => St B w0 w (As.set i (dev a z.1) ++ apX bv bl bn v lo rn rc z.2 [blkA g 49 [.func (.func 72) #[] #[ptr bv, ptr bl, ptr bn], .func (.func 16) #[ptr a] #[]]])) (fun k z => k = 0 → z = (d, 0)) (appendFs (fromOf d.img.length s.gen) (fromOf d.img.length s.gen + halfOf d.img.length) s.gen s.next rec) g 2 (by omega) (fun k => if k = 0 then 72 else 16) (fun k => if k = 0 then #[] else #[ptr a]) (fun k => if k = 0 then #[ptr bv, ptr bl, ptr bn] else #[]) ?_ ?_ ?_ w (d, 0) h (fun _ => rfl)
  · intro k z w' hk hs
    have := hs.blk (As.length + 3) (set_post 3 rfl)
    rcases (by omega : k = 0 ∨ k = 1) with rfl | rfl
    · exact this.cell (j := 0) rfl
    · exact this.cell (j := 1) rfl
  · intro k z w' hk hq hs
    rcases (by omega : k = 0 ∨ k = 1) with rfl | rfl
    · obtain rfl := hq rfl
      refine (vappend1 i hi j v s hj hij bv bl bn lo rn rc rec hrn hrc hrm hL hg hnx _ 0 d d.img.length _ _ _ rfl rfl rfl rfl hn2 hs (by omega)).mono ?_
      rintro e w2 ⟨rfl, h2⟩
      exact ⟨rfl, h2, fun _ h0 => absurd h0 (by omega)⟩
    · refine (hs.dev_flush i (set_mid hi)).mono ?_
      rintro e w2 ⟨rfl, h2⟩
      rw [set_twice' hi] at h2
      exact ⟨rfl, h2, fun _ h0 => absurd h0 (by omega)⟩
  · intro k hk xs w'
    rcases (by omega : k = 0 ∨ k = 1) with rfl | rfl
    · exact enter_a1 xs w'
    · exact enter_flush xs w'
/-- a list with one more record, which is new -/
theorem list_told {w w5 w6 w7 : World} {G Fb : Nat → Prop} {vl v' r : Value} {vs : List Value} {L : List (List UInt8)} {rec : List UInt8} (hr : RowSW w Fb vs L) (hf : ∀ k, Fb k → G k) (hv : ∀ k, vl.ownBlock = some k → G k ∧ ¬ Fb k) (hGw : ∀ k, G k → k < w.heap.size)
    (hb : Below w.heap.size w w5) (ho : w5.ownsRow w.heap.size 5 1 r rec.length (bv rec)) (hb6 : Below w5.heap.size w5 w6) (hap : w7.ownsRow 0 44 1 v' (L.length + 1) (vs ++ [r])) (hg : w6.grownBy w7 vl.ownBlock) (hw : v'.ownBlock = vl.ownBlock ∨ v'.ownBlock = some w6.heap.size) :
    listA v' (L ++ [rec]) w7 (fun k => G k ∨ (w.heap.size ≤ k ∧ k < w7.heap.size)) ∧ Keep G w w7 := by
  have hk5 : Keep G w w5 := Keep.ofBelow hb
  have hk6 : Keep G w w6 := hk5.trans (Keep.ofBelow hb6)
  have hk7 : Keep G w w7 := hk6.grown hg (fun k hk _ => (hv k hk).1)
  have hkr : Keep (fun k => vl.ownBlock = some k) w w7 := ((Keep.ofBelow (F := fun k => vl.ownBlock = some k) hb).trans (Keep.ofBelow hb6)).grown hg (fun k hk _ => hk)
  have hk57 : Keep (fun k => vl.ownBlock = some k) w5 w7 := (Keep.ofBelow (F := fun k => vl.ownBlock = some k) hb6).grown hg (fun k hk _ => hk)
  have hs6 := hb6.size
  have hs5 := hb.size
  have hs7 := hg.size
  have hsw : SW w7 (fun k => r.ownBlock = some k) r rec := by
    obtain ⟨ao, cap, rfl, _, hc, hs, hwb, _⟩ := own_all ho
    have : SW w5 (fun k => (Value.slice ao rec.length cap).ownBlock = some k) (.slice ao rec.length cap) rec := ⟨ao, cap, rfl, hc, hs, hwb, fun x hx => by rw [hx]; rfl⟩
    exact this.keep hk57 (fun k h1 h2 => by have := hGw k (hv k h2).1; have := owns_ge ho k h1; omega)
  refine ⟨⟨vs ++ [r], fun k => Fb k ∨ r.ownBlock = some k, by rw [List.length_append]; exact hap, ((hr.keep hkr (fun k h1 h2 => (hv k h2).2 h1)).mono (fun _ => .inl)).snoc (hsw.mono (fun _ => .inr)), fun k hk => ?_, fun k hk => ?_⟩, hk7⟩
  · rcases hk with hk | hk
    · exact .inl (hf k hk)
    · have h1 := owns_ge ho k hk; have h2 := own_lt ho k hk
      exact .inr ⟨h1, by omega⟩
  · have hlt := own_lt hap k hk
    rcases hw with e | e
    · rw [e] at hk
      refine ⟨.inl (hv k hk).1, ?_⟩
      rintro (h1 | h1)
      · exact (hv k hk).2 h1
      · have := owns_ge ho k h1; have := hGw k (hv k hk).1; omega
    · rw [e] at hk; injection hk with hk
      refine ⟨.inr ⟨by omega, by omega⟩, ?_⟩
      rintro (h1 | h1)
      · have := hGw k (hf k h1); omega
      · have := own_lt ho k h1; omega
set_option maxRecDepth 100000 in
set_option maxHeartbeats 2000000 in
theorem vappend_any {B : Nat} {w0 w : World} {As : List Asset} {a : Nat} {d : Dev} (h : St B w0 w As) (i : Nat) (hi : As[i]? = some (dev a d)) (j v : Nat) (s : VS) (hj : As[j]? = some (vsA v a s)) (hij : i ≠ j) (lo : Option Addr) (rn rc : Nat) (rec : List UInt8) (hrn : rn = rec.length) (hrc : rn ≤ rc) (hrb : rn ≤ 1073741824) (hL : LentR2 B w0 As i j lo rc rec) (hg : s.gen ≤ 2147483647) (hnx : 0 ≤ s.next ∧ s.next ≤ 131072) (hLL : s.L.length ≤ 1000000) (hn2 : 2 ≤ d.img.length) (hlo : d.loose.length ≤ 100000000) :
    Calls Tryz.prog 24 #[ptr v, .slice lo rn rc] w fun e w' => e = .returned (.int .i64 (appendV d s rec).1) ∧ St B w0 w' ((As.set i (dev a (appendV d s rec).2.1)).set j (vsA v a (appendV d s rec).2.2)) := by
  obtain ⟨bv, hbv⟩ : ∃ bv, w.heap.size = bv := ⟨_, rfl⟩
  obtain ⟨w1, hw1⟩ : ∃ w1, w.alloc (.cells #[ptr v] 34) = w1 := ⟨_, rfl⟩
  have h1 : St B w0 w1 (As ++ [blkA bv 34 [ptr v]]) := by rw [← hw1, ← hbv]; exact h.box _ _
  obtain ⟨bl, hbl⟩ : ∃ bl, w1.heap.size = bl := ⟨_, rfl⟩
  obtain ⟨w2, hw2⟩ : ∃ w2, w1.alloc (.cells #[.slice lo rn rc] 44) = w2 := ⟨_, rfl⟩
  have h2 : St B w0 w2 (As ++ [blkA bv 34 [ptr v], blkA bl 44 [.slice lo rn rc]]) := by
    rw [← hw2, ← hbl]; exact h1.addBlk' (fresh_alloc w1 _) (alloc_new w1 _) (Nat.le_refl _)
  have H2 := hid h2
  have HI := hid hi; have HJ := hid hj; have HRN := hid hrn
  have HW1 := hid hw1; have HW2 := hid hw2; have HBV := hid hbv
  have HBL : Hid (bv + 1 = bl) := hid (by rw [← hbl, ← hw1, ← hbv]; exact (World.size_alloc _ _).symm)
  have cb := (h2.blk (As.length + 0) (get_post 0 rfl)).cell (j := 0) rfl
  have cl := (h2.blk (As.length + 1) (get_post 1 rfl)).cell (j := 0) rfl
  have hRD := h2.v_ready j (get_pre hj)
  have HRD := hid hRD
  clear h h1 h2 hi hj hw1 hw2 hbv hbl hrn hRD
  unfold ptr at cb HW1 HRD ⊢
  rcases hbr : s.br with _ | _
  · have HBR := hid hbr
    have HR0 : Hid (readyOf s = 0) := hid (by unfold readyOf; rw [hbr]; rfl)
    clear hbr
    go_enter Tryz.func24, Tryz.ntmps24
    go_upto_region 1 with fail
    rw [HW1.out, HBV.out, HW2.out, HBL.out]
    go_wp2_with fail
    refine HRD.out.mono ?_
    rintro e w' ⟨rfl, hw'⟩
    subst w'
    rw [HR0.out]
    by_cases hlong : 1048576 < rn
    · have qd : decide ((1048576 : Int) < (rn : Int)) = true := decide_eq_true (by omega)
      have HRV : Hid (appendV d s rec = (4, d, s)) := hid (by unfold appendV; rw [HBR.out, if_neg (by simp), if_pos (by rw [← HRN.out]; exact hlong)])
      go_wp2
      go_ret
      rw [HRV.out]
      refine ⟨rfl, ?_⟩
      rw [set_same HI.out, set_same HJ.out]
      exact H2.out.drop_post
    · have qd : decide ((1048576 : Int) < (rn : Int)) = false := decide_eq_false (by omega)
      obtain ⟨nd, hnd⟩ : ∃ nd, needOf rn = nd := ⟨_, rfl⟩
      obtain ⟨fo, hfo⟩ : ∃ fo, freeOf d.img.length s.next = fo := ⟨_, rfl⟩
      have HND := hid hnd; have HFO := hid hfo
      clear hnd hfo
      go_upto_region 6 with fail
      have hS00 : w2.cell? ⟨bv, 0, none⟩ = some (.pointer (some ⟨v, 0, none⟩)) ∧ w2.cell? ⟨bl, 0, none⟩ = some (.slice lo rn rc) := ⟨cb, cl⟩
      refine wp_region_held_drew (S := fun w' => w'.cell? ⟨bv, 0, none⟩ = some (.pointer (some ⟨v, 0, none⟩)) ∧ w'.cell? ⟨bl, 0, none⟩ = some (.slice lo rn rc)) (by kernel_rfl) hS00 (fun hS => ?_)
      refine tkH (i := 0) (v := ?v0x1z) (y := Or.inl ⟨by rfl, ?y0x1z⟩) (s := hS) (h := ?r0x1z)
      case y0x1z => (intro w' hSw; (try dsimp only at hSw); go_simp; (try with_reducible rfl))
      simp only [Act.put, sA, sB, sC]
      refine tkH (i := 1) (v := ?v1x2z) (y := Or.inl ⟨by rfl, ?y1x2z⟩) (s := hS) (h := ?r1x2z)
      case y1x2z => (intro w' hSw; (try dsimp only at hSw); go_simp; (try with_reducible rfl))
      simp only [Act.put, sA, sB, sC]
      refine tkH (i := 3) (v := ?v3x3z) (y := Or.inl ⟨by rfl, ?y3x3z⟩) (s := hS) (h := ?r3x3z)
      case y3x3z => (intro w' hSw; (try dsimp only at hSw); go_simp; (try with_reducible rfl))
      simp only [Act.put, sA, sB, sC]
      refine rdH (i := 2) (h := fun K hK => ?_)
      go_simp
      refine (need_any rn (by omega) _).mono ?_
      rintro e w' ⟨rfl, hw'⟩
      subst w'
      rw [HND.out]
      refine hK.out _ _ ?k2x4z (fun hS => ?s2x4z)
      case k2x4z => exact hS
      clear hK K
      try simp only [Act.put, sA, sB, sC]
      refine rdH (i := 4) (h := fun K hK => ?_)
      go_simp
      obtain ⟨vl, hvb⟩ := H2.out.vault j (get_pre HJ.out)
      have hb2 := (Below.refl w2.heap.size w2).drew
      refine (vfree_any (H2.out.below hb2) i (get_pre HI.out) v s.gen s.next vl s.br (hvb.below hb2 hvb.lt) (by omega) hn2 hnx).mono ?_
      rintro e w3 ⟨rfl, hb3⟩
      rw [HFO.out]
      have hb3 := hb2.trans hb3
      have hS3 := And.intro ((hb3.cell (World.block_lt_of_cell? _ _ hS00.1)).trans hS00.1) ((hb3.cell (World.block_lt_of_cell? _ _ hS00.2)).trans hS00.2)
      have H3 := hid (H2.out.below hb3)
      clear hvb hb2 hb3
      refine hK.out _ _ ?k4x5z (fun hS => ?s4x5z)
      case k4x5z => exact hS3
      clear hK K
      try simp only [Act.put, sA, sB, sC]
      refine tkH (i := 5) (v := ?v5x6z) (y := Or.inl ⟨by rfl, ?y5x6z⟩) (s := hS) (h := ?r5x6z)
      case y5x6z => (intro w' hSw; (try dsimp only at hSw); go_simp; (try with_reducible rfl))
      simp only [Act.put, sA, sB, sC]
      refine tkH (i := 6) (v := ?v6x7z) (y := Or.inl ⟨by rfl, ?y6x7z⟩) (s := hS) (h := ?r6x7z)
      case y6x7z => (intro w' hSw; (try dsimp only at hSw); go_simp; (try with_reducible rfl))
      simp only [Act.put, sA, sB, sC]
      refine wpAnyH_done (by kernel_rfl) ?_ _
      clear hS hS3
      by_cases hfull : fo < (nd : Int)
      · have qf : decide (fo < (nd : Int)) = true := decide_eq_true hfull
        have HRV : Hid (appendV d s rec = (10, d, s)) := hid (by unfold appendV; rw [HBR.out, if_neg (by simp), if_neg (by rw [← HRN.out]; exact hlong), HFO.out, ← HRN.out, HND.out, if_pos hfull])
        clear hfull
        simp only [qf]
        go_wp2
        go_ret
        rw [HRV.out]
        refine ⟨rfl, ?_⟩
        rw [set_same HI.out, set_same HJ.out]
        exact H3.out.drop_post
      have qf : decide (fo < (nd : Int)) = false := decide_eq_false hfull
      have HRV : Hid (appendV d s rec = appendedV d s rec) := hid (by unfold appendV; rw [HBR.out, if_neg (by simp), if_neg (by rw [← HRN.out]; exact hlong), HFO.out, ← HRN.out, HND.out, if_neg hfull])
      clear hfull
      simp only [qf]
      obtain ⟨bn, hbn⟩ : ∃ bn, w3.heap.size = bn := ⟨_, rfl⟩
      obtain ⟨wn, hwn⟩ : ∃ wn, w3.alloc (.cells #[.int .i64 0] 3) = wn := ⟨_, rfl⟩
      have hn : St B w0 wn (As.set i (dev a d) ++ apX bv bl bn v lo rn rc 0 []) := by
        rw [set_same HI.out, ← hwn, ← hbn]; exact H3.out.addBlk' (fresh_alloc w3 _) (alloc_new w3 _) (Nat.le_refl _)
      have HN2 := hid hn; have HWN := hid hwn; have HBN := hid hbn
      have HJL : Hid (∀ C, j < (As.set i C).length) := hid (fun C => by rw [List.length_set]; exact (List.getElem?_eq_some_iff.1 HJ.out).1)
      obtain ⟨vl, hvb⟩ := hn.vault j (set_beside HJ.out hij)
      have c0n := hvb.cell (j := 0) rfl
      have cbn := (hn.blk (As.length + 0) (set_post 0 rfl)).cell (j := 0) rfl
      unfold ptr at c0n cbn
      clear hn hwn hbn hvb
      go_upto_region 10 with fail
      rw [HBN.out, HWN.out]
      refine wp_region_held_drew (S := fun w' => w'.cell? ⟨bv, 0, none⟩ = some (.pointer (some ⟨v, 0, none⟩)) ∧ w'.cell? ⟨v, 0, none⟩ = some (.pointer (some ⟨a, 0, none⟩))) (by kernel_rfl) ⟨cbn, c0n⟩ (fun hS => ?_)
      refine tkH (i := 0) (v := ?v0x1x) (y := Or.inl ⟨by rfl, ?y0x1x⟩) (s := hS) (h := ?r0x1x)
      case y0x1x => (intro w' hSw; (try dsimp only at hSw); go_simp; (try with_reducible rfl))
      simp only [Act.put, sA, sB, sC]
      refine tkH (i := 1) (v := ?v1x2x) (y := Or.inl ⟨by rfl, ?y1x2x⟩) (s := hS) (h := ?r1x2x)
      case y1x2x => (intro w' hSw; (try dsimp only at hSw); go_simp; (try with_reducible rfl))
      simp only [Act.put, sA, sB, sC]
      refine tkH (i := 2) (v := ?v2x3x) (y := Or.inl ⟨by rfl, ?y2x3x⟩) (s := hS) (h := ?r2x3x)
      case y2x3x => (intro w' hSw; (try dsimp only at hSw); go_simp; (try with_reducible rfl))
      simp only [Act.put, sA, sB, sC]
      refine tkH (i := 3) (v := ?v3x4x) (y := Or.inl ⟨by rfl, ?y3x4x⟩) (s := hS) (h := ?r3x4x)
      case y3x4x => (intro w' hSw; (try dsimp only at hSw); go_simp; (try with_reducible rfl))
      simp only [Act.put, sA, sB, sC]
      refine tkH (i := 4) (v := ?v4x5x) (y := Or.inl ⟨by rfl, ?y4x5x⟩) (s := hS) (h := ?r4x5x)
      case y4x5x => (intro w' hSw; (try dsimp only at hSw); go_simp; (try with_reducible rfl))
      simp only [Act.put, sA, sB, sC]
      refine tkH (i := 5) (v := ?v5x6x) (y := Or.inl ⟨by rfl, ?y5x6x⟩) (s := hS) (h := ?r5x6x)
      case y5x6x => (intro w' hSw; (try dsimp only at hSw); go_simp; (try with_reducible rfl))
      simp only [Act.put, sA, sB, sC]
      refine rdH (i := 6) (h := fun K hK => ?_)
      go_simp
      refine hK.out _ _ ?k6x7x (fun hS => ?s6x7x)
      case k6x7x => exact hS
      clear hK K
      try simp only [Act.put, sA, sB, sC]
      refine rdH (i := 7) (h := fun K hK => ?_)
      refine wpo_layV rowF 2 _ rfl [.func (.func 72) #[] #[ptr bv, ptr bl, ptr bn], .func (.func 16) #[ptr a] #[]] rfl (by omega) (by omega) (by simp [Value.cells]) (by simp [Act.eval, ptr]) ?_
      intro w6 hb6 h6
      have hb6 := (Below.refl wn.heap.size wn).drew.trans hb6
      have hS6 := And.intro ((hb6.cell (World.block_lt_of_cell? _ _ hS.1)).trans hS.1) ((hb6.cell (World.block_lt_of_cell? _ _ hS.2)).trans hS.2)
      obtain ⟨g6, hg6⟩ : ∃ g6, wn.heap.size = g6 := ⟨_, rfl⟩
      have H6 : Hid (St B w0 w6 (As.set i (dev a d) ++ apX bv bl bn v lo rn rc 0 [blkA g6 49 [.func (.func 72) #[] #[ptr bv, ptr bl, ptr bn], .func (.func 16) #[ptr a] #[]]])) := hid (by
        have := HN2.out.addBlk' hb6 h6 (Nat.le_refl _)
        rw [← hg6]; exact this)
      rw [show wn.drew.heap.size = g6 from hg6]
      clear hb6 h6 hg6
      refine hK.out _ _ ?k7x8x (fun hS => ?s7x8x)
      case k7x8x => exact hS6
      clear hK K
      try simp only [Act.put, sA, sB, sC]
      refine rdH (i := 8) (h := fun K hK => ?_)
      go_simp
      refine (vappend_all i HI.out j v s HJ.out hij bv bl bn g6 lo rn rc rec HRN.out hrc (by omega) hL.one (by omega) hnx hn2 H6.out hlo).mono ?_
      rintro e w7 ⟨rfl, h7⟩
      generalize hx : appendD d s.gen s.next rec = x at h7 ⊢
      obtain ⟨ec, dx, nx⟩ := x
      have HX := hid hx
      have H7 := hid h7
      dsimp only at H7 ⊢
      obtain ⟨vl', hvb'⟩ := H7.out.vault j (set_beside HJ.out hij)
      have hS7 := And.intro ((H7.out.blk (As.length + 0) (set_post 0 rfl)).cell (j := 0) rfl) (hvb'.cell (j := 0) rfl)
      unfold ptr at hS7
      clear h7 hx hvb' H6
      refine hK.out _ _ ?k8x9x (fun hS => ?s8x9x)
      case k8x9x => exact hS7
      clear hK K
      try simp only [Act.put, sA, sB, sC]
      refine rdH (i := 9) (h := fun K hK => ?_)
      go_simp
      refine (H7.out.v_told j (set_beside HJ.out hij) ec).mono ?_
      rintro e w9 ⟨rfl, h9⟩
      rw [set_pre (by rw [List.getElem?_set_ne hij]; exact HJ.out)] at h9
      have H9 := hid h9
      obtain ⟨vl', hvb'⟩ := H9.out.vault j (get_pre (List.getElem?_set_self (HJL.out _)))
      have hS9 := And.intro ((H9.out.blk (As.length + 0) (set_post2 0 rfl)).cell (j := 0) rfl) (hvb'.cell (j := 0) rfl)
      unfold ptr at hS9
      clear h9 hvb' H7
      refine hK.out _ _ ?k9x10x (fun hS => ?s9x10x)
      case k9x10x => exact hS9
      clear hK K
      try simp only [Act.put, sA, sB, sC]
      refine tkH (i := 10) (v := ?v10x11x) (y := Or.inl ⟨by rfl, ?y10x11x⟩) (s := hS) (h := ?r10x11x)
      case y10x11x => (intro w' hSw; (try dsimp only at hSw); go_simp; (try with_reducible rfl))
      simp only [Act.put, sA, sB, sC]
      refine wpAnyH_done (by kernel_rfl) ?_ _
      clear hS hS6 hS7 hS9
      by_cases hec : ec = 0
      · subst hec
        have h9 := H9.out
        rw [show (s.br || decide ((0 : Int) ≠ 0)) = s.br by simp] at h9
        have H9 : Hid (St B w0 w9 ((As.set i (dev a dx)).set j (vsA v a s) ++ apX bv bl bn v lo rn rc nx [blkA g6 49 [.func (.func 72) #[] #[ptr bv, ptr bl, ptr bn], .func (.func 16) #[ptr a] #[]]])) := hid h9
        clear h9
        have HSB : Hid (∀ w1, Below w9.heap.size w9 w1 → SB w1 lo rc rec) := hid (fun w1 hb => ((hL.set2 _ _).app).sb (H9.out.below hb))
        obtain ⟨F, ⟨vl, G, hvb, hvF, ⟨vs, Fb, ho, hr, hf, hvv⟩, hng, hG⟩, hF, hoth, hcl⟩ := H9.out.open j (get_pre (List.getElem?_set_self (HJL.out _)))
        have NF : ∀ (k g : Nat) (T : TypeId) (us : List Value), j ≠ k → ((As.set i (dev a dx)).set j (vsA v a s) ++ apX bv bl bn v lo rn rc nx [blkA g6 49 [.func (.func 72) #[] #[ptr bv, ptr bl, ptr bn], .func (.func 16) #[ptr a] #[]]])[k]? = some (blkA g T us) → ¬ F g := fun k g T us hjk hk => by
          obtain ⟨G', hG', _, hd⟩ := hoth k _ hjk hk
          exact fun hf => hd g hf hG'.2
        have NF1 := hid (NF (As.length + 0) _ _ _ (ne_post HJ.out 0) (set_post2 0 rfl))
        have NF2 := hid (NF (As.length + 2) _ _ _ (ne_post HJ.out 2) (set_post2 2 rfl))
        have NF3 := hid (NF (As.length + 1) _ _ _ (ne_post HJ.out 1) (set_post2 1 rfl))
        have NV1 : Hid (bv ≠ v) := hid (fun e => NF1.out (by rw [e]; exact hvF))
        have NV2 : Hid (bn ≠ v) := hid (fun e => NF2.out (by rw [e]; exact hvF))
        have NV3 : Hid (bl ≠ v) := hid (fun e => NF3.out (by rw [e]; exact hvF))
        obtain ⟨m, hm⟩ : ∃ m, s.L.length = m := ⟨_, rfl⟩
        obtain ⟨m1, hm1⟩ : ∃ m1, m + 1 = m1 := ⟨_, rfl⟩
        have HM := hid hm; have HM1 := hid hm1
        rw [hm] at hLL ho
        obtain ⟨la, lc, rfl⟩ := own_slice ho
        have c3 := hvb.cell (j := 3) rfl
        have hS00 : w9.cell? ⟨bv, 0, none⟩ = some (.pointer (some ⟨v, 0, none⟩)) ∧ w9.cell? ⟨bn, 0, none⟩ = some (.int .i64 nx) ∧ w9.cell? ⟨bl, 0, none⟩ = some (.slice lo rn rc) := ⟨(H9.out.blk (As.length + 0) (set_post2 0 rfl)).cell (j := 0) rfl, (H9.out.blk (As.length + 2) (set_post2 2 rfl)).cell (j := 0) rfl, (H9.out.blk (As.length + 1) (set_post2 1 rfl)).cell (j := 0) rfl⟩
        have HOO := hid ho; have HRS := hid hr; have HFB := hid hf; have HVV := hid hvv; have HNG := hid hng; have HGF := hid hG; have HCL := hid hcl; have HVB := hid hvb; have HVF := hid hvF
        have HGW : Hid (∀ k, G k → k < w9.heap.size) := hid (fun k hk => (hF k (hG k hk)).2)
        clear NF hm hm1 ho hr hf hvv hng hG hcl hvb hvF hoth hF
        go_upto_region 13 with fail
        refine wp_region_held_drew (S := fun w' => w'.cell? ⟨bv, 0, none⟩ = some (.pointer (some ⟨v, 0, none⟩)) ∧ w'.cell? ⟨bn, 0, none⟩ = some (.int .i64 nx) ∧ w'.cell? ⟨bl, 0, none⟩ = some (.slice lo rn rc)) (by kernel_rfl) hS00 (fun hS => ?_)
        refine tkH (i := 0) (v := ?v0x1ye1) (y := Or.inl ⟨by rfl, ?y0x1ye1⟩) (s := hS) (h := ?r0x1ye1)
        case y0x1ye1 => (intro w' hSw; (try dsimp only at hSw); go_simp; (try with_reducible rfl))
        simp only [Act.put, sA, sB, sC]
        refine tkH (i := 1) (v := ?v1x2ye1) (y := Or.inl ⟨by rfl, ?y1x2ye1⟩) (s := hS) (h := ?r1x2ye1)
        case y1x2ye1 => (intro w' hSw; (try dsimp only at hSw); go_simp; (try with_reducible rfl))
        simp only [Act.put, sA, sB, sC]
        refine tkH (i := 2) (v := ?v2x3ye1) (y := Or.inl ⟨by rfl, ?y2x3ye1⟩) (s := hS) (h := ?r2x3ye1)
        case y2x3ye1 => (intro w' hSw; (try dsimp only at hSw); go_simp; (try with_reducible rfl))
        simp only [Act.put, sA, sB, sC]
        refine tkH (i := 3) (v := ?v3x4ye1) (y := Or.inl ⟨by rfl, ?y3x4ye1⟩) (s := hS) (h := ?r3x4ye1)
        case y3x4ye1 => (intro w' hSw; (try dsimp only at hSw); go_simp; (try with_reducible rfl))
        simp only [Act.put, sA, sB, sC]
        refine tkH (i := 4) (v := ?v4x5ye1) (y := Or.inl ⟨by rfl, ?y4x5ye1⟩) (s := hS) (h := ?r4x5ye1)
        case y4x5ye1 => (intro w' hSw; (try dsimp only at hSw); go_simp; (try with_reducible rfl))
        simp only [Act.put, sA, sB, sC]
        refine tkH (i := 5) (v := ?v5x6ye1) (y := Or.inl ⟨by rfl, ?y5x6ye1⟩) (s := hS) (h := ?r5x6ye1)
        case y5x6ye1 => (intro w' hSw; (try dsimp only at hSw); go_simp; (try with_reducible rfl))
        simp only [Act.put, sA, sB, sC]
        refine tkH (i := 7) (v := ?v7x7ye1) (y := Or.inl ⟨by rfl, ?y7x7ye1⟩) (s := hS) (h := ?r7x7ye1)
        case y7x7ye1 => (intro w' hSw; (try dsimp only at hSw); go_simp; (try with_reducible rfl))
        simp only [Act.put, sA, sB, sC]
        refine wpAnyH_ready (rs := [6, 8]) (by kernel_rfl) (by simp) ?_
        refine AllReadyH.cons (by simp only [List.getElem?_toArray, List.getElem?_cons_zero, List.getElem?_cons_succ]; exact rfl) (fun K hK => ?_) (AllReadyH.cons (by simp only [List.getElem?_toArray, List.getElem?_cons_zero, List.getElem?_cons_succ]; exact rfl) (fun K hK => ?_) AllReadyH.nil)
        · go_simp
          refine hK.out _ _ ?k6x8ye1 (fun hS => ?s6x8ye1)
          case k6x8ye1 => exact hS
          clear hK K
          try simp only [Act.put, sA, sB, sC]
          refine rdH (i := 8) (h := fun K hK => ?_)
          go_simp
          refine (vclone_any lo rn rc rec HRN.out hrb _ (HSB.out _ (Below.refl _ _).drew)).mono ?_
          rintro e w10 ⟨r, rfl, ho10, hb10⟩
          have hb10 := (Below.refl w9.heap.size w9).drew.trans hb10
          obtain ⟨ra, rcc, rfl⟩ := own_slice ho10
          have hS10 := And.intro ((hb10.cell (World.block_lt_of_cell? _ _ hS00.1)).trans hS00.1) (And.intro ((hb10.cell (World.block_lt_of_cell? _ _ hS00.2.1)).trans hS00.2.1) ((hb10.cell (World.block_lt_of_cell? _ _ hS00.2.2)).trans hS00.2.2))
          have c3a := (hb10.cell (World.block_lt_of_cell? _ _ c3)).trans c3
          have HB10 := hid hb10; have HO10 := hid ho10
          clear hb10 ho10
          refine hK.out _ _ ?k8x9ye1 (fun hS => ?s8x9ye1)
          case k8x9ye1 => exact hS10
          clear hK K
          try simp only [Act.put, sA, sB, sC]
          refine rdH (i := 9) (h := fun K hK => ?_)
          refine wpo_layV rowL 1 _ rfl [.slice ra rn rcc] rfl (by omega) (by omega) (by simp [Value.cells]) (by simp [Act.eval]) ?_
          intro w11 hb11 h11
          have hS11 := And.intro ((hb11.cell (World.block_lt_of_cell? _ _ hS10.1)).trans hS10.1) (And.intro ((hb11.cell (World.block_lt_of_cell? _ _ hS10.2.1)).trans hS10.2.1) ((hb11.cell (World.block_lt_of_cell? _ _ hS10.2.2)).trans hS10.2.2))
          have c3b := (hb11.cell (World.block_lt_of_cell? _ _ c3a)).trans c3a
          have HO11 := hid (owns_below (owns_below HOO.out HB10.out) hb11)
          have HB11 := hid hb11; have H11 := hid h11
          clear hb11 h11
          refine hK.out _ _ ?k9x10ye1 (fun hS => ?s9x10ye1)
          case k9x10ye1 => exact hS11
          clear hK K
          try simp only [Act.put, sA, sB, sC]
          refine rdH (i := 10) (h := fun K hK => ?_)
          refine wpo_appendR rowL (.tmp 45) (.tmp 48) rfl 0 (.slice la m lc) m vs rfl HO11.out w10.heap.size rfl [.slice ra rn rcc] H11.out rfl (by intro u hu; simp at hu; subst hu; rfl) (by omega) (Nat.zero_le _) ?_
          intro v12 w12 ho12 hg12 hw12
          have hlt := list_told (w := w9) HRS.out HFB.out HVV.out HGW.out HB10.out (by rw [← HRN.out]; exact HO10.out) HB11.out (by rw [HM.out]; exact ho12) hg12 hw12
          rw [HM1.out] at ho12
          obtain ⟨va, vc, rfl⟩ := own_slice ho12
          have HT12 := hid hlt
          have HV12 := hid (HVB.out.keep hlt.2 HNG.out)
          have hS12 := And.intro ((hlt.2.cell (World.block_lt_of_cell? _ _ hS00.1) (fun h => NF1.out (HGF.out _ h))).trans hS00.1) (And.intro ((hlt.2.cell (World.block_lt_of_cell? _ _ hS00.2.1) (fun h => NF2.out (HGF.out _ h))).trans hS00.2.1) ((hlt.2.cell (World.block_lt_of_cell? _ _ hS00.2.2) (fun h => NF3.out (HGF.out _ h))).trans hS00.2.2))
          have s2 := HV12.out.cell (j := 2) rfl
          have f2 := HV12.out.free 2
          clear hlt ho12 hg12 hw12
          refine hK.out _ _ ?k10x11ye1 (fun hS => ?s10x11ye1)
          case k10x11ye1 => exact hS12
          clear hK K
          try simp only [Act.put, sA, sB, sC]
          refine tkH (i := 11) (v := ?v11x12ye1) (y := Or.inl ⟨by rfl, ?y11x12ye1⟩) (s := hS) (h := ?r11x12ye1)
          case y11x12ye1 => (intro w' hSw; (try dsimp only at hSw); go_simp; (try with_reducible rfl))
          simp only [Act.put, sA, sB, sC]
          refine tkH (i := 12) (v := ?v12x13ye1) (y := Or.inl ⟨by rfl, ?y12x13ye1⟩) (s := hS) (h := ?r12x13ye1)
          case y12x13ye1 => (intro w' hSw; (try dsimp only at hSw); go_simp; (try with_reducible rfl))
          simp only [Act.put, sA, sB, sC]
          refine rdH (i := 13) (h := fun K hK => ?_)
          go_simp
          generalize hw13 : World.setCell _ _ _ = w13
          have hS13 : w13.cell? ⟨bv, 0, none⟩ = some (.pointer (some ⟨v, 0, none⟩)) ∧ w13.cell? ⟨bn, 0, none⟩ = some (.int .i64 nx) ∧ w13.cell? ⟨bl, 0, none⟩ = some (.slice lo rn rc) := by
            rw [← hw13]
            exact And.intro ((World.cell?_setCell_other w12 _ _ _ (fun e => by injection e with e; exact NV1.out e.symm)).trans hS.1) (And.intro ((World.cell?_setCell_other w12 _ _ _ (fun e => by injection e with e; exact NV2.out e.symm)).trans hS.2.1) ((World.cell?_setCell_other w12 _ _ _ (fun e => by injection e with e; exact NV3.out e.symm)).trans hS.2.2))
          have HV13 : Hid (Blk w13 v 102 (vCells a s.gen nx (.slice la m lc) s.br)) := hid (by rw [← hw13]; exact HV12.out.set 2 _)
          have HK13 : Hid (Keep (fun k => k = v) w12 w13) := hid (by rw [← hw13]; exact (Keep.refl (fun k => k = v) w12).setCell (p := ⟨v, 2, none⟩) rfl _)
          have s3 := HV13.out.cell (j := 3) rfl
          have f3 := HV13.out.free 3
          clear hw13 s2 f2 HV12
          refine hK.out _ _ ?k13x14ye1 (fun hS => ?s13x14ye1)
          case k13x14ye1 => exact hS13
          clear hK K
          try simp only [Act.put]
          refine tkH (i := 14) (v := ?v14x15ye1) (y := Or.inl ⟨by rfl, ?y14x15ye1⟩) (s := hS) (h := ?r14x15ye1)
          case y14x15ye1 => (intro w' hSw; (try dsimp only at hSw); go_simp; (try with_reducible rfl))
          simp only [Act.put, sA, sB, sC]
          refine tkH (i := 15) (v := ?v15x16ye1) (y := Or.inl ⟨by rfl, ?y15x16ye1⟩) (s := hS) (h := ?r15x16ye1)
          case y15x16ye1 => (intro w' hSw; (try dsimp only at hSw); go_simp; (try with_reducible rfl))
          simp only [Act.put, sA, sB, sC]
          refine rdH (i := 16) (h := fun K hK => ?_)
          go_simp
          generalize hw14 : World.setCell _ _ _ = w14
          have hS14 : w14.cell? ⟨bv, 0, none⟩ = some (.pointer (some ⟨v, 0, none⟩)) ∧ w14.cell? ⟨bn, 0, none⟩ = some (.int .i64 nx) ∧ w14.cell? ⟨bl, 0, none⟩ = some (.slice lo rn rc) := by
            rw [← hw14]
            exact And.intro ((World.cell?_setCell_other w13 _ _ _ (fun e => by injection e with e; exact NV1.out e.symm)).trans hS.1) (And.intro ((World.cell?_setCell_other w13 _ _ _ (fun e => by injection e with e; exact NV2.out e.symm)).trans hS.2.1) ((World.cell?_setCell_other w13 _ _ _ (fun e => by injection e with e; exact NV3.out e.symm)).trans hS.2.2))
          have HV14 : Hid (Blk w14 v 102 (vCells a s.gen nx (.slice va m1 vc) s.br)) := hid (by rw [← hw14]; exact HV13.out.set 3 _)
          have HK14 : Hid (Keep (fun k => k = v) w12 w14) := hid (by rw [← hw14]; exact HK13.out.setCell (p := ⟨v, 3, none⟩) rfl _)
          clear hw14 s3 f3 HV13 HK13
          refine hK.out _ _ ?k16x17ye1 (fun hS => ?s16x17ye1)
          case k16x17ye1 => exact hS14
          clear hK K
          try simp only [Act.put]
          refine wpAnyH_done (by kernel_rfl) ?_ _
          clear hS hS10 hS11 hS12 hS13 hS14 c3a c3b
          go_wp2
          go_ret
          rw [HRV.out]
          unfold appendedV
          rw [HX.out]
          dsimp only
          rw [if_pos rfl]
          refine ⟨rfl, ?_⟩
          have hz1 := HT12.out.2.size
          have hz2 := HK14.out.size
          have hvl := HVB.out.lt
          have h15 := HCL.out w14 (vsA v a { s with next := nx, L := s.L ++ [rec] }) (fun k => k = v ∨ G k ∨ (w9.heap.size ≤ k ∧ k < w12.heap.size)) ((HT12.out.2.mono fun k _ h => HGF.out k h).trans (HK14.out.mono fun k _ e => by rw [e]; exact HVF.out)) (good_vaultA _ _ _ _ _ _) ⟨_, fun k => G k ∨ (w9.heap.size ≤ k ∧ k < w12.heap.size), HV14.out, .inl rfl, (good_listA _ _).keep HT12.out.1 HK14.out (fun k h1 h2 => by
            rw [h2] at h1
            rcases h1 with h1 | h1
            · exact HNG.out h1
            · omega), fun h1 => by
            rcases h1 with h1 | h1
            · exact HNG.out h1
            · omega, fun k h1 => .inr h1⟩ (fun k hk => by
            rcases hk with rfl | hk | hk
            · exact .inl HVF.out
            · exact .inl (HGF.out _ hk)
            · exact .inr ⟨hk.1, by omega⟩)
          rw [set_pre (List.getElem?_set_self (HJL.out _)), List.set_set] at h15
          exact h15.drop_post
        · go_simp
          refine (vclone_any lo rn rc rec HRN.out hrb _ (HSB.out _ (Below.refl _ _).drew)).mono ?_
          rintro e w10 ⟨r, rfl, ho10, hb10⟩
          have hb10 := (Below.refl w9.heap.size w9).drew.trans hb10
          obtain ⟨ra, rcc, rfl⟩ := own_slice ho10
          have hS10 := And.intro ((hb10.cell (World.block_lt_of_cell? _ _ hS00.1)).trans hS00.1) (And.intro ((hb10.cell (World.block_lt_of_cell? _ _ hS00.2.1)).trans hS00.2.1) ((hb10.cell (World.block_lt_of_cell? _ _ hS00.2.2)).trans hS00.2.2))
          have c3a := (hb10.cell (World.block_lt_of_cell? _ _ c3)).trans c3
          have HB10 := hid hb10; have HO10 := hid ho10
          clear hb10 ho10
          refine hK.out _ _ ?k8x18ye1 (fun hS => ?s8x18ye1)
          case k8x18ye1 => exact hS10
          clear hK K
          try simp only [Act.put, sA, sB, sC]
          refine wpAnyH_ready (rs := [6, 9]) (by kernel_rfl) (by simp) ?_
          refine AllReadyH.cons (by simp only [List.getElem?_toArray, List.getElem?_cons_zero, List.getElem?_cons_succ]; exact rfl) (fun K hK => ?_) (AllReadyH.cons (by simp only [List.getElem?_toArray, List.getElem?_cons_zero, List.getElem?_cons_succ]; exact rfl) (fun K hK => ?_) AllReadyH.nil)
          · go_simp
            refine hK.out _ _ ?k6x19ye1 (fun hS => ?s6x19ye1)
            case k6x19ye1 => exact hS
            clear hK K
            try simp only [Act.put, sA, sB, sC]
            refine rdH (i := 9) (h := fun K hK => ?_)
            refine wpo_layV rowL 1 _ rfl [.slice ra rn rcc] rfl (by omega) (by omega) (by simp [Value.cells]) (by simp [Act.eval]) ?_
            intro w11 hb11 h11
            have hS11 := And.intro ((hb11.cell (World.block_lt_of_cell? _ _ hS10.1)).trans hS10.1) (And.intro ((hb11.cell (World.block_lt_of_cell? _ _ hS10.2.1)).trans hS10.2.1) ((hb11.cell (World.block_lt_of_cell? _ _ hS10.2.2)).trans hS10.2.2))
            have c3b := (hb11.cell (World.block_lt_of_cell? _ _ c3a)).trans c3a
            have HO11 := hid (owns_below (owns_below HOO.out HB10.out) hb11)
            have HB11 := hid hb11; have H11 := hid h11
            clear hb11 h11
            refine hK.out _ _ ?k9x20ye1 (fun hS => ?s9x20ye1)
            case k9x20ye1 => exact hS11
            clear hK K
            try simp only [Act.put, sA, sB, sC]
            refine rdH (i := 10) (h := fun K hK => ?_)
            refine wpo_appendR rowL (.tmp 45) (.tmp 48) rfl 0 (.slice la m lc) m vs rfl HO11.out w10.heap.size rfl [.slice ra rn rcc] H11.out rfl (by intro u hu; simp at hu; subst hu; rfl) (by omega) (Nat.zero_le _) ?_
            intro v12 w12 ho12 hg12 hw12
            have hlt := list_told (w := w9) HRS.out HFB.out HVV.out HGW.out HB10.out (by rw [← HRN.out]; exact HO10.out) HB11.out (by rw [HM.out]; exact ho12) hg12 hw12
            rw [HM1.out] at ho12
            obtain ⟨va, vc, rfl⟩ := own_slice ho12
            have HT12 := hid hlt
            have HV12 := hid (HVB.out.keep hlt.2 HNG.out)
            have hS12 := And.intro ((hlt.2.cell (World.block_lt_of_cell? _ _ hS00.1) (fun h => NF1.out (HGF.out _ h))).trans hS00.1) (And.intro ((hlt.2.cell (World.block_lt_of_cell? _ _ hS00.2.1) (fun h => NF2.out (HGF.out _ h))).trans hS00.2.1) ((hlt.2.cell (World.block_lt_of_cell? _ _ hS00.2.2) (fun h => NF3.out (HGF.out _ h))).trans hS00.2.2))
            have s2 := HV12.out.cell (j := 2) rfl
            have f2 := HV12.out.free 2
            clear hlt ho12 hg12 hw12
            refine hK.out _ _ ?k10x21ye1 (fun hS => ?s10x21ye1)
            case k10x21ye1 => exact hS12
            clear hK K
            try simp only [Act.put, sA, sB, sC]
            refine tkH (i := 11) (v := ?v11x22ye1) (y := Or.inl ⟨by rfl, ?y11x22ye1⟩) (s := hS) (h := ?r11x22ye1)
            case y11x22ye1 => (intro w' hSw; (try dsimp only at hSw); go_simp; (try with_reducible rfl))
            simp only [Act.put, sA, sB, sC]
            refine tkH (i := 12) (v := ?v12x23ye1) (y := Or.inl ⟨by rfl, ?y12x23ye1⟩) (s := hS) (h := ?r12x23ye1)
            case y12x23ye1 => (intro w' hSw; (try dsimp only at hSw); go_simp; (try with_reducible rfl))
            simp only [Act.put, sA, sB, sC]
            refine rdH (i := 13) (h := fun K hK => ?_)
            go_simp
            generalize hw13 : World.setCell _ _ _ = w13
            have hS13 : w13.cell? ⟨bv, 0, none⟩ = some (.pointer (some ⟨v, 0, none⟩)) ∧ w13.cell? ⟨bn, 0, none⟩ = some (.int .i64 nx) ∧ w13.cell? ⟨bl, 0, none⟩ = some (.slice lo rn rc) := by
              rw [← hw13]
              exact And.intro ((World.cell?_setCell_other w12 _ _ _ (fun e => by injection e with e; exact NV1.out e.symm)).trans hS.1) (And.intro ((World.cell?_setCell_other w12 _ _ _ (fun e => by injection e with e; exact NV2.out e.symm)).trans hS.2.1) ((World.cell?_setCell_other w12 _ _ _ (fun e => by injection e with e; exact NV3.out e.symm)).trans hS.2.2))
            have HV13 : Hid (Blk w13 v 102 (vCells a s.gen nx (.slice la m lc) s.br)) := hid (by rw [← hw13]; exact HV12.out.set 2 _)
            have HK13 : Hid (Keep (fun k => k = v) w12 w13) := hid (by rw [← hw13]; exact (Keep.refl (fun k => k = v) w12).setCell (p := ⟨v, 2, none⟩) rfl _)
            have s3 := HV13.out.cell (j := 3) rfl
            have f3 := HV13.out.free 3
            clear hw13 s2 f2 HV12
            refine hK.out _ _ ?k13x24ye1 (fun hS => ?s13x24ye1)
            case k13x24ye1 => exact hS13
            clear hK K
            try simp only [Act.put]
            refine tkH (i := 14) (v := ?v14x25ye1) (y := Or.inl ⟨by rfl, ?y14x25ye1⟩) (s := hS) (h := ?r14x25ye1)
            case y14x25ye1 => (intro w' hSw; (try dsimp only at hSw); go_simp; (try with_reducible rfl))
            simp only [Act.put, sA, sB, sC]
            refine tkH (i := 15) (v := ?v15x26ye1) (y := Or.inl ⟨by rfl, ?y15x26ye1⟩) (s := hS) (h := ?r15x26ye1)
            case y15x26ye1 => (intro w' hSw; (try dsimp only at hSw); go_simp; (try with_reducible rfl))
            simp only [Act.put, sA, sB, sC]
            refine rdH (i := 16) (h := fun K hK => ?_)
            go_simp
            generalize hw14 : World.setCell _ _ _ = w14
            have hS14 : w14.cell? ⟨bv, 0, none⟩ = some (.pointer (some ⟨v, 0, none⟩)) ∧ w14.cell? ⟨bn, 0, none⟩ = some (.int .i64 nx) ∧ w14.cell? ⟨bl, 0, none⟩ = some (.slice lo rn rc) := by
              rw [← hw14]
              exact And.intro ((World.cell?_setCell_other w13 _ _ _ (fun e => by injection e with e; exact NV1.out e.symm)).trans hS.1) (And.intro ((World.cell?_setCell_other w13 _ _ _ (fun e => by injection e with e; exact NV2.out e.symm)).trans hS.2.1) ((World.cell?_setCell_other w13 _ _ _ (fun e => by injection e with e; exact NV3.out e.symm)).trans hS.2.2))
            have HV14 : Hid (Blk w14 v 102 (vCells a s.gen nx (.slice va m1 vc) s.br)) := hid (by rw [← hw14]; exact HV13.out.set 3 _)
            have HK14 : Hid (Keep (fun k => k = v) w12 w14) := hid (by rw [← hw14]; exact HK13.out.setCell (p := ⟨v, 3, none⟩) rfl _)
            clear hw14 s3 f3 HV13 HK13
            refine hK.out _ _ ?k16x27ye1 (fun hS => ?s16x27ye1)
            case k16x27ye1 => exact hS14
            clear hK K
            try simp only [Act.put]
            refine wpAnyH_done (by kernel_rfl) ?_ _
            clear hS hS10 hS11 hS12 hS13 hS14 c3a c3b
            go_wp2
            go_ret
            rw [HRV.out]
            unfold appendedV
            rw [HX.out]
            dsimp only
            rw [if_pos rfl]
            refine ⟨rfl, ?_⟩
            have hz1 := HT12.out.2.size
            have hz2 := HK14.out.size
            have hvl := HVB.out.lt
            have h15 := HCL.out w14 (vsA v a { s with next := nx, L := s.L ++ [rec] }) (fun k => k = v ∨ G k ∨ (w9.heap.size ≤ k ∧ k < w12.heap.size)) ((HT12.out.2.mono fun k _ h => HGF.out k h).trans (HK14.out.mono fun k _ e => by rw [e]; exact HVF.out)) (good_vaultA _ _ _ _ _ _) ⟨_, fun k => G k ∨ (w9.heap.size ≤ k ∧ k < w12.heap.size), HV14.out, .inl rfl, (good_listA _ _).keep HT12.out.1 HK14.out (fun k h1 h2 => by
              rw [h2] at h1
              rcases h1 with h1 | h1
              · exact HNG.out h1
              · omega), fun h1 => by
              rcases h1 with h1 | h1
              · exact HNG.out h1
              · omega, fun k h1 => .inr h1⟩ (fun k hk => by
              rcases hk with rfl | hk | hk
              · exact .inl HVF.out
              · exact .inl (HGF.out _ hk)
              · exact .inr ⟨hk.1, by omega⟩)
            rw [set_pre (List.getElem?_set_self (HJL.out _)), List.set_set] at h15
            exact h15.drop_post
          · refine wpo_layV rowL 1 _ rfl [.slice ra rn rcc] rfl (by omega) (by omega) (by simp [Value.cells]) (by simp [Act.eval]) ?_
            intro w11 hb11 h11
            have hS11 := And.intro ((hb11.cell (World.block_lt_of_cell? _ _ hS10.1)).trans hS10.1) (And.intro ((hb11.cell (World.block_lt_of_cell? _ _ hS10.2.1)).trans hS10.2.1) ((hb11.cell (World.block_lt_of_cell? _ _ hS10.2.2)).trans hS10.2.2))
            have c3b := (hb11.cell (World.block_lt_of_cell? _ _ c3a)).trans c3a
            have HO11 := hid (owns_below (owns_below HOO.out HB10.out) hb11)
            have HB11 := hid hb11; have H11 := hid h11
            clear hb11 h11
            refine hK.out _ _ ?k9x28ye1 (fun hS => ?s9x28ye1)
            case k9x28ye1 => exact hS11
            clear hK K
            try simp only [Act.put, sA, sB, sC]
            refine rdH (i := 6) (h := fun K hK => ?_)
            go_simp
            refine hK.out _ _ ?k6x29ye1 (fun hS => ?s6x29ye1)
            case k6x29ye1 => exact hS
            clear hK K
            try simp only [Act.put, sA, sB, sC]
            refine rdH (i := 10) (h := fun K hK => ?_)
            refine wpo_appendR rowL (.tmp 45) (.tmp 48) rfl 0 (.slice la m lc) m vs rfl HO11.out w10.heap.size rfl [.slice ra rn rcc] H11.out rfl (by intro u hu; simp at hu; subst hu; rfl) (by omega) (Nat.zero_le _) ?_
            intro v12 w12 ho12 hg12 hw12
            have hlt := list_told (w := w9) HRS.out HFB.out HVV.out HGW.out HB10.out (by rw [← HRN.out]; exact HO10.out) HB11.out (by rw [HM.out]; exact ho12) hg12 hw12
            rw [HM1.out] at ho12
            obtain ⟨va, vc, rfl⟩ := own_slice ho12
            have HT12 := hid hlt
            have HV12 := hid (HVB.out.keep hlt.2 HNG.out)
            have hS12 := And.intro ((hlt.2.cell (World.block_lt_of_cell? _ _ hS00.1) (fun h => NF1.out (HGF.out _ h))).trans hS00.1) (And.intro ((hlt.2.cell (World.block_lt_of_cell? _ _ hS00.2.1) (fun h => NF2.out (HGF.out _ h))).trans hS00.2.1) ((hlt.2.cell (World.block_lt_of_cell? _ _ hS00.2.2) (fun h => NF3.out (HGF.out _ h))).trans hS00.2.2))
            have s2 := HV12.out.cell (j := 2) rfl
            have f2 := HV12.out.free 2
            clear hlt ho12 hg12 hw12
            refine hK.out _ _ ?k10x30ye1 (fun hS => ?s10x30ye1)
            case k10x30ye1 => exact hS12
            clear hK K
            try simp only [Act.put, sA, sB, sC]
            refine tkH (i := 11) (v := ?v11x31ye1) (y := Or.inl ⟨by rfl, ?y11x31ye1⟩) (s := hS) (h := ?r11x31ye1)
            case y11x31ye1 => (intro w' hSw; (try dsimp only at hSw); go_simp; (try with_reducible rfl))
            simp only [Act.put, sA, sB, sC]
            refine tkH (i := 12) (v := ?v12x32ye1) (y := Or.inl ⟨by rfl, ?y12x32ye1⟩) (s := hS) (h := ?r12x32ye1)
            case y12x32ye1 => (intro w' hSw; (try dsimp only at hSw); go_simp; (try with_reducible rfl))
            simp only [Act.put, sA, sB, sC]
            refine rdH (i := 13) (h := fun K hK => ?_)
            go_simp
            generalize hw13 : World.setCell _ _ _ = w13
            have hS13 : w13.cell? ⟨bv, 0, none⟩ = some (.pointer (some ⟨v, 0, none⟩)) ∧ w13.cell? ⟨bn, 0, none⟩ = some (.int .i64 nx) ∧ w13.cell? ⟨bl, 0, none⟩ = some (.slice lo rn rc) := by
              rw [← hw13]
              exact And.intro ((World.cell?_setCell_other w12 _ _ _ (fun e => by injection e with e; exact NV1.out e.symm)).trans hS.1) (And.intro ((World.cell?_setCell_other w12 _ _ _ (fun e => by injection e with e; exact NV2.out e.symm)).trans hS.2.1) ((World.cell?_setCell_other w12 _ _ _ (fun e => by injection e with e; exact NV3.out e.symm)).trans hS.2.2))
            have HV13 : Hid (Blk w13 v 102 (vCells a s.gen nx (.slice la m lc) s.br)) := hid (by rw [← hw13]; exact HV12.out.set 2 _)
            have HK13 : Hid (Keep (fun k => k = v) w12 w13) := hid (by rw [← hw13]; exact (Keep.refl (fun k => k = v) w12).setCell (p := ⟨v, 2, none⟩) rfl _)
            have s3 := HV13.out.cell (j := 3) rfl
            have f3 := HV13.out.free 3
            clear hw13 s2 f2 HV12
            refine hK.out _ _ ?k13x33ye1 (fun hS => ?s13x33ye1)
            case k13x33ye1 => exact hS13
            clear hK K
            try simp only [Act.put]
            refine tkH (i := 14) (v := ?v14x34ye1) (y := Or.inl ⟨by rfl, ?y14x34ye1⟩) (s := hS) (h := ?r14x34ye1)
            case y14x34ye1 => (intro w' hSw; (try dsimp only at hSw); go_simp; (try with_reducible rfl))
            simp only [Act.put, sA, sB, sC]
            refine tkH (i := 15) (v := ?v15x35ye1) (y := Or.inl ⟨by rfl, ?y15x35ye1⟩) (s := hS) (h := ?r15x35ye1)
            case y15x35ye1 => (intro w' hSw; (try dsimp only at hSw); go_simp; (try with_reducible rfl))
            simp only [Act.put, sA, sB, sC]
            refine rdH (i := 16) (h := fun K hK => ?_)
            go_simp
            generalize hw14 : World.setCell _ _ _ = w14
            have hS14 : w14.cell? ⟨bv, 0, none⟩ = some (.pointer (some ⟨v, 0, none⟩)) ∧ w14.cell? ⟨bn, 0, none⟩ = some (.int .i64 nx) ∧ w14.cell? ⟨bl, 0, none⟩ = some (.slice lo rn rc) := by
              rw [← hw14]
              exact And.intro ((World.cell?_setCell_other w13 _ _ _ (fun e => by injection e with e; exact NV1.out e.symm)).trans hS.1) (And.intro ((World.cell?_setCell_other w13 _ _ _ (fun e => by injection e with e; exact NV2.out e.symm)).trans hS.2.1) ((World.cell?_setCell_other w13 _ _ _ (fun e => by injection e with e; exact NV3.out e.symm)).trans hS.2.2))
            have HV14 : Hid (Blk w14 v 102 (vCells a s.gen nx (.slice va m1 vc) s.br)) := hid (by rw [← hw14]; exact HV13.out.set 3 _)
            have HK14 : Hid (Keep (fun k => k = v) w12 w14) := hid (by rw [← hw14]; exact HK13.out.setCell (p := ⟨v, 3, none⟩) rfl _)
            clear hw14 s3 f3 HV13 HK13
            refine hK.out _ _ ?k16x36ye1 (fun hS => ?s16x36ye1)
            case k16x36ye1 => exact hS14
            clear hK K
            try simp only [Act.put]
            refine wpAnyH_done (by kernel_rfl) ?_ _
            clear hS hS10 hS11 hS12 hS13 hS14 c3a c3b
            go_wp2
            go_ret
            rw [HRV.out]
            unfold appendedV
            rw [HX.out]
            dsimp only
            rw [if_pos rfl]
            refine ⟨rfl, ?_⟩
            have hz1 := HT12.out.2.size
            have hz2 := HK14.out.size
            have hvl := HVB.out.lt
            have h15 := HCL.out w14 (vsA v a { s with next := nx, L := s.L ++ [rec] }) (fun k => k = v ∨ G k ∨ (w9.heap.size ≤ k ∧ k < w12.heap.size)) ((HT12.out.2.mono fun k _ h => HGF.out k h).trans (HK14.out.mono fun k _ e => by rw [e]; exact HVF.out)) (good_vaultA _ _ _ _ _ _) ⟨_, fun k => G k ∨ (w9.heap.size ≤ k ∧ k < w12.heap.size), HV14.out, .inl rfl, (good_listA _ _).keep HT12.out.1 HK14.out (fun k h1 h2 => by
              rw [h2] at h1
              rcases h1 with h1 | h1
              · exact HNG.out h1
              · omega), fun h1 => by
              rcases h1 with h1 | h1
              · exact HNG.out h1
              · omega, fun k h1 => .inr h1⟩ (fun k hk => by
              rcases hk with rfl | hk | hk
              · exact .inl HVF.out
              · exact .inl (HGF.out _ hk)
              · exact .inr ⟨hk.1, by omega⟩)
            rw [set_pre (List.getElem?_set_self (HJL.out _)), List.set_set] at h15
            exact h15.drop_post
      · have hne : (ec != 0) = true := by simpa using hec
        have HNZ := hid hec
        clear hec
        go_wp2
        go_ret
        rw [HRV.out]
        unfold appendedV
        rw [HX.out]
        dsimp only
        rw [if_neg HNZ.out]
        refine ⟨rfl, ?_⟩
        have h9 := H9.out.drop_post
        rw [show (s.br || decide (ec ≠ 0)) = true by simp [HNZ.out]] at h9
        exact h9
  · have HR0 : Hid (readyOf s = 23) := hid (by unfold readyOf; rw [hbr]; rfl)
    have HRV : Hid (appendV d s rec = (23, d, s)) := hid (by unfold appendV; rw [hbr, if_pos rfl])
    clear hbr
    go_enter Tryz.func24, Tryz.ntmps24
    go_upto_region 1 with fail
    rw [HW1.out, HBV.out, HW2.out, HBL.out]
    go_wp2_with fail
    refine HRD.out.mono ?_
    rintro e w' ⟨rfl, hw'⟩
    subst w'
    rw [HR0.out]
    go_wp2
    go_ret
    rw [HRV.out]
    refine ⟨rfl, ?_⟩
    rw [set_same HI.out, set_same HJ.out]
    exact H2.out.drop_post
end Go.Proofs.YtlondopgibcikaaGreat
