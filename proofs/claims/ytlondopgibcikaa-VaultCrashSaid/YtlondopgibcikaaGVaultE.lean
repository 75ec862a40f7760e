/- The vault's Append: what it calls. (Printed by wip/vlto.py.) The vault's Append. (Printed by wip/vlto2.py.) The greatest generation that was found: cmp.Compare, slices.MaxFunc. The greatest generation that was found: slices.MaxFunc. (Printed by wip/vltp.py.) The vault's Open. (Printed by wip/vltq.py.) -/
import Derived.Test.YtlondopgibcikaaRows
import Derived.Test.YtlondopgibcikaaGBase
import Derived.Test.YtlondopgibcikaaGDevice
import Derived.Test.YtlondopgibcikaaGRefDev
import Derived.Test.YtlondopgibcikaaGLogA
import Derived.Test.YtlondopgibcikaaGLogC
import Derived.Test.YtlondopgibcikaaGRefLog
import Derived.Test.YtlondopgibcikaaGVaultA
import Derived.Test.YtlondopgibcikaaGVaultC
import Derived.WalkKit
import Derived.WalkSpells
import Derived.WalkLawsBesides
import Derived.Deep.RegionHeld3
import Derived.Deep.QuietTactic
import Derived.BigQuiet
namespace Go.Proofs.Ytlondopgibcikaa
open Go.RowKit Ent
/-- bytes that are lent beside an asset: old ones, or another asset's -/
def LentR (B : Nat) (w0 : World) (As : List Asset) (i : Nat) (lo : Option Addr) (cap : Nat) (rec : List UInt8) : Prop := (SB w0 lo cap rec ∧ (rec ≠ [] → ∀ x, lo = some x → x.block < B)) ∨ ∃ (j : Nat) (A : Asset), i ≠ j ∧ As[j]? = some A ∧ ∀ w F, A w F → SB w lo cap rec ∧ (rec ≠ [] → ∀ x, lo = some x → F x.block)
section
variable {B : Nat} {w0 w w1 : World} {As X : List Asset} {a : Nat} {d : Dev} {lo : Option Addr} {cap : Nat} {rec : List UInt8}
theorem LentR.app {i : Nat} (h : LentR B w0 As i lo cap rec) : LentR B w0 (As ++ X) i lo cap rec := by
  rcases h with h | ⟨j, A, h1, h2, h3⟩
  · exact .inl h
  · exact .inr ⟨j, A, h1, get_pre h2, h3⟩
theorem LentR.set {i : Nat} (C : Asset) (h : LentR B w0 As i lo cap rec) : LentR B w0 (As.set i C) i lo cap rec := by
  rcases h with h | ⟨j, A, h1, h2, h3⟩
  · exact .inl h
  · exact .inr ⟨j, A, h1, by rw [List.getElem?_set_ne h1]; exact h2, h3⟩
/-- .. whatever becomes of a third one -/
def LentR2 (B : Nat) (w0 : World) (As : List Asset) (i k : Nat) (lo : Option Addr) (cap : Nat) (rec : List UInt8) : Prop := (SB w0 lo cap rec ∧ (rec ≠ [] → ∀ x, lo = some x → x.block < B)) ∨ ∃ (j : Nat) (A : Asset), i ≠ j ∧ k ≠ j ∧ As[j]? = some A ∧ ∀ w F, A w F → SB w lo cap rec ∧ (rec ≠ [] → ∀ x, lo = some x → F x.block)
theorem LentR2.one {i k : Nat} (h : LentR2 B w0 As i k lo cap rec) : LentR B w0 As i lo cap rec := by
  rcases h with h | ⟨j, A, h1, _, h2, h3⟩
  · exact .inl h
  · exact .inr ⟨j, A, h1, h2, h3⟩
theorem LentR2.set2 {i k : Nat} (C D : Asset) (h : LentR2 B w0 As i k lo cap rec) : LentR B w0 ((As.set i C).set k D) i lo cap rec := by
  rcases h with h | ⟨j, A, h1, h4, h2, h3⟩
  · exact .inl h
  · exact .inr ⟨j, A, h1, by rw [List.getElem?_set_ne h4, List.getElem?_set_ne h1]; exact h2, h3⟩
theorem LentR.sb {i : Nat} (h : LentR B w0 As i lo cap rec) (hs : St B w0 w As) : SB w lo cap rec := by
  rcases h with ⟨h1, h2⟩ | ⟨j, A, h1, h2, h3⟩
  · exact sb_keepE h1 (keepB hs.be) (fun hne x hx hF => by have := h2 hne x hx; omega)
  · obtain ⟨F, hA, _⟩ := hs.open j h2
    exact (h3 _ _ hA).1
theorem St.log_writeR (h : St B w0 w As) (i : Nat) (hi : As[i]? = some (dev a d)) (hl : LentR B w0 As i lo cap rec) (f t g at_ : Int) (rn : Nat) (hrn : rn = rec.length) (hrc : rn ≤ cap) (hrm : rn ≤ 9223372036854775807) (hlo : d.loose.length ≤ 1073000000) (ha1 : -9223372036854775808 ≤ at_ ∧ at_ ≤ 9223372036854775807) :
    Calls Try.prog 64 #[ptr a, .agg #[.int .i64 f, .int .i64 t, .int .i64 g], .int .i64 at_, .slice lo rn cap] w fun e w' => e = .returned (.tuple #[.int .i64 (logWrite d f t g at_ rec).1.1, .int .i64 (logWrite d f t g at_ rec).1.2]) ∧ St B w0 w' (As.set i (dev a (logWrite d f t g at_ rec).2)) := by
  have hsb := hl.sb h
  obtain ⟨F, hA, hF, ho, hcl⟩ := h.open i hi
  have hap : rec ≠ [] → ∀ x, lo = some x → ¬ F x.block := by
    intro hne x hx hf
    rcases hl with ⟨_, h2⟩ | ⟨j, A, h1, h2, h3⟩
    · have := h2 hne x hx; have := hF _ hf; omega
    · obtain ⟨G, hG, _, hd⟩ := ho j _ h1 h2
      exact hd _ hf ((h3 _ _ hG).2 hne x hx)
  refine (logWrite_any f t g at_ lo rn cap rec hrn hrc hrm w hsb hap hA (fun k hk => (hF k hk).2) hlo ha1).mono ?_
  rintro e w' ⟨he, hp, hk⟩
  exact ⟨he, hcl w' _ _ hk (good_dev _ _) hp (fun _ h => h)⟩
end
/-- what Append holds beside the rest -/
def apX (bv bl bn v : Nat) (lo : Option Addr) (rn rc : Nat) (p : Int) (Y : List Asset) : List Asset := [blkA bv 103 [ptr v], blkA bl 22 [.slice lo rn rc], blkA bn 3 [.int .i64 p]] ++ Y
/-- what Append does on the device -/
def appendFs (f t gen : Nat) (next : Int) (rec : List UInt8) (k : Nat) (s : Dev × Int) : Int × (Dev × Int) :=
  if k = 0 then ((logWrite s.1 (f : Nat) (t : Nat) (gen : Nat) next rec).1.2, ((logWrite s.1 (f : Nat) (t : Nat) (gen : Nat) next rec).2, (logWrite s.1 (f : Nat) (t : Nat) (gen : Nat) next rec).1.1)) else (s.1.flush.1, (s.1.flush.2, s.2))
def appendD (d : Dev) (gen : Nat) (next : Int) (rec : List UInt8) : Int × (Dev × Int) := seqOf (appendFs (fromOf d.img.length gen) (fromOf d.img.length gen + halfOf d.img.length) gen next rec) 0 2 (d, 0)
def appendedV (d : Dev) (s : VS) (rec : List UInt8) : Int × Dev × VS :=
  if (appendD d s.gen s.next rec).1 = 0 then (0, (appendD d s.gen s.next rec).2.1, { s with next := (appendD d s.gen s.next rec).2.2, L := s.L ++ [rec] }) else ((appendD d s.gen s.next rec).1, (appendD d s.gen s.next rec).2.1, { s with br := true })
def appendV (d : Dev) (s : VS) (rec : List UInt8) : Int × Dev × VS :=
  if s.br then (23, d, s) else if 1048576 < rec.length then (4, d, s) else if freeOf d.img.length s.next < needOf rec.length then (10, d, s) else appendedV d s rec
theorem set_vault {B : Nat} {w0 w : World} {As X : List Asset} (h : St B w0 w (As ++ X)) (j : Nat) {v a : Nat} {s : VS} (hj : As[j]? = some (vsA v a s)) : ∃ vl, Blk w v 105 (vCells a s.gen s.next vl s.br) := h.vault j (get_pre hj)
set_option maxRecDepth 100000 in
set_option maxHeartbeats 2000000 in
theorem vappend1 {B : Nat} {w0 w : World} {As : List Asset} {a : Nat} {d : Dev} (i : Nat) (hi : As[i]? = some (dev a d)) (j v : Nat) (s : VS) (hj : As[j]? = some (vsA v a s)) (hij : i ≠ j) (bv bl bn : Nat) (lo : Option Addr) (rn rc : Nat) (rec : List UInt8) (hrn : rn = rec.length) (hrc : rn ≤ rc) (hrm : rn ≤ 1048576) (hL : LentR B w0 As i lo rc rec) (hg : s.gen ≤ 2147483648) (hnx : 0 ≤ s.next ∧ s.next ≤ 131072) (Y : List Asset) (p : Int) (x : Dev) (n fr tw hf : Nat) (hnn : x.img.length = n) (hfr : fromOf n s.gen = fr) (hhf : halfOf n = hf) (hto : fr + hf = tw) (hn2 : 2 ≤ x.img.length) (h : St B w0 w (As.set i (dev a x) ++ apX bv bl bn v lo rn rc p Y)) (hlo : x.loose.length ≤ 1073000000) :
    Calls Try.prog 122 #[ptr bv, ptr bl, ptr bn] w fun e w' => e = .returned (.int .i64 (logWrite x (fr : Nat) (tw : Nat) (s.gen : Nat) s.next rec).1.2) ∧ St B w0 w' (As.set i (dev a (logWrite x (fr : Nat) (tw : Nat) (s.gen : Nat) s.next rec).2) ++ apX bv bl bn v lo rn rc (logWrite x (fr : Nat) (tw : Nat) (s.gen : Nat) s.next rec).1.1 Y) := by
  obtain ⟨vl, hvb⟩ := h.vault j (set_beside hj hij)
  have cv0 := hvb.cell (j := 0) rfl
  have cv1 := hvb.cell (j := 1) rfl
  have cv2 := hvb.cell (j := 2) rfl
  have cb := (h.blk (As.length + 0) (set_post 0 rfl)).cell (j := 0) rfl
  have cl := (h.blk (As.length + 1) (set_post 1 rfl)).cell (j := 0) rfl
  unfold ptr at cb cv0
  have H := hid h; have HI := hid hi; have HJ := hid hj; have HL := hid hL; have HRN := hid hrn; have HRC := hid hrc
  have HN := hid hnn; have HFR := hid hfr; have HHF := hid hhf; have HTO := hid hto
  clear h hi hj hL hvb hrn hnn hfr hhf hto hrc
  unfold ptr
  go_enter Try.func122, Try.ntmps122
  go_upto_region 1 with fail
  refine wp_region_held_drew (S := fun w' => w'.cell? ⟨bv, 0, none⟩ = some (.pointer (some ⟨v, 0, none⟩)) ∧ w'.cell? ⟨v, 0, none⟩ = some (.pointer (some ⟨a, 0, none⟩)) ∧ w'.cell? ⟨v, 1, none⟩ = some (.int .i64 s.gen) ∧ w'.cell? ⟨v, 2, none⟩ = some (.int .i64 s.next) ∧ w'.cell? ⟨bl, 0, none⟩ = some (.slice lo rn rc)) (by kernel_rfl) ⟨cb, cv0, cv1, cv2, cl⟩ (fun hS => ?_)
  refine wpAnyH_take (i := 0) (v := ?v0x1z) (by simp only [List.getElem?_toArray, List.getElem?_cons_zero]; exact rfl) (by kernel_rfl) (by kernel_rfl) (by kernel_rfl) (by exact fun _ _ _ h => h) (Or.inl ⟨by rfl, ?y0x1z⟩) hS ?r0x1z
  case y0x1z => (intro w' hSw; (try dsimp only at hSw); go_simp; (try with_reducible rfl))
  simp only [Act.put, List.setIfInBounds_toArray, List.set_cons_zero, List.set_cons_succ]
  refine wpAnyH_take (i := 1) (v := ?v1x2z) (by simp only [List.getElem?_toArray, List.getElem?_cons_zero, List.getElem?_cons_succ]; exact rfl) (by kernel_rfl) (by kernel_rfl) (by kernel_rfl) (by exact fun _ _ _ h => h) (Or.inl ⟨by rfl, ?y1x2z⟩) hS ?r1x2z
  case y1x2z => (intro w' hSw; (try dsimp only at hSw); go_simp; (try with_reducible rfl))
  simp only [Act.put, List.setIfInBounds_toArray, List.set_cons_zero, List.set_cons_succ]
  refine wpAnyH_take (i := 2) (v := ?v2x3z) (by simp only [List.getElem?_toArray, List.getElem?_cons_zero, List.getElem?_cons_succ]; exact rfl) (by kernel_rfl) (by kernel_rfl) (by kernel_rfl) (by exact fun _ _ _ h => h) (Or.inl ⟨by rfl, ?y2x3z⟩) hS ?r2x3z
  case y2x3z => (intro w' hSw; (try dsimp only at hSw); go_simp; (try with_reducible rfl))
  simp only [Act.put, List.setIfInBounds_toArray, List.set_cons_zero, List.set_cons_succ]
  refine wpAnyH_take (i := 3) (v := ?v3x4z) (by simp only [List.getElem?_toArray, List.getElem?_cons_zero, List.getElem?_cons_succ]; exact rfl) (by kernel_rfl) (by kernel_rfl) (by kernel_rfl) (by exact fun _ _ _ h => h) (Or.inl ⟨by rfl, ?y3x4z⟩) hS ?r3x4z
  case y3x4z => (intro w' hSw; (try dsimp only at hSw); go_simp; (try with_reducible rfl))
  simp only [Act.put, List.setIfInBounds_toArray, List.set_cons_zero, List.set_cons_succ]
  refine wpAnyH_take (i := 4) (v := ?v4x5z) (by simp only [List.getElem?_toArray, List.getElem?_cons_zero, List.getElem?_cons_succ]; exact rfl) (by kernel_rfl) (by kernel_rfl) (by kernel_rfl) (by exact fun _ _ _ h => h) (Or.inl ⟨by rfl, ?y4x5z⟩) hS ?r4x5z
  case y4x5z => (intro w' hSw; (try dsimp only at hSw); go_simp; (try with_reducible rfl))
  simp only [Act.put, List.setIfInBounds_toArray, List.set_cons_zero, List.set_cons_succ]
  refine wpAnyH_take (i := 5) (v := ?v5x6z) (by simp only [List.getElem?_toArray, List.getElem?_cons_zero, List.getElem?_cons_succ]; exact rfl) (by kernel_rfl) (by kernel_rfl) (by kernel_rfl) (by exact fun _ _ _ h => h) (Or.inl ⟨by rfl, ?y5x6z⟩) hS ?r5x6z
  case y5x6z => (intro w' hSw; (try dsimp only at hSw); go_simp; (try with_reducible rfl))
  simp only [Act.put, List.setIfInBounds_toArray, List.set_cons_zero, List.set_cons_succ]
  refine wpAnyH_take (i := 6) (v := ?v6x7z) (by simp only [List.getElem?_toArray, List.getElem?_cons_zero, List.getElem?_cons_succ]; exact rfl) (by kernel_rfl) (by kernel_rfl) (by kernel_rfl) (by exact fun _ _ _ h => h) (Or.inl ⟨by rfl, ?y6x7z⟩) hS ?r6x7z
  case y6x7z => (intro w' hSw; (try dsimp only at hSw); go_simp; (try with_reducible rfl))
  simp only [Act.put, List.setIfInBounds_toArray, List.set_cons_zero, List.set_cons_succ]
  refine wpAnyH_take (i := 7) (v := ?v7x8z) (by simp only [List.getElem?_toArray, List.getElem?_cons_zero, List.getElem?_cons_succ]; exact rfl) (by kernel_rfl) (by kernel_rfl) (by kernel_rfl) (by exact fun _ _ _ h => h) (Or.inl ⟨by rfl, ?y7x8z⟩) hS ?r7x8z
  case y7x8z => (intro w' hSw; (try dsimp only at hSw); go_simp; (try with_reducible rfl))
  simp only [Act.put, List.setIfInBounds_toArray, List.set_cons_zero, List.set_cons_succ]
  refine wpAnyH_take (i := 8) (v := ?v8x9z) (by simp only [List.getElem?_toArray, List.getElem?_cons_zero, List.getElem?_cons_succ]; exact rfl) (by kernel_rfl) (by kernel_rfl) (by kernel_rfl) (by exact fun _ _ _ h => h) (Or.inl ⟨by rfl, ?y8x9z⟩) hS ?r8x9z
  case y8x9z => (intro w' hSw; (try dsimp only at hSw); go_simp; (try with_reducible rfl))
  simp only [Act.put, List.setIfInBounds_toArray, List.set_cons_zero, List.set_cons_succ]
  refine wpAnyH_take (i := 9) (v := ?v9x10z) (by simp only [List.getElem?_toArray, List.getElem?_cons_zero, List.getElem?_cons_succ]; exact rfl) (by kernel_rfl) (by kernel_rfl) (by kernel_rfl) (by exact fun _ _ _ h => h) (Or.inl ⟨by rfl, ?y9x10z⟩) hS ?r9x10z
  case y9x10z => (intro w' hSw; (try dsimp only at hSw); go_simp; (try with_reducible rfl))
  simp only [Act.put, List.setIfInBounds_toArray, List.set_cons_zero, List.set_cons_succ]
  refine wpAnyH_take (i := 10) (v := ?v10x11z) (by simp only [List.getElem?_toArray, List.getElem?_cons_zero, List.getElem?_cons_succ]; exact rfl) (by kernel_rfl) (by kernel_rfl) (by kernel_rfl) (by exact fun _ _ _ h => h) (Or.inl ⟨by rfl, ?y10x11z⟩) hS ?r10x11z
  case y10x11z => (intro w' hSw; (try dsimp only at hSw); go_simp; (try with_reducible rfl))
  simp only [Act.put, List.setIfInBounds_toArray, List.set_cons_zero, List.set_cons_succ]
  refine wpAnyH_take (i := 11) (v := ?v11x12z) (by simp only [List.getElem?_toArray, List.getElem?_cons_zero, List.getElem?_cons_succ]; exact rfl) (by kernel_rfl) (by kernel_rfl) (by kernel_rfl) (by exact fun _ _ _ h => h) (Or.inl ⟨by rfl, ?y11x12z⟩) hS ?r11x12z
  case y11x12z => (intro w' hSw; (try dsimp only at hSw); go_simp; (try with_reducible rfl))
  simp only [Act.put, List.setIfInBounds_toArray, List.set_cons_zero, List.set_cons_succ]
  refine wpAnyH_take (i := 13) (v := ?v13x13z) (by simp only [List.getElem?_toArray, List.getElem?_cons_zero, List.getElem?_cons_succ]; exact rfl) (by kernel_rfl) (by kernel_rfl) (by kernel_rfl) (by exact fun _ _ _ h => h) (Or.inl ⟨by rfl, ?y13x13z⟩) hS ?r13x13z
  case y13x13z => (intro w' hSw; (try dsimp only at hSw); go_simp; (try with_reducible rfl))
  simp only [Act.put, List.setIfInBounds_toArray, List.set_cons_zero, List.set_cons_succ]
  refine wpAnyH_take (i := 14) (v := ?v14x14z) (by simp only [List.getElem?_toArray, List.getElem?_cons_zero, List.getElem?_cons_succ]; exact rfl) (by kernel_rfl) (by kernel_rfl) (by kernel_rfl) (by exact fun _ _ _ h => h) (Or.inl ⟨by rfl, ?y14x14z⟩) hS ?r14x14z
  case y14x14z => (intro w' hSw; (try dsimp only at hSw); go_simp; (try with_reducible rfl))
  simp only [Act.put, List.setIfInBounds_toArray, List.set_cons_zero, List.set_cons_succ]
  refine wpAnyH_take (i := 15) (v := ?v15x15z) (by simp only [List.getElem?_toArray, List.getElem?_cons_zero, List.getElem?_cons_succ]; exact rfl) (by kernel_rfl) (by kernel_rfl) (by kernel_rfl) (by exact fun _ _ _ h => h) (Or.inl ⟨by rfl, ?y15x15z⟩) hS ?r15x15z
  case y15x15z => (intro w' hSw; (try dsimp only at hSw); go_simp; (try with_reducible rfl))
  simp only [Act.put, List.setIfInBounds_toArray, List.set_cons_zero, List.set_cons_succ]
  refine wpAnyH_take (i := 16) (v := ?v16x16z) (by simp only [List.getElem?_toArray, List.getElem?_cons_zero, List.getElem?_cons_succ]; exact rfl) (by kernel_rfl) (by kernel_rfl) (by kernel_rfl) (by exact fun _ _ _ h => h) (Or.inl ⟨by rfl, ?y16x16z⟩) hS ?r16x16z
  case y16x16z => (intro w' hSw; (try dsimp only at hSw); go_simp; (try with_reducible rfl))
  simp only [Act.put, List.setIfInBounds_toArray, List.set_cons_zero, List.set_cons_succ]
  refine wpAnyH_take (i := 17) (v := ?v17x17z) (by simp only [List.getElem?_toArray, List.getElem?_cons_zero, List.getElem?_cons_succ]; exact rfl) (by kernel_rfl) (by kernel_rfl) (by kernel_rfl) (by exact fun _ _ _ h => h) (Or.inl ⟨by rfl, ?y17x17z⟩) hS ?r17x17z
  case y17x17z => (intro w' hSw; (try dsimp only at hSw); go_simp; (try with_reducible rfl))
  simp only [Act.put, List.setIfInBounds_toArray, List.set_cons_zero, List.set_cons_succ]
  refine wpAnyH_ready (rs := [12]) (by kernel_rfl) (by simp) ?_
  refine AllReadyH.cons (by simp only [List.getElem?_toArray, List.getElem?_cons_zero, List.getElem?_cons_succ]; exact rfl) (fun K hK => ?_) AllReadyH.nil
  go_simp
  refine (H.out.v_area (Below.refl _ _).drew i (set_mid HI.out) s.gen hg hn2).mono ?_
  rintro e w5 ⟨rfl, hb5⟩
  rw [HN.out, HFR.out, HHF.out, HTO.out]
  have hb5 := (Below.refl w.heap.size w).drew.trans hb5
  have hS5 : w5.cell? ⟨bv, 0, none⟩ = some (.pointer (some ⟨v, 0, none⟩)) ∧ w5.cell? ⟨v, 0, none⟩ = some (.pointer (some ⟨a, 0, none⟩)) ∧ w5.cell? ⟨v, 1, none⟩ = some (.int .i64 s.gen) ∧ w5.cell? ⟨v, 2, none⟩ = some (.int .i64 s.next) ∧ w5.cell? ⟨bl, 0, none⟩ = some (.slice lo rn rc) := ⟨(hb5.cell (World.block_lt_of_cell? _ _ hS.1)).trans hS.1, (hb5.cell (World.block_lt_of_cell? _ _ hS.2.1)).trans hS.2.1, (hb5.cell (World.block_lt_of_cell? _ _ hS.2.2.1)).trans hS.2.2.1, (hb5.cell (World.block_lt_of_cell? _ _ hS.2.2.2.1)).trans hS.2.2.2.1, (hb5.cell (World.block_lt_of_cell? _ _ hS.2.2.2.2)).trans hS.2.2.2.2⟩
  have H5 := hid (H.out.below hb5)
  clear hb5
  refine hK.out _ _ ?k12x18z (fun hS => ?s12x18z)
  case k12x18z => exact hS5
  clear hK K
  try simp only [Act.put, List.setIfInBounds_toArray, List.set_cons_zero, List.set_cons_succ]
  refine wpAnyH_ready (rs := [18]) (by kernel_rfl) (by simp) ?_
  refine AllReadyH.cons (by simp only [List.getElem?_toArray, List.getElem?_cons_zero, List.getElem?_cons_succ]; exact rfl) (fun K hK => ?_) AllReadyH.nil
  go_simp
  refine (H5.out.log_writeR i (set_mid HI.out) (HL.out.set _).app (fr : Nat) (tw : Nat) (s.gen : Nat) s.next rn HRN.out HRC.out (by omega) (by omega) (by omega)).mono ?_
  rintro e w7 ⟨rfl, h7⟩
  rw [set_twice' HI.out] at h7
  generalize hx : logWrite x (fr : Nat) (tw : Nat) (s.gen : Nat) s.next rec = r at h7 ⊢
  obtain ⟨⟨nx, ex⟩, dx⟩ := r
  have HX := hid hx
  have H7 := hid h7
  dsimp only at H7 ⊢
  obtain ⟨vl', hvb'⟩ := H7.out.vault j (set_beside HJ.out hij)
  have hv0 := hvb'.cell (j := 0) rfl
  have hv1 := hvb'.cell (j := 1) rfl
  have hv2 := hvb'.cell (j := 2) rfl
  have hb1 := (H7.out.blk (As.length + 0) (set_post 0 rfl)).cell (j := 0) rfl
  have hb2 := (H7.out.blk (As.length + 1) (set_post 1 rfl)).cell (j := 0) rfl
  have ct := (H7.out.blk (As.length + 2) (set_post 2 rfl)).cell (j := 0) rfl
  have ft := (H7.out.blk (As.length + 2) (set_post 2 rfl)).free 0
  unfold ptr at hv0 hb1
  have hS7 := And.intro hb1 (And.intro hv0 (And.intro hv1 (And.intro hv2 hb2)))
  clear h7 hx hvb' hv0 hv1 hv2 hb1 hb2
  refine hK.out _ _ ?k18x19z (fun hS => ?s18x19z)
  case k18x19z => exact hS7
  clear hK K
  try simp only [Act.put, List.setIfInBounds_toArray, List.set_cons_zero, List.set_cons_succ]
  refine wpAnyH_take (i := 19) (v := ?v19x20z) (by simp only [List.getElem?_toArray, List.getElem?_cons_zero, List.getElem?_cons_succ]; exact rfl) (by kernel_rfl) (by kernel_rfl) (by kernel_rfl) (by exact fun _ _ _ h => h) (Or.inl ⟨by rfl, ?y19x20z⟩) hS ?r19x20z
  case y19x20z => (intro w' hSw; (try dsimp only at hSw); go_simp; (try with_reducible rfl))
  simp only [Act.put, List.setIfInBounds_toArray, List.set_cons_zero, List.set_cons_succ]
  refine wpAnyH_take (i := 20) (v := ?v20x21z) (by simp only [List.getElem?_toArray, List.getElem?_cons_zero, List.getElem?_cons_succ]; exact rfl) (by kernel_rfl) (by kernel_rfl) (by kernel_rfl) (by exact fun _ _ _ h => h) (Or.inl ⟨by rfl, ?y20x21z⟩) hS ?r20x21z
  case y20x21z => (intro w' hSw; (try dsimp only at hSw); go_simp; (try with_reducible rfl))
  simp only [Act.put, List.setIfInBounds_toArray, List.set_cons_zero, List.set_cons_succ]
  refine wpAnyH_take (i := 21) (v := ?v21x22z) (by simp only [List.getElem?_toArray, List.getElem?_cons_zero, List.getElem?_cons_succ]; exact rfl) (by kernel_rfl) (by kernel_rfl) (by kernel_rfl) (by exact fun _ _ _ h => h) (Or.inl ⟨by rfl, ?y21x22z⟩) hS ?r21x22z
  case y21x22z => (intro w' hSw; (try dsimp only at hSw); go_simp; (try with_reducible rfl))
  simp only [Act.put, List.setIfInBounds_toArray, List.set_cons_zero, List.set_cons_succ]
  refine wpAnyH_ready (rs := [22]) (by kernel_rfl) (by simp) ?_
  refine AllReadyH.cons (by simp only [List.getElem?_toArray, List.getElem?_cons_zero, List.getElem?_cons_succ]; exact rfl) (fun K hK => ?_) AllReadyH.nil
  go_simp
  generalize hw8 : World.setCell _ _ _ = w8
  have h8 : St B w0 w8 (As.set i (dev a dx) ++ apX bv bl bn v lo rn rc nx Y) := by
    have := H7.out.blkTurn (As.length + 2) (set_post 2 rfl) ((Keep.refl (fun k => k = bn) w7).setCell (p := ⟨bn, 0, none⟩) rfl (.int .i64 nx)) ((H7.out.blk (As.length + 2) (set_post 2 rfl)).set 0 (.int .i64 nx))
    rw [set_postTurn, hw8] at this
    exact this
  have H8 := hid h8
  obtain ⟨vl', hvb'⟩ := H8.out.vault j (set_beside HJ.out hij)
  have hv0 := hvb'.cell (j := 0) rfl
  have hv1 := hvb'.cell (j := 1) rfl
  have hv2 := hvb'.cell (j := 2) rfl
  have hb1 := (H8.out.blk (As.length + 0) (set_post 0 rfl)).cell (j := 0) rfl
  have hb2 := (H8.out.blk (As.length + 1) (set_post 1 rfl)).cell (j := 0) rfl
  unfold ptr at hv0 hb1
  have hS8 := And.intro hb1 (And.intro hv0 (And.intro hv1 (And.intro hv2 hb2)))
  clear h8 hw8 hvb' hv0 hv1 hv2 hb1 hb2 ct ft
  refine hK.out _ _ ?k22x23z (fun hS => ?s22x23z)
  case k22x23z => exact hS8
  clear hK K
  try simp only [Act.put]
  refine wpAnyH_take (i := 23) (v := ?v23x24z) (by simp only [List.getElem?_toArray, List.getElem?_cons_zero, List.getElem?_cons_succ]; exact rfl) (by kernel_rfl) (by kernel_rfl) (by kernel_rfl) (by exact fun _ _ _ h => h) (Or.inl ⟨by rfl, ?y23x24z⟩) hS ?r23x24z
  case y23x24z => (intro w' hSw; (try dsimp only at hSw); go_simp; (try with_reducible rfl))
  simp only [Act.put, List.setIfInBounds_toArray, List.set_cons_zero, List.set_cons_succ]
  refine wpAnyH_done (by kernel_rfl) ?_ _
  clear hS hS7 hS8
  go_wp2
  go_ret
  rw [HX.out]
  exact ⟨rfl, H8.out⟩
end Go.Proofs.Ytlondopgibcikaa
namespace Go.Proofs.Ytlondopgibcikaa
open Go.RowKit Ent
theorem enter_a1 (xs : Array Value) (w : World) : (callFunc 122 xs).run Try.prog w = .ok (.enter 122 xs) w := by kernel_rfl
theorem vappend_all {B : Nat} {w0 w : World} {As : List Asset} {a : Nat} {d : Dev} (i : Nat) (hi : As[i]? = some (dev a d)) (j v : Nat) (s : VS) (hj : As[j]? = some (vsA v a s)) (hij : i ≠ j) (bv bl bn g : Nat) (lo : Option Addr) (rn rc : Nat) (rec : List UInt8) (hrn : rn = rec.length) (hrc : rn ≤ rc) (hrm : rn ≤ 1048576) (hL : LentR B w0 As i lo rc rec) (hg : s.gen ≤ 2147483648) (hnx : 0 ≤ s.next ∧ s.next ≤ 131072) (hn2 : 2 ≤ d.img.length) (h : St B w0 w (As.set i (dev a d) ++ apX bv bl bn v lo rn rc 0 [blkA g 46 [.func (.func 122) #[] #[ptr bv, ptr bl, ptr bn], .func (.func 41) #[ptr a] #[]]])) (hlo : d.loose.length ≤ 100000000) :
    Calls Try.prog 125 #[.slice (some ⟨g, 0, none⟩) 2 2] w fun e w' => e = .returned (.int .i64 (appendD d s.gen s.next rec).1) ∧ St B w0 w' (As.set i (dev a (appendD d s.gen s.next rec).2.1) ++ apX bv bl bn v lo rn rc (appendD d s.gen s.next rec).2.2 [blkA g 46 [.func (.func 122) #[] #[ptr bv, ptr bl, ptr bn], .func (.func 41) #[ptr a] #[]]]) := by
  unfold appendD
  refine vall_seq (S := Dev × Int) (fun z w => St B w0 w (As.set i (dev a z.1) ++ apX bv bl bn v lo rn rc z.2 [blkA g 46 [.func (.func 122) #[] #[ptr bv, ptr bl, ptr bn], .func (.func 41) #[ptr a] #[]]])) (fun k z => k = 0 → z = (d, 0)) (appendFs (fromOf d.img.length s.gen) (fromOf d.img.length s.gen + halfOf d.img.length) s.gen s.next rec) g 2 (by omega) (fun k => if k = 0 then 122 else 41) (fun k => if k = 0 then #[] else #[ptr a]) (fun k => if k = 0 then #[ptr bv, ptr bl, ptr bn] else #[]) ?_ ?_ ?_ w (d, 0) h (fun _ => rfl)
  · intro k z w' hk hs
    have := hs.blk (As.length + 3) (set_post 3 rfl)
    rcases (by omega : k = 0 ∨ k = 1) with rfl | rfl
    · exact this.cell (j := 0) rfl
    · exact this.cell (j := 1) rfl
  · intro k z w' hk hq hs
    rcases (by omega : k = 0 ∨ k = 1) with rfl | rfl
    · obtain rfl := hq rfl
      refine (vappend1 i hi j v s hj hij bv bl bn lo rn rc rec hrn hrc hrm hL hg hnx _ 0 d d.img.length _ _ _ rfl rfl rfl rfl hn2 hs (by omega)).mono ?_
      rintro e w2 ⟨rfl, h2⟩
      exact ⟨rfl, h2, fun _ h0 => absurd h0 (by omega)⟩
    · refine (hs.dev_flush i (set_mid hi)).mono ?_
      rintro e w2 ⟨rfl, h2⟩
      rw [set_twice' hi] at h2
      exact ⟨rfl, h2, fun _ h0 => absurd h0 (by omega)⟩
  · intro k hk xs w'
    rcases (by omega : k = 0 ∨ k = 1) with rfl | rfl
    · exact enter_a1 xs w'
    · exact enter_flush xs w'
/-- a list with one more record, which is new -/
theorem list_told {w w5 w6 w7 : World} {G Fb : Nat → Prop} {vl v' r : Value} {vs : List Value} {L : List (List UInt8)} {rec : List UInt8} (hr : RowSW w Fb vs L) (hf : ∀ k, Fb k → G k) (hv : ∀ k, vl.ownBlock = some k → G k ∧ ¬ Fb k) (hGw : ∀ k, G k → k < w.heap.size)
    (hb : Below w.heap.size w w5) (ho : w5.ownsRow w.heap.size 5 1 r rec.length (bv rec)) (hb6 : Below w5.heap.size w5 w6) (hap : w7.ownsRow 0 22 1 v' (L.length + 1) (vs ++ [r])) (hg : w6.grownBy w7 vl.ownBlock) (hw : v'.ownBlock = vl.ownBlock ∨ v'.ownBlock = some w6.heap.size) :
    listA v' (L ++ [rec]) w7 (fun k => G k ∨ (w.heap.size ≤ k ∧ k < w7.heap.size)) ∧ Keep G w w7 := by
  have hk5 : Keep G w w5 := Keep.ofBelow hb
  have hk6 : Keep G w w6 := hk5.trans (Keep.ofBelow hb6)
  have hk7 : Keep G w w7 := hk6.grown hg (fun k hk _ => (hv k hk).1)
  have hkr : Keep (fun k => vl.ownBlock = some k) w w7 := ((Keep.ofBelow (F := fun k => vl.ownBlock = some k) hb).trans (Keep.ofBelow hb6)).grown hg (fun k hk _ => hk)
  have hk57 : Keep (fun k => vl.ownBlock = some k) w5 w7 := (Keep.ofBelow (F := fun k => vl.ownBlock = some k) hb6).grown hg (fun k hk _ => hk)
  have hs6 := hb6.size
  have hs5 := hb.size
  have hs7 := hg.size
  have hsw : SW w7 (fun k => r.ownBlock = some k) r rec := by
    obtain ⟨ao, cap, rfl, _, hc, hs, hwb, _⟩ := own_all ho
    have : SW w5 (fun k => (Value.slice ao rec.length cap).ownBlock = some k) (.slice ao rec.length cap) rec := ⟨ao, cap, rfl, hc, hs, hwb, fun x hx => by rw [hx]; rfl⟩
    exact this.keep hk57 (fun k h1 h2 => by have := hGw k (hv k h2).1; have := owns_ge ho k h1; omega)
  refine ⟨⟨vs ++ [r], fun k => Fb k ∨ r.ownBlock = some k, by rw [List.length_append]; exact hap, ((hr.keep hkr (fun k h1 h2 => (hv k h2).2 h1)).mono (fun _ => .inl)).snoc (hsw.mono (fun _ => .inr)), fun k hk => ?_, fun k hk => ?_⟩, hk7⟩
  · rcases hk with hk | hk
    · exact .inl (hf k hk)
    · have h1 := owns_ge ho k hk; have h2 := own_lt ho k hk
      exact .inr ⟨h1, by omega⟩
  · have hlt := own_lt hap k hk
    rcases hw with e | e
    · rw [e] at hk
      refine ⟨.inl (hv k hk).1, ?_⟩
      rintro (h1 | h1)
      · exact (hv k hk).2 h1
      · have := owns_ge ho k h1; have := hGw k (hv k hk).1; omega
    · rw [e] at hk; injection hk with hk
      refine ⟨.inr ⟨by omega, by omega⟩, ?_⟩
      rintro (h1 | h1)
      · have := hGw k (hf k h1); omega
      · have := own_lt ho k h1; omega
set_option maxRecDepth 100000 in
set_option maxHeartbeats 2000000 in
theorem vappend_any {B : Nat} {w0 w : World} {As : List Asset} {a : Nat} {d : Dev} (h : St B w0 w As) (i : Nat) (hi : As[i]? = some (dev a d)) (j v : Nat) (s : VS) (hj : As[j]? = some (vsA v a s)) (hij : i ≠ j) (lo : Option Addr) (rn rc : Nat) (rec : List UInt8) (hrn : rn = rec.length) (hrc : rn ≤ rc) (hrb : rn ≤ 1073741824) (hL : LentR2 B w0 As i j lo rc rec) (hg : s.gen ≤ 2147483647) (hnx : 0 ≤ s.next ∧ s.next ≤ 131072) (hLL : s.L.length ≤ 1000000) (hn2 : 2 ≤ d.img.length) (hlo : d.loose.length ≤ 100000000) :
    Calls Try.prog 87 #[ptr v, .slice lo rn rc] w fun e w' => e = .returned (.int .i64 (appendV d s rec).1) ∧ St B w0 w' ((As.set i (dev a (appendV d s rec).2.1)).set j (vsA v a (appendV d s rec).2.2)) := by
  obtain ⟨bv, hbv⟩ : ∃ bv, w.heap.size = bv := ⟨_, rfl⟩
  obtain ⟨w1, hw1⟩ : ∃ w1, w.alloc (.cells #[ptr v] 103) = w1 := ⟨_, rfl⟩
  have h1 : St B w0 w1 (As ++ [blkA bv 103 [ptr v]]) := by rw [← hw1, ← hbv]; exact h.box _ _
  obtain ⟨bl, hbl⟩ : ∃ bl, w1.heap.size = bl := ⟨_, rfl⟩
  obtain ⟨w2, hw2⟩ : ∃ w2, w1.alloc (.cells #[.slice lo rn rc] 22) = w2 := ⟨_, rfl⟩
  have h2 : St B w0 w2 (As ++ [blkA bv 103 [ptr v], blkA bl 22 [.slice lo rn rc]]) := by
    rw [← hw2, ← hbl]; exact h1.addBlk' (fresh_alloc w1 _) (alloc_new w1 _) (Nat.le_refl _)
  have H2 := hid h2
  have HI := hid hi; have HJ := hid hj; have HRN := hid hrn
  have HW1 := hid hw1; have HW2 := hid hw2; have HBV := hid hbv
  have HBL : Hid (bv + 1 = bl) := hid (by rw [← hbl, ← hw1, ← hbv]; exact (World.size_alloc _ _).symm)
  have cb := (h2.blk (As.length + 0) (get_post 0 rfl)).cell (j := 0) rfl
  have cl := (h2.blk (As.length + 1) (get_post 1 rfl)).cell (j := 0) rfl
  have hRD := h2.v_ready j (get_pre hj)
  have HRD := hid hRD
  clear h h1 h2 hi hj hw1 hw2 hbv hbl hrn hRD
  unfold ptr at cb HW1 HRD ⊢
  rcases hbr : s.br with _ | _
  · have HBR := hid hbr
    have HR0 : Hid (readyOf s = 0) := hid (by unfold readyOf; rw [hbr]; rfl)
    clear hbr
    go_enter Try.func87, Try.ntmps87
    go_upto_region 1 with fail
    rw [HW1.out, HBV.out, HW2.out, HBL.out]
    go_wp2_with fail
    refine HRD.out.mono ?_
    rintro e w' ⟨rfl, hw'⟩
    subst w'
    rw [HR0.out]
    by_cases hlong : 1048576 < rn
    · have qd : decide ((1048576 : Int) < (rn : Int)) = true := decide_eq_true (by omega)
      have HRV : Hid (appendV d s rec = (4, d, s)) := hid (by unfold appendV; rw [HBR.out, if_neg (by simp), if_pos (by rw [← HRN.out]; exact hlong)])
      go_wp2
      go_ret
      rw [HRV.out]
      refine ⟨rfl, ?_⟩
      rw [set_same HI.out, set_same HJ.out]
      exact H2.out.drop_post
    · have qd : decide ((1048576 : Int) < (rn : Int)) = false := decide_eq_false (by omega)
      obtain ⟨nd, hnd⟩ : ∃ nd, needOf rn = nd := ⟨_, rfl⟩
      obtain ⟨fo, hfo⟩ : ∃ fo, freeOf d.img.length s.next = fo := ⟨_, rfl⟩
      have HND := hid hnd; have HFO := hid hfo
      clear hnd hfo
      go_upto_region 6 with fail
      have hS00 : w2.cell? ⟨bv, 0, none⟩ = some (.pointer (some ⟨v, 0, none⟩)) ∧ w2.cell? ⟨bl, 0, none⟩ = some (.slice lo rn rc) := ⟨cb, cl⟩
      refine wp_region_held_drew (S := fun w' => w'.cell? ⟨bv, 0, none⟩ = some (.pointer (some ⟨v, 0, none⟩)) ∧ w'.cell? ⟨bl, 0, none⟩ = some (.slice lo rn rc)) (by kernel_rfl) hS00 (fun hS => ?_)
      refine wpAnyH_take (i := 0) (v := ?v0x1z) (by simp only [List.getElem?_toArray, List.getElem?_cons_zero]; exact rfl) (by kernel_rfl) (by kernel_rfl) (by kernel_rfl) (by exact fun _ _ _ h => h) (Or.inl ⟨by rfl, ?y0x1z⟩) hS ?r0x1z
      case y0x1z => (intro w' hSw; (try dsimp only at hSw); go_simp; (try with_reducible rfl))
      simp only [Act.put, List.setIfInBounds_toArray, List.set_cons_zero, List.set_cons_succ]
      refine wpAnyH_take (i := 1) (v := ?v1x2z) (by simp only [List.getElem?_toArray, List.getElem?_cons_zero, List.getElem?_cons_succ]; exact rfl) (by kernel_rfl) (by kernel_rfl) (by kernel_rfl) (by exact fun _ _ _ h => h) (Or.inl ⟨by rfl, ?y1x2z⟩) hS ?r1x2z
      case y1x2z => (intro w' hSw; (try dsimp only at hSw); go_simp; (try with_reducible rfl))
      simp only [Act.put, List.setIfInBounds_toArray, List.set_cons_zero, List.set_cons_succ]
      refine wpAnyH_take (i := 3) (v := ?v3x3z) (by simp only [List.getElem?_toArray, List.getElem?_cons_zero, List.getElem?_cons_succ]; exact rfl) (by kernel_rfl) (by kernel_rfl) (by kernel_rfl) (by exact fun _ _ _ h => h) (Or.inl ⟨by rfl, ?y3x3z⟩) hS ?r3x3z
      case y3x3z => (intro w' hSw; (try dsimp only at hSw); go_simp; (try with_reducible rfl))
      simp only [Act.put, List.setIfInBounds_toArray, List.set_cons_zero, List.set_cons_succ]
      refine wpAnyH_ready (rs := [2]) (by kernel_rfl) (by simp) ?_
      refine AllReadyH.cons (by simp only [List.getElem?_toArray, List.getElem?_cons_zero, List.getElem?_cons_succ]; exact rfl) (fun K hK => ?_) AllReadyH.nil
      go_simp
      refine (need_any rn (by omega) _).mono ?_
      rintro e w' ⟨rfl, hw'⟩
      subst w'
      rw [HND.out]
      refine hK.out _ _ ?k2x4z (fun hS => ?s2x4z)
      case k2x4z => exact hS
      clear hK K
      try simp only [Act.put, List.setIfInBounds_toArray, List.set_cons_zero, List.set_cons_succ]
      refine wpAnyH_ready (rs := [4]) (by kernel_rfl) (by simp) ?_
      refine AllReadyH.cons (by simp only [List.getElem?_toArray, List.getElem?_cons_zero, List.getElem?_cons_succ]; exact rfl) (fun K hK => ?_) AllReadyH.nil
      go_simp
      obtain ⟨vl, hvb⟩ := H2.out.vault j (get_pre HJ.out)
      have hb2 := (Below.refl w2.heap.size w2).drew
      refine (vfree_any (H2.out.below hb2) i (get_pre HI.out) v s.gen s.next vl s.br (hvb.below hb2 hvb.lt) (by omega) hn2 hnx).mono ?_
      rintro e w3 ⟨rfl, hb3⟩
      rw [HFO.out]
      have hb3 := hb2.trans hb3
      have hS3 := And.intro ((hb3.cell (World.block_lt_of_cell? _ _ hS00.1)).trans hS00.1) ((hb3.cell (World.block_lt_of_cell? _ _ hS00.2)).trans hS00.2)
      have H3 := hid (H2.out.below hb3)
      clear hvb hb2 hb3
      refine hK.out _ _ ?k4x5z (fun hS => ?s4x5z)
      case k4x5z => exact hS3
      clear hK K
      try simp only [Act.put, List.setIfInBounds_toArray, List.set_cons_zero, List.set_cons_succ]
      refine wpAnyH_take (i := 5) (v := ?v5x6z) (by simp only [List.getElem?_toArray, List.getElem?_cons_zero, List.getElem?_cons_succ]; exact rfl) (by kernel_rfl) (by kernel_rfl) (by kernel_rfl) (by exact fun _ _ _ h => h) (Or.inl ⟨by rfl, ?y5x6z⟩) hS ?r5x6z
      case y5x6z => (intro w' hSw; (try dsimp only at hSw); go_simp; (try with_reducible rfl))
      simp only [Act.put, List.setIfInBounds_toArray, List.set_cons_zero, List.set_cons_succ]
      refine wpAnyH_take (i := 6) (v := ?v6x7z) (by simp only [List.getElem?_toArray, List.getElem?_cons_zero, List.getElem?_cons_succ]; exact rfl) (by kernel_rfl) (by kernel_rfl) (by kernel_rfl) (by exact fun _ _ _ h => h) (Or.inl ⟨by rfl, ?y6x7z⟩) hS ?r6x7z
      case y6x7z => (intro w' hSw; (try dsimp only at hSw); go_simp; (try with_reducible rfl))
      simp only [Act.put, List.setIfInBounds_toArray, List.set_cons_zero, List.set_cons_succ]
      refine wpAnyH_done (by kernel_rfl) ?_ _
      clear hS hS3
      by_cases hfull : fo < (nd : Int)
      · have qf : decide (fo < (nd : Int)) = true := decide_eq_true hfull
        have HRV : Hid (appendV d s rec = (10, d, s)) := hid (by unfold appendV; rw [HBR.out, if_neg (by simp), if_neg (by rw [← HRN.out]; exact hlong), HFO.out, ← HRN.out, HND.out, if_pos hfull])
        clear hfull
        simp only [qf]
        go_wp2
        go_ret
        rw [HRV.out]
        refine ⟨rfl, ?_⟩
        rw [set_same HI.out, set_same HJ.out]
        exact H3.out.drop_post
      have qf : decide (fo < (nd : Int)) = false := decide_eq_false hfull
      have HRV : Hid (appendV d s rec = appendedV d s rec) := hid (by unfold appendV; rw [HBR.out, if_neg (by simp), if_neg (by rw [← HRN.out]; exact hlong), HFO.out, ← HRN.out, HND.out, if_neg hfull])
      clear hfull
      simp only [qf]
      obtain ⟨bn, hbn⟩ : ∃ bn, w3.heap.size = bn := ⟨_, rfl⟩
      obtain ⟨wn, hwn⟩ : ∃ wn, w3.alloc (.cells #[.int .i64 0] 3) = wn := ⟨_, rfl⟩
      have hn : St B w0 wn (As.set i (dev a d) ++ apX bv bl bn v lo rn rc 0 []) := by
        rw [set_same HI.out, ← hwn, ← hbn]; exact H3.out.addBlk' (fresh_alloc w3 _) (alloc_new w3 _) (Nat.le_refl _)
      have HN2 := hid hn; have HWN := hid hwn; have HBN := hid hbn
      have HJL : Hid (∀ C, j < (As.set i C).length) := hid (fun C => by rw [List.length_set]; exact (List.getElem?_eq_some_iff.1 HJ.out).1)
      obtain ⟨vl, hvb⟩ := hn.vault j (set_beside HJ.out hij)
      have c0n := hvb.cell (j := 0) rfl
      have cbn := (hn.blk (As.length + 0) (set_post 0 rfl)).cell (j := 0) rfl
      unfold ptr at c0n cbn
      clear hn hwn hbn hvb
      go_upto_region 10 with fail
      rw [HBN.out, HWN.out]
      refine wp_region_held_drew (S := fun w' => w'.cell? ⟨bv, 0, none⟩ = some (.pointer (some ⟨v, 0, none⟩)) ∧ w'.cell? ⟨v, 0, none⟩ = some (.pointer (some ⟨a, 0, none⟩))) (by kernel_rfl) ⟨cbn, c0n⟩ (fun hS => ?_)
      refine wpAnyH_take (i := 0) (v := ?v0x1x) (by simp only [List.getElem?_toArray, List.getElem?_cons_zero]; exact rfl) (by kernel_rfl) (by kernel_rfl) (by kernel_rfl) (by exact fun _ _ _ h => h) (Or.inl ⟨by rfl, ?y0x1x⟩) hS ?r0x1x
      case y0x1x => (intro w' hSw; (try dsimp only at hSw); go_simp; (try with_reducible rfl))
      simp only [Act.put, List.setIfInBounds_toArray, List.set_cons_zero, List.set_cons_succ]
      refine wpAnyH_take (i := 1) (v := ?v1x2x) (by simp only [List.getElem?_toArray, List.getElem?_cons_zero, List.getElem?_cons_succ]; exact rfl) (by kernel_rfl) (by kernel_rfl) (by kernel_rfl) (by exact fun _ _ _ h => h) (Or.inl ⟨by rfl, ?y1x2x⟩) hS ?r1x2x
      case y1x2x => (intro w' hSw; (try dsimp only at hSw); go_simp; (try with_reducible rfl))
      simp only [Act.put, List.setIfInBounds_toArray, List.set_cons_zero, List.set_cons_succ]
      refine wpAnyH_take (i := 2) (v := ?v2x3x) (by simp only [List.getElem?_toArray, List.getElem?_cons_zero, List.getElem?_cons_succ]; exact rfl) (by kernel_rfl) (by kernel_rfl) (by kernel_rfl) (by exact fun _ _ _ h => h) (Or.inl ⟨by rfl, ?y2x3x⟩) hS ?r2x3x
      case y2x3x => (intro w' hSw; (try dsimp only at hSw); go_simp; (try with_reducible rfl))
      simp only [Act.put, List.setIfInBounds_toArray, List.set_cons_zero, List.set_cons_succ]
      refine wpAnyH_take (i := 3) (v := ?v3x4x) (by simp only [List.getElem?_toArray, List.getElem?_cons_zero, List.getElem?_cons_succ]; exact rfl) (by kernel_rfl) (by kernel_rfl) (by kernel_rfl) (by exact fun _ _ _ h => h) (Or.inl ⟨by rfl, ?y3x4x⟩) hS ?r3x4x
      case y3x4x => (intro w' hSw; (try dsimp only at hSw); go_simp; (try with_reducible rfl))
      simp only [Act.put, List.setIfInBounds_toArray, List.set_cons_zero, List.set_cons_succ]
      refine wpAnyH_take (i := 4) (v := ?v4x5x) (by simp only [List.getElem?_toArray, List.getElem?_cons_zero, List.getElem?_cons_succ]; exact rfl) (by kernel_rfl) (by kernel_rfl) (by kernel_rfl) (by exact fun _ _ _ h => h) (Or.inl ⟨by rfl, ?y4x5x⟩) hS ?r4x5x
      case y4x5x => (intro w' hSw; (try dsimp only at hSw); go_simp; (try with_reducible rfl))
      simp only [Act.put, List.setIfInBounds_toArray, List.set_cons_zero, List.set_cons_succ]
      refine wpAnyH_take (i := 5) (v := ?v5x6x) (by simp only [List.getElem?_toArray, List.getElem?_cons_zero, List.getElem?_cons_succ]; exact rfl) (by kernel_rfl) (by kernel_rfl) (by kernel_rfl) (by exact fun _ _ _ h => h) (Or.inl ⟨by rfl, ?y5x6x⟩) hS ?r5x6x
      case y5x6x => (intro w' hSw; (try dsimp only at hSw); go_simp; (try with_reducible rfl))
      simp only [Act.put, List.setIfInBounds_toArray, List.set_cons_zero, List.set_cons_succ]
      refine wpAnyH_ready (rs := [6]) (by kernel_rfl) (by simp) ?_
      refine AllReadyH.cons (by simp only [List.getElem?_toArray, List.getElem?_cons_zero, List.getElem?_cons_succ]; exact rfl) (fun K hK => ?_) AllReadyH.nil
      go_simp
      refine hK.out _ _ ?k6x7x (fun hS => ?s6x7x)
      case k6x7x => exact hS
      clear hK K
      try simp only [Act.put, List.setIfInBounds_toArray, List.set_cons_zero, List.set_cons_succ]
      refine wpAnyH_ready (rs := [7]) (by kernel_rfl) (by simp) ?_
      refine AllReadyH.cons (by simp only [List.getElem?_toArray, List.getElem?_cons_zero, List.getElem?_cons_succ]; exact rfl) (fun K hK => ?_) AllReadyH.nil
      refine wpo_layV rowF 2 _ rfl [.func (.func 122) #[] #[ptr bv, ptr bl, ptr bn], .func (.func 41) #[ptr a] #[]] rfl (by omega) (by omega) (by simp [Value.cells]) (by simp [Act.eval, ptr]) ?_
      intro w6 hb6 h6
      have hb6 := (Below.refl wn.heap.size wn).drew.trans hb6
      have hS6 := And.intro ((hb6.cell (World.block_lt_of_cell? _ _ hS.1)).trans hS.1) ((hb6.cell (World.block_lt_of_cell? _ _ hS.2)).trans hS.2)
      obtain ⟨g6, hg6⟩ : ∃ g6, wn.heap.size = g6 := ⟨_, rfl⟩
      have H6 : Hid (St B w0 w6 (As.set i (dev a d) ++ apX bv bl bn v lo rn rc 0 [blkA g6 46 [.func (.func 122) #[] #[ptr bv, ptr bl, ptr bn], .func (.func 41) #[ptr a] #[]]])) := hid (by
        have := HN2.out.addBlk' hb6 h6 (Nat.le_refl _)
        rw [← hg6]; exact this)
      rw [show wn.drew.heap.size = g6 from hg6]
      clear hb6 h6 hg6
      refine hK.out _ _ ?k7x8x (fun hS => ?s7x8x)
      case k7x8x => exact hS6
      clear hK K
      try simp only [Act.put, List.setIfInBounds_toArray, List.set_cons_zero, List.set_cons_succ]
      refine wpAnyH_ready (rs := [8]) (by kernel_rfl) (by simp) ?_
      refine AllReadyH.cons (by simp only [List.getElem?_toArray, List.getElem?_cons_zero, List.getElem?_cons_succ]; exact rfl) (fun K hK => ?_) AllReadyH.nil
      go_simp
      refine (vappend_all i HI.out j v s HJ.out hij bv bl bn g6 lo rn rc rec HRN.out hrc (by omega) hL.one (by omega) hnx hn2 H6.out hlo).mono ?_
      rintro e w7 ⟨rfl, h7⟩
      generalize hx : appendD d s.gen s.next rec = x at h7 ⊢
      obtain ⟨ec, dx, nx⟩ := x
      have HX := hid hx
      have H7 := hid h7
      dsimp only at H7 ⊢
      obtain ⟨vl', hvb'⟩ := H7.out.vault j (set_beside HJ.out hij)
      have hS7 := And.intro ((H7.out.blk (As.length + 0) (set_post 0 rfl)).cell (j := 0) rfl) (hvb'.cell (j := 0) rfl)
      unfold ptr at hS7
      clear h7 hx hvb' H6
      refine hK.out _ _ ?k8x9x (fun hS => ?s8x9x)
      case k8x9x => exact hS7
      clear hK K
      try simp only [Act.put, List.setIfInBounds_toArray, List.set_cons_zero, List.set_cons_succ]
      refine wpAnyH_ready (rs := [9]) (by kernel_rfl) (by simp) ?_
      refine AllReadyH.cons (by simp only [List.getElem?_toArray, List.getElem?_cons_zero, List.getElem?_cons_succ]; exact rfl) (fun K hK => ?_) AllReadyH.nil
      go_simp
      refine (H7.out.v_told j (set_beside HJ.out hij) ec).mono ?_
      rintro e w9 ⟨rfl, h9⟩
      rw [set_pre (by rw [List.getElem?_set_ne hij]; exact HJ.out)] at h9
      have H9 := hid h9
      obtain ⟨vl', hvb'⟩ := H9.out.vault j (get_pre (List.getElem?_set_self (HJL.out _)))
      have hS9 := And.intro ((H9.out.blk (As.length + 0) (set_post2 0 rfl)).cell (j := 0) rfl) (hvb'.cell (j := 0) rfl)
      unfold ptr at hS9
      clear h9 hvb' H7
      refine hK.out _ _ ?k9x10x (fun hS => ?s9x10x)
      case k9x10x => exact hS9
      clear hK K
      try simp only [Act.put, List.setIfInBounds_toArray, List.set_cons_zero, List.set_cons_succ]
      refine wpAnyH_take (i := 10) (v := ?v10x11x) (by simp only [List.getElem?_toArray, List.getElem?_cons_zero, List.getElem?_cons_succ]; exact rfl) (by kernel_rfl) (by kernel_rfl) (by kernel_rfl) (by exact fun _ _ _ h => h) (Or.inl ⟨by rfl, ?y10x11x⟩) hS ?r10x11x
      case y10x11x => (intro w' hSw; (try dsimp only at hSw); go_simp; (try with_reducible rfl))
      simp only [Act.put, List.setIfInBounds_toArray, List.set_cons_zero, List.set_cons_succ]
      refine wpAnyH_done (by kernel_rfl) ?_ _
      clear hS hS6 hS7 hS9
      by_cases hec : ec = 0
      · subst hec
        have h9 := H9.out
        rw [show (s.br || decide ((0 : Int) ≠ 0)) = s.br by simp] at h9
        have H9 : Hid (St B w0 w9 ((As.set i (dev a dx)).set j (vsA v a s) ++ apX bv bl bn v lo rn rc nx [blkA g6 46 [.func (.func 122) #[] #[ptr bv, ptr bl, ptr bn], .func (.func 41) #[ptr a] #[]]])) := hid h9
        clear h9
        have HSB : Hid (∀ w1, Below w9.heap.size w9 w1 → SB w1 lo rc rec) := hid (fun w1 hb => ((hL.set2 _ _).app).sb (H9.out.below hb))
        obtain ⟨F, ⟨vl, G, hvb, hvF, ⟨vs, Fb, ho, hr, hf, hvv⟩, hng, hG⟩, hF, hoth, hcl⟩ := H9.out.open j (get_pre (List.getElem?_set_self (HJL.out _)))
        have NF : ∀ (k g : Nat) (T : TypeId) (us : List Value), j ≠ k → ((As.set i (dev a dx)).set j (vsA v a s) ++ apX bv bl bn v lo rn rc nx [blkA g6 46 [.func (.func 122) #[] #[ptr bv, ptr bl, ptr bn], .func (.func 41) #[ptr a] #[]]])[k]? = some (blkA g T us) → ¬ F g := fun k g T us hjk hk => by
          obtain ⟨G', hG', _, hd⟩ := hoth k _ hjk hk
          exact fun hf => hd g hf hG'.2
        have NF1 := hid (NF (As.length + 0) _ _ _ (ne_post HJ.out 0) (set_post2 0 rfl))
        have NF2 := hid (NF (As.length + 2) _ _ _ (ne_post HJ.out 2) (set_post2 2 rfl))
        have NF3 := hid (NF (As.length + 1) _ _ _ (ne_post HJ.out 1) (set_post2 1 rfl))
        have NV1 : Hid (bv ≠ v) := hid (fun e => NF1.out (by rw [e]; exact hvF))
        have NV2 : Hid (bn ≠ v) := hid (fun e => NF2.out (by rw [e]; exact hvF))
        have NV3 : Hid (bl ≠ v) := hid (fun e => NF3.out (by rw [e]; exact hvF))
        obtain ⟨m, hm⟩ : ∃ m, s.L.length = m := ⟨_, rfl⟩
        obtain ⟨m1, hm1⟩ : ∃ m1, m + 1 = m1 := ⟨_, rfl⟩
        have HM := hid hm; have HM1 := hid hm1
        rw [hm] at hLL ho
        obtain ⟨la, lc, rfl⟩ := own_slice ho
        have c3 := hvb.cell (j := 3) rfl
        have hS00 : w9.cell? ⟨bv, 0, none⟩ = some (.pointer (some ⟨v, 0, none⟩)) ∧ w9.cell? ⟨bn, 0, none⟩ = some (.int .i64 nx) ∧ w9.cell? ⟨bl, 0, none⟩ = some (.slice lo rn rc) := ⟨(H9.out.blk (As.length + 0) (set_post2 0 rfl)).cell (j := 0) rfl, (H9.out.blk (As.length + 2) (set_post2 2 rfl)).cell (j := 0) rfl, (H9.out.blk (As.length + 1) (set_post2 1 rfl)).cell (j := 0) rfl⟩
        have HOO := hid ho; have HRS := hid hr; have HFB := hid hf; have HVV := hid hvv; have HNG := hid hng; have HGF := hid hG; have HCL := hid hcl; have HVB := hid hvb; have HVF := hid hvF
        have HGW : Hid (∀ k, G k → k < w9.heap.size) := hid (fun k hk => (hF k (hG k hk)).2)
        clear NF hm hm1 ho hr hf hvv hng hG hcl hvb hvF hoth hF
        go_upto_region 13 with fail
        refine wp_region_held_drew (S := fun w' => w'.cell? ⟨bv, 0, none⟩ = some (.pointer (some ⟨v, 0, none⟩)) ∧ w'.cell? ⟨bn, 0, none⟩ = some (.int .i64 nx) ∧ w'.cell? ⟨bl, 0, none⟩ = some (.slice lo rn rc)) (by kernel_rfl) hS00 (fun hS => ?_)
        refine wpAnyH_take (i := 0) (v := ?v0x1ye1) (by simp only [List.getElem?_toArray, List.getElem?_cons_zero]; exact rfl) (by kernel_rfl) (by kernel_rfl) (by kernel_rfl) (by exact fun _ _ _ h => h) (Or.inl ⟨by rfl, ?y0x1ye1⟩) hS ?r0x1ye1
        case y0x1ye1 => (intro w' hSw; (try dsimp only at hSw); go_simp; (try with_reducible rfl))
        simp only [Act.put, List.setIfInBounds_toArray, List.set_cons_zero, List.set_cons_succ]
        refine wpAnyH_take (i := 1) (v := ?v1x2ye1) (by simp only [List.getElem?_toArray, List.getElem?_cons_zero, List.getElem?_cons_succ]; exact rfl) (by kernel_rfl) (by kernel_rfl) (by kernel_rfl) (by exact fun _ _ _ h => h) (Or.inl ⟨by rfl, ?y1x2ye1⟩) hS ?r1x2ye1
        case y1x2ye1 => (intro w' hSw; (try dsimp only at hSw); go_simp; (try with_reducible rfl))
        simp only [Act.put, List.setIfInBounds_toArray, List.set_cons_zero, List.set_cons_succ]
        refine wpAnyH_take (i := 2) (v := ?v2x3ye1) (by simp only [List.getElem?_toArray, List.getElem?_cons_zero, List.getElem?_cons_succ]; exact rfl) (by kernel_rfl) (by kernel_rfl) (by kernel_rfl) (by exact fun _ _ _ h => h) (Or.inl ⟨by rfl, ?y2x3ye1⟩) hS ?r2x3ye1
        case y2x3ye1 => (intro w' hSw; (try dsimp only at hSw); go_simp; (try with_reducible rfl))
        simp only [Act.put, List.setIfInBounds_toArray, List.set_cons_zero, List.set_cons_succ]
        refine wpAnyH_take (i := 3) (v := ?v3x4ye1) (by simp only [List.getElem?_toArray, List.getElem?_cons_zero, List.getElem?_cons_succ]; exact rfl) (by kernel_rfl) (by kernel_rfl) (by kernel_rfl) (by exact fun _ _ _ h => h) (Or.inl ⟨by rfl, ?y3x4ye1⟩) hS ?r3x4ye1
        case y3x4ye1 => (intro w' hSw; (try dsimp only at hSw); go_simp; (try with_reducible rfl))
        simp only [Act.put, List.setIfInBounds_toArray, List.set_cons_zero, List.set_cons_succ]
        refine wpAnyH_take (i := 4) (v := ?v4x5ye1) (by simp only [List.getElem?_toArray, List.getElem?_cons_zero, List.getElem?_cons_succ]; exact rfl) (by kernel_rfl) (by kernel_rfl) (by kernel_rfl) (by exact fun _ _ _ h => h) (Or.inl ⟨by rfl, ?y4x5ye1⟩) hS ?r4x5ye1
        case y4x5ye1 => (intro w' hSw; (try dsimp only at hSw); go_simp; (try with_reducible rfl))
        simp only [Act.put, List.setIfInBounds_toArray, List.set_cons_zero, List.set_cons_succ]
        refine wpAnyH_take (i := 5) (v := ?v5x6ye1) (by simp only [List.getElem?_toArray, List.getElem?_cons_zero, List.getElem?_cons_succ]; exact rfl) (by kernel_rfl) (by kernel_rfl) (by kernel_rfl) (by exact fun _ _ _ h => h) (Or.inl ⟨by rfl, ?y5x6ye1⟩) hS ?r5x6ye1
        case y5x6ye1 => (intro w' hSw; (try dsimp only at hSw); go_simp; (try with_reducible rfl))
        simp only [Act.put, List.setIfInBounds_toArray, List.set_cons_zero, List.set_cons_succ]
        refine wpAnyH_take (i := 7) (v := ?v7x7ye1) (by simp only [List.getElem?_toArray, List.getElem?_cons_zero, List.getElem?_cons_succ]; exact rfl) (by kernel_rfl) (by kernel_rfl) (by kernel_rfl) (by exact fun _ _ _ h => h) (Or.inl ⟨by rfl, ?y7x7ye1⟩) hS ?r7x7ye1
        case y7x7ye1 => (intro w' hSw; (try dsimp only at hSw); go_simp; (try with_reducible rfl))
        simp only [Act.put, List.setIfInBounds_toArray, List.set_cons_zero, List.set_cons_succ]
        refine wpAnyH_ready (rs := [6, 8]) (by kernel_rfl) (by simp) ?_
        refine AllReadyH.cons (by simp only [List.getElem?_toArray, List.getElem?_cons_zero, List.getElem?_cons_succ]; exact rfl) (fun K hK => ?_) (AllReadyH.cons (by simp only [List.getElem?_toArray, List.getElem?_cons_zero, List.getElem?_cons_succ]; exact rfl) (fun K hK => ?_) AllReadyH.nil)
        · go_simp
          refine hK.out _ _ ?k6x8ye1 (fun hS => ?s6x8ye1)
          case k6x8ye1 => exact hS
          clear hK K
          try simp only [Act.put, List.setIfInBounds_toArray, List.set_cons_zero, List.set_cons_succ]
          refine wpAnyH_ready (rs := [8]) (by kernel_rfl) (by simp) ?_
          refine AllReadyH.cons (by simp only [List.getElem?_toArray, List.getElem?_cons_zero, List.getElem?_cons_succ]; exact rfl) (fun K hK => ?_) AllReadyH.nil
          go_simp
          refine (vclone_any lo rn rc rec HRN.out hrb _ (HSB.out _ (Below.refl _ _).drew)).mono ?_
          rintro e w10 ⟨r, rfl, ho10, hb10⟩
          have hb10 := (Below.refl w9.heap.size w9).drew.trans hb10
          obtain ⟨ra, rcc, rfl⟩ := own_slice ho10
          have hS10 := And.intro ((hb10.cell (World.block_lt_of_cell? _ _ hS00.1)).trans hS00.1) (And.intro ((hb10.cell (World.block_lt_of_cell? _ _ hS00.2.1)).trans hS00.2.1) ((hb10.cell (World.block_lt_of_cell? _ _ hS00.2.2)).trans hS00.2.2))
          have c3a := (hb10.cell (World.block_lt_of_cell? _ _ c3)).trans c3
          have HB10 := hid hb10; have HO10 := hid ho10
          clear hb10 ho10
          refine hK.out _ _ ?k8x9ye1 (fun hS => ?s8x9ye1)
          case k8x9ye1 => exact hS10
          clear hK K
          try simp only [Act.put, List.setIfInBounds_toArray, List.set_cons_zero, List.set_cons_succ]
          refine wpAnyH_ready (rs := [9]) (by kernel_rfl) (by simp) ?_
          refine AllReadyH.cons (by simp only [List.getElem?_toArray, List.getElem?_cons_zero, List.getElem?_cons_succ]; exact rfl) (fun K hK => ?_) AllReadyH.nil
          refine wpo_layV rowL 1 _ rfl [.slice ra rn rcc] rfl (by omega) (by omega) (by simp [Value.cells]) (by simp [Act.eval]) ?_
          intro w11 hb11 h11
          have hS11 := And.intro ((hb11.cell (World.block_lt_of_cell? _ _ hS10.1)).trans hS10.1) (And.intro ((hb11.cell (World.block_lt_of_cell? _ _ hS10.2.1)).trans hS10.2.1) ((hb11.cell (World.block_lt_of_cell? _ _ hS10.2.2)).trans hS10.2.2))
          have c3b := (hb11.cell (World.block_lt_of_cell? _ _ c3a)).trans c3a
          have HO11 := hid (owns_below (owns_below HOO.out HB10.out) hb11)
          have HB11 := hid hb11; have H11 := hid h11
          clear hb11 h11
          refine hK.out _ _ ?k9x10ye1 (fun hS => ?s9x10ye1)
          case k9x10ye1 => exact hS11
          clear hK K
          try simp only [Act.put, List.setIfInBounds_toArray, List.set_cons_zero, List.set_cons_succ]
          refine wpAnyH_ready (rs := [10]) (by kernel_rfl) (by simp) ?_
          refine AllReadyH.cons (by simp only [List.getElem?_toArray, List.getElem?_cons_zero, List.getElem?_cons_succ]; exact rfl) (fun K hK => ?_) AllReadyH.nil
          refine wpo_appendR rowL (.tmp 45) (.tmp 48) rfl 0 (.slice la m lc) m vs rfl HO11.out w10.heap.size rfl [.slice ra rn rcc] H11.out rfl (by intro u hu; simp at hu; subst hu; rfl) (by omega) (Nat.zero_le _) ?_
          intro v12 w12 ho12 hg12 hw12
          have hlt := list_told (w := w9) HRS.out HFB.out HVV.out HGW.out HB10.out (by rw [← HRN.out]; exact HO10.out) HB11.out (by rw [HM.out]; exact ho12) hg12 hw12
          rw [HM1.out] at ho12
          obtain ⟨va, vc, rfl⟩ := own_slice ho12
          have HT12 := hid hlt
          have HV12 := hid (HVB.out.keep hlt.2 HNG.out)
          have hS12 := And.intro ((hlt.2.cell (World.block_lt_of_cell? _ _ hS00.1) (fun h => NF1.out (HGF.out _ h))).trans hS00.1) (And.intro ((hlt.2.cell (World.block_lt_of_cell? _ _ hS00.2.1) (fun h => NF2.out (HGF.out _ h))).trans hS00.2.1) ((hlt.2.cell (World.block_lt_of_cell? _ _ hS00.2.2) (fun h => NF3.out (HGF.out _ h))).trans hS00.2.2))
          have s2 := HV12.out.cell (j := 2) rfl
          have f2 := HV12.out.free 2
          clear hlt ho12 hg12 hw12
          refine hK.out _ _ ?k10x11ye1 (fun hS => ?s10x11ye1)
          case k10x11ye1 => exact hS12
          clear hK K
          try simp only [Act.put, List.setIfInBounds_toArray, List.set_cons_zero, List.set_cons_succ]
          refine wpAnyH_take (i := 11) (v := ?v11x12ye1) (by simp only [List.getElem?_toArray, List.getElem?_cons_zero, List.getElem?_cons_succ]; exact rfl) (by kernel_rfl) (by kernel_rfl) (by kernel_rfl) (by exact fun _ _ _ h => h) (Or.inl ⟨by rfl, ?y11x12ye1⟩) hS ?r11x12ye1
          case y11x12ye1 => (intro w' hSw; (try dsimp only at hSw); go_simp; (try with_reducible rfl))
          simp only [Act.put, List.setIfInBounds_toArray, List.set_cons_zero, List.set_cons_succ]
          refine wpAnyH_take (i := 12) (v := ?v12x13ye1) (by simp only [List.getElem?_toArray, List.getElem?_cons_zero, List.getElem?_cons_succ]; exact rfl) (by kernel_rfl) (by kernel_rfl) (by kernel_rfl) (by exact fun _ _ _ h => h) (Or.inl ⟨by rfl, ?y12x13ye1⟩) hS ?r12x13ye1
          case y12x13ye1 => (intro w' hSw; (try dsimp only at hSw); go_simp; (try with_reducible rfl))
          simp only [Act.put, List.setIfInBounds_toArray, List.set_cons_zero, List.set_cons_succ]
          refine wpAnyH_ready (rs := [13]) (by kernel_rfl) (by simp) ?_
          refine AllReadyH.cons (by simp only [List.getElem?_toArray, List.getElem?_cons_zero, List.getElem?_cons_succ]; exact rfl) (fun K hK => ?_) AllReadyH.nil
          go_simp
          generalize hw13 : World.setCell _ _ _ = w13
          have hS13 : w13.cell? ⟨bv, 0, none⟩ = some (.pointer (some ⟨v, 0, none⟩)) ∧ w13.cell? ⟨bn, 0, none⟩ = some (.int .i64 nx) ∧ w13.cell? ⟨bl, 0, none⟩ = some (.slice lo rn rc) := by
            rw [← hw13]
            exact And.intro ((World.cell?_setCell_other w12 _ _ _ (fun e => by injection e with e; exact NV1.out e.symm)).trans hS.1) (And.intro ((World.cell?_setCell_other w12 _ _ _ (fun e => by injection e with e; exact NV2.out e.symm)).trans hS.2.1) ((World.cell?_setCell_other w12 _ _ _ (fun e => by injection e with e; exact NV3.out e.symm)).trans hS.2.2))
          have HV13 : Hid (Blk w13 v 105 (vCells a s.gen nx (.slice la m lc) s.br)) := hid (by rw [← hw13]; exact HV12.out.set 2 _)
          have HK13 : Hid (Keep (fun k => k = v) w12 w13) := hid (by rw [← hw13]; exact (Keep.refl (fun k => k = v) w12).setCell (p := ⟨v, 2, none⟩) rfl _)
          have s3 := HV13.out.cell (j := 3) rfl
          have f3 := HV13.out.free 3
          clear hw13 s2 f2 HV12
          refine hK.out _ _ ?k13x14ye1 (fun hS => ?s13x14ye1)
          case k13x14ye1 => exact hS13
          clear hK K
          try simp only [Act.put]
          refine wpAnyH_take (i := 14) (v := ?v14x15ye1) (by simp only [List.getElem?_toArray, List.getElem?_cons_zero, List.getElem?_cons_succ]; exact rfl) (by kernel_rfl) (by kernel_rfl) (by kernel_rfl) (by exact fun _ _ _ h => h) (Or.inl ⟨by rfl, ?y14x15ye1⟩) hS ?r14x15ye1
          case y14x15ye1 => (intro w' hSw; (try dsimp only at hSw); go_simp; (try with_reducible rfl))
          simp only [Act.put, List.setIfInBounds_toArray, List.set_cons_zero, List.set_cons_succ]
          refine wpAnyH_take (i := 15) (v := ?v15x16ye1) (by simp only [List.getElem?_toArray, List.getElem?_cons_zero, List.getElem?_cons_succ]; exact rfl) (by kernel_rfl) (by kernel_rfl) (by kernel_rfl) (by exact fun _ _ _ h => h) (Or.inl ⟨by rfl, ?y15x16ye1⟩) hS ?r15x16ye1
          case y15x16ye1 => (intro w' hSw; (try dsimp only at hSw); go_simp; (try with_reducible rfl))
          simp only [Act.put, List.setIfInBounds_toArray, List.set_cons_zero, List.set_cons_succ]
          refine wpAnyH_ready (rs := [16]) (by kernel_rfl) (by simp) ?_
          refine AllReadyH.cons (by simp only [List.getElem?_toArray, List.getElem?_cons_zero, List.getElem?_cons_succ]; exact rfl) (fun K hK => ?_) AllReadyH.nil
          go_simp
          generalize hw14 : World.setCell _ _ _ = w14
          have hS14 : w14.cell? ⟨bv, 0, none⟩ = some (.pointer (some ⟨v, 0, none⟩)) ∧ w14.cell? ⟨bn, 0, none⟩ = some (.int .i64 nx) ∧ w14.cell? ⟨bl, 0, none⟩ = some (.slice lo rn rc) := by
            rw [← hw14]
            exact And.intro ((World.cell?_setCell_other w13 _ _ _ (fun e => by injection e with e; exact NV1.out e.symm)).trans hS.1) (And.intro ((World.cell?_setCell_other w13 _ _ _ (fun e => by injection e with e; exact NV2.out e.symm)).trans hS.2.1) ((World.cell?_setCell_other w13 _ _ _ (fun e => by injection e with e; exact NV3.out e.symm)).trans hS.2.2))
          have HV14 : Hid (Blk w14 v 105 (vCells a s.gen nx (.slice va m1 vc) s.br)) := hid (by rw [← hw14]; exact HV13.out.set 3 _)
          have HK14 : Hid (Keep (fun k => k = v) w12 w14) := hid (by rw [← hw14]; exact HK13.out.setCell (p := ⟨v, 3, none⟩) rfl _)
          clear hw14 s3 f3 HV13 HK13
          refine hK.out _ _ ?k16x17ye1 (fun hS => ?s16x17ye1)
          case k16x17ye1 => exact hS14
          clear hK K
          try simp only [Act.put]
          refine wpAnyH_done (by kernel_rfl) ?_ _
          clear hS hS10 hS11 hS12 hS13 hS14 c3a c3b
          go_wp2
          go_ret
          rw [HRV.out]
          unfold appendedV
          rw [HX.out]
          dsimp only
          rw [if_pos rfl]
          refine ⟨rfl, ?_⟩
          have hz1 := HT12.out.2.size
          have hz2 := HK14.out.size
          have hvl := HVB.out.lt
          have h15 := HCL.out w14 (vsA v a { s with next := nx, L := s.L ++ [rec] }) (fun k => k = v ∨ G k ∨ (w9.heap.size ≤ k ∧ k < w12.heap.size)) ((HT12.out.2.mono fun k _ h => HGF.out k h).trans (HK14.out.mono fun k _ e => by rw [e]; exact HVF.out)) (good_vaultA _ _ _ _ _ _) ⟨_, fun k => G k ∨ (w9.heap.size ≤ k ∧ k < w12.heap.size), HV14.out, .inl rfl, (good_listA _ _).keep HT12.out.1 HK14.out (fun k h1 h2 => by
            rw [h2] at h1
            rcases h1 with h1 | h1
            · exact HNG.out h1
            · omega), fun h1 => by
            rcases h1 with h1 | h1
            · exact HNG.out h1
            · omega, fun k h1 => .inr h1⟩ (fun k hk => by
            rcases hk with rfl | hk | hk
            · exact .inl HVF.out
            · exact .inl (HGF.out _ hk)
            · exact .inr ⟨hk.1, by omega⟩)
          rw [set_pre (List.getElem?_set_self (HJL.out _)), List.set_set] at h15
          exact h15.drop_post
        · go_simp
          refine (vclone_any lo rn rc rec HRN.out hrb _ (HSB.out _ (Below.refl _ _).drew)).mono ?_
          rintro e w10 ⟨r, rfl, ho10, hb10⟩
          have hb10 := (Below.refl w9.heap.size w9).drew.trans hb10
          obtain ⟨ra, rcc, rfl⟩ := own_slice ho10
          have hS10 := And.intro ((hb10.cell (World.block_lt_of_cell? _ _ hS00.1)).trans hS00.1) (And.intro ((hb10.cell (World.block_lt_of_cell? _ _ hS00.2.1)).trans hS00.2.1) ((hb10.cell (World.block_lt_of_cell? _ _ hS00.2.2)).trans hS00.2.2))
          have c3a := (hb10.cell (World.block_lt_of_cell? _ _ c3)).trans c3
          have HB10 := hid hb10; have HO10 := hid ho10
          clear hb10 ho10
          refine hK.out _ _ ?k8x18ye1 (fun hS => ?s8x18ye1)
          case k8x18ye1 => exact hS10
          clear hK K
          try simp only [Act.put, List.setIfInBounds_toArray, List.set_cons_zero, List.set_cons_succ]
          refine wpAnyH_ready (rs := [6, 9]) (by kernel_rfl) (by simp) ?_
          refine AllReadyH.cons (by simp only [List.getElem?_toArray, List.getElem?_cons_zero, List.getElem?_cons_succ]; exact rfl) (fun K hK => ?_) (AllReadyH.cons (by simp only [List.getElem?_toArray, List.getElem?_cons_zero, List.getElem?_cons_succ]; exact rfl) (fun K hK => ?_) AllReadyH.nil)
          · go_simp
            refine hK.out _ _ ?k6x19ye1 (fun hS => ?s6x19ye1)
            case k6x19ye1 => exact hS
            clear hK K
            try simp only [Act.put, List.setIfInBounds_toArray, List.set_cons_zero, List.set_cons_succ]
            refine wpAnyH_ready (rs := [9]) (by kernel_rfl) (by simp) ?_
            refine AllReadyH.cons (by simp only [List.getElem?_toArray, List.getElem?_cons_zero, List.getElem?_cons_succ]; exact rfl) (fun K hK => ?_) AllReadyH.nil
            refine wpo_layV rowL 1 _ rfl [.slice ra rn rcc] rfl (by omega) (by omega) (by simp [Value.cells]) (by simp [Act.eval]) ?_
            intro w11 hb11 h11
            have hS11 := And.intro ((hb11.cell (World.block_lt_of_cell? _ _ hS10.1)).trans hS10.1) (And.intro ((hb11.cell (World.block_lt_of_cell? _ _ hS10.2.1)).trans hS10.2.1) ((hb11.cell (World.block_lt_of_cell? _ _ hS10.2.2)).trans hS10.2.2))
            have c3b := (hb11.cell (World.block_lt_of_cell? _ _ c3a)).trans c3a
            have HO11 := hid (owns_below (owns_below HOO.out HB10.out) hb11)
            have HB11 := hid hb11; have H11 := hid h11
            clear hb11 h11
            refine hK.out _ _ ?k9x20ye1 (fun hS => ?s9x20ye1)
            case k9x20ye1 => exact hS11
            clear hK K
            try simp only [Act.put, List.setIfInBounds_toArray, List.set_cons_zero, List.set_cons_succ]
            refine wpAnyH_ready (rs := [10]) (by kernel_rfl) (by simp) ?_
            refine AllReadyH.cons (by simp only [List.getElem?_toArray, List.getElem?_cons_zero, List.getElem?_cons_succ]; exact rfl) (fun K hK => ?_) AllReadyH.nil
            refine wpo_appendR rowL (.tmp 45) (.tmp 48) rfl 0 (.slice la m lc) m vs rfl HO11.out w10.heap.size rfl [.slice ra rn rcc] H11.out rfl (by intro u hu; simp at hu; subst hu; rfl) (by omega) (Nat.zero_le _) ?_
            intro v12 w12 ho12 hg12 hw12
            have hlt := list_told (w := w9) HRS.out HFB.out HVV.out HGW.out HB10.out (by rw [← HRN.out]; exact HO10.out) HB11.out (by rw [HM.out]; exact ho12) hg12 hw12
            rw [HM1.out] at ho12
            obtain ⟨va, vc, rfl⟩ := own_slice ho12
            have HT12 := hid hlt
            have HV12 := hid (HVB.out.keep hlt.2 HNG.out)
            have hS12 := And.intro ((hlt.2.cell (World.block_lt_of_cell? _ _ hS00.1) (fun h => NF1.out (HGF.out _ h))).trans hS00.1) (And.intro ((hlt.2.cell (World.block_lt_of_cell? _ _ hS00.2.1) (fun h => NF2.out (HGF.out _ h))).trans hS00.2.1) ((hlt.2.cell (World.block_lt_of_cell? _ _ hS00.2.2) (fun h => NF3.out (HGF.out _ h))).trans hS00.2.2))
            have s2 := HV12.out.cell (j := 2) rfl
            have f2 := HV12.out.free 2
            clear hlt ho12 hg12 hw12
            refine hK.out _ _ ?k10x21ye1 (fun hS => ?s10x21ye1)
            case k10x21ye1 => exact hS12
            clear hK K
            try simp only [Act.put, List.setIfInBounds_toArray, List.set_cons_zero, List.set_cons_succ]
            refine wpAnyH_take (i := 11) (v := ?v11x22ye1) (by simp only [List.getElem?_toArray, List.getElem?_cons_zero, List.getElem?_cons_succ]; exact rfl) (by kernel_rfl) (by kernel_rfl) (by kernel_rfl) (by exact fun _ _ _ h => h) (Or.inl ⟨by rfl, ?y11x22ye1⟩) hS ?r11x22ye1
            case y11x22ye1 => (intro w' hSw; (try dsimp only at hSw); go_simp; (try with_reducible rfl))
            simp only [Act.put, List.setIfInBounds_toArray, List.set_cons_zero, List.set_cons_succ]
            refine wpAnyH_take (i := 12) (v := ?v12x23ye1) (by simp only [List.getElem?_toArray, List.getElem?_cons_zero, List.getElem?_cons_succ]; exact rfl) (by kernel_rfl) (by kernel_rfl) (by kernel_rfl) (by exact fun _ _ _ h => h) (Or.inl ⟨by rfl, ?y12x23ye1⟩) hS ?r12x23ye1
            case y12x23ye1 => (intro w' hSw; (try dsimp only at hSw); go_simp; (try with_reducible rfl))
            simp only [Act.put, List.setIfInBounds_toArray, List.set_cons_zero, List.set_cons_succ]
            refine wpAnyH_ready (rs := [13]) (by kernel_rfl) (by simp) ?_
            refine AllReadyH.cons (by simp only [List.getElem?_toArray, List.getElem?_cons_zero, List.getElem?_cons_succ]; exact rfl) (fun K hK => ?_) AllReadyH.nil
            go_simp
            generalize hw13 : World.setCell _ _ _ = w13
            have hS13 : w13.cell? ⟨bv, 0, none⟩ = some (.pointer (some ⟨v, 0, none⟩)) ∧ w13.cell? ⟨bn, 0, none⟩ = some (.int .i64 nx) ∧ w13.cell? ⟨bl, 0, none⟩ = some (.slice lo rn rc) := by
              rw [← hw13]
              exact And.intro ((World.cell?_setCell_other w12 _ _ _ (fun e => by injection e with e; exact NV1.out e.symm)).trans hS.1) (And.intro ((World.cell?_setCell_other w12 _ _ _ (fun e => by injection e with e; exact NV2.out e.symm)).trans hS.2.1) ((World.cell?_setCell_other w12 _ _ _ (fun e => by injection e with e; exact NV3.out e.symm)).trans hS.2.2))
            have HV13 : Hid (Blk w13 v 105 (vCells a s.gen nx (.slice la m lc) s.br)) := hid (by rw [← hw13]; exact HV12.out.set 2 _)
            have HK13 : Hid (Keep (fun k => k = v) w12 w13) := hid (by rw [← hw13]; exact (Keep.refl (fun k => k = v) w12).setCell (p := ⟨v, 2, none⟩) rfl _)
            have s3 := HV13.out.cell (j := 3) rfl
            have f3 := HV13.out.free 3
            clear hw13 s2 f2 HV12
            refine hK.out _ _ ?k13x24ye1 (fun hS => ?s13x24ye1)
            case k13x24ye1 => exact hS13
            clear hK K
            try simp only [Act.put]
            refine wpAnyH_take (i := 14) (v := ?v14x25ye1) (by simp only [List.getElem?_toArray, List.getElem?_cons_zero, List.getElem?_cons_succ]; exact rfl) (by kernel_rfl) (by kernel_rfl) (by kernel_rfl) (by exact fun _ _ _ h => h) (Or.inl ⟨by rfl, ?y14x25ye1⟩) hS ?r14x25ye1
            case y14x25ye1 => (intro w' hSw; (try dsimp only at hSw); go_simp; (try with_reducible rfl))
            simp only [Act.put, List.setIfInBounds_toArray, List.set_cons_zero, List.set_cons_succ]
            refine wpAnyH_take (i := 15) (v := ?v15x26ye1) (by simp only [List.getElem?_toArray, List.getElem?_cons_zero, List.getElem?_cons_succ]; exact rfl) (by kernel_rfl) (by kernel_rfl) (by kernel_rfl) (by exact fun _ _ _ h => h) (Or.inl ⟨by rfl, ?y15x26ye1⟩) hS ?r15x26ye1
            case y15x26ye1 => (intro w' hSw; (try dsimp only at hSw); go_simp; (try with_reducible rfl))
            simp only [Act.put, List.setIfInBounds_toArray, List.set_cons_zero, List.set_cons_succ]
            refine wpAnyH_ready (rs := [16]) (by kernel_rfl) (by simp) ?_
            refine AllReadyH.cons (by simp only [List.getElem?_toArray, List.getElem?_cons_zero, List.getElem?_cons_succ]; exact rfl) (fun K hK => ?_) AllReadyH.nil
            go_simp
            generalize hw14 : World.setCell _ _ _ = w14
            have hS14 : w14.cell? ⟨bv, 0, none⟩ = some (.pointer (some ⟨v, 0, none⟩)) ∧ w14.cell? ⟨bn, 0, none⟩ = some (.int .i64 nx) ∧ w14.cell? ⟨bl, 0, none⟩ = some (.slice lo rn rc) := by
              rw [← hw14]
              exact And.intro ((World.cell?_setCell_other w13 _ _ _ (fun e => by injection e with e; exact NV1.out e.symm)).trans hS.1) (And.intro ((World.cell?_setCell_other w13 _ _ _ (fun e => by injection e with e; exact NV2.out e.symm)).trans hS.2.1) ((World.cell?_setCell_other w13 _ _ _ (fun e => by injection e with e; exact NV3.out e.symm)).trans hS.2.2))
            have HV14 : Hid (Blk w14 v 105 (vCells a s.gen nx (.slice va m1 vc) s.br)) := hid (by rw [← hw14]; exact HV13.out.set 3 _)
            have HK14 : Hid (Keep (fun k => k = v) w12 w14) := hid (by rw [← hw14]; exact HK13.out.setCell (p := ⟨v, 3, none⟩) rfl _)
            clear hw14 s3 f3 HV13 HK13
            refine hK.out _ _ ?k16x27ye1 (fun hS => ?s16x27ye1)
            case k16x27ye1 => exact hS14
            clear hK K
            try simp only [Act.put]
            refine wpAnyH_done (by kernel_rfl) ?_ _
            clear hS hS10 hS11 hS12 hS13 hS14 c3a c3b
            go_wp2
            go_ret
            rw [HRV.out]
            unfold appendedV
            rw [HX.out]
            dsimp only
            rw [if_pos rfl]
            refine ⟨rfl, ?_⟩
            have hz1 := HT12.out.2.size
            have hz2 := HK14.out.size
            have hvl := HVB.out.lt
            have h15 := HCL.out w14 (vsA v a { s with next := nx, L := s.L ++ [rec] }) (fun k => k = v ∨ G k ∨ (w9.heap.size ≤ k ∧ k < w12.heap.size)) ((HT12.out.2.mono fun k _ h => HGF.out k h).trans (HK14.out.mono fun k _ e => by rw [e]; exact HVF.out)) (good_vaultA _ _ _ _ _ _) ⟨_, fun k => G k ∨ (w9.heap.size ≤ k ∧ k < w12.heap.size), HV14.out, .inl rfl, (good_listA _ _).keep HT12.out.1 HK14.out (fun k h1 h2 => by
              rw [h2] at h1
              rcases h1 with h1 | h1
              · exact HNG.out h1
              · omega), fun h1 => by
              rcases h1 with h1 | h1
              · exact HNG.out h1
              · omega, fun k h1 => .inr h1⟩ (fun k hk => by
              rcases hk with rfl | hk | hk
              · exact .inl HVF.out
              · exact .inl (HGF.out _ hk)
              · exact .inr ⟨hk.1, by omega⟩)
            rw [set_pre (List.getElem?_set_self (HJL.out _)), List.set_set] at h15
            exact h15.drop_post
          · refine wpo_layV rowL 1 _ rfl [.slice ra rn rcc] rfl (by omega) (by omega) (by simp [Value.cells]) (by simp [Act.eval]) ?_
            intro w11 hb11 h11
            have hS11 := And.intro ((hb11.cell (World.block_lt_of_cell? _ _ hS10.1)).trans hS10.1) (And.intro ((hb11.cell (World.block_lt_of_cell? _ _ hS10.2.1)).trans hS10.2.1) ((hb11.cell (World.block_lt_of_cell? _ _ hS10.2.2)).trans hS10.2.2))
            have c3b := (hb11.cell (World.block_lt_of_cell? _ _ c3a)).trans c3a
            have HO11 := hid (owns_below (owns_below HOO.out HB10.out) hb11)
            have HB11 := hid hb11; have H11 := hid h11
            clear hb11 h11
            refine hK.out _ _ ?k9x28ye1 (fun hS => ?s9x28ye1)
            case k9x28ye1 => exact hS11
            clear hK K
            try simp only [Act.put, List.setIfInBounds_toArray, List.set_cons_zero, List.set_cons_succ]
            refine wpAnyH_ready (rs := [6]) (by kernel_rfl) (by simp) ?_
            refine AllReadyH.cons (by simp only [List.getElem?_toArray, List.getElem?_cons_zero, List.getElem?_cons_succ]; exact rfl) (fun K hK => ?_) AllReadyH.nil
            go_simp
            refine hK.out _ _ ?k6x29ye1 (fun hS => ?s6x29ye1)
            case k6x29ye1 => exact hS
            clear hK K
            try simp only [Act.put, List.setIfInBounds_toArray, List.set_cons_zero, List.set_cons_succ]
            refine wpAnyH_ready (rs := [10]) (by kernel_rfl) (by simp) ?_
            refine AllReadyH.cons (by simp only [List.getElem?_toArray, List.getElem?_cons_zero, List.getElem?_cons_succ]; exact rfl) (fun K hK => ?_) AllReadyH.nil
            refine wpo_appendR rowL (.tmp 45) (.tmp 48) rfl 0 (.slice la m lc) m vs rfl HO11.out w10.heap.size rfl [.slice ra rn rcc] H11.out rfl (by intro u hu; simp at hu; subst hu; rfl) (by omega) (Nat.zero_le _) ?_
            intro v12 w12 ho12 hg12 hw12
            have hlt := list_told (w := w9) HRS.out HFB.out HVV.out HGW.out HB10.out (by rw [← HRN.out]; exact HO10.out) HB11.out (by rw [HM.out]; exact ho12) hg12 hw12
            rw [HM1.out] at ho12
            obtain ⟨va, vc, rfl⟩ := own_slice ho12
            have HT12 := hid hlt
            have HV12 := hid (HVB.out.keep hlt.2 HNG.out)
            have hS12 := And.intro ((hlt.2.cell (World.block_lt_of_cell? _ _ hS00.1) (fun h => NF1.out (HGF.out _ h))).trans hS00.1) (And.intro ((hlt.2.cell (World.block_lt_of_cell? _ _ hS00.2.1) (fun h => NF2.out (HGF.out _ h))).trans hS00.2.1) ((hlt.2.cell (World.block_lt_of_cell? _ _ hS00.2.2) (fun h => NF3.out (HGF.out _ h))).trans hS00.2.2))
            have s2 := HV12.out.cell (j := 2) rfl
            have f2 := HV12.out.free 2
            clear hlt ho12 hg12 hw12
            refine hK.out _ _ ?k10x30ye1 (fun hS => ?s10x30ye1)
            case k10x30ye1 => exact hS12
            clear hK K
            try simp only [Act.put, List.setIfInBounds_toArray, List.set_cons_zero, List.set_cons_succ]
            refine wpAnyH_take (i := 11) (v := ?v11x31ye1) (by simp only [List.getElem?_toArray, List.getElem?_cons_zero, List.getElem?_cons_succ]; exact rfl) (by kernel_rfl) (by kernel_rfl) (by kernel_rfl) (by exact fun _ _ _ h => h) (Or.inl ⟨by rfl, ?y11x31ye1⟩) hS ?r11x31ye1
            case y11x31ye1 => (intro w' hSw; (try dsimp only at hSw); go_simp; (try with_reducible rfl))
            simp only [Act.put, List.setIfInBounds_toArray, List.set_cons_zero, List.set_cons_succ]
            refine wpAnyH_take (i := 12) (v := ?v12x32ye1) (by simp only [List.getElem?_toArray, List.getElem?_cons_zero, List.getElem?_cons_succ]; exact rfl) (by kernel_rfl) (by kernel_rfl) (by kernel_rfl) (by exact fun _ _ _ h => h) (Or.inl ⟨by rfl, ?y12x32ye1⟩) hS ?r12x32ye1
            case y12x32ye1 => (intro w' hSw; (try dsimp only at hSw); go_simp; (try with_reducible rfl))
            simp only [Act.put, List.setIfInBounds_toArray, List.set_cons_zero, List.set_cons_succ]
            refine wpAnyH_ready (rs := [13]) (by kernel_rfl) (by simp) ?_
            refine AllReadyH.cons (by simp only [List.getElem?_toArray, List.getElem?_cons_zero, List.getElem?_cons_succ]; exact rfl) (fun K hK => ?_) AllReadyH.nil
            go_simp
            generalize hw13 : World.setCell _ _ _ = w13
            have hS13 : w13.cell? ⟨bv, 0, none⟩ = some (.pointer (some ⟨v, 0, none⟩)) ∧ w13.cell? ⟨bn, 0, none⟩ = some (.int .i64 nx) ∧ w13.cell? ⟨bl, 0, none⟩ = some (.slice lo rn rc) := by
              rw [← hw13]
              exact And.intro ((World.cell?_setCell_other w12 _ _ _ (fun e => by injection e with e; exact NV1.out e.symm)).trans hS.1) (And.intro ((World.cell?_setCell_other w12 _ _ _ (fun e => by injection e with e; exact NV2.out e.symm)).trans hS.2.1) ((World.cell?_setCell_other w12 _ _ _ (fun e => by injection e with e; exact NV3.out e.symm)).trans hS.2.2))
            have HV13 : Hid (Blk w13 v 105 (vCells a s.gen nx (.slice la m lc) s.br)) := hid (by rw [← hw13]; exact HV12.out.set 2 _)
            have HK13 : Hid (Keep (fun k => k = v) w12 w13) := hid (by rw [← hw13]; exact (Keep.refl (fun k => k = v) w12).setCell (p := ⟨v, 2, none⟩) rfl _)
            have s3 := HV13.out.cell (j := 3) rfl
            have f3 := HV13.out.free 3
            clear hw13 s2 f2 HV12
            refine hK.out _ _ ?k13x33ye1 (fun hS => ?s13x33ye1)
            case k13x33ye1 => exact hS13
            clear hK K
            try simp only [Act.put]
            refine wpAnyH_take (i := 14) (v := ?v14x34ye1) (by simp only [List.getElem?_toArray, List.getElem?_cons_zero, List.getElem?_cons_succ]; exact rfl) (by kernel_rfl) (by kernel_rfl) (by kernel_rfl) (by exact fun _ _ _ h => h) (Or.inl ⟨by rfl, ?y14x34ye1⟩) hS ?r14x34ye1
            case y14x34ye1 => (intro w' hSw; (try dsimp only at hSw); go_simp; (try with_reducible rfl))
            simp only [Act.put, List.setIfInBounds_toArray, List.set_cons_zero, List.set_cons_succ]
            refine wpAnyH_take (i := 15) (v := ?v15x35ye1) (by simp only [List.getElem?_toArray, List.getElem?_cons_zero, List.getElem?_cons_succ]; exact rfl) (by kernel_rfl) (by kernel_rfl) (by kernel_rfl) (by exact fun _ _ _ h => h) (Or.inl ⟨by rfl, ?y15x35ye1⟩) hS ?r15x35ye1
            case y15x35ye1 => (intro w' hSw; (try dsimp only at hSw); go_simp; (try with_reducible rfl))
            simp only [Act.put, List.setIfInBounds_toArray, List.set_cons_zero, List.set_cons_succ]
            refine wpAnyH_ready (rs := [16]) (by kernel_rfl) (by simp) ?_
            refine AllReadyH.cons (by simp only [List.getElem?_toArray, List.getElem?_cons_zero, List.getElem?_cons_succ]; exact rfl) (fun K hK => ?_) AllReadyH.nil
            go_simp
            generalize hw14 : World.setCell _ _ _ = w14
            have hS14 : w14.cell? ⟨bv, 0, none⟩ = some (.pointer (some ⟨v, 0, none⟩)) ∧ w14.cell? ⟨bn, 0, none⟩ = some (.int .i64 nx) ∧ w14.cell? ⟨bl, 0, none⟩ = some (.slice lo rn rc) := by
              rw [← hw14]
              exact And.intro ((World.cell?_setCell_other w13 _ _ _ (fun e => by injection e with e; exact NV1.out e.symm)).trans hS.1) (And.intro ((World.cell?_setCell_other w13 _ _ _ (fun e => by injection e with e; exact NV2.out e.symm)).trans hS.2.1) ((World.cell?_setCell_other w13 _ _ _ (fun e => by injection e with e; exact NV3.out e.symm)).trans hS.2.2))
            have HV14 : Hid (Blk w14 v 105 (vCells a s.gen nx (.slice va m1 vc) s.br)) := hid (by rw [← hw14]; exact HV13.out.set 3 _)
            have HK14 : Hid (Keep (fun k => k = v) w12 w14) := hid (by rw [← hw14]; exact HK13.out.setCell (p := ⟨v, 3, none⟩) rfl _)
            clear hw14 s3 f3 HV13 HK13
            refine hK.out _ _ ?k16x36ye1 (fun hS => ?s16x36ye1)
            case k16x36ye1 => exact hS14
            clear hK K
            try simp only [Act.put]
            refine wpAnyH_done (by kernel_rfl) ?_ _
            clear hS hS10 hS11 hS12 hS13 hS14 c3a c3b
            go_wp2
            go_ret
            rw [HRV.out]
            unfold appendedV
            rw [HX.out]
            dsimp only
            rw [if_pos rfl]
            refine ⟨rfl, ?_⟩
            have hz1 := HT12.out.2.size
            have hz2 := HK14.out.size
            have hvl := HVB.out.lt
            have h15 := HCL.out w14 (vsA v a { s with next := nx, L := s.L ++ [rec] }) (fun k => k = v ∨ G k ∨ (w9.heap.size ≤ k ∧ k < w12.heap.size)) ((HT12.out.2.mono fun k _ h => HGF.out k h).trans (HK14.out.mono fun k _ e => by rw [e]; exact HVF.out)) (good_vaultA _ _ _ _ _ _) ⟨_, fun k => G k ∨ (w9.heap.size ≤ k ∧ k < w12.heap.size), HV14.out, .inl rfl, (good_listA _ _).keep HT12.out.1 HK14.out (fun k h1 h2 => by
              rw [h2] at h1
              rcases h1 with h1 | h1
              · exact HNG.out h1
              · omega), fun h1 => by
              rcases h1 with h1 | h1
              · exact HNG.out h1
              · omega, fun k h1 => .inr h1⟩ (fun k hk => by
              rcases hk with rfl | hk | hk
              · exact .inl HVF.out
              · exact .inl (HGF.out _ hk)
              · exact .inr ⟨hk.1, by omega⟩)
            rw [set_pre (List.getElem?_set_self (HJL.out _)), List.set_set] at h15
            exact h15.drop_post
      · have hne : (ec != 0) = true := by simpa using hec
        have HNZ := hid hec
        clear hec
        go_wp2
        go_ret
        rw [HRV.out]
        unfold appendedV
        rw [HX.out]
        dsimp only
        rw [if_neg HNZ.out]
        refine ⟨rfl, ?_⟩
        have h9 := H9.out.drop_post
        rw [show (s.br || decide (ec ≠ 0)) = true by simp [HNZ.out]] at h9
        exact h9
  · have HR0 : Hid (readyOf s = 23) := hid (by unfold readyOf; rw [hbr]; rfl)
    have HRV : Hid (appendV d s rec = (23, d, s)) := hid (by unfold appendV; rw [hbr, if_pos rfl])
    clear hbr
    go_enter Try.func87, Try.ntmps87
    go_upto_region 1 with fail
    rw [HW1.out, HBV.out, HW2.out, HBL.out]
    go_wp2_with fail
    refine HRD.out.mono ?_
    rintro e w' ⟨rfl, hw'⟩
    subst w'
    rw [HR0.out]
    go_wp2
    go_ret
    rw [HRV.out]
    refine ⟨rfl, ?_⟩
    rw [set_same HI.out, set_same HJ.out]
    exact H2.out.drop_post
end Go.Proofs.Ytlondopgibcikaa
namespace Go.Proofs.Ytlondopgibcikaa
open Go.RowKit Ent
def cmpOf (x y : Int) : Int := if x < y then -1 else if y < x then 1 else 0
set_option maxRecDepth 100000 in
theorem nan_any (x : Int) (w : World) : Calls Try.prog 156 #[.int .i64 x] w fun e w' => e = .returned (.bool false) ∧ w' = w := by
  go_enter Try.func156, Try.ntmps156
  go_wp2
  go_ret
  exact ⟨rfl, rfl⟩
set_option maxRecDepth 100000 in
theorem cmp_any (x y : Int) (w : World) : Calls Try.prog 136 #[.int .i64 x, .int .i64 y] w fun e w' => e = .returned (.int .i64 (cmpOf x y)) ∧ w' = w := by
  by_cases h1 : x < y
  · have q1 : decide (x < y) = true := decide_eq_true h1
    have HE : Hid (cmpOf x y = -1) := hid (by unfold cmpOf; rw [if_pos h1])
    clear h1
    go_enter Try.func136, Try.ntmps136
    go_wp2_with fail
    refine (nan_any x w).mono ?_
    rintro e w' ⟨rfl, hw'⟩
    subst w'
    go_wp2_with fail
    refine (nan_any y w).mono ?_
    rintro e w' ⟨rfl, hw'⟩
    subst w'
    go_wp2
    go_ret
    rw [HE.out]
    exact ⟨rfl, rfl⟩
  · have q1 : decide (x < y) = false := decide_eq_false h1
    by_cases h2 : y < x
    · have q2 : decide (y < x) = true := decide_eq_true h2
      have HE : Hid (cmpOf x y = 1) := hid (by unfold cmpOf; rw [if_neg h1, if_pos h2])
      clear h1 h2
      go_enter Try.func136, Try.ntmps136
      go_wp2_with fail
      refine (nan_any x w).mono ?_
      rintro e w' ⟨rfl, hw'⟩
      subst w'
      go_wp2_with fail
      refine (nan_any y w).mono ?_
      rintro e w' ⟨rfl, hw'⟩
      subst w'
      go_wp2
      go_ret
      rw [HE.out]
      exact ⟨rfl, rfl⟩
    · have q2 : decide (y < x) = false := decide_eq_false h2
      have HE : Hid (cmpOf x y = 0) := hid (by unfold cmpOf; rw [if_neg h1, if_neg h2])
      clear h1 h2
      go_enter Try.func136, Try.ntmps136
      go_wp2_with fail
      refine (nan_any x w).mono ?_
      rintro e w' ⟨rfl, hw'⟩
      subst w'
      go_wp2_with fail
      refine (nan_any y w).mono ?_
      rintro e w' ⟨rfl, hw'⟩
      subst w'
      go_wp2
      go_ret
      rw [HE.out]
      exact ⟨rfl, rfl⟩
set_option maxRecDepth 100000 in
theorem open1_any (x y : Int) (w : World) : Calls Try.prog 135 #[.agg #[.int .i64 x], .agg #[.int .i64 y]] w fun e w' => e = .returned (.int .i64 (cmpOf x y)) ∧ Below w.heap.size w w' := by
  go_enter Try.func135, Try.ntmps135
  go_wp2_with fail
  refine (cmp_any x y _).mono ?_
  rintro e w' ⟨rfl, hw'⟩
  subst w'
  go_wp2
  go_ret
  exact ⟨rfl, ((Below.refl _ _).alloc (Nat.le_refl _) _).alloc (by rw [World.size_alloc]; omega) _⟩
end Go.Proofs.Ytlondopgibcikaa
namespace Go.Proofs.Ytlondopgibcikaa
open Go.RowKit Ent
theorem enter_o1 (xs : Array Value) (w : World) : (callFunc 135 xs).run Try.prog w = .ok (.enter 135 xs) w := by kernel_rfl
/-- the greatest of some -/
def maxOf (gs : List Nat) : Nat := gs.foldl max 0
theorem maxOf_take {gs : List Nat} {k x : Nat} (h : gs[k]? = some x) : maxOf (gs.take (k + 1)) = max (maxOf (gs.take k)) x := by
  unfold maxOf
  rw [List.take_add_one, h, Option.toList_some, List.foldl_append]
  rfl
set_option maxRecDepth 100000 in
set_option maxHeartbeats 1000000 in
theorem maxfunc_any (g o n c : Nat) (gs : List Nat) (hn : n = gs.length) (hn1 : 1 ≤ n) (hb : n ≤ 1000) (w : World) (hc : ∀ (k x : Nat), gs[k]? = some x → w.cell? ⟨g, o + k, none⟩ = some (.int .i64 (x : Nat))) :
    Calls Try.prog 134 #[.slice (some ⟨g, o, none⟩) n c, .func (.func 135) #[] #[]] w fun e w' => e = .returned (.agg #[.int .i64 (maxOf gs : Nat)]) ∧ Below w.heap.size w w' := by
  obtain ⟨x0, hx0⟩ : ∃ x, gs[0]? = some x := ⟨_, List.getElem?_eq_getElem (by omega)⟩
  have c0 : w.cell? ⟨g, o, none⟩ = some (.int .i64 (x0 : Nat)) := hc 0 x0 hx0
  obtain ⟨w1, hw1⟩ : ∃ w1, w.alloc (.cells #[.int .i64 0] 155) = w1 := ⟨_, rfl⟩
  obtain ⟨b1, hb1⟩ : ∃ b1, w.heap.size = b1 := ⟨_, rfl⟩
  have h1 : Blk w1 b1 155 [.int .i64 0] := by rw [← hw1, ← hb1]; exact alloc_new _ _
  have c1 : w1.cell? ⟨g, o, none⟩ = some (.int .i64 (x0 : Nat)) := by rw [← hw1]; exact alc c0 _
  obtain ⟨bm, hbm⟩ : ∃ bm, w1.heap.size = bm := ⟨_, rfl⟩
  obtain ⟨w2, hw2⟩ : ∃ w2, w1.alloc (.cells #[.int .i64 (x0 : Nat)] 155) = w2 := ⟨_, rfl⟩
  have h2 : Blk w2 bm 155 [.int .i64 (x0 : Nat)] := by rw [← hw2, ← hbm]; exact alloc_new _ _
  have h21 : Blk w2 b1 155 [.int .i64 0] := by rw [← hw2]; exact h1.alloc _
  have hbw : Below w.heap.size w w2 := by rw [← hw2, ← hw1]; exact (fresh_alloc w _).alloc (by rw [World.size_alloc]; omega) _
  have hlt0 : b1 < bm := by rw [← hb1, ← hbm, ← hw1, World.size_alloc]; omega
  have H2 := hid h2; have H21 := hid h21; have HBW := hid hbw; have HW1 := hid hw1; have HW2 := hid hw2; have HB1 := hid hb1
  have HBM : Hid (b1 + 1 = bm) := hid (by rw [← hb1, ← hbm, ← hw1, World.size_alloc])
  have HBB : Hid (w1.heap.size = bm) := hid hbm
  have HBG : Hid (w.heap.size ≤ bm) := hid (by rw [hb1]; omega)
  have HB1G : Hid (w.heap.size ≤ b1) := hid (by rw [hb1]; exact Nat.le_refl _)
  have HNE : Hid (b1 ≠ bm) := hid (by omega)
  have HC := hid hc; have HN := hid hn
  have q0 : decide ((n : Int) < 1) = false := decide_eq_false (by omega)
  have HM1 : Hid (x0 = maxOf (gs.take 1)) := hid (by rw [maxOf_take hx0]; simp [maxOf])
  clear hc hn hx0 h1 h2 h21 hbw hw1 hw2 hb1 hbm
  go_enter Try.func134, Try.ntmps134
  go_upto_region 3 with fail
  rw [HW1.out, HB1.out]
  go_upto_region 5 with fail
  rw [HBB.out, HW2.out]
  go_loopw [6] (fun i wr => ∃ (k m : Nat), 1 ≤ k ∧ k ≤ n ∧ i = .int .i64 k ∧ Blk wr bm 155 [.int .i64 m] ∧ m = maxOf (gs.take k) ∧ Below w.heap.size w wr ∧ Blk wr b1 155 [.int .i64 0]) (fun i _ => n - (intOf i).toNat)
  case atStart => exact ⟨1, x0, by omega, by omega, rfl, H2.out, HM1.out, HBW.out, H21.out⟩
  case round =>
    obtain ⟨k, m, hk1, hk, rfl, hm, hmm, hbe, hkb⟩ := hrel
    have HK := hid hkb; have HM := hid hm; have HMM := hid hmm; have HB := hid hbe
    clear hm hmm hbe hkb
    by_cases hlt : k < n
    · obtain ⟨y, hy⟩ : ∃ x, gs[k]? = some x := ⟨_, List.getElem?_eq_getElem (by rw [← HN.out]; exact hlt)⟩
      have cx := (HB.out.cell (World.block_lt_of_cell? _ _ (HC.out k y hy))).trans (HC.out k y hy)
      have cm := HM.out.cell (j := 0) rfl
      have HX := hid hy
      clear hy
      go_upto_region 7 with fail
      refine wp_region_held_drew (S := fun w' => w'.cell? ⟨g, o + k, none⟩ = some (.int .i64 (y : Nat)) ∧ w'.cell? ⟨bm, 0, none⟩ = some (.int .i64 (m : Nat))) (by kernel_rfl) ⟨cx, cm⟩ (fun hS => ?_)
      refine wpAnyH_take (i := 0) (v := ?v0x1z) (by simp only [List.getElem?_toArray, List.getElem?_cons_zero]; exact rfl) (by kernel_rfl) (by kernel_rfl) (by kernel_rfl) (by exact fun _ _ _ h => h) (Or.inl ⟨by rfl, ?y0x1z⟩) hS ?r0x1z
      case y0x1z => (intro w' hSw; (try dsimp only at hSw); go_simp; (try with_reducible rfl))
      simp only [Act.put, List.setIfInBounds_toArray, List.set_cons_zero, List.set_cons_succ]
      refine wpAnyH_take (i := 1) (v := ?v1x2z) (by simp only [List.getElem?_toArray, List.getElem?_cons_zero, List.getElem?_cons_succ]; exact rfl) (by kernel_rfl) (by kernel_rfl) (by kernel_rfl) (by exact fun _ _ _ h => h) (Or.inl ⟨by rfl, ?y1x2z⟩) hS ?r1x2z
      case y1x2z => (intro w' hSw; (try dsimp only at hSw); go_simp; (try with_reducible rfl))
      simp only [Act.put, List.setIfInBounds_toArray, List.set_cons_zero, List.set_cons_succ]
      refine wpAnyH_take (i := 2) (v := ?v2x3z) (by simp only [List.getElem?_toArray, List.getElem?_cons_zero, List.getElem?_cons_succ]; exact rfl) (by kernel_rfl) (by kernel_rfl) (by kernel_rfl) (by exact fun _ _ _ h => h) (Or.inl ⟨by rfl, ?y2x3z⟩) hS ?r2x3z
      case y2x3z => (intro w' hSw; (try dsimp only at hSw); go_simp; (try with_reducible rfl))
      simp only [Act.put, List.setIfInBounds_toArray, List.set_cons_zero, List.set_cons_succ]
      refine wpAnyH_take (i := 3) (v := ?v3x4z) (by simp only [List.getElem?_toArray, List.getElem?_cons_zero, List.getElem?_cons_succ]; exact rfl) (by kernel_rfl) (by kernel_rfl) (by kernel_rfl) (by exact fun _ _ _ h => h) (Or.inl ⟨by rfl, ?y3x4z⟩) hS ?r3x4z
      case y3x4z => (intro w' hSw; (try dsimp only at hSw); go_simp; (try with_reducible rfl))
      simp only [Act.put, List.setIfInBounds_toArray, List.set_cons_zero, List.set_cons_succ]
      refine wpAnyH_take (i := 4) (v := ?v4x5z) (by simp only [List.getElem?_toArray, List.getElem?_cons_zero, List.getElem?_cons_succ]; exact rfl) (by kernel_rfl) (by kernel_rfl) (by kernel_rfl) (by exact fun _ _ _ h => h) (Or.inl ⟨by rfl, ?y4x5z⟩) hS ?r4x5z
      case y4x5z => (intro w' hSw; (try dsimp only at hSw); go_simp; (try with_reducible rfl))
      simp only [Act.put, List.setIfInBounds_toArray, List.set_cons_zero, List.set_cons_succ]
      refine wpAnyH_take (i := 5) (v := ?v5x6z) (by simp only [List.getElem?_toArray, List.getElem?_cons_zero, List.getElem?_cons_succ]; exact rfl) (by kernel_rfl) (by kernel_rfl) (by kernel_rfl) (by exact fun _ _ _ h => h) (Or.inl ⟨by rfl, ?y5x6z⟩) hS ?r5x6z
      case y5x6z => (intro w' hSw; (try dsimp only at hSw); go_simp; (try with_reducible rfl))
      simp only [Act.put, List.setIfInBounds_toArray, List.set_cons_zero, List.set_cons_succ]
      refine wpAnyH_ready (rs := [6]) (by kernel_rfl) (by simp) ?_
      refine AllReadyH.cons (by simp only [List.getElem?_toArray, List.getElem?_cons_zero, List.getElem?_cons_succ]; exact rfl) (fun K hK => ?_) AllReadyH.nil
      go_simp
      refine (open1_any (y : Nat) (m : Nat) _).mono ?_
      rintro e w5 ⟨rfl, hb5⟩
      have hb5 := (Below.refl wr.heap.size wr).drew.trans hb5
      have hS5 := And.intro ((hb5.cell (World.block_lt_of_cell? _ _ hS.1)).trans hS.1) ((hb5.cell (World.block_lt_of_cell? _ _ hS.2)).trans hS.2)
      have HB5 := hid hb5
      clear hb5
      refine hK.out _ _ ?k6x7z (fun hS => ?s6x7z)
      case k6x7z => exact hS5
      clear hK K
      try simp only [Act.put, List.setIfInBounds_toArray, List.set_cons_zero, List.set_cons_succ]
      refine wpAnyH_take (i := 7) (v := ?v7x8z) (by simp only [List.getElem?_toArray, List.getElem?_cons_zero, List.getElem?_cons_succ]; exact rfl) (by kernel_rfl) (by kernel_rfl) (by kernel_rfl) (by exact fun _ _ _ h => h) (Or.inl ⟨by rfl, ?y7x8z⟩) hS ?r7x8z
      case y7x8z => (intro w' hSw; (try dsimp only at hSw); go_simp; (try with_reducible rfl))
      simp only [Act.put, List.setIfInBounds_toArray, List.set_cons_zero, List.set_cons_succ]
      refine wpAnyH_done (by kernel_rfl) ?_ _
      clear hS hS5
      have HM5 := hid (HM.out.below HB5.out HM.out.lt)
      have HB6 := hid (HB.out.trans (HB5.out.mono HB.out.size))
      by_cases hlt2 : m < y
      · have q2 : decide ((0 : Int) < cmpOf (y : Nat) (m : Nat)) = true := decide_eq_true (by unfold cmpOf; rw [if_neg (by omega), if_pos (by omega)]; omega)
        have cy := (HB5.out.cell (World.block_lt_of_cell? _ _ cx)).trans cx
        have cm5 := HM5.out.cell (j := 0) rfl
        have fm5 := HM5.out.free 0
        simp only [q2]
        go_wp2_with fail
        go_roundw
        case rel => exact ⟨k + 1, y, by omega, by omega, by go_num, HM5.out.set 0 _, by rw [maxOf_take HX.out, ← HMM.out]; exact (Nat.max_eq_right (by omega)).symm, HB6.out.setCell HBG.out _, (HK.out.below HB5.out HK.out.lt).other _ _ HNE.out⟩
        case measure => simp [intOf]; omega
      · have q2 : decide ((0 : Int) < cmpOf (y : Nat) (m : Nat)) = false := decide_eq_false (by
          unfold cmpOf
          split
          · omega
          · rw [if_neg (by omega)]; omega)
        simp only [q2]
        go_wp2_with fail
        go_roundw
        case rel => exact ⟨k + 1, m, by omega, by omega, by go_num, HM5.out, by rw [maxOf_take HX.out, ← HMM.out]; exact (Nat.max_eq_left (by omega)).symm, HB6.out, HK.out.below HB5.out HK.out.lt⟩
        case measure => simp [intOf]; omega
    · obtain rfl : k = n := by omega
      have cm := HM.out.cell (j := 0) rfl
      have ck := HK.out.cell (j := 0) rfl
      have fk := HK.out.free 0
      have HE : Hid (m = maxOf gs) := hid (by rw [HMM.out, List.take_of_length_le (by rw [← HN.out]; exact Nat.le_refl _)])
      go_wp2_with fail
      rw [HE.out]
      refine bodyPost_ret (results_cell_row rfl _ _ b1 155 #[.int .i64 (maxOf gs : Nat)] (0, 0) _ rfl (HK.out.set 0 (.int .i64 (maxOf gs : Nat))) Try.underlying155 rfl (by kernel_rfl)) rfl ⟨rfl, HB.out.setCell HB1G.out _⟩
end Go.Proofs.Ytlondopgibcikaa
namespace Go.Proofs.Ytlondopgibcikaa
open Go.RowKit Ent
theorem rowFd : RowT 153 155 (.agg #[.int .i64 0]) 1 8 := ⟨Try.underlying153, info_parts (P := Try.prog) (by kernel_rfl), rfl, by decide, by decide, by decide⟩
/-- one of the later assets alone -/
theorem St.pick {B : Nat} {w0 w : World} {As X : List Asset} (h : St B w0 w (As ++ X)) (k : Nat) {A : Asset} (hk : X[k]? = some A) : St B w0 w (As ++ [A]) := by
  obtain ⟨Fs, hl, ho, hd⟩ := h.own
  have hkl := (List.getElem?_eq_some_iff.1 hk).1
  have hlen : Fs.length = As.length + X.length := by rw [hl, List.length_append]
  obtain ⟨F, hF⟩ : ∃ F, Fs[As.length + k]? = some F := ⟨_, List.getElem?_eq_getElem (by omega)⟩
  have key : ∀ (i : Nat) (G : Nat → Prop), (Fs.take As.length ++ [F])[i]? = some G → ∃ m, Fs[m]? = some G ∧ (i < As.length ∧ m = i ∨ i = As.length ∧ m = As.length + k) := by
    intro i G hG
    by_cases hi : i < As.length
    · rw [List.getElem?_append_left (by rw [List.length_take]; omega), List.getElem?_take, if_pos hi] at hG
      exact ⟨i, hG, .inl ⟨hi, rfl⟩⟩
    · have h1 := (List.getElem?_eq_some_iff.1 hG).1
      simp only [List.length_append, List.length_take, List.length_cons, List.length_nil] at h1
      obtain rfl : i = As.length := by omega
      rw [List.getElem?_append_right (by rw [List.length_take]; omega), List.length_take, Nat.min_eq_left (by omega), Nat.sub_self] at hG
      injection hG with hG
      subst hG
      exact ⟨_, hF, .inr ⟨rfl, rfl⟩⟩
  refine ⟨h.bl, h.be, Fs.take As.length ++ [F], by simp; omega, fun i C G hC hG => ?_, fun i j G H hij hG hH => ?_⟩
  · obtain ⟨m, hm, hh⟩ := key i G hG
    rcases hh with ⟨h1, rfl⟩ | ⟨rfl, rfl⟩
    · rw [List.getElem?_append_left h1] at hC
      exact ho _ C G (get_pre hC) hm
    · rw [List.getElem?_append_right (Nat.le_refl _), Nat.sub_self] at hC
      injection hC with hC
      subst hC
      exact ho _ _ G (get_post k hk) hm
  · obtain ⟨m, hm, h1⟩ := key i G hG
    obtain ⟨n, hn, h2⟩ := key j H hH
    exact hd m n G H (by omega) hm hn
theorem St.dev_readF {B : Nat} {w0 w w1 : World} {As : List Asset} {a : Nat} {d : Dev} (h : St B w0 w As) (hb : Below w.heap.size w w1) (i : Nat) (hi : As[i]? = some (dev a d)) (k : Int) :
    Calls Try.prog 43 #[ptr a, .int .i64 k] w1 fun e w' => ∃ v, e = .returned (.tuple #[v, .int .i64 (d.read k).2]) ∧ Fresh w1.heap.size w' v (d.read k).1 ∧ Below w1.heap.size w1 w' := by
  obtain ⟨F, hA, _⟩ := h.open2 hb i hi
  exact lift_read k w1 hA
/-- the generations that superblocks tell -/
def supGens (d : Dev) (k : Nat) : List Nat := (List.range k).flatMap fun (i : Nat) => if isSup (d.read (i : Int)).1 d.img.length then [genOf (d.read (i : Int)).1] else []
theorem supGens_zero (d : Dev) : supGens d 0 = [] := rfl
theorem supGens_succ (d : Dev) (k : Nat) : supGens d (k + 1) = supGens d k ++ (if isSup (d.read (k : Int)).1 d.img.length then [genOf (d.read (k : Int)).1] else []) := by
  simp [supGens, List.range_succ]
theorem supGens_len (d : Dev) : ∀ (k : Nat), (supGens d k).length ≤ k
  | 0 => by simp [supGens]
  | k + 1 => by
    have := supGens_len d k
    rw [supGens_succ, List.length_append]
    split
    · simp; omega
    · simp; omega
theorem supGens_le (d : Dev) : ∀ (k g : Nat), g ∈ supGens d k → 1 ≤ g ∧ g ≤ 2147483647
  | 0, g, h => by simp [supGens] at h
  | k + 1, g, h => by
    rw [supGens_succ, List.mem_append] at h
    rcases h with h | h
    · exact supGens_le d k g h
    · split at h
      · rename_i hs
        simp at h
        subst h
        unfold isSup at hs
        simp only [Bool.and_eq_true, decide_eq_true_eq] at hs
        exact hs.1
      · simp at h
theorem maxOf_mem : ∀ (gs : List Nat), gs ≠ [] → maxOf gs ∈ gs := by
  have key : ∀ (gs : List Nat) (m : Nat), gs.foldl max m = m ∨ gs.foldl max m ∈ gs := by
    intro gs
    induction gs with
    | nil => intro m; exact .inl rfl
    | cons x gs ih =>
      intro m
      rw [List.foldl_cons]
      rcases ih (max m x) with h | h
      · rw [h]
        rcases Nat.le_total m x with h1 | h1
        · rw [Nat.max_eq_right h1]; exact .inr (by simp)
        · rw [Nat.max_eq_left h1]; exact .inl rfl
      · exact .inr (List.mem_cons_of_mem _ h)
  intro gs hne
  cases gs with
  | nil => exact absurd rfl hne
  | cons x gs =>
    unfold maxOf
    rw [List.foldl_cons, Nat.zero_max]
    rcases key gs x with h | h
    · rw [h]; simp
    · exact List.mem_cons_of_mem _ h
theorem read_out {d : Dev} (h : d.out = true) (i : Int) : (d.read i).2 = 22 := by unfold Dev.read; rw [h]; rfl
theorem read_code {d : Dev} (h : d.out = false) {i : Nat} (hi : i < d.img.length) : (d.read (i : Int)).2 = 0 := by
  have hh : has d.now.length (i : Int) = true := by rw [Dev.now_len]; simp [has]; omega
  unfold Dev.read
  rw [h]
  show (secOf d.now (i : Int)).2 = 0
  unfold secOf
  rw [hh]; rfl
/-- what is scanned of a generation's area -/
def scanG (d : Dev) (g : Nat) : List (List UInt8) × Int × Int := logScan d (fromOf d.img.length g : Nat) (fromOf d.img.length g + halfOf d.img.length : Nat) (g : Nat)
def openedD (d : Dev) (g : Nat) : Int × Dev × Option VS :=
  if (scanG d g).2.2 ≠ 0 then ((scanG d g).2.2, d, none)
  else if fitsOf g d.img.length (scanG d g).1 ≠ 0 then (fitsOf g d.img.length (scanG d g).1, d, none)
  else if (movesD d (g + 1) (scanG d g).1).1 = 0 then (0, (movesD d (g + 1) (scanG d g).1).2.1, some ⟨g + 1, (movesD d (g + 1) (scanG d g).1).2.2, false, (scanG d g).1⟩)
  else ((movesD d (g + 1) (scanG d g).1).1, (movesD d (g + 1) (scanG d g).1).2.1, none)
def openD (d : Dev) : Int × Dev × Option VS :=
  if d.img.length < 8 then (3, d, none) else if d.out then (22, d, none) else if supGens d 2 = [] then (23, d, none) else openedD d (maxOf (supGens d 2))
theorem scan_many (d : Dev) (base gen : Nat) : ∀ (m i : Nat) (out : List (List UInt8)) (next : Nat) (rec : List UInt8) (b : Bool), (scanLoop d base gen m i out next rec b).1.length ≤ out.length + m
  | 0, _, out, _, _, _ => Nat.le_refl _
  | m + 1, i, out, next, rec, b => by
    rw [scanLoop]
    rcases rightOf (d.read ((base + i : Nat) : Int)).1 gen i with _ | ⟨k, p⟩
    · simp only; omega
    · simp only
      split
      · simp only; omega
      · split
        · have := scan_many d base gen m (i + 1) out next (rec ++ p) true; omega
        · have := scan_many d base gen m (i + 1) (out ++ [rec ++ p]) (i + 1) [] false
          rw [List.length_append] at this; simp at this; omega
theorem scanG_many (d : Dev) (g : Nat) : (scanG d g).1.length ≤ halfOf d.img.length := by
  unfold scanG logScan
  split
  · simp
  · split
    · simp
    · have := scan_many d (fromOf d.img.length g : Int).toNat (g : Int).toNat (((fromOf d.img.length g + halfOf d.img.length : Nat) : Int) - (fromOf d.img.length g : Nat)).toNat 0 [] 0 [] false
      simp only [List.length_nil, Nat.zero_add] at this
      refine Nat.le_trans this ?_
      omega
/-- a vault, or none -/
def openedA (B : Nat) (w0 w : World) (As : List Asset) (a : Nat) : Option VS → Value → Prop
  | none, r => r = .pointer none ∧ St B w0 w As
  | some s, r => ∃ v, r = ptr v ∧ St B w0 w (As ++ [vsA v a s])
theorem open2_any {B : Nat} {w0 w : World} {As : List Asset} {a : Nat} {d : Dev} (h : St B w0 w As) (i : Nat) (hi : As[i]? = some (dev a d)) (j v : Nat) (s : VS) (hj : As[j]? = some (vsA v a s)) (kv kl bv bl : Nat) (lo : Option Addr) (len c : Nat) (hkv : As[kv]? = some (blkA bv 103 [ptr v])) (hkl : As[kl]? = some (blkA bl 79 [.slice lo len c])) (L : List (List UInt8)) (hL : LR w lo L) (hlen : len = L.length) (hl1 : len ≤ 1000) (hg : s.gen ≤ 2147483648) (hl2 : ∀ l ∈ L, l.length ≤ 1073741824) (hn2 : 2 ≤ d.img.length) :
    Calls Try.prog 137 #[ptr bv, ptr bl] w fun e w' => e = .returned (.int .i64 (fitsOf s.gen d.img.length L)) ∧ St B w0 w' As := by
  have cv := (h.blk kv hkv).cell (j := 0) rfl
  have cl := (h.blk kl hkl).cell (j := 0) rfl
  have HC := hid (h.v_fits i hi j hj lo len c L hL hlen hl1 hg hl2 hn2)
  clear h hi hj hkv hkl hL hlen hl2
  unfold ptr at cv HC ⊢
  go_enter Try.func137, Try.ntmps137
  go_wp2_with fail
  refine HC.out.mono ?_
  rintro e w' ⟨rfl, h'⟩
  have H' := hid h'
  clear h'
  go_wp2
  go_ret
  exact ⟨rfl, H'.out⟩
theorem open3_any {B : Nat} {w0 w : World} {As : List Asset} {a : Nat} {d : Dev} (h : St B w0 w As) (i : Nat) (hi : As[i]? = some (dev a d)) (j v : Nat) (s : VS) (hj : As[j]? = some (vsA v a s)) (hij : i ≠ j) (kv kl bv bl : Nat) (lo : Option Addr) (len c : Nat) (hkv : As[kv]? = some (blkA bv 103 [ptr v])) (hkl : As[kl]? = some (blkA bl 79 [.slice lo len c])) (L : List (List UInt8)) (hlen : len = L.length) (hl1 : len ≤ 1000) (hL : LentI B w0 As i lo L) (hl2 : ∀ l ∈ L, l.length ≤ 1073741824) (hg : s.gen < 2147483648) (hn2 : 2 ≤ d.img.length) (hlo : d.loose.length ≤ 100000000) :
    Calls Try.prog 138 #[ptr bv, ptr bl] w fun e w' => e = .returned (.int .i64 (movesD d (s.gen + 1) L).1) ∧ St B w0 w' ((As.set i (dev a (movesD d (s.gen + 1) L).2.1)).set j (asIf (movesD d (s.gen + 1) L).1 (vaultA v a (s.gen + 1) (movesD d (s.gen + 1) L).2.2 s.br L) (vaultA v a s.gen s.next s.br s.L))) := by
  have cv := (h.blk kv hkv).cell (j := 0) rfl
  have cl := (h.blk kl hkl).cell (j := 0) rfl
  have HC := hid (vmoves_any h i hi j v s.gen s.next s.br s.L hj hij lo len c L hlen hl1 hL hl2 hg hn2 hlo)
  clear h hi hj hkv hkl hL hlen hl2
  unfold ptr at cv HC ⊢
  go_enter Try.func138, Try.ntmps138
  go_wp2_with fail
  refine HC.out.mono ?_
  rintro e w' ⟨rfl, h'⟩
  have H' := hid h'
  clear h'
  go_wp2
  go_ret
  exact ⟨rfl, H'.out⟩
theorem enter_o2 (xs : Array Value) (w : World) : (callFunc 137 xs).run Try.prog w = .ok (.enter 137 xs) w := by kernel_rfl
theorem enter_o3 (xs : Array Value) (w : World) : (callFunc 138 xs).run Try.prog w = .ok (.enter 138 xs) w := by kernel_rfl
theorem vopen_all {B : Nat} {w0 w : World} {As : List Asset} {a : Nat} {d : Dev} (i : Nat) (hi : As[i]? = some (dev a d)) (v gen : Nat) (bl bp g : Nat) (lo : Option Addr) (len c : Nat) (L : List (List UInt8)) (hlen : len = L.length) (hl1 : len ≤ 1000) (hl2 : ∀ l ∈ L, l.length ≤ 1073741824) (hg : gen < 2147483648) (hn2 : 2 ≤ d.img.length) (hlo : d.loose.length ≤ 100000000)
    (h : St B w0 w (As ++ [lstA lo L, blkA bl 79 [.slice lo len c], vaultA v a gen 0 false [], blkA bp 103 [ptr v], blkA g 46 [.func (.func 137) #[] #[ptr bp, ptr bl], .func (.func 138) #[] #[ptr bp, ptr bl]]])) :
    Calls Try.prog 125 #[.slice (some ⟨g, 0, none⟩) 2 2] w fun e w' => e = .returned (.int .i64 (firstOf (fitsOf gen d.img.length L) (movesD d (gen + 1) L).1)) ∧ (fitsOf gen d.img.length L ≠ 0 → St B w0 w' As) ∧ (fitsOf gen d.img.length L = 0 → St B w0 w' (As.set i (dev a (movesD d (gen + 1) L).2.1) ++ [lstA lo L, blkA bl 79 [.slice lo len c], asIf (movesD d (gen + 1) L).1 (vaultA v a (gen + 1) (movesD d (gen + 1) L).2.2 false L) (vaultA v a gen 0 false []), blkA bp 103 [ptr v], blkA g 46 [.func (.func 137) #[] #[ptr bp, ptr bl], .func (.func 138) #[] #[ptr bp, ptr bl]]])) := by
  have hij : i ≠ As.length + 2 := ne_post hi 2
  have hL : LentI B w0 (As ++ [lstA lo L, blkA bl 79 [.slice lo len c], vaultA v a gen 0 false [], blkA bp 103 [ptr v], blkA g 46 [.func (.func 137) #[] #[ptr bp, ptr bl], .func (.func 138) #[] #[ptr bp, ptr bl]]]) i lo L := .inr ⟨As.length + 0, _, ne_post hi 0, get_post 0 rfl, fun _ _ h => h⟩
  have hjv : (As ++ [lstA lo L, blkA bl 79 [.slice lo len c], vaultA v a gen 0 false [], blkA bp 103 [ptr v], blkA g 46 [.func (.func 137) #[] #[ptr bp, ptr bl], .func (.func 138) #[] #[ptr bp, ptr bl]]])[As.length + 2]? = some (vsA v a ⟨gen, 0, false, []⟩) := get_post 2 rfl
  refine (vall_seq (S := Nat) (fun p w => if p = 0 then St B w0 w (As ++ [lstA lo L, blkA bl 79 [.slice lo len c], vaultA v a gen 0 false [], blkA bp 103 [ptr v], blkA g 46 [.func (.func 137) #[] #[ptr bp, ptr bl], .func (.func 138) #[] #[ptr bp, ptr bl]]]) else St B w0 w (((As ++ [lstA lo L, blkA bl 79 [.slice lo len c], vaultA v a gen 0 false [], blkA bp 103 [ptr v], blkA g 46 [.func (.func 137) #[] #[ptr bp, ptr bl], .func (.func 138) #[] #[ptr bp, ptr bl]]]).set i (dev a (movesD d (gen + 1) L).2.1)).set (As.length + 2) (asIf (movesD d (gen + 1) L).1 (vaultA v a (gen + 1) (movesD d (gen + 1) L).2.2 false L) (vaultA v a gen 0 false [])))) (fun k p => k < 2 → p = 0) (fun k _ => (if k = 0 then fitsOf gen d.img.length L else (movesD d (gen + 1) L).1, k)) g 2 (by omega) (fun k => if k = 0 then 137 else 138) (fun _ => #[]) (fun _ => #[ptr bp, ptr bl]) ?_ ?_ ?_ w 0 h (fun _ => rfl)).mono ?_
  · intro k p w' hk hs
    have hb : Blk w' g 46 [.func (.func 137) #[] #[ptr bp, ptr bl], .func (.func 138) #[] #[ptr bp, ptr bl]] := by
      split at hs
      · exact hs.blk (As.length + 4) (get_post 4 rfl)
      · refine hs.blk (As.length + 4) ?_
        rw [List.getElem?_set_ne (by omega), List.getElem?_set_ne (ne_post hi 4)]
        exact get_post 4 rfl
    rcases (by omega : k = 0 ∨ k = 1) with rfl | rfl
    · exact hb.cell (j := 0) rfl
    · exact hb.cell (j := 1) rfl
  · intro k p w' hk hp hs
    obtain rfl := hp hk
    have hs : St B w0 w' (As ++ [lstA lo L, blkA bl 79 [.slice lo len c], vaultA v a gen 0 false [], blkA bp 103 [ptr v], blkA g 46 [.func (.func 137) #[] #[ptr bp, ptr bl], .func (.func 138) #[] #[ptr bp, ptr bl]]]) := hs
    rcases (by omega : k = 0 ∨ k = 1) with rfl | rfl
    · obtain ⟨F, hF⟩ := hL.lrf hs
      refine (open2_any hs i (get_pre hi) (As.length + 2) v ⟨gen, 0, false, []⟩ hjv (As.length + 3) (As.length + 1) bp bl lo len c (get_post 3 rfl) (get_post 1 rfl) L hF.lr hlen hl1 (by simp only; omega) hl2 hn2).mono ?_
      rintro e w2 ⟨rfl, h2⟩
      exact ⟨rfl, h2, fun _ _ => rfl⟩
    · refine (open3_any hs i (get_pre hi) (As.length + 2) v ⟨gen, 0, false, []⟩ hjv hij (As.length + 3) (As.length + 1) bp bl lo len c (get_post 3 rfl) (get_post 1 rfl) L hlen hl1 hL hl2 hg hn2 hlo).mono ?_
      rintro e w2 ⟨rfl, h2⟩
      exact ⟨rfl, h2, fun _ h0 => absurd h0 (by omega)⟩
  · intro k hk xs w'
    rcases (by omega : k = 0 ∨ k = 1) with rfl | rfl
    · exact enter_o2 xs w'
    · exact enter_o3 xs w'
  · rintro e w' ⟨rfl, h'⟩
    have e1 : seqOf (fun k (_ : Nat) => (if k = 0 then fitsOf gen d.img.length L else (movesD d (gen + 1) L).1, k)) 0 2 0 = if fitsOf gen d.img.length L = 0 then ((movesD d (gen + 1) L).1, 1) else (fitsOf gen d.img.length L, 0) := by
      show (if fitsOf gen d.img.length L = 0 then (if (movesD d (gen + 1) L).1 = 0 then ((0 : Int), 1) else ((movesD d (gen + 1) L).1, 1)) else (fitsOf gen d.img.length L, 0)) = _
      by_cases h1 : (movesD d (gen + 1) L).1 = 0
      · rw [if_pos h1, h1]
      · rw [if_neg h1]
    rw [e1] at h' ⊢
    unfold firstOf
    by_cases h0 : fitsOf gen d.img.length L = 0
    · rw [if_pos h0] at h' ⊢
      rw [if_pos h0]
      rw [if_neg (by simp)] at h'
      rw [set_pre hi, set_postTurn] at h'
      exact ⟨rfl, fun h => absurd h0 h, fun _ => h'⟩
    · rw [if_neg h0] at h' ⊢
      rw [if_neg h0]
      exact ⟨rfl, fun _ => h'.drop_post, fun h => absurd h h0⟩
set_option maxRecDepth 100000 in
set_option maxHeartbeats 2000000 in
theorem vopen_any {B : Nat} {w0 w : World} {As : List Asset} {a : Nat} {d : Dev} (h : St B w0 w As) (i : Nat) (hi : As[i]? = some (dev a d)) (hn : d.img.length ≤ 1000) (hlo : d.loose.length ≤ 100000000) :
    Calls Try.prog 92 #[ptr a] w fun e w' => ∃ r, e = .returned (.tuple #[r, .int .i64 (openD d).1]) ∧ openedA B w0 w' (As.set i (dev a (openD d).2.1)) a (openD d).2.2 r := by
  have hok := h.ok i hi
  obtain ⟨F, hA, _⟩ := h.open i hi
  have HM := hid (vmay_any w hA)
  have H := hid h; have HI := hid hi; have HOK := hid hok
  clear h hi hA hok
  unfold ptr at HM ⊢
  by_cases h8 : d.img.length < 8
  · have HE : Hid (openD d = (3, d, none)) := hid (by unfold openD; rw [if_pos h8])
    have HE2 : Hid (mayOf d = 3) := hid (by unfold mayOf; rw [if_pos h8])
    go_enter Try.func92, Try.ntmps92
    go_wp2_with fail
    refine HM.out.mono ?_
    rintro e w' ⟨rfl, hw'⟩
    subst w'
    rw [HE2.out]
    go_wp2
    go_ret2
    rw [HE.out]
    exact ⟨_, rfl, rfl, by rw [set_same HI.out]; exact H.out⟩
  · have HE2 : Hid (mayOf d = 0) := hid (by unfold mayOf; rw [if_neg h8])
    obtain ⟨n, hnn⟩ : ∃ n, d.img.length = n := ⟨_, rfl⟩
    have HN := hid hnn
    rw [hnn] at h8 hn
    clear hnn
    go_enter Try.func92, Try.ntmps92
    go_wp2_with fail
    refine HM.out.mono ?_
    rintro e w' ⟨rfl, hw'⟩
    subst w'
    rw [HE2.out]
    go_wp2_with fail
    go_loopw [5, 22] (fun v5 x wr => ∃ (vo : Value) (k : Nat), vo = v5 ∧ k ≤ 2 ∧ x = .int .i64 k ∧ (d.out = true → k = 0) ∧ wr.ownsRow w.heap.size 155 1 vo (supGens d k).length ((supGens d k).map fun (g : Nat) => Value.int .i64 (g : Int)) ∧ Below w.heap.size w wr) (fun _ x _ => 2 - (intOf x).toNat)
    case atStart => exact ⟨_, 0, rfl, by omega, rfl, fun _ => rfl, World.ownsRow_nil _ _ _ _, Below.refl _ _⟩
    case round =>
      obtain ⟨vo, k, rfl, hk, rfl, hout, ho, hb⟩ := hrel
      have HO := hid ho; have HB := hid hb; have HOUT := hid hout
      clear ho hb hout
      by_cases hlt : k < 2
      · go_wp2_with fail
        refine (H.out.dev_readF HB.out i HI.out (k : Int)).mono ?_
        rintro e w3 ⟨vr, rfl, hf3, hb3⟩
        rcases hout : d.out with _ | _
        · rw [read_code hout (by rw [HN.out]; omega)]
          have hl64 := read_len HOK.out hout (i := k) (by rw [HN.out]; omega)
          obtain ⟨ao, cap, rfl, hcap, hsb, _, _⟩ := hf3
          obtain ⟨b, hbb⟩ : ∃ b, (d.read (k : Int)).1 = b := ⟨_, rfl⟩
          have hsg := supGens_succ d k
          rw [hbb] at hl64 hcap hsb hsg ⊢
          rw [HN.out] at hsg
          obtain ⟨g, o, rfl, hrg⟩ : ∃ g o, ao = some ⟨g, o, none⟩ ∧ w3.rangeAt g o (bv b) := by
            rcases hsb with ⟨_, _, h0⟩ | ⟨_, _, h0⟩ | ⟨g, o, h1, h2⟩
            · rw [h0] at hl64; simp at hl64
            · rw [h0] at hl64; simp at hl64
            · exact ⟨g, o, h1, h2⟩
          have HB3 := hid (HB.out.trans (hb3.mono HB.out.size))
          have HO3 := hid (owns_below HO.out hb3)
          have HRG := hid hrg; have HSG := hid hsg; have HL64 := hid hl64
          rw [hl64]
          rw [hl64] at hcap
          have HOU := hid hout
          clear hb3 hrg hsg hl64 hsb hbb hout
          go_wp2_with fail
          refine ((H.out.below HB3.out).dev_size i HI.out).mono ?_
          rintro e w' ⟨rfl, hw'⟩
          subst w'
          rw [HN.out]
          go_wp2_with fail
          refine (vread_any g o cap n b HL64.out hcap (by omega) w3 HRG.out).mono ?_
          rintro e w5 ⟨rfl, hb5⟩
          obtain ⟨gn, hgn⟩ : ∃ gn, genOf b = gn := ⟨_, rfl⟩
          rw [hgn] at HSG ⊢
          obtain ⟨w6, hw6⟩ : ∃ w6, w5.alloc (.cells #[.int .i64 (gn : Nat)] 155) = w6 := ⟨_, rfl⟩
          obtain ⟨bf, hbf⟩ : ∃ bf, w5.heap.size = bf := ⟨_, rfl⟩
          have h6 : Blk w6 bf 155 [.int .i64 (gn : Nat)] := by rw [← hw6, ← hbf]; exact alloc_new _ _
          have HB6 : Hid (Below w.heap.size w w6) := hid (by rw [← hw6]; exact (HB3.out.trans (hb5.mono HB3.out.size)).alloc (Nat.le_trans HB3.out.size hb5.size) _)
          have HO6 : Hid (w6.ownsRow w.heap.size 155 1 vo (supGens d k).length ((supGens d k).map fun (g : Nat) => Value.int .i64 (g : Int))) := hid (by rw [← hw6]; exact owns_below (owns_below HO3.out hb5) (fresh_alloc w5 _))
          have HW6 := hid hw6; have HBF := hid hbf
          have cf := h6.cell (j := 0) rfl
          clear hb5 hgn hw6 hbf h6
          go_upto_region 12 with fail
          rw [HBF.out, HW6.out]
          rcases his : isSup b n with _ | _
          · have HSG : Hid (supGens d (k + 1) = supGens d k) := hid (by rw [HSG.out, his]; simp)
            clear his
            go_wp2_with fail
            go_roundw
            case rel => exact ⟨vo, k + 1, rfl, by omega, by go_num, (fun h => absurd h (by rw [HOU.out]; simp)), by rw [HSG.out]; exact HO6.out, HB6.out⟩
            case measure => simp [intOf]; omega
          · have HSG : Hid (supGens d (k + 1) = supGens d k ++ [gn]) := hid (by rw [HSG.out, his]; simp)
            clear his
            go_wp2_with (refine wpl_appendR rowFd rfl (.tmp 42) (.tmp 44) rfl w.heap.size vo _ ((supGens d k).map fun (g : Nat) => Value.int .i64 (g : Int)) rfl (owns_below HO6.out (fresh_alloc w6 _)) w6.heap.size rfl [.int .i64 (gn : Nat)] (alloc_new w6 _) rfl (by intro u hu; simp at hu; subst hu; rfl) (by have := supGens_len d k; omega) (HB6.out.alloc HB6.out.size _).size ?_; intro v7 w7 ho7 hg7 hw7; have HO7 := hid ho7; have HB7 := hid ((HB6.out.alloc HB6.out.size (.cells #[.int .i64 (gn : Nat)] 155)).grown hg7 (HB6.out.alloc HB6.out.size _).size (owns_ge HO6.out)); clear ho7 hg7 hw7)
            go_roundw
            case rel => exact ⟨v7, k + 1, rfl, by omega, by go_num, (fun h => absurd h (by rw [HOU.out]; simp)), by rw [HSG.out]; simpa using HO7.out, HB7.out⟩
            case measure => simp [intOf]; omega
        · rw [read_out hout]
          have HE : Hid (openD d = (22, d, none)) := hid (by unfold openD; rw [if_neg (by rw [HN.out]; exact h8), hout, if_pos rfl])
          have HB3 := hid (HB.out.trans (hb3.mono HB.out.size))
          obtain ⟨ao, cap, rfl, _⟩ := hf3
          clear hb3 hout
          go_wp2
          go_ret2
          rw [HE.out]
          exact ⟨_, rfl, rfl, by rw [set_same HI.out]; exact H.out.below HB3.out⟩
      · obtain rfl : k = 2 := by omega
        rcases hout : d.out with _ | _
        case true => exact absurd (HOUT.out hout) (by omega)
        have hsl := supGens_len d 2
        have HOF : Hid (d.out = false) := hid hout
        clear hout HOUT
        by_cases hgs : supGens d 2 = []
        · have HE : Hid (openD d = (23, d, none)) := hid (by unfold openD; rw [if_neg (by rw [HN.out]; exact h8), HOF.out, if_neg (by simp), if_pos hgs])
          have ho := HO.out
          rw [hgs] at ho
          obtain ⟨ao, c, rfl⟩ := own_slice ho
          clear ho hgs
          simp only [List.length_nil]
          go_wp2
          go_ret2
          rw [HE.out]
          exact ⟨_, rfl, rfl, by rw [set_same HI.out]; exact H.out.below HB.out⟩
        have HE : Hid (openD d = openedD d (maxOf (supGens d 2))) := hid (by unfold openD; rw [if_neg (by rw [HN.out]; exact h8), HOF.out, if_neg (by simp), if_neg hgs])
        obtain ⟨hg1, hg2⟩ := supGens_le d 2 _ (maxOf_mem _ hgs)
        obtain ⟨m, hm⟩ : ∃ m, (supGens d 2).length = m := ⟨_, rfl⟩
        have hm0 : 1 ≤ m := by rw [← hm]; exact Nat.pos_of_ne_zero (fun h => hgs (List.eq_nil_of_length_eq_zero h))
        have HMM := hid hm
        have ho := HO.out
        rw [hm] at ho hsl
        obtain ⟨g, c, rfl, hcell⟩ : ∃ g c, vo = .slice (some ⟨g, 0, none⟩) m c ∧ ∀ (k x : Nat), (supGens d 2)[k]? = some x → wr.cell? ⟨g, 0 + k, none⟩ = some (.int .i64 (x : Nat)) := by
          rcases ho.2 with ⟨_, h0⟩ | ⟨g, c, cur, hv, hg, hh, hc, hm', hs, ht⟩
          · omega
          · refine ⟨g, c, hv, fun k x hx => ?_⟩
            have hkl := (List.getElem?_eq_some_iff.1 hx).1
            have e1 := congrArg (fun l => l[k]?) ht
            simp only [List.getElem?_map, hx, Option.map_some, List.getElem?_take] at e1
            rw [if_pos (by omega)] at e1
            rw [Nat.zero_add, cell_of_row wr g k cur _ _ hh]
            simpa using e1
        have qm : ((m : Int) == 0) = false := by rw [beq_eq_false_iff_ne]; omega
        have HCELL := hid hcell
        obtain ⟨gm, hgm⟩ : ∃ gm, maxOf (supGens d 2) = gm := ⟨_, rfl⟩
        rw [hgm] at hg1 hg2 HE
        have HGM := hid hgm
        clear ho hm hgs hcell hgm
        go_wp2_with fail
        refine (maxfunc_any g 0 m c (supGens d 2) HMM.out.symm hm0 (by omega) wr HCELL.out).mono ?_
        rintro e w5 ⟨rfl, hb5⟩
        rw [HGM.out]
        obtain ⟨w6, hw6⟩ : ∃ w6, w5.alloc (.cells #[.int .i64 (gm : Nat)] 155) = w6 := ⟨_, rfl⟩
        obtain ⟨bb, hbb⟩ : ∃ bb, w5.heap.size = bb := ⟨_, rfl⟩
        have h6 : Blk w6 bb 155 [.int .i64 (gm : Nat)] := by rw [← hw6, ← hbb]; exact alloc_new _ _
        have HB6 : Hid (Below w.heap.size w w6) := hid (by rw [← hw6]; exact (HB.out.trans (hb5.mono HB.out.size)).alloc (Nat.le_trans HB.out.size hb5.size) _)
        have HW6 := hid hw6; have HBBH := hid hbb; have H6 := hid h6
        have cf := h6.cell (j := 0) rfl
        obtain ⟨fr, hfr⟩ : ∃ fr, fromOf n gm = fr := ⟨_, rfl⟩
        obtain ⟨tw, hto⟩ : ∃ tw, fr + halfOf n = tw := ⟨_, rfl⟩
        have HFR := hid hfr; have HTO := hid hto
        obtain ⟨sL, hsL⟩ : ∃ sL, scanG d gm = sL := ⟨_, rfl⟩
        have HSL := hid hsL
        have HSC : Hid (logScan d (fr : Nat) (tw : Nat) (gm : Nat) = sL) := hid (by rw [← hsL, scanG, HN.out, hfr, hto])
        clear hb5 hw6 hbb h6 hfr hto hsL
        go_upto_region 18 with fail
        rw [HBBH.out, HW6.out]
        go_wp2_with fail
        refine (H.out.v_area HB6.out i HI.out gm (by omega) (by rw [HN.out]; omega)).mono ?_
        rintro e w7 ⟨rfl, hb7⟩
        rw [HN.out, HFR.out, HTO.out]
        have HB7 : Hid (Below w.heap.size w w7) := hid (HB6.out.trans (hb7.mono HB6.out.size))
        have H67 : Hid (Blk w7 bb 155 [.int .i64 (gm : Nat)]) := hid (H6.out.below hb7 H6.out.lt)
        clear hb7
        go_wp2_with fail
        refine ((H.out.below HB7.out).log_scan i HI.out (fr : Nat) (tw : Nat) (gm : Nat)).mono ?_
        rintro e w8 ⟨vL, rfl, hf8, hb8⟩
        rw [HSC.out] at hf8 ⊢
        obtain ⟨L, nxt, ec⟩ := sL
        dsimp only at hf8 ⊢
        obtain ⟨lo, lc, rfl, hlrf⟩ := listA_lst hf8.listA
        obtain ⟨len, hlen⟩ : ∃ len, L.length = len := ⟨_, rfl⟩
        rw [hlen]
        have hlm := scanG_many d gm
        rw [HSL.out, HN.out] at hlm
        have hl1 : len ≤ 1000 := by
          simp only at hlm
          rw [hlen] at hlm; unfold halfOf at hlm; omega
        have HLS : Hid (∀ l ∈ L, l.length ≤ 1073741824) := hid (fun l hl => by
          have := logScan_short HOK.out (fr : Nat) (tw : Nat) (gm : Nat) l (by rw [HSC.out]; exact hl)
          omega)
        have h8' : St B w0 w8 (As ++ [lstA lo L]) := (H.out.below HB7.out).add hb8 (good_lstA _ _) hlrf (fun k hk => hk)
        have HB8 : Hid (Below w.heap.size w w8) := hid (HB7.out.trans (hb8.mono HB7.out.size))
        have H68 : Hid (Blk w8 bb 155 [.int .i64 (gm : Nat)]) := hid (H67.out.below hb8 H67.out.lt)
        obtain ⟨w9, hw9⟩ : ∃ w9, w8.alloc (.cells #[.slice lo len lc] 79) = w9 := ⟨_, rfl⟩
        obtain ⟨bl, hbl⟩ : ∃ bl, w8.heap.size = bl := ⟨_, rfl⟩
        have h9 : St B w0 w9 (As ++ [lstA lo L, blkA bl 79 [.slice lo len lc]]) := by rw [← hw9, ← hbl]; exact h8'.addBlk' (fresh_alloc w8 _) (alloc_new w8 _) (Nat.le_refl _)
        have h69 : Blk w9 bb 155 [.int .i64 (gm : Nat)] := by rw [← hw9]; exact H68.out.alloc _
        have H9 := hid h9; have HW9 := hid hw9; have HBL := hid hbl; have HLEN := hid hlen; have H69 := hid h69
        have cf9 := h69.cell (j := 0) rfl
        clear hf8 hb8 hlrf hlen hlm h8' hw9 hbl h9 h69 cf
        go_upto_region 19 with fail
        rw [HBL.out, HW9.out]
        by_cases hec : ec = 0
        · subst hec
          obtain ⟨v, hv⟩ : ∃ v, w9.heap.size = v := ⟨_, rfl⟩
          obtain ⟨wa, hwa⟩ : ∃ wa, w9.alloc (.cells #[ptr a, .int .i64 (gm : Nat), .int .i64 0, .slice none 0 0, .bool false] 105) = wa := ⟨_, rfl⟩
          have ha : St B w0 wa (As ++ [lstA lo L, blkA bl 79 [.slice lo len lc], vaultA v a gm 0 false []]) := by
            rw [← hwa, ← hv]
            have := H9.out.add (fresh_alloc w9 (.cells #[ptr a, .int .i64 (gm : Nat), .int .i64 0, .slice none 0 0, .bool false] 105)) (good_vaultA w9.heap.size a gm 0 false []) (F := fun k => k = w9.heap.size) ⟨.slice none 0 0, fun _ => False, alloc_new w9 _, rfl, ⟨[], fun _ => False, World.ownsRow_nil _ _ _ _, RowSW.nil _ _, fun _ h => h, fun k h => by simp [Value.ownBlock] at h⟩, id, fun _ h => h.elim⟩ (fun k hk => by rw [hk, World.size_alloc]; omega)
            rw [List.append_assoc] at this
            exact this
          obtain ⟨bp, hbp⟩ : ∃ bp, wa.heap.size = bp := ⟨_, rfl⟩
          obtain ⟨wb, hwb⟩ : ∃ wb, wa.alloc (.cells #[ptr v] 103) = wb := ⟨_, rfl⟩
          have hb : St B w0 wb (As ++ [lstA lo L, blkA bl 79 [.slice lo len lc], vaultA v a gm 0 false [], blkA bp 103 [ptr v]]) := by
            rw [← hwb, ← hbp]; exact ha.addBlk' (fresh_alloc wa _) (alloc_new wa _) (Nat.le_refl _)
          have HWA := hid hwa; have HWB := hid hwb; have HV := hid hv; have HAB := hid hb
          have HBP : Hid (v + 1 = bp) := hid (by rw [← hbp, ← hwa, World.size_alloc, hv])
          have cp := (hb.blk (As.length + 3) (get_post 3 rfl)).cell (j := 0) rfl
          clear hv hwa ha hbp hwb hb
          unfold ptr at HWA HWB cp
          go_upto_region 22 with fail
          rw [HV.out, HWA.out, HBP.out, HWB.out]
          go_wp2_with (refine wpl_layV rowF rfl 2 _ rfl [.func (.func 137) #[] #[ptr bp, ptr bl], .func (.func 138) #[] #[ptr bp, ptr bl]] rfl (by omega) (by omega) (by simp [Value.cells]) (by simp [Act.eval, ptr]) ?_; intro wc hbc hc; have HC := hid (HAB.out.addBlk' hbc hc (Nat.le_refl _)); clear hbc hc)
          obtain ⟨gc, hgc⟩ : ∃ gc, wb.heap.size = gc := ⟨_, rfl⟩
          rw [hgc]
          rw [hgc] at HC
          clear hgc
          refine (vopen_all i HI.out v gm bl bp gc lo len lc L HLEN.out.symm hl1 HLS.out (by omega) (by rw [HN.out]; omega) hlo HC.out).mono ?_
          rintro e wd ⟨rfl, hd1, hd2⟩
          by_cases hft : fitsOf gm d.img.length L = 0
          · have hd2 := hd2 hft
            have hfo : firstOf (fitsOf gm d.img.length L) (movesD d (gm + 1) L).1 = (movesD d (gm + 1) L).1 := by unfold firstOf; rw [if_pos hft]
            rw [hfo]
            generalize hx : movesD d (gm + 1) L = x at hd2 ⊢
            obtain ⟨em, dx, px⟩ := x
            dsimp only at hd2 ⊢
            have HD := hid hd2
            by_cases hem : em = 0
            · have HE2 : Hid (openedD d gm = (0, dx, some ⟨gm + 1, px, false, L⟩)) := hid (by unfold openedD; rw [HSL.out, if_neg (by simp)]; dsimp only; rw [if_neg (by rw [hft]; simp), hx, if_pos hem])
              subst hem
              have cp2 := (hd2.blk (As.length + 3) (set_post 3 rfl)).cell (j := 0) rfl
              unfold ptr at cp2
              clear hd1 hd2 hft hfo hx
              go_wp2
              go_ret2
              rw [HE.out, HE2.out]
              refine ⟨_, rfl, v, rfl, ?_⟩
              exact HD.out.pick 2 rfl
            · have HE2 : Hid (openedD d gm = (em, dx, none)) := hid (by unfold openedD; rw [HSL.out, if_neg (by simp)]; dsimp only; rw [if_neg (by rw [hft]; simp), hx, if_neg hem])
              have hne : (em != 0) = true := by simpa using hem
              clear hd1 hd2 hft hfo hx hem
              go_wp2
              go_ret2
              rw [HE.out, HE2.out]
              exact ⟨_, rfl, rfl, HD.out.drop_post⟩
          · have hd1 := hd1 hft
            have hfo : firstOf (fitsOf gm d.img.length L) (movesD d (gm + 1) L).1 = fitsOf gm d.img.length L := by unfold firstOf; rw [if_neg hft]
            rw [hfo]
            have HE2 : Hid (openedD d gm = (fitsOf gm d.img.length L, d, none)) := hid (by unfold openedD; rw [HSL.out, if_neg (by simp)]; dsimp only; rw [if_pos hft])
            generalize fitsOf gm d.img.length L = ef at hft HE2 ⊢
            have hne : (ef != 0) = true := by simpa using hft
            have HD := hid hd1
            clear hd1 hd2 hft hfo
            go_wp2
            go_ret2
            rw [HE.out, HE2.out]
            exact ⟨_, rfl, rfl, by rw [set_same HI.out]; exact HD.out⟩
        · have hne : (ec != 0) = true := by simpa using hec
          have HE2 : Hid (openedD d gm = (ec, d, none)) := hid (by unfold openedD; rw [HSL.out, if_pos hec])
          clear hec
          go_wp2
          go_ret2
          rw [HE.out, HE2.out]
          exact ⟨_, rfl, rfl, by rw [set_same HI.out]; exact H9.out.drop_post⟩
end Go.Proofs.Ytlondopgibcikaa
