/- Layer 6's helper room. -/
import Derived.Test.YtlondopgibcikaaRows
import Derived.Test.YtlondopgibcikaaHeap
import Derived.Test.YtlondopgibcikaaKit
import Derived.Test.YtlondopgibcikaaCrcV
import Derived.Test.YtlondopgibcikaaDev
import Derived.Test.YtlondopgibcikaaDevW
import Derived.Test.YtlondopgibcikaaDevV
import Derived.Test.YtlondopgibcikaaDevU
import Derived.Test.YtlondopgibcikaaDevT
import Derived.Test.YtlondopgibcikaaDevC
import Derived.Test.YtlondopgibcikaaLaw05
import Derived.Test.YtlondopgibcikaaLL
import Derived.Test.YtlondopgibcikaaSt
import Derived.Test.YtlondopgibcikaaSt2
import Derived.Test.YtlondopgibcikaaLogP
import Derived.Test.YtlondopgibcikaaLogW
import Derived.Test.YtlondopgibcikaaLogX
import Derived.Test.YtlondopgibcikaaLogY
import Derived.Test.YtlondopgibcikaaLogZ
import Derived.Test.YtlondopgibcikaaLogB
import Derived.Test.YtlondopgibcikaaLogS
import Derived.Test.YtlondopgibcikaaLogS2
import Derived.Test.YtlondopgibcikaaLogT
import Derived.Test.YtlondopgibcikaaLogT2
import Derived.Test.YtlondopgibcikaaLaw06
import Derived.Test.YtlondopgibcikaaLaw06b
import Derived.Test.YtlondopgibcikaaLogQ
import Derived.Test.YtlondopgibcikaaLogR
import Derived.WalkKit
import Derived.WalkSpells
import Derived.WalkLawsBesides
import Derived.Deep.RegionHeld3
import Derived.Deep.QuietTactic
import Derived.BigQuiet
namespace Go.Proofs.Ytlondopgibcikaa
open Go.RowKit Ent
/-- two results, one of them a struct in a cell -/
theorem results_tmp_cellrow {P : Program} {fn : Func} {u p : Tmp} {ty : TypeId} (h : fn.results = #[.tmp u, .cell p ty]) (tmps : Array Value) (w : World) (g : Nat) (t : TypeId) (cs : Array Value) (fr : Nat × Nat) (d : TypeDesc)
    (hp : tmps.getD p undef = .pointer (some ⟨g, 0, none⟩)) (hg : w.heap[g]? = some (.cells cs t fr))
    (hu : P.underlying ty = some d) (hd : (match d with | .struct _ | .array _ _ => true | _ => false) = true) (hi : (P.info? ty).map (·.size) = some cs.size) :
    (results fn tmps).run P w = .ok (.tuple #[tmps.getD u undef, .agg cs]) w := by
  have hp' : tmps[p]?.getD undef = .pointer (some ⟨g, 0, none⟩) := by simpa using hp
  have hl := run_loadVar_row w g t ty cs fr d hg hu hd hi
  simp [results, h, hp', asAddr, hl]
set_option maxRecDepth 100000 in
set_option maxHeartbeats 400000 in
theorem room_any {B : Nat} {w0 : World} {As : List Asset} (at_ sectors gen : Nat) (h1 : at_ + sectors + 1 ≤ 65536) (h2 : 1 ≤ gen) (h3 : gen ≤ 2147483647) (w : World) (h : St B w0 w As) :
    Calls Try.prog 73 #[.int .i64 at_, .int .i64 sectors, .int .i64 gen] w fun e w' => ∃ a, e = .returned (.tuple #[ptr a, .agg #[.int .i64 at_, .int .i64 (at_ + sectors : Nat), .int .i64 gen]]) ∧ St B w0 w' (As ++ [noA, noA, dev a (Dev.new (at_ + sectors + 1))]) := by
  obtain ⟨T, hT⟩ : ∃ T : Nat, at_ + sectors = T := ⟨_, rfl⟩
  have HT : Hid ((at_ : Int) + (sectors : Int) = (T : Int)) := hid (by omega)
  obtain ⟨w1, hw1⟩ : ∃ w1, w.alloc (.cells #[.int .i64 0, .int .i64 0, .int .i64 0] 76) = w1 := ⟨_, rfl⟩
  obtain ⟨w2, hw2⟩ : ∃ w2, w1.alloc (.cells #[.int .i64 at_, .int .i64 T, .int .i64 gen] 76) = w2 := ⟨_, rfl⟩
  have HZ : Hid (w1.heap.size = w.heap.size + 1) := hid (by rw [← hw1]; simp)
  have H2 : Hid (St B w0 w2 (As ++ [blkA w.heap.size 76 [.int .i64 0, .int .i64 0, .int .i64 0], blkA (w.heap.size + 1) 76 [.int .i64 at_, .int .i64 T, .int .i64 gen]])) := hid (by
    have a1 := h.box 76 [.int .i64 0, .int .i64 0, .int .i64 0]
    rw [show w.alloc (.cells [Value.int .i64 0, .int .i64 0, .int .i64 0].toArray 76) = w1 from hw1] at a1
    have a2 := a1.box 76 [.int .i64 at_, .int .i64 T, .int .i64 gen]
    rw [show w1.alloc (.cells [Value.int .i64 at_, .int .i64 T, .int .i64 gen].toArray 76) = w2 from hw2, HZ.out] at a2
    simpa using a2)
  have HW1 := hid hw1; have HW2 := hid hw2
  rw [hT]
  have hTb : T + 1 ≤ 65536 := by omega
  have hTa : at_ ≤ T := by omega
  clear hw1 hw2 h hT
  go_enter Try.func73, Try.ntmps73
  go_wp2_with fail
  rw [HT.out, HW1.out, HW2.out]
  refine (H2.out.dev_new (T + 1) (by omega) (by omega)).mono ?_
  rintro e w3 ⟨a, rfl, h3⟩
  have H3 : Hid (St B w0 w3 (As ++ [blkA w.heap.size 76 [.int .i64 0, .int .i64 0, .int .i64 0], blkA (w.heap.size + 1) 76 [.int .i64 at_, .int .i64 T, .int .i64 gen], dev a (Dev.new (T + 1))])) := hid (by simpa using h3)
  clear h3
  have G : ∀ (X Y Z : Asset) (k : Nat), (As ++ [X, Y, Z])[As.length + k]? = [X, Y, Z][k]? := fun X Y Z k => by rw [List.getElem?_append_right (by omega), Nat.add_sub_cancel_left]
  have SG : ∀ (X Y Z V : Asset) (k : Nat), (As ++ [X, Y, Z]).set (As.length + k) V = As ++ [X, Y, Z].set k V := fun X Y Z V k => by rw [List.set_append_right _ _ (by omega), Nat.add_sub_cancel_left]
  have HG := hid G; have HSG := hid SG
  clear G SG
  have HA3 := hid (H3.out.blk (As.length + 1) (HG.out _ _ _ 1))
  have x0 := HA3.out.cell (j := 0) rfl
  have x1 := HA3.out.cell (j := 1) rfl
  have x2 := HA3.out.cell (j := 2) rfl
  unfold ptr
  go_wp2_with fail
  refine (H3.out.log_blank (As.length + 2) (HG.out _ _ _ 2) (at_ : Int) (T : Int) (gen : Int) (by simp [Dev.new])).mono ?_
  rintro e w4 ⟨rfl, h4⟩
  rw [blank_new (by omega) (by omega) (by omega) (by omega) h2 h3] at h4 ⊢
  have H4 : Hid (St B w0 w4 (As ++ [blkA w.heap.size 76 [.int .i64 0, .int .i64 0, .int .i64 0], blkA (w.heap.size + 1) 76 [.int .i64 at_, .int .i64 T, .int .i64 gen], dev a (Dev.new (T + 1))])) := hid (by rw [HSG.out] at h4; exact h4)
  have HA4 := hid (H4.out.blk (As.length + 1) (HG.out _ _ _ 1))
  have HA0 := hid (H4.out.blk (As.length + 0) (HG.out _ _ _ 0))
  clear h4 x0 x1 x2
  have x0 := HA4.out.cell (j := 0) rfl
  have x1 := HA4.out.cell (j := 1) rfl
  have x2 := HA4.out.cell (j := 2) rfl
  go_wp2_with fail
  refine wp_region_held_drew (S := fun w' => w'.cell? ⟨w.heap.size + 1, 0, none⟩ = some (.int .i64 at_) ∧ w'.cell? ⟨w.heap.size + 1, 1, none⟩ = some (.int .i64 T) ∧ w'.cell? ⟨w.heap.size + 1, 2, none⟩ = some (.int .i64 gen)) (by kernel_rfl) ⟨x0, x1, x2⟩ (fun hS => ?_)
  refine wpAnyH_take (i := 0) (v := ?v0x1q) (by simp only [List.getElem?_toArray, List.getElem?_cons_zero]; exact rfl) (by kernel_rfl) (by kernel_rfl) (by kernel_rfl) (by exact fun _ _ _ h => h) (Or.inl ⟨by rfl, ?y0x1q⟩) hS ?r0x1q
  case y0x1q => (intro w' hSw; (try dsimp only at hSw); go_simp; (try with_reducible rfl))
  simp only [Act.put, List.setIfInBounds_toArray, List.set_cons_zero, List.set_cons_succ]
  refine wpAnyH_take (i := 1) (v := ?v1x2q) (by simp only [List.getElem?_toArray, List.getElem?_cons_zero, List.getElem?_cons_succ]; exact rfl) (by kernel_rfl) (by kernel_rfl) (by kernel_rfl) (by exact fun _ _ _ h => h) (Or.inl ⟨by rfl, ?y1x2q⟩) hS ?r1x2q
  case y1x2q => (intro w' hSw; (try dsimp only at hSw); go_simp; (try with_reducible rfl))
  simp only [Act.put, List.setIfInBounds_toArray, List.set_cons_zero, List.set_cons_succ]
  refine wpAnyH_take (i := 2) (v := ?v2x3q) (by simp only [List.getElem?_toArray, List.getElem?_cons_zero, List.getElem?_cons_succ]; exact rfl) (by kernel_rfl) (by kernel_rfl) (by kernel_rfl) (by exact fun _ _ _ h => h) (Or.inl ⟨by rfl, ?y2x3q⟩) hS ?r2x3q
  case y2x3q => (intro w' hSw; (try dsimp only at hSw); go_simp; (try with_reducible rfl))
  simp only [Act.put, List.setIfInBounds_toArray, List.set_cons_zero, List.set_cons_succ]
  refine wpAnyH_ready (rs := [3]) (by kernel_rfl) (by simp) ?_
  refine AllReadyH.cons (by simp only [List.getElem?_toArray, List.getElem?_cons_zero, List.getElem?_cons_succ]; exact rfl) (fun K hK => ?_) AllReadyH.nil
  refine wp_store_mid 76 (.tmp 7) (.tmp 39) rfl w.heap.size 0 #[.int .i64 at_, .int .i64 T, .int .i64 gen] rfl rfl (HA0.out.drew.there (o := 0) (n := 3) (by decide)) (by kernel_rfl) (by simp [Value.oneCell']) ?_
  refine hK.out _ _ ?k3x4q (fun hS => ?s3x4q)
  case k3x4q => exact ⟨by rw [World.cell?_setCells_out _ _ _ _ _ (fun h => by simp at h)]; exact hS.1, by rw [World.cell?_setCells_out _ _ _ _ _ (fun h => by simp at h)]; exact hS.2.1, by rw [World.cell?_setCells_out _ _ _ _ _ (fun h => by simp at h)]; exact hS.2.2⟩
  clear hK K
  try simp only [Act.put]
  refine wpAnyH_done (by kernel_rfl) ?_ _
  go_wp2
  clear hS
  have hk : Keep (fun k => k = w.heap.size) w4 (w4.drew.setCells w.heap.size 0 [.int .i64 at_, .int .i64 T, .int .i64 gen]) := Keep.setCells (F := fun k => k = w.heap.size) rfl _ _ ((Keep.refl _ w4).drew)
  have hB : Blk (w4.drew.setCells w.heap.size 0 [.int .i64 at_, .int .i64 T, .int .i64 gen]) w.heap.size 76 [.int .i64 at_, .int .i64 T, .int .i64 gen] := ((HA0.out.drew.set 0 (.int .i64 at_)).set 1 (.int .i64 T)).set 2 (.int .i64 gen)
  refine bodyPost_ret (results_tmp_cellrow rfl _ _ w.heap.size 76 #[.int .i64 at_, .int .i64 T, .int .i64 gen] (0, 0) _ rfl hB Try.underlying76 rfl (by kernel_rfl)) rfl ⟨a, rfl, ?_⟩
  have s1 := H4.out.blkLost (As.length + 0) (HG.out _ _ _ 0) hk
  rw [HSG.out] at s1
  simp only [List.set_cons_zero] at s1
  have s2 := s1.blkLost (w' := w4.drew.setCells w.heap.size 0 [.int .i64 at_, .int .i64 T, .int .i64 gen]) (As.length + 1) (HG.out _ _ _ 1) (Keep.refl _ _)
  rw [HSG.out] at s2
  simp only [List.set_cons_zero, List.set_cons_succ] at s2
  exact s2
end Go.Proofs.Ytlondopgibcikaa
