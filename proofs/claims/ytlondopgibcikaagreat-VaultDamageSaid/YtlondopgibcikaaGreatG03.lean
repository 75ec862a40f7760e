/- The walks of what a device tells. -/
import Derived.Test.YtlondopgibcikaaGreatRows
import Derived.Test.YtlondopgibcikaaGreatG01
import Derived.Test.YtlondopgibcikaaGreatG02
import Derived.WalkKit
import Derived.WalkSpells
import Derived.WalkLawsBesides
import Derived.Deep.RegionHeld3
import Derived.Lib.SliceRun
namespace Go.Proofs.YtlondopgibcikaaGreat
open Go.RowKit Ent
theorem PD.lv {w : World} {a gi gn : Nat} {vl lets : Value} {left : Int} {F : Nat → Prop} {d : Dev} (h : PD w a gi gn vl lets left F d) : ∃ ao c, vl = .slice ao d.loose.length c := by
  rcases h.lo.2 with ⟨rfl, h0⟩ | ⟨g, c, cur, rfl, r⟩
  · exact ⟨none, 0, by rw [h0]⟩
  · exact ⟨_, _, rfl⟩
set_option maxRecDepth 100000 in
set_option maxHeartbeats 400000 in
theorem size_any {a gi gn : Nat} {vl lets : Value} {left : Int} {F : Nat → Prop} {d : Dev} (w : World) (h : PD w a gi gn vl lets left F d) :
    Calls Tryz.prog 58 #[ptr a] w fun e w' => e = .returned (.int .i64 d.img.length) ∧ w' = w := by
  have c0 := h.hd.cell (j := 0) rfl
  have H := hid h
  clear h
  unfold ptr
  go_enter Tryz.func58, Tryz.ntmps58
  go_wp2_with fail
  refine (none_any w H.out).mono ?_
  rintro e w' ⟨rfl, rfl⟩
  go_wp2
  go_ret
  exact ⟨rfl, rfl⟩
set_option maxRecDepth 100000 in
set_option maxHeartbeats 400000 in
theorem out_any {a gi gn : Nat} {vl lets : Value} {left : Int} {F : Nat → Prop} {d : Dev} (w : World) (h : PD w a gi gn vl lets left F d) :
    Calls Tryz.prog 47 #[ptr a] w fun e w' => e = .returned (.bool d.out) ∧ w' = w := by
  have c5 := h.hd.cell (j := 5) rfl
  have H := hid h
  clear h
  unfold ptr
  go_enter Tryz.func47, Tryz.ntmps47
  go_wp2_with fail
  refine (none_any w H.out).mono ?_
  rintro e w' ⟨rfl, rfl⟩
  go_wp2
  go_ret
  exact ⟨rfl, rfl⟩
set_option maxRecDepth 100000 in
set_option maxHeartbeats 400000 in
theorem loose_any {a gi gn : Nat} {vl lets : Value} {left : Int} {F : Nat → Prop} {d : Dev} (w : World) (h : PD w a gi gn vl lets left F d) :
    Calls Tryz.prog 45 #[ptr a] w fun e w' => e = .returned (.int .i64 d.loose.length) ∧ w' = w := by
  obtain ⟨ao, c, rfl⟩ := h.lv
  have c2 := h.hd.cell (j := 2) rfl
  have H := hid h
  clear h
  unfold ptr
  go_enter Tryz.func45, Tryz.ntmps45
  go_wp2_with fail
  refine (none_any w H.out).mono ?_
  rintro e w' ⟨rfl, rfl⟩
  go_wp2
  go_ret
  exact ⟨rfl, rfl⟩
/-- bytes that are new since a world of so many blocks -/
def Fresh (B : Nat) (w : World) (v : Value) (l : List UInt8) : Prop := ∃ ao cap, v = .slice ao l.length cap ∧ l.length ≤ cap ∧ SB w ao cap l ∧ WB w ao l.length ∧ ∀ x, ao = some x → B ≤ x.block ∧ x.block < w.heap.size
theorem Fresh.ofOwns {w : World} {base n : Nat} {v : Value} {l : List UInt8} (h : w.ownsRow base 5 1 v n (bv l)) : Fresh base w v l := by
  obtain ⟨ao, cap, rfl, rfl, h1, h2, h3, h4⟩ := own_all h
  exact ⟨ao, cap, rfl, h1, h2, h3, h4⟩
theorem Fresh.nil (B : Nat) (w : World) : Fresh B w (.slice none 0 0) [] := ⟨none, 0, rfl, Nat.le_refl _, SB.nil w, .inl rfl, fun x hx => by cases hx⟩
theorem Fresh.blk {w : World} {g T : Nat} {l : List UInt8} (h : Blk w g T (bv l)) {B : Nat} (hB : B ≤ g) : Fresh B w (.slice (some ⟨g, 0, none⟩) l.length l.length) l :=
  ⟨_, _, rfl, Nat.le_refl _, .inr (.inr ⟨g, 0, rfl, fun j v hv => by rw [Nat.zero_add]; exact h.cell hv⟩), .inr ⟨g, 0, rfl, fun j hj => by
    rw [Nat.zero_add]
    exact ⟨⟨l[j], h.cell (by rw [bv_get, List.getElem?_eq_getElem hj]; rfl)⟩, h.free j⟩⟩, fun x hx => by cases hx; exact ⟨hB, h.lt⟩⟩
theorem store_new (w : World) (old : Array Value) (T : TypeId) (cs : List Value) : ∃ w1, (w.alloc (.cells old T)).setRow w.heap.size cs.toArray = w1 ∧ Blk w1 w.heap.size T cs ∧ Below w.heap.size w w1 := by
  refine ⟨_, rfl, setRow_heap _ _ _ _ _ _ (alloc_new w _), ?_⟩
  exact (fresh_alloc w _).trans ⟨rfl, rfl, rfl, by simp, fun k hk => setRow_other _ _ k _ (by omega)⟩
theorem bv_cells (l : List UInt8) : (bv l).toArray.all (·.oneCell') = true := all_oneCell_toArray (bv_one l)
theorem sec_info : (Tryz.prog.info? 82).map (·.size) = some 64 := by kernel_rfl
theorem has_nat {n : Nat} {i : Int} (h : has n i = true) : ∃ k : Nat, i = (k : Int) ∧ k < n := by
  unfold has at h
  simp at h
  exact ⟨i.toNat, by omega, by omega⟩
set_option maxRecDepth 100000 in
set_option maxHeartbeats 400000 in
theorem image_any {a gi gn : Nat} {vl lets : Value} {left : Int} {F : Nat → Prop} {d : Dev} (i : Int) (w : World) (h : PD w a gi gn vl lets left F d) :
    Calls Tryz.prog 12 #[ptr a, .int .i64 i] w fun e w' => ∃ v, e = .returned (.tuple #[v, .int .i64 (d.image i).2]) ∧ Fresh w.heap.size w' v (d.image i).1 ∧ Below w.heap.size w w' := by
  have c0 := h.hd.cell (j := 0) rfl
  have H := hid h
  cases hh : has d.img.length i
  · have hs : d.image i = ([], 3) := by unfold Dev.image secOf; rw [hh]; rfl
    rw [hs]
    have HH := hid hh
    clear h hh hs
    unfold ptr
    go_enter Tryz.func12, Tryz.ntmps12
    go_wp2_with fail
    refine (none_any w H.out).mono ?_
    rintro e w' ⟨rfl, rfl⟩
    go_wp2_with fail
    refine (has_any i w' H.out).mono ?_
    rintro e w' ⟨rfl, rfl⟩
    rw [HH.out]
    go_wp2
    go_ret2
    exact ⟨_, rfl, Fresh.nil _ _, Below.refl _ _⟩
  · obtain ⟨k, rfl, hk⟩ := has_nat hh
    obtain ⟨s, hs⟩ : ∃ s, d.img[k]? = some s := ⟨_, List.getElem?_eq_getElem hk⟩
    have hi : d.image k = (s, 0) := by unfold Dev.image secOf; rw [hh]; simp [hs]
    rw [hi]
    have HH := hid hh
    have hr := hid (h.im.sec h.ok.s64 hs)
    have h64 := hid (h.ok.s64.get hs)
    have hlen := h.ok.len
    clear h hh hi hs
    unfold ptr
    go_enter Tryz.func12, Tryz.ntmps12
    go_wp2_with fail
    refine (none_any w H.out).mono ?_
    rintro e w' ⟨rfl, rfl⟩
    go_wp2_with fail
    refine (has_any k w' H.out).mono ?_
    rintro e w' ⟨rfl, rfl⟩
    rw [HH.out]
    go_wp2_with (first
      | (refine wpList_load_mid rfl 82 (.tmp 20) rfl gi (k * 64) rfl (bv s) _ hr.out Tryz.underlying82 rfl (by rw [bv_length, h64.out]; exact sec_info) ?_)
      | (refine wpList_store_row rfl 82 (.tmp 6) (.tmp 21) rfl _ _ rfl rfl _ _ (alloc_new w' _) (by rw [List.size_toArray, bv_length, h64.out]; exact sec_info) ?_ ?_ ?_))
    · show 64 = (bv s).toArray.size; rw [List.size_toArray, bv_length, h64.out]
    · exact bv_cells s
    · obtain ⟨w1, hw1, hb1, hbe1⟩ := store_new w' _ 82 (bv s)
      rw [hw1]
      clear hw1
      have HB1 := hid hb1
      have HE1 := hid hbe1
      clear hb1 hbe1
      go_wp2
      go_ret2
      refine ⟨.slice (some ⟨w'.heap.size, 0, none⟩) 64 64, rfl, ?_, HE1.out⟩
      have := Fresh.blk HB1.out (B := w'.heap.size) (Nat.le_refl _)
      rw [h64.out] at this
      exact this
set_option maxRecDepth 100000 in
set_option maxHeartbeats 400000 in
theorem read_any {a gi gn : Nat} {vl lets : Value} {left : Int} {F : Nat → Prop} {d : Dev} (i : Int) (w : World) (h : PD w a gi gn vl lets left F d) :
    Calls Tryz.prog 56 #[ptr a, .int .i64 i] w fun e w' => ∃ v, e = .returned (.tuple #[v, .int .i64 (d.read i).2]) ∧ Fresh w.heap.size w' v (d.read i).1 ∧ Below w.heap.size w w' := by
  have c1 := h.hd.cell (j := 1) rfl
  have H := hid h
  have hnl := hid d.now_len
  cases ho : d.out
  rotate_left
  · have hs : d.read i = ([], 22) := by unfold Dev.read; rw [ho]; rfl
    rw [hs]
    have HO := hid ho
    clear h ho hs
    unfold ptr
    go_enter Tryz.func56, Tryz.ntmps56
    go_wp2_with fail
    refine (ready_any w H.out).mono ?_
    rintro e w' ⟨rfl, rfl⟩
    rw [HO.out, show outCode true = 22 from rfl]
    go_wp2
    go_ret2
    exact ⟨_, rfl, Fresh.nil _ _, Below.refl _ _⟩
  cases hh : has d.img.length i
  · have hs : d.read i = ([], 3) := by unfold Dev.read secOf; rw [ho, d.now_len, hh]; rfl
    rw [hs]
    have HH := hid hh
    have HO := hid ho
    clear h hh hs ho
    unfold ptr
    go_enter Tryz.func56, Tryz.ntmps56
    go_wp2_with fail
    refine (ready_any w H.out).mono ?_
    rintro e w' ⟨rfl, rfl⟩
    rw [HO.out, show outCode false = 0 from rfl]
    go_wp2_with fail
    refine (has_any i w' H.out).mono ?_
    rintro e w' ⟨rfl, rfl⟩
    rw [HH.out]
    go_wp2
    go_ret2
    exact ⟨_, rfl, Fresh.nil _ _, Below.refl _ _⟩
  · obtain ⟨k, rfl, hk⟩ := has_nat hh
    obtain ⟨s, hs⟩ : ∃ s, d.now[k]? = some s := ⟨_, List.getElem?_eq_getElem (by rw [d.now_len]; exact hk)⟩
    have hi : d.read k = (s, 0) := by unfold Dev.read secOf; rw [ho, d.now_len, hh]; simp [hs]
    rw [hi]
    have HH := hid hh
    have HO := hid ho
    have hr := hid (h.nw.sec h.ok.now64 hs)
    have h64 := hid (h.ok.now64.get hs)
    have hlen := h.ok.len
    clear h hh hi hs ho
    unfold ptr
    go_enter Tryz.func56, Tryz.ntmps56
    go_wp2_with fail
    refine (ready_any w H.out).mono ?_
    rintro e w' ⟨rfl, rfl⟩
    rw [HO.out, show outCode false = 0 from rfl]
    go_wp2_with fail
    refine (has_any k w' H.out).mono ?_
    rintro e w' ⟨rfl, rfl⟩
    rw [HH.out]
    go_wp2_with (first
      | (refine wpList_load_mid rfl 82 (.tmp 22) rfl gn (k * 64) rfl (bv s) _ hr.out Tryz.underlying82 rfl (by rw [bv_length, h64.out]; exact sec_info) ?_)
      | (refine wpList_store_row rfl 82 (.tmp 7) (.tmp 23) rfl _ _ rfl rfl _ _ (alloc_new w' _) (by rw [List.size_toArray, bv_length, h64.out]; exact sec_info) ?_ ?_ ?_))
    · show 64 = (bv s).toArray.size; rw [List.size_toArray, bv_length, h64.out]
    · exact bv_cells s
    · obtain ⟨w1, hw1, hb1, hbe1⟩ := store_new w' _ 82 (bv s)
      rw [hw1]
      clear hw1
      have HB1 := hid hb1
      have HE1 := hid hbe1
      clear hb1 hbe1
      go_wp2
      go_ret2
      refine ⟨.slice (some ⟨w'.heap.size, 0, none⟩) 64 64, rfl, ?_, HE1.out⟩
      have := Fresh.blk HB1.out (B := w'.heap.size) (Nat.le_refl _)
      rw [h64.out] at this
      exact this
end Go.Proofs.YtlondopgibcikaaGreat
