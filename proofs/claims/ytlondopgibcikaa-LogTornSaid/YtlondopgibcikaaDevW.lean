/- The walks of a device's small methods. -/
import Derived.Test.YtlondopgibcikaaRows
import Derived.Test.YtlondopgibcikaaHeap
import Derived.Test.YtlondopgibcikaaKit
import Derived.Test.YtlondopgibcikaaDev
import Derived.WalkKit
import Derived.WalkSpells
import Derived.WalkLawsBesides
import Derived.Deep.RegionHeld3
import Derived.Lib.SliceRun
namespace Go.Proofs.Ytlondopgibcikaa
open Go.RowKit Ent

def lw (l : List (Nat × List UInt8)) : List Value := l.flatMap fun x => Value.int .i64 (x.1 : Int) :: bv x.2
def ptr (a : Nat) : Value := .pointer (some ⟨a, 0, none⟩)
def burnV (a : Nat) : Value := .func (.func 111) #[ptr a] #[]
def head6 (gi gn n : Nat) (vl lets : Value) (left : Int) (out : Bool) : List Value := [.slice (some ⟨gi, 0, none⟩) n n, .slice (some ⟨gn, 0, none⟩) n n, vl, lets, .int .i64 left, .bool out]
/-- a device lies at a: all that is its own lies in F -/
structure PD (w : World) (a gi gn : Nat) (vl lets : Value) (left : Int) (F : Nat → Prop) (d : Dev) : Prop where
  ok : d.ok
  hd : Blk w a 70 (head6 gi gn d.img.length vl lets left d.out)
  im : Blk w gi 136 (bv d.img.flatten)
  nw : Blk w gn 136 (bv d.now.flatten)
  lo : w.ownsRow 0 138 65 vl d.loose.length (lw d.loose)
  fu : (d.fuse = none ∧ lets = .nilFunc) ∨ ∃ k, d.fuse = some k ∧ k ≤ 9223372036854775807 ∧ lets = burnV a ∧ (d.out = false → left = (k : Int))
  lf : -9223372036854775808 ≤ left ∧ left ≤ 9223372036854775807
  ai : a ≠ gi
  an : a ≠ gn
  gg : gi ≠ gn
  fa : F a
  fi : F gi
  fn : F gn
  fl : ∀ k, vl.ownBlock = some k → F k ∧ k ≠ a ∧ k ≠ gi ∧ k ≠ gn
def PDev (w : World) (a : Nat) (F : Nat → Prop) (d : Dev) : Prop := ∃ gi gn vl lets left, PD w a gi gn vl lets left F d
theorem PD.keep {w w' : World} {a gi gn : Nat} {vl lets : Value} {left : Int} {F G : Nat → Prop} {d : Dev} (h : PD w a gi gn vl lets left F d) (hk : Keep G w w') (hG : ∀ k, F k → ¬ G k) : PD w' a gi gn vl lets left F d :=
  { h with hd := h.hd.keep hk (hG _ h.fa), im := h.im.keep hk (hG _ h.fi), nw := h.nw.keep hk (hG _ h.fn), lo := owns_keep h.lo hk fun k hk' => hG k (h.fl k hk').1 }
theorem PDev.keep {w w' : World} {a : Nat} {F G : Nat → Prop} {d : Dev} (h : PDev w a F d) (hk : Keep G w w') (hG : ∀ k, F k → ¬ G k) : PDev w' a F d := by
  obtain ⟨gi, gn, vl, lets, left, h⟩ := h; exact ⟨gi, gn, vl, lets, left, h.keep hk hG⟩
theorem PDev.below {w w' : World} {a : Nat} {F : Nat → Prop} {d : Dev} (h : PDev w a F d) (hk : Below w.heap.size w w') : PDev w' a F d :=
  h.keep (Keep.ofBelow (F := fun _ => False) hk) (fun _ _ => id)
theorem PDev.drew {w : World} {a : Nat} {F : Nat → Prop} {d : Dev} (h : PDev w a F d) : PDev w.drew a F d := h.keep (Keep.refl (fun _ => False) w).drew (fun _ _ => id)
theorem PDev.mono {w : World} {a : Nat} {F G : Nat → Prop} {d : Dev} (h : PDev w a F d) (hFG : ∀ k, F k → G k) : PDev w a G d := by
  obtain ⟨gi, gn, vl, lets, left, h⟩ := h
  exact ⟨gi, gn, vl, lets, left, { h with fa := hFG _ h.fa, fi := hFG _ h.fi, fn := hFG _ h.fn, fl := fun k hk => ⟨hFG k (h.fl k hk).1, (h.fl k hk).2⟩ }⟩

def outCode (b : Bool) : Int := if b then 22 else 0
set_option maxRecDepth 100000 in
set_option maxHeartbeats 400000 in
theorem none_any {a gi gn : Nat} {vl lets : Value} {left : Int} {F : Nat → Prop} {d : Dev} (w : World) (h : PD w a gi gn vl lets left F d) :
    Calls Try.prog 109 #[ptr a] w fun e w' => e = .returned (.bool false) ∧ w' = w := by
  have c0 := h.hd.cell (j := 0) rfl
  have e67 := fun w a n c => Lib.run_eql_slice_nil (P := Try.prog) w 67 136 a n c 0 0 Try.underlying67
  unfold ptr
  go_enter Try.func109, Try.ntmps109
  go_wp2
  go_ret
  exact ⟨rfl, rfl⟩
set_option maxRecDepth 100000 in
set_option maxHeartbeats 400000 in
theorem ready_any {a gi gn : Nat} {vl lets : Value} {left : Int} {F : Nat → Prop} {d : Dev} (w : World) (h : PD w a gi gn vl lets left F d) :
    Calls Try.prog 110 #[ptr a] w fun e w' => e = .returned (.int .i64 (outCode d.out)) ∧ w' = w := by
  have c5 := h.hd.cell (j := 5) rfl
  have H := hid h
  clear h
  unfold ptr
  go_enter Try.func110, Try.ntmps110
  go_wp2_with fail
  refine (none_any w H.out).mono ?_
  rintro e w' ⟨rfl, rfl⟩
  cases hd : d.out
  all_goals
    rw [hd] at c5
    go_wp2
    go_ret
    exact ⟨by simp [outCode, hd], rfl⟩
set_option maxRecDepth 100000 in
set_option maxHeartbeats 400000 in
theorem has_any {a gi gn : Nat} {vl lets : Value} {left : Int} {F : Nat → Prop} {d : Dev} (i : Int) (w : World) (h : PD w a gi gn vl lets left F d) :
    Calls Try.prog 113 #[ptr a, .int .i64 i] w fun e w' => e = .returned (.bool (has d.img.length i)) ∧ w' = w := by
  have c0 := h.hd.cell (j := 0) rfl
  have hl := h.ok.len
  unfold ptr
  unfold has
  by_cases hi : 0 ≤ i
  all_goals
    go_enter Try.func113, Try.ntmps113
    go_wp2
    go_ret
    exact ⟨by simp [hi] <;> omega, rfl⟩
set_option maxRecDepth 100000 in
set_option maxHeartbeats 400000 in
theorem burn_any {a gi gn : Nat} {vl lets : Value} {left : Int} {F : Nat → Prop} {d : Dev} (w : World) (h : PD w a gi gn vl lets left F d) (h0 : 0 ≤ left) :
    Calls Try.prog 111 #[ptr a] w fun e w' => e = .returned (.bool (decide (1 ≤ left))) ∧ w' = w.setCell ⟨a, 4, none⟩ (.int .i64 (left - 1)) := by
  have c4 := h.hd.cell (j := 4) rfl
  have f4 := h.hd.free 4
  have hl := h.lf
  have c4' := World.cell?_setCell_same w ⟨a, 4, none⟩ (.int .i64 (left - 1)) c4
  unfold ptr
  go_enter Try.func111, Try.ntmps111
  go_wp2
  go_ret
  refine ⟨?_, rfl⟩
  congr 2
  go_show

theorem PD.left {w : World} {a gi gn : Nat} {vl lets : Value} {left : Int} {F : Nat → Prop} {d : Dev} (h : PD w a gi gn vl lets left F d) (x : Int) (hx : -9223372036854775808 ≤ x ∧ x ≤ 9223372036854775807) (f : Option Nat)
    (hf : (f = none ∧ lets = .nilFunc) ∨ ∃ k, f = some k ∧ k ≤ 9223372036854775807 ∧ lets = burnV a ∧ (d.out = false → x = (k : Int))) :
    PD (w.setCell ⟨a, 4, none⟩ (.int .i64 x)) a gi gn vl lets x F { d with fuse := f } := by
  have hk : Keep (fun k => k = a) w (w.setCell ⟨a, 4, none⟩ (.int .i64 x)) := (Keep.refl (fun k => k = a) w).setCell (p := ⟨a, 4, none⟩) rfl _
  exact { ok := ⟨h.ok.1, h.ok.2, h.ok.3, h.ok.4⟩, hd := h.hd.set 4 _, im := h.im.keep hk (Ne.symm h.ai), nw := h.nw.keep hk (Ne.symm h.an), lo := owns_keep h.lo hk fun k hk' => (h.fl k hk').2.1, fu := hf, lf := hx, ai := h.ai, an := h.an, gg := h.gg, fa := h.fa, fi := h.fi, fn := h.fn, fl := h.fl }
theorem PD.outed {w : World} {a gi gn : Nat} {vl lets : Value} {left : Int} {F : Nat → Prop} {d : Dev} (h : PD w a gi gn vl lets left F d) (o : Bool)
    (hf : (d.fuse = none ∧ lets = .nilFunc) ∨ ∃ k, d.fuse = some k ∧ k ≤ 9223372036854775807 ∧ lets = burnV a ∧ (o = false → left = (k : Int))) :
    PD (w.setCell ⟨a, 5, none⟩ (.bool o)) a gi gn vl lets left F { d with out := o } := by
  have hk : Keep (fun k => k = a) w (w.setCell ⟨a, 5, none⟩ (.bool o)) := (Keep.refl (fun k => k = a) w).setCell (p := ⟨a, 5, none⟩) rfl _
  exact { ok := ⟨h.ok.1, h.ok.2, h.ok.3, h.ok.4⟩, hd := h.hd.set 5 _, im := h.im.keep hk (Ne.symm h.ai), nw := h.nw.keep hk (Ne.symm h.an), lo := owns_keep h.lo hk fun k hk' => (h.fl k hk').2.1, fu := hf, lf := h.lf, ai := h.ai, an := h.an, gg := h.gg, fa := h.fa, fi := h.fi, fn := h.fn, fl := h.fl }
theorem PD.burned {w : World} {a gi gn : Nat} {vl lets : Value} {left : Int} {F : Nat → Prop} {d : Dev} (h : PD w a gi gn vl lets left F d) (hl : lets = burnV a) (hf : d.fuse = some 0) :
    PD ((w.setCell ⟨a, 4, none⟩ (.int .i64 (-1))).setCell ⟨a, 5, none⟩ (.bool true)) a gi gn vl lets (-1) F { d with out := true } := by
  have hk : Keep (fun k => k = a) w ((w.setCell ⟨a, 4, none⟩ (.int .i64 (-1))).setCell ⟨a, 5, none⟩ (.bool true)) := ((Keep.refl (fun k => k = a) w).setCell (p := ⟨a, 4, none⟩) rfl _).setCell (p := ⟨a, 5, none⟩) rfl _
  exact { ok := ⟨h.ok.1, h.ok.2, h.ok.3, h.ok.4⟩, hd := (h.hd.set 4 _).set 5 _, im := h.im.keep hk (Ne.symm h.ai), nw := h.nw.keep hk (Ne.symm h.an), lo := owns_keep h.lo hk fun k hk' => (h.fl k hk').2.1, fu := .inr ⟨0, hf, by omega, hl, fun h1 => by cases h1⟩, lf := by omega, ai := h.ai, an := h.an, gg := h.gg, fa := h.fa, fi := h.fi, fn := h.fn, fl := h.fl }
theorem run_nil_func (w : World) : (binOp .neq 23 .nilFunc .nilFunc).run Try.prog w = .ok (.bool false) w := by kernel_rfl
theorem run_some_func (f : Fn) (x y : Array Value) (w : World) : (binOp .neq 23 (.func f x y) .nilFunc).run Try.prog w = .ok (.bool true) w := by kernel_rfl
set_option maxRecDepth 100000 in
set_option maxHeartbeats 400000 in
theorem through_any {a gi gn : Nat} {vl lets : Value} {left : Int} {F : Nat → Prop} {d : Dev} (w : World) (h : PD w a gi gn vl lets left F d) (ho : d.out = false) :
    Calls Try.prog 112 #[ptr a] w fun e w' => e = .returned (.bool d.through.1) ∧ (∃ left', PD w' a gi gn vl lets left' F d.through.2) ∧ Keep F w w' := by
  have H := hid h
  have c3 := h.hd.cell (j := 3) rfl
  have c5 := h.hd.cell (j := 5) rfl
  have en := run_nil_func
  have es := run_some_func
  rw [ho] at c5
  rcases h.fu with ⟨hf, rfl⟩ | ⟨k, hf, hk, rfl, hle⟩
  · have hth : d.through = (true, d) := by unfold Dev.through; rw [hf]
    rw [hth]
    have HO := hid ho
    clear h hf ho hth
    unfold ptr
    go_enter Try.func112, Try.ntmps112
    go_wp2
    go_ret
    exact ⟨rfl, ⟨_, H.out⟩, Keep.refl _ _⟩
  · obtain rfl := hle ho
    have f5 := h.hd.free 5
    match k, hf with
    | 0, hf =>
      have hth : d.through = (false, { d with out := true }) := by unfold Dev.through; rw [hf]
      rw [hth]
      have HP := hid (PD.burned h rfl hf)
      have hc5 : (w.setCell ⟨a, 4, none⟩ (.int .i64 (-1))).cell? ⟨a, 5, none⟩ = some (.bool false) := by rw [World.cell?_setCell_other _ _ _ _ (by intro e; injection e; omega)]; exact c5
      have hf5 : (w.setCell ⟨a, 4, none⟩ (.int .i64 (-1))).frozen? ⟨a, 5, none⟩ = false := by simpa using f5
      have ha : Hid (F a) := hid h.fa
      clear h hf ho hle hth c5
      unfold burnV ptr at c3
      unfold ptr
      go_enter Try.func112, Try.ntmps112
      go_wp2_with fail
      refine (burn_any w H.out (by simp)).mono ?_
      rintro e w1 ⟨rfl, rfl⟩
      have hc5' := World.cell?_setCell_same _ _ (.bool true) hc5
      go_wp2
      go_ret
      exact ⟨rfl, ⟨_, HP.out⟩, ((Keep.refl F w).setCell (p := ⟨a, 4, none⟩) ha.out _).setCell (p := ⟨a, 5, none⟩) ha.out _⟩
    | k + 1, hf =>
      have hth : d.through = (true, { d with fuse := some k }) := by unfold Dev.through; rw [hf]
      rw [hth]
      have hp := PD.left h k (by omega) (some k) (.inr ⟨k, rfl, by omega, rfl, fun _ => rfl⟩)
      have HP := hid hp
      have c5' := hp.hd.cell (j := 5) rfl
      rw [show ({ d with fuse := some k } : Dev).out = false from ho] at c5'
      have ha : Hid (F a) := hid h.fa
      clear h hf ho hp hle hth
      unfold burnV ptr at c3
      unfold ptr
      go_enter Try.func112, Try.ntmps112
      go_wp2_with fail
      refine (burn_any w H.out (by omega)).mono ?_
      rintro e w1 ⟨rfl, rfl⟩
      rw [show (((k + 1 : Nat) : Int) - 1) = (k : Int) by omega, show decide ((1 : Int) ≤ ((k + 1 : Nat) : Int)) = true by simp; omega]
      go_wp2
      go_ret
      exact ⟨rfl, ⟨_, HP.out⟩, (Keep.refl F w).setCell (p := ⟨a, 4, none⟩) ha.out _⟩
end Go.Proofs.Ytlondopgibcikaa
