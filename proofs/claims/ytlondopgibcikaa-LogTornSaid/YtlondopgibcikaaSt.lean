/- What lies side by side in memory: assets of a law's own, since a world of so many blocks. -/
import Derived.Test.YtlondopgibcikaaRows
import Derived.Test.YtlondopgibcikaaHeap
import Derived.Test.YtlondopgibcikaaKit
import Derived.Test.YtlondopgibcikaaDev
import Derived.Test.YtlondopgibcikaaDevW
import Derived.Test.YtlondopgibcikaaDevV
import Derived.Test.YtlondopgibcikaaDevU
import Derived.Test.YtlondopgibcikaaDevT
import Derived.Test.YtlondopgibcikaaDevC
import Derived.Test.YtlondopgibcikaaLaw05
import Derived.WalkKit
namespace Go.Proofs.Ytlondopgibcikaa
open Go.RowKit Ent

abbrev Asset := World → (Nat → Prop) → Prop
structure Good (A : Asset) : Prop where
  keep : ∀ {w w' : World} {F G : Nat → Prop}, A w F → Keep G w w' → (∀ k, F k → ¬ G k) → A w' F
/-- assets side by side, each in blocks of its own, all new since w0 -/
structure St (B : Nat) (w0 w : World) (As : List Asset) : Prop where
  bl : B ≤ w.heap.size
  be : Below B w0 w
  own : ∃ Fs : List (Nat → Prop), Fs.length = As.length ∧
    (∀ (i : Nat) (A : Asset) (F : Nat → Prop), As[i]? = some A → Fs[i]? = some F → Good A ∧ A w F ∧ ∀ k, F k → B ≤ k ∧ k < w.heap.size) ∧
    ∀ (i j : Nat) (F G : Nat → Prop), i ≠ j → Fs[i]? = some F → Fs[j]? = some G → ∀ k, F k → ¬ G k
theorem St.start (w : World) : St w.heap.size w w [] :=
  ⟨Nat.le_refl _, Below.refl _ _, [], rfl, fun i A F hi _ => by simp at hi, fun i j F G _ hi _ => by simp at hi⟩
theorem St.below {B : Nat} {w0 w w' : World} {As : List Asset} (h : St B w0 w As) (hb : Below w.heap.size w w') : St B w0 w' As := by
  obtain ⟨Fs, hl, ho, hd⟩ := h.own
  refine ⟨Nat.le_trans h.bl hb.size, h.be.trans (hb.mono h.bl), Fs, hl, fun i A F hA hF => ?_, hd⟩
  obtain ⟨hg, ha, hk⟩ := ho i A F hA hF
  exact ⟨hg, hg.keep ha (Keep.ofBelow (F := fun _ => False) hb) (fun _ _ => id), fun k hF => ⟨(hk k hF).1, Nat.lt_of_lt_of_le (hk k hF).2 hb.size⟩⟩
theorem get_set_eq {α : Type} {l : List α} {i : Nat} {a x y : α} (hi : l[i]? = some a) (h : (l.set i x)[i]? = some y) : x = y := by
  rw [List.getElem?_set_self (List.getElem?_eq_some_iff.1 hi).1] at h; injection h
/-- one of them, and the others beside it -/
theorem St.open {B : Nat} {w0 w : World} {As : List Asset} (h : St B w0 w As) (i : Nat) {A : Asset} (hi : As[i]? = some A) :
    ∃ F, A w F ∧ (∀ k, F k → B ≤ k ∧ k < w.heap.size) ∧
      (∀ (j : Nat) (C : Asset), i ≠ j → As[j]? = some C → ∃ G, C w G ∧ (∀ k, G k → B ≤ k ∧ k < w.heap.size) ∧ (∀ k, F k → ¬ G k)) ∧
      (∀ (w' : World) (A' : Asset) (F' : Nat → Prop), Keep F w w' → Good A' → A' w' F' → (∀ k, F' k → grow F w w' k) → St B w0 w' (As.set i A')) := by
  obtain ⟨Fs, hl, ho, hd⟩ := h.own
  have hil := (List.getElem?_eq_some_iff.1 hi).1
  obtain ⟨F, hF⟩ : ∃ F, Fs[i]? = some F := ⟨_, List.getElem?_eq_getElem (by omega)⟩
  obtain ⟨hg, ha, hk⟩ := ho i A F hi hF
  refine ⟨F, ha, hk, fun j C hij hC => ?_, fun w' A' F' hkp hg' ha' hF' => ?_⟩
  · obtain ⟨G, hG⟩ : ∃ G, Fs[j]? = some G := ⟨_, List.getElem?_eq_getElem (by have := (List.getElem?_eq_some_iff.1 hC).1; omega)⟩
    obtain ⟨_, hc, hck⟩ := ho j C G hC hG
    exact ⟨G, hc, hck, hd i j F G hij hF hG⟩
  · refine ⟨Nat.le_trans h.bl hkp.size, h.be.trans (hkp.belowB h.bl fun k hkB hF => by have := (hk k hF).1; omega), Fs.set i F', by simp [hl], fun j C G hC hG => ?_, fun j m G H hjm hG hH k hkG hkH => ?_⟩
    · by_cases hij : i = j
      · subst hij
        obtain rfl := get_set_eq hi hC
        obtain rfl := get_set_eq hF hG
        refine ⟨hg', ha', fun k hk' => ?_⟩
        rcases hF' k hk' with h1 | h1
        · exact ⟨(hk k h1).1, Nat.lt_of_lt_of_le (hk k h1).2 hkp.size⟩
        · exact ⟨Nat.le_trans h.bl h1.1, h1.2⟩
      · rw [List.getElem?_set_ne hij] at hC hG
        obtain ⟨g1, c1, k1⟩ := ho j C G hC hG
        exact ⟨g1, g1.keep c1 hkp (fun k a b => hd i j F G hij hF hG k b a), fun k h1 => ⟨(k1 k h1).1, Nat.lt_of_lt_of_le (k1 k h1).2 hkp.size⟩⟩
    · by_cases hij : i = j
      · subst hij
        rw [List.getElem?_set_ne hjm] at hH
        obtain rfl := get_set_eq hF hG
        obtain ⟨C, hC⟩ : ∃ C, As[m]? = some C := ⟨_, List.getElem?_eq_getElem (by have := (List.getElem?_eq_some_iff.1 hH).1; omega)⟩
        rcases hF' k hkG with h1 | h1
        · exact hd i m F H hjm hF hH k h1 hkH
        · have := ((ho m C H hC hH).2.2 k hkH).2; omega
      · rw [List.getElem?_set_ne hij] at hG
        by_cases him : i = m
        · subst him
          obtain rfl := get_set_eq hF hH
          obtain ⟨C, hC⟩ : ∃ C, As[j]? = some C := ⟨_, List.getElem?_eq_getElem (by have := (List.getElem?_eq_some_iff.1 hG).1; omega)⟩
          rcases hF' k hkH with h1 | h1
          · exact hd i j F G (Ne.symm hjm) hF hG k h1 hkG
          · have := ((ho j C G hC hG).2.2 k hkG).2; omega
        · rw [List.getElem?_set_ne him] at hH
          exact hd j m G H hjm hG hH k hkG hkH
/-- one more, that is new -/
theorem St.add {B : Nat} {w0 w w' : World} {As : List Asset} (h : St B w0 w As) (hb : Below w.heap.size w w') {A : Asset} {F : Nat → Prop} (hg : Good A) (hA : A w' F) (hF : ∀ k, F k → w.heap.size ≤ k ∧ k < w'.heap.size) : St B w0 w' (As ++ [A]) := by
  have h' := h.below hb
  obtain ⟨Fs, hl, ho, hd⟩ := h.own
  have ho' : ∀ (i : Nat) (A : Asset) (F : Nat → Prop), As[i]? = some A → Fs[i]? = some F → Good A ∧ A w' F ∧ ∀ k, F k → B ≤ k ∧ k < w.heap.size := fun i A F a b => by
    obtain ⟨g, c, k⟩ := ho i A F a b
    exact ⟨g, g.keep c (Keep.ofBelow (F := fun _ => False) hb) (fun _ _ => id), k⟩
  refine ⟨h'.bl, h'.be, Fs ++ [F], by simp [hl], fun i C G hC hG => ?_, fun i j G H hij hG hH k hkG hkH => ?_⟩
  · by_cases hi : i < As.length
    · rw [List.getElem?_append_left hi] at hC
      rw [List.getElem?_append_left (by omega)] at hG
      obtain ⟨g, c, k⟩ := ho' i C G hC hG
      exact ⟨g, c, fun j hj => ⟨(k j hj).1, Nat.lt_of_lt_of_le (k j hj).2 hb.size⟩⟩
    · have hi' : i = As.length := by
        have := (List.getElem?_eq_some_iff.1 hC).1
        simp at this; omega
      subst hi'
      rw [List.getElem?_append_right (Nat.le_refl _), Nat.sub_self] at hC
      rw [List.getElem?_append_right (by omega), hl, Nat.sub_self] at hG
      simp at hC hG
      subst hC; subst hG
      exact ⟨hg, hA, fun j hj => ⟨Nat.le_trans h.bl (hF j hj).1, (hF j hj).2⟩⟩
  · have key : ∀ (i : Nat) (G : Nat → Prop), Fs[i]? = some G → ∀ k, G k → k < w.heap.size := fun i G hG k hk => by
      obtain ⟨C, hC⟩ : ∃ C, As[i]? = some C := ⟨_, List.getElem?_eq_getElem (by have := (List.getElem?_eq_some_iff.1 hG).1; omega)⟩
      exact ((ho i C G hC hG).2.2 k hk).2
    by_cases hi : i < Fs.length
    · rw [List.getElem?_append_left hi] at hG
      by_cases hj : j < Fs.length
      · rw [List.getElem?_append_left hj] at hH
        exact hd i j G H hij hG hH k hkG hkH
      · have hj' : j = Fs.length := by
          have := (List.getElem?_eq_some_iff.1 hH).1
          simp at this; omega
        subst hj'
        rw [List.getElem?_append_right (Nat.le_refl _), Nat.sub_self] at hH
        simp at hH; subst hH
        have := key i G hG k hkG
        have := (hF k hkH).1; omega
    · have hi' : i = Fs.length := by
        have := (List.getElem?_eq_some_iff.1 hG).1
        simp at this; omega
      subst hi'
      rw [List.getElem?_append_right (Nat.le_refl _), Nat.sub_self] at hG
      simp at hG; subst hG
      by_cases hj : j < Fs.length
      · rw [List.getElem?_append_left hj] at hH
        have := key j H hH k hkH
        have := (hF k hkG).1; omega
      · have := (List.getElem?_eq_some_iff.1 hH).1
        simp at this; omega
/-- the last ones are forgotten -/
theorem St.take {B : Nat} {w0 w : World} {As : List Asset} (h : St B w0 w As) (n : Nat) : St B w0 w (As.take n) := by
  obtain ⟨Fs, hl, ho, hd⟩ := h.own
  refine ⟨h.bl, h.be, Fs.take n, by simp [hl], fun i A F hA hF => ?_, fun i j F G hij hF hG => ?_⟩
  · rw [List.getElem?_take] at hA hF
    split at hA
    · rename_i hn; rw [if_pos hn] at hF; exact ho i A F hA hF
    · cases hA
  · rw [List.getElem?_take] at hF hG
    split at hF
    · split at hG
      · exact hd i j F G hij hF hG
      · cases hG
    · cases hF
/-- a call that turns one of them -/
theorem St.call {B : Nat} {w0 w : World} {As : List Asset} (h : St B w0 w As) (i : Nat) {A A' : Asset} (hi : As[i]? = some A) (hg : Good A') {f : FuncId} {args : Array Value} {R : Ending → Prop}
    (hc : ∀ F, A w F → (∀ k, F k → B ≤ k ∧ k < w.heap.size) → Calls Try.prog f args w fun e w' => R e ∧ A' w' (grow F w w') ∧ Keep F w w') :
    Calls Try.prog f args w fun e w' => R e ∧ St B w0 w' (As.set i A') := by
  obtain ⟨F, ha, hk, _, hcl⟩ := h.open i hi
  refine (hc F ha hk).mono ?_
  rintro e w' ⟨he, ha', hkp⟩
  exact ⟨he, hcl w' A' _ hkp hg ha' (fun _ h => h)⟩
/-- a device among them -/
def dev (a : Nat) (d : Dev) : Asset := fun w F => PDev w a F d
theorem good_dev (a : Nat) (d : Dev) : Good (dev a d) := ⟨fun h hk hG => PDev.keep h hk hG⟩
end Go.Proofs.Ytlondopgibcikaa
