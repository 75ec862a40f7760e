/- A device that is turned by calls one behind the other. -/
import Derived.Test.YtlondopgibcikaaRows
import Derived.Test.YtlondopgibcikaaHeap
import Derived.Test.YtlondopgibcikaaKit
import Derived.Test.YtlondopgibcikaaDev
import Derived.Test.YtlondopgibcikaaDevW
import Derived.Test.YtlondopgibcikaaDevC
import Derived.Test.YtlondopgibcikaaLaw05
namespace Go.Proofs.Ytlondopgibcikaa
open Go.RowKit Ent

/-- since w, a device at a has been turned; G is its own now -/
structure Turn (F : Nat → Prop) (w w' : World) (a : Nat) (d : Dev) (G : Nat → Prop) : Prop where
  p : PDev w' a G d
  g : ∀ k, G k → grow F w w' k
  k : Keep F w w'
section
variable {F G : Nat → Prop} {w w1 w2 : World} {a : Nat} {d d2 : Dev}
theorem Turn.start (h : PDev w a F d) : Turn F w w a d F := ⟨h, fun _ => .inl, Keep.refl _ _⟩
theorem Turn.below (h : Turn F w w1 a d G) (hb : Below w1.heap.size w1 w2) : Turn F w w2 a d G :=
  ⟨h.p.below hb, fun k hk => (h.g k hk).imp id fun x => ⟨x.1, Nat.lt_of_lt_of_le x.2 hb.size⟩, h.k.trans (Keep.ofBelow hb)⟩
theorem Turn.step (h : Turn F w w1 a d G) (hp : PDev w2 a (grow G w1 w2) d2) (hk : Keep G w1 w2) : Turn F w w2 a d2 (grow G w1 w2) where
  p := hp
  g := fun k hh => by
    rcases hh with hh | hh
    · exact (h.g k hh).imp id fun x => ⟨x.1, Nat.lt_of_lt_of_le x.2 hk.size⟩
    · exact .inr ⟨Nat.le_trans h.k.size hh.1, hh.2⟩
  k := h.k.comp hk (fun _ _ x => x) (fun i hi hg => by
    rcases h.g i hg with x | x
    · exact x
    · omega)
theorem Turn.lt (h : Turn F w w1 a d G) (hF : ∀ k, F k → k < w.heap.size) : ∀ k, G k → k < w1.heap.size := fun k hk => by
  rcases h.g k hk with x | x
  · exact Nat.lt_of_lt_of_le (hF k x) h.k.size
  · exact x.2
theorem Turn.stop (h : Turn F w w1 a d G) : PDev w1 a (grow F w w1) d ∧ Keep F w w1 := ⟨h.p.mono h.g, h.k⟩
theorem Turn.rebase (h : Turn F w1 w2 a d G) (hb : Below w.heap.size w w1) : Turn F w w2 a d G :=
  ⟨h.p, fun k hk => (h.g k hk).imp id fun x => ⟨Nat.le_trans hb.size x.1, x.2⟩, (Keep.ofBelow hb).trans h.k⟩
theorem Turn.aside {g : Nat} (h : Turn F w w1 a d G) (hk : Keep (fun j => j = g) w1 w2) (hg : ¬ G g) (hw : w.heap.size ≤ g) : Turn F w w2 a d G where
  p := h.p.keep hk (fun k hk e => hg (by rw [← e]; exact hk))
  g := fun k hh => (h.g k hh).imp id fun x => ⟨x.1, Nat.lt_of_lt_of_le x.2 hk.size⟩
  k := h.k.comp hk (fun _ _ x => x) (fun i hi e => by omega)
end
end Go.Proofs.Ytlondopgibcikaa
