/- Assets: bytes that are read. -/
import Derived.Test.YtlondopgibcikaaRows
import Derived.Test.YtlondopgibcikaaHeap
import Derived.Test.YtlondopgibcikaaKit
import Derived.Test.YtlondopgibcikaaCrcV
import Derived.Test.YtlondopgibcikaaDev
import Derived.Test.YtlondopgibcikaaDevW
import Derived.Test.YtlondopgibcikaaDevV
import Derived.Test.YtlondopgibcikaaDevU
import Derived.Test.YtlondopgibcikaaDevT
import Derived.Test.YtlondopgibcikaaDevC
import Derived.Test.YtlondopgibcikaaLaw05
import Derived.Test.YtlondopgibcikaaLL
import Derived.Test.YtlondopgibcikaaSt
import Derived.Test.YtlondopgibcikaaSt2
import Derived.Test.YtlondopgibcikaaLogP
import Derived.Test.YtlondopgibcikaaLogW
import Derived.Test.YtlondopgibcikaaLogS
import Derived.Test.YtlondopgibcikaaLogS2
import Derived.Test.YtlondopgibcikaaLogT
import Derived.Test.YtlondopgibcikaaLaw06
import Derived.Test.YtlondopgibcikaaLaw06b
import Derived.WalkKit
namespace Go.Proofs.Ytlondopgibcikaa
open Go.RowKit Ent

theorem sb_lt {w : World} {ao : Option Addr} {cap : Nat} {l : List UInt8} (h : SB w ao cap l) (hne : l ≠ []) : ∀ a, ao = some a → a.block < w.heap.size := by
  intro a ha
  rcases h with ⟨_, _, h⟩ | ⟨_, _, h⟩ | ⟨b, o, h1, h2⟩
  · exact absurd h hne
  · exact absurd h hne
  · rw [h1] at ha; injection ha with ha; subst ha
    obtain ⟨x, l', rfl⟩ := List.exists_cons_of_ne_nil hne
    exact World.block_lt_of_cell? w ⟨b, o + 0, none⟩ (h2 0 (.int .u8 (x.toNat : Int)) (by simp [bv]))
/-- bytes that are read -/
def sbA (ao : Option Addr) (cap : Nat) (l : List UInt8) : Asset := fun w F => SB w ao cap l ∧ ∀ x, ao = some x → F x.block
theorem good_sbA (ao : Option Addr) (cap : Nat) (l : List UInt8) : Good (sbA ao cap l) := ⟨fun h hk hG => ⟨h.1.keep hk (fun a ha => hG _ (h.2 a ha)), h.2⟩⟩
/-- a row of its own -/
def ownA (T : TypeId) (s : Nat) (v : Value) (q : Nat) (vs : List Value) : Asset := fun w F => w.ownsRow 0 T s v q vs ∧ ∀ k, v.ownBlock = some k → F k
theorem good_ownA (T : TypeId) (s : Nat) (v : Value) (q : Nat) (vs : List Value) : Good (ownA T s v q vs) := ⟨fun h hk hG => ⟨owns_keep h.1 hk (fun k hk' => hG _ (h.2 k hk')), h.2⟩⟩
/-- the slices of a row that are read -/
def ReadRow (w : World) (vs : List Value) (L : List (List UInt8)) : Prop := vs.length = L.length ∧ ∀ (i : Nat) (l : List UInt8), L[i]? = some l → ∃ lo cap, vs[i]? = some (.slice lo l.length cap) ∧ l.length ≤ cap ∧ SB w lo cap l
theorem ReadRow.nil (w : World) : ReadRow w [] [] := ⟨rfl, fun i l h => by simp at h⟩
theorem ReadRow.snoc {w : World} {vs : List Value} {L : List (List UInt8)} (h : ReadRow w vs L) {lo : Option Addr} {n cap : Nat} {l : List UInt8} (hn : n = l.length) (hc : n ≤ cap) (hs : SB w lo cap l) : ReadRow w (vs ++ [.slice lo n cap]) (L ++ [l]) := by
  subst hn
  refine ⟨by simp [h.1], fun i m hm => ?_⟩
  by_cases hi : i < L.length
  · rw [List.getElem?_append_left hi] at hm
    obtain ⟨lo', cap', h1, h2, h3⟩ := h.2 i m hm
    exact ⟨lo', cap', by rw [List.getElem?_append_left (by rw [h.1]; exact hi)]; exact h1, h2, h3⟩
  · have hi' : i = L.length := by
      have := (List.getElem?_eq_some_iff.1 hm).1
      simp at this; omega
    subst hi'
    rw [List.getElem?_append_right (Nat.le_refl _), Nat.sub_self] at hm
    simp at hm
    subst hm
    exact ⟨lo, cap, by rw [List.getElem?_append_right (by rw [h.1]; exact Nat.le_refl _), h.1, Nat.sub_self]; rfl, hc, hs⟩
theorem ReadRow.below {w w' : World} {vs : List Value} {L : List (List UInt8)} (h : ReadRow w vs L) (hb : Below w.heap.size w w') : ReadRow w' vs L :=
  ⟨h.1, fun i l hl => by obtain ⟨lo, cap, h1, h2, h3⟩ := h.2 i l hl; exact ⟨lo, cap, h1, h2, h3.below hb⟩⟩
theorem ReadRow.lr {w : World} {base : Nat} {T : TypeId} {v : Value} {q : Nat} {vs : List Value} {L : List (List UInt8)} (h : ReadRow w vs L) (ho : w.ownsRow base T 1 v q vs) : ∃ ao cap, v = .slice ao q cap ∧ q = L.length ∧ LR w ao L := by
  have hl := ho.1
  rw [Nat.mul_one, h.1] at hl
  rcases ho.2 with ⟨rfl, rfl⟩ | ⟨g, cap, cur, rfl, _, hh, _, _, _, ht⟩
  · exact ⟨none, 0, rfl, hl.symm, .inl (List.eq_nil_of_length_eq_zero hl)⟩
  · refine ⟨_, cap, rfl, hl.symm, LR.ofRange (vs := vs) (fun j u hu => ?_) h.2⟩
    rw [Nat.zero_add, cell_of_row w g j cur _ _ hh]
    rw [← ht, List.getElem?_take] at hu
    split at hu
    · simpa using hu
    · cases hu
section
variable {B : Nat} {w0 w w1 : World} {As : List Asset} {a : Nat} {d : Dev}
theorem St.addSB (h : St B w0 w As) (hb : Below w.heap.size w w1) {ao : Option Addr} {cap : Nat} {l : List UInt8} (hs : SB w1 ao cap l) (hr : ∀ x, ao = some x → w.heap.size ≤ x.block ∧ x.block < w1.heap.size) : St B w0 w1 (As ++ [sbA ao cap l]) :=
  h.add hb (F := fun k => ∃ x, ao = some x ∧ k = x.block) (good_sbA ao cap l) ⟨hs, fun x hx => ⟨x, hx, rfl⟩⟩ (fun k ⟨x, hx, e⟩ => by rw [e]; exact hr x hx)
theorem St.sb (h : St B w0 w As) (i : Nat) {ao : Option Addr} {cap : Nat} {l : List UInt8} (hi : As[i]? = some (sbA ao cap l)) : SB w ao cap l := by
  obtain ⟨F, hA, _⟩ := h.open i hi
  exact hA.1
theorem St.sbRange (h : St B w0 w As) (i : Nat) {ao : Option Addr} {cap : Nat} {l : List UInt8} (hi : As[i]? = some (sbA ao cap l)) : ∀ x, ao = some x → B ≤ x.block ∧ x.block < w.heap.size := by
  obtain ⟨F, hA, hF, _⟩ := h.open i hi
  exact fun x hx => hF _ (hA.2 x hx)
/-- an asset is written into the log -/
theorem St.log_write3 (h : St B w0 w As) (i : Nat) (hi : As[i]? = some (dev a d)) (f t g at_ : Int) (j : Nat) (hij : i ≠ j) (ao : Option Addr) (rn rc : Nat) (rec : List UInt8) (hj : As[j]? = some (sbA ao rc rec)) (hrn : rn = rec.length) (hrc : rn ≤ rc) (hrm : rn ≤ 9223372036854775807) (hlo : d.loose.length ≤ 1073000000) (ha1 : -9223372036854775808 ≤ at_ ∧ at_ ≤ 9223372036854775807) :
    Calls Try.prog 64 #[ptr a, .agg #[.int .i64 f, .int .i64 t, .int .i64 g], .int .i64 at_, .slice ao rn rc] w fun e w' => e = .returned (.tuple #[.int .i64 (logWrite d f t g at_ rec).1.1, .int .i64 (logWrite d f t g at_ rec).1.2]) ∧ St B w0 w' (As.set i (dev a (logWrite d f t g at_ rec).2)) := by
  obtain ⟨F, hA, hF, ho, hcl⟩ := h.open i hi
  obtain ⟨G, hG, _, hFG⟩ := ho j _ hij hj
  refine (logWrite_any f t g at_ ao rn rc rec hrn hrc hrm w hG.1 (fun _ x hx hf => hFG _ hf (hG.2 x hx)) hA (fun k hk => (hF k hk).2) hlo ha1).mono ?_
  rintro e w' ⟨he, hp, hk⟩
  exact ⟨he, hcl w' _ _ hk (good_dev _ _) hp (fun _ h => h)⟩
theorem St.dev_write3 (h : St B w0 w As) (i : Nat) (hi : As[i]? = some (dev a d)) (n : Int) (j : Nat) (hij : i ≠ j) (bo : Option Addr) (m c : Nat) (b : List UInt8) (hj : As[j]? = some (sbA bo c b)) (hm : m = b.length) (hlo : d.loose.length ≤ 1073741824) :
    Calls Try.prog 48 #[ptr a, .int .i64 n, .slice bo m c] w fun e w' => e = .returned (.int .i64 (d.write n b).1) ∧ St B w0 w' (As.set i (dev a (d.write n b).2)) := by
  obtain ⟨F, hA, hF, ho, hcl⟩ := h.open i hi
  obtain ⟨G, hG, _, hFG⟩ := ho j _ hij hj
  refine (lift_write n bo m c b hm w hG.1 (fun x hx hf => hFG _ hf (hG.2 x hx)) hlo hA).mono ?_
  rintro e w' ⟨he, hp, hk⟩
  exact ⟨he, hcl w' _ _ hk (good_dev _ _) hp (fun _ h => h)⟩
theorem St.addOwn (h : St B w0 w As) (T : TypeId) (s : Nat) : St B w0 w (As ++ [ownA T s (.slice none 0 0) 0 []]) :=
  h.add (Below.refl _ _) (F := fun _ => False) (good_ownA _ _ _ _ _) ⟨World.ownsRow_nil _ _ _ _, fun k hk => by simp [Value.ownBlock] at hk⟩ (fun k hk => hk.elim)
theorem St.own_ (h : St B w0 w As) (i : Nat) {T : TypeId} {s : Nat} {v : Value} {q : Nat} {vs : List Value} (hi : As[i]? = some (ownA T s v q vs)) : w.ownsRow 0 T s v q vs := by
  obtain ⟨F, hA, _⟩ := h.open i hi
  exact hA.1
/-- .. grows -/
theorem St.ownGrow (h : St B w0 w As) (i : Nat) {T : TypeId} {s : Nat} {v v' : Value} {q q' : Nat} {vs vs' : List Value} (hi : As[i]? = some (ownA T s v q vs)) (ho : w1.ownsRow 0 T s v' q' vs') (hg : w.grownBy w1 v.ownBlock) (hv : v'.ownBlock = v.ownBlock ∨ v'.ownBlock = some w.heap.size) : St B w0 w1 (As.set i (ownA T s v' q' vs')) := by
  obtain ⟨F, hA, hF, _, hcl⟩ := h.open i hi
  refine hcl w1 _ (fun k => v'.ownBlock = some k) ?_ (good_ownA _ _ _ _ _) ⟨ho, fun k hk => hk⟩ (fun k hk => ?_)
  · exact ⟨hg.os, hg.tape, hg.output, hg.size, fun k hk hn => hg.block k hk (fun e => hn (hA.2 k e.symm))⟩
  · rcases hv with hv | hv
    · exact .inl (hA.2 k (by rw [← hv]; exact hk))
    · have h1 := ho.lt k hk
      rw [hv] at hk; injection hk with hk
      exact .inr ⟨by omega, h1.2⟩
/-- a block in the place of nothing -/
theorem St.newAt (h : St B w0 w As) (i : Nat) (hi : As[i]? = some noA) (hb : Below w.heap.size w w1) {g : Nat} {T : TypeId} {vs : List Value} (hB : Blk w1 g T vs) (hg : w.heap.size ≤ g) : St B w0 w1 (As.set i (blkA g T vs)) := by
  obtain ⟨F, _, _, _, hcl⟩ := h.open i hi
  exact hcl w1 _ (fun k => k = g) (Keep.ofBelow hb) (good_blkA _ _ _) ⟨hB, rfl⟩ (fun k hk => by rw [hk]; exact .inr ⟨hg, hB.lt⟩)
theorem St.addNo (h : St B w0 w As) : St B w0 w (As ++ [noA]) := h.add (Below.refl _ _) (F := fun _ => False) good_noA trivial (fun _ hk => hk.elim)
end
end Go.Proofs.Ytlondopgibcikaa
