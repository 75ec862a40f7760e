/- A log on a device that obeys, plainly: what was written is what it has. -/
import Derived.Test.YtlondopgibcikaaRows
import Derived.Test.YtlondopgibcikaaPlainCrc
import Derived.Test.YtlondopgibcikaaHeap
import Derived.Test.YtlondopgibcikaaDev
import Derived.Test.YtlondopgibcikaaLogP
import Derived.Test.YtlondopgibcikaaLogY
import Derived.Test.YtlondopgibcikaaLogB
import Derived.Test.YtlondopgibcikaaLogS
import Derived.Test.YtlondopgibcikaaLogT
import Derived.Test.YtlondopgibcikaaLogQ
import Derived.Test.YtlondopgibcikaaLaw06
import Derived.Test.YtlondopgibcikaaLogR
namespace Go.Proofs.Ytlondopgibcikaa
open Go.RowKit Ent

/-- an area that has these records, and noughts behind them -/
structure LogD (d : Dev) (n f t g : Nat) (L : List (List UInt8)) : Prop where
  fine : Fine d n
  ft : f ≤ t
  tn : t < n
  g1 : 1 ≤ g
  g2 : g ≤ 2147483647
  n1 : n ≤ 65536
  room : needsOf L ≤ t - f
  lies : LiesIn (secAt d f) g 0 L
  rest : ∀ i, needsOf L ≤ i → f + i < n → secAt d f i = zr 64
theorem sec_now {d : Dev} {n base i : Nat} (h : Fine d n) (hi : base + i < n) : d.now[base + i]? = some (secAt d base i) := by
  have hl : base + i < d.now.length := by rw [Dev.now_len, h.len]; exact hi
  obtain ⟨s, hs⟩ : ∃ s, d.now[base + i]? = some s := ⟨_, List.getElem?_eq_getElem hl⟩
  rw [secAt, read_fine h hi hs, hs]
theorem sec_of {d : Dev} {n base i : Nat} (h : Fine d n) (hi : base + i < n) {s : List UInt8} (hs : d.now[base + i]? = some s) : secAt d base i = s := by
  rw [secAt, read_fine h hi hs]
theorem read_sec {d : Dev} {n base i : Nat} (h : Fine d n) (hi : base + i < n) : d.read ((base + i : Nat) : Int) = (secAt d base i, 0) := by
  rw [read_fine h hi (sec_now h hi)]
theorem LogD.new {n f t g : Nat} (h1 : f ≤ t) (h2 : t < n) (h3 : 1 ≤ g) (h4 : g ≤ 2147483647) (h5 : n ≤ 65536) : LogD (Dev.new n) n f t g [] := by
  have hf := Fine.new (n := n) (by omega) h5
  refine ⟨hf, h1, h2, h3, h4, h5, Nat.zero_le _, trivial, fun i _ hi => sec_of hf hi ?_⟩
  show (List.replicate n (zr 64))[f + i]? = _
  rw [List.getElem?_replicate, if_pos hi]
theorem sec_more {d : Dev} {n base at_ gen : Nat} {rec : List UInt8} (h : Fine d n) (hn : base + at_ + needOf rec.length ≤ n) {i : Nat} (hi : base + i < n) :
    secAt { d with loose := d.loose ++ recWs gen at_ base rec } base i = if at_ ≤ i ∧ i < at_ + needOf rec.length then recSec gen at_ rec (i - at_) else secAt d base i := by
  refine sec_of (h.more (recWs_fit hn)) hi ?_
  rw [now_more, recWs, runW_at _ _ _ _ _ (by rw [Dev.now_len, h.len]; omega)]
  by_cases h1 : at_ ≤ i ∧ i < at_ + needOf rec.length
  · rw [if_pos (by omega), if_pos h1]
    congr 2; omega
  · rw [if_neg (by omega), if_neg h1]
    exact sec_now h hi
theorem needsOf_nil : needsOf [] = 0 := rfl
theorem LogD.written {d : Dev} {n f t g : Nat} {L : List (List UInt8)} (h : LogD d n f t g L) {r : List UInt8} (hr : needsOf L + needOf r.length ≤ t - f) : LogD { d with loose := d.loose ++ recWs g (needsOf L) f r } n f t g (L ++ [r]) := by
  have h1 := h.tn; have h2 := h.ft
  have hn : f + needsOf L + needOf r.length ≤ n := by omega
  refine ⟨h.fine.more (recWs_fit hn), h.ft, h.tn, h.g1, h.g2, h.n1, by rw [needsOf_snoc]; exact hr, ?_, fun i hi hin => ?_⟩
  · refine LiesIn.snoc (h.lies.same fun i _ hi => ?_) fun j hj => ?_
    · rw [sec_more h.fine hn (by omega), if_neg (by omega)]
    · rw [sec_more h.fine hn (by omega), if_pos (by omega)]
      rw [show 0 + needsOf L + j - needsOf L = j by omega, Nat.zero_add]
  · rw [needsOf_snoc] at hi
    rw [sec_more h.fine hn hin, if_neg (by omega)]
    exact h.rest i (by omega) hin
theorem LogD.write {d : Dev} {n f t g : Nat} {L : List (List UInt8)} (h : LogD d n f t g L) {r : List UInt8} (hl : r.length ≤ 1048576) (hr : needsOf L + needOf r.length ≤ t - f) :
    logWrite d (f : Int) (t : Int) (g : Int) (needsOf L : Int) r = (((needsOf (L ++ [r]) : Int), 0), { d with loose := d.loose ++ recWs g (needsOf L) f r }) := by
  rw [write_fine h.fine h.ft (Nat.le_of_lt h.tn) h.g1 h.g2 hl hr, needsOf_snoc]
theorem LogD.full {d : Dev} {n f t g : Nat} {L : List (List UInt8)} (h : LogD d n f t g L) {r : List UInt8} (hl : r.length ≤ 1048576) (hr : t - f < needsOf L + needOf r.length) :
    logWrite d (f : Int) (t : Int) (g : Int) (needsOf L : Int) r = ((0, 10), d) :=
  write_full h.fine h.ft (Nat.le_of_lt h.tn) h.g1 h.g2 hl h.room hr
theorem LogD.now {d e : Dev} {n f t g : Nat} {L : List (List UInt8)} (h : LogD d n f t g L) (he : Fine e n) (hs : e.now = d.now) : LogD e n f t g L := by
  have key : ∀ i, f + i < n → secAt e f i = secAt d f i := fun i hi => sec_of he hi (by rw [hs]; exact sec_now h.fine hi)
  have h1 := h.tn; have h2 := h.ft; have h3 := h.room
  exact ⟨he, h.ft, h.tn, h.g1, h.g2, h.n1, h.room, h.lies.same fun i _ hi => key i (by omega), fun i hi hin => by rw [key i hin]; exact h.rest i hi hin⟩
theorem LogD.flushed {d : Dev} {n f t g : Nat} {L : List (List UInt8)} (h : LogD d n f t g L) : LogD { d with img := d.now, loose := [] } n f t g L := h.now h.fine.flushed rfl
theorem LogD.scan {d : Dev} {n f t g : Nat} {L : List (List UInt8)} (h : LogD d n f t g L) : hasB d (f : Int) (t : Int) (g : Int) (needsOf L : Int) L = true := by
  have h1 := h.tn; have h2 := h.ft
  exact has_fine h.fine h.ft (Nat.le_of_lt h.tn) h.g1 h.g2 (scan_all h.lies h.room fun hlt => by rw [h.rest _ (Nat.le_refl _) (by omega)]; exact wrong_zr _ _)
/-- what lies in a sector: a record's, or noughts -/
theorem LogD.what {d : Dev} {n f t g : Nat} {L : List (List UInt8)} (h : LogD d n f t g L) {i : Nat} (hi : f + i < n) : (∃ k p, secAt d f i = logSec g i k p) ∨ secAt d f i = zr 64 := by
  by_cases h1 : i < needsOf L
  · exact .inl (h.lies.at i (Nat.zero_le _) (by omega))
  · exact .inr (h.rest i (by omega) hi)
theorem has_none {d : Dev} {n f t g : Nat} (h : Fine d n) (h1 : f ≤ t) (h2 : t < n) (h3 : 1 ≤ g) (h4 : g ≤ 2147483647) (hz : rightOf (secAt d f 0) g 0 = none) : hasB d (f : Int) (t : Int) (g : Int) 0 [] = true :=
  has_fine (N := 0) h h1 (Nat.le_of_lt h2) h3 h4 (scanS_stop hz)
/-- under another generation -/
theorem LogD.other {d : Dev} {n f t g o : Nat} {L : List (List UInt8)} (h : LogD d n f t g L) (h3 : 1 ≤ o) (h4 : o ≤ 2147483647) (hne : g ≠ o) : hasB d (f : Int) (t : Int) (o : Int) 0 [] = true := by
  have h1 := h.tn; have h2 := h.ft; have h5 := h.g2
  refine has_none h.fine h.ft h.tn h3 h4 ?_
  rcases h.what (i := 0) (by omega) with ⟨k, p, hs⟩ | hs
  · rw [hs]; exact wrong_sec (by omega) (by omega) (by omega) (by omega) (.inl hne)
  · rw [hs]; exact wrong_zr _ _
/-- from the next sector on -/
theorem LogD.next {d : Dev} {n f t g : Nat} {L : List (List UInt8)} (h : LogD d n f t g L) (hft : f < t) : hasB d ((f + 1 : Nat) : Int) (t : Int) (g : Int) 0 [] = true := by
  have h1 := h.tn; have h2 := h.ft; have h5 := h.g2
  refine has_none h.fine hft h.tn h.g1 h.g2 ?_
  rw [show secAt d (f + 1) 0 = secAt d f 1 from rfl]
  rcases h.what (i := 1) (by omega) with ⟨k, p, hs⟩ | hs
  · rw [hs]; exact wrong_sec (by omega) (by omega) (by omega) (by omega) (.inr (by omega))
  · rw [hs]; exact wrong_zr _ _
/-- a sector of another place, behind the records -/
theorem LogD.alien {d : Dev} {n f t g : Nat} {L : List (List UInt8)} (h : LogD d n f t g L) {b : List UInt8} (hb : b.length = 64) (hr : rightOf b g (needsOf L) = none) :
    d.write ((f + needsOf L : Nat) : Int) b = (0, { d with loose := d.loose ++ [(f + needsOf L, b)] }) ∧ hasB { d with loose := d.loose ++ [(f + needsOf L, b)] } (f : Int) (t : Int) (g : Int) (needsOf L : Int) L = true := by
  have h1 := h.tn; have h2 := h.ft; have h3 := h.room
  have hin : f + needsOf L < n := by omega
  refine ⟨h.fine.write hin hb, ?_⟩
  have hf := h.fine.more (ws := [(f + needsOf L, b)]) (by intro x hx; simp at hx; subst hx; exact ⟨hin, hb⟩)
  have key : ∀ i, f + i < n → secAt { d with loose := d.loose ++ [(f + needsOf L, b)] } f i = if i = needsOf L then b else secAt d f i := fun i hi => by
    refine sec_of hf hi ?_
    rw [now_more]
    show (d.now.set (f + needsOf L) b)[f + i]? = _
    rw [List.getElem?_set]
    by_cases he : i = needsOf L
    · subst he
      rw [if_pos rfl, if_pos rfl, if_pos (by rw [Dev.now_len, h.fine.len]; exact hi)]
    · rw [if_neg (by omega), if_neg he]
      exact sec_now h.fine hi
  refine has_fine hf h.ft (Nat.le_of_lt h.tn) h.g1 h.g2 (scan_all (h.lies.same fun i _ hi => ?_) h.room fun hlt => ?_)
  · rw [key i (by omega), if_neg (by omega)]
  · rw [key _ hin, if_pos rfl]; exact hr
end Go.Proofs.Ytlondopgibcikaa
