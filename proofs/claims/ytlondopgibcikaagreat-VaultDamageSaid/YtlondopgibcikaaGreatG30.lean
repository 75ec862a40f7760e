/- The vault's Open. -/
import Derived.Test.YtlondopgibcikaaGreatRows
import Derived.Test.YtlondopgibcikaaGreatG01
import Derived.Test.YtlondopgibcikaaGreatG02
import Derived.Test.YtlondopgibcikaaGreatG03
import Derived.Test.YtlondopgibcikaaGreatG06
import Derived.Test.YtlondopgibcikaaGreatG07
import Derived.Test.YtlondopgibcikaaGreatG08
import Derived.Test.YtlondopgibcikaaGreatG09
import Derived.Test.YtlondopgibcikaaGreatG10
import Derived.Test.YtlondopgibcikaaGreatG14
import Derived.Test.YtlondopgibcikaaGreatG15
import Derived.Test.YtlondopgibcikaaGreatG16
import Derived.Test.YtlondopgibcikaaGreatG17
import Derived.Test.YtlondopgibcikaaGreatG18
import Derived.Test.YtlondopgibcikaaGreatG21
import Derived.Test.YtlondopgibcikaaGreatG22
import Derived.Test.YtlondopgibcikaaGreatG23
import Derived.Test.YtlondopgibcikaaGreatG24
import Derived.Test.YtlondopgibcikaaGreatG25
import Derived.Test.YtlondopgibcikaaGreatG26
import Derived.Test.YtlondopgibcikaaGreatG27
import Derived.Test.YtlondopgibcikaaGreatG28
import Derived.Test.YtlondopgibcikaaGreatG29
import Derived.WalkKit
import Derived.WalkSpells
import Derived.WalkLawsBesides
import Derived.Deep.RegionHeld3
import Derived.Deep.QuietTactic
import Derived.BigQuiet
namespace Go.Proofs.YtlondopgibcikaaGreat
open Go.RowKit Ent
theorem rowFd : RowT 89 91 (.agg #[.int .i64 0]) 1 8 := ⟨Tryz.underlying89, info_parts (P := Tryz.prog) (by kernel_rfl), rfl, by decide, by decide, by decide⟩
/-- one of the later assets alone -/
theorem St.pick {B : Nat} {w0 w : World} {As X : List Asset} (h : St B w0 w (As ++ X)) (k : Nat) {A : Asset} (hk : X[k]? = some A) : St B w0 w (As ++ [A]) := by
  obtain ⟨Fs, hl, ho, hd⟩ := h.own
  have hkl := (List.getElem?_eq_some_iff.1 hk).1
  have hlen : Fs.length = As.length + X.length := by rw [hl, List.length_append]
  obtain ⟨F, hF⟩ : ∃ F, Fs[As.length + k]? = some F := ⟨_, List.getElem?_eq_getElem (by omega)⟩
  have key : ∀ (i : Nat) (G : Nat → Prop), (Fs.take As.length ++ [F])[i]? = some G → ∃ m, Fs[m]? = some G ∧ (i < As.length ∧ m = i ∨ i = As.length ∧ m = As.length + k) := by
    intro i G hG
    by_cases hi : i < As.length
    · rw [List.getElem?_append_left (by rw [List.length_take]; omega), List.getElem?_take, if_pos hi] at hG
      exact ⟨i, hG, .inl ⟨hi, rfl⟩⟩
    · have h1 := (List.getElem?_eq_some_iff.1 hG).1
      simp only [List.length_append, List.length_take, List.length_cons, List.length_nil] at h1
      obtain rfl : i = As.length := by omega
      rw [List.getElem?_append_right (by rw [List.length_take]; omega), List.length_take, Nat.min_eq_left (by omega), Nat.sub_self] at hG
      injection hG with hG
      subst hG
      exact ⟨_, hF, .inr ⟨rfl, rfl⟩⟩
  refine ⟨h.bl, h.be, Fs.take As.length ++ [F], by simp; omega, fun i C G hC hG => ?_, fun i j G H hij hG hH => ?_⟩
  · obtain ⟨m, hm, hh⟩ := key i G hG
    rcases hh with ⟨h1, rfl⟩ | ⟨rfl, rfl⟩
    · rw [List.getElem?_append_left h1] at hC
      exact ho _ C G (get_pre hC) hm
    · rw [List.getElem?_append_right (Nat.le_refl _), Nat.sub_self] at hC
      injection hC with hC
      subst hC
      exact ho _ _ G (get_post k hk) hm
  · obtain ⟨m, hm, h1⟩ := key i G hG
    obtain ⟨n, hn, h2⟩ := key j H hH
    exact hd m n G H (by omega) hm hn
theorem St.dev_readF {B : Nat} {w0 w w1 : World} {As : List Asset} {a : Nat} {d : Dev} (h : St B w0 w As) (hb : Below w.heap.size w w1) (i : Nat) (hi : As[i]? = some (dev a d)) (k : Int) :
    Calls Tryz.prog 56 #[ptr a, .int .i64 k] w1 fun e w' => ∃ v, e = .returned (.tuple #[v, .int .i64 (d.read k).2]) ∧ Fresh w1.heap.size w' v (d.read k).1 ∧ Below w1.heap.size w1 w' := by
  obtain ⟨F, hA, _⟩ := h.open2 hb i hi
  exact lift_read k w1 hA
/-- the generations that superblocks tell -/
def supGens (d : Dev) (k : Nat) : List Nat := (List.range k).flatMap fun (i : Nat) => if isSup (d.read (i : Int)).1 d.img.length then [genOf (d.read (i : Int)).1] else []
theorem supGens_succ (d : Dev) (k : Nat) : supGens d (k + 1) = supGens d k ++ (if isSup (d.read (k : Int)).1 d.img.length then [genOf (d.read (k : Int)).1] else []) := by
  simp [supGens, List.range_succ]
theorem supGens_len (d : Dev) : ∀ (k : Nat), (supGens d k).length ≤ k
  | 0 => by simp [supGens]
  | k + 1 => by
    have := supGens_len d k
    rw [supGens_succ, List.length_append]
    split
    · simp; omega
    · simp; omega
theorem supGens_le (d : Dev) : ∀ (k g : Nat), g ∈ supGens d k → 1 ≤ g ∧ g ≤ 2147483647
  | 0, g, h => by simp [supGens] at h
  | k + 1, g, h => by
    rw [supGens_succ, List.mem_append] at h
    rcases h with h | h
    · exact supGens_le d k g h
    · split at h
      · rename_i hs
        simp at h
        subst h
        unfold isSup at hs
        simp only [Bool.and_eq_true, decide_eq_true_eq] at hs
        exact hs.1
      · simp at h
theorem maxOf_mem : ∀ (gs : List Nat), gs ≠ [] → maxOf gs ∈ gs := by
  have key : ∀ (gs : List Nat) (m : Nat), gs.foldl max m = m ∨ gs.foldl max m ∈ gs := by
    intro gs
    induction gs with
    | nil => intro m; exact .inl rfl
    | cons x gs ih =>
      intro m
      rw [List.foldl_cons]
      rcases ih (max m x) with h | h
      · rw [h]
        rcases Nat.le_total m x with h1 | h1
        · rw [Nat.max_eq_right h1]; exact .inr (by simp)
        · rw [Nat.max_eq_left h1]; exact .inl rfl
      · exact .inr (List.mem_cons_of_mem _ h)
  intro gs hne
  cases gs with
  | nil => exact absurd rfl hne
  | cons x gs =>
    unfold maxOf
    rw [List.foldl_cons, Nat.zero_max]
    rcases key gs x with h | h
    · rw [h]; simp
    · exact List.mem_cons_of_mem _ h
theorem read_out {d : Dev} (h : d.out = true) (i : Int) : (d.read i).2 = 22 := by unfold Dev.read; rw [h]; rfl
theorem read_code {d : Dev} (h : d.out = false) {i : Nat} (hi : i < d.img.length) : (d.read (i : Int)).2 = 0 := by
  have hh : has d.now.length (i : Int) = true := by rw [Dev.now_len]; simp [has]; omega
  unfold Dev.read
  rw [h]
  show (secOf d.now (i : Int)).2 = 0
  unfold secOf
  rw [hh]; rfl
/-- what is scanned of a generation's area -/
def scanG (d : Dev) (g : Nat) : List (List UInt8) × Int × Int := logScan d (fromOf d.img.length g : Nat) (fromOf d.img.length g + halfOf d.img.length : Nat) (g : Nat)
def openedD (d : Dev) (g : Nat) : Int × Dev × Option VS :=
  if (scanG d g).2.2 ≠ 0 then ((scanG d g).2.2, d, none)
  else if fitsOf g d.img.length (scanG d g).1 ≠ 0 then (fitsOf g d.img.length (scanG d g).1, d, none)
  else if (movesD d (g + 1) (scanG d g).1).1 = 0 then (0, (movesD d (g + 1) (scanG d g).1).2.1, some ⟨g + 1, (movesD d (g + 1) (scanG d g).1).2.2, false, (scanG d g).1⟩)
  else ((movesD d (g + 1) (scanG d g).1).1, (movesD d (g + 1) (scanG d g).1).2.1, none)
def openD (d : Dev) : Int × Dev × Option VS :=
  if d.img.length < 8 then (3, d, none) else if d.out then (22, d, none) else if supGens d 2 = [] then (23, d, none) else openedD d (maxOf (supGens d 2))
theorem scan_many (d : Dev) (base gen : Nat) : ∀ (m i : Nat) (out : List (List UInt8)) (next : Nat) (rec : List UInt8) (b : Bool), (scanLoop d base gen m i out next rec b).1.length ≤ out.length + m
  | 0, _, out, _, _, _ => Nat.le_refl _
  | m + 1, i, out, next, rec, b => by
    rw [scanLoop]
    rcases rightOf (d.read ((base + i : Nat) : Int)).1 gen i with _ | ⟨k, p⟩
    · simp only; omega
    · simp only
      split
      · simp only; omega
      · split
        · have := scan_many d base gen m (i + 1) out next (rec ++ p) true; omega
        · have := scan_many d base gen m (i + 1) (out ++ [rec ++ p]) (i + 1) [] false
          rw [List.length_append] at this; simp at this; omega
theorem scanG_many (d : Dev) (g : Nat) : (scanG d g).1.length ≤ halfOf d.img.length := by
  unfold scanG logScan
  split
  · simp
  · split
    · simp
    · have := scan_many d (fromOf d.img.length g : Int).toNat (g : Int).toNat (((fromOf d.img.length g + halfOf d.img.length : Nat) : Int) - (fromOf d.img.length g : Nat)).toNat 0 [] 0 [] false
      simp only [List.length_nil, Nat.zero_add] at this
      refine Nat.le_trans this ?_
      omega
/-- a vault, or none -/
def openedA (B : Nat) (w0 w : World) (As : List Asset) (a : Nat) : Option VS → Value → Prop
  | none, r => r = .pointer none ∧ St B w0 w As
  | some s, r => ∃ v, r = ptr v ∧ St B w0 w (As ++ [vsA v a s])
theorem open2_any {B : Nat} {w0 w : World} {As : List Asset} {a : Nat} {d : Dev} (h : St B w0 w As) (i : Nat) (hi : As[i]? = some (dev a d)) (j v : Nat) (s : VS) (hj : As[j]? = some (vsA v a s)) (kv kl bv bl : Nat) (lo : Option Addr) (len c : Nat) (hkv : As[kv]? = some (blkA bv 34 [ptr v])) (hkl : As[kl]? = some (blkA bl 39 [.slice lo len c])) (L : List (List UInt8)) (hL : LR w lo L) (hlen : len = L.length) (hl1 : len ≤ 1000) (hg : s.gen ≤ 2147483648) (hl2 : ∀ l ∈ L, l.length ≤ 1073741824) (hn2 : 2 ≤ d.img.length) :
    Calls Tryz.prog 65 #[ptr bv, ptr bl] w fun e w' => e = .returned (.int .i64 (fitsOf s.gen d.img.length L)) ∧ St B w0 w' As := by
  have cv := (h.blk kv hkv).cell (j := 0) rfl
  have cl := (h.blk kl hkl).cell (j := 0) rfl
  have HC := hid (h.v_fits i hi j hj lo len c L hL hlen hl1 hg hl2 hn2)
  clear h hi hj hkv hkl hL hlen hl2
  unfold ptr at cv HC ⊢
  go_enter Tryz.func65, Tryz.ntmps65
  go_wp2_with fail
  refine HC.out.mono ?_
  rintro e w' ⟨rfl, h'⟩
  have H' := hid h'
  clear h'
  go_wp2
  go_ret
  exact ⟨rfl, H'.out⟩
theorem open3_any {B : Nat} {w0 w : World} {As : List Asset} {a : Nat} {d : Dev} (h : St B w0 w As) (i : Nat) (hi : As[i]? = some (dev a d)) (j v : Nat) (s : VS) (hj : As[j]? = some (vsA v a s)) (hij : i ≠ j) (kv kl bv bl : Nat) (lo : Option Addr) (len c : Nat) (hkv : As[kv]? = some (blkA bv 34 [ptr v])) (hkl : As[kl]? = some (blkA bl 39 [.slice lo len c])) (L : List (List UInt8)) (hlen : len = L.length) (hl1 : len ≤ 1000) (hL : LentI B w0 As i lo L) (hl2 : ∀ l ∈ L, l.length ≤ 1073741824) (hg : s.gen < 2147483648) (hn2 : 2 ≤ d.img.length) (hlo : d.loose.length ≤ 100000000) :
    Calls Tryz.prog 67 #[ptr bv, ptr bl] w fun e w' => e = .returned (.int .i64 (movesD d (s.gen + 1) L).1) ∧ St B w0 w' ((As.set i (dev a (movesD d (s.gen + 1) L).2.1)).set j (asIf (movesD d (s.gen + 1) L).1 (vaultA v a (s.gen + 1) (movesD d (s.gen + 1) L).2.2 s.br L) (vaultA v a s.gen s.next s.br s.L))) := by
  have cv := (h.blk kv hkv).cell (j := 0) rfl
  have cl := (h.blk kl hkl).cell (j := 0) rfl
  have HC := hid (vmoves_any h i hi j v s.gen s.next s.br s.L hj hij lo len c L hlen hl1 hL hl2 hg hn2 hlo)
  clear h hi hj hkv hkl hL hlen hl2
  unfold ptr at cv HC ⊢
  go_enter Tryz.func67, Tryz.ntmps67
  go_wp2_with fail
  refine HC.out.mono ?_
  rintro e w' ⟨rfl, h'⟩
  have H' := hid h'
  clear h'
  go_wp2
  go_ret
  exact ⟨rfl, H'.out⟩
theorem enter_o2 (xs : Array Value) (w : World) : (callFunc 65 xs).run Tryz.prog w = .ok (.enter 65 xs) w := by kernel_rfl
theorem enter_o3 (xs : Array Value) (w : World) : (callFunc 67 xs).run Tryz.prog w = .ok (.enter 67 xs) w := by kernel_rfl
theorem vopen_all {B : Nat} {w0 w : World} {As : List Asset} {a : Nat} {d : Dev} (i : Nat) (hi : As[i]? = some (dev a d)) (v gen : Nat) (bl bp g : Nat) (lo : Option Addr) (len c : Nat) (L : List (List UInt8)) (hlen : len = L.length) (hl1 : len ≤ 1000) (hl2 : ∀ l ∈ L, l.length ≤ 1073741824) (hg : gen < 2147483648) (hn2 : 2 ≤ d.img.length) (hlo : d.loose.length ≤ 100000000)
    (h : St B w0 w (As ++ [lstA lo L, blkA bl 39 [.slice lo len c], vaultA v a gen 0 false [], blkA bp 34 [ptr v], blkA g 49 [.func (.func 65) #[] #[ptr bp, ptr bl], .func (.func 67) #[] #[ptr bp, ptr bl]]])) :
    Calls Tryz.prog 64 #[.slice (some ⟨g, 0, none⟩) 2 2] w fun e w' => e = .returned (.int .i64 (firstOf (fitsOf gen d.img.length L) (movesD d (gen + 1) L).1)) ∧ (fitsOf gen d.img.length L ≠ 0 → St B w0 w' As) ∧ (fitsOf gen d.img.length L = 0 → St B w0 w' (As.set i (dev a (movesD d (gen + 1) L).2.1) ++ [lstA lo L, blkA bl 39 [.slice lo len c], asIf (movesD d (gen + 1) L).1 (vaultA v a (gen + 1) (movesD d (gen + 1) L).2.2 false L) (vaultA v a gen 0 false []), blkA bp 34 [ptr v], blkA g 49 [.func (.func 65) #[] #[ptr bp, ptr bl], .func (.func 67) #[] #[ptr bp, ptr bl]]])) := by
  have hij : i ≠ As.length + 2 := ne_post hi 2
  have hL : LentI B w0 (As ++ [lstA lo L, blkA bl 39 [.slice lo len c], vaultA v a gen 0 false [], blkA bp 34 [ptr v], blkA g 49 [.func (.func 65) #[] #[ptr bp, ptr bl], .func (.func 67) #[] #[ptr bp, ptr bl]]]) i lo L := .inr ⟨As.length + 0, _, ne_post hi 0, get_post 0 rfl, fun _ _ h => h⟩
  have hjv : (As ++ [lstA lo L, blkA bl 39 [.slice lo len c], vaultA v a gen 0 false [], blkA bp 34 [ptr v], blkA g 49 [.func (.func 65) #[] #[ptr bp, ptr bl], .func (.func 67) #[] #[ptr bp, ptr bl]]])[As.length + 2]? = some (vsA v a ⟨gen, 0, false, []⟩) := get_post 2 rfl
  refine (vall_seq (S := Nat) (fun p w => if p = 0 then St B w0 w (As ++ [lstA lo L, blkA bl 39 [.slice lo len c], vaultA v a gen 0 false [], blkA bp 34 [ptr v], blkA g 49 [.func (.func 65) #[] #[ptr bp, ptr bl], .func (.func 67) #[] #[ptr bp, ptr bl]]]) else St B w0 w (((As ++ [lstA lo L, blkA bl 39 [.slice lo len c], vaultA v a gen 0 false [], blkA bp 34 [ptr v], blkA g 49 [.func (.func 65) #[] #[ptr bp, ptr bl], .func (.func 67) #[] #[ptr bp, ptr bl]]]).set i (dev a (movesD d (gen + 1) L).2.1)).set (As.length + 2) (asIf (movesD d (gen + 1) L).1 (vaultA v a (gen + 1) (movesD d (gen + 1) L).2.2 false L) (vaultA v a gen 0 false [])))) (fun k p => k < 2 → p = 0) (fun k _ => (if k = 0 then fitsOf gen d.img.length L else (movesD d (gen + 1) L).1, k)) g 2 (by omega) (fun k => if k = 0 then 65 else 67) (fun _ => #[]) (fun _ => #[ptr bp, ptr bl]) ?_ ?_ ?_ w 0 h (fun _ => rfl)).mono ?_
  · intro k p w' hk hs
    have hb : Blk w' g 49 [.func (.func 65) #[] #[ptr bp, ptr bl], .func (.func 67) #[] #[ptr bp, ptr bl]] := by
      split at hs
      · exact hs.blk (As.length + 4) (get_post 4 rfl)
      · refine hs.blk (As.length + 4) ?_
        rw [List.getElem?_set_ne (by omega), List.getElem?_set_ne (ne_post hi 4)]
        exact get_post 4 rfl
    rcases (by omega : k = 0 ∨ k = 1) with rfl | rfl
    · exact hb.cell (j := 0) rfl
    · exact hb.cell (j := 1) rfl
  · intro k p w' hk hp hs
    obtain rfl := hp hk
    have hs : St B w0 w' (As ++ [lstA lo L, blkA bl 39 [.slice lo len c], vaultA v a gen 0 false [], blkA bp 34 [ptr v], blkA g 49 [.func (.func 65) #[] #[ptr bp, ptr bl], .func (.func 67) #[] #[ptr bp, ptr bl]]]) := hs
    rcases (by omega : k = 0 ∨ k = 1) with rfl | rfl
    · obtain ⟨F, hF⟩ := hL.lrf hs
      refine (open2_any hs i (get_pre hi) (As.length + 2) v ⟨gen, 0, false, []⟩ hjv (As.length + 3) (As.length + 1) bp bl lo len c (get_post 3 rfl) (get_post 1 rfl) L hF.lr hlen hl1 (by simp only; omega) hl2 hn2).mono ?_
      rintro e w2 ⟨rfl, h2⟩
      exact ⟨rfl, h2, fun _ _ => rfl⟩
    · refine (open3_any hs i (get_pre hi) (As.length + 2) v ⟨gen, 0, false, []⟩ hjv hij (As.length + 3) (As.length + 1) bp bl lo len c (get_post 3 rfl) (get_post 1 rfl) L hlen hl1 hL hl2 hg hn2 hlo).mono ?_
      rintro e w2 ⟨rfl, h2⟩
      exact ⟨rfl, h2, fun _ h0 => absurd h0 (by omega)⟩
  · intro k hk xs w'
    rcases (by omega : k = 0 ∨ k = 1) with rfl | rfl
    · exact enter_o2 xs w'
    · exact enter_o3 xs w'
  · rintro e w' ⟨rfl, h'⟩
    have e1 : seqOf (fun k (_ : Nat) => (if k = 0 then fitsOf gen d.img.length L else (movesD d (gen + 1) L).1, k)) 0 2 0 = if fitsOf gen d.img.length L = 0 then ((movesD d (gen + 1) L).1, 1) else (fitsOf gen d.img.length L, 0) := by
      show (if fitsOf gen d.img.length L = 0 then (if (movesD d (gen + 1) L).1 = 0 then ((0 : Int), 1) else ((movesD d (gen + 1) L).1, 1)) else (fitsOf gen d.img.length L, 0)) = _
      by_cases h1 : (movesD d (gen + 1) L).1 = 0
      · rw [if_pos h1, h1]
      · rw [if_neg h1]
    rw [e1] at h' ⊢
    unfold firstOf
    by_cases h0 : fitsOf gen d.img.length L = 0
    · rw [if_pos h0] at h' ⊢
      rw [if_pos h0]
      rw [if_neg (by simp)] at h'
      rw [set_pre hi, set_postTurn] at h'
      exact ⟨rfl, fun h => absurd h0 h, fun _ => h'⟩
    · rw [if_neg h0] at h' ⊢
      rw [if_neg h0]
      exact ⟨rfl, fun _ => h'.drop_post, fun h => absurd h h0⟩
set_option maxRecDepth 100000 in
set_option maxHeartbeats 2000000 in
theorem vopen_any {B : Nat} {w0 w : World} {As : List Asset} {a : Nat} {d : Dev} (h : St B w0 w As) (i : Nat) (hi : As[i]? = some (dev a d)) (hn : d.img.length ≤ 1000) (hlo : d.loose.length ≤ 100000000) :
    Calls Tryz.prog 21 #[ptr a] w fun e w' => ∃ r, e = .returned (.tuple #[r, .int .i64 (openD d).1]) ∧ openedA B w0 w' (As.set i (dev a (openD d).2.1)) a (openD d).2.2 r := by
  have hok := h.ok i hi
  obtain ⟨F, hA, _⟩ := h.open i hi
  have HM := hid (vmay_any w hA)
  have H := hid h; have HI := hid hi; have HOK := hid hok
  clear h hi hA hok
  unfold ptr at HM ⊢
  by_cases h8 : d.img.length < 8
  · have HE : Hid (openD d = (3, d, none)) := hid (by unfold openD; rw [if_pos h8])
    have HE2 : Hid (mayOf d = 3) := hid (by unfold mayOf; rw [if_pos h8])
    go_enter Tryz.func21, Tryz.ntmps21
    go_wp2_with fail
    refine HM.out.mono ?_
    rintro e w' ⟨rfl, hw'⟩
    subst w'
    rw [HE2.out]
    go_wp2
    go_ret2
    rw [HE.out]
    exact ⟨_, rfl, rfl, by rw [set_same HI.out]; exact H.out⟩
  · have HE2 : Hid (mayOf d = 0) := hid (by unfold mayOf; rw [if_neg h8])
    obtain ⟨n, hnn⟩ : ∃ n, d.img.length = n := ⟨_, rfl⟩
    have HN := hid hnn
    rw [hnn] at h8 hn
    clear hnn
    go_enter Tryz.func21, Tryz.ntmps21
    go_wp2_with fail
    refine HM.out.mono ?_
    rintro e w' ⟨rfl, hw'⟩
    subst w'
    rw [HE2.out]
    go_wp2_with fail
    go_loopw [5, 22] (fun v5 x wr => ∃ (vo : Value) (k : Nat), vo = v5 ∧ k ≤ 2 ∧ x = .int .i64 k ∧ (d.out = true → k = 0) ∧ wr.ownsRow w.heap.size 91 1 vo (supGens d k).length ((supGens d k).map fun (g : Nat) => Value.int .i64 (g : Int)) ∧ Below w.heap.size w wr) (fun _ x _ => 2 - (intOf x).toNat)
    case atStart => exact ⟨_, 0, rfl, by omega, rfl, fun _ => rfl, World.ownsRow_nil _ _ _ _, Below.refl _ _⟩
    case round =>
      obtain ⟨vo, k, rfl, hk, rfl, hout, ho, hb⟩ := hrel
      have HO := hid ho; have HB := hid hb; have HOUT := hid hout
      clear ho hb hout
      by_cases hlt : k < 2
      · go_wp2_with fail
        refine (H.out.dev_readF HB.out i HI.out (k : Int)).mono ?_
        rintro e w3 ⟨vr, rfl, hf3, hb3⟩
        rcases hout : d.out with _ | _
        · rw [read_code hout (by rw [HN.out]; omega)]
          have hl64 := read_len HOK.out hout (i := k) (by rw [HN.out]; omega)
          obtain ⟨ao, cap, rfl, hcap, hsb, _, _⟩ := hf3
          obtain ⟨b, hbb⟩ : ∃ b, (d.read (k : Int)).1 = b := ⟨_, rfl⟩
          have hsg := supGens_succ d k
          rw [hbb] at hl64 hcap hsb hsg ⊢
          rw [HN.out] at hsg
          obtain ⟨g, o, rfl, hrg⟩ : ∃ g o, ao = some ⟨g, o, none⟩ ∧ w3.rangeAt g o (bv b) := by
            rcases hsb with ⟨_, _, h0⟩ | ⟨_, _, h0⟩ | ⟨g, o, h1, h2⟩
            · rw [h0] at hl64; simp at hl64
            · rw [h0] at hl64; simp at hl64
            · exact ⟨g, o, h1, h2⟩
          have HB3 := hid (HB.out.trans (hb3.mono HB.out.size))
          have HO3 := hid (owns_below HO.out hb3)
          have HRG := hid hrg; have HSG := hid hsg; have HL64 := hid hl64
          rw [hl64]
          rw [hl64] at hcap
          have HOU := hid hout
          clear hb3 hrg hsg hl64 hsb hbb hout
          go_wp2_with fail
          refine ((H.out.below HB3.out).dev_size i HI.out).mono ?_
          rintro e w' ⟨rfl, hw'⟩
          subst w'
          rw [HN.out]
          go_wp2_with fail
          refine (vread_any g o cap n b HL64.out hcap (by omega) w3 HRG.out).mono ?_
          rintro e w5 ⟨rfl, hb5⟩
          obtain ⟨gn, hgn⟩ : ∃ gn, genOf b = gn := ⟨_, rfl⟩
          rw [hgn] at HSG ⊢
          obtain ⟨w6, hw6⟩ : ∃ w6, w5.alloc (.cells #[.int .i64 (gn : Nat)] 91) = w6 := ⟨_, rfl⟩
          obtain ⟨bf, hbf⟩ : ∃ bf, w5.heap.size = bf := ⟨_, rfl⟩
          have h6 : Blk w6 bf 91 [.int .i64 (gn : Nat)] := by rw [← hw6, ← hbf]; exact alloc_new _ _
          have HB6 : Hid (Below w.heap.size w w6) := hid (by rw [← hw6]; exact (HB3.out.trans (hb5.mono HB3.out.size)).alloc (Nat.le_trans HB3.out.size hb5.size) _)
          have HO6 : Hid (w6.ownsRow w.heap.size 91 1 vo (supGens d k).length ((supGens d k).map fun (g : Nat) => Value.int .i64 (g : Int))) := hid (by rw [← hw6]; exact owns_below (owns_below HO3.out hb5) (fresh_alloc w5 _))
          have HW6 := hid hw6; have HBF := hid hbf
          have cf := h6.cell (j := 0) rfl
          clear hb5 hgn hw6 hbf h6
          go_upto_region 12 with fail
          rw [HBF.out, HW6.out]
          rcases his : isSup b n with _ | _
          · have HSG : Hid (supGens d (k + 1) = supGens d k) := hid (by rw [HSG.out, his]; simp)
            clear his
            go_wp2_with fail
            go_roundw
            case rel => exact ⟨vo, k + 1, rfl, by omega, by go_num, (fun h => absurd h (by rw [HOU.out]; simp)), by rw [HSG.out]; exact HO6.out, HB6.out⟩
            case measure => simp [intOf]; omega
          · have HSG : Hid (supGens d (k + 1) = supGens d k ++ [gn]) := hid (by rw [HSG.out, his]; simp)
            clear his
            go_wp2_with (refine wpl_appendR rowFd rfl (.tmp 42) (.tmp 44) rfl w.heap.size vo _ ((supGens d k).map fun (g : Nat) => Value.int .i64 (g : Int)) rfl (owns_below HO6.out (fresh_alloc w6 _)) w6.heap.size rfl [.int .i64 (gn : Nat)] (alloc_new w6 _) rfl (by intro u hu; simp at hu; subst hu; rfl) (by have := supGens_len d k; omega) (HB6.out.alloc HB6.out.size _).size ?_; intro v7 w7 ho7 hg7 hw7; have HO7 := hid ho7; have HB7 := hid ((HB6.out.alloc HB6.out.size (.cells #[.int .i64 (gn : Nat)] 91)).grown hg7 (HB6.out.alloc HB6.out.size _).size (owns_ge HO6.out)); clear ho7 hg7 hw7)
            go_roundw
            case rel => exact ⟨v7, k + 1, rfl, by omega, by go_num, (fun h => absurd h (by rw [HOU.out]; simp)), by rw [HSG.out]; simpa using HO7.out, HB7.out⟩
            case measure => simp [intOf]; omega
        · rw [read_out hout]
          have HE : Hid (openD d = (22, d, none)) := hid (by unfold openD; rw [if_neg (by rw [HN.out]; exact h8), hout, if_pos rfl])
          have HB3 := hid (HB.out.trans (hb3.mono HB.out.size))
          obtain ⟨ao, cap, rfl, _⟩ := hf3
          clear hb3 hout
          go_wp2
          go_ret2
          rw [HE.out]
          exact ⟨_, rfl, rfl, by rw [set_same HI.out]; exact H.out.below HB3.out⟩
      · obtain rfl : k = 2 := by omega
        rcases hout : d.out with _ | _
        case true => exact absurd (HOUT.out hout) (by omega)
        have hsl := supGens_len d 2
        have HOF : Hid (d.out = false) := hid hout
        clear hout HOUT
        by_cases hgs : supGens d 2 = []
        · have HE : Hid (openD d = (23, d, none)) := hid (by unfold openD; rw [if_neg (by rw [HN.out]; exact h8), HOF.out, if_neg (by simp), if_pos hgs])
          have ho := HO.out
          rw [hgs] at ho
          obtain ⟨ao, c, rfl⟩ := own_slice ho
          clear ho hgs
          simp only [List.length_nil]
          go_wp2
          go_ret2
          rw [HE.out]
          exact ⟨_, rfl, rfl, by rw [set_same HI.out]; exact H.out.below HB.out⟩
        have HE : Hid (openD d = openedD d (maxOf (supGens d 2))) := hid (by unfold openD; rw [if_neg (by rw [HN.out]; exact h8), HOF.out, if_neg (by simp), if_neg hgs])
        obtain ⟨hg1, hg2⟩ := supGens_le d 2 _ (maxOf_mem _ hgs)
        obtain ⟨m, hm⟩ : ∃ m, (supGens d 2).length = m := ⟨_, rfl⟩
        have hm0 : 1 ≤ m := by rw [← hm]; exact Nat.pos_of_ne_zero (fun h => hgs (List.eq_nil_of_length_eq_zero h))
        have HMM := hid hm
        have ho := HO.out
        rw [hm] at ho hsl
        obtain ⟨g, c, rfl, hcell⟩ : ∃ g c, vo = .slice (some ⟨g, 0, none⟩) m c ∧ ∀ (k x : Nat), (supGens d 2)[k]? = some x → wr.cell? ⟨g, 0 + k, none⟩ = some (.int .i64 (x : Nat)) := by
          rcases ho.2 with ⟨_, h0⟩ | ⟨g, c, cur, hv, hg, hh, hc, hm', hs, ht⟩
          · omega
          · refine ⟨g, c, hv, fun k x hx => ?_⟩
            have hkl := (List.getElem?_eq_some_iff.1 hx).1
            have e1 := congrArg (fun l => l[k]?) ht
            simp only [List.getElem?_map, hx, Option.map_some, List.getElem?_take] at e1
            rw [if_pos (by omega)] at e1
            rw [Nat.zero_add, cell_of_row wr g k cur _ _ hh]
            simpa using e1
        have qm : ((m : Int) == 0) = false := by rw [beq_eq_false_iff_ne]; omega
        have HCELL := hid hcell
        obtain ⟨gm, hgm⟩ : ∃ gm, maxOf (supGens d 2) = gm := ⟨_, rfl⟩
        rw [hgm] at hg1 hg2 HE
        have HGM := hid hgm
        clear ho hm hgs hcell hgm
        go_wp2_with fail
        refine (maxfunc_any g 0 m c (supGens d 2) HMM.out.symm hm0 (by omega) wr HCELL.out).mono ?_
        rintro e w5 ⟨rfl, hb5⟩
        rw [HGM.out]
        obtain ⟨w6, hw6⟩ : ∃ w6, w5.alloc (.cells #[.int .i64 (gm : Nat)] 91) = w6 := ⟨_, rfl⟩
        obtain ⟨bb, hbb⟩ : ∃ bb, w5.heap.size = bb := ⟨_, rfl⟩
        have h6 : Blk w6 bb 91 [.int .i64 (gm : Nat)] := by rw [← hw6, ← hbb]; exact alloc_new _ _
        have HB6 : Hid (Below w.heap.size w w6) := hid (by rw [← hw6]; exact (HB.out.trans (hb5.mono HB.out.size)).alloc (Nat.le_trans HB.out.size hb5.size) _)
        have HW6 := hid hw6; have HBBH := hid hbb; have H6 := hid h6
        have cf := h6.cell (j := 0) rfl
        obtain ⟨fr, hfr⟩ : ∃ fr, fromOf n gm = fr := ⟨_, rfl⟩
        obtain ⟨tw, hto⟩ : ∃ tw, fr + halfOf n = tw := ⟨_, rfl⟩
        have HFR := hid hfr; have HTO := hid hto
        obtain ⟨sL, hsL⟩ : ∃ sL, scanG d gm = sL := ⟨_, rfl⟩
        have HSL := hid hsL
        have HSC : Hid (logScan d (fr : Nat) (tw : Nat) (gm : Nat) = sL) := hid (by rw [← hsL, scanG, HN.out, hfr, hto])
        clear hb5 hw6 hbb h6 hfr hto hsL
        go_upto_region 18 with fail
        rw [HBBH.out, HW6.out]
        go_wp2_with fail
        refine (H.out.v_area HB6.out i HI.out gm (by omega) (by rw [HN.out]; omega)).mono ?_
        rintro e w7 ⟨rfl, hb7⟩
        rw [HN.out, HFR.out, HTO.out]
        have HB7 : Hid (Below w.heap.size w w7) := hid (HB6.out.trans (hb7.mono HB6.out.size))
        have H67 : Hid (Blk w7 bb 91 [.int .i64 (gm : Nat)]) := hid (H6.out.below hb7 H6.out.lt)
        clear hb7
        go_wp2_with fail
        refine ((H.out.below HB7.out).log_scan i HI.out (fr : Nat) (tw : Nat) (gm : Nat)).mono ?_
        rintro e w8 ⟨vL, rfl, hf8, hb8⟩
        rw [HSC.out] at hf8 ⊢
        obtain ⟨L, nxt, ec⟩ := sL
        dsimp only at hf8 ⊢
        obtain ⟨lo, lc, rfl, hlrf⟩ := listA_lst hf8.listA
        obtain ⟨len, hlen⟩ : ∃ len, L.length = len := ⟨_, rfl⟩
        rw [hlen]
        have hlm := scanG_many d gm
        rw [HSL.out, HN.out] at hlm
        have hl1 : len ≤ 1000 := by
          simp only at hlm
          rw [hlen] at hlm; unfold halfOf at hlm; omega
        have HLS : Hid (∀ l ∈ L, l.length ≤ 1073741824) := hid (fun l hl => by
          have := logScan_short HOK.out (fr : Nat) (tw : Nat) (gm : Nat) l (by rw [HSC.out]; exact hl)
          omega)
        have h8' : St B w0 w8 (As ++ [lstA lo L]) := (H.out.below HB7.out).add hb8 (good_lstA _ _) hlrf (fun k hk => hk)
        have HB8 : Hid (Below w.heap.size w w8) := hid (HB7.out.trans (hb8.mono HB7.out.size))
        have H68 : Hid (Blk w8 bb 91 [.int .i64 (gm : Nat)]) := hid (H67.out.below hb8 H67.out.lt)
        obtain ⟨w9, hw9⟩ : ∃ w9, w8.alloc (.cells #[.slice lo len lc] 39) = w9 := ⟨_, rfl⟩
        obtain ⟨bl, hbl⟩ : ∃ bl, w8.heap.size = bl := ⟨_, rfl⟩
        have h9 : St B w0 w9 (As ++ [lstA lo L, blkA bl 39 [.slice lo len lc]]) := by rw [← hw9, ← hbl]; exact h8'.addBlk' (fresh_alloc w8 _) (alloc_new w8 _) (Nat.le_refl _)
        have h69 : Blk w9 bb 91 [.int .i64 (gm : Nat)] := by rw [← hw9]; exact H68.out.alloc _
        have H9 := hid h9; have HW9 := hid hw9; have HBL := hid hbl; have HLEN := hid hlen; have H69 := hid h69
        have cf9 := h69.cell (j := 0) rfl
        clear hf8 hb8 hlrf hlen hlm h8' hw9 hbl h9 h69 cf
        go_upto_region 19 with fail
        rw [HBL.out, HW9.out]
        by_cases hec : ec = 0
        · subst hec
          obtain ⟨v, hv⟩ : ∃ v, w9.heap.size = v := ⟨_, rfl⟩
          obtain ⟨wa, hwa⟩ : ∃ wa, w9.alloc (.cells #[ptr a, .int .i64 (gm : Nat), .int .i64 0, .slice none 0 0, .bool false] 102) = wa := ⟨_, rfl⟩
          have ha : St B w0 wa (As ++ [lstA lo L, blkA bl 39 [.slice lo len lc], vaultA v a gm 0 false []]) := by
            rw [← hwa, ← hv]
            have := H9.out.add (fresh_alloc w9 (.cells #[ptr a, .int .i64 (gm : Nat), .int .i64 0, .slice none 0 0, .bool false] 102)) (good_vaultA w9.heap.size a gm 0 false []) (F := fun k => k = w9.heap.size) ⟨.slice none 0 0, fun _ => False, alloc_new w9 _, rfl, ⟨[], fun _ => False, World.ownsRow_nil _ _ _ _, RowSW.nil _ _, fun _ h => h, fun k h => by simp [Value.ownBlock] at h⟩, id, fun _ h => h.elim⟩ (fun k hk => by rw [hk, World.size_alloc]; omega)
            rw [List.append_assoc] at this
            exact this
          obtain ⟨bp, hbp⟩ : ∃ bp, wa.heap.size = bp := ⟨_, rfl⟩
          obtain ⟨wb, hwb⟩ : ∃ wb, wa.alloc (.cells #[ptr v] 34) = wb := ⟨_, rfl⟩
          have hb : St B w0 wb (As ++ [lstA lo L, blkA bl 39 [.slice lo len lc], vaultA v a gm 0 false [], blkA bp 34 [ptr v]]) := by
            rw [← hwb, ← hbp]; exact ha.addBlk' (fresh_alloc wa _) (alloc_new wa _) (Nat.le_refl _)
          have HWA := hid hwa; have HWB := hid hwb; have HV := hid hv; have HAB := hid hb
          have HBP : Hid (v + 1 = bp) := hid (by rw [← hbp, ← hwa, World.size_alloc, hv])
          have cp := (hb.blk (As.length + 3) (get_post 3 rfl)).cell (j := 0) rfl
          clear hv hwa ha hbp hwb hb
          unfold ptr at HWA HWB cp
          go_upto_region 22 with fail
          rw [HV.out, HWA.out, HBP.out, HWB.out]
          go_wp2_with (refine wpl_layV rowF rfl 2 _ rfl [.func (.func 65) #[] #[ptr bp, ptr bl], .func (.func 67) #[] #[ptr bp, ptr bl]] rfl (by omega) (by omega) (by simp [Value.cells]) (by simp [Act.eval, ptr]) ?_; intro wc hbc hc; have HC := hid (HAB.out.addBlk' hbc hc (Nat.le_refl _)); clear hbc hc)
          obtain ⟨gc, hgc⟩ : ∃ gc, wb.heap.size = gc := ⟨_, rfl⟩
          rw [hgc]
          rw [hgc] at HC
          clear hgc
          refine (vopen_all i HI.out v gm bl bp gc lo len lc L HLEN.out.symm hl1 HLS.out (by omega) (by rw [HN.out]; omega) hlo HC.out).mono ?_
          rintro e wd ⟨rfl, hd1, hd2⟩
          by_cases hft : fitsOf gm d.img.length L = 0
          · have hd2 := hd2 hft
            have hfo : firstOf (fitsOf gm d.img.length L) (movesD d (gm + 1) L).1 = (movesD d (gm + 1) L).1 := by unfold firstOf; rw [if_pos hft]
            rw [hfo]
            generalize hx : movesD d (gm + 1) L = x at hd2 ⊢
            obtain ⟨em, dx, px⟩ := x
            dsimp only at hd2 ⊢
            have HD := hid hd2
            by_cases hem : em = 0
            · have HE2 : Hid (openedD d gm = (0, dx, some ⟨gm + 1, px, false, L⟩)) := hid (by unfold openedD; rw [HSL.out, if_neg (by simp)]; dsimp only; rw [if_neg (by rw [hft]; simp), hx, if_pos hem])
              subst hem
              have cp2 := (hd2.blk (As.length + 3) (set_post 3 rfl)).cell (j := 0) rfl
              unfold ptr at cp2
              clear hd1 hd2 hft hfo hx
              go_wp2
              go_ret2
              rw [HE.out, HE2.out]
              refine ⟨_, rfl, v, rfl, ?_⟩
              exact HD.out.pick 2 rfl
            · have HE2 : Hid (openedD d gm = (em, dx, none)) := hid (by unfold openedD; rw [HSL.out, if_neg (by simp)]; dsimp only; rw [if_neg (by rw [hft]; simp), hx, if_neg hem])
              have hne : (em != 0) = true := by simpa using hem
              clear hd1 hd2 hft hfo hx hem
              go_wp2
              go_ret2
              rw [HE.out, HE2.out]
              exact ⟨_, rfl, rfl, HD.out.drop_post⟩
          · have hd1 := hd1 hft
            have hfo : firstOf (fitsOf gm d.img.length L) (movesD d (gm + 1) L).1 = fitsOf gm d.img.length L := by unfold firstOf; rw [if_neg hft]
            rw [hfo]
            have HE2 : Hid (openedD d gm = (fitsOf gm d.img.length L, d, none)) := hid (by unfold openedD; rw [HSL.out, if_neg (by simp)]; dsimp only; rw [if_pos hft])
            generalize fitsOf gm d.img.length L = ef at hft HE2 ⊢
            have hne : (ef != 0) = true := by simpa using hft
            have HD := hid hd1
            clear hd1 hd2 hft hfo
            go_wp2
            go_ret2
            rw [HE.out, HE2.out]
            exact ⟨_, rfl, rfl, by rw [set_same HI.out]; exact HD.out⟩
        · have hne : (ec != 0) = true := by simpa using hec
          have HE2 : Hid (openedD d gm = (ec, d, none)) := hid (by unfold openedD; rw [HSL.out, if_pos hec])
          clear hec
          go_wp2
          go_ret2
          rw [HE.out, HE2.out]
          exact ⟨_, rfl, rfl, by rw [set_same HI.out]; exact H9.out.drop_post⟩
end Go.Proofs.YtlondopgibcikaaGreat
