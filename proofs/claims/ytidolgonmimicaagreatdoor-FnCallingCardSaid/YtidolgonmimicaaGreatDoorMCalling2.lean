/- Texts 2 of 6 that the claim leans on: plain laws and the walks' contracts, in order. -/
import Derived.Test.YtidolgonmimicaaGreatDoorMCalling1
import Derived.Lib.IndexBytes
import Derived.Lib.IndexLaws
import Derived.Lib.Split
import Derived.PlainAid
import Derived.Deep.DeepCutAuto
import Derived.Lib.Join
import Derived.Shelf.Strings.OnBuilder
import Derived.Shelf.Strings.BuilderF
import Derived.Shelf.Strings.BuilderK
import Derived.Shelf.LaysM
import Derived.Shelf.Strconv.Itoa3
import Derived.Shelf.Strings.Repeat
import Derived.Test.YtidolgonmimicaaGreatDoorProg
import Derived.Lib.AppendIntMem
import Derived.Deep.RegionHeld3
/- The text of strikes: plain. -/
namespace Go.Proofs.YtidolgonmimicaaGreatDoor
set_option linter.unusedVariables false
set_option linter.unusedSimpArgs false
open Go.ChangeShapes Go.WideShapes Go.ChangeAt Go.RowKit Go.Deep
def sxS (x : Int × Int) : ByteArray := ((decS x.1.toNat ++ ⟨#[64]⟩) ++ decS x.2.toNat) ++ ⟨#[10]⟩
def stK (L : List (Int × Int)) (k : Nat) : ByteArray := (L.take k).foldl (fun s x => s ++ sxS x) ⟨#[]⟩
theorem stK_0 (L : List (Int × Int)) : stK L 0 = ⟨#[]⟩ := rfl
theorem stK_succ {L : List (Int × Int)} {k : Nat} {x : Int × Int} (hx : L[k]? = some x) : stK L (k + 1) = stK L k ++ sxS x := by
  rw [stK, take_succ_some hx, List.foldl_append]; rfl
theorem sxS_size {x : Int × Int} (h1 : x.1.toNat ≤ 1000) (h2 : x.2.toNat ≤ 1000000) : (sxS x).size ≤ 28 := by
  have d1 := dec_small (n := x.1.toNat) (by omega)
  have d2 := dec_small (n := x.2.toNat) (by omega)
  have e1 : (⟨#[64]⟩ : ByteArray).size = 1 := rfl
  have e3 : (⟨#[10]⟩ : ByteArray).size = 1 := rfl
  simp only [sxS, ByteArray.size_append]
  omega
theorem stK_size {L : List (Int × Int)} (hL : ∀ x ∈ L, (1 ≤ x.1 ∧ x.1 ≤ 8) ∧ 0 ≤ x.2 ∧ x.2 ≤ 1000000) : ∀ k, k ≤ L.length → (stK L k).size ≤ 28 * k
  | 0, _ => by rw [stK_0]; exact Nat.le_refl _
  | k + 1, h => by
    have ih := stK_size hL k (by omega)
    obtain ⟨x, hx⟩ := some_of_lt (l := L) (k := k) (by omega)
    have hb := hL x (List.mem_of_getElem? hx)
    have := sxS_size (x := x) (by omega) (by omega)
    rw [stK_succ hx, ByteArray.size_append]
    omega
def stR (L : List (Int × Int)) : ByteArray := if goodStrikes L = true then stK L L.length else ⟨#[]⟩
theorem stR_f {L : List (Int × Int)} (h : goodStrikes L = false) : stR L = ⟨#[]⟩ := if_neg (by rw [h]; simp)
theorem stR_t {L : List (Int × Int)} (h : goodStrikes L = true) : stR L = stK L L.length := if_pos h
end Go.Proofs.YtidolgonmimicaaGreatDoor
/- Texts cut at a byte; numerals and what they say; the text of strikes read back: plain. -/
namespace Go.Proofs.YtidolgonmimicaaGreatDoor
set_option linter.unusedVariables false
set_option linter.unusedSimpArgs false
open Go.ChangeShapes Go.WideShapes Go.ChangeAt Go.RowKit Go.Deep
/-- A text cut at each of a byte. -/
def spl (c : UInt8) : List UInt8 → List (List UInt8)
  | [] => [[]]
  | x :: l => if x = c then [] :: spl c l else match spl c l with
    | h :: t => (x :: h) :: t
    | [] => [[x]]
theorem spl_ne (c : UInt8) : ∀ l, spl c l ≠ []
  | [] => by simp [spl]
  | x :: l => by
    rw [spl]
    split
    · simp
    · rcases spl c l with _ | ⟨h, t⟩ <;> simp
theorem spl_app {c : UInt8} (r : List UInt8) : ∀ a : List UInt8, c ∉ a → spl c (a ++ c :: r) = a :: spl c r
  | [], _ => by rw [List.nil_append, spl, if_pos rfl]
  | x :: a, h => by
    have h1 : x ≠ c := fun e => h (by rw [e]; exact List.mem_cons_self ..)
    have h2 : c ∉ a := fun e => h (List.mem_cons_of_mem _ e)
    rw [List.cons_append, spl, if_neg h1, spl_app r a h2]
theorem spl_clean {c : UInt8} : ∀ a : List UInt8, c ∉ a → spl c a = [a]
  | [], _ => rfl
  | x :: a, h => by
    have h1 : x ≠ c := fun e => h (by rw [e]; exact List.mem_cons_self ..)
    have h2 : c ∉ a := fun e => h (List.mem_cons_of_mem _ e)
    rw [spl, if_neg h1, spl_clean a h2]
theorem not_mem_at {c : UInt8} {l : List UInt8} (h : ∀ k : Nat, l[k]? ≠ some c) : c ∉ l := fun hm => by
  obtain ⟨k, hk⟩ := List.getElem?_of_mem hm
  exact h k hk
theorem take_drop_at {c : UInt8} {l : List UInt8} {i : Nat} (h : l[i]? = some c) : l = l.take i ++ c :: l.drop (i + 1) := by
  obtain ⟨hk, e⟩ := List.getElem?_eq_some_iff.1 h
  rw [← e, ← List.drop_eq_getElem_cons hk, List.take_append_drop]
theorem take_clean {c : UInt8} {l : List UInt8} {i : Nat} (h : ∀ k, k < i → l[k]? ≠ some c) : c ∉ l.take i := not_mem_at fun k hk => by
  rw [List.getElem?_take] at hk
  split at hk
  · rename_i hlt
    exact h k hlt hk
  · cases hk
theorem splitK_spl (c : UInt8) : ∀ (n : Nat) (l : List UInt8), l.length ≤ n → Lib.splitK [c] 0 (Lib.count l [c]) l = spl c l ∧ (spl c l).length = Lib.count l [c] + 1
  | 0, l, h => by
    obtain rfl : l = [] := List.length_eq_zero_iff.1 (by omega)
    have : Lib.count [] [c] = 0 := Lib.count_miss (by rw [Lib.index_one]; rfl)
    rw [this]; exact ⟨rfl, rfl⟩
  | n + 1, l, h => by
    rcases Int.lt_or_le (Lib.index l [c]) 0 with h1 | h1
    · have hm : Lib.index l [c] = -1 := by have := Lib.index_ge l [c]; omega
      rw [Lib.count_miss hm]
      rw [Lib.index_one] at hm
      rw [spl_clean l (not_mem_at (Lib.indexByte_none hm))]
      exact ⟨rfl, rfl⟩
    · obtain ⟨i, hi⟩ := Int.eq_ofNat_of_zero_le h1
      have hi' := hi
      rw [Lib.index_one] at hi'
      obtain ⟨h2, h3⟩ := Lib.indexByte_some hi'
      have hil := (List.getElem?_eq_some_iff.1 h2).1
      have e1 := take_drop_at h2
      have e2 : spl c l = l.take i :: spl c (l.drop (i + 1)) := by
        conv => lhs; rw [e1]
        exact spl_app _ _ (take_clean h3)
      have ih := splitK_spl c n (l.drop (i + 1)) (by rw [List.length_drop]; omega)
      have hn : ¬ (Lib.index l [c] == -1) = true := fun e => by have := beq_iff_eq.1 e; omega
      rw [Lib.count_hit (by simp) hi, Nat.add_comm, Lib.splitK, if_neg hn, hi, e2]
      have e3 : ((i : Int)).toNat = i := rfl
      have e4 : ([c] : List UInt8).length = 1 := rfl
      rw [e3, e4, Nat.add_zero, ih.1, List.length_cons, ih.2]
      exact ⟨rfl, by omega⟩
/-- The pieces as texts. -/
def splB (c : UInt8) (s : ByteArray) : List ByteArray := (spl c s.data.toList).map fun l => ⟨l.toArray⟩
theorem splB_lib (c : UInt8) (s : ByteArray) : Lib.splitB ⟨#[c]⟩ 0 (Lib.countB s ⟨#[c]⟩) s = splB c s ∧ (splB c s).length = Lib.countB s ⟨#[c]⟩ + 1 := by
  have h := splitK_spl c s.data.toList.length s.data.toList (Nat.le_refl _)
  have h1 := Lib.splitB_data ⟨#[c]⟩ 0 (Lib.countB s ⟨#[c]⟩) s
  have e : (⟨#[c]⟩ : ByteArray).data.toList = [c] := rfl
  rw [e, show Lib.countB s ⟨#[c]⟩ = Lib.count s.data.toList [c] from rfl, h.1] at h1
  refine ⟨?_, by rw [splB, List.length_map, h.2]⟩
  rw [splB, ← h1, List.map_map]
  have : ((fun l : List UInt8 => (⟨l.toArray⟩ : ByteArray)) ∘ fun x : ByteArray => x.data.toList) = id := by
    funext x; apply ByteArray.ext; simp
  rw [this, List.map_id]
theorem splB_size {c : UInt8} (s : ByteArray) : ∀ x ∈ splB c s, x.size ≤ s.size := by
  have key : ∀ l : List UInt8, ∀ p ∈ spl c l, p.length ≤ l.length := by
    intro l
    induction l with
    | nil => intro p hp; rw [spl, List.mem_singleton] at hp; rw [hp]; exact Nat.le_refl _
    | cons x l ih =>
      intro p hp
      rw [spl] at hp
      split at hp
      · rcases List.mem_cons.1 hp with rfl | hp
        · simp
        · have := ih p hp; rw [List.length_cons]; omega
      · rcases hs : spl c l with _ | ⟨h, t⟩
        · exact absurd hs (spl_ne c l)
        · rw [hs] at hp ih
          rcases List.mem_cons.1 hp with rfl | hp
          · have := ih h (List.mem_cons_self ..); simp only [List.length_cons]; omega
          · have := ih p (List.mem_cons_of_mem _ hp); rw [List.length_cons]; omega
  intro x hx
  rw [splB, List.mem_map] at hx
  obtain ⟨p, hp, rfl⟩ := hx
  have := key _ p hp
  show p.toArray.size ≤ s.data.size
  simpa using this
/-! numerals -/
def isDg (b : UInt8) : Bool := decide (48 ≤ b.toNat) && decide (b.toNat ≤ 57)
def valL (l : List UInt8) : Nat := l.foldl (fun a b => 10 * a + (b.toNat - 48)) 0
theorem valL_snoc (l : List UInt8) (b : UInt8) : valL (l ++ [b]) = 10 * valL l + (b.toNat - 48) := by rw [valL, List.foldl_append]; rfl
theorem valL_lt : ∀ (n : Nat) (l : List UInt8), l.length = n → l.all isDg = true → valL l < 10 ^ n
  | 0, l, h, _ => by obtain rfl := List.length_eq_zero_iff.1 h; decide
  | n + 1, l, h, hd => by
    rcases List.eq_nil_or_concat l with rfl | ⟨r, b, rfl⟩
    · cases h
    · rw [List.concat_eq_append] at h hd ⊢
      rw [List.length_append, List.length_singleton] at h
      rw [List.all_append, Bool.and_eq_true] at hd
      have ih := valL_lt n r (by omega) hd.1
      have hb : isDg b = true := by simpa using hd.2
      simp only [isDg, Bool.and_eq_true, decide_eq_true_eq] at hb
      rw [valL_snoc, Nat.pow_succ]; omega
/-- A number in its one form. -/
def canon (l : List UInt8) : Bool := decide (1 ≤ l.length) && (!(decide (1 < l.length) && decide (l[0]? = some 48)) && l.all isDg)
theorem dec_all : ∀ (k n : Nat), n ≤ k → (Lib.decDigits n).all isDg = true
  | 0, n, h => by
    obtain rfl : n = 0 := by omega
    rw [Lib.decDigits_one (by decide)]; decide
  | k + 1, n, h => by
    have key : ∀ d, d < 10 → isDg (UInt8.ofNat (48 + d)) = true := of_decide_eq_true (by kernel_rfl)
    by_cases h1 : n < 10
    · rw [Lib.decDigits_one h1]; simpa using key n h1
    · rw [Lib.decDigits, dif_neg h1, List.all_append, dec_all k (n / 10) (by omega)]
      simpa using key (n % 10) (by omega)
theorem dec_val : ∀ (k n : Nat), n ≤ k → valL (Lib.decDigits n) = n
  | 0, n, h => by
    obtain rfl : n = 0 := by omega
    rw [Lib.decDigits_one (by decide)]; decide
  | k + 1, n, h => by
    have key : ∀ d, d < 10 → (UInt8.ofNat (48 + d)).toNat - 48 = d := of_decide_eq_true (by kernel_rfl)
    by_cases h1 : n < 10
    · rw [Lib.decDigits_one h1]
      show 10 * 0 + ((UInt8.ofNat (48 + n)).toNat - 48) = n
      rw [key n h1]; omega
    · rw [Lib.decDigits, dif_neg h1, valL_snoc, dec_val k (n / 10) (by omega), key (n % 10) (by omega)]; omega
theorem dec_head : ∀ (k n : Nat), n ≤ k → 1 ≤ n → (Lib.decDigits n)[0]? ≠ some 48
  | 0, n, h, h1 => by omega
  | k + 1, n, h, h1 => by
    have key : ∀ d, d < 10 → 1 ≤ d → UInt8.ofNat (48 + d) ≠ 48 := of_decide_eq_true (by kernel_rfl)
    by_cases h2 : n < 10
    · rw [Lib.decDigits_one h2]; intro e; injection e with e; exact key n h2 h1 e
    · rw [Lib.decDigits, dif_neg h2, List.getElem?_append_left (by rw [Lib.decDigits_length]; have := Lib.nDigits_pos (n / 10); omega)]
      exact dec_head k (n / 10) (by omega) (by omega)
theorem dec_canon (n : Nat) : canon (Lib.decDigits n) = true := by
  have hl : 1 ≤ (Lib.decDigits n).length := by rw [Lib.decDigits_length]; exact Lib.nDigits_pos n
  rw [canon, decide_eq_true hl, dec_all n n (Nat.le_refl _)]
  by_cases h0 : n = 0
  · subst h0; rw [Lib.decDigits_one (by decide)]; decide
  · rw [decide_eq_false (dec_head n n (Nat.le_refl _) (by omega))]; simp
theorem canon_pos : ∀ (k : Nat) (l : List UInt8), l.length ≤ k → l.all isDg = true → 1 ≤ l.length → l[0]? ≠ some 48 → 1 ≤ valL l ∧ Lib.decDigits (valL l) = l
  | 0, l, h, _, h1, _ => by omega
  | k + 1, l, h, hd, h1, h0 => by
    rcases List.eq_nil_or_concat l with rfl | ⟨r, b, rfl⟩
    · cases h1
    · rw [List.concat_eq_append] at h hd h0 ⊢
      rw [List.length_append, List.length_singleton] at h
      rw [List.all_append, Bool.and_eq_true] at hd
      have hb : isDg b = true := by simpa using hd.2
      simp only [isDg, Bool.and_eq_true, decide_eq_true_eq] at hb
      have hbb : UInt8.ofNat (48 + (b.toNat - 48)) = b := by
        rw [show 48 + (b.toNat - 48) = b.toNat by omega]; exact UInt8.ofNat_toNat
      rw [valL_snoc]
      by_cases hr : r = []
      · subst hr
        have hv : valL [] = 0 := rfl
        have hb0 : b.toNat ≠ 48 := fun e => h0 (by
          have : b = 48 := UInt8.toNat_inj.1 (by rw [e]; rfl)
          rw [this]; rfl)
        rw [hv, show 10 * 0 + (b.toNat - 48) = b.toNat - 48 by omega]
        refine ⟨by omega, ?_⟩
        rw [Lib.decDigits_one (by omega), hbb]; rfl
      · have hr1 : 1 ≤ r.length := by
          rcases r with _ | ⟨x, r⟩
          · exact absurd rfl hr
          · simp
        rw [List.getElem?_append_left hr1] at h0
        obtain ⟨i1, i2⟩ := canon_pos k r (by omega) hd.1 hr1 h0
        refine ⟨by omega, ?_⟩
        rw [Lib.decDigits, dif_neg (by omega), show (10 * valL r + (b.toNat - 48)) / 10 = valL r by omega, show (10 * valL r + (b.toNat - 48)) % 10 = b.toNat - 48 by omega, hbb, i2]
theorem canon_dec {l : List UInt8} (h : canon l = true) : Lib.decDigits (valL l) = l := by
  rw [canon] at h
  simp only [Bool.and_eq_true, decide_eq_true_eq, Bool.not_eq_true', Bool.and_eq_false_iff, decide_eq_false_iff_not] at h
  obtain ⟨h1, h2, h3⟩ := h
  by_cases h0 : l[0]? = some 48
  · have hl : l.length = 1 := by
      rcases h2 with h2 | h2
      · omega
      · exact absurd h0 h2
    match l, hl, h0 with
    | [b], _, h0 =>
      simp only [List.getElem?_cons_zero, Option.some.injEq] at h0
      subst h0
      show Lib.decDigits 0 = [48]
      rw [Lib.decDigits_one (by decide)]; rfl
  · exact (canon_pos l.length l (Nat.le_refl _) h3 h1 h0).2
theorem dec_no {n : Nat} {c : UInt8} (hc : isDg c = false) : c ∉ Lib.decDigits n := fun h => by
  have := List.all_eq_true.1 (dec_all n n (Nat.le_refl _)) c h
  rw [hc] at this; cases this
/-! the text of strikes, read -/
def lnT (x : Int × Int) : List UInt8 := Lib.decDigits x.1.toNat ++ 64 :: Lib.decDigits x.2.toNat
def stL : List (Int × Int) → List UInt8
  | [] => []
  | x :: r => lnT x ++ 10 :: stL r
theorem stL_snoc (x : Int × Int) : ∀ r, stL (r ++ [x]) = stL r ++ (lnT x ++ [10])
  | [] => rfl
  | y :: r => by rw [List.cons_append, stL, stL, stL_snoc x r]; simp
theorem sxS_list (x : Int × Int) : (sxS x).data.toList = lnT x ++ [10] := by
  simp [sxS, lnT, decS]
theorem stK_list (l : List (Int × Int)) : ∀ k, k ≤ l.length → (stK l k).data.toList = stL (l.take k)
  | 0, _ => rfl
  | k + 1, h => by
    obtain ⟨x, hx⟩ := some_of_lt (l := l) (k := k) (by omega)
    rw [stK_succ hx, take_succ_some hx, stL_snoc, ← stK_list l k (by omega), ← sxS_list]; simp
theorem lnT_no {x : Int × Int} : (10 : UInt8) ∉ lnT x := fun h => by
  rw [lnT, List.mem_append] at h
  rcases h with h | h
  · exact dec_no (by decide) h
  · rcases List.mem_cons.1 h with h | h
    · exact absurd h (by decide)
    · exact dec_no (by decide) h
theorem spl_text : ∀ l : List (Int × Int), spl 10 (stL l) = l.map lnT ++ [[]]
  | [] => rfl
  | x :: l => by rw [stL, spl_app _ _ lnT_no, spl_text l]; rfl
theorem spl_line (x : Int × Int) : spl 64 (lnT x) = [Lib.decDigits x.1.toNat, Lib.decDigits x.2.toNat] := by
  rw [lnT, spl_app _ _ (dec_no (by decide)), spl_clean _ (dec_no (by decide))]
/-- Pieces joined again. -/
def jnL : List (List UInt8) → List UInt8
  | [] => []
  | p :: ps => p ++ 10 :: jnL ps
theorem spl_join : ∀ (l : List UInt8), ∃ ps z, spl 10 l = ps ++ [z] ∧ l = jnL ps ++ z
  | [] => ⟨[], [], rfl, rfl⟩
  | x :: l => by
    obtain ⟨ps, z, h1, h2⟩ := spl_join l
    rw [spl]
    by_cases hx : x = 10
    · rw [if_pos hx]
      exact ⟨[] :: ps, z, by rw [h1]; rfl, by rw [jnL, List.nil_append, List.cons_append, ← h2, hx]⟩
    · rw [if_neg hx, h1]
      rcases ps with _ | ⟨p, ps⟩
      · exact ⟨[], x :: z, rfl, by rw [h2]; rfl⟩
      · exact ⟨(x :: p) :: ps, z, rfl, by rw [h2]; rfl⟩
theorem jnL_text : ∀ (ps : List (List UInt8)) (l : List (Int × Int)), ps = l.map lnT → jnL ps = stL l
  | _, [], rfl => rfl
  | _, x :: l, rfl => by rw [List.map_cons, jnL, stL, jnL_text _ l rfl]
end Go.Proofs.YtidolgonmimicaaGreatDoor
/- A literal of one element as a row of the call's own (where the library's sort is not on the road). -/
namespace Go.Proofs.YtidolgonmimicaaGreatDoor
set_option linter.unusedVariables false
set_option linter.unusedSimpArgs false
open Go.ChangeShapes Go.WideShapes Go.ChangeAt Go.RowKit Go.Deep
theorem own_lit1_at' {α : Type} {e : α → List Value} {s : Nat} (he : ∀ x, (e x).length = s) (w : World) (E : TypeId) (x : α) {b base : Nat} (h : b = w.heap.size) (hb : base ≤ w.heap.size) : Owned e s E (w.alloc (.cells ⟨e x⟩ E)) base (some ⟨b, 0, none⟩) 1 1 [x] := by
  subst h
  exact ⟨he, rfl, by simpa using World.ownsRow_lit (e := E) (base := base) (size := s) w ⟨e x⟩ 1 hb (by unfold maxLen; omega) (by simp [he])⟩
end Go.Proofs.YtidolgonmimicaaGreatDoor
/- The walks through numbers read off texts and texts cut at a byte, both sides. -/
namespace Go.Proofs.YtidolgonmimicaaGreatDoor
set_option linter.unusedVariables false
set_option linter.unusedSimpArgs false
open Go.ChangeShapes Go.WideShapes Go.ChangeAt Go.RowKit Go.Deep
theorem bt_data {s : ByteArray} {k : Nat} {b : UInt8} (h : s.data.toList[k]? = some b) : PlainAid.bt s k = (b.toNat : Int) ∧ k < s.size := by
  have hk := (List.getElem?_eq_some_iff.1 h).1
  have hk' : k < s.size := by simpa using hk
  refine ⟨?_, hk'⟩
  have h2 := (List.getElem?_eq_some_iff.1 h).2
  have h3 : s[k] = b := by rw [← h2]; rfl
  rw [← PlainAid.get_bt s k hk', h3]
theorem data_at (s : ByteArray) {k : Nat} (h : k < s.size) : ∃ b, s.data.toList[k]? = some b := ⟨s.data.toList[k]'(by simpa using h), List.getElem?_eq_getElem _⟩
theorem dg_of {s : ByteArray} {k : Nat} {b : UInt8} (h : s.data.toList[k]? = some b) : isDg b = (!decide (PlainAid.bt s k < 48) && !decide (57 < PlainAid.bt s k)) := by
  rw [(bt_data h).1, isDg, Bool.eq_iff_iff]
  simp
  omega
theorem all_take_no {l : List UInt8} {k : Nat} {b : UInt8} (h : l[k]? = some b) (hb : isDg b = false) : l.all isDg = false := by
  rcases q : l.all isDg
  · rfl
  · rw [List.all_eq_true] at q
    rw [q b (List.mem_of_getElem? h)] at hb; cases hb
def numOk (s : ByteArray) (most : Int) : Bool := decide ((s.size : Int) ≤ most) && canon s.data.toList
def numV (s : ByteArray) (most : Int) : Int := if numOk s most = true then (valL s.data.toList : Int) else 0
theorem numV_f {s : ByteArray} {most : Int} (h : numOk s most = false) : numV s most = 0 := if_neg (by rw [h]; simp)
theorem numV_t {s : ByteArray} {most : Int} (h : numOk s most = true) : numV s most = (valL s.data.toList : Int) := if_pos h
theorem val_step {l : List UInt8} {k : Nat} {b : UInt8} (h : l[k]? = some b) : valL (l.take (k + 1)) = 10 * valL (l.take k) + (b.toNat - 48) := by rw [take_succ_some h, valL_snoc]
theorem val_bound {s : ByteArray} {k : Nat} (hk : k ≤ s.size) (h : (s.data.toList.take k).all isDg = true) (h8 : s.size ≤ 8) : valL (s.data.toList.take k) ≤ 100000000 := by
  have hl : (s.data.toList.take k).length = k := by rw [List.length_take]; have : s.data.toList.length = s.size := rfl; omega
  have h1 := valL_lt k _ hl h
  have h2 : 10 ^ k ≤ 10 ^ 8 := Nat.pow_le_pow_right (by decide) (by omega)
  omega
set_option maxHeartbeats 2000000 in
set_option maxRecDepth 100000 in
theorem impl_number {s : ByteArray} {most : Int} {w : World} (hz : s.size ≤ 16777216) (hm : 0 ≤ most ∧ most ≤ 8) :
    Calls Tryz.prog 78 #[.string s, .int .i64 most] w fun e w' => e = .returned (.tuple #[.int .i64 (numV s most), .bool (numOk s most)]) ∧ w = w' := by
  have HQ : Hid (numOk s most = (decide ((s.size : Int) ≤ most) && (decide (1 ≤ s.data.toList.length) && (!(decide (1 < s.data.toList.length) && decide (s.data.toList[0]? = some 48)) && s.data.toList.all isDg)))) := Lib.hid rfl
  have hlen : Hid (s.data.toList.length = s.size) := Lib.hid rfl
  have hb := PlainAid.get_bt s
  by_cases h1 : s.size < 1
  · have e2 := Lib.hid (show numOk s most = false by rw [HQ.out, hlen.out, show decide (1 ≤ s.size) = false from decide_eq_false (by omega)]; simp)
    have e1 := Lib.hid (numV_f e2.out)
    have hI : (s.size : Int) < 1 := by omega
    go_in
    go_wp2
    go_ret2
    rw [e1.out, e2.out]
    exact ⟨rfl, rfl⟩
  have hI1 : ¬ (s.size : Int) < 1 := by omega
  by_cases h2 : most < (s.size : Int)
  · have e2 := Lib.hid (show numOk s most = false by rw [HQ.out, decide_eq_false (show ¬ (s.size : Int) ≤ most by omega)]; rfl)
    have e1 := Lib.hid (numV_f e2.out)
    go_in
    go_wp2
    go_ret2
    rw [e1.out, e2.out]
    exact ⟨rfl, rfl⟩
  have h8 : s.size ≤ 8 := by omega
  obtain ⟨b0, hb0⟩ := data_at s (k := 0) (by omega)
  have hbt0 := (bt_data hb0).1
  have hpos : 0 < s.size := by omega
  have HW := Lib.hid (show (s.size > 1 → b0 ≠ 48) → numOk s most = s.data.toList.all isDg from fun h => by
    rw [HQ.out, decide_eq_true (show (s.size : Int) ≤ most by omega), hlen.out, show decide (1 ≤ s.size) = true from decide_eq_true (by omega)]
    have : (decide (1 < s.size) && decide (s.data.toList[0]? = some 48)) = false := by
      by_cases h1 : 1 < s.size
      · rw [hb0, decide_eq_false (show ¬ (some b0 = some (48 : UInt8)) from fun e => h h1 (by injection e))]; simp
      · rw [decide_eq_false h1]; rfl
    rw [this]; rfl)
  have HZ := Lib.hid (show s.size > 1 → b0 = 48 → numOk s most = false from fun h h' => by
    rw [HQ.out, hlen.out, decide_eq_true (show 1 < s.size from h), hb0, h']; simp)
  by_cases h3 : (1 : Int) < (s.size : Int)
  · by_cases h4 : PlainAid.bt s 0 = 48
    · have e2 := Lib.hid (HZ.out (by omega) (UInt8.toNat_inj.1 (by rw [h4] at hbt0; have : (48 : UInt8).toNat = 48 := rfl; omega)))
      have e1 := Lib.hid (numV_f e2.out)
      clear hb0 hbt0
      go_in
      go_wp2
      go_ret2
      rw [e1.out, e2.out]
      exact ⟨rfl, rfl⟩
    · have HA := Lib.hid (HW.out (fun _ e => h4 (by rw [hbt0, e]; rfl)))
      have h4b : (PlainAid.bt s 0 == 48) = false := by simpa using h4
      clear hb0 hbt0
      go_in
      go_wp2
      go_loopw [6, 29] (fun a i wr => ∃ k v : Nat, k ≤ s.size ∧ i = .int .i64 k ∧ a = .int .i64 v ∧ Hid (v = valL (s.data.toList.take k)) ∧ v ≤ 100000000 ∧ Hid ((s.data.toList.take k).all isDg = true) ∧ w = wr) (fun _ i _ => s.size - (intOf i).toNat)
      case atStart => exact ⟨0, 0, Nat.zero_le _, rfl, rfl, Lib.hid rfl, by decide, Lib.hid rfl, rfl⟩
      case round =>
        obtain ⟨k, v, hk, rfl, rfl, HV, hv, HD, rfl⟩ := hrel
        by_cases hlt : k < s.size
        · obtain ⟨b, hbk⟩ := data_at s hlt
          have hbt := (bt_data hbk).1
          have hdg := dg_of hbk
          rcases hd : isDg b
          · have e2 := Lib.hid (show numOk s most = false by rw [HA.out]; exact all_take_no hbk hd)
            have e1 := Lib.hid (numV_f e2.out)
            rw [hd] at hdg
            by_cases h48 : PlainAid.bt s k < 48
            · clear hdg hbk hbt
              go_wp2
              go_ret2
              rw [e1.out, e2.out]
              exact ⟨rfl, rfl⟩
            · have h57 : 57 < PlainAid.bt s k := by
                rw [decide_eq_false h48] at hdg
                by_cases h : 57 < PlainAid.bt s k
                · exact h
                · rw [decide_eq_false h] at hdg; cases hdg
              clear hdg hbk hbt
              go_wp2
              go_ret2
              rw [e1.out, e2.out]
              exact ⟨rfl, rfl⟩
          · simp only [isDg, Bool.and_eq_true, decide_eq_true_eq] at hd
            have h48 : ¬ PlainAid.bt s k < 48 := by omega
            have h57 : ¬ 57 < PlainAid.bt s k := by omega
            have hw : IntKind.u8.wrap (PlainAid.bt s k - 48) = PlainAid.bt s k - 48 := by rw [IntKind.wrap_u8]; omega
            have HD2 := Lib.hid (show (s.data.toList.take (k + 1)).all isDg = true by
              rw [take_succ_some hbk, List.all_append, HD.out]; simp [isDg, hd.1, hd.2])
            have HV2 := Lib.hid (show 10 * v + (b.toNat - 48) = valL (s.data.toList.take (k + 1)) by rw [val_step hbk, ← HV.out])
            have hv2 : 10 * v + (b.toNat - 48) ≤ 100000000 := by rw [HV2.out]; exact val_bound hlt HD2.out h8
            have HEQ := Lib.hid (show (10 * (v : Int) + (PlainAid.bt s k - 48)) = ((10 * v + (b.toNat - 48) : Nat) : Int) by omega)
            have hlo : 0 ≤ PlainAid.bt s k - 48 ∧ PlainAid.bt s k - 48 ≤ 9 := by omega
            clear hdg hbk hbt
            go_wp2
            go_roundw
            case rel => exact ⟨k + 1, 10 * v + (b.toNat - 48), by omega, by go_num, congrArg (Value.int .i64) HEQ.out, HV2, hv2, HD2, trivial⟩
            case measure => simp [intOf]; omega
        · obtain rfl : k = s.size := by omega
          have ht : s.data.toList.take s.size = s.data.toList := List.take_of_length_le (by rw [hlen.out]; exact Nat.le_refl _)
          have e2 := Lib.hid (show numOk s most = true by rw [HA.out, ← ht]; exact HD.out)
          have e1 := Lib.hid (numV_t e2.out)
          have HV3 := Lib.hid (show v = valL s.data.toList by rw [HV.out, ht])
          go_wp2
          go_ret2
          rw [e1.out, e2.out, ← HV3.out]
          exact ⟨rfl, rfl⟩
  · have HA := Lib.hid (HW.out (fun h _ => absurd h (by omega)))
    clear hb0 hbt0
    go_in
    go_wp2
    go_loopw [6, 29] (fun a i wr => ∃ k v : Nat, k ≤ s.size ∧ i = .int .i64 k ∧ a = .int .i64 v ∧ Hid (v = valL (s.data.toList.take k)) ∧ v ≤ 100000000 ∧ Hid ((s.data.toList.take k).all isDg = true) ∧ w = wr) (fun _ i _ => s.size - (intOf i).toNat)
    case atStart => exact ⟨0, 0, Nat.zero_le _, rfl, rfl, Lib.hid rfl, by decide, Lib.hid rfl, rfl⟩
    case round =>
      obtain ⟨k, v, hk, rfl, rfl, HV, hv, HD, rfl⟩ := hrel
      by_cases hlt : k < s.size
      · obtain ⟨b, hbk⟩ := data_at s hlt
        have hbt := (bt_data hbk).1
        have hdg := dg_of hbk
        rcases hd : isDg b
        · have e2 := Lib.hid (show numOk s most = false by rw [HA.out]; exact all_take_no hbk hd)
          have e1 := Lib.hid (numV_f e2.out)
          rw [hd] at hdg
          by_cases h48 : PlainAid.bt s k < 48
          · clear hdg hbk hbt
            go_wp2
            go_ret2
            rw [e1.out, e2.out]
            exact ⟨rfl, rfl⟩
          · have h57 : 57 < PlainAid.bt s k := by
              rw [decide_eq_false h48] at hdg
              by_cases h : 57 < PlainAid.bt s k
              · exact h
              · rw [decide_eq_false h] at hdg; cases hdg
            clear hdg hbk hbt
            go_wp2
            go_ret2
            rw [e1.out, e2.out]
            exact ⟨rfl, rfl⟩
        · simp only [isDg, Bool.and_eq_true, decide_eq_true_eq] at hd
          have h48 : ¬ PlainAid.bt s k < 48 := by omega
          have h57 : ¬ 57 < PlainAid.bt s k := by omega
          have hw : IntKind.u8.wrap (PlainAid.bt s k - 48) = PlainAid.bt s k - 48 := by rw [IntKind.wrap_u8]; omega
          have HD2 := Lib.hid (show (s.data.toList.take (k + 1)).all isDg = true by
            rw [take_succ_some hbk, List.all_append, HD.out]; simp [isDg, hd.1, hd.2])
          have HV2 := Lib.hid (show 10 * v + (b.toNat - 48) = valL (s.data.toList.take (k + 1)) by rw [val_step hbk, ← HV.out])
          have hv2 : 10 * v + (b.toNat - 48) ≤ 100000000 := by rw [HV2.out]; exact val_bound hlt HD2.out h8
          have HEQ := Lib.hid (show (10 * (v : Int) + (PlainAid.bt s k - 48)) = ((10 * v + (b.toNat - 48) : Nat) : Int) by omega)
          have hlo : 0 ≤ PlainAid.bt s k - 48 ∧ PlainAid.bt s k - 48 ≤ 9 := by omega
          clear hdg hbk hbt
          go_wp2
          go_roundw
          case rel => exact ⟨k + 1, 10 * v + (b.toNat - 48), by omega, by go_num, congrArg (Value.int .i64) HEQ.out, HV2, hv2, HD2, trivial⟩
          case measure => simp [intOf]; omega
      · obtain rfl : k = s.size := by omega
        have ht : s.data.toList.take s.size = s.data.toList := List.take_of_length_le (by rw [hlen.out]; exact Nat.le_refl _)
        have e2 := Lib.hid (show numOk s most = true by rw [HA.out, ← ht]; exact HD.out)
        have e1 := Lib.hid (numV_t e2.out)
        have HV3 := Lib.hid (show v = valL s.data.toList by rw [HV.out, ht])
        go_wp2
        go_ret2
        rw [e1.out, e2.out, ← HV3.out]
        exact ⟨rfl, rfl⟩
theorem str_ne_empty {s : ByteArray} (h : 0 < s.size) : s.toList.isEmpty = false := by
  rw [ByteArray.toList_eq]
  have : s.data.toList.length = s.size := rfl
  rcases e : s.data.toList with _ | ⟨x, l⟩
  · rw [e] at this; simp at this; omega
  · rfl
def l21Ok (s : ByteArray) : Bool := decide (1 ≤ s.size ∧ s.size ≤ 7) && s.data.toList.all isDg
def l21V (s : ByteArray) : Int := if l21Ok s = true then (valL s.data.toList : Int) else -1
theorem l21V_f {s : ByteArray} (h : l21Ok s = false) : l21V s = -1 := if_neg (by rw [h]; simp)
theorem l21V_t {s : ByteArray} (h : l21Ok s = true) : l21V s = (valL s.data.toList : Int) := if_pos h
theorem ext_list (s : ByteArray) (a b : Nat) : (s.extract a b).data.toList = (s.data.toList.drop a).take (b - a) := by rw [Lib.extract_data]
theorem spl_hit {c : UInt8} {D : List UInt8} {f k : Nat} (hf : f ≤ k) (hk : D[k]? = some c) (hn : ∀ j, f ≤ j → j < k → D[j]? ≠ some c) : spl c (D.drop f) = (D.drop f).take (k - f) :: spl c (D.drop (k + 1)) := by
  have h1 : (D.drop f)[k - f]? = some c := by rw [List.getElem?_drop, show f + (k - f) = k by omega]; exact hk
  have e := take_drop_at h1
  conv => lhs; rw [e]
  rw [spl_app _ _ (take_clean (fun j hj => by rw [List.getElem?_drop]; exact hn _ (by omega) (by omega))), List.drop_drop, show f + (k - f + 1) = k + 1 by omega]
theorem spl_last {c : UInt8} {D : List UInt8} {f : Nat} (hn : ∀ j, f ≤ j → j < D.length → D[j]? ≠ some c) : spl c (D.drop f) = [D.drop f] := spl_clean _ (not_mem_at fun j hj => by
  rw [List.getElem?_drop] at hj
  have := (List.getElem?_eq_some_iff.1 hj).1
  exact hn _ (by omega) this hj)
set_option maxHeartbeats 2000000 in
set_option maxRecDepth 100000 in
theorem spec_l1Split {s : ByteArray} {c : UInt8} {z : Int} {w : World} (hz : s.size ≤ 1048576) (hc : z = (c.toNat : Int)) :
    Calls Tryz.prog 29 #[.string s, .int .u8 z] w fun e w' => ∃ A' c', e = .returned (.slice A' (splB c s).length c') ∧ Owned strE 1 9 w' w.heap.size A' (splB c s).length c' (splB c s) ∧ Below w.heap.size w w' := by
  subst hc
  have hb := PlainAid.get_bt s
  have hlen : Hid (s.data.toList.length = s.size) := Lib.hid rfl
  go_in
  go_wp2
  go_loopw [5, 6, 7] (fun v f i wr => ∃ (k g m : Nat) (A' : Option Addr) (c' : Nat) (O : List ByteArray), k ≤ s.size ∧ g ≤ k ∧ m ≤ k ∧ i = .int .i64 k ∧ f = .int .i64 g ∧ v = .slice A' m c' ∧ Hid (Owned strE 1 9 wr w.heap.size A' m c' O) ∧ Hid (spl c s.data.toList = O.map (·.data.toList) ++ spl c (s.data.toList.drop g)) ∧ Hid (∀ j, g ≤ j → j < k → s.data.toList[j]? ≠ some c) ∧ Below w.heap.size w wr) (fun _ _ i _ => s.size - (intOf i).toNat)
  case atStart => exact ⟨0, 0, 0, none, 0, [], Nat.zero_le _, Nat.le_refl _, Nat.le_refl _, rfl, rfl, rfl, Lib.hid (Owned.nil strE_len _ _ _), Lib.hid rfl, Lib.hid (fun j h1 h2 => absurd h2 (by omega)), Below.refl _ _⟩
  case round =>
    obtain ⟨k, g, m, A1, c1, O, hk, hgk, hmk, rfl, rfl, rfl, HO, HS, HN, hbr⟩ := hrel
    rename World => wr
    have hszr := hbr.size
    by_cases hlt : k < s.size
    · obtain ⟨b, hbk⟩ := data_at s hlt
      have hbt := (bt_data hbk).1
      by_cases hbc : b = c
      · have heq : (PlainAid.bt s k == (c.toNat : Int)) = true := by rw [hbt, hbc]; simp
        have heq2 : PlainAid.bt s k = (c.toNat : Int) := by rw [hbt, hbc]
        have HB2 := Lib.hid (spl_hit hgk (by rw [hbk, hbc]) HN.out)
        have HS2 := Lib.hid (show spl c s.data.toList = (O ++ [s.extract g k]).map (·.data.toList) ++ spl c (s.data.toList.drop (k + 1)) by
          rw [HS.out, HB2.out, List.map_append, List.map_cons, List.map_nil, ext_list]; simp)
        have hI1 : (g : Int) ≤ (k : Int) := by omega
        have hI2 : (k : Int) ≤ (s.size : Int) := by omega
        clear hbk hbt
        go_wp2_with (first | (at_builtin; go_must ((refine wpList_append_recs Tryz.elStr strE_one rfl (.tmp 19) (.tmp 24) rfl rfl (HO.out.alloc _) rfl (own_lit1_at' strE_len _ 9 (s.extract g k) rfl (Nat.le_refl _)).recs rfl ?_ (by decide) ?_ ?_; (focus (first | omega | (simp only [World.size_alloc]; done) | (simp only [World.size_alloc]; omega) | (simp; done) | (simp; omega))); (simp; omega); intro A3 c3 w6 ho6 hg6 hl6; have hb6 : Below w.heap.size w w6 := (hbr.alloc hszr _).trans (grown_base hg6 (by simp; omega) (fun z hz => (HO.out.range z hz).1))))))
        go_roundw
        case rel => exact ⟨k + 1, k + 1, m + 1, A3, c3, O ++ [s.extract g k], by omega, Nat.le_refl _, by omega, by go_num, by go_num, by go_num, Lib.hid ho6, HS2, Lib.hid (fun j h1 h2 => absurd h2 (by omega)), hb6⟩
        case measure => simp [intOf]; omega
      · have hne0 : ¬ PlainAid.bt s k = (c.toNat : Int) := fun e => hbc (UInt8.toNat_inj.1 (by rw [hbt] at e; omega))
        have heq : (PlainAid.bt s k == (c.toNat : Int)) = false := by simpa using hne0
        have HN2 := Lib.hid (show ∀ j, g ≤ j → j < k + 1 → s.data.toList[j]? ≠ some c from fun j h1 h2 => by
          by_cases e : j < k
          · exact HN.out j h1 e
          · obtain rfl : j = k := by omega
            rw [hbk]; intro e2; injection e2 with e2; exact hbc e2)
        clear hbk hbt
        go_wp2
        go_roundw
        case rel => exact ⟨k + 1, g, m, A1, c1, O, by omega, by omega, by omega, by go_num, rfl, rfl, HO, HS, HN2, hbr⟩
        case measure => simp [intOf]; omega
    · obtain rfl : k = s.size := by omega
      have HL := Lib.hid (spl_last (c := c) (D := s.data.toList) (f := g) (fun j h1 h2 => HN.out j h1 (by rw [← hlen.out]; exact h2)))
      have HF := Lib.hid (show splB c s = O ++ [s.extract g s.size] by
        rw [splB, HS.out, HL.out, List.map_append, List.map_map]
        have : ((fun l : List UInt8 => (⟨l.toArray⟩ : ByteArray)) ∘ fun x : ByteArray => x.data.toList) = id := by
          funext x; apply ByteArray.ext; simp
        rw [this, List.map_id, List.map_cons, List.map_nil]
        congr 2
        apply ByteArray.ext
        rw [← Array.toList_inj]
        rw [ext_list, List.take_of_length_le (by rw [List.length_drop, hlen.out]; exact Nat.le_refl _)])
      have hI1 : (g : Int) ≤ (s.size : Int) := by omega
      go_wp2_with (first | (at_builtin; go_must ((refine wpList_append_recs Tryz.elStr strE_one rfl (.tmp 28) (.tmp 32) rfl rfl (HO.out.alloc _) rfl (own_lit1_at' strE_len _ 9 (s.extract g s.size) rfl (Nat.le_refl _)).recs rfl ?_ (by decide) ?_ ?_; (focus (first | omega | (simp only [World.size_alloc]; done) | (simp only [World.size_alloc]; omega) | (simp; done) | (simp; omega))); (simp; omega); intro A3 c3 w6 ho6 hg6 hl6; have hb6 : Below w.heap.size w w6 := (hbr.alloc hszr _).trans (grown_base hg6 (by simp; omega) (fun z hz => (HO.out.range z hz).1))))))
      go_ret
      have hl := ho6.len
      rw [← HF.out] at ho6 hl
      rw [hl]
      exact ⟨_, _, rfl, ho6, hb6⟩
end Go.Proofs.YtidolgonmimicaaGreatDoor
/- Words joined by spaces and cut again; numerals read back: plain. -/
namespace Go.Proofs.YtidolgonmimicaaGreatDoor
set_option linter.unusedVariables false
set_option linter.unusedSimpArgs false
open Go.ChangeShapes Go.WideShapes Go.ChangeAt Go.RowKit Go.Deep
def jnK (l : List ByteArray) : Nat → ByteArray
  | 0 => ⟨#[]⟩
  | k + 1 => (if 0 < k then jnK l k ++ ⟨#[32]⟩ else jnK l k) ++ l.getD k ByteArray.empty
theorem jnK_0 (l : List ByteArray) : jnK l 0 = ⟨#[]⟩ := rfl
theorem jnK_1 {l : List ByteArray} {x : ByteArray} (hx : l[0]? = some x) : jnK l 1 = jnK l 0 ++ x := by
  show (if 0 < 0 then _ else jnK l 0) ++ l.getD 0 ByteArray.empty = _
  rw [if_neg (by decide), List.getD, hx]; rfl
theorem jnK_more {l : List ByteArray} {k : Nat} {x : ByteArray} (h : 0 < k) (hx : l[k]? = some x) : jnK l (k + 1) = (jnK l k ++ ⟨#[32]⟩) ++ x := by
  rw [jnK, if_pos h, List.getD, hx]; rfl
theorem jnK_size {l : List ByteArray} (hl : ∀ s ∈ l, s.size ≤ 8) : ∀ k, k ≤ l.length → (jnK l k).size ≤ 9 * k
  | 0, _ => Nat.le_refl _
  | k + 1, h => by
    have ih := jnK_size hl k (by omega)
    obtain ⟨x, hx⟩ := some_of_lt (l := l) (k := k) (by omega)
    have h8 := hl x (List.mem_of_getElem? hx)
    by_cases h0 : 0 < k
    · rw [jnK_more h0 hx, ByteArray.size_append, ByteArray.size_append]
      have : (⟨#[32]⟩ : ByteArray).size = 1 := rfl
      omega
    · obtain rfl : k = 0 := by omega
      rw [jnK_1 hx, ByteArray.size_append]; omega
theorem joinTail_snoc (sep x : List UInt8) (r : List (List UInt8)) : Lib.joinTail sep (r ++ [x]) = Lib.joinTail sep r ++ (sep ++ x) := by simp [Lib.joinTail]
theorem join_snoc (sep x y : List UInt8) (r : List (List UInt8)) : Lib.join ((y :: r) ++ [x]) sep = (Lib.join (y :: r) sep ++ sep) ++ x := by
  rw [List.cons_append, Lib.join_cons, Lib.join_cons, joinTail_snoc]; simp
theorem jnK_join (l : List ByteArray) : ∀ k, k ≤ l.length → (jnK l k).data.toList = Lib.join ((l.take k).map (·.data.toList)) [32]
  | 0, _ => rfl
  | k + 1, h => by
    have ih := jnK_join l k (by omega)
    obtain ⟨x, hx⟩ := some_of_lt (l := l) (k := k) (by omega)
    by_cases h0 : 0 < k
    · rw [jnK_more h0 hx, take_succ_some hx, List.map_append]
      rcases ht : l.take k with _ | ⟨y, r⟩
      · have := congrArg List.length ht
        rw [List.length_take, List.length_nil] at this
        omega
      · rw [ht, List.map_cons] at ih
        rw [List.map_cons, List.map_cons, List.map_nil, join_snoc, ← ih]
        simp
    · obtain rfl : k = 0 := by omega
      rw [jnK_1 hx, take_succ_some hx]
      simp [jnK, Lib.join_one]
theorem join_jn (l : List ByteArray) : (⟨(Lib.join (l.map (·.data.toList)) (⟨#[32]⟩ : ByteArray).data.toList).toArray⟩ : ByteArray) = jnK l l.length := by
  have h := jnK_join l l.length (Nat.le_refl _)
  rw [List.take_length] at h
  apply ByteArray.ext
  show (Lib.join (l.map (·.data.toList)) [32]).toArray = _
  rw [← h]
theorem join_len (l : List ByteArray) (h : (jnK l l.length).size ≤ 1000000) : (Lib.join (l.map (·.data.toList)) (⟨#[32]⟩ : ByteArray).data.toList).length ≤ 140737488355328 := by
  have e := join_jn l
  have := congrArg ByteArray.size e
  simp only [ByteArray.size, List.size_toArray] at this h
  rw [this]; omega
theorem dg_no {l : List UInt8} (h : ∀ b ∈ l, isDg b = true) {c : UInt8} (hc : isDg c = false) : c ∉ l := fun hm => by
  have := h c hm; rw [hc] at this; cases this
theorem spl_heads : ∀ (x : List UInt8) (r : List (List UInt8)), (∀ y ∈ x :: r, (32 : UInt8) ∉ y) → spl 32 (Lib.join (x :: r) [32]) = x :: r
  | x, [], h => by rw [Lib.join_one, spl_clean _ (h x (List.mem_cons_self ..))]
  | x, y :: r, h => by
    have e : Lib.join (x :: y :: r) [32] = x ++ 32 :: Lib.join (y :: r) [32] := by
      rw [Lib.join_cons, Lib.join_cons, Lib.joinTail, Lib.joinTail, List.map_cons, List.flatten_cons]; simp
    rw [e, spl_app _ _ (h x (List.mem_cons_self ..)), spl_heads y r (fun z hz => h z (List.mem_cons_of_mem _ hz))]
theorem cut_at_byte {c : UInt8} {a b : List UInt8} (hn : c ∉ a) : Lib.cut (a ++ c :: b) [c] = (a, b, true) := by
  have hi : Lib.index (a ++ c :: b) [c] = (a.length : Int) := by
    rw [Lib.index_one]
    have key : ∀ a : List UInt8, c ∉ a → Lib.indexByte (a ++ c :: b) c = (a.length : Int) := by
      intro a
      induction a with
      | nil => intro _; simp [Lib.indexByte]
      | cons y a ih =>
        intro hy
        have h1 : (y == c) = false := by
          rw [beq_eq_false_iff_ne]; exact fun e => hy (by rw [e]; exact List.mem_cons_self ..)
        have h2 := ih (fun e => hy (List.mem_cons_of_mem _ e))
        have h3 : ((a.length : Int) == -1) = false := by rw [beq_eq_false_iff_ne]; omega
        rw [List.cons_append, Lib.indexByte, h1, h2, h3]
        simp
    exact key a hn
  rw [Lib.cut, if_pos (by rw [hi]; omega), hi]
  have e : ((a.length : Int)).toNat = a.length := rfl
  rw [e, List.take_left']
  · have e2 : ([c] : List UInt8).length = 1 := rfl
    rw [e2, List.drop_append]
    simp
  · rfl
theorem num_dec2 {a : Nat} {most : Int} (h : ((Lib.decDigits a).length : Int) ≤ most) : numOk ⟨(Lib.decDigits a).toArray⟩ most = true ∧ numV ⟨(Lib.decDigits a).toArray⟩ most = (a : Int) := by
  have h1 : numOk ⟨(Lib.decDigits a).toArray⟩ most = true := by
    rw [numOk, Bool.and_eq_true]
    exact ⟨decide_eq_true (by simpa [ByteArray.size] using h), dec_canon a⟩
  refine ⟨h1, ?_⟩
  rw [numV_t h1]
  show ((valL (Lib.decDigits a) : Nat) : Int) = _
  rw [dec_val _ _ (Nat.le_refl _)]
theorem dec_len2 {b : Nat} (h : b ≤ 60) : (Lib.decDigits b).length ≤ 2 := by
  have := decS_size 1 b (by omega)
  simpa [decS, ByteArray.size] using this
def l1V (s : ByteArray) : Int := if numOk s 6 = true then numV s 6 else -1
end Go.Proofs.YtidolgonmimicaaGreatDoor
/- Callings: by which words a touch is told, and what they say when they are read. -/
namespace Go.Proofs.YtidolgonmimicaaGreatDoor
set_option linter.unusedVariables false
set_option linter.unusedSimpArgs false
open Go.ChangeShapes Go.WideShapes Go.ChangeAt Go.RowKit Go.Deep
/-- The place of a bell in a row. -/
def plc (r : ByteArray) (bl : Nat) : Nat := match (List.range r.size).find? fun i => decide (PlainAid.bt r i = 48 + (bl : Int)) with
  | some i => i + 1
  | none => 0
theorem plc_at {r : ByteArray} {bl i : Nat} (hi : i < r.size) (hlow : ∀ j, j < i → PlainAid.bt r j ≠ 48 + (bl : Int)) (hc : PlainAid.bt r i = 48 + (bl : Int)) : plc r bl = i + 1 := by
  have : (List.range r.size).find? (fun i => decide (PlainAid.bt r i = 48 + (bl : Int))) = some i := by
    rw [List.find?_eq_some_iff_getElem]
    refine ⟨by simp [hc], i, by simpa using hi, by simp, fun j hj => ?_⟩
    simp [hlow j hj]
  rw [plc, this]
theorem plc_none {r : ByteArray} {bl : Nat} (hlow : ∀ j, j < r.size → PlainAid.bt r j ≠ 48 + (bl : Int)) : plc r bl = 0 := by
  have : (List.range r.size).find? (fun i => decide (PlainAid.bt r i = 48 + (bl : Int))) = none := by
    rw [List.find?_eq_none]
    intro j hj
    simp [hlow j (List.mem_range.1 hj)]
  rw [plc, this]
theorem plc_le (r : ByteArray) (bl : Nat) : plc r bl ≤ r.size := by
  rw [plc]
  split
  · rename_i i h
    have := List.mem_range.1 (List.mem_of_find?_eq_some h)
    omega
  · omega
section
variable (st : Nat) (l : List ByteArray) (kb ks : ByteArray) (bl : Nat)
/-- The place of the bell behind a lead with a call from a row. -/
def plA (h c : ByteArray) : Nat := plc (timesS h (callHd st l kb ks c)) bl
/-- The j-th lead of a touch, if it had that call, would bring the bell to that place. -/
def hitA (t c : ByteArray) (p j : Nat) : Bool := decide (plA st l kb ks bl (hdAt st l kb ks t j) c = p)
/-- How often, from a on. -/
def cntA (t c : ByteArray) (p a d : Nat) : Nat := (List.range' a d).countP (hitA st l kb ks bl t c p)
/-- The word of the i-th lead, which has a call; a is behind the last call. -/
def itemA (t : ByteArray) (i a : Nat) : ByteArray :=
  (letter t i ++ decS (plA st l kb ks bl (hdAt st l kb ks t i) (letter t i))) ++
    (if cntA st l kb ks bl t (letter t i) (plA st l kb ks bl (hdAt st l kb ks t i) (letter t i)) a (i - a) = 0 then ⟨#[]⟩ else ⟨#[43]⟩ ++ decS (cntA st l kb ks bl t (letter t i) (plA st l kb ks bl (hdAt st l kb ks t i) (letter t i)) a (i - a)))
/-- The words of the first leads, and where the last call's lead ends. -/
def wdA (t : ByteArray) : Nat → List ByteArray × Nat
  | 0 => ([], 0)
  | i + 1 => if isP (letter t i) = true then wdA t i else ((wdA t i).1 ++ [itemA st l kb ks bl t i (wdA t i).2], i + 1)
def calW (t : ByteArray) : List ByteArray := if (wdA st l kb ks bl t t.size).2 < t.size then (wdA st l kb ks bl t t.size).1 ++ [⟨#[112]⟩ ++ decS (t.size - (wdA st l kb ks bl t t.size).2)] else (wdA st l kb ks bl t t.size).1
/-- The calling of a touch. -/
def calS (t : ByteArray) : ByteArray := jnK (calW st l kb ks bl t) (calW st l kb ks bl t).length
end
section
variable {st : Nat} {l : List ByteArray} {kb ks : ByteArray} {bl : Nat} {t : ByteArray}
theorem cntA_succ (c : ByteArray) (p a d : Nat) : cntA st l kb ks bl t c p a (d + 1) = cntA st l kb ks bl t c p a d + (if hitA st l kb ks bl t c p (a + d) = true then 1 else 0) := by
  rw [cntA, cntA, List.range'_concat, List.countP_append, Nat.one_mul]
  simp [List.countP_cons]
theorem cntA_front (c : ByteArray) (p a d : Nat) : cntA st l kb ks bl t c p a (d + 1) = cntA st l kb ks bl t c p (a + 1) d + (if hitA st l kb ks bl t c p a = true then 1 else 0) := by
  rw [cntA, cntA, List.range'_succ, List.countP_cons]
theorem cntA_zero (c : ByteArray) (p a : Nat) : cntA st l kb ks bl t c p a 0 = 0 := rfl
theorem cntA_le (c : ByteArray) (p a d : Nat) : cntA st l kb ks bl t c p a d ≤ d := by
  rw [cntA]
  exact Nat.le_trans List.countP_le_length (by simp)
theorem wdA_p {i : Nat} (h : isP (letter t i) = true) : wdA st l kb ks bl t (i + 1) = wdA st l kb ks bl t i := by rw [wdA, if_pos h]
theorem wdA_call {i : Nat} (h : isP (letter t i) = false) : wdA st l kb ks bl t (i + 1) = ((wdA st l kb ks bl t i).1 ++ [itemA st l kb ks bl t i (wdA st l kb ks bl t i).2], i + 1) := by rw [wdA, if_neg (by rw [h]; simp)]
theorem wdA_le : ∀ i, (wdA st l kb ks bl t i).2 ≤ i
  | 0 => Nat.le_refl _
  | i + 1 => by
    have := wdA_le i
    rcases h : isP (letter t i)
    · rw [wdA_call h]; exact Nat.le_refl _
    · rw [wdA_p h]; omega
theorem wdA_len : ∀ i, (wdA st l kb ks bl t i).1.length ≤ i
  | 0 => Nat.le_refl _
  | i + 1 => by
    have := wdA_len i
    rcases h : isP (letter t i)
    · rw [wdA_call h]; simp; omega
    · rw [wdA_p h]; omega
theorem wdA_gap : ∀ i j, (wdA st l kb ks bl t i).2 ≤ j → j < i → isP (letter t j) = true
  | 0, _, _, h => absurd h (by omega)
  | i + 1, j, h1, h2 => by
    rcases h : isP (letter t i)
    · rw [wdA_call h] at h1
      dsimp only at h1
      omega
    · rw [wdA_p h] at h1
      rcases Nat.lt_or_ge j i with g | g
      · exact wdA_gap i j h1 g
      · obtain rfl : j = i := by omega
        exact h
theorem wdA_pre : ∀ d i, (wdA st l kb ks bl t i).1 <+: (wdA st l kb ks bl t (i + d)).1
  | 0, _ => List.prefix_refl _
  | d + 1, i => by
    refine (wdA_pre d i).trans ?_
    rw [← Nat.add_assoc]
    rcases h : isP (letter t (i + d))
    · rw [wdA_call h]; exact List.prefix_append _ _
    · rw [wdA_p h]; exact List.prefix_refl _
theorem wdA_same {a : Nat} : ∀ d, (∀ j, a ≤ j → j < a + d → isP (letter t j) = true) → wdA st l kb ks bl t (a + d) = wdA st l kb ks bl t a
  | 0, _ => rfl
  | d + 1, h => by
    rw [← Nat.add_assoc, wdA_p (h (a + d) (by omega) (by omega))]
    exact wdA_same d fun j h1 h2 => h j h1 (by omega)
theorem calW_len : (calW st l kb ks bl t).length ≤ t.size := by
  have h1 := wdA_len (st := st) (l := l) (kb := kb) (ks := ks) (bl := bl) (t := t) t.size
  rw [calW]
  split
  · rename_i h
    rw [List.length_append, List.length_singleton]
    have : ∀ i, (wdA st l kb ks bl t i).1.length ≤ (wdA st l kb ks bl t i).2 := by
      intro i
      induction i with
      | zero => exact Nat.le_refl _
      | succ i ih =>
        rcases h : isP (letter t i)
        · rw [wdA_call h]
          have := wdA_len (st := st) (l := l) (kb := kb) (ks := ks) (bl := bl) (t := t) i
          simp; omega
        · rw [wdA_p h]; exact ih
    have := this t.size
    omega
  · exact h1
theorem wdA_pos (hi : (wdA st l kb ks bl t t.size).2 = t.size) (h : 1 ≤ t.size) : 1 ≤ (wdA st l kb ks bl t t.size).1.length := by
  have : ∀ i, 1 ≤ (wdA st l kb ks bl t i).2 → 1 ≤ (wdA st l kb ks bl t i).1.length := by
    intro i
    induction i with
    | zero => intro h; exact absurd h (by show ¬ 1 ≤ 0; omega)
    | succ i ih =>
      intro h1
      rcases h : isP (letter t i)
      · rw [wdA_call h]; simp
      · rw [wdA_p h] at h1 ⊢; exact ih h1
  exact this t.size (by omega)
theorem calW_pos (h : 1 ≤ t.size) : 1 ≤ (calW st l kb ks bl t).length := by
  rw [calW]
  split
  · simp
  · rename_i hc
    have := wdA_le (st := st) (l := l) (kb := kb) (ks := ks) (bl := bl) (t := t) t.size
    exact wdA_pos (by omega) h
/-- How far the words have been read: q of them, and the touch up to k. -/
def RdSt (st : Nat) (l : List ByteArray) (kb ks : ByteArray) (bl : Nat) (t : ByteArray) (q k : Nat) : Prop :=
  wdA st l kb ks bl t k = ((calW st l kb ks bl t).take q, k) ∧ q ≤ (calW st l kb ks bl t).length ∧ k ≤ t.size
theorem RdSt.start : RdSt st l kb ks bl t 0 0 := ⟨rfl, Nat.zero_le _, Nat.zero_le _⟩
theorem first_call {a : Nat} (ha : a ≤ t.size) : (∀ j, a ≤ j → j < t.size → isP (letter t j) = true) ∨ ∃ i, a ≤ i ∧ i < t.size ∧ (∀ j, a ≤ j → j < i → isP (letter t j) = true) ∧ isP (letter t i) = false := by
  by_cases h : ∃ i, a ≤ i ∧ i < t.size ∧ isP (letter t i) = false
  · right
    obtain ⟨i, h1, h2, h3⟩ := h
    induction i using Nat.strongRecOn with
    | ind i ih =>
      by_cases g : ∃ j, a ≤ j ∧ j < i ∧ isP (letter t j) = false
      · obtain ⟨j, g1, g2, g3⟩ := g
        exact ih j g2 g1 (by omega) g3
      · refine ⟨i, h1, h2, fun j j1 j2 => ?_, h3⟩
        rcases e : isP (letter t j)
        · exact absurd ⟨j, j1, j2, e⟩ g
        · rfl
  · left
    intro j j1 j2
    rcases e : isP (letter t j)
    · exact absurd ⟨j, j1, j2, e⟩ h
    · rfl
theorem pre_take {α : Type} {x y : List α} {z : α} (h : x ++ [z] <+: y) : y.take (x.length + 1) = x ++ [z] ∧ y[x.length]? = some z := by
  obtain ⟨r, rfl⟩ := h
  exact ⟨List.take_left' (by simp), by simp⟩
/-- What the next word is. -/
theorem RdSt.next {q k : Nat} {y : ByteArray} (h : RdSt st l kb ks bl t q k) (hy : (calW st l kb ks bl t)[q]? = some y) :
    (∃ i, k ≤ i ∧ i < t.size ∧ (∀ j, k ≤ j → j < i → isP (letter t j) = true) ∧ isP (letter t i) = false ∧ y = itemA st l kb ks bl t i k ∧ RdSt st l kb ks bl t (q + 1) (i + 1)) ∨
    ((∀ j, k ≤ j → j < t.size → isP (letter t j) = true) ∧ k < t.size ∧ y = ⟨#[112]⟩ ++ decS (t.size - k) ∧ q + 1 = (calW st l kb ks bl t).length) := by
  obtain ⟨h1, h2, h3⟩ := h
  have hq := (List.getElem?_eq_some_iff.1 hy).1
  rcases first_call h3 with hp | ⟨i, i1, i2, i3, i4⟩
  · right
    have e := wdA_same (st := st) (l := l) (kb := kb) (ks := ks) (bl := bl) (t := t) (a := k) (t.size - k) (fun j j1 j2 => hp j j1 (by omega))
    rw [show k + (t.size - k) = t.size by omega, h1] at e
    have hk : k < t.size := by
      rcases Nat.lt_or_ge k t.size with g | g
      · exact g
      · exfalso
        have e2 : calW st l kb ks bl t = (calW st l kb ks bl t).take q := by
          conv => lhs; rw [calW, e]
          rw [if_neg (by dsimp only; omega)]
        have := congrArg List.length e2
        rw [List.length_take] at this
        omega
    have e2 : calW st l kb ks bl t = (calW st l kb ks bl t).take q ++ [⟨#[112]⟩ ++ decS (t.size - k)] := by
      conv => lhs; rw [calW, e]
      rw [if_pos hk]
    have hl := congrArg List.length e2
    rw [List.length_append, List.length_take, List.length_singleton] at hl
    refine ⟨hp, hk, ?_, by omega⟩
    rw [e2, List.getElem?_append_right (by rw [List.length_take]; omega), List.length_take, show q - min q (calW st l kb ks bl t).length = 0 by omega] at hy
    injection hy with hy
    exact hy.symm
  · left
    have e := wdA_same (st := st) (l := l) (kb := kb) (ks := ks) (bl := bl) (t := t) (a := k) (i - k) (fun j j1 j2 => i3 j j1 (by omega))
    rw [show k + (i - k) = i by omega, h1] at e
    have e1 := wdA_call (st := st) (l := l) (kb := kb) (ks := ks) (bl := bl) i4
    rw [e] at e1
    dsimp only at e1
    have hpre : (calW st l kb ks bl t).take q ++ [itemA st l kb ks bl t i k] <+: calW st l kb ks bl t := by
      have p1 := wdA_pre (st := st) (l := l) (kb := kb) (ks := ks) (bl := bl) (t := t) (t.size - (i + 1)) (i + 1)
      rw [show i + 1 + (t.size - (i + 1)) = t.size by omega, e1] at p1
      refine p1.trans ?_
      rw [calW]
      split
      · exact List.prefix_append _ _
      · exact List.prefix_refl _
    obtain ⟨p2, p3⟩ := pre_take hpre
    rw [List.length_take, Nat.min_eq_left h2] at p2 p3
    rw [p3] at hy
    injection hy with hy
    exact ⟨i, i1, i2, i3, i4, hy.symm, by rw [e1, p2], by omega, by omega⟩
theorem RdSt.end_ {q k : Nat} (h : RdSt st l kb ks bl t q k) (hq : q = (calW st l kb ks bl t).length) : k = t.size := by
  obtain ⟨h1, _, h3⟩ := h
  rcases Nat.lt_or_ge k t.size with g | g
  · exfalso
    rcases first_call h3 with hp | ⟨i, i1, i2, i3, i4⟩
    · have e := wdA_same (st := st) (l := l) (kb := kb) (ks := ks) (bl := bl) (t := t) (a := k) (t.size - k) (fun j j1 j2 => hp j j1 (by omega))
      rw [show k + (t.size - k) = t.size by omega, h1] at e
      have e2 : calW st l kb ks bl t = (calW st l kb ks bl t).take q ++ [⟨#[112]⟩ ++ decS (t.size - k)] := by
        conv => lhs; rw [calW, e]
        rw [if_pos g]
      have hl := congrArg List.length e2
      rw [List.length_append, List.length_take, List.length_singleton] at hl
      omega
    · have e := wdA_same (st := st) (l := l) (kb := kb) (ks := ks) (bl := bl) (t := t) (a := k) (i - k) (fun j j1 j2 => i3 j j1 (by omega))
      rw [show k + (i - k) = i by omega, h1] at e
      have e1 := wdA_call (st := st) (l := l) (kb := kb) (ks := ks) (bl := bl) i4
      rw [e] at e1
      have p1 := wdA_pre (st := st) (l := l) (kb := kb) (ks := ks) (bl := bl) (t := t) (t.size - (i + 1)) (i + 1)
      rw [show i + 1 + (t.size - (i + 1)) = t.size by omega, e1] at p1
      have p2 := p1.length_le
      rw [List.length_append, List.length_take, List.length_singleton] at p2
      have p3 : (wdA st l kb ks bl t t.size).1.length ≤ (calW st l kb ks bl t).length := by
        rw [calW]
        split
        · simp
        · exact Nat.le_refl _
      omega
  · omega
end
end Go.Proofs.YtidolgonmimicaaGreatDoor
/- What the words of a calling say. -/
namespace Go.Proofs.YtidolgonmimicaaGreatDoor
set_option linter.unusedVariables false
set_option linter.unusedSimpArgs false
open Go.ChangeShapes Go.WideShapes Go.ChangeAt Go.RowKit Go.Deep
theorem baX {s t : ByteArray} (h : s.data.toList = t.data.toList) : s = t := by
  cases s; cases t
  congr
  exact Array.toList_inj.1 h
theorem sz_list (s : ByteArray) : s.size = s.data.toList.length := by rw [Array.length_toList]; rfl
theorem ba_list2 (s : ByteArray) : (⟨s.data.toList.toArray⟩ : ByteArray) = s := by cases s; simp
/-- d plain leads. -/
def pRep (d : Nat) : ByteArray := ⟨(List.replicate d 112).toArray⟩
theorem pRep_size (d : Nat) : (pRep d).size = d := by simp [pRep, ByteArray.size]
theorem pRep_succ (d : Nat) : pRep (d + 1) = pRep d ++ ⟨#[112]⟩ := by
  apply baX
  simp [pRep, List.replicate_succ']
theorem pRep_zero : pRep 0 = ⟨#[]⟩ := rfl
theorem calT_pRep : ∀ d, calT (pRep d)
  | 0 => calT_nil
  | d + 1 => by rw [pRep_succ]; exact calT_app (calT_pRep d) calT_p
theorem isP_letter {c : ByteArray} (h : isP c = true) : c = ⟨#[112]⟩ := by
  have h1 : c.toList = [112] := by simpa [isP] using h
  exact baX (by rw [← ByteArray.toList_eq, h1])
theorem ext_more (T : ByteArray) {k m : Nat} (h1 : k ≤ m) (h2 : m < T.size) : T.extract k (m + 1) = T.extract k m ++ letter T m := by
  apply baX
  rw [letter, ByteArray.data_append, Array.toList_append, ext_list, ext_list, ext_list]
  have hl : m < T.data.toList.length := by simpa using h2
  rw [show m + 1 - k = (m - k) + 1 by omega, List.take_add_one, show m + 1 - m = 1 by omega, List.getElem?_drop, show k + (m - k) = m by omega, List.getElem?_eq_getElem hl, List.drop_eq_getElem_cons hl]
  rfl
theorem run_p {T : ByteArray} {k : Nat} : ∀ d, k + d ≤ T.size → (∀ j, k ≤ j → j < k + d → isP (letter T j) = true) → T.extract k (k + d) = pRep d
  | 0, _, _ => by
    apply baX
    rw [ext_list]; simp [pRep]
  | d + 1, h, hp => by
    rw [← Nat.add_assoc, ext_more T (by omega) (by omega), run_p d (by omega) (fun j h1 h2 => hp j h1 (by omega)), isP_letter (hp (k + d) (by omega) (by omega)), pRep_succ]
theorem ext_join (T : ByteArray) {k m : Nat} (h1 : k ≤ m) (h2 : m ≤ T.size) : T.extract 0 k ++ T.extract k m = T.extract 0 m := by
  apply baX
  rw [ByteArray.data_append, Array.toList_append, ext_list, ext_list, ext_list]
  simp only [Nat.sub_zero, List.drop_zero]
  rw [show m = k + (m - k) by omega, List.take_add, show k + (m - k) - k = m - k by omega]
theorem ext_all (T : ByteArray) : T.extract 0 T.size = T := by simp
section
variable {st : Nat} {l : List ByteArray} {kb ks : ByteArray} {bl : Nat} {T : ByteArray}
theorem hd_plain {j : Nat} (h : isP (letter T j) = true) : hdAt st l kb ks T (j + 1) = timesS (hdAt st l kb ks T j) (callHd st l kb ks ⟨#[112]⟩) := by
  rw [hdAt, isP_letter h]
/-- A word that tells of a lead with a call, from a row. -/
structure ItW (st : Nat) (l : List ByteArray) (kb ks : ByteArray) (bl : Nat) (y h : ByteArray) (T : ByteArray) (k i : Nat) : Prop where
  good : goodT T = true
  ki : k ≤ i
  lt : i < T.size
  plain : ∀ j, k ≤ j → j < i → isP (letter T j) = true
  call : isP (letter T i) = false
  word : y = itemA st l kb ks bl T i k
  from_ : h = hdAt st l kb ks T k
/-- The last word, which tells of plain leads. -/
structure PlW (y : ByteArray) (T : ByteArray) (k : Nat) : Prop where
  good : goodT T = true
  lt : k < T.size
  plain : ∀ j, k ≤ j → j < T.size → isP (letter T j) = true
  word : y = ⟨#[112]⟩ ++ decS (T.size - k)
/-- What is behind a word's letter. -/
def tailL (p c : Nat) : List UInt8 := Lib.decDigits p ++ (if c = 0 then [] else 43 :: Lib.decDigits c)
theorem tail_spl (p c : Nat) : spl 43 (tailL p c) = if c = 0 then [Lib.decDigits p] else [Lib.decDigits p, Lib.decDigits c] := by
  by_cases h : c = 0
  · rw [tailL, if_pos h, if_pos h, List.append_nil, spl_clean _ (dec_no (by decide))]
  · rw [tailL, if_neg h, if_neg h, spl_app _ _ (dec_no (by decide)), spl_clean _ (dec_no (by decide))]
theorem cut_no {c : UInt8} : ∀ {a : List UInt8}, c ∉ a → Lib.cut a [c] = (a, [], false) := by
  intro a hn
  have hi : Lib.index a [c] = -1 := by
    rw [Lib.index_one]
    have key : ∀ a : List UInt8, c ∉ a → Lib.indexByte a c = -1 := by
      intro a
      induction a with
      | nil => intro _; rfl
      | cons y a ih =>
        intro hy
        have h1 : (y == c) = false := by
          rw [beq_eq_false_iff_ne]; exact fun e => hy (by rw [e]; exact List.mem_cons_self ..)
        have h2 := ih (fun e => hy (List.mem_cons_of_mem _ e))
        rw [Lib.indexByte, h1, h2]
        simp
    exact key a hn
  rw [Lib.cut, if_neg (by rw [hi]; omega)]
theorem tail_cut (p c : Nat) : Lib.cut (tailL p c) [43] = if c = 0 then (Lib.decDigits p, [], false) else (Lib.decDigits p, Lib.decDigits c, true) := by
  by_cases h : c = 0
  · rw [tailL, if_pos h, if_pos h, List.append_nil, cut_no (dec_no (by decide))]
  · rw [tailL, if_neg h, if_neg h, cut_at_byte (dec_no (by decide))]
/-- The place and the number of a word that tells of a call. -/
def plI (st : Nat) (l : List ByteArray) (kb ks : ByteArray) (bl : Nat) (T : ByteArray) (i : Nat) : Nat := plA st l kb ks bl (hdAt st l kb ks T i) (letter T i)
def cnI (st : Nat) (l : List ByteArray) (kb ks : ByteArray) (bl : Nat) (T : ByteArray) (i k : Nat) : Nat := cntA st l kb ks bl T (letter T i) (plI st l kb ks bl T i) k (i - k)
theorem item_list (i k : Nat) : (itemA st l kb ks bl T i k).data.toList = (letter T i).data.toList ++ tailL (plI st l kb ks bl T i) (cnI st l kb ks bl T i k) := by
  rw [itemA, ByteArray.data_append, Array.toList_append, ByteArray.data_append, Array.toList_append, tailL, List.append_assoc]
  congr 2
  show (if cnI st l kb ks bl T i k = 0 then (⟨#[]⟩ : ByteArray) else _).data.toList = _
  split <;> simp [decS, cnI, plI]
theorem letter_len {i : Nat} (h : i < T.size) : (letter T i).data.toList.length = 1 := by
  have : (letter T i).size = 1 := by rw [letter, ByteArray.size_extract]; omega
  simpa using this
theorem dec_pos (n : Nat) : 1 ≤ (Lib.decDigits n).length := by
  have h := dec_canon n
  rw [canon, Bool.and_eq_true, decide_eq_true_iff] at h
  exact h.1
theorem item_parts {i k : Nat} (h : i < T.size) : (itemA st l kb ks bl T i k).extract 0 1 = letter T i ∧ ((itemA st l kb ks bl T i k).extract 1 (itemA st l kb ks bl T i k).size).data.toList = tailL (plI st l kb ks bl T i) (cnI st l kb ks bl T i k) ∧ 2 ≤ (itemA st l kb ks bl T i k).size := by
  have h1 := letter_len h
  have h2 := item_list (st := st) (l := l) (kb := kb) (ks := ks) (bl := bl) (T := T) i k
  have h3 := congrArg List.length h2
  have h4 := dec_pos (plI st l kb ks bl T i)
  refine ⟨?_, ?_, ?_⟩
  · apply baX
    rw [ext_list, h2, List.drop_zero, List.take_left' (by omega)]
  · rw [ext_list, h2, List.drop_left' (by omega), List.take_of_length_le]
    have : (itemA st l kb ks bl T i k).size = _ := sz_list _
    rw [this, h2, List.length_append]; omega
  · have : (itemA st l kb ks bl T i k).size = _ := sz_list _
    rw [this, h2, List.length_append, h1, tailL, List.length_append]
    omega
theorem pw_parts (m : Nat) : ((⟨#[112]⟩ : ByteArray) ++ decS m).extract 0 1 = ⟨#[112]⟩ ∧ (((⟨#[112]⟩ : ByteArray) ++ decS m).extract 1 ((⟨#[112]⟩ : ByteArray) ++ decS m).size).data.toList = Lib.decDigits m ∧ 2 ≤ ((⟨#[112]⟩ : ByteArray) ++ decS m).size := by
  have h2 : ((⟨#[112]⟩ : ByteArray) ++ decS m).data.toList = 112 :: Lib.decDigits m := by simp [decS]
  have h4 := dec_pos m
  have hs : ((⟨#[112]⟩ : ByteArray) ++ decS m).size = (Lib.decDigits m).length + 1 := by
    have : ((⟨#[112]⟩ : ByteArray) ++ decS m).size = _ := sz_list _
    rw [this, h2]; rfl
  refine ⟨?_, ?_, by omega⟩
  · apply baX
    rw [ext_list, h2]; rfl
  · rw [ext_list, h2, hs]; simp
theorem plI_le (h3 : 3 ≤ st) (h8 : st ≤ 8) (i : Nat) : plI st l kb ks bl T i ≤ 8 := by
  have h1 := plc_le (timesS (hdAt st l kb ks T i) (callHd st l kb ks (letter T i))) bl
  have h2 : (timesS (hdAt st l kb ks T i) (callHd st l kb ks (letter T i))).size = st := by
    rw [timesS, strOfNums_size, timesL_len]
    exact headX_size (by omega) l _
  rw [h2] at h1
  exact Nat.le_trans h1 h8
theorem cnI_le {i k : Nat} : cnI st l kb ks bl T i k ≤ i - k := cntA_le ..
/-! The words have no space in them: the calling is cut into them. -/
theorem tail_no {p c : Nat} : (32 : UInt8) ∉ tailL p c := by
  rw [tailL]
  split
  · rw [List.append_nil]; exact dec_no (by decide)
  · rw [List.mem_append, List.mem_cons]
    rintro (q | q | q)
    · exact dec_no (by decide) q
    · exact absurd q (by decide)
    · exact dec_no (by decide) q
theorem letter_no (h : goodT T = true) {i : Nat} (hi : i < T.size) : (32 : UInt8) ∉ (letter T i).data.toList := by
  intro hm
  have hb := (goodT_t h).2.2 i hi
  rw [letter, ext_list, show i + 1 - i = 1 by omega, List.drop_eq_getElem_cons (by simpa using hi)] at hm
  simp at hm
  have := bt_data (s := T) (k := i) (b := 32) (by rw [List.getElem?_eq_getElem (by simpa using hi), Array.getElem_toList, ← hm])
  rw [callB, this.1] at hb
  revert hb; decide
theorem tail_len {p c : Nat} (hp : p ≤ 60) (hc : c ≤ 60) : (tailL p c).length ≤ 5 := by
  have h1 := dec_len2 hp
  have h2 := dec_len2 hc
  rw [tailL, List.length_append]
  split
  · rw [List.length_nil]; omega
  · rw [List.length_cons]; omega
theorem item_size (h3 : 3 ≤ st) (h8 : st ≤ 8) (h : goodT T = true) {i k : Nat} (hi : i < T.size) : (itemA st l kb ks bl T i k).size ≤ 6 := by
  have h60 := (goodT_t h).2.1
  have h1 := plI_le (l := l) (kb := kb) (ks := ks) (bl := bl) (T := T) h3 h8 i
  have h2 := cnI_le (st := st) (l := l) (kb := kb) (ks := ks) (bl := bl) (T := T) (i := i) (k := k)
  have h4 := tail_len (p := plI st l kb ks bl T i) (c := cnI st l kb ks bl T i k) (by omega) (by omega)
  have : (itemA st l kb ks bl T i k).size = _ := sz_list _
  rw [this, item_list, List.length_append, letter_len hi]
  omega
theorem wd_no (h3 : 3 ≤ st) (h8 : st ≤ 8) (h : goodT T = true) : ∀ i, i ≤ T.size → ∀ y ∈ (wdA st l kb ks bl T i).1, (32 : UInt8) ∉ y.data.toList ∧ y.size ≤ 6
  | 0, _, y, hy => by cases hy
  | i + 1, hi, y, hy => by
    rcases hp : isP (letter T i)
    · rw [wdA_call hp] at hy
      rcases List.mem_append.1 hy with q | q
      · exact wd_no h3 h8 h i (by omega) y q
      · rw [List.mem_singleton.1 q]
        refine ⟨?_, item_size h3 h8 h (by omega)⟩
        rw [item_list, List.mem_append]
        rintro (q | q)
        · exact letter_no h (by omega) q
        · exact tail_no q
    · rw [wdA_p hp] at hy
      exact wd_no h3 h8 h i (by omega) y hy
theorem calW_no (h3 : 3 ≤ st) (h8 : st ≤ 8) (h : goodT T = true) : ∀ y ∈ calW st l kb ks bl T, (32 : UInt8) ∉ y.data.toList ∧ y.size ≤ 6 := fun y hy => by
  have h60 := (goodT_t h).2.1
  rw [calW] at hy
  split at hy
  · rcases List.mem_append.1 hy with q | q
    · exact wd_no h3 h8 h _ (Nat.le_refl _) y q
    · rw [List.mem_singleton.1 q]
      obtain ⟨m, hm⟩ : ∃ m, m = T.size - (wdA st l kb ks bl T T.size).2 := ⟨_, rfl⟩
      rw [← hm]
      have h2 : ((⟨#[112]⟩ : ByteArray) ++ decS m).data.toList = 112 :: Lib.decDigits m := by simp [decS]
      refine ⟨?_, ?_⟩
      · rw [h2, List.mem_cons]
        rintro (q | q)
        · exact absurd q (by decide)
        · exact dec_no (by decide) q
      · have : ((⟨#[112]⟩ : ByteArray) ++ decS m).size = _ := sz_list _
        have h5 := dec_len2 (b := m) (by omega)
        rw [this, h2, List.length_cons]; omega
  · exact wd_no h3 h8 h _ (Nat.le_refl _) y hy
/-- The calling, cut at its spaces. -/
theorem calS_cut (h3 : 3 ≤ st) (h8 : st ≤ 8) (h : goodT T = true) : splB 32 (calS st l kb ks bl T) = calW st l kb ks bl T := by
  have hno := calW_no (l := l) (kb := kb) (ks := ks) (bl := bl) h3 h8 h
  have hpos := calW_pos (st := st) (l := l) (kb := kb) (ks := ks) (bl := bl) (t := T) (goodT_t h).1
  have hj := jnK_join (calW st l kb ks bl T) _ (Nat.le_refl _)
  rw [List.take_length] at hj
  rw [splB, calS, hj]
  rcases hw : calW st l kb ks bl T with _ | ⟨x, r⟩
  · rw [hw] at hpos; simp at hpos
  · rw [hw] at hno
    rw [List.map_cons, spl_heads _ _ (by
      intro y hy
      have hy : y ∈ (x :: r).map (·.data.toList) := hy
      obtain ⟨z, hz, rfl⟩ := List.mem_map.1 hy
      exact (hno z hz).1), ← List.map_cons (f := fun z : ByteArray => z.data.toList), List.map_map]
    rw [List.map_congr_left (g := id) (fun y _ => by exact ba_list2 y)]
    simp
theorem calS_size (h3 : 3 ≤ st) (h8 : st ≤ 8) (h : goodT T = true) : (calS st l kb ks bl T).size ≤ 540 := by
  have hno := calW_no (l := l) (kb := kb) (ks := ks) (bl := bl) h3 h8 h
  have h1 := jnK_size (fun s hs => Nat.le_trans (hno s hs).2 (by decide)) (calW st l kb ks bl T).length (Nat.le_refl _)
  have h2 := calW_len (st := st) (l := l) (kb := kb) (ks := ks) (bl := bl) (t := T)
  have h4 := (goodT_t h).2.1
  rw [calS]; omega
/-! The search for a word's lead, step by step. -/
theorem ItW.hit {y h : ByteArray} {k i d : Nat} (g : ItW st l kb ks bl y h T k i) (hd : d < i - k) : hitA st l kb ks bl T (letter T i) (plI st l kb ks bl T i) (k + d) = decide (plA st l kb ks bl (hdAt st l kb ks T (k + d)) (letter T i) = plI st l kb ks bl T i) := rfl
theorem ItW.step {y h : ByteArray} {k i d : Nat} (g : ItW st l kb ks bl y h T k i) (hd : d < i - k) : hdAt st l kb ks T (k + (d + 1)) = timesS (hdAt st l kb ks T (k + d)) (callHd st l kb ks ⟨#[112]⟩) := by
  rw [← Nat.add_assoc]
  exact hd_plain (g.plain (k + d) (by omega) (by omega))
theorem ItW.front {y h : ByteArray} {k i d : Nat} (_g : ItW st l kb ks bl y h T k i) (hd : d < i - k) : cntA st l kb ks bl T (letter T i) (plI st l kb ks bl T i) (k + d) (i - k - d) = cntA st l kb ks bl T (letter T i) (plI st l kb ks bl T i) (k + (d + 1)) (i - k - (d + 1)) + (if plA st l kb ks bl (hdAt st l kb ks T (k + d)) (letter T i) = plI st l kb ks bl T i then 1 else 0) := by
  have e := cntA_front (st := st) (l := l) (kb := kb) (ks := ks) (bl := bl) (t := T) (letter T i) (plI st l kb ks bl T i) (k + d) (i - k - (d + 1))
  rw [show i - k - (d + 1) + 1 = i - k - d by omega] at e
  rw [Nat.add_assoc k d 1] at e
  have hh : hitA st l kb ks bl T (letter T i) (plI st l kb ks bl T i) (k + d) = true ↔ plA st l kb ks bl (hdAt st l kb ks T (k + d)) (letter T i) = plI st l kb ks bl T i := decide_eq_true_iff
  by_cases q : plA st l kb ks bl (hdAt st l kb ks T (k + d)) (letter T i) = plI st l kb ks bl T i
  · rw [if_pos (hh.2 q)] at e
    rw [if_pos q]; exact e
  · rw [if_neg (fun z => q (hh.1 z))] at e
    rw [if_neg q]; exact e
theorem ItW.done {y h : ByteArray} {k i : Nat} (g : ItW st l kb ks bl y h T k i) : pRep (i - k) ++ letter T i = T.extract k (i + 1) ∧ T.extract 0 k ++ (pRep (i - k) ++ letter T i) = T.extract 0 (i + 1) ∧ i - k < 60 := by
  have h1 := g.lt
  have h2 := g.ki
  have h60 := (goodT_t g.good).2.1
  have e := run_p (T := T) (k := k) (i - k) (by omega) (fun j j1 j2 => g.plain j j1 (by omega))
  rw [show k + (i - k) = i by omega] at e
  have e2 : pRep (i - k) ++ letter T i = T.extract k (i + 1) := by rw [← e, ext_more T h2 h1]
  exact ⟨e2, by rw [e2, ext_join T (by omega) (by omega)], by omega⟩
theorem PlW.done {y : ByteArray} {k : Nat} (g : PlW y T k) : pRep (T.size - k) = T.extract k T.size ∧ T.extract 0 k ++ pRep (T.size - k) = T ∧ 1 ≤ T.size - k ∧ T.size - k ≤ 60 := by
  have h1 := g.lt
  have h60 := (goodT_t g.good).2.1
  have e := run_p (T := T) (k := k) (T.size - k) (by omega) (fun j j1 j2 => g.plain j j1 (by omega))
  rw [show k + (T.size - k) = T.size by omega] at e
  exact ⟨e.symm, by rw [← e, ext_join T (by omega) (Nat.le_refl _), ext_all], by omega, by omega⟩
end
end Go.Proofs.YtidolgonmimicaaGreatDoor
/- Sorting texts: a strict order, sorted lists, repeats among neighbours. -/
namespace Go.Proofs.YtidolgonmimicaaGreatDoor
set_option linter.unusedVariables false
set_option linter.unusedSimpArgs false
open Go.ChangeShapes Go.WideShapes Go.ChangeAt Go.RowKit Go.Deep
theorem bytes_trans : ∀ (a b c : List UInt8), Op.bytesLess a b = true → Op.bytesLess b c = true → Op.bytesLess a c = true
  | _, _, [], _, h => by cases ‹List UInt8› <;> simp [Op.bytesLess] at h
  | [], _, c :: z, _, _ => by simp [Op.bytesLess]
  | a :: x, [], c :: z, h, _ => by simp [Op.bytesLess] at h
  | a :: x, b :: y, c :: z, h1, h2 => by
    simp only [Op.bytesLess, Bool.or_eq_true, Bool.and_eq_true, decide_eq_true_eq, beq_iff_eq] at h1 h2 ⊢
    rcases h1 with h1 | ⟨rfl, h1⟩
    · rcases h2 with h2 | ⟨rfl, h2⟩
      · left
        have q1 := UInt8.lt_iff_toNat_lt.1 h1; have q2 := UInt8.lt_iff_toNat_lt.1 h2
        exact UInt8.lt_iff_toNat_lt.2 (by omega)
      · exact .inl h1
    · rcases h2 with h2 | ⟨rfl, h2⟩
      · exact .inl h2
      · exact .inr ⟨rfl, bytes_trans x y z h1 h2⟩
theorem less_trans {a b c : ByteArray} (h1 : less a b = true) (h2 : less b c = true) : less a c = true := bytes_trans _ _ _ h1 h2
theorem toList_inj {a b : ByteArray} (h : a.toList = b.toList) : a = b := by
  rw [ByteArray.toList_eq, ByteArray.toList_eq] at h
  cases a; cases b
  congr 1
  exact Array.ext' h
theorem less_tri (a b : ByteArray) : less a b = true ∨ a = b ∨ less b a = true := by
  rcases bytes_tri a.toList b.toList with ⟨h, _⟩ | ⟨_, h, _⟩ | ⟨_, _, h⟩
  · exact .inl h
  · exact .inr (.inl (toList_inj (by simpa using h)))
  · exact .inr (.inr h)
theorem less_irr (a : ByteArray) : less a a = false := by
  rcases h : less a a
  · rfl
  · have h' := h
    have := (less_yes h).1
    rcases bytes_tri a.toList a.toList with ⟨h1, h2, h3⟩ | ⟨h1, h2, h3⟩ | ⟨h1, h2, h3⟩
    · rw [h1] at h3; cases h3
    · rw [this] at h1; cases h1
    · rw [h3] at h1; cases h1
/-- Not behind. -/
def leS (a b : ByteArray) : Bool := !less b a
theorem leS_refl (a : ByteArray) : leS a a = true := by rw [leS, less_irr]; rfl
theorem leS_trans (a b c : ByteArray) (h1 : leS a b = true) (h2 : leS b c = true) : leS a c = true := by
  simp only [leS, Bool.not_eq_true'] at h1 h2 ⊢
  rcases h : less c a
  · rfl
  · rcases less_tri b c with q | q | q
    · have := less_trans q h; rw [h1] at this; cases this
    · subst q; rw [h] at h1; cases h1
    · rw [q] at h2; cases h2
theorem leS_total (a b : ByteArray) : (leS a b || leS b a) = true := by
  simp only [leS]
  rcases h : less b a
  · rfl
  · rcases h2 : less a b
    · rfl
    · have := less_trans h h2; rw [less_irr] at this; cases this
theorem leS_anti {a b : ByteArray} (h1 : leS a b = true) (h2 : leS b a = true) : a = b := by
  simp only [leS, Bool.not_eq_true'] at h1 h2
  rcases less_tri a b with q | q | q
  · rw [q] at h2; cases h2
  · exact q
  · rw [q] at h1; cases h1
def Srt (l : List ByteArray) : Prop := l.Pairwise fun a b => leS a b = true
theorem merge_srt {a b : List ByteArray} (ha : Srt a) (hb : Srt b) : Srt (List.merge a b leS) := List.pairwise_merge leS_trans leS_total a b ha hb
theorem merge_perm (a b : List ByteArray) : (List.merge a b leS).Perm (a ++ b) := List.merge_perm_append leS
theorem srt_unique : ∀ {a b : List ByteArray}, Srt a → Srt b → a.Perm b → a = b
  | [], b, _, _, h => h.nil_eq
  | x :: a, [], _, _, h => by have := h.length_eq; simp at this
  | x :: a, y :: b, ha, hb, h => by
    have hx := List.pairwise_cons.1 ha
    have hy := List.pairwise_cons.1 hb
    have e : x = y := by
      rcases List.mem_cons.1 (h.subset (List.mem_cons_self ..)) with q | q
      · exact q
      · rcases List.mem_cons.1 (h.symm.subset (List.mem_cons_self ..)) with r | r
        · exact r.symm
        · exact leS_anti (hx.1 y r) (hy.1 x q)
    subst e
    rw [srt_unique hx.2 hy.2 h.cons_inv]
def nextEq (l : List ByteArray) (k : Nat) : Bool := decide (l.getD k ByteArray.empty = l.getD (k - 1) ByteArray.empty)
theorem nextEq_at {l : List ByteArray} {k : Nat} {x y : ByteArray} (hx : l[k - 1]? = some x) (hy : l[k]? = some y) : nextEq l k = decide (y = x) := by simp [nextEq, List.getD, hx, hy]
/-- No text twice. -/
def nodupB (l : List ByteArray) : Bool := decide l.Nodup
theorem srt_nodup {l : List ByteArray} (h : Srt l) : l.Nodup ↔ ∀ k, 1 ≤ k → k < l.length → nextEq l k = false := by
  constructor
  · intro hn k h1 h2
    rw [nextEq, decide_eq_false_iff_not]
    rw [List.nodup_iff_pairwise_ne, List.pairwise_iff_getElem] at hn
    have := hn (k - 1) k (by omega) h2 (by omega)
    rw [List.getD, List.getD, List.getElem?_eq_getElem h2, List.getElem?_eq_getElem (by omega)]
    exact fun e => this (by simpa using e.symm)
  · intro hk
    have key : ∀ d i j, j = i + d + 1 → (hj : j < l.length) → (hi : i < l.length) → less l[i] l[j] = true := by
      intro d
      induction d with
      | zero =>
        intro i j e hj hi
        subst e
        have h1 := hk (i + 1) (by omega) hj
        rw [nextEq, decide_eq_false_iff_not, List.getD, List.getD, Nat.add_sub_cancel, List.getElem?_eq_getElem hj, List.getElem?_eq_getElem hi] at h1
        have h2 := (List.pairwise_iff_getElem.1 h) i (i + 1) hi hj (by omega)
        rcases less_tri l[i] l[i + 1] with q | q | q
        · exact q
        · exact absurd (by simpa using q.symm) h1
        · simp [leS, q] at h2
      | succ d ih =>
        intro i j e hj hi
        exact less_trans (ih i (i + d + 1) rfl (by omega) hi) (by
          subst e
          have h1 := hk (i + (d + 1) + 1) (by omega) hj
          rw [nextEq, decide_eq_false_iff_not, List.getD, List.getD, Nat.add_sub_cancel, List.getElem?_eq_getElem hj, List.getElem?_eq_getElem (by omega)] at h1
          have h2 := (List.pairwise_iff_getElem.1 h) (i + (d + 1)) (i + (d + 1) + 1) (by omega) hj (by omega)
          rcases less_tri (l[i + (d + 1)]'(by omega)) l[i + (d + 1) + 1] with q | q | q
          · exact q
          · exact absurd (by simpa using q.symm) h1
          · simp [leS, q] at h2)
    rw [List.nodup_iff_pairwise_ne, List.pairwise_iff_getElem]
    intro i j hi hj hij e
    have := key (j - i - 1) i j (by omega) hj hi
    rw [e, less_irr] at this
    cases this
end Go.Proofs.YtidolgonmimicaaGreatDoor
/- Plain laws of closures: the rows that some rows generate, breadth first. -/
namespace Go.Proofs.YtidolgonmimicaaGreatDoor
set_option linter.unusedVariables false
set_option linter.unusedSimpArgs false
open Go.ChangeShapes Go.WideShapes Go.ChangeAt Go.RowKit Go.Deep
/-- A row that is good and of a stage. -/
def RowN (n : Nat) (s : ByteArray) : Prop := goodRow s = true ∧ s.size = n
theorem RowN.times {n : Nat} {a b : ByteArray} (h : RowN n a) (g : RowN n b) : RowN n (timesS a b) :=
  ⟨good_times h.1 g.1 (by rw [h.2, g.2]), by rw [timesS, strOfNums_size, timesL_len, g.2]⟩
theorem RowN.st {n : Nat} {a : ByteArray} (h : RowN n a) : 3 ≤ n ∧ n ≤ 8 := by have := goodRow_n h.1; rw [h.2] at this; exact this
theorem rowN_rounds {n : Nat} (h3 : 3 ≤ n) (h8 : n ≤ 8) : RowN n (roundsS n) := ⟨good_rounds n (by omega) h3, rounds_size n (by omega)⟩
theorem rowN_fits {n : Nat} {a b : ByteArray} (h : RowN n a) (g : RowN n b) : fits a b := fits_good g.1 (by rw [h.2, g.2])
theorem rowN_inj {n : Nat} {a b : ByteArray} (h : RowN n a) (g : RowN n b) (e : place a = place b) : a = b := place_inj h.1 g.1 (by rw [h.2, g.2]) e
theorem rowN_place {n : Nat} {a : ByteArray} (h : RowN n a) : place a < fact n := by have := place_lt a; rwa [h.2] at this
theorem fact_le8 : ∀ {n : Nat}, n ≤ 8 → fact n ≤ 40320 := fun {n} h => by
  have : ∀ n, n < 9 → fact n ≤ 40320 := of_decide_eq_true (by kernel_rfl)
  exact this n (by omega)
/-- Different rows of a stage are at most so many. -/
theorem rows_le {n : Nat} {l : List ByteArray} (hn : l.Nodup) (hg : ∀ s ∈ l, RowN n s) : l.length ≤ fact n := by
  have h1 : (l.map place).Nodup := by
    rw [List.nodup_iff_pairwise_ne, List.pairwise_map]
    rw [List.nodup_iff_pairwise_ne] at hn
    exact hn.imp_of_mem fun {x y} hx hy hne e => hne (rowN_inj (hg x hx) (hg y hy) e)
  have h2 := h1.length_le_of_subset (l₂ := List.range (fact n)) (fun p hp => by
    obtain ⟨s, hs, rfl⟩ := List.mem_map.1 hp
    exact List.mem_range.2 (rowN_place (hg s hs)))
  rw [List.length_map, List.length_range] at h2
  exact h2
/-- As many rows as there are are all of them. -/
theorem rows_all {n : Nat} {l : List ByteArray} (hn : l.Nodup) (hg : ∀ s ∈ l, RowN n s) (hl : fact n ≤ l.length) {x : ByteArray} (hx : RowN n x) : x ∈ l := by
  rcases Classical.em (x ∈ l) with h | h
  · exact h
  · have := rows_le (n := n) (l := x :: l) (List.nodup_cons.2 ⟨h, hn⟩) (fun s hs => by
      rcases List.mem_cons.1 hs with rfl | hs
      · exact hx
      · exact hg s hs)
    rw [List.length_cons] at this
    omega
/-- A product that is new comes last. -/
def inL (L : List ByteArray) (s : ByteArray) : Bool := L.any fun y => decide (y = s)
theorem inL_iff {L : List ByteArray} {s : ByteArray} : inL L s = true ↔ s ∈ L := by
  rw [inL, List.any_eq_true]
  constructor
  · rintro ⟨y, hy, e⟩
    rw [← of_decide_eq_true e]; exact hy
  · intro h
    exact ⟨s, h, decide_eq_true rfl⟩
def clAdd (x : ByteArray) (L : List ByteArray) (g : ByteArray) : List ByteArray := if inL L (timesS x g) = true then L else L ++ [timesS x g]
theorem clAdd_in {x g : ByteArray} {L : List ByteArray} (h : timesS x g ∈ L) : clAdd x L g = L := by rw [clAdd, if_pos (inL_iff.2 h)]
theorem clAdd_new {x g : ByteArray} {L : List ByteArray} (h : timesS x g ∉ L) : clAdd x L g = L ++ [timesS x g] := by rw [clAdd, if_neg (fun e => h (inL_iff.1 e))]
def clPart (gs : List ByteArray) (x : ByteArray) (j : Nat) (L : List ByteArray) : List ByteArray := (gs.take j).foldl (clAdd x) L
theorem clPart_0 (gs : List ByteArray) (x : ByteArray) (L : List ByteArray) : clPart gs x 0 L = L := rfl
theorem clPart_succ {gs : List ByteArray} {x g : ByteArray} {j : Nat} (L : List ByteArray) (h : gs[j]? = some g) : clPart gs x (j + 1) L = clAdd x (clPart gs x j L) g := by
  rw [clPart, take_succ_some h, List.foldl_append]; rfl
def clAt (gs : List ByteArray) (r : ByteArray) : Nat → List ByteArray
  | 0 => [r]
  | k + 1 => match (clAt gs r k)[k]? with
    | some x => clPart gs x gs.length (clAt gs r k)
    | none => clAt gs r k
theorem clAt_more {gs : List ByteArray} {r x : ByteArray} {k : Nat} (h : (clAt gs r k)[k]? = some x) : clAt gs r (k + 1) = clPart gs x gs.length (clAt gs r k) := by rw [clAt, h]
theorem clAt_stop {gs : List ByteArray} {r : ByteArray} {k : Nat} (h : (clAt gs r k).length ≤ k) : clAt gs r (k + 1) = clAt gs r k := by
  rw [clAt, List.getElem?_eq_none_iff.2 h]
/-- All that some rows generate. -/
def clF (n : Nat) (gs : List ByteArray) : List ByteArray := clAt gs (roundsS n) (fact n)
theorem clAdd_pre (x g : ByteArray) (L : List ByteArray) : L <+: clAdd x L g := by
  by_cases h : timesS x g ∈ L
  · rw [clAdd_in h]; exact List.prefix_refl _
  · rw [clAdd_new h]; exact List.prefix_append _ _
theorem foldl_pre (x : ByteArray) : ∀ (gs L : List ByteArray), L <+: gs.foldl (clAdd x) L
  | [], L => List.prefix_refl _
  | g :: gs, L => (clAdd_pre x g L).trans (foldl_pre x gs _)
theorem clPart_pre (gs : List ByteArray) (x : ByteArray) (j : Nat) (L : List ByteArray) : L <+: clPart gs x j L := foldl_pre x _ L
theorem clPart_step (gs : List ByteArray) (x : ByteArray) (L : List ByteArray) (j : Nat) : clPart gs x j L <+: clPart gs x (j + 1) L := by
  rcases h : gs[j]? with _ | g
  · rw [clPart, clPart, List.take_of_length_le (by rw [List.getElem?_eq_none_iff] at h; omega), List.take_of_length_le (by rw [List.getElem?_eq_none_iff] at h; omega)]
    exact List.prefix_refl _
  · rw [clPart_succ L h]; exact clAdd_pre _ _ _
theorem clPart_mono (gs : List ByteArray) (x : ByteArray) (L : List ByteArray) (i : Nat) : ∀ d, clPart gs x i L <+: clPart gs x (i + d) L
  | 0 => List.prefix_refl _
  | d + 1 => (clPart_mono gs x L i d).trans (clPart_step gs x L (i + d))
theorem clAt_step (gs : List ByteArray) (r : ByteArray) (k : Nat) : clAt gs r k <+: clAt gs r (k + 1) := by
  rcases h : (clAt gs r k)[k]? with _ | x
  · rw [clAt_stop (List.getElem?_eq_none_iff.1 h)]; exact List.prefix_refl _
  · rw [clAt_more h]; exact clPart_pre _ _ _ _
theorem clAt_mono (gs : List ByteArray) (r : ByteArray) (k : Nat) : ∀ d, clAt gs r k <+: clAt gs r (k + d)
  | 0 => List.prefix_refl _
  | d + 1 => (clAt_mono gs r k d).trans (clAt_step gs r (k + d))
theorem clAt_stays {gs : List ByteArray} {r : ByteArray} {k : Nat} (h : (clAt gs r k).length ≤ k) : ∀ d, clAt gs r (k + d) = clAt gs r k
  | 0 => rfl
  | d + 1 => by
    have e := clAt_stays h d
    rw [← Nat.add_assoc, clAt_stop (by rw [e]; omega), e]
/-! what the rows are like -/
def ClOk (n : Nat) (L : List ByteArray) : Prop := L.Nodup ∧ ∀ s ∈ L, RowN n s
theorem ClOk.add {n : Nat} {x g : ByteArray} {L : List ByteArray} (h : ClOk n L) (hx : RowN n x) (hg : RowN n g) : ClOk n (clAdd x L g) := by
  by_cases e : timesS x g ∈ L
  · rw [clAdd_in e]; exact h
  · rw [clAdd_new e]
    refine ⟨List.nodup_append.2 ⟨h.1, by simp, fun a ha b hb he => e (by rw [← List.mem_singleton.1 hb, ← he]; exact ha)⟩, fun s hs => ?_⟩
    rcases List.mem_append.1 hs with hs | hs
    · exact h.2 s hs
    · rw [List.mem_singleton.1 hs]; exact hx.times hg
theorem ClOk.fold {n : Nat} {x : ByteArray} (hx : RowN n x) : ∀ (gs L : List ByteArray), (∀ g ∈ gs, RowN n g) → ClOk n L → ClOk n (gs.foldl (clAdd x) L)
  | [], _, _, h => h
  | g :: gs, L, hg, h => ClOk.fold hx gs _ (fun y hy => hg y (List.mem_cons_of_mem _ hy)) (h.add hx (hg g (List.mem_cons_self ..)))
theorem ClOk.part {n : Nat} {x : ByteArray} {gs L : List ByteArray} (h : ClOk n L) (hx : RowN n x) (hg : ∀ g ∈ gs, RowN n g) (j : Nat) : ClOk n (clPart gs x j L) := ClOk.fold hx _ _ (fun g h => hg g (List.mem_of_mem_take h)) h
theorem clAt_ok {n : Nat} {gs : List ByteArray} {r : ByteArray} (hr : RowN n r) (hg : ∀ g ∈ gs, RowN n g) : ∀ k, ClOk n (clAt gs r k)
  | 0 => ⟨by simp [clAt], fun s hs => by rw [List.mem_singleton.1 hs]; exact hr⟩
  | k + 1 => by
    have h := clAt_ok hr hg k
    rcases e : (clAt gs r k)[k]? with _ | x
    · rw [clAt_stop (List.getElem?_eq_none_iff.1 e)]; exact h
    · rw [clAt_more e]
      exact h.part (h.2 x (List.mem_of_getElem? e)) hg _
theorem ClOk.le {n : Nat} {L : List ByteArray} (h : ClOk n L) : L.length ≤ fact n := rows_le h.1 h.2
section
variable {n : Nat} {gs : List ByteArray} {r : ByteArray}
theorem clF_ok (h3 : 3 ≤ n) (h8 : n ≤ 8) (hg : ∀ g ∈ gs, RowN n g) : ClOk n (clF n gs) := clAt_ok (rowN_rounds h3 h8) hg _
/-- Behind the last round. -/
theorem clF_end (h3 : 3 ≤ n) (h8 : n ≤ 8) (hg : ∀ g ∈ gs, RowN n g) {k : Nat} (h : (clAt gs (roundsS n) k).length = k) : clF n gs = clAt gs (roundsS n) k := by
  have h1 : k ≤ fact n := by have := (clAt_ok (rowN_rounds h3 h8) hg k).le; omega
  obtain ⟨d, e⟩ : ∃ d, fact n = k + d := ⟨fact n - k, by omega⟩
  rw [clF, e, clAt_stays (by omega)]
theorem clF_pre (h3 : 3 ≤ n) (h8 : n ≤ 8) (hg : ∀ g ∈ gs, RowN n g) (k : Nat) : clAt gs (roundsS n) k <+: clF n gs := by
  by_cases h1 : k ≤ fact n
  · obtain ⟨d, e⟩ : ∃ d, fact n = k + d := ⟨fact n - k, by omega⟩
    rw [clF, e]
    exact clAt_mono _ _ _ _
  · obtain ⟨d, e⟩ : ∃ d, k = fact n + d := ⟨k - fact n, by omega⟩
    rw [e, clAt_stays (clAt_ok (rowN_rounds h3 h8) hg _).le]
    exact List.prefix_refl _
theorem clPart_F (h3 : 3 ≤ n) (h8 : n ≤ 8) (hg : ∀ g ∈ gs, RowN n g) {k : Nat} {x : ByteArray} (hx : (clAt gs (roundsS n) k)[k]? = some x) {j : Nat} (hj : j ≤ gs.length) : clPart gs x j (clAt gs (roundsS n) k) <+: clF n gs := by
  obtain ⟨d, e⟩ : ∃ d, gs.length = j + d := ⟨gs.length - j, by omega⟩
  have h1 := clPart_mono gs x (clAt gs (roundsS n) k) j d
  rw [← e, ← clAt_more hx] at h1
  exact h1.trans (clF_pre h3 h8 hg _)
theorem clAt_first (k : Nat) : (clAt gs r k)[0]? = some r := by
  have := clAt_mono gs r 0 k
  rw [Nat.zero_add] at this
  obtain ⟨t, ht⟩ := this
  rw [← ht]; rfl
theorem clAt_pos (k : Nat) : 0 < (clAt gs r k).length := (List.getElem?_eq_some_iff.1 (clAt_first (gs := gs) (r := r) k)).1
end
end Go.Proofs.YtidolgonmimicaaGreatDoor
/- Signs: a change turns the sign of a row as often as it swaps; the sign of a product. -/
namespace Go.Proofs.YtidolgonmimicaaGreatDoor
set_option linter.unusedVariables false
set_option linter.unusedSimpArgs false
open Go.ChangeShapes Go.WideShapes Go.ChangeAt Go.RowKit Go.Deep
def invs : List Int → Nat
  | [] => 0
  | x :: r => cnt x r + invs r
def gt (y : Int) (l : List Int) : Nat := l.countP fun z => decide (y < z)
theorem gt_cons (y z : Int) (l : List Int) : gt y (z :: l) = gt y l + (if y < z then 1 else 0) := by
  rw [gt, List.countP_cons, gt]
  by_cases h : y < z <;> simp [h]
theorem cnt_snoc (x y : Int) (l : List Int) : cnt x (l ++ [y]) = cnt x l + (if y < x then 1 else 0) := by
  rw [cnt, List.countP_append, cnt]
  by_cases h : y < x <;> simp [h]
theorem invs_snoc (y : Int) : ∀ l : List Int, invs (l ++ [y]) = invs l + gt y l
  | [] => by simp [invs, gt, cnt]
  | x :: r => by
    rw [List.cons_append, invs, invs_snoc y r, cnt_snoc, invs, gt_cons]
    omega
theorem drop_someZ {α : Type} {l : List α} {k : Nat} {x : α} (h : l[k]? = some x) : l.drop k = x :: l.drop (k + 1) := by
  rw [List.drop_eq_getElem_cons (List.getElem?_eq_some_iff.1 h).1, (List.getElem?_eq_some_iff.1 h).2]
def evB (n : Nat) : Bool := decide (n % 2 = 0)
theorem evB_succ (n : Nat) : evB (n + 1) = !evB n := by
  simp only [evB]
  by_cases h : n % 2 = 0
  · rw [decide_eq_true h, decide_eq_false (by omega)]; rfl
  · rw [decide_eq_false h, decide_eq_true (by omega)]; rfl
theorem tg_gt (s : ByteArray) (i : Nat) (c : Nat) : ∀ k, k ≤ s.size → tg s i k (evB c) = evB (c + gt (PlainAid.bt s i) ((nums s).take k))
  | 0, _ => by simp [tg, gt]
  | k + 1, h => by
    have ih := tg_gt s i c k (by omega)
    have e : (nums s).take (k + 1) = (nums s).take k ++ [PlainAid.bt s k] := take_succ_some (nums_at (by omega))
    have e2 : gt (PlainAid.bt s i) ((nums s).take k ++ [PlainAid.bt s k]) = gt (PlainAid.bt s i) ((nums s).take k) + (if PlainAid.bt s i < PlainAid.bt s k then 1 else 0) := by
      rw [gt, List.countP_append, gt]
      by_cases h : PlainAid.bt s i < PlainAid.bt s k <;> simp [h]
    rw [e, e2]
    by_cases hlt : PlainAid.bt s i < PlainAid.bt s k
    · rw [tg_yes hlt, ih, if_pos hlt, ← Nat.add_assoc, evB_succ]
    · rw [tg_no hlt, ih, if_neg hlt, Nat.add_zero]
theorem evo_invs (s : ByteArray) : ∀ k, k ≤ s.size → evo s k = evB (invs ((nums s).take k))
  | 0, _ => by simp [evo, invs, evB]
  | k + 1, h => by
    have e : (nums s).take (k + 1) = (nums s).take k ++ [PlainAid.bt s k] := take_succ_some (nums_at (by omega))
    rw [evo, evo_invs s k (by omega), tg_gt s k _ k (by omega), e, invs_snoc]
theorem even_invs (s : ByteArray) : evenRow s = evB (invs (nums s)) := by
  rw [evenRow, evo_invs s _ (Nat.le_refl _), List.take_of_length_le (by rw [nums_len]; exact Nat.le_refl _)]
theorem cnt_swap (z x y : Int) (q : List Int) : cnt z (x :: y :: q) = cnt z (y :: x :: q) := by
  rw [cnt_cons, cnt_cons, cnt_cons, cnt_cons]; omega
theorem invs_swap {x y : Int} (h : x ≠ y) (q : List Int) : ∀ p : List Int, evB (invs (p ++ x :: y :: q)) = !evB (invs (p ++ y :: x :: q))
  | [] => by
    simp only [List.nil_append, invs, cnt_cons]
    rcases Int.lt_or_lt_of_ne h with h1 | h1
    · rw [if_neg (by omega), if_pos h1]
      rw [show cnt x q + 0 + (cnt y q + invs q) = cnt x q + cnt y q + invs q by omega, show cnt y q + 1 + (cnt x q + invs q) = (cnt x q + cnt y q + invs q) + 1 by omega, evB_succ, Bool.not_not]
    · rw [if_pos h1, if_neg (by omega)]
      rw [show cnt x q + 1 + (cnt y q + invs q) = (cnt x q + cnt y q + invs q) + 1 by omega, show cnt y q + 0 + (cnt x q + invs q) = cnt x q + cnt y q + invs q by omega, evB_succ]
  | z :: p => by
    have ih := invs_swap h q p
    have hc : cnt z (p ++ x :: y :: q) = cnt z (p ++ y :: x :: q) := by
      rw [cnt, cnt, List.countP_append, List.countP_append]
      congr 1
      exact cnt_swap z x y q
    have key : ∀ a b c : Nat, evB a = !evB b → evB (c + a) = !evB (c + b) := fun a b c e => by
      induction c with
      | zero => simpa using e
      | succ c ih => rw [Nat.add_right_comm, Nat.add_right_comm c 1 b, evB_succ, evB_succ, ih]
    rw [List.cons_append, List.cons_append, invs, invs, hc]
    exact key _ _ _ ih
theorem invs_set {l : List Int} {p : Nat} {x y : Int} (hx : l[p]? = some x) (hy : l[p + 1]? = some y) (h : x ≠ y) : evB (invs ((l.set p y).set (p + 1) x)) = !evB (invs l) := by
  have hp := (List.getElem?_eq_some_iff.1 hy).1
  have e1 : l = l.take p ++ x :: y :: l.drop (p + 2) := by
    conv => lhs; rw [← List.take_append_drop p l]
    congr 1
    rw [drop_someZ hx, drop_someZ hy]
  have e2 : (l.set p y).set (p + 1) x = l.take p ++ y :: x :: l.drop (p + 2) := by
    have ht : (l.take p).length = p := by rw [List.length_take]; omega
    conv => lhs; rw [e1]
    rw [List.set_append_right _ _ (by omega), ht, Nat.sub_self, List.set_cons_zero, List.set_append_right _ _ (by omega), ht, Nat.add_sub_cancel_left, List.set_cons_succ, List.set_cons_zero]
  rw [e2, invs_swap (fun e => h e.symm)]
  conv => rhs; rw [e1]
/-- How often the first k swaps turn. -/
theorem rowV_take {n : Nat} {sw : List Int} (hin : ∀ x ∈ sw, ((1 : Nat) : Int) ≤ x ∧ x < n) (hfar : sw.Pairwise fun x y => x + 2 ≤ y) {a : ByteArray} (ha : isRowL (nums a)) (hn : a.size = n) :
    ∀ k, k ≤ sw.length → evB (invs ((rowV n (sw.take k)).map fun z => PlainAid.bt a (z - 49).toNat)) = (evB (invs (nums a)) == evB k)
  | 0, _ => by
    have e : ((rowV n []).map fun z => PlainAid.bt a (z - 49).toNat) = nums a := by
      apply List.ext_getElem (by rw [List.length_map, rowV_len, nums_len, hn])
      intro i h1 h2
      simp only [rowV, List.getElem_map, List.getElem_range, nums]
      congr 1
      simp [cval]
      omega
    rw [List.take_zero, e]
    rcases evB (invs (nums a)) <;> rfl
  | k + 1, h => by
    have ih := rowV_take hin hfar ha hn k (by omega)
    have hy : sw[k]? = some sw[k] := List.getElem?_eq_getElem (by omega)
    have hyin := hin _ (List.mem_of_getElem? hy)
    obtain ⟨q, hq⟩ : ∃ q : Nat, sw[k] = (q : Int) + 1 := ⟨(sw[k] - 1).toNat, by omega⟩
    have hqn : q + 1 < n := by omega
    have hfr : ∀ x ∈ sw.take k, x + 2 ≤ ((q + 1 : Nat) : Int) := fun x hx => by have := take_far hfar hy x hx; omega
    have hpl := rowV_plain hqn hfr
    have ht : sw.take (k + 1) = sw.take k ++ [((q + 1 : Nat) : Int)] := by rw [take_succ_some hy, hq]; rfl
    rw [ht, rowV_step (p := q + 1) (by omega) hqn hfr, Nat.add_sub_cancel, List.map_set, List.map_set]
    have b1 : PlainAid.bt a ((49 + ((q + 1 : Nat) : Int)) - 49).toNat = PlainAid.bt a (q + 1) := by congr 1; omega
    have b2 : PlainAid.bt a ((48 + ((q + 1 : Nat) : Int)) - 49).toNat = PlainAid.bt a q := by congr 1; omega
    have b3 : PlainAid.bt a ((49 + (q : Int)) - 49).toNat = PlainAid.bt a q := by congr 1; omega
    have b4 : PlainAid.bt a ((49 + ((q : Int) + 1)) - 49).toNat = PlainAid.bt a (q + 1) := by congr 1; omega
    rw [b1, b2]
    have m1 : ((rowV n (sw.take k)).map fun z => PlainAid.bt a (z - 49).toNat)[q]? = some (PlainAid.bt a q) := by
      rw [List.getElem?_map, hpl.1]
      show some (PlainAid.bt a ((49 + (q : Int)) - 49).toNat) = _
      rw [b3]
    have m2 : ((rowV n (sw.take k)).map fun z => PlainAid.bt a (z - 49).toNat)[q + 1]? = some (PlainAid.bt a (q + 1)) := by
      rw [List.getElem?_map, hpl.2]
      show some (PlainAid.bt a ((49 + ((q : Int) + 1)) - 49).toNat) = _
      rw [b4]
    have hne : PlainAid.bt a q ≠ PlainAid.bt a (q + 1) := by
      have hp := ha.1
      rw [List.nodup_iff_pairwise_ne, List.pairwise_iff_getElem] at hp
      have := hp q (q + 1) (by rw [nums_len]; omega) (by rw [nums_len]; omega) (by omega)
      have h1 := nums_at (s := a) (k := q) (by omega); have h2 := nums_at (s := a) (k := q + 1) (by omega)
      rw [List.getElem?_eq_getElem (by rw [nums_len]; omega)] at h1 h2
      injection h1 with h1; injection h2 with h2
      rw [← h1, ← h2]; exact this
    rw [invs_set m1 m2 hne, ih, evB_succ]
    rcases evB (invs (nums a)) <;> rcases evB k <;> rfl
theorem sign_apply {a : ByteArray} (h : goodRow a = true) (c : ByteArray) : evenRow (applyR a c) = (evenRow a == evenSwaps a.size c) := by
  have hn := goodRow_n h
  have hr := goodRow_list h
  have h2 := rowL_times hr (by rw [chRow, nums_strOf (rowL_bytes (rowL_ch a.size c) (by rw [rowV_len]; omega))]; exact rowL_ch a.size c) (chRow_size a.size c).symm
  have e1 : nums (applyR a c) = (rowV a.size (swaps a.size c)).map fun z => PlainAid.bt a (z - 49).toNat := by
    rw [applyR, timesS, nums_strOf (rowL_bytes h2 (by rw [timesL_len, chRow_size]; omega)), timesL, chRow, nums_strOf (rowL_bytes (rowL_ch a.size c) (by rw [rowV_len]; omega))]
  have e2 := rowV_take (sws_in (stays c) a.size 1) (sws_far (stays c) a.size 1) hr rfl (swaps a.size c).length (Nat.le_refl _)
  rw [show sws (stays c) a.size 1 = swaps a.size c from rfl, List.take_of_length_le (Nat.le_refl _)] at e2
  rw [even_invs, e1, e2, even_invs]
  rfl
/-! products -/
theorem nums_times {a b : ByteArray} (h : goodRow a = true) (g : goodRow b = true) (e : a.size = b.size) : nums (timesS a b) = timesL a b := by
  have hn := goodRow_n h
  rw [timesS, nums_strOf (rowL_bytes (rowL_times (goodRow_list h) (goodRow_list g) e) (by rw [timesL_len]; omega))]
theorem times_assoc {a b c : ByteArray} (ha : goodRow a = true) (hb : goodRow b = true) (hc : goodRow c = true) (e1 : a.size = b.size) (e2 : b.size = c.size) : timesS a (timesS b c) = timesS (timesS a b) c := by
  suffices h : timesL a (timesS b c) = timesL (timesS a b) c by
    show strOfNums (timesL a (timesS b c)) = strOfNums (timesL (timesS a b) c)
    rw [h]
  show (nums (timesS b c)).map _ = (nums c).map _
  rw [nums_times hb hc e2, timesL, List.map_map]
  apply List.map_congr_left
  intro z hz
  have hz2 := (goodRow_list hc).2 z hz
  rw [nums_len] at hz2
  have hk : (z - 49).toNat < b.size := by omega
  have h1 := timesL_at (a := a) hk
  rw [← nums_times ha hb e1, nums_at (by rw [timesS, strOfNums_size, timesL_len]; exact hk)] at h1
  injection h1 with h1
  rw [h1]; rfl
theorem times_rounds {a : ByteArray} (h : goodRow a = true) : timesS a (roundsS a.size) = a := by
  have hn := goodRow_n h
  apply nums_inj
  rw [nums_times h (good_rounds _ (by omega) (by omega)) (rounds_size _ (by omega)).symm, timesL, rowV_nil _ (by omega)]
  apply List.ext_getElem (by rw [List.length_map, rowV_len, nums_len])
  intro i h1 h2
  simp only [rowV, List.getElem_map, List.getElem_range, nums]
  congr 1
  simp [cval]
  omega
theorem times_apply {a b : ByteArray} (ha : goodRow a = true) (hb : goodRow b = true) (e : a.size = b.size) (c : ByteArray) : timesS a (applyR b c) = applyR (timesS a b) c := by
  have hs : (timesS a b).size = b.size := by rw [timesS, strOfNums_size, timesL_len]
  rw [applyR, applyR, hs, times_assoc ha hb (good_ch (goodRow_n hb) c) e (chRow_size _ _).symm]
theorem sign_times_rAt {a : ByteArray} (ha : goodRow a = true) (l : List ByteArray) : ∀ k, evenRow (timesS a (rAt (roundsS a.size) l k)) = (evenRow a == evenRow (rAt (roundsS a.size) l k))
  | 0 => by
    rw [rAt, times_rounds ha]
    have : ∀ n, n < 9 → evenRow (roundsS n) = true := of_decide_eq_true (by kernel_rfl)
    rw [this _ (by have := goodRow_n ha; omega)]
    rcases evenRow a <;> rfl
  | k + 1 => by
    have hn := goodRow_n ha
    have hg := good_rAt (good_rounds a.size (by omega) (by omega)) l k
    have hs : (rAt (roundsS a.size) l k).size = a.size := by rw [rAt_size, rounds_size _ (by omega)]
    have ht : (timesS a (rAt (roundsS a.size) l k)).size = a.size := by rw [timesS, strOfNums_size, timesL_len, hs]
    rw [rAt, times_apply ha hg hs.symm, sign_apply (good_times ha hg hs.symm), sign_apply hg, sign_times_rAt ha l k, ht, hs]
    rcases evenRow a <;> rcases evenRow (rAt (roundsS a.size) l k) <;> rcases evenSwaps a.size _ <;> rfl
theorem sign_times_head {a : ByteArray} (ha : goodRow a = true) {l : List ByteArray} (x : ByteArray) (h : 0 < l.length) : evenRow (timesS a (headX a.size l x)) = (evenRow a == evenRow (headX a.size l x)) := by
  have := sign_times_rAt ha (l.set (l.length - 1) x) l.length
  rwa [headX_set h] at this
end Go.Proofs.YtidolgonmimicaaGreatDoor
/- Chapter 17 as plain functions: the inverse of a row, the powers of a row, Q-sets. -/
namespace Go.Proofs.YtidolgonmimicaaGreatDoor
set_option linter.unusedVariables false
set_option linter.unusedSimpArgs false
open Go.ChangeShapes Go.WideShapes Go.ChangeAt Go.RowKit Go.Deep
theorem nodup_of {α : Type} {l : List α} (h : ∀ i j, i < j → j < l.length → l[i]? ≠ l[j]?) : l.Nodup :=
  List.pairwise_iff_getElem.2 fun i j hi hj hij e => h i j hij hj (by rw [List.getElem?_eq_getElem hi, List.getElem?_eq_getElem hj, e])
/-- m is the inverse of a, written in bytes. -/
def TurnOf (a : ByteArray) (m : List Int) : Prop := m.length = a.size ∧ ∀ i, i < a.size → m[(PlainAid.bt a i - 49).toNat]? = some (49 + (i : Int))
theorem row_at {a : ByteArray} (h : goodRow a = true) {i : Nat} (hi : i < a.size) : 49 ≤ PlainAid.bt a i ∧ PlainAid.bt a i ≤ 48 + (a.size : Int) := by
  have := (goodRow_list h).2 _ (List.mem_of_getElem? (nums_at hi))
  rwa [nums_len] at this
theorem row_inj {a : ByteArray} (h : goodRow a = true) {i j : Nat} (hi : i < a.size) (hj : j < a.size) (e : PlainAid.bt a i = PlainAid.bt a j) : i = j := by
  have hn := (goodRow_list h).1
  have h1 := nums_at hi
  have h2 := nums_at hj
  rw [e] at h1
  exact (List.getElem?_inj (by rw [nums_len]; exact hi) hn).1 (h1.trans h2.symm)
theorem row_hit {a : ByteArray} (h : goodRow a = true) {j : Nat} (hj : j < a.size) : ∃ i, i < a.size ∧ PlainAid.bt a i = 49 + (j : Int) := by
  have hm : (49 + (j : Int)) ∈ nums a := (isRowL_mem (goodRow_list h)).2 (by rw [nums_len]; omega)
  obtain ⟨i, hi⟩ := List.getElem?_of_mem hm
  have hl := (List.getElem?_eq_some_iff.1 hi).1
  rw [nums_len] at hl
  rw [nums_at hl] at hi
  injection hi with hi
  exact ⟨i, hl, hi⟩
theorem TurnOf.uniq {a : ByteArray} {m l : List Int} (h : goodRow a = true) (hm : TurnOf a m) (hl : TurnOf a l) : m = l := by
  refine eq_of_upto (k := a.size) (fun j hj => ?_) hm.1 hl.1
  obtain ⟨i, hi, e⟩ := row_hit h hj
  have h1 := hm.2 i hi
  have h2 := hl.2 i hi
  rw [e, show ((49 : Int) + (j : Int) - 49).toNat = j by omega] at h1 h2
  rw [h1, h2]
/-- The inverse of a row. -/
noncomputable def turnS (a : ByteArray) : ByteArray := by
  classical exact if h : ∃ m, TurnOf a m then strOfNums h.choose else ByteArray.empty
theorem turn_eq {a : ByteArray} {m : List Int} (h : goodRow a = true) (hm : TurnOf a m) : turnS a = strOfNums m := by
  have he : ∃ m, TurnOf a m := ⟨m, hm⟩
  rw [turnS, dif_pos he, TurnOf.uniq h he.choose_spec hm]
theorem turn_row {a : ByteArray} {m : List Int} (h : goodRow a = true) (hm : TurnOf a m) : RowN a.size (turnS a) := by
  have hn := goodRow_n h
  have hv : ∀ j, j < a.size → ∃ i, i < a.size ∧ PlainAid.bt a i = 49 + (j : Int) ∧ m[j]? = some (49 + (i : Int)) := fun j hj => by
    obtain ⟨i, hi, e⟩ := row_hit h hj
    have h1 := hm.2 i hi
    rw [e, show ((49 : Int) + (j : Int) - 49).toNat = j by omega] at h1
    exact ⟨i, hi, e, h1⟩
  have hr : isRowL m := by
    constructor
    · refine nodup_of ?_
      intro i j hij hj hc
      rw [hm.1] at hj
      obtain ⟨p, _, ep, e1⟩ := hv i (by omega)
      obtain ⟨q, _, eq, e2⟩ := hv j hj
      rw [e1, e2] at hc
      injection hc with hc
      have : p = q := by omega
      subst this
      omega
    · intro z hz
      obtain ⟨j, hj⟩ := List.getElem?_of_mem hz
      have hl := (List.getElem?_eq_some_iff.1 hj).1
      rw [hm.1] at hl
      obtain ⟨p, hp, _, e1⟩ := hv j hl
      rw [e1] at hj
      injection hj with hj
      rw [hm.1]; omega
  have hb := rowL_bytes hr (by rw [hm.1]; omega)
  have hs : (strOfNums m).size = a.size := by rw [strOfNums_size, hm.1]
  rw [turn_eq h hm]
  exact ⟨goodRow_of (by rw [hs]; omega) (by rw [nums_strOf hb]; exact hr), hs⟩
/-! products -/
theorem times_at {a b : ByteArray} {n k : Nat} (ha : RowN n a) (hb : RowN n b) (hk : k < n) : PlainAid.bt (timesS a b) k = PlainAid.bt a (PlainAid.bt b k - 49).toNat := by
  have h1 := timesL_at (a := a) (b := b) (k := k) (by rw [hb.2]; exact hk)
  rw [← nums_times ha.1 hb.1 (by rw [ha.2, hb.2]), nums_at (by rw [(ha.times hb).2]; exact hk)] at h1
  injection h1
theorem row_ext {a b : ByteArray} (e : a.size = b.size) (h : ∀ k, k < a.size → PlainAid.bt a k = PlainAid.bt b k) : a = b := by
  refine nums_inj (eq_of_upto (k := a.size) (fun j hj => ?_) (nums_len a) (by rw [nums_len, e]))
  rw [nums_at hj, nums_at (by rw [← e]; exact hj), h j hj]
theorem times_cancel {x y q : ByteArray} {n : Nat} (hx : RowN n x) (hy : RowN n y) (hq : RowN n q) (e : timesS x q = timesS y q) : x = y := by
  refine row_ext (by rw [hx.2, hy.2]) fun k hk => ?_
  rw [hx.2, ← hq.2] at hk
  obtain ⟨i, hi, e1⟩ := row_hit hq.1 hk
  rw [hq.2] at hi
  have h1 := times_at hx hq hi
  have h2 := times_at hy hq hi
  rw [e1, show ((49 : Int) + (k : Int) - 49).toNat = k by omega] at h1 h2
  rw [← h1, ← h2, e]
theorem rounds_bt {n k : Nat} (h8 : n < 9) (hk : k < n) : PlainAid.bt (roundsS n) k = 49 + (k : Int) := by
  have h1 := nums_at (s := roundsS n) (k := k) (by rw [rounds_size _ h8]; exact hk)
  rw [rowV_nil _ h8] at h1
  have h2 : (rowV n [])[k]? = some (49 + (k : Int)) := by
    rw [rowV, List.getElem?_map, List.getElem?_range hk]
    simp [cval]
    try omega
  rw [h2] at h1
  injection h1 with h1
  exact h1.symm
theorem rounds_times {q : ByteArray} {n : Nat} (hq : RowN n q) : timesS (roundsS n) q = q := by
  have hs := hq.st
  have hr := rowN_rounds hs.1 hs.2
  refine row_ext (by rw [(hr.times hq).2, hq.2]) fun k hk => ?_
  rw [(hr.times hq).2] at hk
  have h1 := row_at hq.1 (i := k) (by rw [hq.2]; exact hk)
  rw [hq.2] at h1
  rw [times_at hr hq hk, rounds_bt (by omega) (by omega)]
  omega
/-- The powers of a row. -/
def pwS (n : Nat) (q : ByteArray) : Nat → ByteArray
  | 0 => roundsS n
  | k + 1 => timesS (pwS n q k) q
theorem pw_row {n : Nat} {q : ByteArray} (hq : RowN n q) : ∀ k, RowN n (pwS n q k)
  | 0 => rowN_rounds hq.st.1 hq.st.2
  | k + 1 => (pw_row hq k).times hq
theorem pw_one {n : Nat} {q : ByteArray} (hq : RowN n q) : pwS n q 1 = q := rounds_times hq
theorem pw_eq {n : Nat} {q : ByteArray} (hq : RowN n q) : ∀ i d, pwS n q i = pwS n q (i + d) → pwS n q d = roundsS n
  | 0, d, h => by rw [Nat.zero_add] at h; exact h.symm
  | i + 1, d, h => by
    rw [Nat.add_right_comm] at h
    exact pw_eq hq i d (times_cancel (pw_row hq i) (pw_row hq (i + d)) hq h)
def pwL (n : Nat) (q : ByteArray) (m : Nat) : List ByteArray := (List.range m).map (pwS n q)
theorem pwL_len (n : Nat) (q : ByteArray) (m : Nat) : (pwL n q m).length = m := by simp [pwL]
theorem pwL_succ (n : Nat) (q : ByteArray) (m : Nat) : pwL n q (m + 1) = pwL n q m ++ [pwS n q m] := by rw [pwL, List.range_succ, List.map_append]; rfl
theorem pwL_le {n m : Nat} {q : ByteArray} (hq : RowN n q) (h : ∀ k, 1 ≤ k → k < m → pwS n q k ≠ roundsS n) : m ≤ fact n := by
  have h1 : (pwL n q m).Nodup := by
    rw [pwL]; refine nodup_of ?_
    intro i j hij hj hc
    rw [List.length_map, List.length_range] at hj
    rw [List.getElem?_map, List.getElem?_map, List.getElem?_range (by omega), List.getElem?_range hj] at hc
    injection hc with hc
    refine h (j - i) (by omega) (by omega) (pw_eq hq i (j - i) ?_)
    rw [hc, show i + (j - i) = j by omega]
  have h2 := rows_le h1 (n := n) (fun s hs => by
    rw [pwL, List.mem_map] at hs
    obtain ⟨k, _, rfl⟩ := hs
    exact pw_row hq k)
  rwa [pwL_len] at h2
/-- A row of rows that has with each of its rows the next one by q. -/
def closedB (q : ByteArray) (B : List ByteArray) : Bool := B.all fun h => inL B (timesS h q)
theorem closed_pw {n : Nat} {q : ByteArray} {B : List ByteArray} (hq : RowN n q) (hB : ∀ h ∈ B, RowN n h) (hc : closedB q B = true) {h : ByteArray} (hh : h ∈ B) : ∀ k, timesS h (pwS n q k) ∈ B
  | 0 => by
    have h1 := times_rounds (hB h hh).1
    rw [(hB h hh).2] at h1
    rw [pwS, h1]; exact hh
  | k + 1 => by
    have ih := closed_pw hq hB hc hh k
    have hp := pw_row hq k
    rw [pwS, times_assoc (hB h hh).1 hp.1 hq.1 (by rw [(hB h hh).2, hp.2]) (by rw [hp.2, hq.2])]
    exact inL_iff.1 (List.all_eq_true.1 hc _ ih)
theorem closed_of {n m : Nat} {q : ByteArray} {B : List ByteArray} (hq : RowN n q) (hB : ∀ h ∈ B, RowN n h) (hm : 1 ≤ m) (hr : pwS n q m = roundsS n) (h : ∀ x ∈ B, ∀ k, k < m → timesS x (pwS n q k) ∈ B) : closedB q B = true := by
  rw [closedB, List.all_eq_true]
  intro x hx
  rw [inL_iff]
  by_cases h1 : 1 < m
  · have := h x hx 1 h1
    rwa [pw_one hq] at this
  · obtain rfl : m = 1 := by omega
    have h2 := times_rounds (hB x hx).1
    rw [(hB x hx).2] at h2
    rw [← pw_one hq, hr, h2]; exact hx
/-- Whether some are rising rows of a group. -/
def rowsInB (G B : List ByteArray) : Bool := B.all (inL G) && incB B
theorem inc_srt {B : List ByteArray} (h : incB B = true) : Srt B := by
  have h1 : ∀ i, i + 1 < B.length → ∀ x y, B[i]? = some x → B[i + 1]? = some y → less x y = true := fun i hi x y hx hy => by
    have := List.all_eq_true.1 h (i + 1) (List.mem_range.2 hi)
    simpa [okInc, List.getD, hx, hy] using this
  have h2 : ∀ (d i : Nat) (x y : ByteArray), B[i]? = some x → B[i + d + 1]? = some y → less x y = true := by
    intro d
    induction d with
    | zero => intro i x y hx hy; exact h1 i (List.getElem?_eq_some_iff.1 hy).1 x y hx hy
    | succ d ih =>
      intro i x y hx hy
      have hl := (List.getElem?_eq_some_iff.1 hy).1
      obtain ⟨z, hz⟩ : ∃ z, B[i + d + 1]? = some z := ⟨_, List.getElem?_eq_getElem (by omega)⟩
      exact less_trans (ih i x z hx hz) (h1 (i + d + 1) (by omega) z y hz hy)
  rw [Srt, List.pairwise_iff_getElem]
  intro i j hi hj hij
  have := h2 (j - i - 1) i _ _ (List.getElem?_eq_getElem hi) (by rw [show i + (j - i - 1) + 1 = j by omega]; exact List.getElem?_eq_getElem hj)
  rw [leS]
  rcases hc : less B[j] B[i] with _ | _
  · rfl
  · have := less_trans this hc
    rw [less_irr] at this; cases this
end Go.Proofs.YtidolgonmimicaaGreatDoor
/- What reading a calling gives. -/
namespace Go.Proofs.YtidolgonmimicaaGreatDoor
set_option linter.unusedVariables false
set_option linter.unusedSimpArgs false
open Go.ChangeShapes Go.WideShapes Go.ChangeAt Go.RowKit Go.Deep
section
variable {st : Nat} {l : List ByteArray} {kb ks : ByteArray} {bl : Nat} {T : ByteArray}
theorem mulA {n : Nat} {x y z : ByteArray} (hx : RowN n x) (hy : RowN n y) (hz : RowN n z) : timesS x (timesS y z) = timesS (timesS x y) z := times_assoc hx.1 hy.1 hz.1 (by rw [hx.2, hy.2]) (by rw [hy.2, hz.2])
theorem letter_ext {k j m : Nat} (h1 : k + j < m) (h2 : m ≤ T.size) : letter (T.extract k m) j = letter T (k + j) := by
  apply baX
  rw [letter, letter, ext_list, ext_list, ext_list]
  rw [show j + 1 - j = 1 by omega, show k + j + 1 - (k + j) = 1 by omega, List.drop_take, List.drop_drop, List.take_take, show min 1 (m - k - j) = 1 by omega]
/-- The heads of what follows a beginning. -/
theorem hd_join (h3 : 3 ≤ st) (h8 : st ≤ 8) {k m : Nat} (h2 : m ≤ T.size) : ∀ j, k + j ≤ m → hdAt st l kb ks T (k + j) = timesS (hdAt st l kb ks T k) (hdAt st l kb ks (T.extract k m) j)
  | 0, _ => by
    have hr : RowN st (hdAt st l kb ks T k) := hdAt_good h3 h8 l kb ks T k
    have := times_rounds hr.1
    rw [hr.2] at this
    exact this.symm
  | j + 1, hj => by
    have a1 : RowN st (hdAt st l kb ks T k) := hdAt_good h3 h8 l kb ks T k
    have a2 : RowN st (hdAt st l kb ks (T.extract k m) j) := hdAt_good h3 h8 l kb ks _ j
    have a3 : RowN st (callHd st l kb ks (letter T (k + j))) := ⟨headX_good h3 h8 l _, headX_size (by omega) l _⟩
    rw [← Nat.add_assoc, hdAt, hd_join h3 h8 h2 j (by omega), hdAt, letter_ext (by omega) h2, mulA a1 a2 a3]
/-- What a reader answers: x, if there is a touch with that calling. -/
def RdP (gd : Bool) (st : Nat) (l : List ByteArray) (kb ks : ByteArray) (bl : Nat) (s x : ByteArray) (ok : Bool) : Prop :=
  (ok = true → gd = true ∧ s.size ≤ 200 ∧ goodT x = true ∧ calS st l kb ks bl x = s ∧ ∀ T, goodT T = true → calS st l kb ks bl T = s → T = x) ∧
  (ok = false → x = ⟨#[]⟩ ∧ ¬ (gd = true ∧ s.size ≤ 200 ∧ ∃ T, goodT T = true ∧ calS st l kb ks bl T = s))
theorem RdP.uniq {gd : Bool} {s x y : ByteArray} {a b : Bool} (h : RdP gd st l kb ks bl s x a) (g : RdP gd st l kb ks bl s y b) : a = b ∧ x = y := by
  rcases a <;> rcases b
  · exact ⟨rfl, by rw [(h.2 rfl).1, (g.2 rfl).1]⟩
  · obtain ⟨g1, g2, g3, g4, _⟩ := g.1 rfl
    exact absurd ⟨g1, g2, y, g3, g4⟩ (h.2 rfl).2
  · obtain ⟨g1, g2, g3, g4, _⟩ := h.1 rfl
    exact absurd ⟨g1, g2, x, g3, g4⟩ (g.2 rfl).2
  · obtain ⟨_, _, g3, g4, _⟩ := h.1 rfl
    exact ⟨rfl, (g.1 rfl).2.2.2.2 x g3 g4⟩
/-- How far the reader is, of every touch with that calling: q words are read, they told x, from there the head is h. -/
def RdQ (st : Nat) (l : List ByteArray) (kb ks : ByteArray) (bl : Nat) (s : ByteArray) (q : Nat) (x h : ByteArray) : Prop :=
  ∀ T, goodT T = true → calS st l kb ks bl T = s → (∃ k, RdSt st l kb ks bl T q k ∧ x = T.extract 0 k ∧ h = hdAt st l kb ks T k) ∨ (q = (calW st l kb ks bl T).length ∧ x = T)
theorem RdQ.start {s : ByteArray} : RdQ st l kb ks bl s 0 ⟨#[]⟩ (roundsS st) := fun T _ _ => Or.inl ⟨0, RdSt.start, (by apply baX; rw [ext_list]; rfl), rfl⟩
theorem RdQ.end_ (h3 : 3 ≤ st) (h8 : st ≤ 8) {s x h : ByteArray} {q : Nat} (g : RdQ st l kb ks bl s q x h) (hq : q = (splB 32 s).length) {T : ByteArray} (hT : goodT T = true) (hs : calS st l kb ks bl T = s) : T = x := by
  have hc := calS_cut (l := l) (kb := kb) (ks := ks) (bl := bl) h3 h8 hT
  rw [hs] at hc
  rcases g T hT hs with ⟨k, hk, rfl, _⟩ | ⟨_, e⟩
  · rw [hk.end_ (by rw [hq, hc]), ext_all]
  · exact e.symm
/-- A word's meaning is told of every touch with that calling. -/
def WdQ (st : Nat) (l : List ByteArray) (kb ks : ByteArray) (bl : Nat) (y h x : ByteArray) (ok : Bool) : Prop :=
  (∀ T k i, ItW st l kb ks bl y h T k i → ok = true ∧ x = pRep (i - k) ++ letter T i) ∧ (∀ T k, PlW y T k → ok = true ∧ x = pRep (T.size - k))
theorem RdQ.word (h3 : 3 ≤ st) (h8 : st ≤ 8) {s x h y z : ByteArray} {ok : Bool} {q : Nat} (g : RdQ st l kb ks bl s q x h) (hy : (splB 32 s)[q]? = some y) (hw : WdQ st l kb ks bl y h z ok) {T : ByteArray} (hT : goodT T = true) (hs : calS st l kb ks bl T = s) :
    ok = true ∧ (x ++ z).size ≤ 60 ∧ ((∃ k, RdSt st l kb ks bl T (q + 1) k ∧ x ++ z = T.extract 0 k ∧ timesS h (hdAt st l kb ks z z.size) = hdAt st l kb ks T k) ∨ (q + 1 = (calW st l kb ks bl T).length ∧ x ++ z = T)) := by
  have hc := calS_cut (l := l) (kb := kb) (ks := ks) (bl := bl) h3 h8 hT
  have h60 := (goodT_t hT).2.1
  rw [hs] at hc
  rw [hc] at hy
  have hql := (List.getElem?_eq_some_iff.1 hy).1
  rcases g T hT hs with ⟨k, hk, rfl, rfl⟩ | ⟨e, _⟩
  · rcases hk.next hy with ⟨i, i1, i2, i3, i4, i5, i6⟩ | ⟨p1, p2, p3, p4⟩
    · have hi : ItW st l kb ks bl y (hdAt st l kb ks T k) T k i := ⟨hT, i1, i2, i3, i4, i5, rfl⟩
      obtain ⟨a1, a2⟩ := hw.1 T k i hi
      obtain ⟨d1, d2, d3⟩ := hi.done
      rw [← a2] at d1 d2
      refine ⟨a1, by rw [d2, ByteArray.size_extract]; omega, Or.inl ⟨i + 1, i6, d2, ?_⟩⟩
      have hz : z.size = i + 1 - k := by rw [d1, ByteArray.size_extract]; omega
      have e := hd_join (l := l) (kb := kb) (ks := ks) h3 h8 (T := T) (k := k) (m := i + 1) (by omega) z.size (by omega)
      rw [← d1, show k + z.size = i + 1 by omega] at e
      exact e.symm
    · have hp : PlW y T k := ⟨hT, p2, p1, p3⟩
      obtain ⟨a1, a2⟩ := hw.2 T k hp
      obtain ⟨d1, d2, d3, d4⟩ := hp.done
      rw [← a2] at d2
      exact ⟨a1, by rw [d2]; exact h60, Or.inr ⟨p4, d2⟩⟩
  · omega
theorem RdQ.step (h3 : 3 ≤ st) (h8 : st ≤ 8) {s x h y z : ByteArray} {ok : Bool} {q : Nat} (g : RdQ st l kb ks bl s q x h) (hy : (splB 32 s)[q]? = some y) (hw : WdQ st l kb ks bl y h z ok) : RdQ st l kb ks bl s (q + 1) (x ++ z) (timesS h (hdAt st l kb ks z z.size)) := fun T hT hs => by
  rcases (g.word h3 h8 hy hw hT hs).2.2 with ⟨k, a, b, c⟩ | e
  · exact Or.inl ⟨k, a, b, c⟩
  · exact Or.inr e
end
end Go.Proofs.YtidolgonmimicaaGreatDoor
/-
  DERIVED: THE SHELF's CONTRACTS AT THIS DUMP, IN PLAIN WORDS (tools/lay-plain.mjs out of 'YtidolgonmimicaaGreatDoorShelf.lean', which tools/lay-shelf.mjs wrote): THE SAME DECLARATIONS UNDER THE SAME NAMES: 'import', 'namespace', 'open', 'def', 'theorem' AND NOTHING ELSE: no command of the shelf's: FOR A HAND-IN. Each laying: the table of numbers ('.._ren') and one theorem, a field a fact of the dump's own or the kernel's comparison; each contract: ONE APPLICATION.
-/
namespace Go.Proofs
open Go.Shelf
def Tryz.lays169_ren : Go.Shelf.Ren := ⟨fun | 169 => 84 | n => n, fun | 70 => 88 | 9 => 9 | 0 => 0 | 72 => 90 | 37 => 22 | 127 => 110 | 3 => 3 | 5 => 5 | n => n, fun | n => n⟩
theorem Tryz.lays169 : Go.Proofs.Lays.n169 Tryz.prog Tryz.lays169_ren := {
  mixed := by kernel_rfl
  f169 := Tryz.func84.trans (congrArg some (by kernel_rfl))
  t0 := Tryz.underlying0
  a0 := Tryz.isAgg0
  z0 := Tryz.sizeOf0
  v0 := Tryz.zeroValue0
  t3 := Tryz.underlying3
  a3 := Tryz.isAgg3
  z3 := Tryz.sizeOf3
  v3 := Tryz.zeroValue3
  t9 := Tryz.underlying9
  a9 := Tryz.isAgg9
  z9 := Tryz.sizeOf9
  v9 := Tryz.zeroValue9
  t37 := Tryz.underlying22
  a37 := Tryz.isAgg22
  z37 := Tryz.sizeOf22
  v37 := Tryz.zeroValue22
  t70 := Tryz.underlying88
  a70 := Tryz.isAgg88
  z70 := Tryz.sizeOf88
  v70 := Tryz.zeroValue88
  t72 := Tryz.underlying90
  a72 := Tryz.isAgg90
  z72 := Tryz.sizeOf90
  v72 := Tryz.zeroValue90
  t127 := Tryz.underlying110
  a127 := Tryz.isAgg110
  z127 := Tryz.sizeOf110
  v127 := Tryz.zeroValue110 }
theorem Tryz.Builder_Extra_169 : Builder.Extra Tryz.prog Tryz.lays169_ren := {
  sizeBuilder := by kernel_rfl
  liesBuilder := by kernel_rfl
  t5 := Tryz.underlying5
  a5 := Tryz.isAgg5
  z5 := Tryz.sizeOf5
  v5 := Tryz.zeroValue5
  infoByte := by kernel_rfl
  cellsByte := by kernel_rfl
  sizeByte := by kernel_rfl
  neB5 := by decide }
open Go.RowKit in
/-- (*strings.Builder).String: "String returns the accumulated string.": OF A BUILDER THAT HOLDS AT LEAST ONE BYTE. ✋ THE MODEL FREEZES THOSE BYTES IN THE BUFFER (unsafe.String): a later write INTO them ends the model's run without an answer; a later append BEHIND them goes on. The statement's order of evaluation is drawn: one draw. (LAID: no walk: one application.) -/
theorem Tryz.Builder_String (B b : Nat) (l : List UInt8) (w : World) (h : Lib.IsBuilder 90 5 B b (Lib.byteCells l) w) (h0 : l ≠ []) :
    Calls Tryz.prog 84 #[.pointer (some ⟨b, 0, none⟩)] w fun e w' => e = .returned (.string ⟨l.toArray⟩) ∧ Below B w w' := Any.Builder_String Tryz.lays169 Tryz.Builder_Extra_169 B b l w h h0
open Go.RowKit in
/-- (*strings.Builder).String OF A BUILDER THAT HOLDS NO BYTE: the empty string. (Its buffer is nil, or a row of which it has taken nothing yet; where that row has NO capacity the model lays one new block for unsafe.SliceData's 'some address'.) One draw. (LAID: no walk: one application.) -/
theorem Tryz.Builder_String_empty (B b : Nat) (w : World) (h : Lib.IsBuilder 90 5 B b [] w) (hBw : B ≤ w.heap.size) :
    Calls Tryz.prog 84 #[.pointer (some ⟨b, 0, none⟩)] w fun e w' => e = .returned (.string ⟨#[]⟩) ∧ Below B w w' := Any.Builder_String_empty Tryz.lays169 Tryz.Builder_Extra_169 B b w h hBw
open Go.RowKit in
/-- (*strings.Builder).String: "String returns the accumulated string.": WHATEVER THE BUILDER HOLDS. (LAID: no walk: one application.) -/
theorem Tryz.Builder_String_any (B b : Nat) (l : List UInt8) (w : World) (h : Lib.IsBuilder 90 5 B b (Lib.byteCells l) w) (hBw : B ≤ w.heap.size) :
    Calls Tryz.prog 84 #[.pointer (some ⟨b, 0, none⟩)] w fun e w' => e = .returned (.string ⟨l.toArray⟩) ∧ Below B w w' := Any.Builder_String_any Tryz.lays169 Tryz.Builder_Extra_169 B b l w h hBw
def Tryz.lays156_ren : Go.Shelf.Ren := ⟨fun | 156 => 69 | 165 => 81 | 166 => 82 | 169 => 84 | 240 => 100 | 241 => 101 | 276 => 109 | 277 => 110 | n => n, fun | 31 => 23 | 9 => 9 | 3 => 3 | 4 => 4 | 0 => 0 | 20 => 20 | 72 => 90 | 76 => 94 | 70 => 88 | 37 => 22 | 75 => 93 | 127 => 110 | 164 => 116 | 5 => 5 | 80 => 39 | n => n, fun | n => n⟩
theorem Tryz.lays156 : Go.Proofs.Lays.n156 Tryz.prog Tryz.lays156_ren := {
  mixed := by kernel_rfl
  f156 := Tryz.func69.trans (congrArg some (by kernel_rfl))
  f165 := Tryz.func81.trans (congrArg some (by kernel_rfl))
  f166 := Tryz.func82.trans (congrArg some (by kernel_rfl))
  f169 := Tryz.func84.trans (congrArg some (by kernel_rfl))
  f240 := Tryz.func100.trans (congrArg some (by kernel_rfl))
  f241 := Tryz.func101.trans (congrArg some (by kernel_rfl))
  f276 := Tryz.func109.trans (congrArg some (by kernel_rfl))
  f277 := Tryz.func110.trans (congrArg some (by kernel_rfl))
  t0 := Tryz.underlying0
  a0 := Tryz.isAgg0
  z0 := Tryz.sizeOf0
  v0 := Tryz.zeroValue0
  t3 := Tryz.underlying3
  a3 := Tryz.isAgg3
  z3 := Tryz.sizeOf3
  v3 := Tryz.zeroValue3
  t4 := Tryz.underlying4
  a4 := Tryz.isAgg4
  z4 := Tryz.sizeOf4
  v4 := Tryz.zeroValue4
  t9 := Tryz.underlying9
  a9 := Tryz.isAgg9
  z9 := Tryz.sizeOf9
  v9 := Tryz.zeroValue9
  t20 := Tryz.underlying20
  a20 := Tryz.isAgg20
  z20 := Tryz.sizeOf20
  v20 := Tryz.zeroValue20
  t31 := Tryz.underlying23
  a31 := Tryz.isAgg23
  z31 := Tryz.sizeOf23
  v31 := Tryz.zeroValue23
  t37 := Tryz.underlying22
  a37 := Tryz.isAgg22
  z37 := Tryz.sizeOf22
  v37 := Tryz.zeroValue22
  t70 := Tryz.underlying88
  a70 := Tryz.isAgg88
  z70 := Tryz.sizeOf88
  v70 := Tryz.zeroValue88
  t72 := Tryz.underlying90
  a72 := Tryz.isAgg90
  z72 := Tryz.sizeOf90
  v72 := Tryz.zeroValue90
  t75 := Tryz.underlying93
  a75 := Tryz.isAgg93
  z75 := Tryz.sizeOf93
  v75 := Tryz.zeroValue93
  t76 := Tryz.underlying94
  a76 := Tryz.isAgg94
  z76 := Tryz.sizeOf94
  v76 := Tryz.zeroValue94
  t127 := Tryz.underlying110
  a127 := Tryz.isAgg110
  z127 := Tryz.sizeOf110
  v127 := Tryz.zeroValue110
  t164 := Tryz.underlying116
  a164 := Tryz.isAgg116
  z164 := Tryz.sizeOf116
  v164 := Tryz.zeroValue116 }
theorem Tryz.Builder_Extra_156 : Builder.Extra Tryz.prog Tryz.lays156_ren := {
  sizeBuilder := by kernel_rfl
  liesBuilder := by kernel_rfl
  t5 := Tryz.underlying5
  a5 := Tryz.isAgg5
  z5 := Tryz.sizeOf5
  v5 := Tryz.zeroValue5
  infoByte := by kernel_rfl
  cellsByte := by kernel_rfl
  sizeByte := by kernel_rfl
  neB5 := by decide }
open Go.RowKit in
/-- No element: the empty string; the world is as it was. (Whatever the slice's address and capacity: a nil slice too.) (LAID: no walk: one application.) -/
theorem Tryz.strings_Join_none (a : Option Addr) (c : Nat) (sep : ByteArray) (w : World) :
    Calls Tryz.prog 69 #[.slice a 0 c, .string sep] w fun e w' => e = .returned (.string ⟨#[]⟩) ∧ w' = w := Any.strings_Join_none Tryz.lays156 Tryz.Builder_Extra_156 a c sep w
open Go.RowKit in
/-- strings.Join: "Join concatenates the elements of its first argument to create a single string. The separator string sep is placed between elements in the resulting string.": HOWEVER MANY ELEMENTS. Below the heap's end the world is as it was. (LAID: no walk: one application.) -/
theorem Tryz.strings_Join (bk o c : Nat) (xs : List ByteArray) (sep : ByteArray) (w : World) (hcells : ∀ (j : Nat) x, xs[j]? = some x → w.cell? ⟨bk, o + j, none⟩ = some (.string x)) (hbk : bk < w.heap.size) (hN : xs.length ≤ 140737488355328) (hcap : xs.length ≤ c) (hlen : (Lib.join (xs.map (·.data.toList)) sep.data.toList).length ≤ 140737488355328) :
    Calls Tryz.prog 69 #[.slice (some ⟨bk, o, none⟩) xs.length c, .string sep] w fun e w' => e = .returned (.string ⟨(Lib.join (xs.map (·.data.toList)) sep.data.toList).toArray⟩) ∧ Below w.heap.size w w' := Any.strings_Join Tryz.lays156 Tryz.Builder_Extra_156 bk o c xs sep w hcells hbk hN hcap hlen
open Go.RowKit in
/-- (*strings.Builder).String: "String returns the accumulated string.": OF A BUILDER THAT HOLDS AT LEAST ONE BYTE. ✋ THE MODEL FREEZES THOSE BYTES IN THE BUFFER (unsafe.String): a later write INTO them ends the model's run without an answer; a later append BEHIND them goes on. The statement's order of evaluation is drawn: one draw. THE FORM '_f': IT SAYS BESIDES THAT THE BUILDER IS A BUILDER STILL ('Lib.IsBuilderF', the same bytes): SO IT CAN BE WRITTEN ON: 'b.WriteString(b.String()[:k])'. (LAID: no walk: one application.) -/
theorem Tryz.Builder_String_f (B b : Nat) (l : List UInt8) (w : World) (h : Lib.IsBuilderF 90 5 B b (Lib.byteCells l) w) (h0 : l ≠ []) :
    Calls Tryz.prog 84 #[.pointer (some ⟨b, 0, none⟩)] w fun e w' => e = .returned (.string ⟨l.toArray⟩) ∧ (Lib.IsBuilderF 90 5 B b (Lib.byteCells l) w' ∧ Below B w w') := Any.Builder_String_f Tryz.lays169 Tryz.Builder_Extra_169 B b l w h h0
open Go.RowKit in
/-- (*strings.Builder).String OF A BUILDER THAT HOLDS NO BYTE: the empty string; THE FORM '_f': a builder still. (LAID: no walk: one application.) -/
theorem Tryz.Builder_String_empty_f (B b : Nat) (w : World) (h : Lib.IsBuilderF 90 5 B b [] w) (hBw : B ≤ w.heap.size) :
    Calls Tryz.prog 84 #[.pointer (some ⟨b, 0, none⟩)] w fun e w' => e = .returned (.string ⟨#[]⟩) ∧ (Lib.IsBuilderF 90 5 B b [] w' ∧ Below B w w') := Any.Builder_String_empty_f Tryz.lays169 Tryz.Builder_Extra_169 B b w h hBw
open Go.RowKit in
/-- (*strings.Builder).String: "String returns the accumulated string.": WHATEVER THE BUILDER HOLDS; THE FORM '_f': OF A BUILDER THAT MAY HAVE BEEN READ BEFORE; AND IT IS A BUILDER STILL, holding the same bytes: it can be written on. (LAID: no walk: one application.) -/
theorem Tryz.Builder_String_any_f (B b : Nat) (l : List UInt8) (w : World) (h : Lib.IsBuilderF 90 5 B b (Lib.byteCells l) w) (hBw : B ≤ w.heap.size) :
    Calls Tryz.prog 84 #[.pointer (some ⟨b, 0, none⟩)] w fun e w' => e = .returned (.string ⟨l.toArray⟩) ∧ (Lib.IsBuilderF 90 5 B b (Lib.byteCells l) w' ∧ Below B w w') := Any.Builder_String_any_f Tryz.lays169 Tryz.Builder_Extra_169 B b l w h hBw
open Go.RowKit in
/-- (*strings.Builder).String: "String returns the accumulated string.": OF A BUILDER THAT HOLDS AT LEAST ONE BYTE. ✋ THE MODEL FREEZES THOSE BYTES IN THE BUFFER (unsafe.String): a later write INTO them ends the model's run without an answer; a later append BEHIND them goes on. The statement's order of evaluation is drawn: one draw. THE FORM '_k': OVER 'Lib.IsBuilderF' (a builder that 'String()' may have read), AND WITH THE FRAME THAT REACHES ABOVE THE BUILDER: 'Lib.OthersKept': every block that is not b and is no row of uint8's stands as it stood: the iterator of a range among them. (LAID: no walk: one application.) -/
theorem Tryz.Builder_String_k (B b : Nat) (l : List UInt8) (w : World) (h : Lib.IsBuilderF 90 5 B b (Lib.byteCells l) w) (h0 : l ≠ []) :
    Calls Tryz.prog 84 #[.pointer (some ⟨b, 0, none⟩)] w fun e w' => e = .returned (.string ⟨l.toArray⟩) ∧ (Lib.IsBuilderF 90 5 B b (Lib.byteCells l) w' ∧ Below B w w' ∧ Lib.OthersKept 5 (some b) w w') := Any.Builder_String_k Tryz.lays169 Tryz.Builder_Extra_169 B b l w h h0
open Go.RowKit in
/-- (*strings.Builder).String OF A BUILDER THAT HOLDS NO BYTE: the empty string; THE FORM '_k': OVER 'Lib.IsBuilderF' (a builder that 'String()' may have read), AND WITH THE FRAME THAT REACHES ABOVE THE BUILDER: 'Lib.OthersKept': every block that is not b and is no row of uint8's stands as it stood: the iterator of a range among them. (LAID: no walk: one application.) -/
theorem Tryz.Builder_String_empty_k (B b : Nat) (w : World) (h : Lib.IsBuilderF 90 5 B b [] w) (hBw : B ≤ w.heap.size) :
    Calls Tryz.prog 84 #[.pointer (some ⟨b, 0, none⟩)] w fun e w' => e = .returned (.string ⟨#[]⟩) ∧ (Lib.IsBuilderF 90 5 B b [] w' ∧ Below B w w' ∧ Lib.OthersKept 5 (some b) w w') := Any.Builder_String_empty_k Tryz.lays169 Tryz.Builder_Extra_169 B b w h hBw
open Go.RowKit in
/-- (*strings.Builder).String: "String returns the accumulated string.": WHATEVER THE BUILDER HOLDS; THE FORM '_k': OVER 'Lib.IsBuilderF' (a builder that 'String()' may have read), AND WITH THE FRAME THAT REACHES ABOVE THE BUILDER: 'Lib.OthersKept': every block that is not b and is no row of uint8's stands as it stood: the iterator of a range among them. (LAID: no walk: one application.) -/
theorem Tryz.Builder_String_any_k (B b : Nat) (l : List UInt8) (w : World) (h : Lib.IsBuilderF 90 5 B b (Lib.byteCells l) w) (hBw : B ≤ w.heap.size) :
    Calls Tryz.prog 84 #[.pointer (some ⟨b, 0, none⟩)] w fun e w' => e = .returned (.string ⟨l.toArray⟩) ∧ (Lib.IsBuilderF 90 5 B b (Lib.byteCells l) w' ∧ Below B w w' ∧ Lib.OthersKept 5 (some b) w w') := Any.Builder_String_any_k Tryz.lays169 Tryz.Builder_Extra_169 B b l w h hBw
def Tryz.laysM171_ren : Go.Shelf.Ren := ⟨fun | 171 => 68 | 243 => 92 | 246 => 104 | 283 => 113 | 284 => 114 | 285 => 115 | 286 => 116 | 129 => 124 | 317 => 123 | 318 => 125 | 319 => 126 | 320 => 127 | 337 => 132 | 338 => 133 | n => n, fun | 3 => 3 | 9 => 9 | 2 => 2 | 4 => 4 | 171 => 120 | 0 => 0 | 53 => 34 | 37 => 22 | 5 => 5 | 173 => 123 | 212 => 127 | 51 => 105 | 20 => 20 | 213 => 128 | 46 => 72 | 232 => 139 | 233 => 140 | n => n, fun | 17 => 1 | 18 => 4 | 19 => 5 | n => n⟩
theorem Tryz.laysM171 : Go.Proofs.LaysM.n171 Tryz.prog Tryz.laysM171_ren := {
  mixed := by kernel_rfl
  f129 := Tryz.func124.trans (congrArg some (by kernel_rfl))
  f171 := Tryz.func68.trans (congrArg some (by kernel_rfl))
  f243 := Tryz.func92.trans (congrArg some (by kernel_rfl))
  f246 := Tryz.func104.trans (congrArg some (by kernel_rfl))
  f283 := Tryz.func113.trans (congrArg some (by kernel_rfl))
  f284 := Tryz.func114.trans (congrArg some (by kernel_rfl))
  f285 := Tryz.func115.trans (congrArg some (by kernel_rfl))
  f286 := Tryz.func116.trans (congrArg some (by kernel_rfl))
  f317 := Tryz.func123.trans (congrArg some (by kernel_rfl))
  f318 := Tryz.func125.trans (congrArg some (by kernel_rfl))
  f319 := Tryz.func126.trans (congrArg some (by kernel_rfl))
  f320 := Tryz.func127.trans (congrArg some (by kernel_rfl))
  f337 := Tryz.func132.trans (congrArg some (by kernel_rfl))
  f338 := Tryz.func133.trans (congrArg some (by kernel_rfl))
  t0 := Tryz.underlying0
  a0 := Tryz.isAgg0
  z0 := Tryz.sizeOf0
  v0 := Tryz.zeroValue0
  t2 := Tryz.underlying2
  a2 := Tryz.isAgg2
  z2 := Tryz.sizeOf2
  v2 := Tryz.zeroValue2
  t3 := Tryz.underlying3
  a3 := Tryz.isAgg3
  z3 := Tryz.sizeOf3
  v3 := Tryz.zeroValue3
  t4 := Tryz.underlying4
  a4 := Tryz.isAgg4
  z4 := Tryz.sizeOf4
  v4 := Tryz.zeroValue4
  t5 := Tryz.underlying5
  a5 := Tryz.isAgg5
  z5 := Tryz.sizeOf5
  v5 := Tryz.zeroValue5
  t9 := Tryz.underlying9
  a9 := Tryz.isAgg9
  z9 := Tryz.sizeOf9
  v9 := Tryz.zeroValue9
  t20 := Tryz.underlying20
  a20 := Tryz.isAgg20
  z20 := Tryz.sizeOf20
  v20 := Tryz.zeroValue20
  t37 := Tryz.underlying22
  a37 := Tryz.isAgg22
  z37 := Tryz.sizeOf22
  v37 := Tryz.zeroValue22
  t46 := Tryz.underlying72
  a46 := Tryz.isAgg72
  z46 := Tryz.sizeOf72
  v46 := Tryz.zeroValue72
  t51 := Tryz.underlying105
  a51 := Tryz.isAgg105
  z51 := Tryz.sizeOf105
  v51 := Tryz.zeroValue105
  t53 := Tryz.underlying34
  a53 := Tryz.isAgg34
  z53 := Tryz.sizeOf34
  v53 := Tryz.zeroValue34
  t171 := Tryz.underlying120
  a171 := Tryz.isAgg120
  z171 := Tryz.sizeOf120
  v171 := Tryz.zeroValue120
  t173 := Tryz.underlying123
  a173 := Tryz.isAgg123
  z173 := Tryz.sizeOf123
  v173 := Tryz.zeroValue123
  t212 := Tryz.underlying127
  a212 := Tryz.isAgg127
  z212 := Tryz.sizeOf127
  v212 := Tryz.zeroValue127
  t213 := Tryz.underlying128
  a213 := Tryz.isAgg128
  z213 := Tryz.sizeOf128
  t232 := Tryz.underlying139
  a232 := Tryz.isAgg139
  z232 := Tryz.sizeOf139
  v232 := Tryz.zeroValue139
  t233 := Tryz.underlying140
  a233 := Tryz.isAgg140
  z233 := Tryz.sizeOf140
  v233 := Tryz.zeroValue140
  g17 := by kernel_rfl
  g18 := by kernel_rfl
  g19 := by kernel_rfl
  i0 := by kernel_rfl
  i2 := by kernel_rfl
  i3 := by kernel_rfl
  i4 := by kernel_rfl
  i5 := by kernel_rfl
  i9 := by kernel_rfl
  i20 := by kernel_rfl
  i37 := by kernel_rfl
  i46 := by kernel_rfl
  i51 := by kernel_rfl
  i53 := by kernel_rfl
  i171 := by kernel_rfl
  i173 := by kernel_rfl
  i212 := by kernel_rfl
  i232 := by kernel_rfl
  i233 := by kernel_rfl
  m17 := by kernel_rfl
  m18 := by kernel_rfl
  m19 := by kernel_rfl }
open Go.RowKit Go.Sort Go.Lib in
/-- strconv.Itoa: "Itoa is equivalent to FormatInt(int64(i), 10).": i's DECIMAL NUMERAL ('Lib.itoa': a '-' where i is negative, then the digits), FOR EVERY int. The world behind the call: the world before it, new blocks behind the heap (the library's 'var a [24]byte'), draws. (LAID: no walk: one application.) -/
theorem Tryz.strconv_Itoa (n : Int) (h0 : -9223372036854775808 ≤ n) (h1 : n ≤ 9223372036854775807) (w : World) (htab : Lib.TabIs Tryz.prog w "internal/strconv.uint64pow10" .u64 Lib.pow10Tab) :
    Calls Tryz.prog 68 #[.int .i64 n] w fun e w' => e = .returned (.string ⟨(Lib.itoa n).toArray⟩) ∧ ∃ k os, w' = grow (w.drewN k) os := Any.strconv_Itoa Tryz.laysM171 n h0 h1 w htab
def Tryz.lays171_ren : Go.Shelf.Ren := ⟨fun | 171 => 68 | 243 => 92 | 246 => 104 | 283 => 113 | 284 => 114 | 285 => 115 | 286 => 116 | 129 => 124 | 317 => 123 | 318 => 125 | 319 => 126 | 320 => 127 | 337 => 132 | 338 => 133 | n => n, fun | 3 => 3 | 9 => 9 | 2 => 2 | 4 => 4 | 171 => 120 | 0 => 0 | 53 => 34 | 37 => 22 | 5 => 5 | 173 => 123 | 212 => 127 | 51 => 105 | 20 => 20 | 213 => 128 | 46 => 72 | 232 => 139 | 233 => 140 | n => n, fun | 17 => 1 | 18 => 4 | 19 => 5 | n => n⟩
theorem Tryz.lays171 : Go.Proofs.Lays.n171 Tryz.prog Tryz.lays171_ren := {
  mixed := by kernel_rfl
  f129 := Tryz.func124.trans (congrArg some (by kernel_rfl))
  f171 := Tryz.func68.trans (congrArg some (by kernel_rfl))
  f243 := Tryz.func92.trans (congrArg some (by kernel_rfl))
  f246 := Tryz.func104.trans (congrArg some (by kernel_rfl))
  f283 := Tryz.func113.trans (congrArg some (by kernel_rfl))
  f284 := Tryz.func114.trans (congrArg some (by kernel_rfl))
  f285 := Tryz.func115.trans (congrArg some (by kernel_rfl))
  f286 := Tryz.func116.trans (congrArg some (by kernel_rfl))
  f317 := Tryz.func123.trans (congrArg some (by kernel_rfl))
  f318 := Tryz.func125.trans (congrArg some (by kernel_rfl))
  f319 := Tryz.func126.trans (congrArg some (by kernel_rfl))
  f320 := Tryz.func127.trans (congrArg some (by kernel_rfl))
  f337 := Tryz.func132.trans (congrArg some (by kernel_rfl))
  f338 := Tryz.func133.trans (congrArg some (by kernel_rfl))
  t0 := Tryz.underlying0
  a0 := Tryz.isAgg0
  z0 := Tryz.sizeOf0
  v0 := Tryz.zeroValue0
  t2 := Tryz.underlying2
  a2 := Tryz.isAgg2
  z2 := Tryz.sizeOf2
  v2 := Tryz.zeroValue2
  t3 := Tryz.underlying3
  a3 := Tryz.isAgg3
  z3 := Tryz.sizeOf3
  v3 := Tryz.zeroValue3
  t4 := Tryz.underlying4
  a4 := Tryz.isAgg4
  z4 := Tryz.sizeOf4
  v4 := Tryz.zeroValue4
  t5 := Tryz.underlying5
  a5 := Tryz.isAgg5
  z5 := Tryz.sizeOf5
  v5 := Tryz.zeroValue5
  t9 := Tryz.underlying9
  a9 := Tryz.isAgg9
  z9 := Tryz.sizeOf9
  v9 := Tryz.zeroValue9
  t20 := Tryz.underlying20
  a20 := Tryz.isAgg20
  z20 := Tryz.sizeOf20
  v20 := Tryz.zeroValue20
  t37 := Tryz.underlying22
  a37 := Tryz.isAgg22
  z37 := Tryz.sizeOf22
  v37 := Tryz.zeroValue22
  t46 := Tryz.underlying72
  a46 := Tryz.isAgg72
  z46 := Tryz.sizeOf72
  v46 := Tryz.zeroValue72
  t51 := Tryz.underlying105
  a51 := Tryz.isAgg105
  z51 := Tryz.sizeOf105
  v51 := Tryz.zeroValue105
  t53 := Tryz.underlying34
  a53 := Tryz.isAgg34
  z53 := Tryz.sizeOf34
  v53 := Tryz.zeroValue34
  t171 := Tryz.underlying120
  a171 := Tryz.isAgg120
  z171 := Tryz.sizeOf120
  v171 := Tryz.zeroValue120
  t173 := Tryz.underlying123
  a173 := Tryz.isAgg123
  z173 := Tryz.sizeOf123
  v173 := Tryz.zeroValue123
  t212 := Tryz.underlying127
  a212 := Tryz.isAgg127
  z212 := Tryz.sizeOf127
  v212 := Tryz.zeroValue127
  t213 := Tryz.underlying128
  a213 := Tryz.isAgg128
  z213 := Tryz.sizeOf128
  t232 := Tryz.underlying139
  a232 := Tryz.isAgg139
  z232 := Tryz.sizeOf139
  v232 := Tryz.zeroValue139
  t233 := Tryz.underlying140
  a233 := Tryz.isAgg140
  z233 := Tryz.sizeOf140
  v233 := Tryz.zeroValue140
  g17 := by kernel_rfl
  g18 := by kernel_rfl
  g19 := by kernel_rfl }
open Go.RowKit Go.Sort Go.Lib in
/-- THE ROAD WITHOUT THE TABLE: 0 <= i < 100: NO PREMISE ON THE WORLD, AND THE WORLD IS AS IT WAS: a row that keeps its argument in that range need list no table ('laid = []'). (LAID: no walk: one application.) -/
theorem Tryz.strconv_Itoa_small (i : Nat) (hi : i < 100) (w : World) :
    Calls Tryz.prog 68 #[.int .i64 i] w fun e w' => e = .returned (.string ⟨(Lib.decDigits i).toArray⟩) ∧ w' = w := Any.strconv_Itoa_small Tryz.lays171 i hi w
def Tryz.lays105_ren : Go.Shelf.Ren := ⟨fun | 105 => 59 | 212 => 79 | 99 => 80 | 165 => 81 | 166 => 82 | 170 => 83 | 169 => 84 | 263 => 97 | 264 => 98 | 206 => 99 | 240 => 100 | 241 => 101 | 276 => 109 | 277 => 110 | n => n, fun | 9 => 9 | 3 => 3 | 4 => 4 | 20 => 20 | 0 => 0 | 46 => 72 | 109 => 85 | 5 => 5 | 72 => 90 | 76 => 94 | 51 => 105 | 146 => 106 | 53 => 34 | 148 => 108 | 70 => 88 | 37 => 22 | 75 => 93 | 127 => 110 | 164 => 116 | 80 => 39 | n => n, fun | n => n⟩
theorem Tryz.lays105 : Go.Proofs.Lays.n105 Tryz.prog Tryz.lays105_ren := {
  mixed := by kernel_rfl
  f99 := Tryz.func80.trans (congrArg some (by kernel_rfl))
  f105 := Tryz.func59.trans (congrArg some (by kernel_rfl))
  f165 := Tryz.func81.trans (congrArg some (by kernel_rfl))
  f166 := Tryz.func82.trans (congrArg some (by kernel_rfl))
  f169 := Tryz.func84.trans (congrArg some (by kernel_rfl))
  f170 := Tryz.func83.trans (congrArg some (by kernel_rfl))
  f206 := Tryz.func99.trans (congrArg some (by kernel_rfl))
  f212 := Tryz.func79.trans (congrArg some (by kernel_rfl))
  f240 := Tryz.func100.trans (congrArg some (by kernel_rfl))
  f241 := Tryz.func101.trans (congrArg some (by kernel_rfl))
  f263 := Tryz.func97.trans (congrArg some (by kernel_rfl))
  f264 := Tryz.func98.trans (congrArg some (by kernel_rfl))
  f276 := Tryz.func109.trans (congrArg some (by kernel_rfl))
  f277 := Tryz.func110.trans (congrArg some (by kernel_rfl))
  t0 := Tryz.underlying0
  a0 := Tryz.isAgg0
  z0 := Tryz.sizeOf0
  v0 := Tryz.zeroValue0
  t3 := Tryz.underlying3
  a3 := Tryz.isAgg3
  z3 := Tryz.sizeOf3
  v3 := Tryz.zeroValue3
  t4 := Tryz.underlying4
  a4 := Tryz.isAgg4
  z4 := Tryz.sizeOf4
  v4 := Tryz.zeroValue4
  t5 := Tryz.underlying5
  a5 := Tryz.isAgg5
  z5 := Tryz.sizeOf5
  v5 := Tryz.zeroValue5
  t9 := Tryz.underlying9
  a9 := Tryz.isAgg9
  z9 := Tryz.sizeOf9
  v9 := Tryz.zeroValue9
  t20 := Tryz.underlying20
  a20 := Tryz.isAgg20
  z20 := Tryz.sizeOf20
  v20 := Tryz.zeroValue20
  t37 := Tryz.underlying22
  a37 := Tryz.isAgg22
  z37 := Tryz.sizeOf22
  v37 := Tryz.zeroValue22
  t46 := Tryz.underlying72
  a46 := Tryz.isAgg72
  z46 := Tryz.sizeOf72
  v46 := Tryz.zeroValue72
  t51 := Tryz.underlying105
  a51 := Tryz.isAgg105
  z51 := Tryz.sizeOf105
  v51 := Tryz.zeroValue105
  t53 := Tryz.underlying34
  a53 := Tryz.isAgg34
  z53 := Tryz.sizeOf34
  v53 := Tryz.zeroValue34
  t70 := Tryz.underlying88
  a70 := Tryz.isAgg88
  z70 := Tryz.sizeOf88
  v70 := Tryz.zeroValue88
  t72 := Tryz.underlying90
  a72 := Tryz.isAgg90
  z72 := Tryz.sizeOf90
  v72 := Tryz.zeroValue90
  t75 := Tryz.underlying93
  a75 := Tryz.isAgg93
  z75 := Tryz.sizeOf93
  v75 := Tryz.zeroValue93
  t76 := Tryz.underlying94
  a76 := Tryz.isAgg94
  z76 := Tryz.sizeOf94
  v76 := Tryz.zeroValue94
  t109 := Tryz.underlying85
  a109 := Tryz.isAgg85
  z109 := Tryz.sizeOf85
  v109 := Tryz.zeroValue85
  t127 := Tryz.underlying110
  a127 := Tryz.isAgg110
  z127 := Tryz.sizeOf110
  v127 := Tryz.zeroValue110
  t146 := Tryz.underlying106
  a146 := Tryz.isAgg106
  z146 := Tryz.sizeOf106
  v146 := Tryz.zeroValue106
  t148 := Tryz.underlying108
  a148 := Tryz.isAgg108
  z148 := Tryz.sizeOf108
  v148 := Tryz.zeroValue108
  t164 := Tryz.underlying116
  a164 := Tryz.isAgg116
  z164 := Tryz.sizeOf116
  v164 := Tryz.zeroValue116 }
theorem Tryz.Builder_Extra_105 : Builder.Extra Tryz.prog Tryz.lays105_ren := {
  sizeBuilder := by kernel_rfl
  liesBuilder := by kernel_rfl
  t5 := Tryz.underlying5
  a5 := Tryz.isAgg5
  z5 := Tryz.sizeOf5
  v5 := Tryz.zeroValue5
  infoByte := by kernel_rfl
  cellsByte := by kernel_rfl
  sizeByte := by kernel_rfl
  neB5 := by decide }
open Go.RowKit Go.Lib in
/-- **strings.Repeat: count ≥ 0, the result within one allocation: count copies of s.** (LAID: no walk: one application.) -/
theorem Tryz.strings_Repeat (s : ByteArray) (c : Nat) (w : World) (hc : c ≤ 9223372036854775807) (hlen : s.size * c ≤ 140737488355328) :
    Calls Tryz.prog 59 #[.string s, .int .i64 c] w fun e w' => e = .returned (.string ⟨(Lib.repeatL s.data.toList c).toArray⟩) ∧ Below w.heap.size w w' := Any.strings_Repeat Tryz.lays105 Tryz.Builder_Extra_105 s c w hc hlen
end Go.Proofs
/- The program's decimal text of a number. -/
namespace Go.Proofs.YtidolgonmimicaaGreatDoor
set_option linter.unusedVariables false
set_option linter.unusedSimpArgs false
open Go.ChangeShapes Go.WideShapes Go.ChangeAt Go.RowKit Go.Deep
theorem impl_decimal_s {i : Nat} {w : World} (hi : i < 100) :
    Calls Tryz.prog 43 #[.int .i64 (i : Int)] w fun e w' => e = .returned (.string (decS i)) ∧ w = w' := by
  go_in
  go_wp2_with (first | (go_at_call 68; refine (Tryz.strconv_Itoa_small i hi _).mono ?_; rintro e w' ⟨rfl, rfl⟩))
  go_ret
  exact ⟨rfl, rfl⟩
theorem impl_decimal_1 {x : Int} {w : World} (h0 : 0 ≤ x) (h9 : x ≤ 9) :
    Calls Tryz.prog 43 #[.int .i64 x] w fun e w' => e = .returned (.string (dig1 x)) ∧ Below w.heap.size w w' := by
  obtain ⟨i, rfl⟩ := Int.eq_ofNat_of_zero_le h0
  refine (impl_decimal_s (i := i) (by omega)).mono ?_
  rintro e w' ⟨rfl, rfl⟩
  exact ⟨by rw [decS_small (by omega)], Below.refl _ _⟩
theorem impl_decimal {n : Nat} {w : World} (hn : n ≤ 1000000000000) (htab : Lib.TabIs Tryz.prog w "internal/strconv.uint64pow10" .u64 Lib.pow10Tab) :
    Calls Tryz.prog 43 #[.int .i64 (n : Int)] w fun e w' => e = .returned (.string (decS n)) ∧ Below w.heap.size w w' := by
  have he : (⟨(Lib.itoa (n : Int)).toArray⟩ : ByteArray) = decS n := by rw [Lib.itoa, if_neg (by omega)]; rfl
  go_in
  go_wp2_with (first | (go_at_call 68; refine (Tryz.strconv_Itoa (n : Int) (by omega) (by omega) _ htab).mono ?_; rw [he]; rintro e w' ⟨rfl, k, os, rfl⟩))
  go_ret
  exact ⟨rfl, Lib.below_grow _ _ (Nat.le_refl _) k os⟩
end Go.Proofs.YtidolgonmimicaaGreatDoor
/- The walks through numbers read, the reference's side, and words joined, the program's. -/
namespace Go.Proofs.YtidolgonmimicaaGreatDoor
set_option linter.unusedVariables false
set_option linter.unusedSimpArgs false
open Go.ChangeShapes Go.WideShapes Go.ChangeAt Go.RowKit Go.Deep
theorem l1V_f {s : ByteArray} (h : numOk s 6 = false) : l1V s = -1 := if_neg (by rw [h]; simp)
theorem l1V_t {s : ByteArray} (h : numOk s 6 = true) : l1V s = (valL s.data.toList : Int) := by rw [l1V, if_pos h, numV_t h]
set_option maxHeartbeats 2000000 in
set_option maxRecDepth 100000 in
theorem spec_l1Read {s : ByteArray} {w : World} (hz : s.size ≤ 16777216) :
    Calls Tryz.prog 61 #[.string s] w fun e w' => e = .returned (.int .i64 (l1V s)) ∧ w = w' := by
  have HQ : Hid (numOk s 6 = (decide ((s.size : Int) ≤ 6) && (decide (1 ≤ s.data.toList.length) && (!(decide (1 < s.data.toList.length) && decide (s.data.toList[0]? = some 48)) && s.data.toList.all isDg)))) := Lib.hid rfl
  have hlen : Hid (s.data.toList.length = s.size) := Lib.hid rfl
  have hb := PlainAid.get_bt s
  by_cases h1 : s.size < 1
  · have e2 := Lib.hid (show numOk s 6 = false by rw [HQ.out, hlen.out, show decide (1 ≤ s.size) = false from decide_eq_false (by omega)]; simp)
    have e1 := Lib.hid (l1V_f e2.out)
    have hI : inB (s.size : Int) 1 6 = false := by simp only [inB]; rw [decide_eq_false]; omega
    go_in
    go_wp2_with (first | (go_at_call 45; refine (spec_l1In _ _ _ _).mono ?_; rintro e w' ⟨rfl, rfl⟩))
    go_ret
    rw [e1.out]
    exact ⟨rfl, rfl⟩
  have hI1 : ¬ (s.size : Int) < 1 := by omega
  by_cases h2 : (6 : Int) < (s.size : Int)
  · have e2 := Lib.hid (show numOk s 6 = false by rw [HQ.out, decide_eq_false (show ¬ (s.size : Int) ≤ 6 by omega)]; rfl)
    have e1 := Lib.hid (l1V_f e2.out)
    have hI : inB (s.size : Int) 1 6 = false := by simp only [inB]; rw [decide_eq_false]; omega
    go_in
    go_wp2_with (first | (go_at_call 45; refine (spec_l1In _ _ _ _).mono ?_; rintro e w' ⟨rfl, rfl⟩))
    go_ret
    rw [e1.out]
    exact ⟨rfl, rfl⟩
  have h8 : s.size ≤ 8 := by omega
  have hI : inB (s.size : Int) 1 6 = true := by simp only [inB]; rw [decide_eq_true]; omega
  obtain ⟨b0, hb0⟩ := data_at s (k := 0) (by omega)
  have hbt0 := (bt_data hb0).1
  have hpos : 0 < s.size := by omega
  have HW := Lib.hid (show (s.size > 1 → b0 ≠ 48) → numOk s 6 = s.data.toList.all isDg from fun h => by
    rw [HQ.out, decide_eq_true (show (s.size : Int) ≤ 6 by omega), hlen.out, show decide (1 ≤ s.size) = true from decide_eq_true (by omega)]
    have : (decide (1 < s.size) && decide (s.data.toList[0]? = some 48)) = false := by
      by_cases h1 : 1 < s.size
      · rw [hb0, decide_eq_false (show ¬ (some b0 = some (48 : UInt8)) from fun e => h h1 (by injection e))]; simp
      · rw [decide_eq_false h1]; rfl
    rw [this]; rfl)
  have HZ := Lib.hid (show s.size > 1 → b0 = 48 → numOk s 6 = false from fun h h' => by
    rw [HQ.out, hlen.out, decide_eq_true (show 1 < s.size from h), hb0, h']; simp)
  by_cases h3 : (1 : Int) < (s.size : Int)
  · by_cases h4 : PlainAid.bt s 0 = 48
    · have e2 := Lib.hid (HZ.out (by omega) (UInt8.toNat_inj.1 (by rw [h4] at hbt0; have : (48 : UInt8).toNat = 48 := rfl; omega)))
      have e1 := Lib.hid (l1V_f e2.out)
      clear hb0 hbt0
      go_in
      go_wp2_with (first | (go_at_call 45; refine (spec_l1In _ _ _ _).mono ?_; rintro e w' ⟨rfl, rfl⟩))
      go_ret
      rw [e1.out]
      exact ⟨rfl, rfl⟩
    · have HA := Lib.hid (HW.out (fun _ e => h4 (by rw [hbt0, e]; rfl)))
      have h4b : (PlainAid.bt s 0 == 48) = false := by simpa using h4
      clear hb0 hbt0
      go_in
      go_wp2_with (first | (go_at_call 45; refine (spec_l1In _ _ _ _).mono ?_; rintro e w' ⟨rfl, rfl⟩))
      go_loopw [3, 4] (fun a i wr => ∃ k v : Nat, k ≤ s.size ∧ i = .int .i64 k ∧ a = .int .i64 v ∧ Hid (v = valL (s.data.toList.take k)) ∧ v ≤ 100000000 ∧ Hid ((s.data.toList.take k).all isDg = true) ∧ w = wr) (fun _ i _ => s.size - (intOf i).toNat)
      case atStart => exact ⟨0, 0, Nat.zero_le _, rfl, rfl, Lib.hid rfl, by decide, Lib.hid rfl, rfl⟩
      case round =>
        obtain ⟨k, v, hk, rfl, rfl, HV, hv, HD, rfl⟩ := hrel
        by_cases hlt : k < s.size
        · obtain ⟨b, hbk⟩ := data_at s hlt
          have hbt := (bt_data hbk).1
          have hdg := dg_of hbk
          rcases hd : isDg b
          · have e2 := Lib.hid (show numOk s 6 = false by rw [HA.out]; exact all_take_no hbk hd)
            have e1 := Lib.hid (l1V_f e2.out)
            rw [hd] at hdg
            by_cases h48 : PlainAid.bt s k < 48
            · clear hdg hbk hbt
              go_wp2
              go_ret
              rw [e1.out]
              exact ⟨rfl, rfl⟩
            · have h57 : 57 < PlainAid.bt s k := by
                rw [decide_eq_false h48] at hdg
                by_cases h : 57 < PlainAid.bt s k
                · exact h
                · rw [decide_eq_false h] at hdg; cases hdg
              clear hdg hbk hbt
              go_wp2
              go_ret
              rw [e1.out]
              exact ⟨rfl, rfl⟩
          · simp only [isDg, Bool.and_eq_true, decide_eq_true_eq] at hd
            have h48 : ¬ PlainAid.bt s k < 48 := by omega
            have h57 : ¬ 57 < PlainAid.bt s k := by omega
            have hw : IntKind.u8.wrap (PlainAid.bt s k - 48) = PlainAid.bt s k - 48 := by rw [IntKind.wrap_u8]; omega
            have HD2 := Lib.hid (show (s.data.toList.take (k + 1)).all isDg = true by
              rw [take_succ_some hbk, List.all_append, HD.out]; simp [isDg, hd.1, hd.2])
            have HV2 := Lib.hid (show 10 * v + (b.toNat - 48) = valL (s.data.toList.take (k + 1)) by rw [val_step hbk, ← HV.out])
            have hv2 : 10 * v + (b.toNat - 48) ≤ 100000000 := by rw [HV2.out]; exact val_bound hlt HD2.out h8
            have HEQ := Lib.hid (show (10 * (v : Int) + (PlainAid.bt s k - 48)) = ((10 * v + (b.toNat - 48) : Nat) : Int) by omega)
            have hlo : 0 ≤ PlainAid.bt s k - 48 ∧ PlainAid.bt s k - 48 ≤ 9 := by omega
            clear hdg hbk hbt
            go_wp2
            go_roundw
            case rel => exact ⟨k + 1, 10 * v + (b.toNat - 48), by omega, by go_num, congrArg (Value.int .i64) HEQ.out, HV2, hv2, HD2, trivial⟩
            case measure => simp [intOf]; omega
        · obtain rfl : k = s.size := by omega
          have ht : s.data.toList.take s.size = s.data.toList := List.take_of_length_le (by rw [hlen.out]; exact Nat.le_refl _)
          have e2 := Lib.hid (show numOk s 6 = true by rw [HA.out, ← ht]; exact HD.out)
          have e1 := Lib.hid (l1V_t e2.out)
          have HV3 := Lib.hid (show v = valL s.data.toList by rw [HV.out, ht])
          go_wp2
          go_ret
          rw [e1.out, ← HV3.out]
          exact ⟨rfl, rfl⟩
  · have HA := Lib.hid (HW.out (fun h _ => absurd h (by omega)))
    clear hb0 hbt0
    by_cases h4 : (PlainAid.bt s 0 == 48) = true
    · skip
      go_in
      go_wp2_with (first | (go_at_call 45; refine (spec_l1In _ _ _ _).mono ?_; rintro e w' ⟨rfl, rfl⟩))
      go_loopw [3, 4] (fun a i wr => ∃ k v : Nat, k ≤ s.size ∧ i = .int .i64 k ∧ a = .int .i64 v ∧ Hid (v = valL (s.data.toList.take k)) ∧ v ≤ 100000000 ∧ Hid ((s.data.toList.take k).all isDg = true) ∧ w = wr) (fun _ i _ => s.size - (intOf i).toNat)
      case atStart => exact ⟨0, 0, Nat.zero_le _, rfl, rfl, Lib.hid rfl, by decide, Lib.hid rfl, rfl⟩
      case round =>
        obtain ⟨k, v, hk, rfl, rfl, HV, hv, HD, rfl⟩ := hrel
        by_cases hlt : k < s.size
        · obtain ⟨b, hbk⟩ := data_at s hlt
          have hbt := (bt_data hbk).1
          have hdg := dg_of hbk
          rcases hd : isDg b
          · have e2 := Lib.hid (show numOk s 6 = false by rw [HA.out]; exact all_take_no hbk hd)
            have e1 := Lib.hid (l1V_f e2.out)
            rw [hd] at hdg
            by_cases h48 : PlainAid.bt s k < 48
            · clear hdg hbk hbt
              go_wp2
              go_ret
              rw [e1.out]
              exact ⟨rfl, rfl⟩
            · have h57 : 57 < PlainAid.bt s k := by
                rw [decide_eq_false h48] at hdg
                by_cases h : 57 < PlainAid.bt s k
                · exact h
                · rw [decide_eq_false h] at hdg; cases hdg
              clear hdg hbk hbt
              go_wp2
              go_ret
              rw [e1.out]
              exact ⟨rfl, rfl⟩
          · simp only [isDg, Bool.and_eq_true, decide_eq_true_eq] at hd
            have h48 : ¬ PlainAid.bt s k < 48 := by omega
            have h57 : ¬ 57 < PlainAid.bt s k := by omega
            have hw : IntKind.u8.wrap (PlainAid.bt s k - 48) = PlainAid.bt s k - 48 := by rw [IntKind.wrap_u8]; omega
            have HD2 := Lib.hid (show (s.data.toList.take (k + 1)).all isDg = true by
              rw [take_succ_some hbk, List.all_append, HD.out]; simp [isDg, hd.1, hd.2])
            have HV2 := Lib.hid (show 10 * v + (b.toNat - 48) = valL (s.data.toList.take (k + 1)) by rw [val_step hbk, ← HV.out])
            have hv2 : 10 * v + (b.toNat - 48) ≤ 100000000 := by rw [HV2.out]; exact val_bound hlt HD2.out h8
            have HEQ := Lib.hid (show (10 * (v : Int) + (PlainAid.bt s k - 48)) = ((10 * v + (b.toNat - 48) : Nat) : Int) by omega)
            have hlo : 0 ≤ PlainAid.bt s k - 48 ∧ PlainAid.bt s k - 48 ≤ 9 := by omega
            clear hdg hbk hbt
            go_wp2
            go_roundw
            case rel => exact ⟨k + 1, 10 * v + (b.toNat - 48), by omega, by go_num, congrArg (Value.int .i64) HEQ.out, HV2, hv2, HD2, trivial⟩
            case measure => simp [intOf]; omega
        · obtain rfl : k = s.size := by omega
          have ht : s.data.toList.take s.size = s.data.toList := List.take_of_length_le (by rw [hlen.out]; exact Nat.le_refl _)
          have e2 := Lib.hid (show numOk s 6 = true by rw [HA.out, ← ht]; exact HD.out)
          have e1 := Lib.hid (l1V_t e2.out)
          have HV3 := Lib.hid (show v = valL s.data.toList by rw [HV.out, ht])
          go_wp2
          go_ret
          rw [e1.out, ← HV3.out]
          exact ⟨rfl, rfl⟩
    · have h4b : (PlainAid.bt s 0 == 48) = false := by simpa using h4
      go_in
      go_wp2_with (first | (go_at_call 45; refine (spec_l1In _ _ _ _).mono ?_; rintro e w' ⟨rfl, rfl⟩))
      go_loopw [3, 4] (fun a i wr => ∃ k v : Nat, k ≤ s.size ∧ i = .int .i64 k ∧ a = .int .i64 v ∧ Hid (v = valL (s.data.toList.take k)) ∧ v ≤ 100000000 ∧ Hid ((s.data.toList.take k).all isDg = true) ∧ w = wr) (fun _ i _ => s.size - (intOf i).toNat)
      case atStart => exact ⟨0, 0, Nat.zero_le _, rfl, rfl, Lib.hid rfl, by decide, Lib.hid rfl, rfl⟩
      case round =>
        obtain ⟨k, v, hk, rfl, rfl, HV, hv, HD, rfl⟩ := hrel
        by_cases hlt : k < s.size
        · obtain ⟨b, hbk⟩ := data_at s hlt
          have hbt := (bt_data hbk).1
          have hdg := dg_of hbk
          rcases hd : isDg b
          · have e2 := Lib.hid (show numOk s 6 = false by rw [HA.out]; exact all_take_no hbk hd)
            have e1 := Lib.hid (l1V_f e2.out)
            rw [hd] at hdg
            by_cases h48 : PlainAid.bt s k < 48
            · clear hdg hbk hbt
              go_wp2
              go_ret
              rw [e1.out]
              exact ⟨rfl, rfl⟩
            · have h57 : 57 < PlainAid.bt s k := by
                rw [decide_eq_false h48] at hdg
                by_cases h : 57 < PlainAid.bt s k
                · exact h
                · rw [decide_eq_false h] at hdg; cases hdg
              clear hdg hbk hbt
              go_wp2
              go_ret
              rw [e1.out]
              exact ⟨rfl, rfl⟩
          · simp only [isDg, Bool.and_eq_true, decide_eq_true_eq] at hd
            have h48 : ¬ PlainAid.bt s k < 48 := by omega
            have h57 : ¬ 57 < PlainAid.bt s k := by omega
            have hw : IntKind.u8.wrap (PlainAid.bt s k - 48) = PlainAid.bt s k - 48 := by rw [IntKind.wrap_u8]; omega
            have HD2 := Lib.hid (show (s.data.toList.take (k + 1)).all isDg = true by
              rw [take_succ_some hbk, List.all_append, HD.out]; simp [isDg, hd.1, hd.2])
            have HV2 := Lib.hid (show 10 * v + (b.toNat - 48) = valL (s.data.toList.take (k + 1)) by rw [val_step hbk, ← HV.out])
            have hv2 : 10 * v + (b.toNat - 48) ≤ 100000000 := by rw [HV2.out]; exact val_bound hlt HD2.out h8
            have HEQ := Lib.hid (show (10 * (v : Int) + (PlainAid.bt s k - 48)) = ((10 * v + (b.toNat - 48) : Nat) : Int) by omega)
            have hlo : 0 ≤ PlainAid.bt s k - 48 ∧ PlainAid.bt s k - 48 ≤ 9 := by omega
            clear hdg hbk hbt
            go_wp2
            go_roundw
            case rel => exact ⟨k + 1, 10 * v + (b.toNat - 48), by omega, by go_num, congrArg (Value.int .i64) HEQ.out, HV2, hv2, HD2, trivial⟩
            case measure => simp [intOf]; omega
        · obtain rfl : k = s.size := by omega
          have ht : s.data.toList.take s.size = s.data.toList := List.take_of_length_le (by rw [hlen.out]; exact Nat.le_refl _)
          have e2 := Lib.hid (show numOk s 6 = true by rw [HA.out, ← ht]; exact HD.out)
          have e1 := Lib.hid (l1V_t e2.out)
          have HV3 := Lib.hid (show v = valL s.data.toList by rw [HV.out, ht])
          go_wp2
          go_ret
          rw [e1.out, ← HV3.out]
          exact ⟨rfl, rfl⟩
set_option maxRecDepth 100000 in
theorem impl_joined {A : Option Addr} {n c : Nat} {l : List ByteArray} {w : World} (hn : l.length = n) (h : Strs w A l) (hcap : n ≤ c) (hz : n ≤ 1000000) (hj : (jnK l l.length).size ≤ 1000000) :
    Calls Tryz.prog 44 #[.slice A n c, .string { data := #[32] }] w fun e w' => e = .returned (.string (jnK l l.length)) ∧ Below w.heap.size w w' := by
  subst hn
  by_cases h0 : l.length = 0
  · obtain rfl := List.length_eq_zero_iff.1 h0
    show Calls Tryz.prog 44 #[.slice A 0 c, .string { data := #[32] }] w fun e w' => e = .returned (.string { data := #[] }) ∧ Below w.heap.size w w'
    clear h hcap hz hj h0
    go_in
    go_wp2_with fail
    refine (Tryz.strings_Join_none A c { data := #[32] } w).mono ?_; rintro e w' ⟨rfl, rfl⟩
    go_wp2
    go_ret
    exact ⟨rfl, Below.refl _ _⟩
  · obtain ⟨b, o, rfl, hb, hc⟩ := h.cells (by omega)
    have hcells : ∀ (j : Nat) x, l[j]? = some x → w.cell? ⟨b, o + j, none⟩ = some (.string x) := fun j x hx => by simpa using hc j x 0 _ hx rfl
    have HC := Lib.hid hcells
    have HE := Lib.hid (join_jn l)
    have HLn := Lib.hid (join_len l hj)
    clear hc hcells h
    go_in
    go_wp2_with fail
    refine (Tryz.strings_Join b o c l _ _ HC.out hb (by omega) hcap HLn.out).mono ?_; rw [HE.out]; rintro e w' ⟨rfl, hb'⟩
    go_wp2
    go_ret
    exact ⟨rfl, hb'⟩
end Go.Proofs.YtidolgonmimicaaGreatDoor
/- The walks through changes, the program's side. -/
namespace Go.Proofs.YtidolgonmimicaaGreatDoor
set_option linter.unusedVariables false
set_option linter.unusedSimpArgs false
open Go.ChangeShapes Go.WideShapes Go.ChangeAt Go.RowKit Go.Deep
set_option maxRecDepth 100000 in
theorem impl_places {c : ByteArray} {w : World} (hz : c.size ≤ 16777216) :
    Calls Tryz.prog 74 #[.string c] w fun e w' => ∃ A' c', e = .returned (.tuple #[.slice A' (plR c).length c', .bool (validD c)]) ∧
      Owned intE 1 3 w' w.heap.size A' (plR c).length c' (plR c) ∧ Below w.heap.size w w' := by
  have hb := PlainAid.get_bt c
  go_in
  go_wp2
  go_loopw [4, 9] (fun v i wr => ∃ (k : Nat) (A' : Option Addr) (m c' : Nat), k ≤ c.size ∧ i = .int .i64 k ∧ v = .slice A' m c' ∧ m = k ∧ Hid (∀ j, j < k → inB (dg c j) 1 8 = true) ∧ Owned intE 1 3 wr w.heap.size A' m c' ((digs c).take k) ∧ Below w.heap.size w wr) (fun _ i _ => c.size - (intOf i).toNat)
  case atStart => exact ⟨0, _, _, _, Nat.zero_le _, rfl, rfl, rfl, Lib.hid (fun j hj => absurd hj (by omega)), Owned.empty intE_len _ _ (by simp), by (repeat' (first | (with_reducible exact Below.refl _ _) | (with_reducible assumption) | (with_reducible refine below_drewN ?_ _) | (with_reducible refine Below.drew ?_) | (with_reducible refine below_alloc ?_ _) | (with_reducible refine Below.alloc ?_ ?_ _) | (with_reducible refine Below.setCell ?_ ?_ _) | (with_reducible refine below_go ?_ (by with_reducible assumption)) | (with_reducible refine below_then (by with_reducible assumption) ?_ ?_) | go_size))⟩
  case round =>
    obtain ⟨k, A', m, c', hk, rfl, rfl, rfl, HK, ho, hbl⟩ := hrel
    have HO := Lib.hid ho
    have hsz := hbl.size
    clear ho
    by_cases hlt : m < c.size
    · have HT := Lib.hid (digs_take hlt)
      have hn0 := PlainAid.bt_nonneg c m
      have hn1 := PlainAid.bt_le c m
      by_cases h1 : PlainAid.bt c m < 49
      · have e0 := Lib.hid (valid_bad hlt (dg_low h1))
        go_wp2
        go_ret2
        rw [plR_f e0.out, e0.out]
        exact ⟨none, 0, rfl, Owned.nil intE_len _ _ _, hbl⟩
      by_cases h2 : 56 < PlainAid.bt c m
      · have e0 := Lib.hid (valid_bad hlt (dg_high h2))
        go_wp2
        go_ret2
        rw [plR_f e0.out, e0.out]
        exact ⟨none, 0, rfl, Owned.nil intE_len _ _ _, hbl⟩
      have hw2 := wrap_dg c m
      have e1 := Lib.hid (dg_mid h1 h2)
      have hdg : PlainAid.bt c m - 48 = dg c m := rfl
      go_wp2_with (first | (at_builtin; go_must ((refine wpList_append_rec Tryz.elInt rfl (.tmp 22) (.tmp 28) rfl rfl (HO.out.alloc _) (dg c m) rfl (Box.at_ _ [.int .i64 (dg c m)] _ ?_) (intE_one _) ?_ (by decide) ?_ ?_; (focus (first | omega | (simp only [World.size_alloc]; done) | (simp only [World.size_alloc]; omega) | (simp; done) | (simp; omega))); (focus (first | omega | (simp only [World.size_alloc]; done) | (simp only [World.size_alloc]; omega) | (simp; done) | (simp; omega))); (focus (first | omega | (simp only [World.size_alloc]; done) | (simp only [World.size_alloc]; omega) | (simp; done) | (simp; omega))); intro A2 c2 w2 ho2 hg2 hb2))))
      go_roundw
      case rel =>
        exact ⟨m + 1, A2, m + 1, c2, by omega, by go_num, by go_num, rfl, Lib.hid (fun j hj => by rcases Nat.lt_succ_iff_lt_or_eq.1 hj with h | rfl; exact HK.out j h; exact e1.out), by rw [HT.out]; exact ho2, (hbl.alloc hsz _).trans hb2⟩
      case measure => simp [intOf]; omega
    · obtain rfl : m = c.size := by omega
      have e0 := Lib.hid (valid_good (fun j hj => HK.out j hj))
      have e1 := Lib.hid (show plR c = (digs c).take c.size by rw [plR_t e0.out, List.take_of_length_le (by rw [digs_len]; omega)])
      have hl := HO.out.len
      rw [← e1.out] at hl
      go_wp2
      go_ret2
      rw [e0.out, hl]
      refine ⟨_, _, rfl, ?_, hbl⟩
      rw [e1.out]; exact HO.out
theorem arePl_0 {n : Int} {l : List Int} (h : ¬ 0 < l.length) : arePl n l = false := by simp [arePl, h]
theorem arePl_n {n : Int} {l : List Int} (h : ((l.length : Int) == n) = true) : arePl n l = false := by simp [arePl, h]
theorem arePl_first {n x : Int} {l : List Int} (hx : l[0]? = some x) (h : (x % 2 == 0) = true) : arePl n l = false := by simp [arePl, List.getD, hx, h]
theorem arePl_par {n y : Int} {l : List Int} (hy : l[l.length - 1]? = some y) (h : (y % 2 == n % 2) = false) : arePl n l = false := by simp [arePl, List.getD, hy, h]
theorem arePl_big {n y : Int} {l : List Int} (hy : l[l.length - 1]? = some y) (h : n < y) : arePl n l = false := by
  have : decide (y ≤ n) = false := by simp; omega
  simp [arePl, List.getD, hy, this]
theorem arePl_adj {n x y : Int} {l : List Int} (h0 : 0 < l.length) (hn : ((l.length : Int) == n) = false) (hx : l[0]? = some x) (hx1 : (x % 2 == 0) = false) (hy : l[l.length - 1]? = some y) (hy1 : (y % 2 == n % 2) = true) (hy2 : ¬ n < y) :
    arePl n l = adj x (l.drop 1) := by
  have : decide (y ≤ n) = true := by simp; omega
  simp only [arePl, List.getD, hx, hy, Option.getD_some, h0, hn, hx1, hy1, this, decide_true, Bool.not_false, Bool.true_and]
set_option maxRecDepth 100000 in
theorem impl_arePlaces {A : Option Addr} {N c : Nat} {l : List Int} {n : Int} {w : World} (hN : l.length = N) (h : Ints w A l) (hz : N ≤ 16777216) (hn : 3 ≤ n ∧ n ≤ 8) (ha : ∀ x ∈ l, 1 ≤ x ∧ x ≤ 8) :
    Calls Tryz.prog 75 #[.int .i64 n, .slice A N c] w fun e w' => e = .returned (.bool (arePl n l)) ∧ Below w.heap.size w w' := by
  subst hN
  by_cases h0 : 0 < l.length
  · obtain ⟨b, o, x, rfl, hbb, hx, hc⟩ := h.at_int h0
    obtain ⟨b', o', y, hA, hbb', hy, hc'⟩ := h.at_int (k := l.length - 1) (by omega)
    injection hA with hA
    injection hA with e1 e2
    subst e1 e2
    have hx8 := ha x (List.mem_of_getElem? hx)
    have hy8 := ha y (List.mem_of_getElem? hy)
    simp only [Nat.add_zero] at hc
    have hz0 : ((l.length : Int) == 0) = false := beq_eq_false_iff_ne.2 (by omega)
    have hpred : ((l.length : Int) - 1) = ((l.length - 1 : Nat) : Int) := by omega
    rcases h1 : ((l.length : Int) == n)
    · rcases h2 : (x % 2 == 0)
      · rcases h3 : (y % 2 == n % 2)
        · have e0 := Lib.hid (arePl_par (n := n) hy h3)
          have h3' : (y % 2 != n % 2) = true := by rw [bne, h3]; rfl
          clear hx hy h
          go_in
          go_wp2
          go_ret
          exact ⟨ret_bool e0.out.symm, Below.refl _ _⟩
        · have h3' : (y % 2 != n % 2) = false := by rw [bne, h3]; rfl
          by_cases h4 : n < y
          · have e0 := Lib.hid (arePl_big (n := n) hy h4)
            clear hx hy h
            go_in
            go_wp2
            go_ret
            exact ⟨ret_bool e0.out.symm, Below.refl _ _⟩
          · have e0 := Lib.hid (arePl_adj h0 h1 hx h2 hy h3 h4)
            have HX := Lib.hid hx
            clear hx hy
            go_in
            go_wp2
            go_loopw [5] (fun i wr => ∃ (k : Nat) (q : Int), 0 < k ∧ k ≤ l.length ∧ i = .int .i64 k ∧ Hid (l[k - 1]? = some q ∧ arePl n l = adj q (l.drop k)) ∧ Below w.heap.size w wr) (fun i _ => l.length - (intOf i).toNat)
            case atStart => exact ⟨1, x, by omega, by omega, rfl, Lib.hid ⟨HX.out, e0.out⟩, Below.refl _ _⟩
            case round =>
              obtain ⟨k, q, hk0, hk, rfl, HK, hb⟩ := hrel
              by_cases hlt : k < l.length
              · obtain ⟨b3, o3, y3, hA3, hbb3, hy3, hc3⟩ := (h.below hb (Nat.le_refl _)).at_int hlt
                obtain ⟨b4, o4, y4, hA4, hbb4, hy4, hc4⟩ := (h.below hb (Nat.le_refl _)).at_int (k := k - 1) (by omega)
                injection hA3 with hA3
                injection hA3 with e3 e4
                injection hA4 with hA4
                injection hA4 with e5 e6
                subst e3 e4 e5 e6
                rw [HK.out.1] at hy4
                injection hy4 with hy4
                subst hy4
                have HD := Lib.hid (show l.drop k = y3 :: l.drop (k + 1) by rw [List.drop_eq_getElem_cons hlt]; congr 1; rw [List.getElem?_eq_getElem hlt] at hy3; injection hy3)
                have HY := Lib.hid hy3
                have hq8 := ha q (List.mem_of_getElem? HK.out.1)
                have hy38 := ha y3 (List.mem_of_getElem? hy3)
                clear hy3 hpred hz0 h1 h2 h3 h3' h4 hx8 hy8 hc hc' h
                have hwk : IntKind.i64.wrap ((k : Int) - 1) = ((k - 1 : Nat) : Int) := by
                  rw [PlainAid.i64_is]; unfold wrap64; omega
                have hlt1 : k - 1 < l.length := by omega
                by_cases h5 : q < y3
                · have hmod : (IntKind.i64.wrap (y3 - q)).tmod 2 = (y3 - q) % 2 := by
                    rw [PlainAid.i64_is, show wrap64 (y3 - q) = y3 - q by unfold wrap64; omega]
                    exact Int.tmod_eq_emod_of_nonneg (by omega)
                  rcases h6 : ((y3 - q) % 2 == 0)
                  · have e1 := Lib.hid (show arePl n l = adj y3 (l.drop (k + 1)) by rw [HK.out.2, HD.out, adj, h6, decide_eq_true h5]; rfl)
                    go_wp2
                    go_quiet (fail)
                    go_wp2
                    go_roundw
                    case rel => exact ⟨k + 1, y3, by omega, by omega, by go_num, Lib.hid ⟨by rw [Nat.add_sub_cancel]; exact HY.out, e1.out⟩, by (repeat' (first | (with_reducible exact Below.refl _ _) | (with_reducible assumption) | (with_reducible refine below_drewN ?_ _) | (with_reducible refine Below.drew ?_) | (with_reducible refine below_alloc ?_ _) | (with_reducible refine Below.alloc ?_ ?_ _) | (with_reducible refine Below.setCell ?_ ?_ _) | (with_reducible refine below_go ?_ (by with_reducible assumption)) | (with_reducible refine below_then (by with_reducible assumption) ?_ ?_) | go_size))⟩
                    case measure => simp [intOf]; omega
                  · have e1 := Lib.hid (show arePl n l = false by rw [HK.out.2, HD.out, adj, h6, decide_eq_true h5]; rfl)
                    go_wp2
                    go_quiet (fail)
                    go_wp2
                    go_ret
                    exact ⟨ret_bool e1.out.symm, by (repeat' (first | (with_reducible exact Below.refl _ _) | (with_reducible assumption) | (with_reducible refine below_drewN ?_ _) | (with_reducible refine Below.drew ?_) | (with_reducible refine below_alloc ?_ _) | (with_reducible refine Below.alloc ?_ ?_ _) | (with_reducible refine Below.setCell ?_ ?_ _) | (with_reducible refine below_go ?_ (by with_reducible assumption)) | (with_reducible refine below_then (by with_reducible assumption) ?_ ?_) | go_size))⟩
                · have e1 := Lib.hid (show arePl n l = false by rw [HK.out.2, HD.out, adj, decide_eq_false h5]; rfl)
                  go_wp2
                  go_quiet (fail)
                  go_wp2
                  go_ret
                  exact ⟨ret_bool e1.out.symm, by (repeat' (first | (with_reducible exact Below.refl _ _) | (with_reducible assumption) | (with_reducible refine below_drewN ?_ _) | (with_reducible refine Below.drew ?_) | (with_reducible refine below_alloc ?_ _) | (with_reducible refine Below.alloc ?_ ?_ _) | (with_reducible refine Below.setCell ?_ ?_ _) | (with_reducible refine below_go ?_ (by with_reducible assumption)) | (with_reducible refine below_then (by with_reducible assumption) ?_ ?_) | go_size))⟩
              · obtain rfl : k = l.length := by omega
                have e1 := Lib.hid (show arePl n l = true by rw [HK.out.2, List.drop_eq_nil_of_le (Nat.le_refl _)]; rfl)
                go_wp2
                go_ret
                exact ⟨ret_bool e1.out.symm, hb⟩
      · have e0 := Lib.hid (arePl_first (n := n) hx h2)
        clear hx hy h
        go_in
        go_wp2
        go_ret
        exact ⟨ret_bool e0.out.symm, Below.refl _ _⟩
    · have e0 := Lib.hid (arePl_n h1)
      clear hx hy h
      go_in
      go_wp2
      go_ret
      exact ⟨ret_bool e0.out.symm, Below.refl _ _⟩
  · have e0 := Lib.hid (arePl_0 (n := n) h0)
    have h1 : l.length = 0 := by omega
    rw [h1]
    clear h h0 h1
    go_in
    go_wp2
    go_ret
    exact ⟨ret_bool e0.out.symm, Below.refl _ _⟩
set_option maxRecDepth 100000 in
theorem impl_GoodChange {c : ByteArray} {n : Int} {w : World} (hz : c.size ≤ 16777216) :
    Calls Tryz.prog 54 #[.int .i64 n, .string c] w fun e w' => e = .returned (.bool (goodChange n c)) ∧ Below w.heap.size w w' := by
  rcases h1 : inB n 3 8
  · have e0 := Lib.hid (goodChange_stage (c := c) h1)
    go_in
    go_wp2_with (first | (go_at_call 73; refine (impl_isStage _ _).mono ?_; rintro e w' ⟨rfl, rfl⟩))
    go_ret
    exact ⟨ret_bool e0.out.symm, Below.refl _ _⟩
  have hn3 := inB_t h1
  rcases h6 : isDash c
  · have e0 := Lib.hid (good_impl hn3 h6)
    have h7 : (c.toList == [45]) = false := h6
    rcases hv : validD c
    · have e1 := Lib.hid (show goodChange n c = false by rw [e0.out, hv]; rfl)
      go_in
      go_wp2_with (first | (go_at_call 73; refine (impl_isStage _ _).mono ?_; rintro e w' ⟨rfl, rfl⟩) | (go_at_call 74; refine (impl_places hz).mono ?_; rintro e w1 ⟨A1, c1, rfl, ho1, hb1⟩; have hz1 : (plR c).length ≤ 16777216 := by (rw [plR_f hv]; decide)))
      go_ret
      exact ⟨ret_bool e1.out.symm, hb1⟩
    · have hva := valid_at hv
      have hpl := plR_t hv
      have hz1 : (plR c).length ≤ 16777216 := by rw [hpl, digs_len]; exact hz
      rw [← hpl] at hva
      have e1 := Lib.hid (show goodChange n c = arePl n (plR c) by rw [e0.out, hv, hpl]; rfl)
      clear hpl
      go_in
      go_wp2_with (first | (go_at_call 73; refine (impl_isStage _ _).mono ?_; rintro e w' ⟨rfl, rfl⟩) | (go_at_call 74; refine (impl_places hz).mono ?_; rintro e w1 ⟨A1, c1, rfl, ho1, hb1⟩) | (go_at_call 75; refine (impl_arePlaces rfl ho1.recs hz1 hn3 hva).mono ?_; rintro e w2 ⟨rfl, hb2⟩))
      go_ret
      exact ⟨ret_bool e1.out.symm, below_go hb1 hb2⟩
  · have e0 := Lib.hid (goodChange_dash h1 (dash_size hn3.1 h6) h6)
    have h7 : (c.toList == [45]) = true := h6
    go_in
    go_wp2_with (first | (go_at_call 73; refine (impl_isStage _ _).mono ?_; rintro e w' ⟨rfl, rfl⟩))
    go_ret
    exact ⟨ret_bool e0.out.symm, Below.refl _ _⟩
end Go.Proofs.YtidolgonmimicaaGreatDoor
/- The walks through rows: good rows, even rows. -/
namespace Go.Proofs.YtidolgonmimicaaGreatDoor
set_option linter.unusedVariables false
set_option linter.unusedSimpArgs false
open Go.ChangeShapes Go.WideShapes Go.ChangeAt Go.RowKit Go.Deep
end Go.Proofs.YtidolgonmimicaaGreatDoor
/- GoodRow of the program: the bits. -/
namespace Go.Proofs.YtidolgonmimicaaGreatDoor
set_option linter.unusedVariables false
set_option linter.unusedSimpArgs false
open Go.ChangeShapes Go.WideShapes Go.ChangeAt Go.RowKit Go.Deep
end Go.Proofs.YtidolgonmimicaaGreatDoor
/- The walks through lists of rows: which are good, their signs. -/
namespace Go.Proofs.YtidolgonmimicaaGreatDoor
set_option linter.unusedVariables false
set_option linter.unusedSimpArgs false
open Go.ChangeShapes Go.WideShapes Go.ChangeAt Go.RowKit Go.Deep
end Go.Proofs.YtidolgonmimicaaGreatDoor
/- The walks through good methods and good calls, both sides. -/
namespace Go.Proofs.YtidolgonmimicaaGreatDoor
set_option linter.unusedVariables false
set_option linter.unusedSimpArgs false
open Go.ChangeShapes Go.WideShapes Go.ChangeAt Go.RowKit Go.Deep
theorem lowB_eq (s : ByteArray) (k : Nat) : lowB s k = (!decide (PlainAid.bt s k < 97) && !decide (122 < PlainAid.bt s k)) := by
  rw [lowB, inB, Bool.eq_iff_iff]
  simp
set_option maxRecDepth 100000 in
theorem impl_isWord {s : ByteArray} {w : World} (hz : s.size ≤ 16777216) :
    Calls Tryz.prog 71 #[.string s] w fun e w' => e = .returned (.bool (nameOk s)) ∧ w = w' := by
  have gb := PlainAid.get_bt s
  have HN : Hid (nameOk s = ((List.range s.size).all (lowB s) && inB s.size 1 10)) := Lib.hid rfl
  go_in
  go_wp2
  go_loopw [6] (fun i wr => ∃ k : Nat, k ≤ s.size ∧ i = .int .i64 k ∧ Hid (∀ j, j < k → lowB s j = true) ∧ w = wr) (fun i _ => s.size - (intOf i).toNat)
  case atStart => exact ⟨0, Nat.zero_le _, rfl, Lib.hid (fun j hj => absurd hj (by omega)), rfl⟩
  case round =>
    obtain ⟨k, hk, rfl, HK, rfl⟩ := hrel
    by_cases hlt : k < s.size
    · by_cases h1 : PlainAid.bt s k < 97
      · have e1 := Lib.hid (show nameOk s = false by rw [HN.out]; exact all_bad hlt (by rw [lowB_eq, decide_eq_true h1]; rfl) _)
        go_wp2
        go_ret
        rw [e1.out]
        exact ⟨rfl, rfl⟩
      · by_cases h2 : 122 < PlainAid.bt s k
        · have e1 := Lib.hid (show nameOk s = false by rw [HN.out]; exact all_bad hlt (by rw [lowB_eq, decide_eq_true h2, decide_eq_false h1]; rfl) _)
          go_wp2
          go_ret
          rw [e1.out]
          exact ⟨rfl, rfl⟩
        · have e1 := Lib.hid (show lowB s k = true by rw [lowB_eq, decide_eq_false h2, decide_eq_false h1]; rfl)
          go_wp2
          go_roundw
          case rel => exact ⟨k + 1, by omega, by go_num, Lib.hid (upto_succ HK.out e1.out), trivial⟩
          case measure => simp [intOf]; omega
    · obtain rfl : k = s.size := by omega
      have e1 := Lib.hid (show nameOk s = inB s.size 1 10 by rw [HN.out]; exact all_good (fun j hj => HK.out j hj) _)
      by_cases h1 : 1 ≤ s.size
      · go_wp2
        go_ret
        refine ⟨ret_bool ?_, rfl⟩
        rw [e1.out, inB]
        exact decide_eq_decide.2 (by omega)
      · have hI : ¬ (1 : Int) ≤ (s.size : Int) := by omega
        go_wp2
        go_ret
        refine ⟨ret_bool ?_, rfl⟩
        rw [e1.out, inB, decide_eq_false (by omega)]
set_option maxRecDepth 100000 in
theorem spec_l4Name {s : ByteArray} {w : World} (hz : s.size ≤ 16777216) :
    Calls Tryz.prog 65 #[.string s] w fun e w' => e = .returned (.bool (nameOk s)) ∧ w = w' := by
  have gb := PlainAid.get_bt s
  have HN : Hid (nameOk s = ((List.range s.size).all (lowB s) && inB s.size 1 10)) := Lib.hid rfl
  go_in
  go_wp2
  go_loopw [3] (fun i wr => ∃ k : Nat, k ≤ s.size ∧ i = .int .i64 k ∧ Hid (∀ j, j < k → lowB s j = true) ∧ w = wr) (fun i _ => s.size - (intOf i).toNat)
  case atStart => exact ⟨0, Nat.zero_le _, rfl, Lib.hid (fun j hj => absurd hj (by omega)), rfl⟩
  case round =>
    obtain ⟨k, hk, rfl, HK, rfl⟩ := hrel
    by_cases hlt : k < s.size
    · by_cases h1 : PlainAid.bt s k < 97
      · have e1 := Lib.hid (show nameOk s = false by rw [HN.out]; exact all_bad hlt (by rw [lowB_eq, decide_eq_true h1]; rfl) _)
        go_wp2
        go_ret
        rw [e1.out]
        exact ⟨rfl, rfl⟩
      · by_cases h2 : 122 < PlainAid.bt s k
        · have e1 := Lib.hid (show nameOk s = false by rw [HN.out]; exact all_bad hlt (by rw [lowB_eq, decide_eq_true h2, decide_eq_false h1]; rfl) _)
          go_wp2
          go_ret
          rw [e1.out]
          exact ⟨rfl, rfl⟩
        · have e1 := Lib.hid (show lowB s k = true by rw [lowB_eq, decide_eq_false h2, decide_eq_false h1]; rfl)
          go_wp2
          go_roundw
          case rel => exact ⟨k + 1, by omega, by go_num, Lib.hid (upto_succ HK.out e1.out), trivial⟩
          case measure => simp [intOf]; omega
    · obtain rfl : k = s.size := by omega
      have e1 := Lib.hid (show nameOk s = inB s.size 1 10 by rw [HN.out]; exact all_good (fun j hj => HK.out j hj) _)
      go_wp2_with fail
      refine (spec_l1In _ _ _ _).mono ?_; rintro e w' ⟨rfl, rfl⟩
      go_wp2
      go_ret
      exact ⟨ret_bool e1.out.symm, rfl⟩
set_option maxRecDepth 100000 in
theorem impl_areChanges {A : Option Addr} {N c : Nat} {st : Int} {l : List ByteArray} {w : World} (hN : l.length = N) (h : Strs w A l) (hz : N ≤ 1048576) (hs : ∀ s ∈ l, s.size ≤ 16777216) (hst : I64 st) :
    Calls Tryz.prog 72 #[.int .i64 st, .slice A N c] w fun e w' => e = .returned (.bool (inB l.length 1 40 && allCh st l)) ∧ Below w.heap.size w w' := by
  subst hN
  have HS := Lib.hid hs
  have HQ : Hid (allCh st l = (List.range l.length).all (okCh st l)) := Lib.hid rfl
  clear hs
  rcases hl : inB l.length 1 40
  · by_cases h1 : l.length < 1
    · have hI : (l.length : Int) < 1 := by omega
      go_in
      go_wp2
      go_ret
      exact ⟨rfl, Below.refl _ _⟩
    · have hI : ¬ (l.length : Int) < 1 := by omega
      have hJ : (40 : Int) < (l.length : Int) := by
        rw [inB, decide_eq_false_iff_not] at hl; omega
      go_in
      go_wp2
      go_ret
      exact ⟨rfl, Below.refl _ _⟩
  · have hb := inB_t hl
    have hI : ¬ (l.length : Int) < 1 := by omega
    have hJ : ¬ (40 : Int) < (l.length : Int) := by omega
    go_in
    go_wp2
    go_loopw [17] (fun i wr => ∃ k : Nat, k ≤ l.length ∧ i = .int .i64 k ∧ Hid (∀ j, j < k → okCh st l j = true) ∧ Below w.heap.size w wr) (fun i _ => l.length - (intOf i).toNat)
    case atStart => exact ⟨0, Nat.zero_le _, rfl, Lib.hid (fun j hj => absurd hj (by omega)), Below.refl _ _⟩
    case round =>
      obtain ⟨k, hk, rfl, HK, hb⟩ := hrel
      by_cases hlt : k < l.length
      · obtain ⟨b1, o1, y, rfl, _, hy, hcy⟩ := (h.below hb (Nat.le_refl _)).at_str hlt
        have hys := HS.out y (List.mem_of_getElem? hy)
        have E := Lib.hid (okCh_at (n := st) hy)
        clear hy h
        go_wp2_with fail
        refine (impl_GoodChange hys).mono ?_; rintro e w1 ⟨rfl, hb1⟩
        have hbt := below_go hb hb1
        rcases hg : goodChange st y
        · have e1 := Lib.hid (show allCh st l = false by rw [HQ.out]; exact all_no hlt (by rw [E.out, hg]))
          go_wp2
          go_ret
          rw [e1.out]
          exact ⟨rfl, hbt⟩
        · have e1 := Lib.hid (show okCh st l k = true by rw [E.out, hg])
          go_wp2
          go_roundw
          case rel => exact ⟨k + 1, by omega, by go_num, Lib.hid (upto_succ HK.out e1.out), hbt⟩
          case measure => simp [intOf]; omega
      · obtain rfl : k = l.length := by omega
        have e1 := Lib.hid (show allCh st l = true by rw [HQ.out]; exact all_yes (fun j hj => HK.out j hj))
        go_wp2
        go_ret
        rw [e1.out]
        exact ⟨rfl, hb⟩
theorem impl_GoodMethod {A : Option Addr} {n c : Nat} {nm : ByteArray} {st : Int} {l : List ByteArray} {w : World} (hn : l.length = n) (h : Strs w A l) (hz : n ≤ 1048576) (hs : ∀ s ∈ l, s.size ≤ 16777216) (hnm : nm.size ≤ 16777216) (hst : I64 st) :
    Calls Tryz.prog 53 #[.agg #[.string nm, .int .i64 st, .slice A n c]] w fun e w' => e = .returned (.bool (goodM nm st l)) ∧ Below w.heap.size w w' := by
  subst hn
  have HQ : Hid (goodM nm st l = (nameOk nm && (inB st 3 8 && (inB l.length 1 40 && allCh st l)))) := Lib.hid rfl
  have b0 : Below w.heap.size w (w.alloc (.cells ⟨[.string nm, .int .i64 st, .slice A l.length c]⟩ 25)) := by (repeat' (first | (with_reducible exact Below.refl _ _) | (with_reducible assumption) | (with_reducible refine below_drewN ?_ _) | (with_reducible refine Below.drew ?_) | (with_reducible refine below_alloc ?_ _) | (with_reducible refine Below.alloc ?_ ?_ _) | (with_reducible refine Below.setCell ?_ ?_ _) | (with_reducible refine below_go ?_ (by with_reducible assumption)) | (with_reducible refine below_then (by with_reducible assumption) ?_ ?_) | go_size))
  rcases hN : nameOk nm
  · have e1 := Lib.hid (show goodM nm st l = false by rw [HQ.out, hN]; rfl)
    go_in
    go_wp2_with fail
    refine (impl_isWord hnm).mono ?_; rw [hN]; rintro e w' ⟨rfl, rfl⟩
    go_wp2
    go_ret
    rw [e1.out]
    exact ⟨rfl, b0⟩
  · have e1 := Lib.hid (show goodM nm st l = (inB l.length 1 40 && allCh st l) by
      rw [HQ.out, hN]
      rcases hI : inB st 3 8
      · rcases hl : inB l.length 1 40
        · rfl
        · have := inB_t hl
          have : allCh st l = false := all_no (k := 0) (by omega) (by
            obtain ⟨x, hx⟩ := some_of_lt (l := l) (k := 0) (by omega)
            rw [okCh_at hx]; exact goodChange_stage hI)
          rw [this]; rfl
      · rfl)
    go_in
    go_wp2_with fail
    refine (impl_isWord hnm).mono ?_; rw [hN]; rintro e w' ⟨rfl, rfl⟩
    go_wp2_with fail
    refine (impl_areChanges rfl (h.up b0) hz hs hst).mono ?_; rintro e w1 ⟨rfl, hb1⟩
    go_wp2
    go_ret
    rw [e1.out]
    exact ⟨rfl, below_go b0 hb1⟩
theorem goodM_tail {nm : ByteArray} {st : Int} {l : List ByteArray} (ha : allCh st l = true) : goodM nm st l = (nameOk nm && (inB st 3 8 && inB l.length 1 40)) := by
  rw [goodM, ha, Bool.and_true]
theorem goodM_bad {nm : ByteArray} {st : Int} {l : List ByteArray} (ha : allCh st l = false) : goodM nm st l = false := by
  rw [goodM, ha, Bool.and_false, Bool.and_false, Bool.and_false]
set_option maxHeartbeats 1000000 in
set_option maxRecDepth 100000 in
theorem spec_l4Good {A : Option Addr} {n c : Nat} {nm : ByteArray} {st : Int} {l : List ByteArray} {w : World} (hn : l.length = n) (h : Strs w A l) (hz : n ≤ 1048576) (hs : ∀ s ∈ l, s.size ≤ 16777216) (hnm : nm.size ≤ 16777216) (hst : I64 st) :
    Calls Tryz.prog 36 #[.agg #[.string nm, .int .i64 st, .slice A n c]] w fun e w' => e = .returned (.bool (goodM nm st l)) ∧ Below w.heap.size w w' := by
  subst hn
  have HS := Lib.hid hs
  have HQ : Hid (allCh st l = (List.range l.length).all (okCh st l)) := Lib.hid rfl
  have b0 : Below w.heap.size w (w.alloc (.cells ⟨[.string nm, .int .i64 st, .slice A l.length c]⟩ 25)) := by (repeat' (first | (with_reducible exact Below.refl _ _) | (with_reducible assumption) | (with_reducible refine below_drewN ?_ _) | (with_reducible refine Below.drew ?_) | (with_reducible refine below_alloc ?_ _) | (with_reducible refine Below.alloc ?_ ?_ _) | (with_reducible refine Below.setCell ?_ ?_ _) | (with_reducible refine below_go ?_ (by with_reducible assumption)) | (with_reducible refine below_then (by with_reducible assumption) ?_ ?_) | go_size))
  have K0 := Blk.at_ w 25 [.string nm, .int .i64 st, .slice A l.length c] (b := w.heap.size) rfl
  have h := h.up b0
  clear hs
  go_in
  go_wp2
  obtain ⟨w0, hw0⟩ : ∃ u, u = (w.alloc (.cells #[.string nm, .int .i64 st, .slice A l.length c] 25)) := ⟨_, rfl⟩
  rw [← hw0] at b0 K0 h ⊢
  clear hw0
  have k0 := K0.cell 0; have k1 := K0.cell 1; have k2 := K0.cell 2
  simp only [List.getElem?_cons_zero, List.getElem?_cons_succ] at k0 k1 k2
  go_loopw [8] (fun i wr => ∃ k : Nat, k ≤ l.length ∧ i = .int .i64 k ∧ Hid (∀ j, j < k → okCh st l j = true) ∧ w0 = wr) (fun i _ => l.length - (intOf i).toNat)
  case atStart => exact ⟨0, Nat.zero_le _, rfl, Lib.hid (fun j hj => absurd hj (by omega)), rfl⟩
  case round =>
    obtain ⟨k, hk, rfl, HK, rfl⟩ := hrel
    by_cases hlt : k < l.length
    · obtain ⟨b1, o1, y, rfl, _, hy, hcy⟩ := h.at_str hlt
      have hys := HS.out y (List.mem_of_getElem? hy)
      have E := Lib.hid (okCh_at (n := st) hy)
      clear hy h
      go_wp2_with fail
      refine (spec_l2Change hys hst).mono ?_; rintro e w' ⟨rfl, rfl⟩
      rcases hg : goodChange st y
      · have e1 := Lib.hid (show goodM nm st l = false from goodM_bad (by rw [HQ.out]; exact all_no hlt (by rw [E.out, hg])))
        go_wp2
        go_ret
        rw [e1.out]
        exact ⟨rfl, b0⟩
      · have e1 := Lib.hid (show okCh st l k = true by rw [E.out, hg])
        go_wp2
        go_roundw
        case rel => exact ⟨k + 1, by omega, by go_num, Lib.hid (upto_succ HK.out e1.out), trivial⟩
        case measure => simp [intOf]; omega
    · obtain rfl : k = l.length := by omega
      have e1 := Lib.hid (show goodM nm st l = (nameOk nm && (inB st 3 8 && inB l.length 1 40)) from goodM_tail (by rw [HQ.out]; exact all_yes (fun j hj => HK.out j hj)))
      go_wp2_with fail
      refine (spec_l4Name hnm).mono ?_; rintro e w' ⟨rfl, rfl⟩
      rcases h1 : nameOk nm
      · have e2 := Lib.hid (show goodM nm st l = false by rw [e1.out, h1]; rfl)
        go_wp2
        go_ret
        rw [e2.out]
        exact ⟨rfl, b0⟩
      · go_wp2_with fail
        refine (spec_l1In _ _ _ _).mono ?_; rintro e w' ⟨rfl, rfl⟩
        rcases h2 : inB st 3 8
        · have e2 := Lib.hid (show goodM nm st l = false by rw [e1.out, h1, h2]; rfl)
          go_wp2
          go_ret
          rw [e2.out]
          exact ⟨rfl, b0⟩
        · have e2 := Lib.hid (show goodM nm st l = inB l.length 1 40 by rw [e1.out, h1, h2]; rfl)
          go_wp2_with fail
          refine (spec_l1In _ _ _ _).mono ?_; rintro e w' ⟨rfl, rfl⟩
          go_wp2
          go_ret
          rw [e2.out]
          exact ⟨rfl, b0⟩
set_option maxHeartbeats 1000000 in
theorem impl_GoodCalls {A : Option Addr} {n c : Nat} {nm : ByteArray} {st : Int} {l : List ByteArray} {kb ks : ByteArray} {w : World} (hn : l.length = n) (h : Strs w A l) (hz : n ≤ 1048576) (hs : ∀ s ∈ l, s.size ≤ 16777216) (hnm : nm.size ≤ 16777216) (hst : I64 st) (hkb : kb.size ≤ 16777216) (hks : ks.size ≤ 16777216) :
    Calls Tryz.prog 25 #[.agg #[.string nm, .int .i64 st, .slice A n c], .agg #[.string kb, .string ks]] w fun e w' => e = .returned (.bool (goodK nm st l kb ks)) ∧ Below w.heap.size w w' := by
  have HQ : Hid (goodK nm st l kb ks = (goodM nm st l && (goodChange st kb && goodChange st ks))) := Lib.hid rfl
  have b0 : Below w.heap.size w ((w.alloc (.cells ⟨[.string nm, .int .i64 st, .slice A n c]⟩ 25)).alloc (.cells ⟨[.string kb, .string ks]⟩ 27)) := by (repeat' (first | (with_reducible exact Below.refl _ _) | (with_reducible assumption) | (with_reducible refine below_drewN ?_ _) | (with_reducible refine Below.drew ?_) | (with_reducible refine below_alloc ?_ _) | (with_reducible refine Below.alloc ?_ ?_ _) | (with_reducible refine Below.setCell ?_ ?_ _) | (with_reducible refine below_go ?_ (by with_reducible assumption)) | (with_reducible refine below_then (by with_reducible assumption) ?_ ?_) | go_size))
  have K0 := (Blk.at_ w 25 [.string nm, .int .i64 st, .slice A n c] (b := w.heap.size) rfl).alloc (.cells ⟨[.string kb, .string ks]⟩ 27)
  have K1 := Blk.at_ (w.alloc (.cells ⟨[.string nm, .int .i64 st, .slice A n c]⟩ 25)) 27 [.string kb, .string ks] (b := w.heap.size + 1) (by simp)
  go_in
  go_wp2_with fail
  obtain ⟨w0, hw0⟩ : ∃ u, u = ((w.alloc (.cells #[.string nm, .int .i64 st, .slice A n c] 25)).alloc (.cells #[.string kb, .string ks] 27)) := ⟨_, rfl⟩
  rw [← hw0] at b0 K0 K1 ⊢
  clear hw0
  refine (impl_GoodMethod hn (h.up b0) hz hs hnm hst).mono ?_; rintro e w1 ⟨rfl, hb1⟩
  have hB1 := below_go b0 hb1
  rcases h1 : goodM nm st l
  · have e1 := Lib.hid (show goodK nm st l kb ks = false by rw [HQ.out, h1]; rfl)
    go_wp2
    go_ret
    rw [e1.out]
    exact ⟨rfl, hB1⟩
  have K0 := K0.up hb1; have K1 := K1.up hb1
  have k1 := K0.cell 1; have q0 := K1.cell 0
  simp only [List.getElem?_cons_zero, List.getElem?_cons_succ] at k1 q0
  go_wp2_with fail
  refine (impl_GoodChange hkb).mono ?_; rintro e w2 ⟨rfl, hb2⟩
  have hB2 := below_go hB1 hb2
  rcases h2 : goodChange st kb
  · have e1 := Lib.hid (show goodK nm st l kb ks = false by rw [HQ.out, h1, h2]; rfl)
    go_wp2
    go_ret
    rw [e1.out]
    exact ⟨rfl, hB2⟩
  have K0 := K0.up hb2; have K1 := K1.up hb2
  have k2 := K0.cell 1; have q1 := K1.cell 1
  simp only [List.getElem?_cons_zero, List.getElem?_cons_succ] at k2 q1
  clear k1 q0
  go_wp2_with fail
  refine (impl_GoodChange hks).mono ?_; rintro e w3 ⟨rfl, hb3⟩
  have e1 := Lib.hid (show goodK nm st l kb ks = goodChange st ks by rw [HQ.out, h1, h2]; rfl)
  go_wp2
  go_ret
  rw [e1.out]
  exact ⟨rfl, below_go hB2 hb3⟩
set_option maxHeartbeats 1000000 in
theorem spec_l8Good {A : Option Addr} {n c : Nat} {nm : ByteArray} {st : Int} {l : List ByteArray} {kb ks : ByteArray} {w : World} (hn : l.length = n) (h : Strs w A l) (hz : n ≤ 1048576) (hs : ∀ s ∈ l, s.size ≤ 16777216) (hnm : nm.size ≤ 16777216) (hst : I64 st) (hkb : kb.size ≤ 16777216) (hks : ks.size ≤ 16777216) :
    Calls Tryz.prog 21 #[.agg #[.string nm, .int .i64 st, .slice A n c], .agg #[.string kb, .string ks]] w fun e w' => e = .returned (.bool (goodK nm st l kb ks)) ∧ Below w.heap.size w w' := by
  have HQ : Hid (goodK nm st l kb ks = (goodM nm st l && (goodChange st kb && goodChange st ks))) := Lib.hid rfl
  have b0 : Below w.heap.size w ((w.alloc (.cells ⟨[.string nm, .int .i64 st, .slice A n c]⟩ 25)).alloc (.cells ⟨[.string kb, .string ks]⟩ 27)) := by (repeat' (first | (with_reducible exact Below.refl _ _) | (with_reducible assumption) | (with_reducible refine below_drewN ?_ _) | (with_reducible refine Below.drew ?_) | (with_reducible refine below_alloc ?_ _) | (with_reducible refine Below.alloc ?_ ?_ _) | (with_reducible refine Below.setCell ?_ ?_ _) | (with_reducible refine below_go ?_ (by with_reducible assumption)) | (with_reducible refine below_then (by with_reducible assumption) ?_ ?_) | go_size))
  have K0 := (Blk.at_ w 25 [.string nm, .int .i64 st, .slice A n c] (b := w.heap.size) rfl).alloc (.cells ⟨[.string kb, .string ks]⟩ 27)
  have K1 := Blk.at_ (w.alloc (.cells ⟨[.string nm, .int .i64 st, .slice A n c]⟩ 25)) 27 [.string kb, .string ks] (b := w.heap.size + 1) (by simp)
  go_in
  go_wp2_with fail
  obtain ⟨w0, hw0⟩ : ∃ u, u = ((w.alloc (.cells #[.string nm, .int .i64 st, .slice A n c] 25)).alloc (.cells #[.string kb, .string ks] 27)) := ⟨_, rfl⟩
  rw [← hw0] at b0 K0 K1 ⊢
  clear hw0
  refine (spec_l4Good hn (h.up b0) hz hs hnm hst).mono ?_; rintro e w1 ⟨rfl, hb1⟩
  have hB1 := below_go b0 hb1
  rcases h1 : goodM nm st l
  · have e1 := Lib.hid (show goodK nm st l kb ks = false by rw [HQ.out, h1]; rfl)
    go_wp2
    go_ret
    rw [e1.out]
    exact ⟨rfl, hB1⟩
  have K0 := K0.up hb1; have K1 := K1.up hb1
  have k1 := K0.cell 1; have q0 := K1.cell 0; have q1 := K1.cell 1
  simp only [List.getElem?_cons_zero, List.getElem?_cons_succ] at k1 q0 q1
  go_wp2_with fail
  refine (spec_l2Change hkb hst).mono ?_; rintro e w' ⟨rfl, rfl⟩
  rcases h2 : goodChange st kb
  · have e1 := Lib.hid (show goodK nm st l kb ks = false by rw [HQ.out, h1, h2]; rfl)
    go_wp2
    go_ret
    rw [e1.out]
    exact ⟨rfl, hB1⟩
  go_wp2_with fail
  refine (spec_l2Change hks hst).mono ?_; rintro e w' ⟨rfl, rfl⟩
  have e1 := Lib.hid (show goodK nm st l kb ks = goodChange st ks by rw [HQ.out, h1, h2]; rfl)
  go_wp2
  go_ret
  rw [e1.out]
  exact ⟨rfl, hB1⟩
theorem impl_isCall {s : ByteArray} {w : World} :
    Calls Tryz.prog 58 #[.string s] w fun e w' => e = .returned (.bool (isCl s)) ∧ w = w' := by
  have HQ : Hid (isCl s = (isP s || (isB s || isS s))) := Lib.hid rfl
  rcases h1 : isP s <;> rcases h2 : isB s <;> rcases h3 : isS s
  all_goals
    have e1 := HQ.out
    rw [h1, h2, h3] at e1
    have E1 := Lib.hid e1
    have a1 := Lib.hid h1; have a2 := Lib.hid h2; have a3 := Lib.hid h3
    clear e1 h1 h2 h3
    have g1 : (s.toList == [112]) = _ := a1.out
    have g2 : (s.toList == [98]) = _ := a2.out
    have g3 : (s.toList == [115]) = _ := a3.out
    go_in
    go_wp2
    go_ret
    rw [E1.out]
    exact ⟨rfl, rfl⟩
theorem spec_l8Call {s : ByteArray} {w : World} :
    Calls Tryz.prog 46 #[.string s] w fun e w' => e = .returned (.bool (isCl s)) ∧ w = w' := by
  have HQ : Hid (isCl s = (isP s || (isB s || isS s))) := Lib.hid rfl
  rcases h1 : isP s <;> rcases h2 : isB s <;> rcases h3 : isS s
  all_goals
    have e1 := HQ.out
    rw [h1, h2, h3] at e1
    have E1 := Lib.hid e1
    have a1 := Lib.hid h1; have a2 := Lib.hid h2; have a3 := Lib.hid h3
    clear e1 h1 h2 h3
    have g1 : (s.toList == [112]) = _ := a1.out
    have g2 : (s.toList == [98]) = _ := a2.out
    have g3 : (s.toList == [115]) = _ := a3.out
    go_in
    go_wp2
    go_ret
    rw [E1.out]
    exact ⟨rfl, rfl⟩
end Go.Proofs.YtidolgonmimicaaGreatDoor
