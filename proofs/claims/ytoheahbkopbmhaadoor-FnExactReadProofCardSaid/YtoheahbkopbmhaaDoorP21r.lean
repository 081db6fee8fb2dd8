/- Texts cut at a byte; numerals and what they say; the text of strikes read back: plain. -/
import Derived.Test.YtoheahbkopbmhaaDoorP21t
import Derived.Lib.IndexBytes
import Derived.Lib.IndexLaws
import Derived.Lib.Split
import Derived.PlainAid
namespace Go.Proofs.YtoheahbkopbmhaaDoor
set_option linter.unusedVariables false
set_option linter.unusedSimpArgs false
open Go.ChangeShapes Go.WideShapes Go.ChangeAt Go.RowKit Go.Deep
/-- A text cut at each of a byte. -/
def spl (c : UInt8) : List UInt8 → List (List UInt8)
  | [] => [[]]
  | x :: l => if x = c then [] :: spl c l else match spl c l with
    | h :: t => (x :: h) :: t
    | [] => [[x]]
theorem spl_ne (c : UInt8) : ∀ l, spl c l ≠ []
  | [] => by simp [spl]
  | x :: l => by
    rw [spl]
    split
    · simp
    · rcases spl c l with _ | ⟨h, t⟩ <;> simp
theorem spl_app {c : UInt8} (r : List UInt8) : ∀ a : List UInt8, c ∉ a → spl c (a ++ c :: r) = a :: spl c r
  | [], _ => by rw [List.nil_append, spl, if_pos rfl]
  | x :: a, h => by
    have h1 : x ≠ c := fun e => h (by rw [e]; exact List.mem_cons_self ..)
    have h2 : c ∉ a := fun e => h (List.mem_cons_of_mem _ e)
    rw [List.cons_append, spl, if_neg h1, spl_app r a h2]
theorem spl_clean {c : UInt8} : ∀ a : List UInt8, c ∉ a → spl c a = [a]
  | [], _ => rfl
  | x :: a, h => by
    have h1 : x ≠ c := fun e => h (by rw [e]; exact List.mem_cons_self ..)
    have h2 : c ∉ a := fun e => h (List.mem_cons_of_mem _ e)
    rw [spl, if_neg h1, spl_clean a h2]
theorem not_mem_at {c : UInt8} {l : List UInt8} (h : ∀ k : Nat, l[k]? ≠ some c) : c ∉ l := fun hm => by
  obtain ⟨k, hk⟩ := List.getElem?_of_mem hm
  exact h k hk
theorem take_drop_at {c : UInt8} {l : List UInt8} {i : Nat} (h : l[i]? = some c) : l = l.take i ++ c :: l.drop (i + 1) := by
  obtain ⟨hk, e⟩ := List.getElem?_eq_some_iff.1 h
  rw [← e, ← List.drop_eq_getElem_cons hk, List.take_append_drop]
theorem take_clean {c : UInt8} {l : List UInt8} {i : Nat} (h : ∀ k, k < i → l[k]? ≠ some c) : c ∉ l.take i := not_mem_at fun k hk => by
  rw [List.getElem?_take] at hk
  split at hk
  · rename_i hlt
    exact h k hlt hk
  · cases hk
theorem splitK_spl (c : UInt8) : ∀ (n : Nat) (l : List UInt8), l.length ≤ n → Lib.splitK [c] 0 (Lib.count l [c]) l = spl c l ∧ (spl c l).length = Lib.count l [c] + 1
  | 0, l, h => by
    obtain rfl : l = [] := List.length_eq_zero_iff.1 (by omega)
    have : Lib.count [] [c] = 0 := Lib.count_miss (by rw [Lib.index_one]; rfl)
    rw [this]; exact ⟨rfl, rfl⟩
  | n + 1, l, h => by
    rcases Int.lt_or_le (Lib.index l [c]) 0 with h1 | h1
    · have hm : Lib.index l [c] = -1 := by have := Lib.index_ge l [c]; omega
      rw [Lib.count_miss hm]
      rw [Lib.index_one] at hm
      rw [spl_clean l (not_mem_at (Lib.indexByte_none hm))]
      exact ⟨rfl, rfl⟩
    · obtain ⟨i, hi⟩ := Int.eq_ofNat_of_zero_le h1
      have hi' := hi
      rw [Lib.index_one] at hi'
      obtain ⟨h2, h3⟩ := Lib.indexByte_some hi'
      have hil := (List.getElem?_eq_some_iff.1 h2).1
      have e1 := take_drop_at h2
      have e2 : spl c l = l.take i :: spl c (l.drop (i + 1)) := by
        conv => lhs; rw [e1]
        exact spl_app _ _ (take_clean h3)
      have ih := splitK_spl c n (l.drop (i + 1)) (by rw [List.length_drop]; omega)
      have hn : ¬ (Lib.index l [c] == -1) = true := fun e => by have := beq_iff_eq.1 e; omega
      rw [Lib.count_hit (by simp) hi, Nat.add_comm, Lib.splitK, if_neg hn, hi, e2]
      have e3 : ((i : Int)).toNat = i := rfl
      have e4 : ([c] : List UInt8).length = 1 := rfl
      rw [e3, e4, Nat.add_zero, ih.1, List.length_cons, ih.2]
      exact ⟨rfl, by omega⟩
/-- The pieces as texts. -/
def splB (c : UInt8) (s : ByteArray) : List ByteArray := (spl c s.data.toList).map fun l => ⟨l.toArray⟩
theorem splB_lib (c : UInt8) (s : ByteArray) : Lib.splitB ⟨#[c]⟩ 0 (Lib.countB s ⟨#[c]⟩) s = splB c s ∧ (splB c s).length = Lib.countB s ⟨#[c]⟩ + 1 := by
  have h := splitK_spl c s.data.toList.length s.data.toList (Nat.le_refl _)
  have h1 := Lib.splitB_data ⟨#[c]⟩ 0 (Lib.countB s ⟨#[c]⟩) s
  have e : (⟨#[c]⟩ : ByteArray).data.toList = [c] := rfl
  rw [e, show Lib.countB s ⟨#[c]⟩ = Lib.count s.data.toList [c] from rfl, h.1] at h1
  refine ⟨?_, by rw [splB, List.length_map, h.2]⟩
  rw [splB, ← h1, List.map_map]
  have : ((fun l : List UInt8 => (⟨l.toArray⟩ : ByteArray)) ∘ fun x : ByteArray => x.data.toList) = id := by
    funext x; apply ByteArray.ext; simp
  rw [this, List.map_id]
theorem splB_size {c : UInt8} (s : ByteArray) : ∀ x ∈ splB c s, x.size ≤ s.size := by
  have key : ∀ l : List UInt8, ∀ p ∈ spl c l, p.length ≤ l.length := by
    intro l
    induction l with
    | nil => intro p hp; rw [spl, List.mem_singleton] at hp; rw [hp]; exact Nat.le_refl _
    | cons x l ih =>
      intro p hp
      rw [spl] at hp
      split at hp
      · rcases List.mem_cons.1 hp with rfl | hp
        · simp
        · have := ih p hp; rw [List.length_cons]; omega
      · rcases hs : spl c l with _ | ⟨h, t⟩
        · exact absurd hs (spl_ne c l)
        · rw [hs] at hp ih
          rcases List.mem_cons.1 hp with rfl | hp
          · have := ih h (List.mem_cons_self ..); simp only [List.length_cons]; omega
          · have := ih p (List.mem_cons_of_mem _ hp); rw [List.length_cons]; omega
  intro x hx
  rw [splB, List.mem_map] at hx
  obtain ⟨p, hp, rfl⟩ := hx
  have := key _ p hp
  show p.toArray.size ≤ s.data.size
  simpa using this
/-! numerals -/
def isDg (b : UInt8) : Bool := decide (48 ≤ b.toNat) && decide (b.toNat ≤ 57)
def valL (l : List UInt8) : Nat := l.foldl (fun a b => 10 * a + (b.toNat - 48)) 0
theorem valL_snoc (l : List UInt8) (b : UInt8) : valL (l ++ [b]) = 10 * valL l + (b.toNat - 48) := by rw [valL, List.foldl_append]; rfl
theorem valL_lt : ∀ (n : Nat) (l : List UInt8), l.length = n → l.all isDg = true → valL l < 10 ^ n
  | 0, l, h, _ => by obtain rfl := List.length_eq_zero_iff.1 h; decide
  | n + 1, l, h, hd => by
    rcases List.eq_nil_or_concat l with rfl | ⟨r, b, rfl⟩
    · cases h
    · rw [List.concat_eq_append] at h hd ⊢
      rw [List.length_append, List.length_singleton] at h
      rw [List.all_append, Bool.and_eq_true] at hd
      have ih := valL_lt n r (by omega) hd.1
      have hb : isDg b = true := by simpa using hd.2
      simp only [isDg, Bool.and_eq_true, decide_eq_true_eq] at hb
      rw [valL_snoc, Nat.pow_succ]; omega
/-- A number in its one form. -/
def canon (l : List UInt8) : Bool := decide (1 ≤ l.length) && (!(decide (1 < l.length) && decide (l[0]? = some 48)) && l.all isDg)
theorem dec_all : ∀ (k n : Nat), n ≤ k → (Lib.decDigits n).all isDg = true
  | 0, n, h => by
    obtain rfl : n = 0 := by omega
    rw [Lib.decDigits_one (by decide)]; decide
  | k + 1, n, h => by
    have key : ∀ d, d < 10 → isDg (UInt8.ofNat (48 + d)) = true := of_decide_eq_true (by kernel_rfl)
    by_cases h1 : n < 10
    · rw [Lib.decDigits_one h1]; simpa using key n h1
    · rw [Lib.decDigits, dif_neg h1, List.all_append, dec_all k (n / 10) (by omega)]
      simpa using key (n % 10) (by omega)
theorem dec_val : ∀ (k n : Nat), n ≤ k → valL (Lib.decDigits n) = n
  | 0, n, h => by
    obtain rfl : n = 0 := by omega
    rw [Lib.decDigits_one (by decide)]; decide
  | k + 1, n, h => by
    have key : ∀ d, d < 10 → (UInt8.ofNat (48 + d)).toNat - 48 = d := of_decide_eq_true (by kernel_rfl)
    by_cases h1 : n < 10
    · rw [Lib.decDigits_one h1]
      show 10 * 0 + ((UInt8.ofNat (48 + n)).toNat - 48) = n
      rw [key n h1]; omega
    · rw [Lib.decDigits, dif_neg h1, valL_snoc, dec_val k (n / 10) (by omega), key (n % 10) (by omega)]; omega
theorem dec_head : ∀ (k n : Nat), n ≤ k → 1 ≤ n → (Lib.decDigits n)[0]? ≠ some 48
  | 0, n, h, h1 => by omega
  | k + 1, n, h, h1 => by
    have key : ∀ d, d < 10 → 1 ≤ d → UInt8.ofNat (48 + d) ≠ 48 := of_decide_eq_true (by kernel_rfl)
    by_cases h2 : n < 10
    · rw [Lib.decDigits_one h2]; intro e; injection e with e; exact key n h2 h1 e
    · rw [Lib.decDigits, dif_neg h2, List.getElem?_append_left (by rw [Lib.decDigits_length]; have := Lib.nDigits_pos (n / 10); omega)]
      exact dec_head k (n / 10) (by omega) (by omega)
theorem dec_canon (n : Nat) : canon (Lib.decDigits n) = true := by
  have hl : 1 ≤ (Lib.decDigits n).length := by rw [Lib.decDigits_length]; exact Lib.nDigits_pos n
  rw [canon, decide_eq_true hl, dec_all n n (Nat.le_refl _)]
  by_cases h0 : n = 0
  · subst h0; rw [Lib.decDigits_one (by decide)]; decide
  · rw [decide_eq_false (dec_head n n (Nat.le_refl _) (by omega))]; simp
theorem canon_pos : ∀ (k : Nat) (l : List UInt8), l.length ≤ k → l.all isDg = true → 1 ≤ l.length → l[0]? ≠ some 48 → 1 ≤ valL l ∧ Lib.decDigits (valL l) = l
  | 0, l, h, _, h1, _ => by omega
  | k + 1, l, h, hd, h1, h0 => by
    rcases List.eq_nil_or_concat l with rfl | ⟨r, b, rfl⟩
    · cases h1
    · rw [List.concat_eq_append] at h hd h0 ⊢
      rw [List.length_append, List.length_singleton] at h
      rw [List.all_append, Bool.and_eq_true] at hd
      have hb : isDg b = true := by simpa using hd.2
      simp only [isDg, Bool.and_eq_true, decide_eq_true_eq] at hb
      have hbb : UInt8.ofNat (48 + (b.toNat - 48)) = b := by
        rw [show 48 + (b.toNat - 48) = b.toNat by omega]; exact UInt8.ofNat_toNat
      rw [valL_snoc]
      by_cases hr : r = []
      · subst hr
        have hv : valL [] = 0 := rfl
        have hb0 : b.toNat ≠ 48 := fun e => h0 (by
          have : b = 48 := UInt8.toNat_inj.1 (by rw [e]; rfl)
          rw [this]; rfl)
        rw [hv, show 10 * 0 + (b.toNat - 48) = b.toNat - 48 by omega]
        refine ⟨by omega, ?_⟩
        rw [Lib.decDigits_one (by omega), hbb]; rfl
      · have hr1 : 1 ≤ r.length := by
          rcases r with _ | ⟨x, r⟩
          · exact absurd rfl hr
          · simp
        rw [List.getElem?_append_left hr1] at h0
        obtain ⟨i1, i2⟩ := canon_pos k r (by omega) hd.1 hr1 h0
        refine ⟨by omega, ?_⟩
        rw [Lib.decDigits, dif_neg (by omega), show (10 * valL r + (b.toNat - 48)) / 10 = valL r by omega, show (10 * valL r + (b.toNat - 48)) % 10 = b.toNat - 48 by omega, hbb, i2]
theorem canon_dec {l : List UInt8} (h : canon l = true) : Lib.decDigits (valL l) = l := by
  rw [canon] at h
  simp only [Bool.and_eq_true, decide_eq_true_eq, Bool.not_eq_true', Bool.and_eq_false_iff, decide_eq_false_iff_not] at h
  obtain ⟨h1, h2, h3⟩ := h
  by_cases h0 : l[0]? = some 48
  · have hl : l.length = 1 := by
      rcases h2 with h2 | h2
      · omega
      · exact absurd h0 h2
    match l, hl, h0 with
    | [b], _, h0 =>
      simp only [List.getElem?_cons_zero, Option.some.injEq] at h0
      subst h0
      show Lib.decDigits 0 = [48]
      rw [Lib.decDigits_one (by decide)]; rfl
  · exact (canon_pos l.length l (Nat.le_refl _) h3 h1 h0).2
theorem dec_no {n : Nat} {c : UInt8} (hc : isDg c = false) : c ∉ Lib.decDigits n := fun h => by
  have := List.all_eq_true.1 (dec_all n n (Nat.le_refl _)) c h
  rw [hc] at this; cases this
/-! the text of strikes, read -/
def lnT (x : Int × Int) : List UInt8 := Lib.decDigits x.1.toNat ++ 64 :: Lib.decDigits x.2.toNat
def stL : List (Int × Int) → List UInt8
  | [] => []
  | x :: r => lnT x ++ 10 :: stL r
theorem stL_snoc (x : Int × Int) : ∀ r, stL (r ++ [x]) = stL r ++ (lnT x ++ [10])
  | [] => rfl
  | y :: r => by rw [List.cons_append, stL, stL, stL_snoc x r]; simp
theorem sxS_list (x : Int × Int) : (sxS x).data.toList = lnT x ++ [10] := by
  simp [sxS, lnT, decS]
theorem stK_list (l : List (Int × Int)) : ∀ k, k ≤ l.length → (stK l k).data.toList = stL (l.take k)
  | 0, _ => rfl
  | k + 1, h => by
    obtain ⟨x, hx⟩ := some_of_lt (l := l) (k := k) (by omega)
    rw [stK_succ hx, take_succ_some hx, stL_snoc, ← stK_list l k (by omega), ← sxS_list]; simp
theorem lnT_no {x : Int × Int} : (10 : UInt8) ∉ lnT x := fun h => by
  rw [lnT, List.mem_append] at h
  rcases h with h | h
  · exact dec_no (by decide) h
  · rcases List.mem_cons.1 h with h | h
    · exact absurd h (by decide)
    · exact dec_no (by decide) h
theorem spl_text : ∀ l : List (Int × Int), spl 10 (stL l) = l.map lnT ++ [[]]
  | [] => rfl
  | x :: l => by rw [stL, spl_app _ _ lnT_no, spl_text l]; rfl
theorem spl_line (x : Int × Int) : spl 64 (lnT x) = [Lib.decDigits x.1.toNat, Lib.decDigits x.2.toNat] := by
  rw [lnT, spl_app _ _ (dec_no (by decide)), spl_clean _ (dec_no (by decide))]
/-- Pieces joined again. -/
def jnL : List (List UInt8) → List UInt8
  | [] => []
  | p :: ps => p ++ 10 :: jnL ps
theorem spl_join : ∀ (l : List UInt8), ∃ ps z, spl 10 l = ps ++ [z] ∧ l = jnL ps ++ z
  | [] => ⟨[], [], rfl, rfl⟩
  | x :: l => by
    obtain ⟨ps, z, h1, h2⟩ := spl_join l
    rw [spl]
    by_cases hx : x = 10
    · rw [if_pos hx]
      exact ⟨[] :: ps, z, by rw [h1]; rfl, by rw [jnL, List.nil_append, List.cons_append, ← h2, hx]⟩
    · rw [if_neg hx, h1]
      rcases ps with _ | ⟨p, ps⟩
      · exact ⟨[], x :: z, rfl, by rw [h2]; rfl⟩
      · exact ⟨(x :: p) :: ps, z, rfl, by rw [h2]; rfl⟩
theorem jnL_text : ∀ (ps : List (List UInt8)) (l : List (Int × Int)), ps = l.map lnT → jnL ps = stL l
  | _, [], rfl => rfl
  | _, x :: l, rfl => by rw [List.map_cons, jnL, stL, jnL_text _ l rfl]
end Go.Proofs.YtoheahbkopbmhaaDoor
