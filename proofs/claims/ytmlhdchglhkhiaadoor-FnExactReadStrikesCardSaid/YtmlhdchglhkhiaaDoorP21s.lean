/- Strikes read off a text: what both sides answer; plain. -/
import Derived.Test.YtmlhdchglhkhiaaDoorW21n
namespace Go.Proofs.YtmlhdchglhkhiaaDoor
set_option linter.unusedVariables false
set_option linter.unusedSimpArgs false
open Go.ChangeShapes Go.WideShapes Go.ChangeAt Go.RowKit Go.Deep
def hitS (s : ByteArray) (l : List (Int × Int)) : Prop := goodStrikes l = true ∧ stK l l.length = s
theorem hit_list {s : ByteArray} {l : List (Int × Int)} (h : hitS s l) : s.data.toList = stL l := by
  have := stK_list l l.length (Nat.le_refl _)
  rw [List.take_length] at this
  rw [← h.2, this]
theorem lnT_inj {x y : Int × Int} (hx : 0 ≤ x.1 ∧ 0 ≤ x.2) (hy : 0 ≤ y.1 ∧ 0 ≤ y.2) (h : lnT x = lnT y) : x = y := by
  have h1 := spl_line x
  rw [h, spl_line] at h1
  injection h1 with h1 h2
  injection h2 with h2 _
  have e1 := congrArg valL h1
  have e2 := congrArg valL h2
  rw [dec_val _ _ (Nat.le_refl _), dec_val _ _ (Nat.le_refl _)] at e1 e2
  exact Prod.ext (by omega) (by omega)
theorem map_lnT_inj : ∀ {l m : List (Int × Int)}, (∀ x ∈ l, 0 ≤ x.1 ∧ 0 ≤ x.2) → (∀ x ∈ m, 0 ≤ x.1 ∧ 0 ≤ x.2) → l.map lnT = m.map lnT → l = m
  | [], [], _, _, _ => rfl
  | [], y :: m, _, _, h => by cases h
  | x :: l, [], _, _, h => by cases h
  | x :: l, y :: m, hl, hm, h => by
    rw [List.map_cons, List.map_cons] at h
    injection h with h1 h2
    rw [lnT_inj (hl x (List.mem_cons_self ..)) (hm y (List.mem_cons_self ..)) h1, map_lnT_inj (fun z hz => hl z (List.mem_cons_of_mem _ hz)) (fun z hz => hm z (List.mem_cons_of_mem _ hz)) h2]
theorem hit_uniq {s : ByteArray} {l m : List (Int × Int)} (h : hitS s l) (g : hitS s m) : l = m := by
  have h1 := spl_text l
  rw [← hit_list h, hit_list g, spl_text] at h1
  have h2 := List.append_cancel_right h1
  exact map_lnT_inj (fun x hx => by have := (goodStrikes_t h.1).2 x hx; omega) (fun x hx => by have := (goodStrikes_t g.1).2 x hx; omega) h2.symm
noncomputable def rsR (s : ByteArray) : List (Int × Int) := by
  classical exact if h : ∃ l, hitS s l then h.choose else []
noncomputable def rsOk (s : ByteArray) : Bool := by
  classical exact if _h : ∃ l, hitS s l then true else false
theorem rs_yes {s : ByteArray} {l : List (Int × Int)} (h : hitS s l) : rsR s = l ∧ rsOk s = true := by
  have he : ∃ l, hitS s l := ⟨l, h⟩
  exact ⟨by rw [rsR, dif_pos he]; exact hit_uniq he.choose_spec h, by rw [rsOk, dif_pos he]⟩
theorem rs_no {s : ByteArray} (h : ¬ ∃ l, hitS s l) : rsR s = [] ∧ rsOk s = false := ⟨by rw [rsR, dif_neg h], by rw [rsOk, dif_neg h]⟩
def lnB (x : Int × Int) : ByteArray := ⟨(lnT x).toArray⟩
theorem hit_pieces {s : ByteArray} {l : List (Int × Int)} (h : hitS s l) : splB 10 s = l.map lnB ++ [⟨#[]⟩] := by
  rw [splB, hit_list h, spl_text, List.map_append, List.map_map]; rfl
/-- What stands ahead of a byte and behind it. -/
theorem cut_line (x : Int × Int) : Lib.cut (lnB x).data.toList (⟨#[64]⟩ : ByteArray).data.toList = (Lib.decDigits x.1.toNat, Lib.decDigits x.2.toNat, true) := by
  have hn : (64 : UInt8) ∉ Lib.decDigits x.1.toNat := dec_no (by decide)
  show Lib.cut (lnT x) [64] = _
  rw [lnT]
  generalize Lib.decDigits x.1.toNat = a at hn ⊢
  generalize Lib.decDigits x.2.toNat = b
  have hi : Lib.index (a ++ 64 :: b) [64] = (a.length : Int) := by
    rw [Lib.index_one]
    have key : ∀ a : List UInt8, (64 : UInt8) ∉ a → Lib.indexByte (a ++ 64 :: b) 64 = (a.length : Int) := by
      intro a
      induction a with
      | nil => intro _; rfl
      | cons y a ih =>
        intro hy
        have h1 : (y == 64) = false := by
          rw [beq_eq_false_iff_ne]; exact fun e => hy (by rw [e]; exact List.mem_cons_self ..)
        have h2 := ih (fun e => hy (List.mem_cons_of_mem _ e))
        have h3 : ((a.length : Int) == -1) = false := by rw [beq_eq_false_iff_ne]; omega
        rw [List.cons_append, Lib.indexByte, h1, h2, h3]
        simp
    exact key a hn
  rw [Lib.cut, if_pos (by rw [hi]; omega), hi]
  have e : ((a.length : Int)).toNat = a.length := rfl
  rw [e, List.take_left']
  · have e2 : ([64] : List UInt8).length = 1 := rfl
    rw [e2, List.drop_append]
    simp
  · rfl
theorem cut_back {y : List UInt8} (h : (Lib.cut y [64]).2.2 = true) : y = (Lib.cut y [64]).1 ++ 64 :: (Lib.cut y [64]).2.1 := by
  rw [Lib.cut] at h ⊢
  split at h
  · rename_i h0
    rw [if_pos h0]
    obtain ⟨i, hi⟩ := Int.eq_ofNat_of_zero_le h0
    have hi' := hi
    rw [Lib.index_one] at hi'
    obtain ⟨h2, _⟩ := Lib.indexByte_some hi'
    rw [hi]
    have e : ((i : Int)).toNat = i := rfl
    have e2 : ([64] : List UInt8).length = 1 := rfl
    rw [e, e2]
    exact take_drop_at h2
  · cases h
/-- Canonical lines joined are the text. -/
theorem text_of_lines {s : ByteArray} {ps : List ByteArray} {z : ByteArray} {L : List (Int × Int)} (hp : splB 10 s = ps ++ [z]) (hz : z.toList.isEmpty = true) (hL : ps.map (·.data.toList) = L.map lnT) (hg : goodStrikes L = true) : hitS s L := by
  obtain ⟨qs, y, h1, h2⟩ := spl_join s.data.toList
  rw [splB, h1, List.map_append, List.map_cons, List.map_nil] at hp
  have hlen := congrArg List.length hp
  simp only [List.length_append, List.length_map, List.length_singleton] at hlen
  obtain ⟨e1, e2⟩ := List.append_inj hp (by simp; omega)
  have hy : y = [] := by
    injection e2 with e2 _
    rw [ByteArray.toList_eq, ← e2] at hz
    simpa using hz
  have hq : qs = L.map lnT := by
    rw [← hL, ← e1, List.map_map]
    conv => lhs; rw [← List.map_id qs]
    congr 1
  refine ⟨hg, ?_⟩
  apply ByteArray.ext
  rw [← Array.toList_inj]
  have := stK_list L L.length (Nat.le_refl _)
  rw [List.take_length] at this
  rw [this, h2, hy, List.append_nil, jnL_text qs L hq]
theorem num_dec {a : Nat} {most : Int} (h : ((Lib.decDigits a).length : Int) ≤ most) : numOk ⟨(Lib.decDigits a).toArray⟩ most = true ∧ numV ⟨(Lib.decDigits a).toArray⟩ most = (a : Int) := by
  have e : (⟨(Lib.decDigits a).toArray⟩ : ByteArray).data.toList = Lib.decDigits a := rfl
  have e2 : (⟨(Lib.decDigits a).toArray⟩ : ByteArray).size = (Lib.decDigits a).length := by simp [ByteArray.size]
  have h1 : numOk ⟨(Lib.decDigits a).toArray⟩ most = true := by
    rw [numOk, e2, decide_eq_true h, e, dec_canon]; rfl
  exact ⟨h1, by rw [numV_t h1, e, dec_val _ _ (Nat.le_refl _)]⟩
theorem l21_dec {a : Nat} (h : (Lib.decDigits a).length ≤ 7) : l21V ⟨(Lib.decDigits a).toArray⟩ = (a : Int) := by
  have e : (⟨(Lib.decDigits a).toArray⟩ : ByteArray).data.toList = Lib.decDigits a := rfl
  have e2 : (⟨(Lib.decDigits a).toArray⟩ : ByteArray).size = (Lib.decDigits a).length := by simp [ByteArray.size]
  have h0 : 1 ≤ (Lib.decDigits a).length := by rw [Lib.decDigits_length]; exact Lib.nDigits_pos a
  have h1 : l21Ok ⟨(Lib.decDigits a).toArray⟩ = true := by
    rw [l21Ok, e2, decide_eq_true ⟨h0, h⟩, e, dec_all _ _ (Nat.le_refl _)]; rfl
  rw [l21V_t h1, e, dec_val _ _ (Nat.le_refl _)]
theorem dec_len1 {a : Nat} (h : a ≤ 9) : (Lib.decDigits a).length = 1 := by rw [Lib.decDigits_one (by omega)]; rfl
theorem dec_len7 {b : Nat} (h : b ≤ 1000000) : (Lib.decDigits b).length ≤ 7 := by
  have := decS_size 6 b (by omega)
  have e2 : (decS b).size = (Lib.decDigits b).length := by simp [decS, ByteArray.size]
  omega
theorem l21_bd (s : ByteArray) : -1 ≤ l21V s ∧ l21V s ≤ 10000000 := by
  rcases h : l21Ok s
  · rw [l21V_f h]; omega
  · rw [l21V_t h]
    rw [l21Ok, Bool.and_eq_true, decide_eq_true_eq] at h
    have h1 := valL_lt s.size s.data.toList rfl h.2
    have h2 : 10 ^ s.size ≤ 10 ^ 7 := Nat.pow_le_pow_right (by decide) h.1.2
    omega
theorem numV_bd {s : ByteArray} {most : Int} (h : numOk s most = true) (hm : most ≤ 7) : 0 ≤ numV s most ∧ numV s most ≤ 10000000 ∧ Lib.decDigits (numV s most).toNat = s.data.toList := by
  rw [numV_t h]
  rw [numOk, Bool.and_eq_true, decide_eq_true_eq] at h
  have hc := h.2
  rw [canon] at hc
  simp only [Bool.and_eq_true] at hc
  have h1 := valL_lt s.size s.data.toList rfl hc.2.2
  have h2 : 10 ^ s.size ≤ 10 ^ 7 := Nat.pow_le_pow_right (by decide) (by omega)
  exact ⟨by omega, by omega, canon_dec h.2⟩
end Go.Proofs.YtmlhdchglhkhiaaDoor
