/- Proofs read off a text: what both sides answer; plain. -/
import Derived.Test.YtoheahbkopbmhaaDoorW21n
import Derived.Test.YtoheahbkopbmhaaDoorP20t
namespace Go.Proofs.YtoheahbkopbmhaaDoor
set_option linter.unusedVariables false
set_option linter.unusedSimpArgs false
open Go.ChangeShapes Go.WideShapes Go.ChangeAt Go.RowKit Go.Deep
def lpL (x : Line3) : List UInt8 := x.1.data.toList ++ 32 :: (Lib.decDigits x.2.1.toNat ++ 46 :: Lib.decDigits x.2.2.toNat)
def lpB (x : Line3) : ByteArray := ⟨(lpL x).toArray⟩
theorem lnS_list (x : Line3) : (lnS x).data.toList = lpL x ++ [10] := by
  simp [lnS, lpL, decS]
def bodyL : List Line3 → List UInt8
  | [] => []
  | x :: r => lpL x ++ 10 :: bodyL r
theorem bodyL_snoc (x : Line3) : ∀ r, bodyL (r ++ [x]) = bodyL r ++ (lpL x ++ [10])
  | [] => rfl
  | y :: r => by rw [List.cons_append, bodyL, bodyL, bodyL_snoc x r]; simp
theorem lnK_list (t : ByteArray) (l : List Line3) : ∀ k, k ≤ l.length → (lnK t l k).data.toList = t.data.toList ++ bodyL (l.take k)
  | 0, _ => by rw [lnK_0, List.take_zero]; simp [bodyL]
  | k + 1, h => by
    obtain ⟨x, hx⟩ := some_of_lt (l := l) (k := k) (by omega)
    have e : (lnK t l k ++ lnS x).data.toList = (lnK t l k).data.toList ++ (lnS x).data.toList := by simp
    rw [lnK_succ hx, take_succ_some hx, bodyL_snoc, e, lnK_list t l k (by omega), lnS_list]; simp
/-- The digits of a text. -/
theorem dig_mem {s : ByteArray} (h : digOk s = true) : ∀ b ∈ s.data.toList, isDg b = true := fun b hb => by
  rw [digOk, Bool.and_eq_true, List.all_eq_true] at h
  obtain ⟨k, hk⟩ := List.mem_iff_getElem?.1 hb
  have hks := (bt_data hk).2
  have := h.1 k (List.mem_range.2 hks)
  rw [digB_eq] at this
  rw [dg_of hk]; exact this
theorem dig_ne {s : ByteArray} (h : digOk s = true) : s.data.toList ≠ [] := fun e => by
  rw [digOk, Bool.and_eq_true] at h
  have h2 := inB_t h.2
  have h3 : s.size = s.data.toList.length := rfl
  have h4 : s.size = 0 := by rw [h3, e]; rfl
  omega
theorem dg_no {l : List UInt8} (h : ∀ b ∈ l, isDg b = true) {c : UInt8} (hc : isDg c = false) : c ∉ l := fun hm => by
  have := h c hm; rw [hc] at this; cases this
def hdL (H : List ByteArray) : List UInt8 := Lib.join (H.map (·.data.toList)) [32]
theorem spl_heads : ∀ (x : List UInt8) (r : List (List UInt8)), (∀ y ∈ x :: r, (32 : UInt8) ∉ y) → spl 32 (Lib.join (x :: r) [32]) = x :: r
  | x, [], h => by rw [Lib.join_one, spl_clean _ (h x (List.mem_cons_self ..))]
  | x, y :: r, h => by
    have e : Lib.join (x :: y :: r) [32] = x ++ 32 :: Lib.join (y :: r) [32] := by
      rw [Lib.join_cons, Lib.join_cons, Lib.joinTail, Lib.joinTail, List.map_cons, List.flatten_cons]; simp
    rw [e, spl_app _ _ (h x (List.mem_cons_self ..)), spl_heads y r (fun z hz => h z (List.mem_cons_of_mem _ hz))]
theorem join_no {c : UInt8} (hc : c ≠ 32) : ∀ (l : List (List UInt8)), (∀ y ∈ l, c ∉ y) → c ∉ Lib.join l [32]
  | [], _ => by simp [Lib.join_nil]
  | [x], h => by rw [Lib.join_one]; exact h x (List.mem_cons_self ..)
  | x :: y :: r, h => by
    have e : Lib.join (x :: y :: r) [32] = x ++ 32 :: Lib.join (y :: r) [32] := by
      rw [Lib.join_cons, Lib.join_cons, Lib.joinTail, Lib.joinTail, List.map_cons, List.flatten_cons]; simp
    rw [e, List.mem_append, List.mem_cons]
    rintro (q | q | q)
    · exact h x (List.mem_cons_self ..) q
    · exact hc q
    · exact join_no hc (y :: r) (fun z hz => h z (List.mem_cons_of_mem _ hz)) q
/-- The heads that a first line tells. -/
def hdsOf (b : ByteArray) : List ByteArray := if b.size = 0 then [] else splB 32 b
theorem hds_join {H : List ByteArray} (h : ∀ s ∈ H, digOk s = true) : hdsOf ⟨(hdL H).toArray⟩ = H := by
  rcases H with _ | ⟨x, r⟩
  · rfl
  · have hne : ¬ (⟨(hdL (x :: r)).toArray⟩ : ByteArray).size = 0 := by
      intro e
      have e2 : (hdL (x :: r)).length = 0 := by simpa [ByteArray.size] using e
      rw [hdL, List.map_cons, Lib.join_cons, List.length_append] at e2
      have := dig_ne (h x (List.mem_cons_self ..))
      exact this (List.eq_nil_of_length_eq_zero (by omega))
    rw [hdsOf, if_neg hne, splB]
    show (spl 32 (hdL (x :: r))).map _ = _
    rw [hdL, List.map_cons, spl_heads _ _ (fun y hy => by
      rw [← List.map_cons (f := fun s : ByteArray => s.data.toList)] at hy
      obtain ⟨z, hz, rfl⟩ := List.mem_map.1 hy
      exact dg_no (dig_mem (h z hz)) (by decide)), ← List.map_cons (f := fun s : ByteArray => s.data.toList), List.map_map]
    have : ((fun l : List UInt8 => (⟨l.toArray⟩ : ByteArray)) ∘ fun x : ByteArray => x.data.toList) = id := by
      funext x; apply ByteArray.ext; simp
    rw [this, List.map_id]
theorem lpL_no {x : Line3} (h : goodLn x = true) : (10 : UInt8) ∉ lpL x := by
  rw [goodLn, Bool.and_eq_true] at h
  rw [lpL, List.mem_append, List.mem_cons, List.mem_append, List.mem_cons]
  rintro (q | q | q | q | q)
  · exact dg_no (dig_mem h.1) (by decide) q
  · exact absurd q (by decide)
  · exact dec_no (by decide) q
  · exact absurd q (by decide)
  · exact dec_no (by decide) q
theorem spl_body : ∀ L : List Line3, (∀ x ∈ L, goodLn x = true) → spl 10 (bodyL L) = L.map lpL ++ [[]]
  | [], _ => rfl
  | x :: l, h => by rw [bodyL, spl_app _ _ (lpL_no (h x (List.mem_cons_self ..))), spl_body l (fun y hy => h y (List.mem_cons_of_mem _ hy))]; rfl
/-- A text tells a proof. -/
def hitP (s : ByteArray) (p : List ByteArray × List Line3) : Prop := s.size ≤ 20000 ∧ goodPf p.1 p.2 = true ∧ pfT p.1 p.2 = s
theorem goodPf_t3 {lH : List ByteArray} {lL : List Line3} (h : goodPf lH lL = true) : (∀ s ∈ lH, digOk s = true) ∧ ∀ x ∈ lL, goodLn x = true := by
  rw [goodPf] at h
  simp only [Bool.and_eq_true, decide_eq_true_eq, List.all_eq_true] at h
  exact ⟨h.2.1, h.2.2⟩
theorem hitP_pieces {s : ByteArray} {p : List ByteArray × List Line3} (h : hitP s p) : splB 10 s = ⟨(hdL p.1).toArray⟩ :: (p.2.map lpB ++ [⟨#[]⟩]) := by
  obtain ⟨hH, hL⟩ := goodPf_t3 h.2.1
  have e : s.data.toList = hdL p.1 ++ 10 :: bodyL p.2 := by
    rw [← h.2.2, pfT, lnK_list _ _ _ (Nat.le_refl _), List.take_length]
    have e1 : (jnK p.1 p.1.length ++ ⟨#[10]⟩).data.toList = (jnK p.1 p.1.length).data.toList ++ [10] := by simp
    rw [e1, jnK_join _ _ (Nat.le_refl _), List.take_length, hdL]; simp
  rw [splB, e, spl_app _ _ (by
    rw [hdL]
    exact join_no (by decide) _ (fun y hy => by
      obtain ⟨z, hz, rfl⟩ := List.mem_map.1 hy
      exact dg_no (dig_mem (hH z hz)) (by decide))), spl_body _ hL, List.map_cons, List.map_append, List.map_map]
  rfl
theorem cut_at_byte {c : UInt8} {a b : List UInt8} (hn : c ∉ a) : Lib.cut (a ++ c :: b) [c] = (a, b, true) := by
  have hi : Lib.index (a ++ c :: b) [c] = (a.length : Int) := by
    rw [Lib.index_one]
    have key : ∀ a : List UInt8, c ∉ a → Lib.indexByte (a ++ c :: b) c = (a.length : Int) := by
      intro a
      induction a with
      | nil => intro _; simp [Lib.indexByte]
      | cons y a ih =>
        intro hy
        have h1 : (y == c) = false := by
          rw [beq_eq_false_iff_ne]; exact fun e => hy (by rw [e]; exact List.mem_cons_self ..)
        have h2 := ih (fun e => hy (List.mem_cons_of_mem _ e))
        have h3 : ((a.length : Int) == -1) = false := by rw [beq_eq_false_iff_ne]; omega
        rw [List.cons_append, Lib.indexByte, h1, h2, h3]
        simp
    exact key a hn
  rw [Lib.cut, if_pos (by rw [hi]; omega), hi]
  have e : ((a.length : Int)).toNat = a.length := rfl
  rw [e, List.take_left']
  · have e2 : ([c] : List UInt8).length = 1 := rfl
    rw [e2, List.drop_append]
    simp
  · rfl
theorem num_dec2 {a : Nat} {most : Int} (h : ((Lib.decDigits a).length : Int) ≤ most) : numOk ⟨(Lib.decDigits a).toArray⟩ most = true ∧ numV ⟨(Lib.decDigits a).toArray⟩ most = (a : Int) := by
  have h1 : numOk ⟨(Lib.decDigits a).toArray⟩ most = true := by
    rw [numOk, Bool.and_eq_true]
    exact ⟨decide_eq_true (by simpa [ByteArray.size] using h), dec_canon a⟩
  refine ⟨h1, ?_⟩
  rw [numV_t h1]
  show ((valL (Lib.decDigits a) : Nat) : Int) = _
  rw [dec_val _ _ (Nat.le_refl _)]
theorem dec_len2 {b : Nat} (h : b ≤ 60) : (Lib.decDigits b).length ≤ 2 := by
  have := decS_size 1 b (by omega)
  simpa [decS, ByteArray.size] using this
/-- The line that a text tells, as the program reads it. -/
def pcR (y : ByteArray) : ByteArray := ⟨(Lib.cut y.data.toList [32]).2.1.toArray⟩
def plV (y : ByteArray) : Line3 := (⟨(Lib.cut y.data.toList [32]).1.toArray⟩, numV ⟨(Lib.cut (pcR y).data.toList [46]).1.toArray⟩ 2, numV ⟨(Lib.cut (pcR y).data.toList [46]).2.1.toArray⟩ 2)
def plOk (y : ByteArray) : Bool := ((((Lib.cut y.data.toList [32]).2.2 && (Lib.cut (pcR y).data.toList [46]).2.2) && numOk ⟨(Lib.cut (pcR y).data.toList [46]).1.toArray⟩ 2) && numOk ⟨(Lib.cut (pcR y).data.toList [46]).2.1.toArray⟩ 2)
theorem pl_line {x : Line3} (h : goodLn x = true) : plV (lpB x) = x ∧ plOk (lpB x) = true := by
  obtain ⟨a, b, ea, eb, ha, hb, _⟩ := goodLn_t2 h
  have hr : (32 : UInt8) ∉ x.1.data.toList := by
    rw [goodLn, Bool.and_eq_true] at h
    exact dg_no (dig_mem h.1) (by decide)
  have e1 : Lib.cut (lpB x).data.toList [32] = (x.1.data.toList, Lib.decDigits x.2.1.toNat ++ 46 :: Lib.decDigits x.2.2.toNat, true) := by
    show Lib.cut (lpL x) [32] = _
    rw [lpL, cut_at_byte hr]
  have e2 : (pcR (lpB x)).data.toList = Lib.decDigits x.2.1.toNat ++ 46 :: Lib.decDigits x.2.2.toNat := by
    rw [pcR, e1]
  have e3 : Lib.cut (pcR (lpB x)).data.toList [46] = (Lib.decDigits x.2.1.toNat, Lib.decDigits x.2.2.toNat, true) := by
    rw [e2, cut_at_byte (dec_no (by decide))]
  obtain ⟨x1, x2, x3⟩ := x
  dsimp only at *
  subst ea eb
  have n1 := num_dec2 (a := a) (most := 2) (by have := dec_len2 (b := a) (by omega); omega)
  have n2 := num_dec2 (a := b) (most := 2) (by have := dec_len2 (b := b) (by omega); omega)
  have t1 : ((a : Int)).toNat = a := rfl
  have t2 : ((b : Int)).toNat = b := rfl
  rw [t1, t2] at e3
  refine ⟨?_, ?_⟩
  · rw [plV, e3, e1, n1.2, n2.2]
  · rw [plOk, e3, e1, n1.1, n2.1]; rfl
/-- The same as the reference reads it. -/
def l1V (s : ByteArray) : Int := if numOk s 6 = true then numV s 6 else -1
def lrV (y : ByteArray) : Line3 := match splB 32 y with
  | [r, t] => match splB 46 t with
    | [a, b] => (r, l1V a, l1V b)
    | _ => (⟨#[]⟩, 0, 0)
  | _ => (⟨#[]⟩, 0, 0)
def lrOk (y : ByteArray) : Bool := match splB 32 y with
  | [_, t] => match splB 46 t with
    | [_, _] => true
    | _ => false
  | _ => false
theorem lr_line {x : Line3} (h : goodLn x = true) : lrV (lpB x) = x ∧ lrOk (lpB x) = true := by
  obtain ⟨a, b, ea, eb, ha, hb, _⟩ := goodLn_t2 h
  have hr : (32 : UInt8) ∉ x.1.data.toList := by
    rw [goodLn, Bool.and_eq_true] at h
    exact dg_no (dig_mem h.1) (by decide)
  have e1 : splB 32 (lpB x) = [x.1, ⟨(Lib.decDigits x.2.1.toNat ++ 46 :: Lib.decDigits x.2.2.toNat).toArray⟩] := by
    rw [splB]
    show (spl 32 (lpL x)).map _ = _
    rw [lpL, spl_app _ _ hr, spl_clean _ (by
      rw [List.mem_append, List.mem_cons]
      rintro (q | q | q)
      · exact dec_no (by decide) q
      · exact absurd q (by decide)
      · exact dec_no (by decide) q)]
    rfl
  have e2 : splB 46 ⟨(Lib.decDigits x.2.1.toNat ++ 46 :: Lib.decDigits x.2.2.toNat).toArray⟩ = [⟨(Lib.decDigits x.2.1.toNat).toArray⟩, ⟨(Lib.decDigits x.2.2.toNat).toArray⟩] := by
    rw [splB]
    show (spl 46 (Lib.decDigits x.2.1.toNat ++ 46 :: Lib.decDigits x.2.2.toNat)).map _ = _
    rw [spl_app _ _ (dec_no (by decide)), spl_clean _ (dec_no (by decide))]
    rfl
  obtain ⟨x1, x2, x3⟩ := x
  dsimp only at *
  subst ea eb
  have n1 := num_dec2 (a := a) (most := 6) (by have := dec_len2 (b := a) (by omega); omega)
  have n2 := num_dec2 (a := b) (most := 6) (by have := dec_len2 (b := b) (by omega); omega)
  have t1 : ((a : Int)).toNat = a := rfl
  have t2 : ((b : Int)).toNat = b := rfl
  rw [t1, t2] at e1 e2
  refine ⟨?_, ?_⟩
  · rw [lrV, e1]; simp only []; rw [e2]; simp only [l1V, n1.1, n2.1, n1.2, n2.2, if_true]
  · rw [lrOk, e1]; simp only []; rw [e2]
theorem hit_eq {s p0 z : ByteArray} {qs : List ByteArray} {p : List ByteArray × List Line3} (hp : splB 10 s = p0 :: (qs ++ [z])) (h : hitP s p) :
    z = ⟨#[]⟩ ∧ hdsOf p0 = p.1 ∧ qs.map plV = p.2 ∧ (∀ y ∈ qs, plOk y = true) ∧ qs.map lrV = p.2 ∧ ∀ y ∈ qs, lrOk y = true := by
  have hL := (goodPf_t3 h.2.1).2
  rw [hitP_pieces h] at hp
  injection hp with e1 e2
  obtain ⟨e2, e3⟩ := List.append_inj' e2 rfl
  injection e3 with e3 _
  subst e1 e2
  refine ⟨e3.symm, hds_join (goodPf_t3 h.2.1).1, ?_, ?_, ?_, ?_⟩
  · rw [List.map_map]
    conv => rhs; rw [← List.map_id p.2]
    exact List.map_congr_left fun x hx => (pl_line (hL x hx)).1
  · intro y hy
    obtain ⟨x, hx, rfl⟩ := List.mem_map.1 hy
    exact (pl_line (hL x hx)).2
  · rw [List.map_map]
    conv => rhs; rw [← List.map_id p.2]
    exact List.map_congr_left fun x hx => (lr_line (hL x hx)).1
  · intro y hy
    obtain ⟨x, hx, rfl⟩ := List.mem_map.1 hy
    exact (lr_line (hL x hx)).2
theorem hitP_uniq {s : ByteArray} {p q : List ByteArray × List Line3} (h : hitP s p) (g : hitP s q) : p = q := by
  have e := hit_eq (hitP_pieces g) h
  have e2 := hit_eq (hitP_pieces g) g
  exact Prod.ext (e.2.1.symm.trans e2.2.1) (e.2.2.1.symm.trans e2.2.2.1)
noncomputable def rpR (s : ByteArray) : List ByteArray × List Line3 := by
  classical exact if h : ∃ p, hitP s p then h.choose else ([], [])
noncomputable def rpOk (s : ByteArray) : Bool := by
  classical exact if _h : ∃ p, hitP s p then true else false
theorem rp_yes {s : ByteArray} {p : List ByteArray × List Line3} (h : hitP s p) : rpR s = p ∧ rpOk s = true := by
  have he : ∃ p, hitP s p := ⟨p, h⟩
  exact ⟨by rw [rpR, dif_pos he]; exact hitP_uniq he.choose_spec h, by rw [rpOk, dif_pos he]⟩
theorem rp_no {s : ByteArray} (h : ¬ ∃ p, hitP s p) : rpR s = ([], []) ∧ rpOk s = false := ⟨by rw [rpR, dif_neg h], by rw [rpOk, dif_neg h]⟩
theorem rp_len (s : ByteArray) : (rpR s).1.length ≤ 61 ∧ (rpR s).2.length ≤ 800 := by
  by_cases h : ∃ p, hitP s p
  · obtain ⟨p, hp⟩ := h
    rw [(rp_yes hp).1]
    have := goodPf_t2 hp.2.1
    exact ⟨this.1, this.2.1⟩
  · rw [(rp_no h).1]; simp
end Go.Proofs.YtoheahbkopbmhaaDoor
