/- The walk through impl.ReadProof. -/
import Derived.Test.YtoheahbkopbmhaaDoorW20s
import Derived.Test.YtoheahbkopbmhaaDoorW20t
import Derived.Test.YtoheahbkopbmhaaDoorShelfw
namespace Go.Proofs.YtoheahbkopbmhaaDoor
set_option linter.unusedVariables false
set_option linter.unusedSimpArgs false
open Go.ChangeShapes Go.WideShapes Go.ChangeAt Go.RowKit Go.Deep
theorem own_strs (w : World) {base : Nat} (t : TypeId) (l : List ByteArray) (hb : base ≤ w.heap.size) (hl : l.length ≤ maxLen) : Owned strE 1 t (w.alloc (.cells ⟨l.map Value.string⟩ t)) base (some ⟨w.heap.size, 0, none⟩) l.length l.length l := by
  refine ⟨strE_len, rfl, ?_⟩
  have h := World.ownsRow_lit (e := t) (base := base) (size := 1) w ⟨l.map Value.string⟩ l.length hb hl (by simp)
  have e : (⟨l.map Value.string⟩ : Array Value).toList = l.flatMap strE := (flatMap_one Value.string l).symm
  rw [← e]; exact h
theorem lineOne (x : Line3) : ∀ u ∈ lineE x, u.oneCell' = true := fun u hu => by
  simp [lineE] at hu
  rcases hu with rfl | rfl | rfl <;> rfl
theorem bytes_ne {a b : ByteArray} (h : a ≠ b) : (a.toList == b.toList) = false := by
  rw [beq_eq_false_iff_ne, ByteArray.toList_eq, ByteArray.toList_eq]
  exact fun e => h (ByteArray.ext (Array.toList_inj.1 e))
theorem hds_size (b : ByteArray) : (∀ y ∈ hdsOf b, y.size ≤ b.size) ∧ (hdsOf b).length ≤ b.size + 2 := by
  by_cases h : b.size = 0
  · rw [hdsOf, if_pos h]; exact ⟨fun y hy => (by cases hy), Nat.zero_le _⟩
  · rw [hdsOf, if_neg h]; exact ⟨splB_size b, pieces_len⟩
theorem ownNeBlk {α : Type} {e : α → List Value} {s : Nat} {E : TypeId} {w : World} {base : Nat} {A : Option Addr} {n c : Nat} {l : List α} {p : Nat} {t : TypeId} {cs : List Value} (h : Owned e s E w base A n c l) (k : Blk w p t cs) (hE : E ≠ t) : some p ≠ (Value.slice A n c).ownBlock := by
  intro e2
  rcases h.2.2.2 with ⟨hv, _⟩ | ⟨g, cap, cur, hv, _, hh, _⟩
  · rw [hv] at e2; cases e2
  · rw [hv] at e2
    injection e2 with e2
    subst e2
    have k' : w.heap[p]? = some (.cells ⟨cs⟩ t (0, 0)) := k
    rw [hh] at k'
    injection k' with k'
    injection k' with _ k' _
    exact hE k'
theorem ownCap {α : Type} {e : α → List Value} {s : Nat} {E : TypeId} {w : World} {base : Nat} {A : Option Addr} {n c : Nat} {l : List α} (h : Owned e s E w base A n c l) : n ≤ c := by
  rcases h.2.2.2 with ⟨hv, _⟩ | ⟨g, cap, cur, hv, _, _, hnc, _⟩
  · injection hv with _ h1 h2; omega
  · injection hv with _ _ h2; omega
theorem no_Pf {H : List ByteArray} {M : List Line3} {s : ByteArray} (h : ∀ p, hitP s p → H = p.1 ∧ M = p.2) (g : ¬ (goodPf H M = true ∧ pfT H M = s)) : ¬ ∃ p, hitP s p := fun ⟨p, hp⟩ => by
  obtain ⟨e1, e2⟩ := h p hp
  rw [e1, e2] at g
  exact g ⟨hp.2.1, hp.2.2⟩
theorem plV_size (y : ByteArray) : (plV y).1.size ≤ y.size := by
  have h := (cut_len y.data.toList [32]).1
  have e : y.data.toList.length = y.size := rfl
  show (Lib.cut y.data.toList [32]).1.toArray.size ≤ _
  rw [List.size_toArray]; omega
set_option maxHeartbeats 4000000 in
set_option maxRecDepth 100000 in
theorem impl_ReadProof {s : ByteArray} {m : Int} {w : World} (hz : s.size ≤ 1048576) (hm : w.cell? ⟨0, 0, none⟩ = some (.int .i64 m)) (hmw : 0 < w.heap.size) :
    Calls Tryd.prog 5 #[.string s] w fun e w' => ∃ AH cH AL cL, e = .returned (.tuple #[.agg #[.slice AH (rpR s).1.length cH, .slice AL (rpR s).2.length cL], .bool (rpOk s)]) ∧ Owned strE 1 9 w' w.heap.size AH (rpR s).1.length cH (rpR s).1 ∧ Owned lineE 3 33 w' w.heap.size AL (rpR s).2.length cL (rpR s).2 ∧ Below w.heap.size w w' := by
  have HM := Lib.hid (fun (u : World) (hu : Below w.heap.size w u) => (hu.cell (p := ⟨0, 0, none⟩) hmw).trans hm)
  have HMW := Lib.hid (fun (u : World) (hu : Below w.heap.size w u) => Nat.lt_of_lt_of_le hmw hu.size)
  have b0 : Below w.heap.size w (w.alloc (.cells #[.slice none 0 0, .slice none 0 0] 25)) := by (repeat' (first | (with_reducible exact Below.refl _ _) | (with_reducible assumption) | (with_reducible refine below_drewN ?_ _) | (with_reducible refine Below.drew ?_) | (with_reducible refine below_alloc ?_ _) | (with_reducible refine Below.alloc ?_ ?_ _) | (with_reducible refine Below.setCell ?_ ?_ _) | (with_reducible refine below_go ?_ (by with_reducible assumption)) | (with_reducible refine below_then (by with_reducible assumption) ?_ ?_) | go_size))
  have K0 := Blk.at_ w 25 [.slice none 0 0, .slice none 0 0] (b := w.heap.size) rfl
  obtain ⟨ps, z, hps⟩ := spl_last_one 10 s
  have hsz := splB_size (c := 10) s
  have hpl := pieces_len (c := 10) (s := s)
  have HPS := Lib.hid hps
  have HSZ := Lib.hid (show ∀ y ∈ ps, y.size ≤ s.size from fun y hy => hsz y (by rw [hps]; exact List.mem_append_left _ hy))
  have hn : ps.length ≤ s.size + 1 := by rw [hps] at hpl; simp at hpl; omega
  clear hps hsz hpl hm hmw
  go_in
  go_upto_region 1 with fail
  obtain ⟨w1, hw1⟩ : ∃ u, u = (w.alloc (.cells #[.slice none 0 0, .slice none 0 0] 25)) := ⟨_, rfl⟩
  rw [← hw1] at b0 K0 ⊢
  clear hw1
  go_wp2_with fail
  refine (impl_linesOf (ps := ps) (z := z) hz (HM.out _ b0) HPS.out).mono ?_; rintro e w2 ⟨rfl, hr2, hb2, hlt2⟩
  obtain ⟨g, hg⟩ : ∃ g, g = w1.heap.size := ⟨_, rfl⟩
  rw [← hg] at hr2 hlt2 ⊢
  clear hg
  have B2 := below_go b0 hb2
  have K2 := K0.up hb2
  clear hb2 K0
  by_cases h1 : s.size ≤ 20000
  rotate_left
  · have hI : (20000 : Int) < (s.size : Int) := by omega
    have NO : Hid (¬ ∃ p, hitP s p) := Lib.hid (fun ⟨p, hp⟩ => h1 hp.1)
    have r0 := K2.cell 0; have r1 := K2.cell 1
    simp only [List.getElem?_cons_zero, List.getElem?_cons_succ] at r0 r1
    have q0 := K2.frozen 0
    have q1 := K2.frozen 1
    have hRlt : w.heap.size < _ := K2.lt
    go_wp2
    clear r0 r1
    have Z := (K2.set_ 0 (.slice none 0 0)).set_ 1 (.slice none 0 0)
    have y0 := Z.cell 0; have y1 := Z.cell 1
    simp only [List.set_cons_zero, List.set_cons_succ, List.getElem?_cons_zero, List.getElem?_cons_succ] at y0 y1
    (try simp only [Exit.inBlock, Exit.then])
    refine bodyPost_ret (v := .tuple #[.agg #[.slice none 0 0, .slice none 0 0], .bool false]) (by simp [results, Tryd.results5, go_sem, y0, y1]; try rfl) rfl ?_
    rw [(rp_no NO.out).1, (rp_no NO.out).2]
    exact ⟨none, 0, none, 0, rfl, Owned.nil strE_len _ _ _, Owned.nil lineE_len _ _ _, by (repeat' (first | (with_reducible exact Below.refl _ _) | (with_reducible assumption) | (with_reducible refine below_drewN ?_ _) | (with_reducible refine Below.drew ?_) | (with_reducible refine below_alloc ?_ _) | (with_reducible refine Below.alloc ?_ ?_ _) | (with_reducible refine Below.setCell ?_ ?_ _) | (with_reducible refine below_go ?_ (by with_reducible assumption)) | (with_reducible refine below_then (by with_reducible assumption) ?_ ?_) | go_size))⟩
  have hI : ¬ (20000 : Int) < (s.size : Int) := by omega
  rcases hzb : z.toList.isEmpty
  · have NO : Hid (¬ ∃ p, hitP s p) := Lib.hid (fun ⟨p, hp⟩ => by
      have e := hitP_pieces hp
      rw [HPS.out, ← List.cons_append] at e
      have e2 := (List.append_inj' e rfl).2
      injection e2 with e2 _
      have e3 : (⟨#[]⟩ : ByteArray).toList.isEmpty = true := by kernel_rfl
      rw [e2, e3] at hzb
      cases hzb)
    clear hzb
    have r0 := K2.cell 0; have r1 := K2.cell 1
    simp only [List.getElem?_cons_zero, List.getElem?_cons_succ] at r0 r1
    have q0 := K2.frozen 0
    have q1 := K2.frozen 1
    have hRlt : w.heap.size < _ := K2.lt
    go_wp2
    clear r0 r1
    have Z := (K2.set_ 0 (.slice none 0 0)).set_ 1 (.slice none 0 0)
    have y0 := Z.cell 0; have y1 := Z.cell 1
    simp only [List.set_cons_zero, List.set_cons_succ, List.getElem?_cons_zero, List.getElem?_cons_succ] at y0 y1
    (try simp only [Exit.inBlock, Exit.then])
    refine bodyPost_ret (v := .tuple #[.agg #[.slice none 0 0, .slice none 0 0], .bool false]) (by simp [results, Tryd.results5, go_sem, y0, y1]; try rfl) rfl ?_
    rw [(rp_no NO.out).1, (rp_no NO.out).2]
    exact ⟨none, 0, none, 0, rfl, Owned.nil strE_len _ _ _, Owned.nil lineE_len _ _ _, by (repeat' (first | (with_reducible exact Below.refl _ _) | (with_reducible assumption) | (with_reducible refine below_drewN ?_ _) | (with_reducible refine Below.drew ?_) | (with_reducible refine below_alloc ?_ _) | (with_reducible refine Below.alloc ?_ ?_ _) | (with_reducible refine Below.setCell ?_ ?_ _) | (with_reducible refine below_go ?_ (by with_reducible assumption)) | (with_reducible refine below_then (by with_reducible assumption) ?_ ?_) | go_size))⟩
  rcases ps with _ | ⟨p0, qs⟩
  · have NO : Hid (¬ ∃ p, hitP s p) := Lib.hid (fun ⟨p, hp⟩ => by
      have e := congrArg List.length (hitP_pieces hp)
      rw [HPS.out] at e
      simp at e)
    have r0 := K2.cell 0; have r1 := K2.cell 1
    simp only [List.getElem?_cons_zero, List.getElem?_cons_succ] at r0 r1
    have q0 := K2.frozen 0
    have q1 := K2.frozen 1
    have hRlt : w.heap.size < _ := K2.lt
    clear hr2
    go_wp2
    clear r0 r1
    have Z := (K2.set_ 0 (.slice none 0 0)).set_ 1 (.slice none 0 0)
    have y0 := Z.cell 0; have y1 := Z.cell 1
    simp only [List.set_cons_zero, List.set_cons_succ, List.getElem?_cons_zero, List.getElem?_cons_succ] at y0 y1
    (try simp only [Exit.inBlock, Exit.then])
    refine bodyPost_ret (v := .tuple #[.agg #[.slice none 0 0, .slice none 0 0], .bool false]) (by simp [results, Tryd.results5, go_sem, y0, y1]; try rfl) rfl ?_
    rw [(rp_no NO.out).1, (rp_no NO.out).2]
    exact ⟨none, 0, none, 0, rfl, Owned.nil strE_len _ _ _, Owned.nil lineE_len _ _ _, by (repeat' (first | (with_reducible exact Below.refl _ _) | (with_reducible assumption) | (with_reducible refine below_drewN ?_ _) | (with_reducible refine Below.drew ?_) | (with_reducible refine below_alloc ?_ _) | (with_reducible refine Below.alloc ?_ ?_ _) | (with_reducible refine Below.setCell ?_ ?_ _) | (with_reducible refine below_go ?_ (by with_reducible assumption)) | (with_reducible refine below_then (by with_reducible assumption) ?_ ?_) | go_size))⟩
  have HEQ : Hid (∀ p, hitP s p → hdsOf p0 = p.1 ∧ qs.map plV = p.2 ∧ ∀ y ∈ qs, plOk y = true) := Lib.hid (fun p hp => by
    have := hit_eq (by rw [HPS.out]; rfl) hp
    exact ⟨this.2.1, this.2.2.1, this.2.2.2.1⟩)
  have hp0 : p0.size ≤ 20000 := Nat.le_trans (HSZ.out p0 (List.mem_cons_self ..)) h1
  have HQZ : Hid (∀ y ∈ qs, y.size ≤ 20000) := Lib.hid (fun y hy => Nat.le_trans (HSZ.out y (List.mem_cons_of_mem _ hy)) h1)
  have hqn : qs.length ≤ 20000 := by simp at hn; omega
  have HR2 := Lib.hid hr2
  obtain ⟨bp, op, p0', hAp, _, hp0', hcp0⟩ := hr2.at_str (k := 0) (by simp)
  injection hAp with hAp
  injection hAp with e1 e2 _
  subst e1 e2
  injection hp0' with hp0'
  subst hp0'
  simp only [Nat.add_zero] at hcp0
  simp only [List.length_cons] at hn ⊢
  clear HSZ hr2
  have hb3 : Below w2.heap.size w2 (w2.alloc (.cells #[.slice none 0 0, .slice none 0 0] 25)) := by (repeat' (first | (with_reducible exact Below.refl _ _) | (with_reducible assumption) | (with_reducible refine below_drewN ?_ _) | (with_reducible refine Below.drew ?_) | (with_reducible refine below_alloc ?_ _) | (with_reducible refine Below.alloc ?_ ?_ _) | (with_reducible refine Below.setCell ?_ ?_ _) | (with_reducible refine below_go ?_ (by with_reducible assumption)) | (with_reducible refine below_then (by with_reducible assumption) ?_ ?_) | go_size))
  have K3 := Blk.at_ w2 25 [.slice none 0 0, .slice none 0 0] (b := w2.heap.size) rfl
  go_upto_region 5 with fail
  obtain ⟨b6, hb6⟩ : ∃ b, b = w2.heap.size := ⟨_, rfl⟩
  obtain ⟨w3, hw3⟩ : ∃ u, u = w2.alloc (.cells #[.slice none 0 0, .slice none 0 0] 25) := ⟨_, rfl⟩
  rw [← hw3, ← hb6] at hb3 K3
  rw [← hw3, ← hb6]
  have hbw : w.heap.size ≤ b6 := by rw [hb6]; exact B2.size
  have hrb : w.heap.size < b6 := by rw [hb6]; exact K2.lt
  rw [← hb6] at hlt2
  have HB6 := Lib.hid hb6
  have hcp3 := (hb3.cell (p := ⟨g, 0, none⟩) hlt2).trans hcp0
  clear hw3 hb6 hcp0
  by_cases h0 : p0.size = 0
  case' pos =>
    have e0 : p0 = ⟨#[]⟩ := ByteArray.ext (Array.eq_empty_of_size_eq_zero h0)
    have hH : hdsOf p0 = [] := by rw [hdsOf, if_pos h0]
    rw [e0] at hcp3
    obtain ⟨AH, nH, cH, hOH, K6, HB⟩ : ∃ AH nH cH, Owned strE 1 9 w3 b6 AH nH cH (hdsOf p0) ∧ Blk w3 b6 25 [.slice AH nH cH, .slice none 0 0] ∧ Below b6 w2 w3 := ⟨none, 0, 0, by rw [hH]; exact Owned.nil strE_len _ _ _, K3, hb3⟩
    go_upto_region 7 with fail
    obtain ⟨w4, rfl⟩ : ∃ u, u = w3 := ⟨_, rfl⟩
    clear K3 hb3 e0 hH hcp3
  case' neg =>
    have hne := str_ne_empty (s := p0) (by omega)
    have hH : hdsOf p0 = splB 32 p0 := by rw [hdsOf, if_neg h0]
    have hb6l : b6 < w3.heap.size := K3.lt
    have hl := splB_lib 32 p0
    have hpl3 := pieces_len (c := 32) (s := p0)
    obtain ⟨S, hS⟩ : ∃ S, S = splB 32 p0 := ⟨_, rfl⟩
    rw [← hS] at hl hH hpl3
    have HSL := Lib.hid hl.1
    obtain ⟨nH, hnS⟩ : ∃ n, n = S.length := ⟨_, rfl⟩
    have hCN : Lib.countB p0 ⟨#[32]⟩ + 1 = nH := by rw [hnS]; exact hl.2.symm
    have HCN := Lib.hid hCN
    have HNS := Lib.hid hnS
    clear hl hS hCN hnS
    go_wp2_with fail
    refine (Tryd.strings_Split p0 { data := #[32] } m w3 (by omega) (HM.out _ (B2.trans (hb3.mono hbw))) (by decide)).mono ?_
    rw [show Lib.countB p0 { data := #[32] } + 1 = nH from HCN.out, show Lib.splitB { data := #[32] } 0 (Lib.countB p0 { data := #[32] }) p0 = S from HSL.out]
    rintro e w5 ⟨rfl, hw5⟩
    have hw5' : w5 = w3.alloc (.cells ⟨S.map Value.string⟩ 9) := hw5
    have hb5 : Below w3.heap.size w3 w5 := by rw [hw5']; exact below_alloc (Below.refl _ _) _
    obtain ⟨A5, hA5⟩ : ∃ A : Option Addr, A = some ⟨w3.heap.size, 0, none⟩ := ⟨_, rfl⟩
    obtain ⟨c5, hc5⟩ : ∃ c, c = nH := ⟨_, rfl⟩
    have HO5 : Hid (Owned strE 1 9 w5 b6 A5 nH c5 S) := Lib.hid (by rw [hA5, hc5, hw5', HNS.out]; exact own_strs w3 9 S (Nat.le_of_lt hb6l) (by unfold maxLen; omega))
    have hne5 : Hid (∀ k, (Value.slice A5 nH c5).ownBlock = some k → some b6 ≠ some k) := Lib.hid (fun k hk e => by rw [hA5] at hk; injection hk with hk; injection e with e; dsimp only at hk; omega)
    rw [← hA5]
    clear hw5 hw5' hA5 hpl3
    rw [show (Value.slice A5 nH nH) = Value.slice A5 nH c5 by rw [hc5]]
    clear hc5
    have K5 := K3.up hb5
    have k0 := K5.cell 0; have k1 := K5.cell 1
    simp only [List.getElem?_cons_zero, List.getElem?_cons_succ] at k0 k1
    have j0 := K5.frozen 0
    have HBw := Lib.hid (hb3.trans (hb5.mono (Nat.le_of_lt hb6l)))
    clear hb5 K3 hb3 hne h0
    go_upto_region 7 with fail
    have hOK : Owned strE 1 9 (w5.setCell ⟨b6, 0, none⟩ (.slice A5 nH c5)) b6 A5 nH c5 (hdsOf p0) := by
      rw [hH]
      exact HO5.out.kept (only_set _ _) hne5.out
    have HBK : Below b6 w2 (w5.setCell ⟨b6, 0, none⟩ (.slice A5 nH c5)) := HBw.out.grown (only_set _ _) (by have := HBw.out.size; have := HB6.out; omega) (fun k hk => by injection hk with hk; exact Nat.le_of_eq hk)
    have KK := K5.set_ 0 (.slice A5 nH c5)
    simp only [List.set_cons_zero] at KK
    obtain ⟨AH, cH, hAc⟩ : ∃ A c, A = A5 ∧ c = c5 := ⟨_, _, rfl, rfl⟩
    obtain ⟨w4, hw4⟩ : ∃ u, u = w5.setCell ⟨b6, 0, none⟩ (.slice A5 nH c5) := ⟨_, rfl⟩
    rw [← hw4] at hOK HBK KK
    rw [← hw4]
    have K6 : Blk w4 b6 25 [.slice AH nH cH, .slice none 0 0] := by rw [hAc.1, hAc.2]; exact KK
    have hOH : Owned strE 1 9 w4 b6 AH nH cH (hdsOf p0) := by rw [hAc.1, hAc.2]; exact hOK
    have HB := HBK
    clear hw4 hOK HBK KK hAc K5 k0 k1 j0 HBw HO5 hne5 hH hb6l hcp3
  all_goals
    have HOH := Lib.hid hOH
    have HNH : Hid ((hdsOf p0).length = nH) := Lib.hid hOH.len
    have hnH : nH ≤ 20002 := by
      have := (hds_size p0).2
      rw [HNH.out] at this
      omega
    have HHZ : Hid (∀ y ∈ hdsOf p0, y.size ≤ 16777216) := Lib.hid (fun y hy => by have := (hds_size p0).1 y hy; omega)
    clear hOH
    go_wp2
    go_loopw [8, 9, 10, 42] (fun _ _ _ vi wr => ∃ (k : Nat) (AL : Option Addr) (cL : Nat), vi = .int .i64 k ∧ k ≤ qs.length ∧ Hid (Owned strE 1 9 wr b6 AH nH cH (hdsOf p0)) ∧ Hid (Owned lineE 3 33 wr b6 AL k cL ((qs.take k).map plV)) ∧ Hid (Blk wr b6 25 [.slice AH nH cH, .slice AL k cL]) ∧ Hid (∀ y ∈ qs.take k, plOk y = true) ∧ Below b6 w2 wr) (fun _ _ _ vi _ => qs.length - (intOf vi).toNat)
    case atStart => exact ⟨0, none, 0, rfl, Nat.zero_le _, HOH, Lib.hid (Owned.nil lineE_len _ _ _), Lib.hid K6, Lib.hid (fun y hy => by cases hy), HB⟩
    case round =>
      clear K6 HB HOH
      obtain ⟨k, AL, cL, rfl, hk, HOH, HOL, HK6, HY, HB⟩ := hrel
      rename World => wr
      have Bwr : Below w.heap.size w wr := B2.trans (HB.mono hbw)
      have KR := K2.below HB hrb
      have hbs : b6 ≤ wr.heap.size := by have := HB.size; have := HB6.out; omega
      by_cases hlt : k < qs.length
      · have hI : (k : Int) < (qs.length : Int) := by omega
        obtain ⟨bq, oq, y, hAq, _, hyq, hcy⟩ := (HR2.out.below HB (Nat.le_of_eq HB6.out.symm)).at_str (k := k + 1) (by simp; omega)
        injection hAq with hAq
        injection hAq with e1 e2 _
        subst e1 e2
        rw [List.getElem?_cons_succ] at hyq
        have HYQ := Lib.hid hyq
        have hcy : wr.cell? ⟨g, 1 + k, none⟩ = some (.string y) := by rw [Nat.add_comm 1 k, ← hcy, Nat.zero_add]
        have hyz : y.size ≤ 20000 := HQZ.out y (List.mem_of_getElem? hyq)
        have KR := Lib.hid KR
        clear hyq
        go_wp2_with fail
        refine (impl_proofLine (m := m) (by omega) (HM.out _ Bwr) (HMW.out _ Bwr)).mono ?_; rintro e w5 ⟨rfl, hb5⟩
        have EV := Lib.hid (show (plV y).1.size ≤ 20000 from Nat.le_trans (plV_size y) hyz)
        obtain ⟨⟨r, a, b⟩, hV⟩ : ∃ v, v = plV y := ⟨_, rfl⟩
        have HV := Lib.hid hV
        rw [← hV] at EV
        rw [← hV]
        dsimp only
        have HB5 : Below b6 w2 w5 := HB.trans (hb5.mono hbs)
        have B5 := below_go Bwr hb5
        have KR5 := Lib.hid (KR.out.up hb5)
        have HK5 := Lib.hid (HK6.out.up hb5)
        have HOH5 := Lib.hid (HOH.out.up hb5)
        have HOL5 := Lib.hid (HOL.out.up hb5)
        have hbs5 : b6 ≤ w5.heap.size := Nat.le_trans hbs hb5.size
        clear hb5 hV hcy KR HK6 HOH HOL HB Bwr
        rcases hq : plOk y
        · have NO : Hid (¬ ∃ p, hitP s p) := Lib.hid (fun ⟨p, hp⟩ => by
            have := (HEQ.out p hp).2.2 y (List.mem_of_getElem? HYQ.out)
            rw [hq] at this; cases this)
          clear hq
          go_upto_region 12 with fail
          obtain ⟨w6, hw6⟩ : ∃ u, u = w5.alloc (.cells #[.string r, .int .i64 a, .int .i64 b] 33) := ⟨_, rfl⟩
          rw [← hw6]
          have KR6 : Blk w6 w.heap.size 25 [.slice none 0 0, .slice none 0 0] := by rw [hw6]; exact KR5.out.alloc _
          have B6 : Below w.heap.size w w6 := by rw [hw6]; exact below_alloc B5 _
          clear hw6
          have r0 := KR6.cell 0; have r1 := KR6.cell 1
          simp only [List.getElem?_cons_zero, List.getElem?_cons_succ] at r0 r1
          have q0 := KR6.frozen 0
          have q1 := KR6.frozen 1
          have hRlt : w.heap.size < _ := KR6.lt
          go_wp2
          clear r0 r1
          have Z := (KR6.set_ 0 (.slice none 0 0)).set_ 1 (.slice none 0 0)
          have y0 := Z.cell 0; have y1 := Z.cell 1
          simp only [List.set_cons_zero, List.set_cons_succ, List.getElem?_cons_zero, List.getElem?_cons_succ] at y0 y1
          (try simp only [Exit.inBlock, Exit.then])
          refine bodyPost_ret (v := .tuple #[.agg #[.slice none 0 0, .slice none 0 0], .bool false]) (by simp [results, Tryd.results5, go_sem, y0, y1]; try rfl) rfl ?_
          rw [(rp_no NO.out).1, (rp_no NO.out).2]
          exact ⟨none, 0, none, 0, rfl, Owned.nil strE_len _ _ _, Owned.nil lineE_len _ _ _, by (repeat' (first | (with_reducible exact Below.refl _ _) | (with_reducible assumption) | (with_reducible refine below_drewN ?_ _) | (with_reducible refine Below.drew ?_) | (with_reducible refine below_alloc ?_ _) | (with_reducible refine Below.alloc ?_ ?_ _) | (with_reducible refine Below.setCell ?_ ?_ _) | (with_reducible refine below_go ?_ (by with_reducible assumption)) | (with_reducible refine below_then (by with_reducible assumption) ?_ ?_) | go_size))⟩
        · go_upto_region 13 with fail
          obtain ⟨w6, hw6⟩ : ∃ u, u = w5.alloc (.cells #[.string r, .int .i64 a, .int .i64 b] 33) := ⟨_, rfl⟩
          have L6 := Blk.at_ w5 33 [.string r, .int .i64 a, .int .i64 b] (b := w5.heap.size) rfl
          rw [← hw6] at L6
          rw [← hw6]
          have HK6 : Hid (Blk w6 b6 25 [.slice AH nH cH, .slice AL k cL]) := Lib.hid (by rw [hw6]; exact HK5.out.alloc _)
          have HOH6 : Hid (Owned strE 1 9 w6 b6 AH nH cH (hdsOf p0)) := Lib.hid (by rw [hw6]; exact HOH5.out.alloc _)
          have HOL6 : Hid (Owned lineE 3 33 w6 b6 AL k cL ((qs.take k).map plV)) := Lib.hid (by rw [hw6]; exact HOL5.out.alloc _)
          have HB6' : Below b6 w2 w6 := by rw [hw6]; exact HB5.alloc hbs5 _
          have hbs6 : b6 ≤ w6.heap.size := by rw [hw6, World.size_alloc]; omega
          clear hw6 HK5 HOH5 HOL5 HB5 hbs5 KR5 B5
          have l0 := L6.cell 0; have l1 := L6.cell 1; have l2 := L6.cell 2
          have k0 := HK6.out.cell 0; have k1 := HK6.out.cell 1
          simp only [List.getElem?_cons_zero, List.getElem?_cons_succ] at l0 l1 l2 k0 k1
          go_wp2_with (at_builtin; go_must ((refine wpList_append_rec Tryd.elLine rfl (.tmp 55) (.tmp 57) rfl rfl (HOL6.out.alloc _) (r, a, b) rfl (Box.at_ _ [.string r, .int .i64 a, .int .i64 b] _ ?_) (lineOne _) ?_ (by decide) ?_ ?_; (focus (first | omega | (simp only [World.size_alloc]; done) | (simp only [World.size_alloc]; omega) | (simp; done) | (simp; omega))); (focus (first | omega | (simp only [World.size_alloc]; done) | (simp only [World.size_alloc]; omega) | (simp; done) | (simp; omega))); (focus (first | omega | (simp only [World.size_alloc]; done) | (simp only [World.size_alloc]; omega) | (simp; done) | (simp; omega))); intro A8 c8 w8 ho8 hg8 hb8; have K8 := (HK6.out.alloc _).grown hg8 (ownNeBlk HOL6.out HK6.out (by decide)); have z80 := K8.cell 0; have z81 := K8.cell 1; simp only [List.getElem?_cons_zero, List.getElem?_cons_succ] at z80 z81; have f81 := K8.frozen 1)))
          have K9 := K8.set_ 1 (.slice A8 (k + 1) c8)
          simp only [List.set_cons_zero, List.set_cons_succ] at K9
          have HK9 := Lib.hid K9
          have HOH9 := Lib.hid (((HOH6.out.alloc _).kept hg8 (HOH6.out.ne HOL6.out (by decide))).kept (only_set (p := ⟨b6, 1, none⟩) _ (.slice A8 (k + 1) c8)) (fun q hq e => ownNeBlk ((HOH6.out.alloc _).kept hg8 (HOH6.out.ne HOL6.out (by decide))) K8 (by decide) (e.trans hq.symm)))
          have HOL9 : Hid (Owned lineE 3 33 (w8.setCell ⟨b6, 1, none⟩ (.slice A8 (k + 1) c8)) b6 A8 (k + 1) c8 ((qs.take (k + 1)).map plV)) := Lib.hid (by
            rw [take_succ_some HYQ.out, List.map_append, List.map_cons, List.map_nil, ← HV.out]
            exact ho8.kept (only_set (p := ⟨b6, 1, none⟩) _ _) (fun q hq e => ownNeBlk ho8 K8 (by decide) (e.trans hq.symm)))
          have h7 := HB6'.alloc hbs6 (.cells #[.string r, .int .i64 a, .int .i64 b] 33)
          have h8 := h7.grown hg8 (by rw [World.size_alloc]; omega) (fun q hq => (HOL6.out.blk hq).1)
          have HB9 := Lib.hid (h8.grown (only_set (p := ⟨b6, 1, none⟩) _ (.slice A8 (k + 1) c8)) (by have := h8.size; have := HB6.out; omega) (fun q hq => by injection hq with hq; exact Nat.le_of_eq hq))
          have HY9 : Hid (∀ y ∈ qs.take (k + 1), plOk y = true) := Lib.hid (fun y' hy' => by
            rw [take_succ_some HYQ.out] at hy'
            rcases List.mem_append.1 hy' with h | h
            · exact HY.out y' h
            · rw [List.mem_singleton.1 h]; exact hq)
          clear h7 h8 ho8 hg8 hb8 K8 z80 z81 f81 K9 l0 l1 l2 k0 k1 L6
          go_roundw
          case rel => exact ⟨k + 1, A8, c8, by go_num, by omega, HOH9, HOL9, HK9, HY9, HB9.out⟩
          case measure => simp [intOf]; omega
      · have hI : ¬ (k : Int) < (qs.length : Int) := by omega
        obtain rfl : k = qs.length := by omega
        obtain ⟨M, hM⟩ : ∃ M, M = qs.map plV := ⟨_, rfl⟩
        have hML : M.length = qs.length := by rw [hM, List.length_map]
        have hMZ : Hid (∀ x ∈ M, x.1.size ≤ 16777216) := Lib.hid (fun x hx => by
          rw [hM] at hx
          obtain ⟨y, hy, rfl⟩ := List.mem_map.1 hx
          have := plV_size y
          have := HQZ.out y hy
          omega)
        have HEQ2 : Hid (∀ p, hitP s p → hdsOf p0 = p.1 ∧ M = p.2) := Lib.hid (fun p hp => ⟨(HEQ.out p hp).1, hM.trans (HEQ.out p hp).2.1⟩)
        have HOL2 : Hid (Owned lineE 3 33 wr b6 AL qs.length cL M) := Lib.hid (by have := HOL.out; rw [List.take_length, ← hM] at this; exact this)
        have HML := Lib.hid hML
        have KR := Lib.hid KR
        have hcap := ownCap HOH.out
        clear hM hML HOL HEQ HY HQZ
        have k0 := HK6.out.cell 0; have k1 := HK6.out.cell 1
        simp only [List.getElem?_cons_zero, List.getElem?_cons_succ] at k0 k1
        go_wp2_with fail
        refine (impl_goodProof HNH.out HOH.out.recs HML.out HOL2.out.recs (by omega) (by omega) HHZ.out hMZ.out).mono ?_; rintro e w5 ⟨rfl, hb5⟩
        have B5 := below_go Bwr hb5
        have KR5 := KR.out.up hb5
        have HK5 := Lib.hid (HK6.out.up hb5)
        have HOH5 := Lib.hid (HOH.out.up hb5)
        have HOL5 := Lib.hid (HOL2.out.up hb5)
        clear hb5 k0 k1 HK6 HOH HOL2 KR
        rcases hgp : goodPf (hdsOf p0) M
        · have NO : Hid (¬ ∃ p, hitP s p) := Lib.hid (no_Pf HEQ2.out (fun h => by rw [hgp] at h; cases h.1))
          clear hgp
          have r0 := KR5.cell 0; have r1 := KR5.cell 1
          simp only [List.getElem?_cons_zero, List.getElem?_cons_succ] at r0 r1
          have q0 := KR5.frozen 0
          have q1 := KR5.frozen 1
          have hRlt : w.heap.size < _ := KR5.lt
          go_wp2
          clear r0 r1
          have Z := (KR5.set_ 0 (.slice none 0 0)).set_ 1 (.slice none 0 0)
          have y0 := Z.cell 0; have y1 := Z.cell 1
          simp only [List.set_cons_zero, List.set_cons_succ, List.getElem?_cons_zero, List.getElem?_cons_succ] at y0 y1
          (try simp only [Exit.inBlock, Exit.then])
          refine bodyPost_ret (v := .tuple #[.agg #[.slice none 0 0, .slice none 0 0], .bool false]) (by simp [results, Tryd.results5, go_sem, y0, y1]; try rfl) rfl ?_
          rw [(rp_no NO.out).1, (rp_no NO.out).2]
          exact ⟨none, 0, none, 0, rfl, Owned.nil strE_len _ _ _, Owned.nil lineE_len _ _ _, by (repeat' (first | (with_reducible exact Below.refl _ _) | (with_reducible assumption) | (with_reducible refine below_drewN ?_ _) | (with_reducible refine Below.drew ?_) | (with_reducible refine below_alloc ?_ _) | (with_reducible refine Below.alloc ?_ ?_ _) | (with_reducible refine Below.setCell ?_ ?_ _) | (with_reducible refine below_go ?_ (by with_reducible assumption)) | (with_reducible refine below_then (by with_reducible assumption) ?_ ?_) | go_size))⟩
        · have HGP := Lib.hid hgp
          clear hgp
          have k0 := HK5.out.cell 0; have k1 := HK5.out.cell 1
          simp only [List.getElem?_cons_zero, List.getElem?_cons_succ] at k0 k1
          have KR5 := Lib.hid KR5
          go_wp2_with fail
          refine (impl_proofText HNH.out HOH5.out.recs HML.out HOL5.out.recs (by omega) (by omega) HHZ.out hMZ.out hcap HGP.out).mono ?_; rintro e w7 ⟨rfl, hb7⟩
          have B7 := below_go B5 hb7
          have KR7 := KR5.out.up hb7
          have HK7 := HK5.out.up hb7
          have HOH7 := Lib.hid (HOH5.out.up hb7)
          have HOL7 := Lib.hid (HOL5.out.up hb7)
          clear hb7 k0 k1 HK5 HOH5 HOL5 KR5
          obtain ⟨T, hT⟩ : ∃ T, T = pfT (hdsOf p0) M := ⟨_, rfl⟩
          have HT := Lib.hid hT
          rw [← hT]
          clear hT
          by_cases hTs : T = s
          · subst hTs
            have HIT : Hid (rpR T = (hdsOf p0, M) ∧ rpOk T = true) := Lib.hid (rp_yes (p := (hdsOf p0, M)) ⟨h1, HGP.out, HT.out.symm⟩)
            have k0 := HK7.cell 0; have k1 := HK7.cell 1
            simp only [List.getElem?_cons_zero, List.getElem?_cons_succ] at k0 k1
            have r0 := KR7.cell 0; have r1 := KR7.cell 1
            simp only [List.getElem?_cons_zero, List.getElem?_cons_succ] at r0 r1
            have q0 := KR7.frozen 0
            have q1 := KR7.frozen 1
            have hRlt : w.heap.size < _ := KR7.lt
            go_wp2
            have Z := (KR7.set_ 0 (.slice AH nH cH)).set_ 1 (.slice AL qs.length cL)
            have y0 := Z.cell 0; have y1 := Z.cell 1
            simp only [List.set_cons_zero, List.set_cons_succ, List.getElem?_cons_zero, List.getElem?_cons_succ] at y0 y1
            clear r0 r1 k0 k1
            (try simp only [Exit.inBlock, Exit.then])
            refine bodyPost_ret (v := .tuple #[.agg #[.slice AH nH cH, .slice AL qs.length cL], .bool true]) (by simp [results, Tryd.results5, go_sem, y0, y1]; try rfl) rfl ?_
            have E := HIT.out
            rw [E.1, E.2]
            dsimp only
            rw [HNH.out, HML.out]
            refine ⟨AH, cH, AL, cL, rfl, ?_, ?_, by (repeat' (first | (with_reducible exact Below.refl _ _) | (with_reducible assumption) | (with_reducible refine below_drewN ?_ _) | (with_reducible refine Below.drew ?_) | (with_reducible refine below_alloc ?_ _) | (with_reducible refine Below.alloc ?_ ?_ _) | (with_reducible refine Below.setCell ?_ ?_ _) | (with_reducible refine below_go ?_ (by with_reducible assumption)) | (with_reducible refine below_then (by with_reducible assumption) ?_ ?_) | go_size))⟩
            · exact ((HOH7.out.kept (only_set (p := ⟨w.heap.size, 0, none⟩) _ _) (fun q hq e => by have := (HOH7.out.blk hq).1; injection e with e; dsimp only at e; omega)).kept (only_set (p := ⟨w.heap.size, 1, none⟩) _ _) (fun q hq e => by have := (HOH7.out.blk hq).1; injection e with e; dsimp only at e; omega)).base_le hbw
            · exact ((HOL7.out.kept (only_set (p := ⟨w.heap.size, 0, none⟩) _ _) (fun q hq e => by have := (HOL7.out.blk hq).1; injection e with e; dsimp only at e; omega)).kept (only_set (p := ⟨w.heap.size, 1, none⟩) _ _) (fun q hq e => by have := (HOL7.out.blk hq).1; injection e with e; dsimp only at e; omega)).base_le hbw
          · have NO : Hid (¬ ∃ p, hitP s p) := Lib.hid (no_Pf HEQ2.out (fun h => hTs (HT.out.trans h.2)))
            have hTb := bytes_ne hTs
            have r0 := KR7.cell 0; have r1 := KR7.cell 1
            simp only [List.getElem?_cons_zero, List.getElem?_cons_succ] at r0 r1
            have q0 := KR7.frozen 0
            have q1 := KR7.frozen 1
            have hRlt : w.heap.size < _ := KR7.lt
            clear HK7
            go_wp2
            clear r0 r1
            have Z := (KR7.set_ 0 (.slice none 0 0)).set_ 1 (.slice none 0 0)
            have y0 := Z.cell 0; have y1 := Z.cell 1
            simp only [List.set_cons_zero, List.set_cons_succ, List.getElem?_cons_zero, List.getElem?_cons_succ] at y0 y1
            (try simp only [Exit.inBlock, Exit.then])
            refine bodyPost_ret (v := .tuple #[.agg #[.slice none 0 0, .slice none 0 0], .bool false]) (by simp [results, Tryd.results5, go_sem, y0, y1]; try rfl) rfl ?_
            rw [(rp_no NO.out).1, (rp_no NO.out).2]
            exact ⟨none, 0, none, 0, rfl, Owned.nil strE_len _ _ _, Owned.nil lineE_len _ _ _, by (repeat' (first | (with_reducible exact Below.refl _ _) | (with_reducible assumption) | (with_reducible refine below_drewN ?_ _) | (with_reducible refine Below.drew ?_) | (with_reducible refine below_alloc ?_ _) | (with_reducible refine Below.alloc ?_ ?_ _) | (with_reducible refine Below.setCell ?_ ?_ _) | (with_reducible refine below_go ?_ (by with_reducible assumption)) | (with_reducible refine below_then (by with_reducible assumption) ?_ ?_) | go_size))⟩
end Go.Proofs.YtoheahbkopbmhaaDoor
