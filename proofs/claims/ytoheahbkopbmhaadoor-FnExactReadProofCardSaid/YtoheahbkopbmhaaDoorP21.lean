/- What the checks of strikes, times, blows and beats compute, as plain functions on lists. -/
import Derived.Test.YtoheahbkopbmhaaDoorBase
namespace Go.Proofs.YtoheahbkopbmhaaDoor
set_option linter.unusedVariables false
set_option linter.unusedSimpArgs false

def inB (n a b : Int) : Bool := decide (a ≤ n ∧ n ≤ b)
theorem inB_t {n a b : Int} (h : inB n a b = true) : a ≤ n ∧ n ≤ b := by simpa [inB] using h
theorem inB_f {n a b : Int} (h : inB n a b = false) : ¬ (a ≤ n ∧ n ≤ b) := by simpa only [inB, decide_eq_false_iff_not] using h

def goodBeatB (x y z : Int) : Bool := inB x 0 1000000 && inB y 1 2000 && inB z 0 2000

def blowAtZ (x y z n r p : Int) : Int := x + y * (n * r + p - 1) + z * (r / 2)
def okBlow (x y z n r p : Int) : Bool := goodBeatB x y z && inB n 3 8 && inB r 0 800 && inB p 1 n
def blowV (x y z n r p : Int) : Int := if okBlow x y z n r p = true then blowAtZ x y z n r p else 0
theorem blowV_t {x y z n r p : Int} (h : okBlow x y z n r p = true) : blowV x y z n r p = blowAtZ x y z n r p := by rw [blowV, if_pos h]
theorem blowV_f {x y z n r p : Int} (h : okBlow x y z n r p = false) : blowV x y z n r p = 0 := by rw [blowV, if_neg (by rw [h]; simp)]
theorem goodBeat_t {x y z : Int} (h : goodBeatB x y z = true) : (0 ≤ x ∧ x ≤ 1000000) ∧ (1 ≤ y ∧ y ≤ 2000) ∧ (0 ≤ z ∧ z ≤ 2000) := by
  simp only [goodBeatB, Bool.and_eq_true] at h
  exact ⟨inB_t h.1.1, inB_t h.1.2, inB_t h.2⟩

/-! times -/
def okTime (l : List Int) (i : Nat) : Bool := inB (l.getD i 0) 0 1000000 && !(decide (0 < i) && decide (l.getD i 0 < l.getD (i - 1) 0))
def goodTimes (l : List Int) : Bool := (List.range l.length).all (okTime l) && decide (l.length ≤ 60)
theorem okTime_zero {l : List Int} {k : Nat} {x : Int} (hk : ¬ 0 < k) (h : l[k]? = some x) : okTime l k = inB x 0 1000000 := by
  simp [okTime, List.getD, h, hk]
theorem okTime_pos {l : List Int} {k : Nat} {x y : Int} (hk : 0 < k) (h : l[k]? = some x) (h' : l[k - 1]? = some y) : okTime l k = (inB x 0 1000000 && !decide (x < y)) := by
  simp [okTime, List.getD, h, h', hk]

/-! strikes -/
abbrev strikeE : Int × Int → List Value := fun s => [.int .i64 s.1, .int .i64 s.2]
theorem strikeE_len (s : Int × Int) : (strikeE s).length = 2 := rfl
theorem strikeE_one (s : Int × Int) : ∀ u ∈ strikeE s, u.oneCell' = true := fun u hu => by simp [strikeE] at hu; rcases hu with rfl | rfl <;> rfl
abbrev blowE : Int × Int × Int → List Value := fun s => [.int .i64 s.1, .int .i64 s.2.1, .int .i64 s.2.2]
theorem blowE_len (s : Int × Int × Int) : (blowE s).length = 3 := rfl
def okStrike (l : List (Int × Int)) (i : Nat) : Bool := inB (l.getD i (0, 0)).1 1 8 && inB (l.getD i (0, 0)).2 0 1000000 && !(decide (0 < i) && decide ((l.getD i (0, 0)).2 < (l.getD (i - 1) (0, 0)).2))
def goodStrikes (l : List (Int × Int)) : Bool := (List.range l.length).all (okStrike l) && decide (l.length ≤ 2000)
theorem okStrike_bell {l : List (Int × Int)} {k : Nat} {x : Int × Int} (h : l[k]? = some x) (hx : inB x.1 1 8 = false) : okStrike l k = false := by
  simp [okStrike, List.getD, h, hx]
theorem okStrike_time {l : List (Int × Int)} {k : Nat} {x : Int × Int} (h : l[k]? = some x) (hx : inB x.2 0 1000000 = false) : okStrike l k = false := by
  simp [okStrike, List.getD, h, hx]
theorem okStrike_zero {l : List (Int × Int)} {k : Nat} {x : Int × Int} (hk : ¬ 0 < k) (h : l[k]? = some x) (h1 : inB x.1 1 8 = true) (h2 : inB x.2 0 1000000 = true) : okStrike l k = true := by
  simp [okStrike, List.getD, h, hk, h1, h2]
theorem okStrike_pos {l : List (Int × Int)} {k : Nat} {x y : Int × Int} (hk : 0 < k) (h : l[k]? = some x) (h' : l[k - 1]? = some y) (h1 : inB x.1 1 8 = true) (h2 : inB x.2 0 1000000 = true) : okStrike l k = !decide (x.2 < y.2) := by
  simp [okStrike, List.getD, h, h', hk, h1, h2]


def shiftOk (l : List (Int × Int)) (by_ : Int) : Bool := goodStrikes l && inB by_ (-1000000) 1000000 && goodStrikes (l.map fun s => (s.1, s.2 + by_))
def shiftR (l : List (Int × Int)) (by_ : Int) : List (Int × Int) := if shiftOk l by_ = true then l.map fun s => (s.1, s.2 + by_) else []
theorem shiftR_t {l : List (Int × Int)} {d : Int} (h : shiftOk l d = true) : shiftR l d = l.map fun s => (s.1, s.2 + d) := by rw [shiftR, if_pos h]
theorem shiftR_f {l : List (Int × Int)} {d : Int} (h : shiftOk l d = false) : shiftR l d = [] := by rw [shiftR, if_neg (by rw [h]; simp)]
theorem goodStrikes_t {l : List (Int × Int)} (h : goodStrikes l = true) : l.length ≤ 2000 ∧ ∀ x ∈ l, (1 ≤ x.1 ∧ x.1 ≤ 8) ∧ 0 ≤ x.2 ∧ x.2 ≤ 1000000 := by
  simp only [goodStrikes, Bool.and_eq_true, decide_eq_true_eq, List.all_eq_true, List.mem_range] at h
  refine ⟨h.2, fun x hx => ?_⟩
  obtain ⟨j, hj, e⟩ := List.getElem_of_mem hx
  have h1 := h.1 j hj
  simp only [okStrike, Bool.and_eq_true] at h1
  have e1 : l.getD j (0, 0) = x := by rw [List.getD_eq_getElem?_getD, List.getElem?_eq_getElem hj, e]; rfl
  rw [e1] at h1
  exact ⟨inB_t h1.1.1, inB_t h1.1.2⟩
theorem shift_len {l : List (Int × Int)} {d : Int} : (shiftR l d).length ≤ 16777216 := by
  rcases h : shiftOk l d
  · rw [shiftR_f h]; exact Nat.zero_le _
  · rw [shiftR_t h, List.length_map]
    simp only [shiftOk, Bool.and_eq_true] at h
    have := (goodStrikes_t h.1.1).1
    omega

/-! the times of one bell; strikes that come too soon -/
def ofBellR (l : List (Int × Int)) (b : Int) : List Int := (l.filter fun s => s.1 == b).map fun s => s.2
theorem ofBell_len (l : List (Int × Int)) (b : Int) : (ofBellR l b).length ≤ l.length := by
  rw [ofBellR, List.length_map]; exact List.length_filter_le _ _
theorem ofBell_hit {l : List (Int × Int)} {b : Int} {k : Nat} {x : Int × Int} (h : l[k]? = some x) (hx : (x.1 == b) = true) : ofBellR (l.take (k + 1)) b = ofBellR (l.take k) b ++ [x.2] := by
  rw [take_succ_some h, ofBellR, List.filter_append, List.map_append]
  simp [ofBellR, hx]
theorem ofBell_miss {l : List (Int × Int)} {b : Int} {k : Nat} {x : Int × Int} (h : l[k]? = some x) (hx : (x.1 == b) = false) : ofBellR (l.take (k + 1)) b = ofBellR (l.take k) b := by
  rw [take_succ_some h, ofBellR, List.filter_append, List.map_append]
  simp [ofBellR, hx]
def bellOk (l : List (Int × Int)) (b : Int) : Bool := goodStrikes l && inB b 1 8
def bellR (l : List (Int × Int)) (b : Int) : List Int := if bellOk l b = true then ofBellR l b else []
theorem bellR_t {l : List (Int × Int)} {d : Int} (h : bellOk l d = true) : bellR l d = ofBellR l d := by rw [bellR, if_pos h]
theorem bellR_f {l : List (Int × Int)} {d : Int} (h : bellOk l d = false) : bellR l d = [] := by rw [bellR, if_neg (by rw [h]; simp)]

/-- The numbers below n of which p holds. -/
def pick (p : Nat → Bool) (n : Nat) : List Int := ((List.range n).filter p).map fun (k : Nat) => (k : Int)
theorem pick_len (p : Nat → Bool) (n : Nat) : (pick p n).length ≤ n := by
  rw [pick, List.length_map]
  exact Nat.le_trans (List.length_filter_le _ _) (by simp)
theorem pick_hit {p : Nat → Bool} {k : Nat} (h : p k = true) : pick p (k + 1) = pick p k ++ [(k : Int)] := by
  simp [pick, List.range_succ, h]
theorem pick_miss {p : Nat → Bool} {k : Nat} (h : p k = false) : pick p (k + 1) = pick p k := by
  simp [pick, List.range_succ, h]
def soon (l : List (Int × Int)) (d : Int) (k : Nat) : Bool := decide (0 < k) && decide ((l.getD k (0, 0)).2 - (l.getD (k - 1) (0, 0)).2 < d)
theorem soon_eq {l : List (Int × Int)} {d : Int} {k : Nat} {x y : Int × Int} (hk : 0 < k) (hx : l[k]? = some x) (hy : l[k - 1]? = some y) : soon l d k = decide (x.2 - y.2 < d) := by
  simp [soon, List.getD, hk, hx, hy]
def clipOk (l : List (Int × Int)) (d : Int) : Bool := goodStrikes l && inB d 0 10000
def clipR (l : List (Int × Int)) (d : Int) : List Int := if clipOk l d = true then pick (soon l d) l.length else []
theorem clipR_t {l : List (Int × Int)} {d : Int} (h : clipOk l d = true) : clipR l d = pick (soon l d) l.length := by rw [clipR, if_pos h]
theorem clipR_f {l : List (Int × Int)} {d : Int} (h : clipOk l d = false) : clipR l d = [] := by rw [clipR, if_neg (by rw [h]; simp)]
theorem clip_short {l : List (Int × Int)} {d : Int} (h : l.length ≤ 1) : pick (soon l d) l.length = [] := by
  rcases Nat.le_one_iff_eq_zero_or_eq_one.1 h with h | h <;> rw [h] <;> rfl
end Go.Proofs.YtoheahbkopbmhaaDoor
