/- The walks through the generator's cursor. -/
import Derived.Test.YtdnbdnfoogjcmaaApp
import Derived.Test.YtdnbdnfoogjcmaaTab
import Derived.Test.YtdnbdnfoogjcmaaBytes
import Derived.Laws.Bits64b
namespace Go.Proofs.Ytdnbdnfoogjcmaa
set_option linter.unusedVariables false
set_option linter.unusedSimpArgs false
open Go.ChangeShapes Go.WideShapes Go.ChangeAt Go.RowKit Go.Deep
/-- Block p is a cursor over n bytes with address A, at most a steps on. -/
def Cur (w : World) (p : Nat) (A : Option Addr) (n c a : Nat) : Prop := ∃ (k : Nat) (s : Int), Blk w p 64 [.slice A n c, .int .i64 k, .int .u64 s] ∧ k ≤ a ∧ 0 ≤ s ∧ s ≤ 18446744073709551615
/-- The bytes that a cursor reads, as they stood in world w0. -/
def Src (w0 : World) (A : Option Addr) (n : Nat) : Prop := ∃ l : List Int, l.length = n ∧ n ≤ 1048576 ∧ (∀ x ∈ l, 0 ≤ x ∧ x ≤ 255) ∧ Recs byteE 1 w0 A l
theorem Cur.mono {w : World} {p : Nat} {A : Option Addr} {n c a b : Nat} (h : Cur w p A n c a) (hb : a ≤ b) : Cur w p A n c b := by
  obtain ⟨k, s, h1, h2, h3⟩ := h
  exact ⟨k, s, h1, by omega, h3⟩
theorem Cur.lt {w : World} {p : Nat} {A : Option Addr} {n c a : Nat} (h : Cur w p A n c a) : p < w.heap.size := by
  obtain ⟨k, s, h1, _⟩ := h
  exact h1.lt
theorem Cur.grown {w w' : World} {p : Nat} {A : Option Addr} {n c a : Nat} {row : Option Nat} (h : Cur w p A n c a) (hg : w.grownBy w' row) (hne : some p ≠ row) : Cur w' p A n c a := by
  obtain ⟨k, s, h1, h2⟩ := h
  exact ⟨k, s, h1.grown hg hne, h2⟩
theorem Cur.up {w w' : World} {p : Nat} {A : Option Addr} {n c a : Nat} (h : Cur w p A n c a) (hb : Below w.heap.size w w') : Cur w' p A n c a := h.grown (grown_of_below hb) (by simp)
theorem Recs.at_byte {w : World} {A : Option Addr} {l : List Int} {k : Nat} (h : Recs byteE 1 w A l) (hk : k < l.length) : ∃ b off x, A = some ⟨b, off, none⟩ ∧ b < w.heap.size ∧ l[k]? = some x ∧ w.cell? ⟨b, off + k, none⟩ = some (.int .u8 x) := by
  obtain ⟨b, off, hA, hb, hc⟩ := h.cells (by omega)
  obtain ⟨x, hx⟩ := some_of_lt hk
  exact ⟨b, off, x, hA, hb, hx, by simpa using hc k x 0 _ hx rfl⟩
theorem u64_bd (x : Int) : 0 ≤ IntKind.u64.wrap x ∧ IntKind.u64.wrap x ≤ 18446744073709551615 := by rw [IntKind.wrap_u64]; omega
theorem and255 {x : Int} (h0 : 0 ≤ x) (h1 : x ≤ 18446744073709551615) : 0 ≤ bits .and .u64 x 255 ∧ bits .and .u64 x 255 ≤ 255 := by
  obtain ⟨n, rfl⟩ := Int.eq_ofNat_of_zero_le h0
  have e : bits .and .u64 (n : Int) ((255 : Nat) : Int) = ((n &&& 255 : Nat) : Int) := bits_and_u64_nat n 255 (by omega) (by omega)
  have h := Nat.and_le_right (n := n) (m := 255)
  rw [show ((255 : Int)) = ((255 : Nat) : Int) from rfl, e]
  omega
set_option maxRecDepth 100000 in
theorem cur_next {A : Option Addr} {n c a p : Nat} {w0 w : World} (hS : Src w0 A n) (hb : Below w0.heap.size w0 w) (hp : w0.heap.size ≤ p) (hc : Cur w p A n c a) (ha : a ≤ 16777216) :
    Calls Try.prog 72 #[.pointer (some ⟨p, 0, none⟩)] w fun e w' => ∃ x : Int, e = .returned (.int .i64 x) ∧ 0 ≤ x ∧ x ≤ 255 ∧ Cur w' p A n c (a + 1) ∧ w.grownBy w' (some p) := by
  obtain ⟨l, rfl, hn, hlb, hR⟩ := hS
  obtain ⟨k, s, K, hk, s0, s1⟩ := hc
  have k0 := K.cell 0; have k1 := K.cell 1; have k2 := K.cell 2
  have f1 := K.frozen 1; have f2 := K.frozen 2
  simp only [List.getElem?_cons_zero, List.getElem?_cons_succ] at k0 k1 k2
  have HK := Lib.hid K
  clear K
  by_cases hlt : k < l.length
  · have hI : (k : Int) < (l.length : Int) := by omega
    have hJ : (k : Int) + 1 ≤ (l.length : Int) := by omega
    obtain ⟨b, o, x, rfl, _, hx, hcx⟩ := (hR.below hb (Nat.le_refl _)).at_byte hlt
    have hxb := hlb x (List.mem_of_getElem? hx)
    have gx : IntKind.i64.wrap x = x := wrap_id (by omega)
    clear hx hR hlb
    go_in
    go_wp2
    go_quiet (fail)
    go_wp2
    go_quiet (fail)
    go_wp2
    go_quiet (fail)
    go_wp2
    go_ret
    refine ⟨_, rfl, hxb.1, hxb.2, ⟨k + 1, _, ((HK.out.drewN _).set_ 1 _).set_ 2 _, by omega, (u64_bd _).1, (u64_bd _).2⟩, ?_⟩
    exact grownBy_trans (grownBy_trans (grown_any (below_drewN (Below.refl _ _) _) _) (only_set _ (p := ⟨p, 1, none⟩) _)) (grownBy_trans (only_set _ (p := ⟨p, 2, none⟩) _) (grown_any (below_drewN (Below.refl _ _) _) _))
  · have hI : ¬ (k : Int) < (l.length : Int) := by omega
    have hJ : ¬ (k : Int) + 1 ≤ (l.length : Int) := by omega
    clear hR hlb
    go_in
    go_wp2
    go_quiet (fail)
    go_wp2
    go_quiet (fail)
    go_wp2
    obtain ⟨T, hT⟩ : ∃ T, T = IntKind.u64.wrap (IntKind.u64.wrap (IntKind.u64.wrap (s * 6364136223846793005)) + 1442695040888963407) := ⟨_, rfl⟩
    have hTb : 0 ≤ T ∧ T ≤ 18446744073709551615 := by rw [hT]; exact u64_bd _
    rw [← hT]
    clear hT
    have hA := and255 (x := T / 1099511627776) (by omega) (by omega)
    obtain ⟨v, hv⟩ : ∃ v, v = bits BinOp.and IntKind.u64 (T / 1099511627776) 255 := ⟨_, rfl⟩
    rw [← hv] at hA ⊢
    clear hv
    have hwv : wrap64 v = v := by unfold wrap64; omega
    rw [hwv]
    clear hwv
    go_ret
    refine ⟨_, rfl, hA.1, hA.2, ⟨k + 1, _, ((HK.out.drewN _).set_ 1 _).set_ 2 _, by omega, hTb.1, hTb.2⟩, ?_⟩
    exact grownBy_trans (grownBy_trans (grown_any (below_drewN (Below.refl _ _) _) _) (only_set _ (p := ⟨p, 1, none⟩) _)) (grownBy_trans (only_set _ (p := ⟨p, 2, none⟩) _) (grown_any (below_drewN (Below.refl _ _) _) _))
theorem grown_below {w0 w w' : World} {p : Nat} (hb : Below w0.heap.size w0 w) (hp : w0.heap.size ≤ p) (hg : w.grownBy w' (some p)) : Below w0.heap.size w0 w' := hb.grown hg hb.size fun k hk => by injection hk with hk; omega
/-- A number below n, or 0. -/
def upTo (n x : Int) : Prop := 0 ≤ x ∧ (x < n ∨ x = 0)
set_option maxRecDepth 100000 in
theorem cur_pick {A : Option Addr} {n c a p : Nat} {N : Int} {w0 w : World} (hS : Src w0 A n) (hb : Below w0.heap.size w0 w) (hp : w0.heap.size ≤ p) (hc : Cur w p A n c a) (ha : a ≤ 16777216) (hN : N ≤ 200) (hN0 : -1000 ≤ N) :
    Calls Try.prog 47 #[.pointer (some ⟨p, 0, none⟩), .int .i64 N] w fun e w' => ∃ x : Int, e = .returned (.int .i64 x) ∧ upTo N x ∧ Cur w' p A n c (a + 1) ∧ w.grownBy w' (some p) := by
  by_cases h1 : N ≤ 1
  · go_in
    go_wp2
    go_ret
    exact ⟨0, rfl, ⟨Int.le_refl _, .inr rfl⟩, hc.mono (by omega), grown_any (Below.refl _ _) _⟩
  · go_in
    go_wp2_with fail
    refine (cur_next hS hb hp hc ha).mono ?_; rintro e w1 ⟨x, rfl, x0, x1, hc1, hg1⟩
    have hm : x.tmod N = x % N := Int.tmod_eq_emod_of_nonneg x0
    have m0 := Int.emod_nonneg x (show N ≠ 0 by omega)
    have m1 := Int.emod_lt_of_pos x (show 0 < N by omega)
    have hN1 : ¬ N = 0 := by omega
    go_wp2
    go_ret
    exact ⟨_, rfl, ⟨by omega, .inl (by omega)⟩, hc1, hg1⟩
theorem cur_one {A : Option Addr} {n c a p : Nat} {N : Int} {w0 w : World} (hS : Src w0 A n) (hb : Below w0.heap.size w0 w) (hp : w0.heap.size ≤ p) (hc : Cur w p A n c a) (ha : a ≤ 16777216) (hN : N ≤ 200) (hN0 : -1000 ≤ N) :
    Calls Try.prog 33 #[.pointer (some ⟨p, 0, none⟩), .int .i64 N] w fun e w' => ∃ b : Bool, e = .returned (.bool b) ∧ Cur w' p A n c (a + 1) ∧ w.grownBy w' (some p) := by
  go_in
  go_wp2_with fail
  refine (cur_pick hS hb hp hc ha hN hN0).mono ?_; rintro e w1 ⟨x, rfl, _, hc1, hg1⟩
  go_wp2
  go_ret
  exact ⟨_, rfl, hc1, hg1⟩
theorem lit_ints (w : World) (t : TypeId) (l : List Int) : Ints (w.alloc (.cells ⟨l.map fun x => Value.int .i64 x⟩ t)) (some ⟨w.heap.size, 0, none⟩) l := by
  refine ⟨intE_len, by rw [flatMap_len intE_len], fun hn => ⟨w.heap.size, 0, rfl, by simp, fun j u hu => ?_⟩⟩
  have h := Box.new w (l.map fun x => Value.int .i64 x) t
  rw [Nat.zero_add]
  refine h j u ?_
  rw [← hu]
  congr 1
  exact (flatMap_one (fun x => Value.int .i64 x) l).symm
theorem cur_among {A B : Option Addr} {n c a p m d : Nat} {l : List Int} {w0 w : World} (hS : Src w0 A n) (hb : Below w0.heap.size w0 w) (hp : w0.heap.size ≤ p) (hc : Cur w p A n c a) (ha : a ≤ 16777216) (hm : l.length = m) (hl : Ints w B l) (hm0 : 0 < m) (hm1 : m ≤ 200) (hne : ∀ b o, B = some ⟨b, o, none⟩ → b ≠ p) :
    Calls Try.prog 48 #[.pointer (some ⟨p, 0, none⟩), .slice B m d] w fun e w' => ∃ x ∈ l, e = .returned (.int .i64 x) ∧ Cur w' p A n c (a + 1) ∧ w.grownBy w' (some p) := by
  subst hm
  go_in
  go_wp2_with fail
  refine (cur_pick hS hb hp hc ha (by omega) (by omega)).mono ?_; rintro e w1 ⟨x, rfl, ⟨x0, x1⟩, hc1, hg1⟩
  obtain ⟨k, rfl⟩ := Int.eq_ofNat_of_zero_le x0
  have hk : k < l.length := by omega
  obtain ⟨b, o, y, rfl, hbb, hy, hcy⟩ := hl.at_int hk
  have hcz : w1.cell? ⟨b, o + k, none⟩ = some (.int .i64 y) := (hg1.cell_far ⟨b, o + k, none⟩ hbb (fun e => hne b o rfl (by injection e))).trans hcy
  have HY := Lib.hid hy
  clear hy hl hcy x1
  go_wp2
  go_ret
  exact ⟨y, List.mem_of_getElem? HY.out, rfl, hc1, hg1⟩
theorem cur_skip {A : Option Addr} {n c a p : Nat} {w0 w : World} (hS : Src w0 A n) (hb : Below w0.heap.size w0 w) (hp : w0.heap.size ≤ p) (hc : Cur w p A n c a) (ha : a ≤ 16777216) :
    Calls Try.prog 52 #[.pointer (some ⟨p, 0, none⟩)] w fun e w' => ∃ x : Int, e = .returned (.int .i64 x) ∧ 0 ≤ x ∧ x ≤ 10001 ∧ Cur w' p A n c (a + 1) ∧ w.grownBy w' (some p) := by
  have hl := lit_ints w 3 [50, 50, 100, 10, 0, 10000, 10001]
  have hlt := hc.lt
  go_in
  go_wp2_with fail
  refine (cur_among hS (hb.alloc hb.size _) hp (hc.up ((Below.refl _ _).alloc (Nat.le_refl _) _)) ha rfl hl (by decide) (by decide) (fun b o e => by injection e with e; injection e with e; omega)).mono ?_; rintro e w1 ⟨x, hx, rfl, hc1, hg1⟩
  go_wp2
  go_ret
  simp only [List.mem_cons, List.not_mem_nil, or_false] at hx
  exact ⟨x, rfl, by omega, by omega, hc1, grownBy_trans (World.grownBy_alloc _ _ _) hg1⟩
end Go.Proofs.Ytdnbdnfoogjcmaa
