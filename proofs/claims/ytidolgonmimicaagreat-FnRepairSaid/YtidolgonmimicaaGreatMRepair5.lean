/- Texts 5 of 6 that the claim leans on: plain laws and the walks' contracts, in order. -/
import Derived.Test.YtidolgonmimicaaGreatMRepair4
import Derived.Maps.RangeWalk
import Derived.Sort.KeysCollected
import Derived.Shelf.Strings.Builder1
import Derived.Shelf.Strings.Builder2
import Derived.Shelf.Small.Strs
import Derived.Shelf.Strings.BuilderF
import Derived.Shelf.Strings.Search1
import Derived.Shelf.Sort.Plain
import Derived.Shelf.Strings.Prefix
import Derived.Shelf.Bits.Mul64
import Derived.Shelf.Strings.Repeat
import Derived.Shelf.Slices.CompactS
import Derived.Test.YtidolgonmimicaaGreatProg
import Derived.Sort.OwnSorted
import Derived.Shelf.Spec.SearchS
import Derived.Ground.Names2Prog
import Derived.Deep.Cut
import Derived.Deep.DeepCutAuto
set_option linter.unusedVariables false
set_option linter.unusedSimpArgs false
namespace Go.Proofs.YtidolgonmimicaaGreat
open Go.ChangeShapes Go.WideShapes Go.ChangeAt Go.RowKit Go.Deep
open Go.Maps (Keyed string_keyed)
open Go.WideMaps (keyOf_string_mk)
def SetD (D : DataW Unit) (S : List ByteArray) : Prop := ∀ s : ByteArray, s.size ≤ maxLen → Maps.has D (sLi s) = inL S s ∧ (inL S s = true → ∀ z, D.atKey (sLi s) z = .lit (.bool true)) ∧ (inL S s = false → ∀ z, D.atKey (sLi s) z = z)
def SetX (P : Program) (w : World) (k e : TypeId) (b : Nat) (S : List ByteArray) : Prop :=
 ∃ (D : DataW Unit) (m : Nat), w.ownsMap P k (plainElem P e) b m D ∧ m ≤ S.length ∧ Maps.size D = m ∧ SetD D S
theorem sLi_inj {s t : ByteArray} (h : sLi s = sLi t) : s = t := by
 injection h with h
 exact ba_ext h
theorem inL_snoc (S : List ByteArray) (x s : ByteArray) : inL (S ++ [x]) s = (inL S s || decide (x = s)) := by simp [inL, List.any_append]
section
variable {P : Program} {w w' : World} {k e : TypeId} {b n : Nat} {S : List ByteArray}
theorem SetX.made (P : Program) (w : World) (k e : TypeId) : SetX P (w.alloc (.map #[] 0)) k e w.heap.size [] :=
 ⟨.map [], 0, World.ownsMap_made w P k _, Nat.le_refl _, rfl, fun s _ => ⟨rfl, fun q => (by cases q), fun _ _ => rfl⟩⟩
theorem SetX.lt (h : SetX P w k e b S) : b < w.heap.size := by
 obtain ⟨D, m, h1, _⟩ := h
 exact h1.lt
theorem SetX.kept {row : Option Nat} (h : SetX P w k e b S) (hg : w.grownBy w' row) (hne : some b ≠ row) : SetX P w' k e b S := by
 obtain ⟨D, m, h1, h2⟩ := h
 exact ⟨D, m, h1.kept hg hne, h2⟩
theorem SetX.up (h : SetX P w k e b S) (hb : Below w.heap.size w w') : SetX P w' k e b S := h.kept (grown_of_below hb) (by simp)
theorem SetX.alloc (h : SetX P w k e b S) (o : Obj) : SetX P (w.alloc o) k e b S := h.up ((Below.refl _ _).alloc (Nat.le_refl _) o)
theorem SetX.drew (h : SetX P w k e b S) : SetX P w.drew k e b S := h.up (Below.refl _ _).drew
theorem SetX.look {t : TypeId} (h : SetX P w k e b S) (K : Keyed P k) (ht : P.underlying t = some (.map k e)) (hk : P.underlying k = some .string) (he : P.underlying e = some .bool) (hz : (zeroValue e).run P w = .ok (.bool false) w) {s : ByteArray} (hs : s.size ≤ 16777216) :
  (Instr.lookup t (.map (some b)) (.string s) false).run P w = .ok (.bool (inL S s)) w := by
 obtain ⟨D, m, h1, _, _, h2⟩ := h
 have hm : s.size ≤ maxLen := by unfold maxLen; omega
 obtain ⟨v, ps, hrun, hv⟩ := h1.lookup K ht hz (plainElem_bool he false) (keyOf_string_mk hk hm)
 obtain ⟨_, a1, a2⟩ := h2 s hm
 rcases hi : inL S s
 ·rw [show (Lit.string s.data.toList) = sLi s from rfl, a2 hi] at hv
  rw [hrun, plainElem_bool_inv he hv]
 ·rw [show (Lit.string s.data.toList) = sLi s from rfl, a1 hi] at hv
  rw [hrun, plainElem_bool_inv he hv]
theorem SetX.add {t : TypeId} (K : Keyed P k) (ht : P.underlying t = some (.map k e)) (hk : P.underlying k = some .string) (he : P.underlying e = some .bool) (h : SetX P w k e b S) (hn : S.length ≤ 16777216) {s : ByteArray} (hs : s.size ≤ 16777216) :
  ∃ w', (Instr.mapUpdate t (.map (some b)) (.string s) (.bool true)).run P w = .ok () w' ∧ SetX P w' k e b (S ++ [s]) ∧ w.grownBy w' (some b) := by
 obtain ⟨D, m, h1, hmS, h3, h2⟩ := h
 have hm : s.size ≤ maxLen := by unfold maxLen; omega
 have hkey : keyOf P k (.string s) = some (sLi s) := keyOf_string_mk hk hm
 obtain ⟨w', hrun, hown, hg⟩ := h1.update K ht (by unfold maxLen; omega) hkey (plainElem_bool he true)
 have e0 : Maps.size (D.put (sLi s) (.lit (.bool true))) ≤ S.length + 1 := by
  rw [Maps.size_put (h1.tidy K), h3]
  split <;> omega
 refine ⟨w', hrun, ⟨_, _, ownsMap_tight2 hown, by rw [List.length_append]; exact e0, rfl, fun q hq => ?_⟩, hg⟩
 rw [inL_snoc]
 by_cases ek : s = q
 ·subst ek
  refine ⟨?_, fun _ z => Maps.atKey_put_same h1.isMap (K.key hkey) _ _, fun hf => ?_⟩
  ·rw [Maps.has_put_same h1.isMap (K.key hkey)]; simp
  ·simp at hf
 ·have e1 : sLi q ≠ sLi s := fun e2 => ek (sLi_inj e2).symm
  obtain ⟨a0, a1, a2⟩ := h2 q hq
  rw [Maps.has_put_other e1, decide_eq_false ek, Bool.or_false]
  exact ⟨a0, fun hi z => by rw [Maps.atKey_put_other e1]; exact a1 hi z, fun hi z => by rw [Maps.atKey_put_other e1]; exact a2 hi z⟩
theorem SetD.keys {D : DataW Unit} {K : List ByteArray} {left : Lit → Bool} (hD : SetD D S) (hown : w.ownsMap P k (plainElem P e) b n D) (KS : Keyed P k) (hk : P.underlying k = some .string) (hC : Collected D left (K.map fun s => s.data.toList)) (hl : ∀ kl, left kl = false) (hS : ∀ s ∈ S, s.size ≤ 16777216) :
  K.Nodup ∧ ∀ x, x ∈ K ↔ x ∈ S := by
 have hin : ∀ x : ByteArray, x ∈ K ↔ x.data.toList ∈ K.map fun s => s.data.toList := fun x => ⟨fun h => List.mem_map.2 ⟨x, h, rfl⟩, fun h => by
  obtain ⟨y, hy, ey⟩ := List.mem_map.1 h
  rw [ba_ext ey] at hy; exact hy⟩
 refine ⟨(List.pairwise_map.1 hC.1).imp fun h e => h (by rw [e]), fun x => ?_⟩
 rw [hin, hC.2, hl]
 constructor
 ·rintro ⟨hh, _⟩
  have hx : x.data.toList ∈ K.map fun s => s.data.toList := (hC.2 _).2 ⟨hh, hl _⟩
  have hz := strKeys_le hown hk _ ((hC.perm hown KS hk hl).mem_iff.1 hx)
  have := (hD x (by simpa using hz)).1
  rw [show sLi x = Lit.string x.data.toList from rfl, hh] at this
  exact inL_iff.1 this.symm
 ·intro h
  have hz := hS x h
  have := (hD x (by unfold maxLen; omega)).1
  rw [inL_iff.2 h] at this
  exact ⟨this, rfl⟩
end
theorem wpList_setx_add {P : Program} {ops : Array Oper} {rest : List Oper} {o : Oper} {a : Act} {Q : Exit → Act → World → Prop} {W : World} {k e : TypeId} {b : Nat} {S : List ByteArray} (hgd : o.guard = none) (M X V : Operand) (t : TypeId) (hop : o.op = Op.mapUpdate t M X V) (K : Keyed P k) (ht : P.underlying t = some (.map k e)) (hk : P.underlying k = some .string) (he : P.underlying e = some .bool) (hm : a.eval M = .map (some b)) (h : SetX P W k e b S) (hn : S.length ≤ 16777216) {s : ByteArray} (hx : a.eval X = .string s) (hv : a.eval V = .bool true) (hs : s.size ≤ 16777216)
  (hK : ∀ w', SetX P w' k e b (S ++ [s]) → W.grownBy w' (some b) → wpList P ops Q rest (a.put o.dst undef) w') : wpList P ops Q (o :: rest) a W :=
 wpList_plain hgd fun K' hK' => by
  obtain ⟨w', hrun, r1, r2⟩ := h.add K ht hk he hn hs
  unfold Oper.wp
  simp [execOp, hop, hm, hx, hv, hrun, Result.andThen]
  exact hK' _ _ (hK w' r1 r2)
end Go.Proofs.YtidolgonmimicaaGreat
namespace Go.Proofs
open Go.Shelf
def Tryz.lays190_ren : Go.Shelf.Ren := ⟨fun | 190 => 155 | 125 => 210 | 258 => 209 | 128 => 242 | 129 => 243 | 302 => 234 | 303 => 235 | 304 => 236 | 305 => 237 | 306 => 238 | 307 => 239 | 308 => 232 | 309 => 240 | 310 => 241 | 333 => 256 | 329 => 257 | 330 => 258 | 334 => 259 | 335 => 260 | 336 => 255 | 344 => 263 | n => n, fun | 31 => 23 | 9 => 9 | 3 => 3 | 46 => 149 | 0 => 0 | 51 => 178 | 53 => 85 | 4 => 4 | 183 => 188 | 182 => 187 | 131 => 60 | 5 => 5 | 218 => 205 | 222 => 209 | 228 => 212 | 229 => 213 | n => n, fun | n => n⟩
theorem Tryz.lays190 : Go.Proofs.Lays.n190 Tryz.prog Tryz.lays190_ren := {
 mixed := by kernel_rfl
 f125 := Tryz.func210.trans (congrArg some (by kernel_rfl))
 f128 := Tryz.func242.trans (congrArg some (by kernel_rfl))
 f129 := Tryz.func243.trans (congrArg some (by kernel_rfl))
 f190 := Tryz.func155.trans (congrArg some (by kernel_rfl))
 f258 := Tryz.func209.trans (congrArg some (by kernel_rfl))
 f302 := Tryz.func234.trans (congrArg some (by kernel_rfl))
 f303 := Tryz.func235.trans (congrArg some (by kernel_rfl))
 f304 := Tryz.func236.trans (congrArg some (by kernel_rfl))
 f305 := Tryz.func237.trans (congrArg some (by kernel_rfl))
 f306 := Tryz.func238.trans (congrArg some (by kernel_rfl))
 f307 := Tryz.func239.trans (congrArg some (by kernel_rfl))
 f308 := Tryz.func232.trans (congrArg some (by kernel_rfl))
 f309 := Tryz.func240.trans (congrArg some (by kernel_rfl))
 f310 := Tryz.func241.trans (congrArg some (by kernel_rfl))
 f329 := Tryz.func257.trans (congrArg some (by kernel_rfl))
 f330 := Tryz.func258.trans (congrArg some (by kernel_rfl))
 f333 := Tryz.func256.trans (congrArg some (by kernel_rfl))
 f334 := Tryz.func259.trans (congrArg some (by kernel_rfl))
 f335 := Tryz.func260.trans (congrArg some (by kernel_rfl))
 f336 := Tryz.func255.trans (congrArg some (by kernel_rfl))
 f344 := Tryz.func263.trans (congrArg some (by kernel_rfl))
 t0 := Tryz.underlying0
 a0 := Tryz.isAgg0
 z0 := Tryz.sizeOf0
 v0 := Tryz.zeroValue0
 t3 := Tryz.underlying3
 a3 := Tryz.isAgg3
 z3 := Tryz.sizeOf3
 v3 := Tryz.zeroValue3
 t4 := Tryz.underlying4
 a4 := Tryz.isAgg4
 z4 := Tryz.sizeOf4
 v4 := Tryz.zeroValue4
 t5 := Tryz.underlying5
 a5 := Tryz.isAgg5
 z5 := Tryz.sizeOf5
 v5 := Tryz.zeroValue5
 t9 := Tryz.underlying9
 a9 := Tryz.isAgg9
 z9 := Tryz.sizeOf9
 v9 := Tryz.zeroValue9
 t31 := Tryz.underlying23
 a31 := Tryz.isAgg23
 z31 := Tryz.sizeOf23
 v31 := Tryz.zeroValue23
 t46 := Tryz.underlying149
 a46 := Tryz.isAgg149
 z46 := Tryz.sizeOf149
 v46 := Tryz.zeroValue149
 t51 := Tryz.underlying178
 a51 := Tryz.isAgg178
 z51 := Tryz.sizeOf178
 v51 := Tryz.zeroValue178
 t53 := Tryz.underlying85
 a53 := Tryz.isAgg85
 z53 := Tryz.sizeOf85
 v53 := Tryz.zeroValue85
 t131 := Tryz.underlying60
 a131 := Tryz.isAgg60
 z131 := Tryz.sizeOf60
 v131 := Tryz.zeroValue60
 t182 := Tryz.underlying187
 a182 := Tryz.isAgg187
 z182 := Tryz.sizeOf187
 v182 := Tryz.zeroValue187
 t183 := Tryz.underlying188
 a183 := Tryz.isAgg188
 z183 := Tryz.sizeOf188
 v183 := Tryz.zeroValue188
 t218 := Tryz.underlying205
 a218 := Tryz.isAgg205
 z218 := Tryz.sizeOf205
 v218 := Tryz.zeroValue205
 t222 := Tryz.underlying209
 a222 := Tryz.isAgg209
 z222 := Tryz.sizeOf209
 v222 := Tryz.zeroValue209
 t228 := Tryz.underlying212
 a228 := Tryz.isAgg212
 z228 := Tryz.sizeOf212
 v228 := Tryz.zeroValue212
 t229 := Tryz.underlying213
 a229 := Tryz.isAgg213
 z229 := Tryz.sizeOf213
 v229 := Tryz.zeroValue213 }
open Go.Sort Go.RowKit in
theorem Tryz.slices_Sort_string (blk off cap : Nat) (ss : List (List UInt8)) (w : World) (hH : Holds encStr w blk off ss.toArray) (hblk : blk < w.heap.size) (hsz : ss.length < 4611686018427387904) :
  Calls Tryz.prog 155 #[.slice (some ⟨blk, off, none⟩) ss.length cap] w fun e w' =>
   e = .returned (.tuple #[]) ∧ ∃ n os, w' = grow (putRow encStr (Sort.ahead w n) blk off (ss.mergeSort fun x y => decide (x ≤ y)).toArray) os := Any.slices_Sort_string Tryz.lays190 blk off cap ss w hH hblk hsz
end Go.Proofs
namespace Go.Proofs.YtidolgonmimicaaGreat
open Go.ChangeShapes Go.WideShapes Go.ChangeAt Go.RowKit Go.Deep
theorem bytes_lt : ∀ a b : List UInt8, Op.bytesLess a b = decide (a < b)
 | [], [] => by simp [Op.bytesLess]
 | [], _ :: _ => by simp [Op.bytesLess]
 | _ :: _, [] => by simp [Op.bytesLess]
 | x :: a, y :: b => by
  rw [Op.bytesLess, bytes_lt a b]
  simp only [List.cons_lt_cons_iff]
  rcases Nat.lt_trichotomy x.toNat y.toNat with h | h | h
  ·have h1 : x < y := h
   simp [h1]
  ·have h1 : x = y := UInt8.toNat_inj.1 h
   subst h1; simp
  ·have h1 : ¬ x < y := fun q => Nat.lt_asymm h q
   have h2 : ¬ x = y := fun q => by subst q; exact Nat.lt_irrefl _ h
   simp [h1, h2]
theorem ba_list (s : ByteArray) : (⟨s.data.toList.toArray⟩ : ByteArray) = s := by cases s; simp
theorem le_leS {x y : List UInt8} (h : decide (x ≤ y) = true) : leS ⟨x.toArray⟩ ⟨y.toArray⟩ = true := by
 rw [leS, less, ByteArray.toList_eq, ByteArray.toList_eq, bytes_lt]
 simpa using h
theorem sort_strs {g n c base : Nat} {l : List ByteArray} {w : World} (ho : Owned strE 1 9 w base (some ⟨g, 0, none⟩) n c l) (hn : n ≤ 16777216) :
  Calls Tryz.prog 155 #[.slice (some ⟨g, 0, none⟩) n c] w fun e w' => e = .returned (.tuple #[]) ∧ ∃ L, Owned strE 1 9 w' base (some ⟨g, 0, none⟩) n c L ∧ L.Perm l ∧ Srt L ∧ w.grownBy w' (some g) := by
 obtain ⟨he, hl, _, hv⟩ := ho
 rcases hv with ⟨h0, _⟩ | ⟨g', c', cur, hv, hbase, hb, h1, h2, h3, h4⟩
 ·cases h0
 cases hv
 obtain ⟨ss, hss⟩ : ∃ ss, ss = l.map fun s : ByteArray => s.data.toList := ⟨_, rfl⟩
 have hlen : ss.length = n := by rw [hss, List.length_map, hl]
 have hE : ∀ m : List ByteArray, m.flatMap strE = (m.map fun s : ByteArray => s.data.toList).map encStr := fun m => by
  rw [show strE = fun s => [Value.string s] from rfl, flatMap_one, List.map_map]
  exact List.map_congr_left fun s _ => by simp [encStr, ba_list]
 have hH : Sort.Holds encStr w g 0 ss.toArray := holds_of_block hb (by rw [hlen, hss, ← hE]; simpa using h4)
 have hc := Tryz.slices_Sort_string g 0 c ss w hH (Array.getElem?_eq_some_iff.1 hb).1 (by omega)
 rw [hlen] at hc
 refine hc.mono ?_
 rintro e w' ⟨rfl, k, os, rfl⟩
 refine ⟨rfl, (ss.mergeSort fun x y => decide (x ≤ y)).map fun x => (⟨x.toArray⟩ : ByteArray), ?_, ?_, ?_, grownBy_sorted _⟩
 ·have hr := ownsRow_sorted (n := k) (os := os) (ss := ss) (ts := ss.mergeSort fun x y => decide (x ≤ y)) (by simp) hbase hb (by rw [hlen]; exact h1) h2 h3
  rw [hlen] at hr
  refine ⟨he, by simp [hlen], ?_⟩
  have e2 : ((ss.mergeSort fun x y => decide (x ≤ y)).map fun x : List UInt8 => (⟨x.toArray⟩ : ByteArray)).map (fun s : ByteArray => s.data.toList) = ss.mergeSort fun x y => decide (x ≤ y) := by
   rw [List.map_map, List.map_congr_left (g := id) (fun x _ => by simp)]; simp
  rw [hE, e2]
  exact hr
 ·have hp : (ss.mergeSort fun x y => decide (x ≤ y)).Perm ss := List.mergeSort_perm _ _
  have hq := hp.map fun x => (⟨x.toArray⟩ : ByteArray)
  rw [hss, List.map_map] at hq
  have e1 : l.map ((fun x : List UInt8 => (⟨x.toArray⟩ : ByteArray)) ∘ fun s : ByteArray => s.data.toList) = l := by
   rw [List.map_congr_left (g := id) (fun s _ => by exact ba_list s)]; simp
  rw [e1] at hq
  rw [hss]; exact hq
 ·have hs := List.pairwise_mergeSort (le := fun x y : List UInt8 => decide (x ≤ y)) (fun a b c h1 h2 => by simp at h1 h2 ⊢; exact List.le_trans h1 h2) (fun a b => by simp; exact List.le_total a b) ss
  rw [Srt, List.pairwise_map]
  exact hs.imp fun h => le_leS h
end Go.Proofs.YtidolgonmimicaaGreat
namespace Go.Proofs.YtidolgonmimicaaGreat
open Go.ChangeShapes Go.WideShapes Go.ChangeAt Go.RowKit Go.Deep
set_option maxRecDepth 100000 in
theorem equal_strs (A C : Option Addr) (n n' c d : Nat) (l m : List ByteArray) (w : World) (hn : l.length = n) (hn' : m.length = n') (h : Recs strE 1 w A l) (g : Recs strE 1 w C m) (hz : n ≤ 16777216) (hz' : n' ≤ 16777216) :
  Calls Tryz.prog 111 #[.slice A n c, .slice C n' d] w fun e w' => e = .returned (.bool (decide (l = m))) ∧ Below w.heap.size w w' := by
 subst hn hn'
 by_cases hl : l.length = m.length
 ·have HL := Lib.hid hl
  rw [← hl]
  clear hl
  go_in
  go_wp2
  go_loopw [13] (fun i wr => ∃ k : Nat, k ≤ l.length ∧ i = .int .i64 k ∧ Hid (∀ j, j < k → l[j]? = m[j]?) ∧ Below w.heap.size w wr) (fun i _ => l.length - (intOf i).toNat)
  case atStart => exact ⟨0, Nat.zero_le _, rfl, Lib.hid (fun j hj => absurd hj (by omega)), Below.refl _ _⟩
  case round =>
   obtain ⟨k, hk, rfl, HT, hb⟩ := hrel
   by_cases hlt : k < l.length
   ·obtain ⟨b1, o1, x, rfl, _, hx, hcx⟩ := (h.below hb (Nat.le_refl _)).at_str hlt
    obtain ⟨b2, o2, y, rfl, _, hy, hcy⟩ := (g.below hb (Nat.le_refl _)).at_str (by rw [← HL.out]; exact hlt)
    have HX := Lib.hid hx
    have HY := Lib.hid hy
    clear hx hy h g
    rcases hne : (x.toList == y.toList)
    ·have he := Lib.hid hne
     go_wp2
     go_quiet (fail)
     go_wp2
     go_ret
     refine ⟨ret_bool ?_, by (repeat' (first | (with_reducible exact Below.refl _ _) | (with_reducible assumption) | (with_reducible refine below_drewN ?_ _) | (with_reducible refine Below.drew ?_) | (with_reducible refine below_alloc ?_ _) | (with_reducible refine Below.alloc ?_ ?_ _) | (with_reducible refine Below.setCell ?_ ?_ _) | (with_reducible refine below_go ?_ (by with_reducible assumption)) | (with_reducible refine below_then (by with_reducible assumption) ?_ ?_) | go_size))⟩
     have hd : l ≠ m := fun e => by
      have h1 := HX.out
      rw [e, HY.out] at h1
      injection h1 with h1
      have h2 := he.out
      rw [h1] at h2
      simp at h2
     simp [hd]
    ·have he := Lib.hid hne
     go_wp2
     go_quiet (fail)
     go_wp2
     go_roundw
     case rel => exact ⟨k + 1, by omega, by go_num, Lib.hid (upto_succ HT.out (by rw [HX.out, HY.out, bytes_same he.out])), by (repeat' (first | (with_reducible exact Below.refl _ _) | (with_reducible assumption) | (with_reducible refine below_drewN ?_ _) | (with_reducible refine Below.drew ?_) | (with_reducible refine below_alloc ?_ _) | (with_reducible refine Below.alloc ?_ ?_ _) | (with_reducible refine Below.setCell ?_ ?_ _) | (with_reducible refine below_go ?_ (by with_reducible assumption)) | (with_reducible refine below_then (by with_reducible assumption) ?_ ?_) | go_size))⟩
     case measure => simp [intOf]; omega
   ·go_wp2
    go_ret
    refine ⟨ret_bool ?_, hb⟩
    have hd : l = m := eq_of_upto (fun j hj => HT.out j hj) (by omega) (by have := HL.out; omega)
    simp [hd]
 ·have hne : ((l.length : Int) != (m.length : Int)) = true := by simp; omega
  have hd : l ≠ m := fun e => hl (by rw [e])
  have HD := Lib.hid hd
  clear hd hl
  go_in
  go_wp2
  go_ret
  refine ⟨ret_bool ?_, by (repeat' (first | (with_reducible exact Below.refl _ _) | (with_reducible assumption) | (with_reducible refine below_drewN ?_ _) | (with_reducible refine Below.drew ?_) | (with_reducible refine below_alloc ?_ _) | (with_reducible refine Below.alloc ?_ ?_ _) | (with_reducible refine Below.setCell ?_ ?_ _) | (with_reducible refine below_go ?_ (by with_reducible assumption)) | (with_reducible refine below_then (by with_reducible assumption) ?_ ?_) | go_size))⟩
  simp [HD.out]
end Go.Proofs.YtidolgonmimicaaGreat
namespace Go.Proofs.YtidolgonmimicaaGreat
open Go.ChangeShapes Go.WideShapes Go.ChangeAt Go.RowKit Go.Deep
open Go.Maps (Keyed string_keyed)
theorem setx_own {P : Program} {α : Type} {e : α → List Value} {s : Nat} {E k t : TypeId} {w : World} {base b n c : Nat} {A : Option Addr} {l : List α} {S : List ByteArray} (h : Owned e s E w base A n c l) (g : SetX P w k t b S) : some b ≠ (Value.slice A n c).ownBlock := fun e1 => by
 obtain ⟨D, m, ⟨es, clock, hb, _⟩, _⟩ := g
 rcases h.2.2.2 with ⟨hv, _⟩ | ⟨g, cap, cur, hv, _, hh, _⟩
 ·rw [hv] at e1; cases e1
 ·rw [hv] at e1
  injection e1 with e1
  dsimp only at e1
  subst e1
  rw [hb] at hh
  cases hh
theorem strs_map {P : Program} {k t : TypeId} {w w' : World} {b : Nat} {A : Option Addr} {l S : List ByteArray} (h : Strs w A l) (g : SetX P w k t b S) (hg : w.grownBy w' (some b)) : Strs w' A l := by
 obtain ⟨D, m, ⟨es, clock, hm, _⟩, _⟩ := g
 refine ⟨h.1, h.2.1, fun hn => ?_⟩
 obtain ⟨b', o', hA, hb, hc⟩ := h.2.2 hn
 subst hA
 have hne : b' ≠ b := by
  intro e
  subst e
  obtain ⟨u, hu⟩ : ∃ u, (l.flatMap strE)[0]? = some u := ⟨_, List.getElem?_eq_getElem (by rw [flatMap_len strE_len]; omega)⟩
  have := hc 0 u hu
  simp [World.cell?, hm] at this
 exact ⟨b', o', rfl, Nat.lt_of_lt_of_le hb hg.size, fun j u hu => (hg.cell_far ⟨b', o' + j, none⟩ hb (fun e => by injection e with e; exact hne e)).trans (hc j u hu)⟩
end Go.Proofs.YtidolgonmimicaaGreat
namespace Go.Proofs
open Go.Shelf
def Tryz.laysNm226_ren : Go.Shelf.Ren := ⟨fun | 26 => 206 | 33 => 232 | 34 => 233 | 38 => 255 | n => n, fun | 24 => 23 | 9 => 9 | 3 => 3 | 4 => 4 | 40 => 149 | 0 => 0 | n => n, fun | n => n⟩
theorem Tryz.laysNm226 : Go.Proofs.Lays2.n26 Tryz.prog Tryz.laysNm226_ren := {
 mixed := by kernel_rfl
 f26 := Tryz.func206.trans (congrArg some (by kernel_rfl))
 f33 := Tryz.func232.trans (congrArg some (by kernel_rfl))
 f34 := Tryz.func233.trans (congrArg some (by kernel_rfl))
 f38 := Tryz.func255.trans (congrArg some (by kernel_rfl))
 t0 := Tryz.underlying0
 a0 := Tryz.isAgg0
 z0 := Tryz.sizeOf0
 v0 := Tryz.zeroValue0
 t3 := Tryz.underlying3
 a3 := Tryz.isAgg3
 z3 := Tryz.sizeOf3
 v3 := Tryz.zeroValue3
 t4 := Tryz.underlying4
 a4 := Tryz.isAgg4
 z4 := Tryz.sizeOf4
 v4 := Tryz.zeroValue4
 t9 := Tryz.underlying9
 a9 := Tryz.isAgg9
 z9 := Tryz.sizeOf9
 v9 := Tryz.zeroValue9
 t24 := Tryz.underlying23
 a24 := Tryz.isAgg23
 z24 := Tryz.sizeOf23
 v24 := Tryz.zeroValue23
 t40 := Tryz.underlying149
 a40 := Tryz.isAgg149
 z40 := Tryz.sizeOf149
 v40 := Tryz.zeroValue149 }
theorem Tryz.slices_BinarySearch_string (b off n c : Nat) (Sx : Nat → ByteArray) (x : ByteArray) (w : World) (hbig : n < 4611686018427387904) (hc : ∀ j, j < n → w.cell? ⟨b, off + j, none⟩ = some (.string (Sx j))) :
  Calls Tryz.prog 206 #[.slice (some ⟨b, off, none⟩) n c, .string x] w fun e w' =>
   e = .returned (.tuple #[.int .i64 (Lib.bsGo (fun t => Op.bytesLess (Sx t).toList x.toList) n 0 n : Nat), .bool (decide (Lib.bsGo (fun t => Op.bytesLess (Sx t).toList x.toList) n 0 n < n ∧ Sx (Lib.bsGo (fun t => Op.bytesLess (Sx t).toList x.toList) n 0 n) = x))]) ∧ ∃ q, w' = w.drewN q := Any2.slices_BinarySearch_string Tryz.laysNm226 b off n c Sx x w hbig hc
theorem Tryz.slices_BinarySearch_string_empty (a : Option Addr) (c : Nat) (x : ByteArray) (w : World) :
  Calls Tryz.prog 206 #[.slice a 0 c, .string x] w fun e w' => e = .returned (.tuple #[.int .i64 0, .bool false]) ∧ w' = w := Any2.slices_BinarySearch_string_empty Tryz.laysNm226 a c x w
end Go.Proofs
namespace Go.Proofs.YtidolgonmimicaaGreat
open Go.ChangeShapes Go.WideShapes Go.ChangeAt Go.RowKit Go.Deep
open Go.Maps (Keyed string_keyed)
open Go.WideMaps (keyOf_string_mk)
def keysS (L : List ByteArray) : List Value := (L.map strV).reverse
end Go.Proofs.YtidolgonmimicaaGreat
namespace Go.Proofs.YtidolgonmimicaaGreat
open Go.ChangeShapes Go.WideShapes Go.ChangeAt Go.RowKit Go.Deep
theorem first_false (f : Nat → Bool) : ∀ n, f n = false → ∃ k, k ≤ n ∧ (∀ t, t < k → f t = true) ∧ f k = false
 | 0, h => ⟨0, Nat.le_refl _, fun t ht => absurd ht (by omega), h⟩
 | n + 1, h => by
  by_cases hb : ∃ k, k ≤ n ∧ f k = false
  ·obtain ⟨j, hj, hf⟩ := hb
   obtain ⟨k, hk, h1, h2⟩ := first_false (fun t => if t < j then f t else false) n (by simp [show ¬ n < j by omega])
   by_cases hkj : k < j
   ·refine ⟨k, by omega, fun t ht => ?_, by simpa [hkj] using h2⟩
    have := h1 t ht
    simpa [show t < j by omega] using this
   ·refine ⟨j, by omega, fun t ht => ?_, hf⟩
    have := h1 t (by omega)
    simpa [ht] using this
  ·refine ⟨n + 1, Nat.le_refl _, fun t ht => ?_, h⟩
   rcases hc : f t with _ | _
   ·exact absurd ⟨t, by omega, hc⟩ hb
   ·rfl
theorem srt_le {l : List ByteArray} (h : Srt l) {i j : Nat} {x y : ByteArray} (hij : i < j) (hx : l[i]? = some x) (hy : l[j]? = some y) : less y x = false := by
 obtain ⟨h1, e1⟩ := List.getElem?_eq_some_iff.1 hx
 obtain ⟨h2, e2⟩ := List.getElem?_eq_some_iff.1 hy
 have := (List.pairwise_iff_getElem.1 h) i j h1 h2 hij
 rw [e1, e2, leS] at this
 rcases hc : less y x with _ | _
 ·rfl
 ·rw [hc] at this; cases this
theorem search_in {l : List ByteArray} {s : ByteArray} (h : Srt l) : decide (Lib.bsGo (fun t => less (l.getD t s) s) l.length 0 l.length < l.length ∧ l.getD (Lib.bsGo (fun t => less (l.getD t s) s) l.length 0 l.length) s = s) = inL l s := by
 have hout : ∀ t, l.length ≤ t → less (l.getD t s) s = false := fun t ht => by rw [List.getD, List.getElem?_eq_none ht]; exact less_irr s
 obtain ⟨k, hk, h1, h2⟩ := first_false (fun t => less (l.getD t s) s) l.length (hout _ (Nat.le_refl _))
 have h3 : ∀ t, k ≤ t → less (l.getD t s) s = false := fun t ht => by
  rcases Nat.lt_or_ge t l.length with hl | hl
  ·rcases Nat.lt_or_ge k t with hkt | hkt
   ·rcases hc : less (l.getD t s) s with _ | _
    ·rfl
    ·have hy := List.getElem?_eq_getElem hl
     have hx := List.getElem?_eq_getElem (show k < l.length by omega)
     have hle := srt_le h hkt hx hy
     have e1 : l.getD k s = l[k] := by rw [List.getD, hx]; rfl
     have e2 : l.getD t s = l[t] := by rw [List.getD, hy]; rfl
     rw [e1] at h2
     rw [e2] at hc
     rcases less_tri l[k] l[t] with h4 | h4 | h4
     ·have := less_trans h4 hc
      rw [h2] at this; cases this
     ·rw [h4, hc] at h2; cases h2
     ·rw [hle] at h4; cases h4
   ·obtain rfl : t = k := by omega
    exact h2
  ·exact hout t hl
 rw [Lib.bsGo_spec _ k h1 h3 l.length 0 l.length (by omega) (by omega) hk]
 rw [Bool.eq_iff_iff, decide_eq_true_iff, inL_iff]
 constructor
 ·rintro ⟨hl, e⟩
  rw [List.getD, List.getElem?_eq_getElem hl] at e
  rw [← e]; exact List.getElem_mem hl
 ·intro hm
  obtain ⟨j, hj⟩ := List.getElem?_of_mem hm
  have hjl := (List.getElem?_eq_some_iff.1 hj).1
  have hkj : k ≤ j := by
   rcases Nat.lt_or_ge j k with hc | hc
   ·have := h1 j hc
    rw [List.getD, hj] at this
    have h5 : less s s = true := this
    rw [less_irr] at h5; cases h5
   ·exact hc
  refine ⟨by omega, ?_⟩
  rcases Nat.lt_or_ge k j with hc | hc
  ·have hx := List.getElem?_eq_getElem (show k < l.length by omega)
   have hle := srt_le h hc hx hj
   have e1 : l.getD k s = l[k] := by rw [List.getD, hx]; rfl
   rw [e1] at h2 ⊢
   rcases less_tri l[k] s with h4 | h4 | h4
   ·rw [h2] at h4; cases h4
   ·exact h4
   ·rw [hle] at h4; cases h4
  ·obtain rfl : j = k := by omega
   rw [List.getD, hj]; rfl
theorem search_strs {A : Option Addr} {N c : Nat} {l : List ByteArray} {s : ByteArray} {w : World} (hN : l.length = N) (h : Strs w A l) (hz : N ≤ 16777216) (hs : Srt l) :
  Calls Tryz.prog 206 #[.slice A N c, .string s] w fun e w' => ∃ i : Int, e = .returned (.tuple #[.int .i64 i, .bool (inL l s)]) ∧ ∃ q, w' = w.drewN q := by
 subst hN
 rcases Nat.eq_zero_or_pos l.length with h0 | h0
 ·have e := List.eq_nil_of_length_eq_zero h0
  subst e
  refine (Tryz.slices_BinarySearch_string_empty A c s w).mono ?_
  rintro e w' ⟨rfl, rfl⟩
  exact ⟨0, rfl, 0, rfl⟩
 ·obtain ⟨b, o, y, rfl, _, _, _⟩ := h.at_str h0
  refine (Tryz.slices_BinarySearch_string b o l.length c (fun t => l.getD t s) s w (by omega) (fun j hj => ?_)).mono ?_
  ·obtain ⟨b2, o2, x, e, _, hx, hcx⟩ := h.at_str hj
   injection e with e
   injection e with e1 e2
   subst e1 e2
   rw [hcx, List.getD, hx]; rfl
  ·rintro e w' ⟨rfl, hq⟩
   have hin := search_in (s := s) hs
   rw [← hin]
   exact ⟨_, rfl, hq⟩
theorem impl_has {A : Option Addr} {N c : Nat} {l : List ByteArray} {s : ByteArray} {w : World} (hN : l.length = N) (h : Strs w A l) (hz : N ≤ 16777216) (hs : Srt l) :
  Calls Tryz.prog 146 #[.slice A N c, .string s] w fun e w' => e = .returned (.bool (inL l s)) ∧ Below w.heap.size w w' := by
 go_in
 go_wp2_with fail
 refine (search_strs hN h hz hs).mono ?_; rintro e w1 ⟨i, rfl, q, rfl⟩
 go_wp2
 go_ret
 exact ⟨rfl, by (repeat' (first | (with_reducible exact Below.refl _ _) | (with_reducible assumption) | (with_reducible refine below_drewN ?_ _) | (with_reducible refine Below.drew ?_) | (with_reducible refine below_alloc ?_ _) | (with_reducible refine Below.alloc ?_ ?_ _) | (with_reducible refine Below.setCell ?_ ?_ _) | (with_reducible refine below_go ?_ (by with_reducible assumption)) | (with_reducible refine below_then (by with_reducible assumption) ?_ ?_) | go_size))⟩
end Go.Proofs.YtidolgonmimicaaGreat
namespace Go.Proofs.YtidolgonmimicaaGreat
open Go.ChangeShapes Go.WideShapes Go.ChangeAt Go.RowKit Go.Deep
open Go.Maps (Keyed string_keyed)
def rowB (st : Nat) (s : ByteArray) : Bool := goodRow s && (s.size == st)
theorem rpB_i (nm : ByteArray) (st : Nat) (l : List ByteArray) (kb ks a b : ByteArray) : rpB nm st l kb ks a b = (l15B nm st l && (goodK nm (st : Int) l kb ks && (rowB st a && (rowB st b && !decide (a = b))))) := by
 have h : (twoB a b && (decide (a.size = st) && !decide (a = b))) = (rowB st a && (rowB st b && !decide (a = b))) := by
  rw [Bool.eq_iff_iff]
  simp only [twoB, rowB, Bool.and_eq_true, decide_eq_true_iff, beq_iff_eq]
  constructor
  ·rintro ⟨⟨h1, h2, h3⟩, h4, h5⟩
   exact ⟨⟨h1, h4⟩, ⟨h2, by omega⟩, h5⟩
  ·rintro ⟨⟨h1, h4⟩, ⟨h2, h6⟩, h5⟩
   exact ⟨⟨h1, h2, by omega⟩, h4, h5⟩
 rw [rpB, h]
theorem impl_isLarge {A : Option Addr} {n c st : Nat} {nm : ByteArray} {l : List ByteArray} {w : World} (hn : l.length = n) (h : Strs w A l) (hz : n ≤ 1048576) (hs : ∀ s ∈ l, s.size ≤ 16777216) (hnm : nm.size ≤ 16777216) (h9 : st ≤ 1000) :
  Calls Tryz.prog 196 #[.agg #[.string nm, .int .i64 st, .slice A n c]] w fun e w' => e = .returned (.bool (l15B nm st l)) ∧ Below w.heap.size w w' := by
 have HQ : Hid (l15B nm st l = (goodM nm (st : Int) l && decide (4 ≤ st))) := Lib.hid rfl
 have b0 : Below w.heap.size w (w.alloc (.cells ⟨[.string nm, .int .i64 st, .slice A n c]⟩ 25)) := by (repeat' (first | (with_reducible exact Below.refl _ _) | (with_reducible assumption) | (with_reducible refine below_drewN ?_ _) | (with_reducible refine Below.drew ?_) | (with_reducible refine below_alloc ?_ _) | (with_reducible refine Below.alloc ?_ ?_ _) | (with_reducible refine Below.setCell ?_ ?_ _) | (with_reducible refine below_go ?_ (by with_reducible assumption)) | (with_reducible refine below_then (by with_reducible assumption) ?_ ?_) | go_size))
 have K0 := Blk.at_ w 25 [.string nm, .int .i64 st, .slice A n c] (b := w.heap.size) rfl
 have k0 := K0.cell 0; have k1 := K0.cell 1; have k2 := K0.cell 2
 simp only [List.getElem?_cons_zero, List.getElem?_cons_succ] at k0 k1 k2
 have hst := st_i64 h9
 go_in
 go_wp2_with fail
 clear k0 k1 k2
 refine (impl_GoodMethod (nm := nm) hn (h.up b0) hz hs hnm hst).mono ?_; rintro e w1 ⟨rfl, hb1⟩
 rcases hg : goodM nm (st : Int) l
 ·have E := Lib.hid (show l15B nm st l = false by rw [HQ.out, hg]; rfl)
  clear hg
  go_wp2
  go_ret
  rw [E.out]
  exact ⟨rfl, below_go b0 hb1⟩
 ·have E := Lib.hid (show l15B nm st l = decide (4 ≤ st) by rw [HQ.out, hg]; rfl)
  have k1 := (K0.up hb1).cell 1
  simp only [List.getElem?_cons_zero, List.getElem?_cons_succ] at k1
  clear hg
  by_cases h4 : 4 ≤ st
  ·have E2 := Lib.hid (show l15B nm st l = true by rw [E.out, decide_eq_true h4])
   have hI : decide ((4 : Int) ≤ (st : Int)) = true := decide_eq_true (by omega)
   clear h4
   go_wp2
   go_ret
   rw [E2.out]
   exact ⟨rfl, below_go b0 hb1⟩
  ·have E2 := Lib.hid (show l15B nm st l = false by rw [E.out, decide_eq_false h4])
   have hI : decide ((4 : Int) ≤ (st : Int)) = false := decide_eq_false (by omega)
   clear h4
   go_wp2
   go_ret
   rw [E2.out]
   exact ⟨rfl, below_go b0 hb1⟩
set_option maxHeartbeats 2000000 in
set_option maxRecDepth 100000 in
theorem impl_goodRepair {A : Option Addr} {n c st : Nat} {nm : ByteArray} {l : List ByteArray} {kb ks a b : ByteArray} {w : World} (hn : l.length = n) (h : Strs w A l) (hz : n ≤ 1048576) (hs : ∀ s ∈ l, s.size ≤ 16777216) (hnm : nm.size ≤ 16777216) (h9 : st ≤ 1000) (hkb : kb.size ≤ 16777216) (hks : ks.size ≤ 16777216) (ha : a.size ≤ 16777216) (hb : b.size ≤ 16777216) :
  Calls Tryz.prog 120 #[.agg #[.string nm, .int .i64 st, .slice A n c], .agg #[.string kb, .string ks], .string a, .string b] w fun e w' => e = .returned (.bool (rpB nm st l kb ks a b)) ∧ Below w.heap.size w w' := by
 have HQ := Lib.hid (rpB_i nm st l kb ks a b)
 have HRA : Hid (rowB st a = (goodRow a && (a.size == st))) := Lib.hid rfl
 have HRB : Hid (rowB st b = (goodRow b && (b.size == st))) := Lib.hid rfl
 have b0 : Below w.heap.size w ((w.alloc (.cells ⟨[.string nm, .int .i64 st, .slice A n c]⟩ 25)).alloc (.cells ⟨[.string kb, .string ks]⟩ 27)) := by (repeat' (first | (with_reducible exact Below.refl _ _) | (with_reducible assumption) | (with_reducible refine below_drewN ?_ _) | (with_reducible refine Below.drew ?_) | (with_reducible refine below_alloc ?_ _) | (with_reducible refine Below.alloc ?_ ?_ _) | (with_reducible refine Below.setCell ?_ ?_ _) | (with_reducible refine below_go ?_ (by with_reducible assumption)) | (with_reducible refine below_then (by with_reducible assumption) ?_ ?_) | go_size))
 have K0 := (Blk.at_ w 25 [.string nm, .int .i64 st, .slice A n c] (b := w.heap.size) rfl).alloc (.cells ⟨[.string kb, .string ks]⟩ 27)
 have K1 := Blk.at_ (w.alloc (.cells ⟨[.string nm, .int .i64 st, .slice A n c]⟩ 25)) 27 [.string kb, .string ks] (b := w.heap.size + 1) (by simp)
 have H0 := h.up b0
 clear h
 go_in
 go_upto_region 1 with fail
 obtain ⟨w0, hw0⟩ : ∃ u, u = ((w.alloc (.cells #[.string nm, .int .i64 st, .slice A n c] 25)).alloc (.cells #[.string kb, .string ks] 27)) := ⟨_, rfl⟩
 rw [← hw0] at b0 K0 K1 H0 ⊢
 clear hw0
 have k0 := K0.cell 0; have k1 := K0.cell 1; have k2 := K0.cell 2
 simp only [List.getElem?_cons_zero, List.getElem?_cons_succ] at k0 k1 k2
 go_wp2_with fail
 clear k0 k1 k2
 refine (impl_isLarge (nm := nm) hn H0 hz hs hnm h9).mono ?_; rintro e w1 ⟨rfl, hb1⟩
 have B1 := below_go b0 hb1
 replace K0 := K0.up hb1
 replace K1 := K1.up hb1
 have H1 := H0.up hb1
 clear H0 hb1 b0
 rcases hg : l15B nm st l
 ·have E := Lib.hid (show rpB nm st l kb ks a b = false by rw [HQ.out, hg]; rfl)
  clear hg
  go_wp2
  go_ret
  rw [E.out]
  exact ⟨rfl, B1⟩
 ·have E1 := Lib.hid (show rpB nm st l kb ks a b = (goodK nm (st : Int) l kb ks && (rowB st a && (rowB st b && !decide (a = b)))) by rw [HQ.out, hg]; rfl)
  have k0 := K0.cell 0; have k1 := K0.cell 1; have k2 := K0.cell 2; have j0 := K1.cell 0; have j1 := K1.cell 1
  simp only [List.getElem?_cons_zero, List.getElem?_cons_succ] at k0 k1 k2 j0 j1
  have hst := st_i64 h9
  clear hg
  go_wp2_with fail
  clear k0 k1 k2 j0 j1
  refine (impl_GoodCalls (nm := nm) hn H1 hz hs hnm hst hkb hks).mono ?_; rintro e w2 ⟨rfl, hb2⟩
  have B2 := below_go B1 hb2
  replace K0 := K0.up hb2
  clear hst hb2 B1
  rcases hg : goodK nm (st : Int) l kb ks
  ·have E := Lib.hid (show rpB nm st l kb ks a b = false by rw [E1.out, hg]; rfl)
   clear hg
   go_wp2
   go_ret
   rw [E.out]
   exact ⟨rfl, B2⟩
  ·have E2 := Lib.hid (show rpB nm st l kb ks a b = (rowB st a && (rowB st b && !decide (a = b))) by rw [E1.out, hg]; rfl)
   have k1 := K0.cell 1
   simp only [List.getElem?_cons_zero, List.getElem?_cons_succ] at k1
   clear hg
   go_wp2_with fail
   refine (impl_isRowOf (n := st) ha).mono ?_; rw [← HRA.out]; rintro e w' ⟨rfl, rfl⟩
   rcases hg : rowB st a
   ·have E := Lib.hid (show rpB nm st l kb ks a b = false by rw [E2.out, hg]; rfl)
    clear hg
    go_wp2
    go_ret
    rw [E.out]
    exact ⟨rfl, B2⟩
   ·have E3 := Lib.hid (show rpB nm st l kb ks a b = (rowB st b && !decide (a = b)) by rw [E2.out, hg]; rfl)
    clear hg
    go_wp2_with fail
    refine (impl_isRowOf (n := st) hb).mono ?_; rw [← HRB.out]; rintro e w' ⟨rfl, rfl⟩
    rcases hg : rowB st b
    ·have E := Lib.hid (show rpB nm st l kb ks a b = false by rw [E3.out, hg]; rfl)
     clear hg
     go_wp2
     go_ret
     rw [E.out]
     exact ⟨rfl, B2⟩
    ·have E4 := Lib.hid (show rpB nm st l kb ks a b = !decide (a = b) by rw [E3.out, hg]; rfl)
     clear hg
     by_cases hab : a = b
     ·have E5 := Lib.hid (show rpB nm st l kb ks a b = false by rw [E4.out, decide_eq_true hab]; rfl)
      have hbe : (a.toList == b.toList) = true := by rw [hab]; simp
      clear hab
      go_wp2
      go_ret
      rw [E5.out]
      exact ⟨rfl, B2⟩
     ·have E5 := Lib.hid (show rpB nm st l kb ks a b = true by rw [E4.out, decide_eq_false hab]; rfl)
      have hbe := bytes_ne hab
      clear hab
      go_wp2
      go_ret
      rw [E5.out]
      exact ⟨rfl, B2⟩
def NxP (S P N : List ByteArray) : Prop := N.Nodup ∧ ∀ x, x ∈ N ↔ (x ∈ P ∧ x ∉ S)
theorem NxP.nil (S : List ByteArray) : NxP S [] [] := ⟨List.nodup_nil, fun x => by simp⟩
theorem NxP.skip {S P N : List ByteArray} {x : ByteArray} (h : NxP S P N) (hx : inL (S ++ N) x = true) : NxP S (P ++ [x]) N := ⟨h.1, fun y => by
 have hx := inL_iff.1 hx
 rw [h.2, List.mem_append, List.mem_singleton]
 constructor
 ·rintro ⟨h1, h2⟩
  exact ⟨Or.inl h1, h2⟩
 ·rintro ⟨h1 | rfl, h2⟩
  ·exact ⟨h1, h2⟩
  ·rcases List.mem_append.1 hx with q | q
   ·exact absurd q h2
   ·exact (h.2 _).1 q⟩
theorem NxP.add {S P N : List ByteArray} {x : ByteArray} (h : NxP S P N) (hx : inL (S ++ N) x = false) : NxP S (P ++ [x]) (N ++ [x]) := by
 have hx : x ∉ S ++ N := fun q => by rw [inL_iff.2 q] at hx; cases hx
 rw [List.mem_append, not_or] at hx
 refine ⟨List.nodup_append.2 ⟨h.1, List.nodup_cons.2 ⟨by simp, List.nodup_nil⟩, fun a ha b hb => by rw [List.mem_singleton.1 hb]; rintro rfl; exact hx.2 ha⟩, fun y => ?_⟩
 rw [List.mem_append, List.mem_singleton, List.mem_append, List.mem_singleton, h.2]
 constructor
 ·rintro (⟨h1, h2⟩ | rfl)
  ·exact ⟨Or.inl h1, h2⟩
  ·exact ⟨Or.inr rfl, hx.1⟩
 ·rintro ⟨h1 | rfl, h2⟩
  ·exact Or.inl ⟨h1, h2⟩
  ·exact Or.inr rfl
theorem nx_set {H : Cl → ByteArray} {ls : List (List ByteArray)} {L S N T : List ByteArray} (h : NxP S (prodS H L) N) (hS : ∀ x, x ∈ S ↔ ∃ Y ∈ ls, x ∈ Y) (hs : Srt T) (hp : T.Perm N) : T = nextF H ls L := by
 refine IsSet.uniq (p := NextP H ls L) ⟨hs, hp.nodup_iff.2 h.1, fun x => ?_⟩ (nextF_set H ls L)
 rw [hp.mem_iff, h.2, prodS_mem, hS, NextP]
 refine and_congr Iff.rfl ⟨fun q Y hY hx => q ⟨Y, hY, hx⟩, fun q ⟨Y, hY, hx⟩ => q Y hY hx⟩
theorem lit3h {H : Cl → ByteArray} {j : Nat} (hj : j < 3) : ∃ c : Cl, [H 1, H 0, H 2][j]? = some (H c) ∧ ∀ r : ByteArray, (hd3 H r).take (j + 1) = (hd3 H r).take j ++ [timesS r (H c)] := by
 rcases j with _ | _ | _ | j
 ·exact ⟨1, rfl, fun r => rfl⟩
 ·exact ⟨0, rfl, fun r => rfl⟩
 ·exact ⟨2, rfl, fun r => rfl⟩
 ·omega
set_option maxHeartbeats 4000000 in
set_option maxRecDepth 100000 in
theorem impl_nextLayer {AH AL : Option Addr} {cH mL dL b st : Nat} {L S : List ByteArray} {H : Cl → ByteArray} {ls : List (List ByteArray)} {w : World} (hH : Strs w AH [H 1, H 0, H 2]) (hHr : ∀ c, RowN st (H c)) (hL : L.length = mL) (hLs : Strs w AL L) (hrow : ∀ x ∈ L, RowN st x) (hz : mL ≤ 5000) (hS : SetX Tryz.prog w 9 4 b S) (hSl : S.length ≤ 100000) (hSm : ∀ x, x ∈ S ↔ ∃ Y ∈ ls, x ∈ Y) :
  Calls Tryz.prog 145 #[.slice AH 3 cH, .slice AL mL dL, .map (some b)] w fun e w' => ∃ g m c' S', e = .returned (.slice (some ⟨g, 0, none⟩) m c') ∧ Owned strE 1 9 w' w.heap.size (some ⟨g, 0, none⟩) m c' (nextF H ls L) ∧ SetX Tryz.prog w' 9 4 b S' ∧ (∀ x, x ∈ S' ↔ x ∈ S ∨ x ∈ nextF H ls L) ∧ S'.length = S.length + m ∧ w.grownBy w' (some b) := by
 have KS := string_keyed (P := Tryz.prog) (k := 9) Tryz.underlying9
 have HH := Lib.hid hH
 have HC := Lib.hid hHr
 have HLl := Lib.hid hL
 have HLS := Lib.hid hLs
 have HR := Lib.hid hrow
 have HS := Lib.hid hS
 have HSM := Lib.hid hSm
 clear hH hHr hL hLs hrow hS hSm
 go_in
 go_wp2
 obtain ⟨w0, hw0⟩ : ∃ u, u = w.alloc (.cells #[] 9) := ⟨_, rfl⟩
 have O0 : Owned strE 1 9 w0 w.heap.size (some ⟨w.heap.size, 0, none⟩) 0 0 ([] : List ByteArray) := by rw [hw0]; exact Owned.empty strE_len _ w (Nat.le_refl _)
 have g0 : w.grownBy w0 (some b) := by rw [hw0]; exact World.grownBy_alloc _ _ _
 have M0 : SetX Tryz.prog w0 9 4 b S := by rw [hw0]; exact HS.out.alloc _
 rw [← hw0]
 have HO0 := Lib.hid O0
 have HG0 := Lib.hid g0
 have HM0 := Lib.hid M0
 clear hw0 O0 g0 M0
 go_loopw [7, 16] (fun v i wr => ∃ (k m g c' : Nat) (N : List ByteArray), k ≤ mL ∧ i = .int .i64 k ∧ v = .slice (some ⟨g, 0, none⟩) m c' ∧ m ≤ 3 * k ∧ Hid (Owned strE 1 9 wr w.heap.size (some ⟨g, 0, none⟩) m c' N) ∧ Hid (NxP S (prodS H (L.take k)) N) ∧ Hid (SetX Tryz.prog wr 9 4 b (S ++ N)) ∧ Hid (w.grownBy wr (some b))) (fun _ i _ => mL - (intOf i).toNat)
 case atStart => exact ⟨0, 0, _, _, [], Nat.zero_le _, rfl, rfl, Nat.le_refl _, HO0, Lib.hid (NxP.nil S), Lib.hid (by rw [List.append_nil]; exact HM0.out), HG0⟩
 case round =>
  obtain ⟨k, m, g, c3, N, hk, rfl, rfl, hm, HO, HN, HM, HG⟩ := hrel
  rename World => wo
  by_cases hlt : k < mL
  ·obtain ⟨b1, o1, r, hAL, _, hr, hcr⟩ := (strs_map HLS.out HS.out HG.out).at_str (k := k) (by rw [HLl.out]; exact hlt)
   subst hAL
   have hrN := Lib.hid (HR.out r (List.mem_of_getElem? hr))
   have HPS := Lib.hid (prodS_succ (H := H) hr)
   have hI : (k : Int) < (mL : Int) := by omega
   have hrz : r.size ≤ 16777216 := by have := hrN.out.2; have := hrN.out.st; omega
   clear hr
   go_wp2
   go_loopw [7, 22] (fun v i wr => ∃ (j m g c' : Nat) (N : List ByteArray), j ≤ 3 ∧ i = .int .i64 j ∧ v = .slice (some ⟨g, 0, none⟩) m c' ∧ m ≤ 3 * k + j ∧ Hid (Owned strE 1 9 wr w.heap.size (some ⟨g, 0, none⟩) m c' N) ∧ Hid (NxP S (prodS H (L.take k) ++ (hd3 H r).take j) N) ∧ Hid (SetX Tryz.prog wr 9 4 b (S ++ N)) ∧ Hid (w.grownBy wr (some b))) (fun _ i _ => 3 - (intOf i).toNat)
   case atStart => exact ⟨0, m, g, c3, N, by omega, rfl, rfl, by omega, HO, Lib.hid (by rw [List.take_zero, List.append_nil]; exact HN.out), HM, HG⟩
   case round =>
    obtain ⟨j, m, g, c4, N, hj, rfl, rfl, hm, HO, HN, HM, HG⟩ := hrel
    rename World => wq
    by_cases hjt : j < 3
    ·obtain ⟨b3, o3, x, hAH, _, hx, hcx⟩ := (strs_map HH.out HS.out HG.out).at_str (k := j) (by exact hjt)
     subst hAH
     obtain ⟨cl, hcl, hht⟩ := lit3h (H := H) hjt
     rw [hcl] at hx
     injection hx with hx
     subst hx
     have HHT := Lib.hid (hht r)
     have hJ : (j : Int) < 3 := by omega
     have hcN := Lib.hid (HC.out cl)
     have hft := Lib.hid (rowN_fits hrN.out hcN.out)
     have hcz : (H cl).size ≤ 16777216 := by have := hcN.out.2; have := hcN.out.st; omega
     have hzz : (timesS r (H cl)).size ≤ 16777216 := by have := (hrN.out.times hcN.out).2; have := hrN.out.2; omega
     have HNl := Lib.hid HO.out.len
     clear hcl hht
     go_wp2_with fail
     refine (impl_times hrz hcz hft.out).mono ?_; rintro e w5 ⟨rfl, hb5⟩
     clear hcx
     have HO5 := Lib.hid (HO.out.up hb5)
     have HM5 := Lib.hid (HM.out.up hb5)
     have HG5 := Lib.hid (grownBy_trans HG.out (grown_any hb5 _))
     obtain ⟨z, hz2⟩ : ∃ u, u = timesS r (H cl) := ⟨_, rfl⟩
     rw [← hz2] at HHT hzz ⊢
     clear hz2 hb5
     have lk := HM5.out.look (t := 110) KS Tryz.underlying110 Tryz.underlying9 Tryz.underlying4 (by kernel_rfl) hzz
     have hlen : (S ++ N).length ≤ 16777216 := by rw [List.length_append, HNl.out]; omega
     have HLEN := Lib.hid hlen
     clear hlen
     rcases hin : inL (S ++ N) z
     ·have HN2 := Lib.hid (HN.out.add hin)
      rw [hin] at lk
      clear hin
      go_upto_region 11 with (first | (at_mapUpdate; go_must ((refine wpList_setx_add rfl (.tmp 33) (.tmp 34) (.const (.bool true)) 110 rfl KS Tryz.underlying110 Tryz.underlying9 Tryz.underlying4 rfl HM5.out HLEN.out rfl rfl hzz ?_; intro w8 hm8 hg8; clear lk; have HM8 := Lib.hid hm8; have HO8 := Lib.hid (HO5.out.kept hg8 (fun k hk e => setx_own HO5.out HM5.out (e.trans hk.symm))); have HG8 := Lib.hid (grownBy_trans HG5.out hg8); have hsz8 := HG8.out.size; clear hm8 hg8))))
      go_wp2_with (first | (at_builtin; go_must ((refine wpList_append_recs Tryz.elStr strE_one rfl (.tmp 35) (.tmp 37) rfl rfl (HO8.out.alloc _) rfl (own_lit1_at' strE_len _ 9 z rfl (Nat.le_refl _)).recs rfl ?_ (by decide) ?_ ?_; (focus (first | omega | (simp only [World.size_alloc]; done) | (simp only [World.size_alloc]; omega) | (simp; done) | (simp; omega))); (focus (first | omega | (simp only [World.size_alloc]; done) | (simp only [World.size_alloc]; omega) | (simp; done) | (simp; omega))); intro A6 c6 w6 ho6 hg6 hl6; obtain ⟨g6, rfl, _⟩ := ho6.at_ (by omega); have HO6 := Lib.hid ho6; have HGX := Lib.hid hg6; clear ho6 hg6 hl6))))
      have HO8A := Lib.hid (HO8.out.alloc (.cells ⟨strE z⟩ 9))
      have HM8A := Lib.hid (HM8.out.alloc (.cells ⟨strE z⟩ 9))
      have HM6 := Lib.hid (HM8A.out.kept HGX.out (setx_own HO8A.out HM8A.out))
      have HG6 := Lib.hid (grow_own (grownBy_trans HG8.out (World.grownBy_alloc w8 (.cells ⟨strE z⟩ 9) _)) HGX.out (fun k hk => (HO8A.out.blk hk).1))
      go_roundw
      case rel => exact ⟨j + 1, m + 1, g6, c6, N ++ [z], by omega, by go_num, rfl, by omega, HO6, Lib.hid (by rw [HHT.out, ← List.append_assoc]; exact HN2.out), Lib.hid (by rw [← List.append_assoc]; exact HM6.out), HG6⟩
      case measure => simp [intOf]; omega
     ·have HN2 := Lib.hid (HN.out.skip hin)
      rw [hin] at lk
      clear hin
      go_wp2
      go_roundw
      case rel => exact ⟨j + 1, m, g, c4, N, by omega, by go_num, rfl, by omega, HO5, Lib.hid (by rw [HHT.out, ← List.append_assoc]; exact HN2.out), HM5, HG5⟩
      case measure => simp [intOf]; omega
    ·obtain rfl : j = 3 := by omega
     have hJ : ¬ ((3 : Nat) : Int) < 3 := by omega
     go_wp2
     go_roundw
     case rel => exact ⟨k + 1, m, g, c4, N, by omega, by go_num, rfl, by omega, HO, Lib.hid (by rw [HPS.out]; exact HN.out), HM, HG⟩
     case measure => simp [intOf]; omega
  ·obtain rfl : k = mL := by omega
   have hI : ¬ (k : Int) < (k : Int) := by omega
   have HPA : Hid (L.take k = L) := Lib.hid (List.take_of_length_le (by rw [HLl.out]; exact Nat.le_refl _))
   have HN3 : Hid (NxP S (prodS H L) N) := Lib.hid (by have := HN.out; rwa [HPA.out] at this)
   clear HPA HN
   go_wp2_with fail
   refine (sort_strs HO.out (by omega)).mono ?_; rintro e w4 ⟨rfl, T, ho4, hp4, hs4, hg4⟩
   have HE := Lib.hid (nx_set HN3.out HSM.out hs4 hp4)
   have HNM : Hid (∀ x, x ∈ T ↔ x ∈ N) := Lib.hid (fun x => hp4.mem_iff)
   have HTl : Hid (T.length = m) := Lib.hid ho4.len
   have HNl : Hid (N.length = m) := Lib.hid HO.out.len
   have hob := HO.out.at_own
   have HM4 := Lib.hid (HM.out.kept hg4 (setx_own HO.out HM.out))
   have HG4 := Lib.hid (grow_own HG.out hg4 (fun k hk => (HO.out.blk hk).1))
   go_wp2
   go_ret
   exact ⟨g, m, c3, S ++ N, rfl, by rw [← HE.out]; exact ho4, HM4.out, fun x => by rw [← HE.out, List.mem_append, HNM.out], by rw [List.length_append, HNl.out], HG4.out⟩
end Go.Proofs.YtidolgonmimicaaGreat
namespace Go.Proofs.YtidolgonmimicaaGreat
open Go.ChangeShapes Go.WideShapes Go.ChangeAt Go.RowKit Go.Deep
open Go.Maps (Keyed string_keyed)
theorem wpList_setx_ins {P : Program} {ops : Array Oper} {rest : List Oper} {o : Oper} {a : Act} {Q : Exit → Act → World → Prop} {W : World} {k e : TypeId} {b : Nat} {S : List ByteArray} (hgd : o.guard = none) (M X V : Operand) (t : TypeId) (hop : o.op = Op.insert t M X V) (K : Keyed P k) (ht : P.underlying t = some (.map k e)) (hk : P.underlying k = some .string) (he : P.underlying e = some .bool) (hm : a.eval M = .map (some b)) (h : SetX P W k e b S) (hn : S.length ≤ 16777216) {s : ByteArray} (hx : a.eval X = .string s) (hv : a.eval V = .bool true) (hs : s.size ≤ 16777216)
  (hK : ∀ w', SetX P w' k e b (S ++ [s]) → W.grownBy w' (some b) → wpList P ops Q rest (a.put o.dst undef) w') : wpList P ops Q (o :: rest) a W :=
 wpList_plain hgd fun K' hK' => by
  obtain ⟨w', hrun, r1, r2⟩ := h.add K ht hk he hn hs
  unfold Oper.wp
  simp [execOp, hop, hm, hx, hv, hrun, Result.andThen]
  exact hK' _ _ (hK w' r1 r2)
theorem Owned.map_ {P : Program} {α : Type} {e : α → List Value} {s : Nat} {E k t : TypeId} {w w' : World} {base b n c : Nat} {A : Option Addr} {l : List α} {S : List ByteArray} (h : Owned e s E w base A n c l) (g : SetX P w k t b S) (hg : w.grownBy w' (some b)) : Owned e s E w' base A n c l :=
 h.kept hg (fun z hz q => setx_own h g (q.trans hz.symm))
theorem TabT.map_ {P : Program} {k t : TypeId} {w w' : World} {base b n c : Nat} {A : Option Addr} {vs : List Hd} {M : List (List ByteArray)} {S : List ByteArray} (h : TabT w base A n c vs M) (g : SetX P w k t b S) (hg : w.grownBy w' (some b)) : TabT w' base A n c vs M :=
 ⟨h.top.map_ g hg, h.len, fun k v r hv hr => (h.row k v r hv hr).map_ g hg⟩
theorem hds3_cl (st : Nat) (l : List ByteArray) (kb ks : ByteArray) : hds3 st l kb ks = [clH st l kb ks 1, clH st l kb ks 0, clH st l kb ks 2] := rfl
set_option maxHeartbeats 4000000 in
set_option maxRecDepth 100000 in
theorem impl_repairLayers {A : Option Addr} {n c st : Nat} {nm : ByteArray} {l : List ByteArray} {kb ks : ByteArray} {a tg : ByteArray} {w : World} (hn : l.length = n) (h : Strs w A l) (hk : goodK nm (st : Int) l kb ks = true) (ha : RowN st a) :
  Calls Tryz.prog 121 #[.agg #[.string nm, .int .i64 st, .slice A n c], .agg #[.string kb, .string ks], .string a, .string tg] w fun e w' => ∃ A' m c' vs, e = .returned (.tuple #[.slice A' m c', .bool (layR (clH st l kb ks) a tg).isSome]) ∧ TabT w' w.heap.size A' m c' vs ((layR (clH st l kb ks) a tg).getD []) ∧ Below w.heap.size w w' := by
 have KS := string_keyed (P := Tryz.prog) (k := 9) Tryz.underlying9
 have hmm := @run_makeMap Tryz.prog
 have b0 : Below w.heap.size w ((w.alloc (.cells ⟨[.string nm, .int .i64 st, .slice A n c]⟩ 25)).alloc (.cells ⟨[.string kb, .string ks]⟩ 27)) := by (repeat' (first | (with_reducible exact Below.refl _ _) | (with_reducible assumption) | (with_reducible refine below_drewN ?_ _) | (with_reducible refine Below.drew ?_) | (with_reducible refine below_alloc ?_ _) | (with_reducible refine Below.alloc ?_ ?_ _) | (with_reducible refine Below.setCell ?_ ?_ _) | (with_reducible refine below_go ?_ (by with_reducible assumption)) | (with_reducible refine below_then (by with_reducible assumption) ?_ ?_) | go_size))
 have K0 := (Blk.at_ w 25 [.string nm, .int .i64 st, .slice A n c] (b := w.heap.size) rfl).alloc (.cells ⟨[.string kb, .string ks]⟩ 27)
 have K1 := Blk.at_ (w.alloc (.cells ⟨[.string nm, .int .i64 st, .slice A n c]⟩ 25)) 27 [.string kb, .string ks] (b := w.heap.size + 1) (by simp)
 have h8 := (goodK_all hk).1
 have H0 := h.up b0
 have HC := Lib.hid (clH_row h8.1 h8.2 l kb ks)
 have HD3 := Lib.hid (hds3_cl st l kb ks)
 obtain ⟨H, hH⟩ : ∃ u, u = clH st l kb ks := ⟨_, rfl⟩
 rw [← hH] at HC HD3 ⊢
 have HA := Lib.hid ha
 have haz : a.size ≤ 16777216 := by have := ha.2; have := ha.st; omega
 have HLY : Hid (layR H a tg = layF H tg 8 [[a]]) := Lib.hid rfl
 have HLM : Hid (∀ k ls, ¬ manyL ls ≤ 800 → layF H tg k ls = none) := Lib.hid (fun k ls h => layF_many h)
 have HLH : Hid (∀ k ls, manyL ls ≤ 800 → inL (nextF H ls (lastL ls)) tg = true → layF H tg (k + 1) ls = some (ls ++ [nextF H ls (lastL ls)])) := Lib.hid (fun k ls h g => layF_has h g)
 have HLG : Hid (∀ k ls, manyL ls ≤ 800 → inL (nextF H ls (lastL ls)) tg = false → layF H tg (k + 1) ls = layF H tg k (ls ++ [nextF H ls (lastL ls)])) := Lib.hid (fun k ls h g => layF_go h g)
 have HL0 : Hid (∀ ls, layF H tg 0 ls = none) := Lib.hid (fun ls => rfl)
 clear h hH ha
 go_in
 go_upto_region 1 with fail
 obtain ⟨w0, hw0⟩ : ∃ u, u = ((w.alloc (.cells #[.string nm, .int .i64 st, .slice A n c] 25)).alloc (.cells #[.string kb, .string ks] 27)) := ⟨_, rfl⟩
 rw [← hw0] at b0 K0 K1 H0 ⊢
 clear hw0
 have k0 := K0.cell 0; have k1 := K0.cell 1; have k2 := K0.cell 2; have j0 := K1.cell 0; have j1 := K1.cell 1
 simp only [List.getElem?_cons_zero, List.getElem?_cons_succ] at k0 k1 k2 j0 j1
 go_wp2_with fail
 clear k0 k1 k2 j0 j1 K0 K1
 refine (impl_callHeads (nm := nm) hn H0 hk).mono ?_; rintro e w1 ⟨A1, c1, rfl, ho1, hb1⟩
 rw [HD3.out] at ho1
 have HB1 := Lib.hid (below_go b0 hb1)
 have HO1 := Lib.hid (ho1.base_le b0.size)
 clear ho1 hb1 b0 H0 hk hn
 have hsz1 := HB1.out.size
 have M1 : SetX Tryz.prog (w1.alloc (.map #[] 0)) 9 4 w1.heap.size [] := SetX.made _ _ _ _
 have HM1 := Lib.hid M1
 have HBA : Hid (Below w.heap.size w (w1.alloc (.map #[] 0))) := Lib.hid (HB1.out.alloc hsz1 _)
 have HOA := Lib.hid (HO1.out.alloc (.map #[] 0))
 clear M1
 go_upto_region 3 with (first | (refine wpList_setx_ins rfl (.tmp 19) (.tmp 20) (.const (.bool true)) 110 rfl KS Tryz.underlying110 Tryz.underlying9 Tryz.underlying4 rfl HM1.out (by simp) rfl rfl haz ?_; intro w2 hm2 hg2))
 clear hmm
 have HM2 : Hid (SetX Tryz.prog w2 9 4 w1.heap.size [a]) := Lib.hid hm2
 have HB2 : Hid (Below w.heap.size w w2) := Lib.hid (HBA.out.grown hg2 HBA.out.size (fun k e => by injection e with e; omega))
 have HO2 := Lib.hid (HOA.out.map_ HM1.out hg2)
 obtain ⟨mb, hmb⟩ : ∃ u, u = w1.heap.size := ⟨_, rfl⟩
 rw [← hmb] at HM2 ⊢
 have hmbw : w.heap.size ≤ mb := by omega
 clear hm2 hg2 HM1 HBA HOA HO1 HB1 hmb hsz1
 have hsz2 := HB2.out.size
 have o1 := own_lit1_at' (base := w.heap.size) strE_len w2 9 a (b := w2.heap.size) rfl hsz2
 have o2 := own_lit1_at' (base := w.heap.size) slcE_len (w2.alloc (.cells ⟨strE a⟩ 9)) 23 ((some ⟨w2.heap.size, 0, none⟩, 1, 1) : Hd) (b := w2.heap.size + 1) (by simp) (by simp; omega)
 have T0 : TabT ((w2.alloc (.cells ⟨strE a⟩ 9)).alloc (.cells ⟨slcE (some ⟨w2.heap.size, 0, none⟩, 1, 1)⟩ 23)) w.heap.size (some ⟨w2.heap.size + 1, 0, none⟩) 1 1 [(some ⟨w2.heap.size, 0, none⟩, 1, 1)] [[a]] := ⟨o2, rfl, fun k v r hv hr => by
  rcases k with _ | k
  ·simp at hv hr
   subst hv hr
   exact o1.alloc _
  ·simp at hv⟩
 have b1 : Below w2.heap.size w2 ((w2.alloc (.cells ⟨strE a⟩ 9)).alloc (.cells ⟨slcE (some ⟨w2.heap.size, 0, none⟩, 1, 1)⟩ 23)) := by (repeat' (first | (with_reducible exact Below.refl _ _) | (with_reducible assumption) | (with_reducible refine below_drewN ?_ _) | (with_reducible refine Below.drew ?_) | (with_reducible refine below_alloc ?_ _) | (with_reducible refine Below.alloc ?_ ?_ _) | (with_reducible refine Below.setCell ?_ ?_ _) | (with_reducible refine below_go ?_ (by with_reducible assumption)) | (with_reducible refine below_then (by with_reducible assumption) ?_ ?_) | go_size))
 have HMT := Lib.hid (HM2.out.up b1)
 have HOT := Lib.hid (HO2.out.up b1)
 have HBT := Lib.hid (below_go HB2.out b1)
 have HT0 := Lib.hid T0
 clear o1 o2 T0 b1 HM2 HO2 HB2
 change Hid (SetX Tryz.prog ((w2.alloc (.cells #[.string a] 9)).alloc (.cells #[.slice (some ⟨w2.heap.size, 0, none⟩) 1 1] 23)) 9 4 mb [a]) at HMT
 change Hid (Owned strE 1 9 ((w2.alloc (.cells #[.string a] 9)).alloc (.cells #[.slice (some ⟨w2.heap.size, 0, none⟩) 1 1] 23)) w.heap.size A1 3 c1 [H 1, H 0, H 2]) at HOT
 change Hid (Below w.heap.size w ((w2.alloc (.cells #[.string a] 9)).alloc (.cells #[.slice (some ⟨w2.heap.size, 0, none⟩) 1 1] 23))) at HBT
 change Hid (TabT ((w2.alloc (.cells #[.string a] 9)).alloc (.cells #[.slice (some ⟨w2.heap.size, 0, none⟩) 1 1] 23)) w.heap.size (some ⟨w2.heap.size + 1, 0, none⟩) 1 1 [(some ⟨w2.heap.size, 0, none⟩, 1, 1)] [[a]]) at HT0
 go_wp2
 go_loopw [12, 13] (fun v rv wr => ∃ (k N R : Nat) (ls : List (List ByteArray)) (A' : Option Addr) (c' : Nat) (vs : List Hd) (S : List ByteArray), v = .slice A' N c' ∧ rv = .int .i64 (R : Int) ∧ N + k = 9 ∧ 1 ≤ N ∧ Hid (TabT wr w.heap.size A' N c' vs ls) ∧ Hid (layR H a tg = layF H tg k ls) ∧ Hid (∀ L ∈ ls, ∀ x ∈ L, RowN st x) ∧ manyL ls ≤ 3200 ∧ R + (lastL ls).length = manyL ls ∧ Hid (SetX Tryz.prog wr 9 4 mb S) ∧ Hid (∀ x, x ∈ S ↔ ∃ Y ∈ ls, x ∈ Y) ∧ S.length = manyL ls ∧ Hid (Owned strE 1 9 wr w.heap.size A1 3 c1 [H 1, H 0, H 2]) ∧ Hid (Below w.heap.size w wr)) (fun v _ _ => 9 - slLen v)
 case atStart => exact ⟨8, 1, 0, [[a]], _, _, _, [a], rfl, rfl, rfl, Nat.le_refl _, HT0, HLY, Lib.hid (fun L hL x hx => by rw [List.mem_singleton] at hL; subst hL; rw [List.mem_singleton] at hx; subst hx; exact HA.out), by simp [manyL], by simp [manyL, lastL], HMT, Lib.hid (fun x => by simp), by simp [manyL], HOT, HBT⟩
 case round =>
  obtain ⟨k, N, R, ls, A3, c3, vs, S, rfl, rfl, hNk, hN1, HT, HLR, HRW, hmz, hRl, HM, HSM, hSl, HO, HB⟩ := hrel
  rename World => wr
  have HNL := Lib.hid HT.out.nlen
  by_cases hlt : N ≤ 8
  ·obtain ⟨k, rfl⟩ : ∃ j, k = j + 1 := ⟨k - 1, by omega⟩
   have hNI : decide ((N : Int) ≤ 8) = true := decide_eq_true (by omega)
   obtain ⟨b, off, BL, mL, dL, r0, rfl, hbw, hcell, hr0, hr0l, hrs⟩ := HT.out.tab.row (k := N - 1) (by omega)
   have hls : 0 < ls.length := by rw [HNL.out]; omega
   have hla := lastL_at hls
   rw [HNL.out] at hla
   have er : r0 = lastL ls := by rw [hla] at hr0; injection hr0 with hr0; exact hr0.symm
   rw [er] at hr0l hrs
   have HRS := Lib.hid hrs
   have HLW := Lib.hid (HRW.out _ (List.mem_of_getElem? hla))
   have HLl := Lib.hid hr0l
   have hw1 : IntKind.i64.wrap ((N : Int) - 1) = ((N - 1 : Nat) : Int) := by rw [wrap_id (by omega)]; omega
   have hi1 : ((N - 1 : Nat) : Int) < (N : Int) := by omega
   have hw2 : IntKind.i64.wrap ((R : Int) + (mL : Int)) = ((manyL ls : Nat) : Int) := by rw [wrap_id (by omega)]; omega
   clear er hr0 hla hls hrs
   by_cases hm8 : manyL ls ≤ 800
   ·have hmI : decide ((800 : Int) < ((manyL ls : Nat) : Int)) = false := decide_eq_false (by omega)
    have hml : mL ≤ 800 := by omega
    have hSl2 : S.length ≤ 100000 := by omega
    clear hr0l
    go_wp2_with fail
    clear hmI hNI hcell hw1 hi1 hw2
    refine (impl_nextLayer (ls := ls) HO.out.recs HC.out HLl.out HRS.out HLW.out (by omega) HM.out hSl2 HSM.out).mono ?_; rintro e w5 ⟨g5, m5, c5, S5, rfl, ho5, hm5, hs5, hl5, hg5⟩
    have HB5 := Lib.hid (HB.out.grown hg5 HB.out.size (fun k e => by injection e with e; omega))
    have HT5 := Lib.hid (HT.out.map_ HM.out hg5)
    have HH5 := Lib.hid (HO.out.map_ HM.out hg5)
    have HM5 := Lib.hid hm5
    have HO5 := Lib.hid (ho5.base_le HB.out.size)
    have hsz5 := HB5.out.size
    have HNR := Lib.hid (nextF_row (ls := ls) HC.out HLW.out)
    have HSR := Lib.hid (nextF_set H ls (lastL ls)).1
    have hnl3 := nextF_len H ls (lastL ls)
    have HY := Lib.hid (HLH.out k ls hm8)
    have HG := Lib.hid (HLG.out k ls hm8)
    have HS5 := Lib.hid hs5
    obtain ⟨nx, hnx⟩ : ∃ u, u = nextF H ls (lastL ls) := ⟨_, rfl⟩
    rw [← hnx] at HO5 HNR HY HG HSR HS5 hnl3
    have hnl : nx.length = m5 := HO5.out.len
    have HSN : Hid (∀ x, x ∈ S5 ↔ ∃ Y ∈ ls ++ [nx], x ∈ Y) := Lib.hid (fun x => by
     rw [HS5.out, HSM.out]
     constructor
     ·rintro (⟨Y, hY, hx⟩ | hx)
      ·exact ⟨Y, List.mem_append_left _ hY, hx⟩
      ·exact ⟨nx, by simp, hx⟩
     ·rintro ⟨Y, hY, hx⟩
      rcases List.mem_append.1 hY with q | q
      ·exact Or.inl ⟨Y, q, hx⟩
      ·rw [List.mem_singleton.1 q] at hx; exact Or.inr hx)
    clear ho5 hm5 hs5 hg5 hnx HS5 HM HT HO HRS
    go_wp2_with (first | (at_builtin; go_must ((refine wpList_append_recs Tryz.elStrs slcE_one rfl (.tmp 44) (.tmp 46) rfl rfl (HT5.out.top.alloc _) rfl (own_lit1_at' slcE_len _ 23 ((some ⟨g5, 0, none⟩, m5, c5) : Hd) rfl (Nat.le_refl _)).recs rfl ?_ (by decide) ?_ ?_; (focus (first | omega | (simp only [World.size_alloc]; done) | (simp only [World.size_alloc]; omega) | (simp; done) | (simp; omega))); (focus (first | omega | (simp only [World.size_alloc]; done) | (simp only [World.size_alloc]; omega) | (simp; done) | (simp; omega))); intro A6 c6 w6 ho6 hg6 hl6; have HO6 := Lib.hid ho6; have HG6 := Lib.hid hg6; clear ho6 hg6 hl6))))
    have HTA := Lib.hid (HT5.out.up ((Below.refl _ _).alloc (Nat.le_refl _) (.cells ⟨slcE (some ⟨g5, 0, none⟩, m5, c5)⟩ 23)))
    have HMA := Lib.hid (HM5.out.alloc (.cells ⟨slcE (some ⟨g5, 0, none⟩, m5, c5)⟩ 23))
    have HHA := Lib.hid (HH5.out.alloc (.cells ⟨slcE (some ⟨g5, 0, none⟩, m5, c5)⟩ 23))
    have HOA := Lib.hid (HO5.out.alloc (.cells ⟨slcE (some ⟨g5, 0, none⟩, m5, c5)⟩ 23))
    have HB6 : Hid (Below w.heap.size w w6) := Lib.hid ((HB5.out.alloc hsz5 _).trans (grown_base HG6.out (by simp; omega) (fun z hz => (HT5.out.top.range z hz).1)))
    have HT6 := Lib.hid (HTA.out.app (v := (some ⟨g5, 0, none⟩, m5, c5)) (r := nx) HO6.out HG6.out HOA.out (by decide))
    have HM6 := Lib.hid (HMA.out.kept HG6.out (setx_own HTA.out.top HMA.out))
    have HH6 := Lib.hid (HHA.out.kept HG6.out (fun k hk e => HTA.out.top.ne HHA.out (by decide) k e hk))
    have HR6 : Hid (Strs w6 (some ⟨g5, 0, none⟩) nx) := Lib.hid (HT6.out.row N (some ⟨g5, 0, none⟩, m5, c5) nx (by rw [List.getElem?_append_right (by rw [HT5.out.top.len]; exact Nat.le_refl _), HT5.out.top.len]; simp) (by rw [List.getElem?_append_right (by rw [HNL.out]; exact Nat.le_refl _), HNL.out]; simp)).recs
    clear HTA HMA HHA HOA HO6 HG6
    try go_wp2_with fail
    refine (impl_has hnl HR6.out (by omega) HSR.out).mono ?_; rintro e w7 ⟨rfl, hb7⟩
    have HB7 := Lib.hid (below_go HB6.out hb7)
    have HT7 := Lib.hid (HT6.out.up hb7)
    have HM7 := Lib.hid (HM6.out.up hb7)
    have HH7 := Lib.hid (HH6.out.up hb7)
    clear hb7
    rcases hin : inL nx tg
    ·have HE := Lib.hid (HG.out hin)
     clear hin
     go_wp2
     go_roundw
     case rel => exact ⟨k, N + 1, manyL ls, ls ++ [nx], A6, c6, _, S5, rfl, rfl, by omega, by omega, HT7, Lib.hid (HLR.out.trans HE.out), Lib.hid (fun L hL => (List.mem_append.1 hL).elim (HRW.out L) (fun q => by rw [List.mem_singleton.1 q]; exact HNR.out)), by rw [manyL_snoc]; omega, by rw [lastL_snoc, manyL_snoc], HM7, HSN, by rw [manyL_snoc]; omega, HH7, HB7⟩
     case measure => simp [slLen]; omega
    ·have HE := Lib.hid (HLR.out.trans (HY.out hin))
     clear hin
     go_wp2
     go_ret2
     rw [HE.out]
     exact ⟨A6, N + 1, c6, _, rfl, HT7.out, HB7.out⟩
   ·have HE := Lib.hid (HLR.out.trans (HLM.out (k + 1) ls hm8))
    have hmI : decide ((800 : Int) < ((manyL ls : Nat) : Int)) = true := decide_eq_true (by omega)
    go_wp2
    go_ret2
    rw [HE.out]
    exact ⟨none, 0, 0, [], rfl, TabT.nil _ _, HB.out⟩
  ·obtain rfl : k = 0 := by omega
   have HE := Lib.hid (HLR.out.trans (HL0.out ls))
   have hNI : decide ((N : Int) ≤ 8) = false := decide_eq_false (by omega)
   go_wp2
   go_ret2
   rw [HE.out]
   exact ⟨none, 0, 0, [], rfl, TabT.nil _ _, HB.out⟩
set_option maxHeartbeats 2000000 in
set_option maxRecDepth 100000 in
theorem impl_RepairLayers {A : Option Addr} {n c st : Nat} {nm : ByteArray} {l : List ByteArray} {kb ks a b : ByteArray} {w : World} (hn : l.length = n) (h : Strs w A l) (hz : n ≤ 1048576) (hs : ∀ s ∈ l, s.size ≤ 16777216) (hnm : nm.size ≤ 16777216) (h9 : st ≤ 1000) (hkb : kb.size ≤ 16777216) (hks : ks.size ≤ 16777216) (ha : a.size ≤ 16777216) (hb : b.size ≤ 16777216) :
  Calls Tryz.prog 54 #[.agg #[.string nm, .int .i64 st, .slice A n c], .agg #[.string kb, .string ks], .string a, .string b] w fun e w' => ∃ A' m c' vs, e = .returned (.tuple #[.slice A' m c', .bool (rlO nm st l kb ks a b).isSome]) ∧ TabT w' w.heap.size A' m c' vs ((rlO nm st l kb ks a b).getD []) ∧ Below w.heap.size w w' := by
 have HT := Lib.hid (@rlO_t nm st l kb ks a b)
 have HF := Lib.hid (@rlO_f nm st l kb ks a b)
 have b0 : Below w.heap.size w ((w.alloc (.cells ⟨[.string nm, .int .i64 st, .slice A n c]⟩ 25)).alloc (.cells ⟨[.string kb, .string ks]⟩ 27)) := by (repeat' (first | (with_reducible exact Below.refl _ _) | (with_reducible assumption) | (with_reducible refine below_drewN ?_ _) | (with_reducible refine Below.drew ?_) | (with_reducible refine below_alloc ?_ _) | (with_reducible refine Below.alloc ?_ ?_ _) | (with_reducible refine Below.setCell ?_ ?_ _) | (with_reducible refine below_go ?_ (by with_reducible assumption)) | (with_reducible refine below_then (by with_reducible assumption) ?_ ?_) | go_size))
 have K0 := (Blk.at_ w 25 [.string nm, .int .i64 st, .slice A n c] (b := w.heap.size) rfl).alloc (.cells ⟨[.string kb, .string ks]⟩ 27)
 have K1 := Blk.at_ (w.alloc (.cells ⟨[.string nm, .int .i64 st, .slice A n c]⟩ 25)) 27 [.string kb, .string ks] (b := w.heap.size + 1) (by simp)
 have H1 := h.up b0
 clear h
 go_in
 go_upto_region 1 with fail
 obtain ⟨w0, hw0⟩ : ∃ u, u = ((w.alloc (.cells #[.string nm, .int .i64 st, .slice A n c] 25)).alloc (.cells #[.string kb, .string ks] 27)) := ⟨_, rfl⟩
 rw [← hw0] at b0 K0 K1 H1 ⊢
 clear hw0
 have k0 := K0.cell 0; have k1 := K0.cell 1; have k2 := K0.cell 2; have j0 := K1.cell 0; have j1 := K1.cell 1
 simp only [List.getElem?_cons_zero, List.getElem?_cons_succ] at k0 k1 k2 j0 j1
 go_wp2_with fail
 clear k0 k1 k2 j0 j1
 refine (impl_goodRepair (nm := nm) hn H1 hz hs hnm h9 hkb hks ha hb).mono ?_; rintro e w1 ⟨rfl, hb1⟩
 have B1 := below_go b0 hb1
 replace K0 := K0.up hb1
 replace K1 := K1.up hb1
 have H2 := H1.up hb1
 clear H1 hb1 b0
 rcases hg : rpB nm st l kb ks a b
 ·have E := Lib.hid (HF.out hg)
  clear hg
  go_wp2
  go_ret2
  rw [E.out]
  exact ⟨none, 0, 0, [], rfl, TabT.nil _ _, B1⟩
 ·have ET := Lib.hid (HT.out hg)
  obtain ⟨hkk, h4, hra, hrb, hne⟩ := rpB_t hg
  have k0 := K0.cell 0; have k1 := K0.cell 1; have k2 := K0.cell 2; have j0 := K1.cell 0; have j1 := K1.cell 1
  simp only [List.getElem?_cons_zero, List.getElem?_cons_succ] at k0 k1 k2 j0 j1
  clear hg
  go_wp2_with fail
  clear k0 k1 k2 j0 j1
  refine (impl_repairLayers (nm := nm) (tg := b) hn H2 hkk hra).mono ?_; rintro e w2 ⟨A2, m2, c2, vs2, rfl, T2, hb2⟩
  go_wp2
  go_ret2
  rw [ET.out]
  exact ⟨A2, m2, c2, vs2, rfl, T2.base_le B1.size, below_go B1 hb2⟩
end Go.Proofs.YtidolgonmimicaaGreat
namespace Go.Proofs.YtidolgonmimicaaGreat
open Go.ChangeShapes Go.WideShapes Go.ChangeAt Go.RowKit Go.Deep
def reachB (H : Cl → ByteArray) (tg : ByteArray) (k : Nat) (x : ByteArray) : Bool := (leastW H tg k x).isSome
theorem reach_0 {H : Cl → ByteArray} {tg x : ByteArray} : reachB H tg 0 x = true ↔ x = tg := by
 rw [reachB, leastW]
 by_cases h : x = tg
 ·rw [if_pos h]; simp [h]
 ·rw [if_neg h]; simp [h]
theorem reach_iff {H : Cl → ByteArray} {tg x : ByteArray} {k : Nat} : reachB H tg k x = true ↔ ∃ w : List Cl, w.length = k ∧ goW H x w = tg := by
 rw [reachB, Option.isSome_iff_exists]
 constructor
 ·rintro ⟨w, h⟩
  exact ⟨w, leastW_leads k x w h⟩
 ·rintro ⟨w, h1, h2⟩
  obtain ⟨v, hv, _⟩ := leastW_some k x w h1 h2
  exact ⟨v, hv⟩
theorem reach_succ {H : Cl → ByteArray} {tg x : ByteArray} {k : Nat} : reachB H tg (k + 1) x = true ↔ ∃ c, reachB H tg k (timesS x (H c)) = true := by
 rw [reach_iff]
 constructor
 ·rintro ⟨w, h1, h2⟩
  match w, h1, h2 with
  | c :: v, h1, h2 => exact ⟨c, reach_iff.2 ⟨v, by simpa using h1, h2⟩⟩
 ·rintro ⟨c, h⟩
  obtain ⟨v, h1, h2⟩ := reach_iff.1 h
  exact ⟨c :: v, by simp [h1], h2⟩
def GoodS (H : Cl → ByteArray) (tg : ByteArray) (M : List (List ByteArray)) (d i : Nat) (S : List ByteArray) : Prop := ∀ x, x ∈ S ↔ ((∃ L, M[i]? = some L ∧ x ∈ L) ∧ reachB H tg (d - i) x = true)
section
variable {H : Cl → ByteArray} {a tg : ByteArray} {M : List (List ByteArray)} {d : Nat}
theorem goodS_last (hL : Layers H a M) (hM : M.length = d + 1) (hb : Dist H a d tg) : GoodS H tg M d d [tg] := fun x => by
 rw [List.mem_singleton, Nat.sub_self, reach_0]
 constructor
 ·rintro rfl
  refine ⟨⟨M[d]'(by omega), List.getElem?_eq_getElem (by omega), ?_⟩, rfl⟩
  exact ((hL d _ (List.getElem?_eq_getElem (by omega))).2.2 _).2 hb
 ·rintro ⟨_, h⟩
  exact h
theorem goodS_next (hL : Layers H a M) (hM : M.length = d + 1) (hb : Dist H a d tg) {i : Nat} (hi : i < d) {S L : List ByteArray} (hS : GoodS H tg M d (i + 1) S) (hLi : M[i]? = some L) {x : ByteArray} (hx : x ∈ L) (c : Cl) :
  timesS x (H c) ∈ S ↔ reachB H tg (d - (i + 1)) (timesS x (H c)) = true := by
 rw [hS]
 refine ⟨fun h => h.2, fun h => ⟨?_, h⟩⟩
 refine ⟨M[i + 1]'(by omega), List.getElem?_eq_getElem (by omega), ?_⟩
 refine ((hL (i + 1) _ (List.getElem?_eq_getElem (by omega))).2.2 _).2 ?_
 obtain ⟨v, h1, h2⟩ := reach_iff.1 h
 have hd := ((hL i L hLi).2.2 x).1 hx
 have hb2 : Dist H a (i + (d - i)) tg := by rw [show i + (d - i) = d by omega]; exact hb
 exact dist_way hb2 hd (w := c :: v) (by simp; omega) h2 rfl
def anyTo (H : Cl → ByteArray) (tg : ByteArray) (k : Nat) (x : ByteArray) : Nat → Bool
 | 0 => false
 | 1 => reachB H tg k (timesS x (H 1))
 | 2 => reachB H tg k (timesS x (H 1)) || reachB H tg k (timesS x (H 0))
 | _ => reachB H tg k (timesS x (H 1)) || reachB H tg k (timesS x (H 0)) || reachB H tg k (timesS x (H 2))
def hdN : Nat → Cl
 | 0 => 1
 | 1 => 0
 | _ => 2
theorem anyTo_succ {k : Nat} {x : ByteArray} {q : Nat} (hq : q < 3) : anyTo H tg k x (q + 1) = (anyTo H tg k x q || reachB H tg k (timesS x (H (hdN q)))) := by
 rcases q with _ | _ | _ | q
 ·simp [anyTo, hdN]
 ·rfl
 ·rfl
 ·omega
theorem anyTo_all {k : Nat} {x : ByteArray} : anyTo H tg k x 3 = reachB H tg (k + 1) x := by
 rw [Bool.eq_iff_iff, reach_succ]
 show (reachB H tg k (timesS x (H 1)) || reachB H tg k (timesS x (H 0)) || reachB H tg k (timesS x (H 2))) = true ↔ _
 rw [Bool.or_eq_true, Bool.or_eq_true]
 constructor
 ·rintro ((h | h) | h)
  ·exact ⟨1, h⟩
  ·exact ⟨0, h⟩
  ·exact ⟨2, h⟩
 ·rintro ⟨c, h⟩
  rcases cl_cases c with rfl | rfl | rfl
  ·exact Or.inl (Or.inr h)
  ·exact Or.inl (Or.inl h)
  ·exact Or.inr h
def MarkS (H : Cl → ByteArray) (tg : ByteArray) (L : List ByteArray) (k j q : Nat) (S : List ByteArray) : Prop := ∀ x, x ∈ S ↔ ((x ∈ L.take j ∧ reachB H tg (k + 1) x = true) ∨ (L[j]? = some x ∧ anyTo H tg k x q = true))
theorem markS_start (L : List ByteArray) (k : Nat) : MarkS H tg L k 0 0 [] := fun x => by simp [anyTo]
theorem markS_row {L : List ByteArray} {k j : Nat} {r : ByteArray} {S : List ByteArray} (h : MarkS H tg L k j 3 S) (hr : L[j]? = some r) : MarkS H tg L k (j + 1) 0 S := fun x => by
 rw [h, take_succ_some hr, List.mem_append, List.mem_singleton, hr]
 constructor
 ·rintro (⟨h1, h2⟩ | ⟨h1, h2⟩)
  ·exact Or.inl ⟨Or.inl h1, h2⟩
  ·injection h1 with h1
   rw [anyTo_all] at h2
   exact Or.inl ⟨Or.inr h1.symm, h2⟩
 ·rintro (⟨h1 | h1, h2⟩ | ⟨_, h2⟩)
  ·exact Or.inl ⟨h1, h2⟩
  ·exact Or.inr ⟨by rw [h1], by rw [anyTo_all]; exact h2⟩
  ·cases h2
theorem markS_yes {L : List ByteArray} {k j q : Nat} {r : ByteArray} {S : List ByteArray} (h : MarkS H tg L k j q S) (hr : L[j]? = some r) (hq : q < 3) (hy : reachB H tg k (timesS r (H (hdN q))) = true) : MarkS H tg L k j (q + 1) (S ++ [r]) := fun x => by
 rw [List.mem_append, List.mem_singleton, h, hr]
 constructor
 ·rintro ((h1 | ⟨h1, h2⟩) | rfl)
  ·exact Or.inl h1
  ·exact Or.inr ⟨h1, by rw [anyTo_succ hq, h2]; rfl⟩
  ·exact Or.inr ⟨rfl, by rw [anyTo_succ hq, hy, Bool.or_true]⟩
 ·rintro (h1 | ⟨h1, h2⟩)
  ·exact Or.inl (Or.inl h1)
  ·injection h1 with h1
   exact Or.inr h1.symm
theorem markS_no {L : List ByteArray} {k j q : Nat} {r : ByteArray} {S : List ByteArray} (h : MarkS H tg L k j q S) (hr : L[j]? = some r) (hq : q < 3) (hy : reachB H tg k (timesS r (H (hdN q))) = false) : MarkS H tg L k j (q + 1) S := fun x => by
 rw [h, hr]
 constructor
 ·rintro (h1 | ⟨h1, h2⟩)
  ·exact Or.inl h1
  ·exact Or.inr ⟨h1, by rw [anyTo_succ hq, h2]; rfl⟩
 ·rintro (h1 | ⟨h1, h2⟩)
  ·exact Or.inl h1
  ·injection h1 with h1
   subst h1
   rw [anyTo_succ hq, hy, Bool.or_false] at h2
   exact Or.inr ⟨rfl, h2⟩
theorem markS_done {L : List ByteArray} {k i : Nat} {S : List ByteArray} (hLi : M[i]? = some L) (hk : d - i = k + 1) (h : MarkS H tg L k L.length 0 S) : GoodS H tg M d i S := fun x => by
 rw [h, List.take_length, hk]
 constructor
 ·rintro (⟨h1, h2⟩ | ⟨_, h2⟩)
  ·exact ⟨⟨L, hLi, h1⟩, h2⟩
  ·cases h2
 ·rintro ⟨⟨L', e, h1⟩, h2⟩
  rw [hLi] at e
  injection e with e
  subst e
  exact Or.inl ⟨h1, h2⟩
theorem leastW_step {k : Nat} {x : ByteArray} {w : List Cl} (h : leastW H tg (k + 1) x = some w) : ∃ c v, w = c :: v ∧ leastW H tg k (timesS x (H c)) = some v ∧ ∀ b, b < c → reachB H tg k (timesS x (H b)) = false := by
 simp only [leastW] at h
 split at h
 ·rename_i v hv
  injection h with h
  exact ⟨0, v, h.symm, hv, fun b hb => absurd hb (by rcases cl_cases b with rfl | rfl | rfl <;> decide)⟩
 ·rename_i h0
  split at h
  ·rename_i v hv
   injection h with h
   refine ⟨1, v, h.symm, hv, fun b hb => ?_⟩
   rcases cl_cases b with rfl | rfl | rfl
   ·rw [reachB, h0]; rfl
   ·exact absurd hb (by decide)
   ·exact absurd hb (by decide)
  ·rename_i h1
   rw [Option.map_eq_some_iff] at h
   obtain ⟨v, hv, e⟩ := h
   refine ⟨2, v, e.symm, hv, fun b hb => ?_⟩
   rcases cl_cases b with rfl | rfl | rfl
   ·rw [reachB, h0]; rfl
   ·rw [reachB, h1]; rfl
   ·exact absurd hb (by decide)
end
end Go.Proofs.YtidolgonmimicaaGreat
namespace Go.Proofs.YtidolgonmimicaaGreat
open Go.ChangeShapes Go.WideShapes Go.ChangeAt Go.RowKit Go.Deep
open Go.Maps (Keyed string_keyed)
def mapE (o : Option Nat) : List Value := [.map o]
theorem mapE_len (o : Option Nat) : (mapE o).length = 1 := rfl
theorem Tryz.elMaps : ElemOk Tryz.prog 122 110 (.map none) 1 8 := ⟨Tryz.underlying122, by kernel_rfl, rfl, by decide⟩
def GdM (w : World) (gl : List (Option Nat)) (H : Cl → ByteArray) (tg : ByteArray) (M : List (List ByteArray)) (d lo B base : Nat) : Prop := ∀ j, lo ≤ j → j ≤ d → ∃ (b : Nat) (S : List ByteArray), gl[j]? = some (some b) ∧ base ≤ b ∧ b < B ∧ SetX Tryz.prog w 9 4 b S ∧ GoodS H tg M d j S ∧ S.length ≤ 100000
section
variable {w w' : World} {gl : List (Option Nat)} {H : Cl → ByteArray} {tg : ByteArray} {M : List (List ByteArray)} {d lo B base : Nat}
theorem GdM.up (h : GdM w gl H tg M d lo B base) (hb : Below w.heap.size w w') : GdM w' gl H tg M d lo B base := fun j h1 h2 => by
 obtain ⟨b, S, e1, e2, e3, e4, e5, e6⟩ := h j h1 h2
 exact ⟨b, S, e1, e2, e3, e4.up hb, e5, e6⟩
theorem GdM.kept {row : Option Nat} (h : GdM w gl H tg M d lo B base) (hg : w.grownBy w' row) (hne : ∀ (b : Nat) (S : List ByteArray), SetX Tryz.prog w 9 4 b S → b < B → some b ≠ row) : GdM w' gl H tg M d lo B base := fun j h1 h2 => by
 obtain ⟨b, S, e1, e2, e3, e4, e5, e6⟩ := h j h1 h2
 exact ⟨b, S, e1, e2, e3, e4.kept hg (hne b S e4 e3), e5, e6⟩
theorem GdM.more {B' : Nat} (h : GdM w gl H tg M d lo B base) (hB : B ≤ B') : GdM w gl H tg M d lo B' base := fun j h1 h2 => by
 obtain ⟨b, S, e1, e2, e3, e4⟩ := h j h1 h2
 exact ⟨b, S, e1, e2, by omega, e4⟩
theorem GdM.set {q : Nat} {o : Option Nat} (h : GdM w gl H tg M d (q + 1) B base) : GdM w (gl.set q o) H tg M d (q + 1) B base := fun j h1 h2 => by
 obtain ⟨b, S, e1, e2⟩ := h j h1 h2
 exact ⟨b, S, by rw [List.getElem?_set_ne (by omega)]; exact e1, e2⟩
theorem GdM.next {q b : Nat} {S : List ByteArray} (h : GdM w gl H tg M d (q + 1) B base) (hq : gl[q]? = some (some b)) (h1 : base ≤ b) (h2 : b < B) (h3 : SetX Tryz.prog w 9 4 b S) (h4 : GoodS H tg M d q S) (h5 : S.length ≤ 100000) : GdM w gl H tg M d q B base := fun j hj1 hj2 => by
 by_cases e : j = q
 ·subst e
  exact ⟨b, S, hq, h1, h2, h3, h4, h5⟩
 ·exact h j (by omega) hj2
end
structure RtS (w wr : World) (nm : ByteArray) (st : Nat) (A : Option Addr) (n c : Nat) (kb ks : ByteArray) (base : Nat) (AM : Option Addr) (m cM : Nat) (vs : List Hd) (M : List (List ByteArray)) (A1 : Option Addr) (c1 : Nat) (HL : List ByteArray) (g : Nat) (gl : List (Option Nat)) : Prop where
 k0 : Blk wr w.heap.size 25 [.string nm, .int .i64 (st : Int), .slice A n c]
 k1 : Blk wr (w.heap.size + 1) 27 [.string kb, .string ks]
 hb : w.heap.size + 1 < base
 t : TabT wr base AM m cM vs M
 h : Owned strE 1 9 wr base A1 3 c1 HL
 r : Owned mapE 1 110 wr base (some ⟨g, 0, none⟩) m m gl
 b : Below w.heap.size w wr
section
variable {w wr wr' : World} {nm : ByteArray} {st : Nat} {A : Option Addr} {n c : Nat} {kb ks : ByteArray} {base : Nat} {AM : Option Addr} {m cM : Nat} {vs : List Hd} {M : List (List ByteArray)} {A1 : Option Addr} {c1 : Nat} {HL : List ByteArray} {g : Nat} {gl gl' : List (Option Nat)}
theorem RtS.up (h : RtS w wr nm st A n c kb ks base AM m cM vs M A1 c1 HL g gl) (hb : Below wr.heap.size wr wr') : RtS w wr' nm st A n c kb ks base AM m cM vs M A1 c1 HL g gl :=
 ⟨h.k0.up hb, h.k1.up hb, h.hb, h.t.up hb, h.h.up hb, h.r.up hb, below_go h.b hb⟩
theorem RtS.mapw {bq : Nat} {S : List ByteArray} (h : RtS w wr nm st A n c kb ks base AM m cM vs M A1 c1 HL g gl) (hs : SetX Tryz.prog wr 9 4 bq S) (hq : base ≤ bq) (hg : wr.grownBy wr' (some bq)) : RtS w wr' nm st A n c kb ks base AM m cM vs M A1 c1 HL g gl := by
 have h1 := h.hb
 exact ⟨h.k0.grown hg (fun e => by injection e with e; omega), h.k1.grown hg (fun e => by injection e with e; omega), h.hb, h.t.map_ hs hg, h.h.map_ hs hg, h.r.map_ hs hg, h.b.grown hg h.b.size (fun k e => by injection e with e; omega)⟩
theorem RtS.store (h : RtS w wr nm st A n c kb ks base AM m cM vs M A1 c1 HL g gl) (hr : Owned mapE 1 110 wr' base (some ⟨g, 0, none⟩) m m gl') (hg : wr.grownBy wr' (some g)) : RtS w wr' nm st A n c kb ks base AM m cM vs M A1 c1 HL g gl' := by
 have h1 := h.hb
 have h2 := h.r.at_own
 have ne1 : ∀ {B : Option Addr} {x y : Nat} {L : List ByteArray}, Owned strE 1 9 wr base B x y L → Owned strE 1 9 wr' base B x y L := fun ho => ho.kept hg (fun k hk e => ho.ne h.r (by decide) k hk e)
 refine ⟨h.k0.grown hg (fun e => by injection e with e; omega), h.k1.grown hg (fun e => by injection e with e; omega), h.hb, ⟨h.t.top.kept hg (fun k hk e => h.t.top.ne h.r (by decide) k hk e), h.t.len, fun k v r hv hr => ne1 (h.t.row k v r hv hr)⟩, ne1 h.h, hr, h.b.grown hg h.b.size (fun k e => by injection e with e; omega)⟩
theorem RtS.cell {k : Nat} {o : Option Nat} (h : RtS w wr nm st A n c kb ks base AM m cM vs M A1 c1 HL g gl) (hk : gl[k]? = some o) : wr.cell? ⟨g, k, none⟩ = some (.map o) ∧ wr.frozen? ⟨g, k, none⟩ = false := by
 have hl := (List.getElem?_eq_some_iff.1 hk).1
 obtain ⟨g', e, _, _, gc, gf⟩ := h.r.at_ (by rw [← h.r.len]; omega)
 injection e with e
 injection e with e
 subst e
 have := gc k o 0 _ hk rfl
 simp only [Nat.mul_one, Nat.add_zero] at this
 exact ⟨this, gf k⟩
theorem RtS.put {k : Nat} {o : Option Nat} (h : RtS w wr nm st A n c kb ks base AM m cM vs M A1 c1 HL g gl) (hk : k < gl.length) : RtS w (wr.setCell ⟨g, k, none⟩ (.map o)) nm st A n c kb ks base AM m cM vs M A1 c1 HL g (gl.set k o) ∧ wr.grownBy (wr.setCell ⟨g, k, none⟩ (.map o)) (some g) := by
 have q := h.r.put (k := k) (j := 0) (x := o) (y := gl[k]) (u := .map o) (List.getElem?_eq_getElem hk) (by decide) rfl
 simp only [Nat.mul_one, Nat.add_zero] at q
 exact ⟨h.store q.1 q.2, q.2⟩
end
end Go.Proofs.YtidolgonmimicaaGreat
namespace Go.Proofs.YtidolgonmimicaaGreat
open Go.ChangeShapes Go.WideShapes Go.ChangeAt Go.RowKit Go.Deep
open Go.Maps (Keyed string_keyed)
theorem hdN_lt {H : Cl → ByteArray} {x : Nat} (hx : x < 3) : [H 1, H 0, H 2][x]? = some (H (hdN x)) := by
 rcases x with _ | _ | _ | x
 ·rfl
 ·rfl
 ·rfl
 ·omega
set_option maxHeartbeats 8000000 in
set_option maxRecDepth 100000 in
theorem impl_RepairTouch {A : Option Addr} {n c st : Nat} {nm : ByteArray} {l : List ByteArray} {kb ks a b : ByteArray} {w : World} (hn : l.length = n) (h : Strs w A l) (hz : n ≤ 1048576) (hs : ∀ s ∈ l, s.size ≤ 16777216) (hnm : nm.size ≤ 16777216) (h9 : st ≤ 1000) (hkb : kb.size ≤ 16777216) (hks : ks.size ≤ 16777216) (ha : a.size ≤ 16777216) (hb : b.size ≤ 16777216) :
  Calls Tryz.prog 36 #[.agg #[.string nm, .int .i64 st, .slice A n c], .agg #[.string kb, .string ks], .string a, .string b] w fun e w' => e = .returned (.tuple #[.string (lstT (rtO nm st l kb ks a b)), .bool (rtO nm st l kb ks a b).isSome]) ∧ Below w.heap.size w w' := by
 have HT := Lib.hid (@rtO_t nm st l kb ks a b)
 have HF := Lib.hid (@rtO_f nm st l kb ks a b)
 have KS := string_keyed (P := Tryz.prog) (k := 9) Tryz.underlying9
 have b0 : Below w.heap.size w ((w.alloc (.cells ⟨[.string nm, .int .i64 st, .slice A n c]⟩ 25)).alloc (.cells ⟨[.string kb, .string ks]⟩ 27)) := by (repeat' (first | (with_reducible exact Below.refl _ _) | (with_reducible assumption) | (with_reducible refine below_drewN ?_ _) | (with_reducible refine Below.drew ?_) | (with_reducible refine below_alloc ?_ _) | (with_reducible refine Below.alloc ?_ ?_ _) | (with_reducible refine Below.setCell ?_ ?_ _) | (with_reducible refine below_go ?_ (by with_reducible assumption)) | (with_reducible refine below_then (by with_reducible assumption) ?_ ?_) | go_size))
 have K0 := (Blk.at_ w 25 [.string nm, .int .i64 st, .slice A n c] (b := w.heap.size) rfl).alloc (.cells ⟨[.string kb, .string ks]⟩ 27)
 have K1 := Blk.at_ (w.alloc (.cells ⟨[.string nm, .int .i64 st, .slice A n c]⟩ 25)) 27 [.string kb, .string ks] (b := w.heap.size + 1) (by simp)
 have HH := Lib.hid h
 clear h
 go_in
 go_upto_region 1 with fail
 obtain ⟨w0, hw0⟩ : ∃ u, u = ((w.alloc (.cells #[.string nm, .int .i64 st, .slice A n c] 25)).alloc (.cells #[.string kb, .string ks] 27)) := ⟨_, rfl⟩
 have z0 : w0.heap.size = w.heap.size + 2 := by rw [hw0]; simp
 rw [← hw0] at b0 K0 K1 ⊢
 clear hw0
 obtain ⟨base, hbase⟩ : ∃ u, u = w0.heap.size := ⟨_, rfl⟩
 have hbw : w.heap.size + 1 < base := by omega
 have k0 := K0.cell 0; have k1 := K0.cell 1; have k2 := K0.cell 2; have j0 := K1.cell 0; have j1 := K1.cell 1
 simp only [List.getElem?_cons_zero, List.getElem?_cons_succ] at k0 k1 k2 j0 j1
 go_wp2_with fail
 clear k0 k1 k2 j0 j1 z0
 refine (impl_goodRepair (nm := nm) hn (HH.out.up b0) hz hs hnm h9 hkb hks ha hb).mono ?_; rintro e w1 ⟨rfl, hb1⟩
 have B1 := below_go b0 hb1
 have hbs1 : base ≤ w1.heap.size := by have := hb1.size; omega
 replace K0 := K0.up hb1
 replace K1 := K1.up hb1
 clear hb1 b0 hbase
 rcases hg : rpB nm st l kb ks a b
 ·have E := Lib.hid (HF.out hg)
  clear hg
  go_wp2
  go_ret2
  rw [E.out]
  exact ⟨rfl, B1⟩
 ·have ET := Lib.hid (HT.out hg)
  obtain ⟨hkk, h4, hra, hrb, hne⟩ := rpB_t hg
  have h8 := (goodK_all hkk).1
  have HC := Lib.hid (clH_row h8.1 h8.2 l kb ks)
  have HD3 := Lib.hid (hds3_cl st l kb ks)
  have HK := Lib.hid hkk
  have HRA := Lib.hid hra
  have k0 := K0.cell 0; have k1 := K0.cell 1; have k2 := K0.cell 2; have j0 := K1.cell 0; have j1 := K1.cell 1
  simp only [List.getElem?_cons_zero, List.getElem?_cons_succ] at k0 k1 k2 j0 j1
  clear hg hne hrb HT HF h4
  go_wp2_with fail
  clear k0 k1 k2 j0 j1
  refine (impl_repairLayers (nm := nm) (tg := b) hn (HH.out.up B1) hkk hra).mono ?_; rintro e w2 ⟨A2, m2, c2, vs2, rfl, T2, hb2⟩
  have B2 := below_go B1 hb2
  replace T2 := T2.base_le hbs1
  have hbs2 : base ≤ w2.heap.size := by have := hb2.size; omega
  replace K0 := K0.up hb2
  replace K1 := K1.up hb2
  clear hb2 B1 hbs1
  rcases hl : layR (clH st l kb ks) a b with _ | M
  ·have E := Lib.hid (ET.out.trans (repW_none hl))
   rw [hl] at T2
   clear hl
   go_wp2
   go_ret2
   rw [E.out]
   exact ⟨rfl, B2⟩
  ·obtain ⟨v, e1, e2, e3, e4, e5⟩ := repW_some hl
   obtain ⟨hLay, ⟨d, h1, h2, h3, hDist⟩, hM0, hmany⟩ := layR_ok hl
   rw [hl] at T2
   have T2 : TabT w2 base A2 m2 c2 vs2 M := T2
   have hml : M.length = m2 := T2.nlen
   have hm2a : m2 ≤ d + 1 := by omega
   have hm2b : d + 1 ≤ m2 := by omega
   have E := Lib.hid (ET.out.trans e1)
   have hvl : v.length = d := by omega
   have hLW : leastW (clH st l kb ks) b d a = some v := by rw [h1] at e2; exact e2
   obtain ⟨H, hH⟩ : ∃ u, u = clH st l kb ks := ⟨_, rfl⟩
   rw [← hH] at HC HD3 hLay hDist hLW
   have HHE := Lib.hid hH
   have HLAY := Lib.hid hLay
   have HDI := Lib.hid hDist
   have HLW := Lib.hid hLW
   have HM0 := Lib.hid hM0
   have HML := Lib.hid h1
   have HMR : Hid (∀ (j : Nat) (L : List ByteArray), M[j]? = some L → L.length ≤ 3200 ∧ ∀ x ∈ L, RowN st x) := Lib.hid (fun j L hj => by
    refine ⟨by have := manyL_at (List.mem_of_getElem? hj); omega, fun x hx => ?_⟩
    obtain ⟨⟨u, _, eu⟩, _⟩ := ((hLay j L hj).2.2 x).1 hx
    rw [← eu]
    exact goW_row HC.out u a HRA.out)
   have HCH : Hid (∀ c : Cl, callHd st l kb ks (clT c) = H c) := Lib.hid (fun _ => by rw [HHE.out]; rfl)
   clear hl e1 e2 e3 e4 e5 h1 hM0 hmany hLay hDist hLW hH hkk hra hml ET
   have k0 := K0.cell 0; have k1 := K0.cell 1; have k2 := K0.cell 2; have j0 := K1.cell 0; have j1 := K1.cell 1
   simp only [List.getElem?_cons_zero, List.getElem?_cons_succ] at k0 k1 k2 j0 j1
   go_wp2_with fail
   clear k0 k1 k2 j0 j1
   refine (impl_callHeads (nm := nm) hn (HH.out.up B2) HK.out).mono ?_; rintro e w3 ⟨A1, c1, rfl, ho1, hb3⟩
   rw [HD3.out] at ho1
   replace ho1 := ho1.base_le hbs2
   have B3 := below_go B2 hb3
   have hbs3 : base ≤ w3.heap.size := by have := hb3.size; omega
   replace T2 := T2.up hb3
   replace K0 := K0.up hb3
   replace K1 := K1.up hb3
   clear hb3 B2 hbs2
   have hmk := run_make_rec (P := Tryz.prog) (e := mapE) Tryz.elMaps none rfl m2 (by omega) (by decide)
   have oG := Owned.made (e := mapE) (s := 1) (base := base) mapE_len w3 110 none m2 (by omega) hbs3
   rw [Nat.mul_one] at oG
   have a4 : Below w3.heap.size w3 (w3.alloc (.cells (madeCells (mapE none).toArray m2) 110)) := by (repeat' (first | (with_reducible exact Below.refl _ _) | (with_reducible assumption) | (with_reducible refine below_drewN ?_ _) | (with_reducible refine Below.drew ?_) | (with_reducible refine below_alloc ?_ _) | (with_reducible refine Below.alloc ?_ ?_ _) | (with_reducible refine Below.setCell ?_ ?_ _) | (with_reducible refine below_go ?_ (by with_reducible assumption)) | (with_reducible refine below_then (by with_reducible assumption) ?_ ?_) | go_size))
   have S4 : RtS w (w3.alloc (.cells (madeCells (mapE none).toArray m2) 110)) nm st A n c kb ks base A2 m2 c2 vs2 M A1 c1 [H 1, H 0, H 2] w3.heap.size (List.replicate m2 none) := ⟨K0.up a4, K1.up a4, hbw, T2.up a4, ho1.up a4, oG, below_go B3 a4⟩
   go_upto_region 8 with fail
   obtain ⟨w4, hw4⟩ : ∃ u, u = w3.alloc (.cells (madeCells (mapE none).toArray m2) 110) := ⟨_, rfl⟩
   rw [← hw4] at S4 ⊢
   obtain ⟨g, hgg⟩ : ∃ u, u = w3.heap.size := ⟨_, rfl⟩
   rw [← hgg] at S4 ⊢
   clear hmk oG a4 hw4 hgg T2 ho1 K0 K1 B3 hbs3
   have hmm := @run_makeMap Tryz.prog
   have hw1 : IntKind.i64.wrap ((m2 : Int) - 1) = (d : Int) := by rw [wrap_id (by omega)]; omega
   have hdI : (d : Int) < (m2 : Int) := by omega
   have SA := Lib.hid (S4.up ((Below.refl _ _).alloc (Nat.le_refl _) (.map #[] 0)))
   have MA : Hid (SetX Tryz.prog (w4.alloc (.map #[] 0)) 9 4 w4.heap.size []) := Lib.hid (SetX.made _ _ _ _)
   have hbs4 : base ≤ w4.heap.size := by have := S4.r.at_own; omega
   clear S4
   have HGL : Hid (w4.heap.size < (w4.alloc (.map #[] 0)).heap.size) := Lib.hid (by simp)
   go_upto_region 9 with (first | (refine wpList_setx_ins rfl (.tmp 51) (.tmp 52) (.const (.bool true)) 110 rfl KS Tryz.underlying110 Tryz.underlying9 Tryz.underlying4 rfl MA.out (by simp) rfl rfl hb ?_; intro w5 hm5 hg5; have S5 := SA.out.mapw MA.out hbs4 hg5; obtain ⟨q5, f5⟩ := S5.cell (k := d) (o := none) (by rw [List.getElem?_replicate, if_pos (by omega)])))
   clear hmm hw1 hdI q5 f5
   rw [List.nil_append] at hm5
   have hgl0 : (List.replicate m2 (none : Option Nat)).length = m2 := List.length_replicate
   obtain ⟨S6, g6⟩ := S5.put (k := d) (o := some w4.heap.size) (by rw [hgl0]; omega)
   have M6 := hm5.kept g6 (setx_own S5.r hm5)
   have hbd : w4.heap.size < (w5.setCell ⟨g, d, none⟩ (.map (some w4.heap.size))).heap.size := by have := HGL.out; have := hg5.size; have := g6.size; omega
   have HGD : Hid (GdM (w5.setCell ⟨g, d, none⟩ (.map (some w4.heap.size))) ((List.replicate m2 none).set d (some w4.heap.size)) H b M d d (w5.setCell ⟨g, d, none⟩ (.map (some w4.heap.size))).heap.size base) := Lib.hid (fun j hj1 hj2 => by
    obtain rfl : j = d := by omega
    exact ⟨w4.heap.size, [b], by rw [List.getElem?_set_self (by rw [hgl0]; omega)], hbs4, hbd, M6, goodS_last HLAY.out HML.out HDI.out, by simp⟩)
   obtain ⟨w6, hw6⟩ : ∃ u, u = w5.setCell ⟨g, d, none⟩ (.map (some w4.heap.size)) := ⟨_, rfl⟩
   rw [← hw6] at S6 HGD ⊢
   obtain ⟨gl0, hgl⟩ : ∃ u, u = (List.replicate m2 (none : Option Nat)).set d (some w4.heap.size) := ⟨_, rfl⟩
   rw [← hgl] at S6 HGD
   have HS6 := Lib.hid S6
   clear hm5 hg5 S5 S6 g6 M6 hbd hw6 hgl hgl0 SA MA HGL hbs4
   obtain ⟨gA, rfl, _⟩ := HS6.out.t.top.at_ (by omega)
   obtain ⟨gH, rfl, _⟩ := HS6.out.h.at_ (by omega)
   have hw2 : IntKind.i64.wrap ((m2 : Int) - 2) = (d : Int) - 1 := by rw [wrap_id (by omega)]; omega
   go_wp2
   clear hw2
   go_loopw [14] (fun iv wr => ∃ (i : Nat) (gl : List (Option Nat)), iv = .int .i64 ((i : Int) - 1) ∧ i ≤ d ∧ Hid (RtS w wr nm st A n c kb ks base (some ⟨gA, 0, none⟩) m2 c2 vs2 M (some ⟨gH, 0, none⟩) c1 [H 1, H 0, H 2] g gl) ∧ Hid (GdM wr gl H b M d i wr.heap.size base)) (fun iv _ => (intOf iv + 1).toNat)
   case atStart => exact ⟨d, gl0, rfl, Nat.le_refl _, HS6, HGD⟩
   case round =>
    obtain ⟨i, gl, rfl, hi, HS, HG⟩ := hrel
    rename World => wr
    have hgll : gl.length = m2 := HS.out.r.len
    by_cases hpos : 0 < i
    ·obtain ⟨q, rfl⟩ : ∃ q, i = q + 1 := ⟨i - 1, by omega⟩
     have he : (((q + 1 : Nat) : Int) - 1) = (q : Int) := by omega
     rw [he]
     clear he
     have hmm := @run_makeMap Tryz.prog
     have hq0 : (0 : Int) ≤ (q : Int) := by omega
     have hqm : (q : Int) < (m2 : Int) := by omega
     obtain ⟨oq, hoq⟩ : ∃ o, gl[q]? = some o := ⟨_, List.getElem?_eq_getElem (by omega)⟩
     have a7 : Below wr.heap.size wr (wr.alloc (.map #[] 0)) := by (repeat' (first | (with_reducible exact Below.refl _ _) | (with_reducible assumption) | (with_reducible refine below_drewN ?_ _) | (with_reducible refine Below.drew ?_) | (with_reducible refine below_alloc ?_ _) | (with_reducible refine Below.alloc ?_ ?_ _) | (with_reducible refine Below.setCell ?_ ?_ _) | (with_reducible refine below_go ?_ (by with_reducible assumption)) | (with_reducible refine below_then (by with_reducible assumption) ?_ ?_) | go_size))
     have S7 := HS.out.up a7
     obtain ⟨q7, f7⟩ := S7.cell hoq
     go_upto_region 13 with fail
     clear hmm q7 f7 hoq
     obtain ⟨S8, g8⟩ := S7.put (k := q) (o := some wr.heap.size) (by omega)
     have M7 : SetX Tryz.prog (wr.alloc (.map #[] 0)) 9 4 wr.heap.size [] := SetX.made _ _ _ _
     have M8 := M7.kept g8 (setx_own S7.r M7)
     have G8 := ((HG.out.up a7).kept g8 (fun b1 S1 hs1 _ => setx_own S7.r hs1)).set (o := some wr.heap.size)
     have hz8 : wr.heap.size < ((wr.alloc (.map #[] 0)).setCell ⟨g, q, none⟩ (.map (some wr.heap.size))).heap.size := by have := g8.size; simp at this ⊢
     have hqb : base ≤ wr.heap.size := by have := HS.out.r.at_own; omega
     obtain ⟨w7, hw7⟩ : ∃ u, u = (wr.alloc (.map #[] 0)).setCell ⟨g, q, none⟩ (.map (some wr.heap.size)) := ⟨_, rfl⟩
     rw [← hw7] at S8 M8 G8 hz8 ⊢
     obtain ⟨bq, hbq⟩ : ∃ u, u = wr.heap.size := ⟨_, rfl⟩
     rw [← hbq] at S8 M8 G8 hz8 hqb ⊢
     obtain ⟨gl2, hgl2⟩ : ∃ u, u = gl.set q (some bq) := ⟨_, rfl⟩
     have hq2 : gl2[q]? = some (some bq) := by rw [hgl2, List.getElem?_set_self (by omega)]
     rw [← hgl2] at S8 G8
     have HS8 := Lib.hid S8
     have HM8 := Lib.hid M8
     have HG8 := Lib.hid G8
     have HQ2 := Lib.hid hq2
     clear a7 S7 M7 g8 S8 M8 G8 hw7 hbq hgl2 hq2 HS HG hgll
     obtain ⟨b1, S1, e1, hb1b, hb1q, hs1, hg1, hl1⟩ := HG8.out (q + 1) (Nat.le_refl _) (by omega)
     have HE1 := Lib.hid e1
     have HS1 := Lib.hid hs1
     have HG1 := Lib.hid hg1
     clear e1 hs1 hg1 hl1
     obtain ⟨bA, oA, BL, mL, dL, L, eA, _, hcell, hLq, hLl, hLs⟩ := HS8.out.t.tab.row (k := q) (by omega)
     injection eA with eA
     injection eA with x1 x2 _
     subst x1 x2
     rw [Nat.zero_add] at hcell
     have HLQ := Lib.hid hLq
     have HLL := Lib.hid hLl
     have HLS := Lib.hid hLs
     have HLR := Lib.hid (HMR.out q L hLq)
     have hmz : mL ≤ 3200 := by rw [← hLl]; exact HLR.out.1
     have HGN : Hid (∀ r ∈ L, ∀ cc : Cl, inL S1 (timesS r (H cc)) = reachB H b (d - (q + 1)) (timesS r (H cc))) := Lib.hid (fun r hr cc => by
      rw [Bool.eq_iff_iff, inL_iff]
      exact goodS_next HLAY.out HML.out HDI.out (by omega) HG1.out HLQ.out hr cc)
     obtain ⟨k, hk⟩ : ∃ k, k = d - (q + 1) := ⟨_, rfl⟩
     have hkd : d - q = k + 1 := by omega
     have HKD := Lib.hid hkd
     rw [← hk] at HGN
     clear hLq hLl hLs hk hkd
     go_wp2
     clear hcell
     go_loopw [71] (fun iv wr => ∃ (j : Nat) (S : List ByteArray), j ≤ mL ∧ iv = .int .i64 j ∧ Hid (SetX Tryz.prog wr 9 4 bq S) ∧ Hid (MarkS H b L k j 0 S) ∧ S.length ≤ 3 * j ∧ Hid (w7.grownBy wr (some bq))) (fun iv _ => mL - (intOf iv).toNat)
     case atStart => exact ⟨0, [], Nat.zero_le _, rfl, HM8, Lib.hid (markS_start L k), Nat.le_refl _, Lib.hid (grown_any (Below.refl _ _) _)⟩
     case round =>
      obtain ⟨j, S, hj, rfl, HM, HMK, hSl, HGR⟩ := hrel
      rename World => wo
      by_cases hjt : j < mL
      ·obtain ⟨b2, o2, r, hBL, _, hr, hcr⟩ := (strs_map HLS.out HM8.out HGR.out).at_str (k := j) (by rw [HLL.out]; exact hjt)
       subst hBL
       have hrN := Lib.hid (HLR.out.2 r (List.mem_of_getElem? hr))
       have HRM := Lib.hid (List.mem_of_getElem? hr)
       have HRJ := Lib.hid hr
       have hjI : (j : Int) < (mL : Int) := by omega
       have hrz : r.size ≤ 16777216 := by have := hrN.out.2; have := hrN.out.st; omega
       clear hr
       go_wp2
       go_loopw [77] (fun iv wr => ∃ (x : Nat) (S : List ByteArray), x ≤ 3 ∧ iv = .int .i64 x ∧ Hid (SetX Tryz.prog wr 9 4 bq S) ∧ Hid (MarkS H b L k j x S) ∧ S.length ≤ 3 * j + x ∧ Hid (w7.grownBy wr (some bq))) (fun iv _ => 3 - (intOf iv).toNat)
       case atStart => exact ⟨0, S, by omega, rfl, HM, HMK, by omega, HGR⟩
       case round =>
        obtain ⟨x, S, hx3, rfl, HM, HMK, hSl, HGR⟩ := hrel
        rename World => wq
        by_cases hxt : x < 3
        ·obtain ⟨b3, o3, hd, hA3, _, hx, hcx⟩ := (strs_map HS8.out.h.recs HM8.out HGR.out).at_str (k := x) (by exact hxt)
         injection hA3 with hA3
         injection hA3 with y1 y2 _
         subst y1 y2
         rw [Nat.zero_add] at hcx
         rw [hdN_lt hxt] at hx
         injection hx with hx
         subst hx
         have hxI : (x : Int) < 3 := by omega
         have hcN := Lib.hid (HC.out (hdN x))
         have hft := Lib.hid (rowN_fits hrN.out hcN.out)
         have hcz : (H (hdN x)).size ≤ 16777216 := by have := hcN.out.2; have := hcN.out.st; omega
         have hzz : (timesS r (H (hdN x))).size ≤ 16777216 := by have := (hrN.out.times hcN.out).2; have := hrN.out.st; omega
         have HSQ := Lib.hid (HS8.out.mapw HM8.out hqb HGR.out)
         have HS1 := Lib.hid (HS1.out.kept HGR.out (fun e => by injection e with e; omega))
         have HRCH := Lib.hid (HGN.out r HRM.out (hdN x))
         have CC : Hid (∀ u : World, Below wq.heap.size wq u → u.cell? ⟨g, q + 1, none⟩ = some (.map (some b1))) := Lib.hid (fun u hu => ((HSQ.out.up hu).cell HE1.out).1)
         have CQ : Hid (∀ u : World, Below wq.heap.size wq u → u.cell? ⟨g, q, none⟩ = some (.map (some bq))) := Lib.hid (fun u hu => ((HSQ.out.up hu).cell HQ2.out).1)
         have hwq1 : IntKind.i64.wrap ((q : Int) + 1) = (q : Int) + 1 := wrap_id (by omega)
         have hq1m : (q : Int) + 1 < (m2 : Int) := by omega
         have hq10 : (0 : Int) ≤ (q : Int) + 1 := by omega
         have hqtn : ((q : Int) + 1).toNat = q + 1 := by omega
         go_upto_region 19 with fail
         clear hcx
         refine wp_region_held_drew (S := fun u => u.cell? ⟨g, q + 1, none⟩ = some (.map (some b1))) (by kernel_rfl) (CC.out _ (Below.refl _ _).drew) (fun hHeld => ?_)
         refine takeH 0 81 (v := ?_) rfl (by kernel_rfl) (by kernel_rfl) (by kernel_rfl) (fun _ _ _ h => h) (Or.inl ⟨by rfl, ?_⟩) (by assumption) ?_
         rotate_left
         ·(intro w hSw; (try dsimp only at hSw); go_simp) <;> with_reducible rfl
         (try simp only [Act.put, List.setIfInBounds_toArray, List.set_cons_zero, List.set_cons_succ])
         refine takeH 1 82 (v := ?_) rfl (by kernel_rfl) (by kernel_rfl) (by kernel_rfl) (fun _ _ _ h => h) (Or.inl ⟨by rfl, ?_⟩) (by assumption) ?_
         rotate_left
         ·(intro w hSw; (try dsimp only at hSw); go_simp) <;> with_reducible rfl
         (try simp only [Act.put, List.setIfInBounds_toArray, List.set_cons_zero, List.set_cons_succ])
         refine takeH 2 83 (v := ?_) rfl (by kernel_rfl) (by kernel_rfl) (by kernel_rfl) (fun _ _ _ h => h) (Or.inl ⟨by rfl, ?_⟩) (by assumption) ?_
         rotate_left
         ·(intro w hSw; (try dsimp only at hSw); go_simp) <;> with_reducible rfl
         (try simp only [Act.put, List.setIfInBounds_toArray, List.set_cons_zero, List.set_cons_succ])
         refine takeH 3 84 (v := ?_) rfl (by kernel_rfl) (by kernel_rfl) (by kernel_rfl) (fun _ _ _ h => h) (Or.inl ⟨by rfl, ?_⟩) (by assumption) ?_
         rotate_left
         ·(intro w hSw; (try dsimp only at hSw); go_simp) <;> with_reducible rfl
         (try simp only [Act.put, List.setIfInBounds_toArray, List.set_cons_zero, List.set_cons_succ])
         refine takeH 4 85 (v := ?_) rfl (by kernel_rfl) (by kernel_rfl) (by kernel_rfl) (fun _ _ _ h => h) (Or.inl ⟨by rfl, ?_⟩) (by assumption) ?_
         rotate_left
         ·(intro w hSw; (try dsimp only at hSw); go_simp) <;> with_reducible rfl
         (try simp only [Act.put, List.setIfInBounds_toArray, List.set_cons_zero, List.set_cons_succ])
         refine takeH 5 86 (v := ?_) rfl (by kernel_rfl) (by kernel_rfl) (by kernel_rfl) (fun _ _ _ h => h) (Or.inl ⟨by rfl, ?_⟩) (by assumption) ?_
         rotate_left
         ·(intro w hSw; (try dsimp only at hSw); go_simp) <;> with_reducible rfl
         (try simp only [Act.put, List.setIfInBounds_toArray, List.set_cons_zero, List.set_cons_succ])
         refine takeH 6 87 (v := ?_) rfl (by kernel_rfl) (by kernel_rfl) (by kernel_rfl) (fun _ _ _ h => h) (Or.inl ⟨by rfl, ?_⟩) (by assumption) ?_
         rotate_left
         ·(intro w hSw; (try dsimp only at hSw); go_simp) <;> with_reducible rfl
         (try simp only [Act.put, List.setIfInBounds_toArray, List.set_cons_zero, List.set_cons_succ])
         refine wpAnyH_ready (rs := [7]) (by kernel_rfl) (by simp) ?_
         refine AllReadyH.cons (o := _) rfl (fun K hK => ?_) AllReadyH.nil
         go_simp
         refine (impl_times hrz hcz hft.out).mono ?_; rintro e wy ⟨rfl, hby⟩
         have hbz := below_of_drew hby
         try go_wp2_with fail
         refine hK.out _ _ (CC.out _ hbz) (fun hHeld => ?_)
         clear hK K
         (try simp only [Act.put, List.setIfInBounds_toArray, List.set_cons_zero, List.set_cons_succ])
         have lk := (HS1.out.up hbz).look (t := 110) KS Tryz.underlying110 Tryz.underlying9 Tryz.underlying4 (by kernel_rfl) hzz
         rw [HRCH.out] at lk
         refine wpAnyH_ready (rs := [8]) (by kernel_rfl) (by simp) ?_
         refine AllReadyH.cons (o := _) rfl (fun K hK => ?_) AllReadyH.nil
         go_simp
         refine hK.out _ _ (CC.out _ hbz) (fun hHeld => ?_)
         clear hK K
         (try simp only [Act.put, List.setIfInBounds_toArray, List.set_cons_zero, List.set_cons_succ])
         refine wpAnyH_done (by kernel_rfl) ?_ _
         (try simp only [Act.put, List.setIfInBounds_toArray, List.set_cons_zero, List.set_cons_succ])
         have HBZ := Lib.hid hbz
         have HMZ := Lib.hid (HM.out.up hbz)
         have HGZ := Lib.hid (grownBy_trans HGR.out (grown_any hbz _))
         clear hHeld hwq1 hq1m hq10 hqtn lk hby hbz
         rcases hrch : reachB H b k (timesS r (H (hdN x)))
         ·have HMN := Lib.hid (markS_no HMK.out HRJ.out hxt hrch)
          clear hrch
          go_wp2
          go_roundw
          case rel => exact ⟨x + 1, S, by omega, by go_num, HMZ, HMN, by omega, HGZ⟩
          case measure => simp [intOf]; omega
         ·have HMN := Lib.hid (markS_yes HMK.out HRJ.out hxt hrch)
          have cq := CQ.out _ HBZ.out
          have hlen : S.length ≤ 16777216 := by omega
          have HLEN := Lib.hid hlen
          clear hrch hlen
          go_wp2_with (first | (at_mapUpdate; go_must ((refine wpList_setx_add rfl (.tmp 93) (.tmp 94) (.const (.bool true)) 110 rfl KS Tryz.underlying110 Tryz.underlying9 Tryz.underlying4 rfl HMZ.out HLEN.out rfl rfl hrz ?_; intro wv hmv hgv))))
          go_roundw
          case rel => exact ⟨x + 1, S ++ [r], by omega, by go_num, Lib.hid hmv, HMN, by rw [List.length_append, List.length_singleton]; omega, Lib.hid (grownBy_trans HGZ.out hgv)⟩
          case measure => simp [intOf]; omega
        ·obtain rfl : x = 3 := by omega
         have hxI : ¬ ((3 : Nat) : Int) < 3 := by omega
         go_wp2
         go_roundw
         case rel => exact ⟨j + 1, S, by omega, by go_num, HM, Lib.hid (markS_row HMK.out HRJ.out), by omega, HGR⟩
         case measure => simp [intOf]; omega
      ·obtain rfl : j = mL := by omega
       have hjI : ¬ (j : Int) < (j : Int) := by omega
       have hwq : IntKind.i64.wrap ((q : Int) - 1) = (q : Int) - 1 := wrap_id (by omega)
       have HGS := Lib.hid (markS_done (d := d) HLQ.out HKD.out (by have := HMK.out; rw [← HLL.out] at this; exact this))
       have HSQ := Lib.hid (HS8.out.mapw HM8.out hqb HGR.out)
       have hzo : bq < wo.heap.size := by have := HGR.out.size; omega
       have HGQ := Lib.hid (((HG8.out.kept HGR.out (fun b1 S1 _ hlt e => by injection e with e; omega)).more (show bq ≤ wo.heap.size by omega)).next HQ2.out hqb hzo HM.out HGS.out (by omega))
       go_wp2
       go_roundw
       case rel => exact ⟨q, gl2, rfl, by omega, HSQ, HGQ⟩
       case measure => simp [intOf] <;> omega
    ·obtain rfl : i = 0 := by omega
     have he : (((0 : Nat) : Int) - 1) = -1 := rfl
     rw [he]
     clear he
     have hI : decide ((0 : Int) ≤ -1) = false := decide_eq_false (by omega)
     have hGW := (leastW_leads d a v HLW.out).2
     have hvl := (leastW_leads d a v HLW.out).1
     have HGW := Lib.hid hGW
     have HVL := Lib.hid hvl
     clear hGW hvl
     go_wp2
     clear hI
     go_loopw [19, 20, 21] (fun tv rv iv wx => ∃ (i j : Nat) (pre rest : List Cl), tv = .string (wT pre) ∧ rv = .string (goW H a pre) ∧ iv = .int .i64 (i : Int) ∧ i ≤ j + 1 ∧ j + 1 ≤ i ∧ pre.length = j ∧ j ≤ d ∧ Hid (pre ++ rest = v) ∧ Hid (leastW H b (d - j) (goW H a pre) = some rest) ∧ Hid (Below wr.heap.size wr wx)) (fun _ _ iv _ => m2 - (intOf iv).toNat)
     case atStart => exact ⟨1, 0, [], v, rfl, rfl, rfl, by omega, by omega, rfl, by omega, Lib.hid rfl, Lib.hid (by rw [Nat.sub_zero]; exact HLW.out), Lib.hid (Below.refl _ _)⟩
     case round =>
      obtain ⟨i, j, pre, rest, rfl, rfl, rfl, hi1, hi2, hpj, hjd, HPR, HLR, HB⟩ := hrel
      rename World => wx
      obtain ⟨R, hR⟩ : ∃ u, u = goW H a pre := ⟨_, rfl⟩
      have HR := Lib.hid hR
      rw [← hR] at HLR ⊢
      clear hR
      by_cases hit : i < m2
      ·have hiI : (i : Int) < (m2 : Int) := by omega
       have hi0 : (0 : Int) ≤ (i : Int) := by omega
       obtain ⟨c0, v', hrest, hlw', hlow⟩ := leastW_step (k := d - (j + 1)) (by have := HLR.out; rwa [show d - j = d - (j + 1) + 1 by omega] at this)
       have HREST := Lib.hid hrest
       have HLW2 := Lib.hid hlw'
       have HLOW := Lib.hid hlow
       have hRN : RowN st R := by rw [HR.out]; exact goW_row HC.out pre a HRA.out
       have HRN := Lib.hid hRN
       have hRz : R.size ≤ 16777216 := by have := hRN.2; have := hRN.st; omega
       obtain ⟨b1, S1, e1, _, _, hs1, hg1, _⟩ := HG.out (j + 1) (Nat.zero_le _) (by omega)
       have e1' : gl[i]? = some (some b1) := by rw [show i = j + 1 by omega]; exact e1
       have HE1 := Lib.hid e1'
       have HS1 := Lib.hid hs1
       obtain ⟨L, hL⟩ : ∃ L, M[j]? = some L := ⟨_, List.getElem?_eq_getElem (by rw [HML.out]; omega)⟩
       have hRL : R ∈ L := by
        refine ((HLAY.out j L hL).2.2 R).2 ?_
        have := dist_pre (w := pre) (v := rest) HDI.out (by rw [HPR.out]; exact HVL.out) (by rw [HPR.out]; exact HGW.out)
        rw [hpj, ← HR.out] at this
        exact this
       have HGN : Hid (∀ cc : Cl, inL S1 (timesS R (H cc)) = reachB H b (d - (j + 1)) (timesS R (H cc))) := Lib.hid (fun cc => by
        rw [Bool.eq_iff_iff, inL_iff]
        exact goodS_next HLAY.out HML.out HDI.out (by omega) hg1 hL hRL cc)
       have hc3 : c0.val < 3 := c0.isLt
       obtain ⟨kk, hkk⟩ : ∃ kk, kk = d - (j + 1) := ⟨_, rfl⟩
       rw [← hkk] at HGN HLW2 HLOW
       have HKK := Lib.hid hkk
       clear hrest hlw' hlow hRN e1 e1' hs1 hg1 hL hRL hkk
       have HLT := Lib.hid (lit_strs2 wx 9 [⟨#[98]⟩, ⟨#[112]⟩, ⟨#[115]⟩])
       have aL : Below wx.heap.size wx (wx.alloc (.cells #[.string ⟨#[98]⟩, .string ⟨#[112]⟩, .string ⟨#[115]⟩] 9)) := by (repeat' (first | (with_reducible exact Below.refl _ _) | (with_reducible assumption) | (with_reducible refine below_drewN ?_ _) | (with_reducible refine Below.drew ?_) | (with_reducible refine below_alloc ?_ _) | (with_reducible refine Below.alloc ?_ ?_ _) | (with_reducible refine Below.setCell ?_ ?_ _) | (with_reducible refine below_go ?_ (by with_reducible assumption)) | (with_reducible refine below_then (by with_reducible assumption) ?_ ?_) | go_size))
       change Hid (Strs (wx.alloc (.cells #[.string ⟨#[98]⟩, .string ⟨#[112]⟩, .string ⟨#[115]⟩] 9)) (some ⟨wx.heap.size, 0, none⟩) [⟨#[98]⟩, ⟨#[112]⟩, ⟨#[115]⟩]) at HLT
       have HBL := Lib.hid (below_go HB.out aL)
       clear aL
       go_upto_region 28 with fail
       obtain ⟨wl, hwl⟩ : ∃ u, u = wx.alloc (.cells #[.string ⟨#[98]⟩, .string ⟨#[112]⟩, .string ⟨#[115]⟩] 9) := ⟨_, rfl⟩
       rw [← hwl] at HLT HBL ⊢
       obtain ⟨qb, hqb⟩ : ∃ u, u = wx.heap.size := ⟨_, rfl⟩
       rw [← hqb] at HLT ⊢
       clear hwl hqb
       go_wp2
       go_loopw [19, 20, 106] (fun tv rv xv wy => ∃ x : Nat, x ≤ c0.val ∧ tv = .string (wT pre) ∧ rv = .string R ∧ xv = .int .i64 (x : Int) ∧ Hid (Below wl.heap.size wl wy)) (fun _ _ xv _ => 3 - (intOf xv).toNat)
       case atStart => exact ⟨0, Nat.zero_le _, rfl, rfl, rfl, Lib.hid (Below.refl _ _)⟩
       case round =>
        obtain ⟨x, hxc, rfl, rfl, rfl, HBW⟩ := hrel
        rename World => wy
        have hxI : (x : Int) < 3 := by omega
        obtain ⟨b3, o3, lt, hA3, _, hx, hcx⟩ := (HLT.out.up HBW.out).at_str (k := x) (by show x < 3; omega)
        injection hA3 with hA3
        injection hA3 with y1 y2 _
        subst y1 y2
        rw [Nat.zero_add] at hcx
        obtain ⟨cl, hcv, hcl⟩ := litB (j := x) (by omega)
        rw [hcl] at hx
        injection hx with hx
        subst hx
        have HBR := Lib.hid (below_go HBL.out HBW.out)
        have HSY := Lib.hid (HS.out.up HBR.out)
        have HSL := Lib.hid (HH.out.up HSY.out.b)
        have hcN := Lib.hid (HC.out cl)
        have hft := Lib.hid (rowN_fits HRN.out hcN.out)
        have hcz : (H cl).size ≤ 16777216 := by have := hcN.out.2; have := hcN.out.st; omega
        have hzz : (timesS R (H cl)).size ≤ 16777216 := by have := (HRN.out.times hcN.out).2; have := hcN.out.st; omega
        have k0 := HSY.out.k0.cell 0; have k1 := HSY.out.k0.cell 1; have k2 := HSY.out.k0.cell 2; have j0 := HSY.out.k1.cell 0; have j1 := HSY.out.k1.cell 1
        simp only [List.getElem?_cons_zero, List.getElem?_cons_succ] at k0 k1 k2 j0 j1
        clear hcl
        go_wp2_with fail
        clear k0 k1 k2 j0 j1 hcx
        refine (impl_callHead (nm := nm) (s := clT cl) hn HSL.out HK.out).mono ?_; rw [HCH.out]; rintro e wz ⟨rfl, hbz⟩
        go_wp2_with fail
        refine (impl_times hRz hcz hft.out).mono ?_; rintro e wv ⟨rfl, hbv⟩
        have HBV := Lib.hid (below_go (below_go HBW.out hbz) hbv)
        have HSV := Lib.hid ((HSY.out.up hbz).up hbv)
        have HMV := Lib.hid (((HS1.out.up HBR.out).up hbz).up hbv)
        have hce := (HSV.out.cell HE1.out).1
        have lk := HMV.out.look (t := 110) KS Tryz.underlying110 Tryz.underlying9 Tryz.underlying4 (by kernel_rfl) hzz
        rw [HGN.out cl] at lk
        have HWX := Lib.hid (below_go HBL.out HBV.out)
        clear hbz hbv HSL
        by_cases hxl : x < c0.val
        ·have hrf := HLOW.out cl (show cl.val < c0.val by omega)
         rw [hrf] at lk
         clear hrf
         go_wp2
         clear lk hce
         go_roundw
         case rel => exact ⟨x + 1, by omega, rfl, rfl, by go_num, HBV⟩
         case measure => simp [intOf]; omega
        ·obtain rfl : cl = c0 := Fin.ext (by omega)
         have hrt : reachB H b kk (timesS R (H cl)) = true := by rw [reachB, HLW2.out]; rfl
         rw [hrt] at lk
         have hov : ¬ 9223372036854775807 < (wT pre).size + (clT cl).size := by rw [clT_size, wT_size]; omega
         have HWT := Lib.hid (wT_snoc pre cl)
         have HGO : Hid (goW H a (pre ++ [cl]) = timesS R (H cl)) := Lib.hid (by rw [goW_snoc, ← HR.out])
         have hwi : IntKind.i64.wrap ((i : Int) + 1) = ((i + 1 : Nat) : Int) := by rw [wrap_id (by omega)]; omega
         clear hrt
         go_wp2
         clear lk hce
         go_roundw
         case rel => exact ⟨i + 1, j + 1, pre ++ [cl], v', by rw [HWT.out], by rw [HGO.out], by first | rfl | go_num, by omega, by omega, by simp [hpj], by omega, Lib.hid (by rw [List.append_assoc, List.singleton_append, ← HREST.out]; exact HPR.out), Lib.hid (by rw [HGO.out, ← HKK.out]; exact HLW2.out), HWX⟩
         case measure => simp [intOf]; omega
      ·have hiI : ¬ (i : Int) < (m2 : Int) := by omega
       have hrl := (leastW_leads _ _ _ HLR.out).1
       have hr0 : rest = [] := List.length_eq_zero_iff.1 (by omega)
       have HPV : Hid (pre = v) := Lib.hid (by have := HPR.out; rwa [hr0, List.append_nil] at this)
       clear hrl hr0
       go_wp2
       go_ret2
       rw [E.out, HPV.out]
       exact ⟨rfl, below_go HS.out.b HB.out⟩
end Go.Proofs.YtidolgonmimicaaGreat
namespace Go.Proofs.YtidolgonmimicaaGreat
open Go.ChangeShapes Go.WideShapes Go.ChangeAt Go.RowKit Go.Deep
set_option maxHeartbeats 2000000 in
set_option maxRecDepth 100000 in
theorem laws_qSameL {A B : Option Addr} {n c d : Nat} {M : List (List ByteArray)} {w : World} (h : TabS w A n M) (g : TabS w B n M) (hz : n ≤ 16777216) (hr : ∀ r ∈ M, r.length ≤ 16777216) :
  Calls Tryz.prog 57 #[.slice A n c, .slice B n d] w fun e w' => e = .returned (.bool true) ∧ Below w.heap.size w w' := by
 have H := Lib.hid h
 have G := Lib.hid g
 have HR := Lib.hid hr
 clear h g hr
 go_in
 go_wp2
 go_loopw [13] (fun iv wr => ∃ k : Nat, k ≤ n ∧ iv = .int .i64 (k : Int) ∧ Hid (Below w.heap.size w wr)) (fun iv _ => n - (intOf iv).toNat)
 case atStart => exact ⟨0, Nat.zero_le _, rfl, Lib.hid (Below.refl _ _)⟩
 case round =>
  obtain ⟨k, hk, rfl, HB⟩ := hrel
  rename World => wr
  by_cases hlt : k < n
  ·have hkI : (k : Int) < (n : Int) := by omega
   have aD : Below wr.heap.size wr wr.drew := (Below.refl _ _).drew
   have HB2 := Lib.hid (below_go HB.out aD)
   have HA1 := Lib.hid (H.out.up HB2.out)
   have HA2 := Lib.hid (G.out.up HB2.out)
   obtain ⟨b1, o1, B1, m1, d1, r, eA, hlt1, hc1, hM1, hl1, hs1⟩ := HA1.out.row hlt
   obtain ⟨b2, o2, B2, m2, d2, r', eB, hlt2, hc2, hM2, hl2, hs2⟩ := HA2.out.row hlt
   rw [hM1] at hM2
   injection hM2 with hM2
   subst hM2
   obtain rfl : m2 = m1 := by omega
   have hmz : m2 ≤ 16777216 := by rw [← hl1]; exact HR.out r (List.mem_of_getElem? hM1)
   have HS1 := Lib.hid hs1
   have HS2 := Lib.hid hs2
   have HL := Lib.hid hl1
   subst eA eB
   clear hM1 hs1 hs2 hl1 hl2
   have cS : Hid (∀ u : World, Below wr.drew.heap.size wr.drew u → u.cell? ⟨b1, o1 + k, none⟩ = some (.slice B1 m2 d1) ∧ u.cell? ⟨b2, o2 + k, none⟩ = some (.slice B2 m2 d2)) := Lib.hid (fun u hu => ⟨(hu.cell (p := ⟨b1, _, none⟩) hlt1).trans hc1, (hu.cell (p := ⟨b2, _, none⟩) hlt2).trans hc2⟩)
   clear hc1 hc2
   go_upto_region 6 with fail
   refine wp_region_held_drew (S := fun u => u.cell? ⟨b1, o1 + k, none⟩ = some (.slice B1 m2 d1) ∧ u.cell? ⟨b2, o2 + k, none⟩ = some (.slice B2 m2 d2)) (by kernel_rfl) (cS.out _ (Below.refl _ _)) (fun hHeld => ?_)
   refine takeH 0 16 (v := ?_) rfl (by kernel_rfl) (by kernel_rfl) (by kernel_rfl) (fun _ _ _ h => h) (Or.inl ⟨by rfl, ?_⟩) (by assumption) ?_
   rotate_left
   ·(intro w hSw; (try dsimp only at hSw); go_simp) <;> with_reducible rfl
   (try simp only [Act.put, List.setIfInBounds_toArray, List.set_cons_zero, List.set_cons_succ])
   refine takeH 1 17 (v := ?_) rfl (by kernel_rfl) (by kernel_rfl) (by kernel_rfl) (fun _ _ _ h => h) (Or.inl ⟨by rfl, ?_⟩) (by assumption) ?_
   rotate_left
   ·(intro w hSw; (try dsimp only at hSw); go_simp) <;> with_reducible rfl
   (try simp only [Act.put, List.setIfInBounds_toArray, List.set_cons_zero, List.set_cons_succ])
   refine takeH 2 18 (v := ?_) rfl (by kernel_rfl) (by kernel_rfl) (by kernel_rfl) (fun _ _ _ h => h) (Or.inl ⟨by rfl, ?_⟩) (by assumption) ?_
   rotate_left
   ·(intro w hSw; (try dsimp only at hSw); go_simp) <;> with_reducible rfl
   (try simp only [Act.put, List.setIfInBounds_toArray, List.set_cons_zero, List.set_cons_succ])
   refine takeH 3 19 (v := ?_) rfl (by kernel_rfl) (by kernel_rfl) (by kernel_rfl) (fun _ _ _ h => h) (Or.inl ⟨by rfl, ?_⟩) (by assumption) ?_
   rotate_left
   ·(intro w hSw; (try dsimp only at hSw); go_simp) <;> with_reducible rfl
   (try simp only [Act.put, List.setIfInBounds_toArray, List.set_cons_zero, List.set_cons_succ])
   refine takeH 4 20 (v := ?_) rfl (by kernel_rfl) (by kernel_rfl) (by kernel_rfl) (fun _ _ _ h => h) (Or.inl ⟨by rfl, ?_⟩) (by assumption) ?_
   rotate_left
   ·(intro w hSw; (try dsimp only at hSw); go_simp) <;> with_reducible rfl
   (try simp only [Act.put, List.setIfInBounds_toArray, List.set_cons_zero, List.set_cons_succ])
   refine takeH 5 21 (v := ?_) rfl (by kernel_rfl) (by kernel_rfl) (by kernel_rfl) (fun _ _ _ h => h) (Or.inl ⟨by rfl, ?_⟩) (by assumption) ?_
   rotate_left
   ·(intro w hSw; (try dsimp only at hSw); go_simp) <;> with_reducible rfl
   (try simp only [Act.put, List.setIfInBounds_toArray, List.set_cons_zero, List.set_cons_succ])
   refine takeH 6 22 (v := ?_) rfl (by kernel_rfl) (by kernel_rfl) (by kernel_rfl) (fun _ _ _ h => h) (Or.inl ⟨by rfl, ?_⟩) (by assumption) ?_
   rotate_left
   ·(intro w hSw; (try dsimp only at hSw); go_simp) <;> with_reducible rfl
   (try simp only [Act.put, List.setIfInBounds_toArray, List.set_cons_zero, List.set_cons_succ])
   refine takeH 7 23 (v := ?_) rfl (by kernel_rfl) (by kernel_rfl) (by kernel_rfl) (fun _ _ _ h => h) (Or.inl ⟨by rfl, ?_⟩) (by assumption) ?_
   rotate_left
   ·(intro w hSw; (try dsimp only at hSw); go_simp) <;> with_reducible rfl
   (try simp only [Act.put, List.setIfInBounds_toArray, List.set_cons_zero, List.set_cons_succ])
   refine wpAnyH_ready (rs := [8]) (by kernel_rfl) (by simp) ?_
   refine AllReadyH.cons (o := _) rfl (fun K hK => ?_) AllReadyH.nil
   go_simp
   refine (laws_qSameS HL.out HS1.out HS2.out hmz).mono ?_; rintro e w1 ⟨rfl, hb1⟩
   try go_wp2_with fail
   refine hK.out _ _ (cS.out _ hb1) (fun hHeld => ?_)
   clear hK K
   (try simp only [Act.put, List.setIfInBounds_toArray, List.set_cons_zero, List.set_cons_succ])
   refine takeH 9 25 (v := ?_) rfl (by kernel_rfl) (by kernel_rfl) (by kernel_rfl) (fun _ _ _ h => h) (Or.inl ⟨by rfl, ?_⟩) (by assumption) ?_
   rotate_left
   ·(intro w hSw; (try dsimp only at hSw); go_simp) <;> with_reducible rfl
   (try simp only [Act.put, List.setIfInBounds_toArray, List.set_cons_zero, List.set_cons_succ])
   refine wpAnyH_done (by kernel_rfl) ?_ _
   (try simp only [Act.put, List.setIfInBounds_toArray, List.set_cons_zero, List.set_cons_succ])
   have HB3 := Lib.hid (below_go HB2.out hb1)
   clear hb1 cS hHeld
   go_wp2
   go_roundw
   case rel => exact ⟨k + 1, by omega, by first | rfl | go_num, HB3⟩
   case measure => simp [intOf]; omega
  ·obtain rfl : k = n := by omega
   have hkI : ¬ (k : Int) < (k : Int) := by omega
   go_wp2
   go_ret
   exact ⟨rfl, HB.out⟩
end Go.Proofs.YtidolgonmimicaaGreat
namespace Go.Proofs.YtidolgonmimicaaGreat
open Go.ChangeShapes Go.WideShapes Go.ChangeAt Go.RowKit Go.Deep
theorem wT_cal (v : List Cl) : calT (wT v) := by
 intro z hz
 rw [nums_data, wT_data, List.map_map, List.mem_map] at hz
 obtain ⟨c, _, rfl⟩ := hz
 rcases cl_cases c with rfl | rfl | rfl <;> decide
end Go.Proofs.YtidolgonmimicaaGreat
namespace Go.Proofs.YtidolgonmimicaaGreat
open Go.ChangeShapes Go.WideShapes Go.ChangeAt Go.RowKit Go.Deep
noncomputable def stepB (H : Cl → ByteArray) (tg : ByteArray) (ls : List (List ByteArray)) (n j : Nat) : Bool := decide (ls.getD (j + 1) [] = nextF H (ls.take (j + 1)) (lastL (ls.take (j + 1)))) && (inL (ls.getD (j + 1) []) tg == decide (j + 1 = n))
noncomputable def okB (H : Cl → ByteArray) (tg : ByteArray) (ls : List (List ByteArray)) (n k : Nat) : Bool := (List.range k).all (stepB H tg ls n)
theorem okB_zero (H : Cl → ByteArray) (tg : ByteArray) (ls : List (List ByteArray)) (n : Nat) : okB H tg ls n 0 = true := rfl
theorem okB_succ {H : Cl → ByteArray} {tg : ByteArray} {ls : List (List ByteArray)} {n k : Nat} (h : okB H tg ls n k = true) (g : stepB H tg ls n k = true) : okB H tg ls n (k + 1) = true := by
 rw [okB, List.range_succ, List.all_append, Bool.and_eq_true]
 exact ⟨h, by simpa using g⟩
theorem okB_no {H : Cl → ByteArray} {tg : ByteArray} {ls : List (List ByteArray)} {n k : Nat} (hk : k < n) (g : stepB H tg ls n k = false) : okB H tg ls n n = false := by
 rcases h : okB H tg ls n n
 ·rfl
 ·rw [okB, List.all_eq_true] at h
  rw [h k (List.mem_range.2 hk)] at g
  cases g
noncomputable def ckR (nm : ByteArray) (st : Nat) (l : List ByteArray) (kb ks a tg t : ByteArray) (ls : List (List ByteArray)) : Bool :=
 rpB nm st l kb ks a tg && (goodT t && (decide (t.size ≤ 8) && (decide (ls.length = t.size + 1) && (decide (timesS a (hdAt st l kb ks t t.size) = tg) && (decide (ls.getD 0 [] = [a]) && okB (clH st l kb ks) tg ls t.size t.size)))))
theorem dist_uniq {H : Cl → ByteArray} {a x : ByteArray} {i j : Nat} (h : Dist H a i x) (g : Dist H a j x) : i = j := by
 obtain ⟨⟨w, hw, ew⟩, h2⟩ := h
 obtain ⟨⟨v, hv, ev⟩, g2⟩ := g
 rcases Nat.lt_trichotomy i j with q | q | q
 ·exact absurd ew (g2 w (by omega))
 ·exact q
 ·exact absurd ev (h2 v (by omega))
theorem layers_take {H : Cl → ByteArray} {a : ByteArray} {M : List (List ByteArray)} (h : Layers H a M) (n : Nat) : Layers H a (M.take n) := fun i L hi => by
 have hn : i < n := by
  have := (List.getElem?_eq_some_iff.1 hi).1
  rw [List.length_take] at this; omega
 rw [List.getElem?_take_of_lt hn] at hi
 exact h i L hi
theorem lastL_take {M : List (List ByteArray)} {j : Nat} (h : j < M.length) : lastL (M.take (j + 1)) = M.getD j [] := by
 rw [lastL, List.length_take, show min (j + 1) M.length - 1 = j by omega]
 simp only [List.getD]
 rw [List.getElem?_take_of_lt (by omega)]
theorem ck_own {nm : ByteArray} {st : Nat} {l : List ByteArray} {kb ks a tg : ByteArray} {w : List Cl} {M : List (List ByteArray)} (h : rtO nm st l kb ks a tg = some w) (g : rlO nm st l kb ks a tg = some M) :
  ckR nm st l kb ks a tg (wT w) M = true ∧ M.length = (wT w).size + 1 ∧ goodF nm (st : Int) l kb ks (wT w) = true ∧ twoB a (hdAt st l kb ks (wT w) (wT w).size) = true ∧ timesS a (hdAt st l kb ks (wT w) (wT w).size) = tg := by
 rcases hr : rpB nm st l kb ks a tg
 ·rw [rtO_f hr] at h; cases h
 ·rw [rtO_t hr] at h
  rw [rlO_t hr] at g
  obtain ⟨hk, h4, ha, hb, hne⟩ := rpB_t hr
  have hst := (goodM_st (goodK_t hk).1).1
  obtain ⟨v, e1, e2, e3, e4, e5⟩ := repW_some g
  rw [h] at e1
  injection e1 with e1
  subst e1
  obtain ⟨hL, ⟨d, q2, q3, q4, q5⟩, q6, q7⟩ := layR_ok g
  have hz := wT_size w
  have hwd : w.length = d := by omega
  have hgo : timesS a (hdAt st l kb ks (wT w) (wT w).size) = tg := by rw [hz, goW_hd (by omega) (by omega) l kb ks ha _ w rfl, e4]
  have hgt : goodT (wT w) = true := goodT_of (wT_cal w) (by omega) (by omega)
  have hrow := hdAt_good (show 3 ≤ st by omega) (show st ≤ 8 by omega) l kb ks (wT w) (wT w).size
  refine ⟨?_, by omega, ?_, ?_, hgo⟩
  ·rw [ckR, hr, hgt, decide_eq_true (show (wT w).size ≤ 8 by omega), decide_eq_true (show M.length = (wT w).size + 1 by omega), decide_eq_true hgo, decide_eq_true (show M.getD 0 [] = [a] by rw [List.getD, q6]; rfl)]
   simp only [Bool.true_and]
   rw [okB, List.all_eq_true]
   intro j hj
   have hj := List.mem_range.1 hj
   have hjM : j + 1 < M.length := by omega
   obtain ⟨L, hLj⟩ := some_of_lt hjM
   have eL : M.getD (j + 1) [] = L := by rw [List.getD, hLj]; rfl
   have s1 := hL (j + 1) L hLj
   have ht := layers_take hL (j + 1)
   have hlen : (M.take (j + 1)).length = j + 1 := by rw [List.length_take]; omega
   have hla := lastL_at (ls := M.take (j + 1)) (by omega)
   rw [hlen, Nat.add_sub_cancel] at hla
   have s2 := (nextF_set (clH st l kb ks) (M.take (j + 1)) (lastL (M.take (j + 1)))).congr (fun x => next_iff ht hlen hla x)
   rw [stepB, eL, decide_eq_true (s1.uniq s2), Bool.true_and, beq_iff_eq]
   by_cases hjd : j + 1 = (wT w).size
   ·rw [decide_eq_true hjd]
    exact inL_iff.2 ((s1.2.2 tg).2 (by rw [show j + 1 = d by omega]; exact q5))
   ·rw [decide_eq_false hjd]
    rcases hi : inL L tg
    ·rfl
    ·exact absurd (dist_uniq ((s1.2.2 tg).1 (inL_iff.1 hi)) q5) (by omega)
  ·rw [goodF, Bool.and_eq_true]
   exact ⟨hk, hgt⟩
  ·rw [twoB, ha.1, hrow.1, ha.2, hrow.2]; simp
end Go.Proofs.YtidolgonmimicaaGreat
namespace Go.Proofs.YtidolgonmimicaaGreat
open Go.ChangeShapes Go.WideShapes Go.ChangeAt Go.RowKit Go.Deep
theorem ck_rows {st : Nat} {H : Cl → ByteArray} {a tg : ByteArray} {ls : List (List ByteArray)} {n : Nat} (hH : ∀ c, RowN st (H c)) (ha : RowN st a) (h0 : ls.getD 0 [] = [a]) : ∀ k, k < ls.length → okB H tg ls n k = true → (∀ x ∈ ls.getD k [], RowN st x) ∧ (ls.getD k []).length ≤ 3 ^ k
 | 0, _, _ => by
  rw [h0]
  exact ⟨fun x hx => by rw [List.mem_singleton.1 hx]; exact ha, Nat.le_refl _⟩
 | k + 1, hl, hk => by
  have h1 : okB H tg ls n k = true ∧ stepB H tg ls n k = true := by
   rw [okB, List.range_succ, List.all_append, Bool.and_eq_true] at hk
   exact ⟨hk.1, by simpa using hk.2⟩
  obtain ⟨g1, g2⟩ := ck_rows hH ha h0 k (by omega) h1.1
  have h2 := h1.2
  rw [stepB, Bool.and_eq_true, decide_eq_true_iff] at h2
  rw [h2.1, lastL_take (by omega)]
  refine ⟨nextF_row hH g1, ?_⟩
  have := nextF_len H (ls.take (k + 1)) (ls.getD k [])
  rw [Nat.pow_succ]; omega
theorem pow3_le7 {k : Nat} (h : k ≤ 7) : 3 ^ k ≤ 2187 := Nat.le_trans (Nat.pow_le_pow_right (by decide) h) (by decide)
set_option maxHeartbeats 8000000 in
set_option maxRecDepth 100000 in
theorem spec_CheckRepair {A : Option Addr} {n c st : Nat} {nm : ByteArray} {l : List ByteArray} {kb ks a tg t : ByteArray} {B : Option Addr} {N d : Nat} {ls : List (List ByteArray)} {w : World} (hn : l.length = n) (h : Strs w A l) (hz : n ≤ 1048576) (hs : ∀ s ∈ l, s.size ≤ 16777216) (hnm : nm.size ≤ 16777216) (h9 : st ≤ 1000) (hkb : kb.size ≤ 16777216) (hks : ks.size ≤ 16777216) (ha : a.size ≤ 16777216) (hb : tg.size ≤ 16777216) (ht : t.size ≤ 16777216) (hcap : n ≤ c) (hT : TabS w B N ls) (hN : N ≤ 16777216) (hd : N ≤ d) (hr : ∀ r ∈ ls, r.length ≤ 16777216) :
  Calls Tryz.prog 59 #[.agg #[.string nm, .int .i64 st, .slice A n c], .agg #[.string kb, .string ks], .string a, .string tg, .string t, .slice B N d] w fun e w' => e = .returned (.bool (ckR nm st l kb ks a tg t ls)) ∧ Below w.heap.size w w' := by
 obtain ⟨ck, hck⟩ : ∃ u, u = ckR nm st l kb ks a tg t ls := ⟨_, rfl⟩
 have HQ : Hid (ck = (rpB nm st l kb ks a tg && (goodT t && (decide (t.size ≤ 8) && (decide (ls.length = t.size + 1) && (decide (timesS a (hdAt st l kb ks t t.size) = tg) && (decide (ls.getD 0 [] = [a]) && okB (clH st l kb ks) tg ls t.size t.size))))))) := Lib.hid (hck.trans rfl)
 rw [← hck]
 clear hck
 have b0 : Below w.heap.size w ((w.alloc (.cells ⟨[.string nm, .int .i64 st, .slice A n c]⟩ 25)).alloc (.cells ⟨[.string kb, .string ks]⟩ 27)) := by (repeat' (first | (with_reducible exact Below.refl _ _) | (with_reducible assumption) | (with_reducible refine below_drewN ?_ _) | (with_reducible refine Below.drew ?_) | (with_reducible refine below_alloc ?_ _) | (with_reducible refine Below.alloc ?_ ?_ _) | (with_reducible refine Below.setCell ?_ ?_ _) | (with_reducible refine below_go ?_ (by with_reducible assumption)) | (with_reducible refine below_then (by with_reducible assumption) ?_ ?_) | go_size))
 have K0 := (Blk.at_ w 25 [.string nm, .int .i64 st, .slice A n c] (b := w.heap.size) rfl).alloc (.cells ⟨[.string kb, .string ks]⟩ 27)
 have K1 := Blk.at_ (w.alloc (.cells ⟨[.string nm, .int .i64 st, .slice A n c]⟩ 25)) 27 [.string kb, .string ks] (b := w.heap.size + 1) (by simp)
 have HM := Lib.hid (h.up b0)
 have HT := Lib.hid (hT.up b0)
 have HR := Lib.hid hr
 have HS := Lib.hid hs
 have HN := Lib.hid hn
 have hlen : ls.length = N := hT.len
 clear h hT hr hs hn
 go_in
 go_upto_region 1 with fail
 obtain ⟨w0, hw0⟩ : ∃ u, u = ((w.alloc (.cells #[.string nm, .int .i64 st, .slice A n c] 25)).alloc (.cells #[.string kb, .string ks] 27)) := ⟨_, rfl⟩
 rw [← hw0] at b0 K0 K1 HM HT ⊢
 clear hw0
 have HB := Lib.hid b0
 clear b0
 obtain ⟨p, hp⟩ : ∃ u, u = w.heap.size := ⟨_, rfl⟩
 rw [← hp] at K0 K1 ⊢
 clear hp
 have k0 := K0.cell 0; have k1 := K0.cell 1; have k2 := K0.cell 2; have j0 := K1.cell 0; have j1 := K1.cell 1
 simp only [List.getElem?_cons_zero, List.getElem?_cons_succ] at k0 k1 k2 j0 j1
 go_wp2_with fail
 clear k0 k1 k2 j0 j1
 refine (spec_l15Asked (nm := nm) HN.out HM.out hz HS.out hnm h9 hkb hks ha hb).mono ?_; rintro e w1 ⟨rfl, hb1⟩
 replace K0 := K0.up hb1
 replace K1 := K1.up hb1
 replace HM := Lib.hid (HM.out.up hb1)
 replace HT := Lib.hid (HT.out.up hb1)
 replace HB := Lib.hid (below_go HB.out hb1)
 clear hb1
 rcases hg : rpB nm st l kb ks a tg
 ·skip
  have E := Lib.hid (show ck = false by rw [HQ.out]; rw [hg]; simp)
  clear hg
  go_wp2
  go_ret
  rw [E.out]
  exact ⟨rfl, HB.out⟩
 ·obtain ⟨hkk, h4, hra, hrb, hne⟩ := rpB_t hg
  have h38 := (goodM_st (goodK_t hkk).1).1
  have HQ1 := Lib.hid (HQ.out.trans (by rw [hg, Bool.true_and]))
  have HKK := Lib.hid hkk
  have HRA := Lib.hid hra
  have hraz := hra.2
  clear hg hkk HQ hra hrb hne
  go_wp2_with fail
  refine (spec_l9Good ht).mono ?_; rintro e w' ⟨rfl, rfl⟩
  rcases hgt : goodT t
  ·skip
   have E := Lib.hid (show ck = false by rw [HQ1.out, hgt]; simp)
   clear hgt
   go_wp2
   go_ret
   rw [E.out]
   exact ⟨rfl, HB.out⟩
  ·have HQ2 := Lib.hid (HQ1.out.trans (by rw [hgt, Bool.true_and]))
   have HGT := Lib.hid hgt
   have ht1 := (goodT_t hgt).1
   clear hgt HQ1
   by_cases h8 : t.size ≤ 8
   ·have HQ3 := Lib.hid (HQ2.out.trans (by rw [decide_eq_true h8, Bool.true_and]))
    have h8I : ¬ 8 < (t.size : Int) := by omega
    have hw1 : IntKind.i64.wrap ((t.size : Int) + 1) = (t.size : Int) + 1 := wrap_id (by omega)
    clear HQ2
    by_cases hNt : N = t.size + 1
    ·have HQ4 := Lib.hid (HQ3.out.trans (by rw [decide_eq_true (hlen.trans hNt), Bool.true_and]))
     have hNI : ((N : Int) != (t.size : Int) + 1) = false := by simp; omega
     have HNT := Lib.hid hNt
     clear HQ3 hNt
     have k0 := K0.cell 0; have k1 := K0.cell 1; have k2 := K0.cell 2; have j0 := K1.cell 0; have j1 := K1.cell 1
     simp only [List.getElem?_cons_zero, List.getElem?_cons_succ] at k0 k1 k2 j0 j1
     go_wp2_with fail
     clear k0 k1 k2 j0 j1
     refine (spec_l9EndP (nm := nm) (st := st) HN.out HM.out HKK.out HGT.out hcap).mono ?_; rintro e w2 ⟨rfl, hb2⟩
     replace K0 := K0.up hb2
     replace K1 := K1.up hb2
     replace HM := Lib.hid (HM.out.up hb2)
     replace HT := Lib.hid (HT.out.up hb2)
     replace HB := Lib.hid (below_go HB.out hb2)
     clear hb2
     have hrow := hd_row (b := kb) (s := ks) (l := l) (u := t) h38.1 h38.2 t.size
     have hrz := hrow.2
     obtain ⟨hr1, hhr⟩ : ∃ u, u = hdAt st l kb ks t t.size := ⟨_, rfl⟩
     rw [← hhr] at HQ4 hrow hrz ⊢
     clear hhr
     go_wp2_with fail
     refine (spec_l1Times (a := a) (b := hr1) (by omega) (by omega) (fits_good hrow.1 (by rw [hraz, hrow.2]))).mono ?_; rintro e w2' ⟨rfl, rfl⟩
     obtain ⟨x, hx⟩ : ∃ u, u = timesS a hr1 := ⟨_, rfl⟩
     rw [← hx] at HQ4 ⊢
     clear hx hrow hrz
     by_cases hxt : x = tg
     ·have hxt2 := hxt.symm
      subst hxt2
      have HQ5 := Lib.hid (HQ4.out.trans (by rw [decide_eq_true rfl, Bool.true_and]))
      clear hxt HQ4
      obtain ⟨b1, o1, B1, m1, d1, r, eB, hlt1, hc1, hM1, hl1, hs1⟩ := HT.out.row (k := 0) (by have := HNT.out; omega)
      rw [Nat.add_zero] at hc1
      have e0 : ls.getD 0 [] = r := by rw [List.getD, hM1]; rfl
      have HRS := Lib.hid hs1
      have hmz : m1 ≤ 16777216 := by rw [← hl1]; exact HR.out r (List.mem_of_getElem? hM1)
      have HL1 := Lib.hid hl1
      have hNp : (0 : Int) < (N : Int) := by have := HNT.out; omega
      subst eB
      have LT := lit_strs2 w2 9 [a]
      have a2 : Below w2.heap.size w2 (w2.alloc (.cells ⟨[a].map Value.string⟩ 9)) := by (repeat' (first | (with_reducible exact Below.refl _ _) | (with_reducible assumption) | (with_reducible refine below_drewN ?_ _) | (with_reducible refine Below.drew ?_) | (with_reducible refine below_alloc ?_ _) | (with_reducible refine Below.alloc ?_ ?_ _) | (with_reducible refine Below.setCell ?_ ?_ _) | (with_reducible refine below_go ?_ (by with_reducible assumption)) | (with_reducible refine below_then (by with_reducible assumption) ?_ ?_) | go_size))
      simp only [List.map_cons, List.map_nil] at LT a2
      have HRS2 := Lib.hid (HRS.out.up a2)
      clear hM1 hl1 hs1 HRS
      go_wp2_with fail
      clear hc1
      refine (spec_sameS _ _ _ _ _ _ _ _ _ HL1.out rfl HRS2.out LT hmz (by simp)).mono ?_; rintro e w3 ⟨rfl, hb3⟩
      have hb3' := below_go a2 hb3
      have hw23 := hb3'.size
      clear LT a2 hb3 HRS2 HL1
      rw [e0] at HQ5
      replace K0 := K0.up hb3'
      replace K1 := K1.up hb3'
      replace HM := Lib.hid (HM.out.up hb3')
      replace HT := Lib.hid (HT.out.up hb3')
      replace HB := Lib.hid (below_go HB.out hb3')
      clear hb3'
      by_cases hra1 : r = [a]
      ·subst hra1
       have HQ6 := Lib.hid (HQ5.out.trans (by rw [decide_eq_true rfl, Bool.true_and]))
       clear HQ5
       have HE0 := Lib.hid e0
       clear e0 hmz
       go_wp2
       have HW0 := HB
       go_loopw [13] (fun iv wr => ∃ i : Nat, 1 ≤ i ∧ i ≤ t.size + 1 ∧ iv = .int .i64 (i : Int) ∧ Hid (okB (clH st l kb ks) tg ls t.size (i - 1) = true) ∧ Hid (Below w3.heap.size w3 wr)) (fun iv _ => 12 - (intOf iv).toNat)
       case atStart => exact ⟨1, Nat.le_refl _, by omega, rfl, Lib.hid (okB_zero _ _ _ _), Lib.hid (Below.refl _ _)⟩
       case round =>
        obtain ⟨i, hi1, hi2, rfl, HOK, HBR⟩ := hrel
        rename World => wr
        have hwi : IntKind.i64.wrap ((i : Int) + 1) = ((i + 1 : Nat) : Int) := by rw [wrap_id (by omega)]; omega
        by_cases hlt : i < N
        ·have hlI : (i : Int) < (N : Int) := by omega
         have aD : Below wr.heap.size wr wr.drew := (Below.refl _ _).drew
         have HBD := below_go HBR.out aD
         replace K0 := K0.up HBD
         replace K1 := K1.up HBD
         replace HM := Lib.hid (HM.out.up HBD)
         replace HT := Lib.hid (HT.out.up HBD)
         have hbd : b1 < wr.drew.heap.size := Nat.lt_of_lt_of_le hlt1 (Nat.le_trans hw23 HBD.size)
         have HBR2 := Lib.hid HBD
         clear HBD aD HB HBR
         obtain ⟨b2, o2, B2, m2, d2, r2, eB, hlt2, hc2, hM2, hl2, hs2⟩ := HT.out.row (k := i) hlt
         injection eB with eB
         injection eB with eb eo _
         subst eb eo
         have e2 : ls.getD i [] = r2 := by rw [List.getD, hM2]; rfl
         have hij : i - 1 + 1 = i := by omega
         have hst : stepB (clH st l kb ks) tg ls t.size (i - 1) = (decide (r2 = nextF (clH st l kb ks) (ls.take i) (lastL (ls.take i))) && (inL r2 tg == decide (i = t.size))) := by rw [stepB, hij, e2]
         have HST := Lib.hid hst
         have hla : lastL (ls.take i) = ls.getD (i - 1) [] := by
          have := lastL_take (M := ls) (j := i - 1) (by have := HNT.out; omega)
          rwa [hij] at this
         have hrows := ck_rows (tg := tg) (n := t.size) (clH_row h38.1 h38.2 l kb ks) HRA.out HE0.out (i - 1) (by have := HNT.out; omega) HOK.out
         rw [← hla] at hrows
         have HROW := Lib.hid hrows.1
         have hpow := pow3_le7 (show i - 1 ≤ 7 by have := HNT.out; omega)
         have hlz : (lastL (ls.take i)).length ≤ 5000 := by have := hrows.2; omega
         have HTK := Lib.hid (HT.out.take (i := i) (by omega))
         have HRT : Hid (∀ r ∈ ls.take i, r.length ≤ 16777216) := Lib.hid (fun r hr => HR.out r (List.mem_of_mem_take hr))
         obtain ⟨nx, hnx⟩ : ∃ u, u = nextF (clH st l kb ks) (ls.take i) (lastL (ls.take i)) := ⟨_, rfl⟩
         have HNX := Lib.hid hnx
         rw [← hnx] at HST
         have hm2 : m2 ≤ 16777216 := by rw [← hl2]; exact HR.out r2 (List.mem_of_getElem? hM2)
         have HL2 := Lib.hid hl2
         have HS2 := Lib.hid hs2
         have hid0 : (0 : Int) ≤ (i : Int) := by omega
         have hidd : (i : Int) ≤ (d : Int) := by omega
         have hidn : i ≤ d := by omega
         have cS : Hid (∀ u : World, Below wr.drew.heap.size wr.drew u → (u.cell? ⟨p, 0, none⟩ = some (.string nm) ∧ u.cell? ⟨p, 1, none⟩ = some (.int .i64 (st : Int)) ∧ u.cell? ⟨p, 2, none⟩ = some (.slice A n c)) ∧ (u.cell? ⟨p + 1, 0, none⟩ = some (.string kb) ∧ u.cell? ⟨p + 1, 1, none⟩ = some (.string ks)) ∧ u.cell? ⟨b1, o1 + i, none⟩ = some (.slice B2 m2 d2)) := Lib.hid (fun u hu => by
          have L0 := K0.up hu; have L1 := K1.up hu
          exact ⟨⟨by simpa using L0.cell 0, by simpa using L0.cell 1, by simpa using L0.cell 2⟩, ⟨by simpa using L1.cell 0, by simpa using L1.cell 1⟩, (hu.cell (p := ⟨b1, _, none⟩) hbd).trans hc2⟩)
         clear hc2 hM2 hl2 hs2 e2 hst hla hrows hpow hnx
         go_upto_region 6 with fail
         by_cases heq : r2 = nx
         ·have HST2 := Lib.hid (HST.out.trans (by rw [decide_eq_true heq, Bool.true_and]))
          obtain ⟨y, hy⟩ : ∃ u, u = inL r2 tg := ⟨_, rfl⟩
          have HY := Lib.hid hy
          rw [← hy] at HST2
          obtain ⟨z, hzz⟩ : ∃ u, u = decide (i = t.size) := ⟨_, rfl⟩
          rw [← hzz] at HST2
          have hzE : ((i : Int) == (t.size : Int)) = z := by
           rw [hzz]
           by_cases q : i = t.size
           ·rw [decide_eq_true q, beq_iff_eq]; omega
           ·rw [decide_eq_false q, beq_eq_false_iff_ne]; omega
          have hzE2 : decide (i = t.size) = z := hzz.symm
          clear hy hzz HST
          refine wp_region_held_drew (S := fun u => (u.cell? ⟨p, 0, none⟩ = some (.string nm) ∧ u.cell? ⟨p, 1, none⟩ = some (.int .i64 (st : Int)) ∧ u.cell? ⟨p, 2, none⟩ = some (.slice A n c)) ∧ (u.cell? ⟨p + 1, 0, none⟩ = some (.string kb) ∧ u.cell? ⟨p + 1, 1, none⟩ = some (.string ks)) ∧ u.cell? ⟨b1, o1 + i, none⟩ = some (.slice B2 m2 d2)) (by kernel_rfl) (cS.out _ (Below.refl _ _)) (fun hHeld => ?_)
          refine takeH 0 63 (v := ?_) rfl (by kernel_rfl) (by kernel_rfl) (by kernel_rfl) (fun _ _ _ h => h) (Or.inl ⟨by rfl, ?_⟩) (by assumption) ?_
          rotate_left
          ·(intro w hSw; (try dsimp only at hSw); go_simp) <;> with_reducible rfl
          (try simp only [Act.put, List.setIfInBounds_toArray, List.set_cons_zero, List.set_cons_succ])
          refine takeH 1 64 (v := ?_) rfl (by kernel_rfl) (by kernel_rfl) (by kernel_rfl) (fun _ _ _ h => h) (Or.inl ⟨by rfl, ?_⟩) (by assumption) ?_
          rotate_left
          ·(intro w hSw; (try dsimp only at hSw); go_simp) <;> with_reducible rfl
          (try simp only [Act.put, List.setIfInBounds_toArray, List.set_cons_zero, List.set_cons_succ])
          refine takeH 2 65 (v := ?_) rfl (by kernel_rfl) (by kernel_rfl) (by kernel_rfl) (fun _ _ _ h => h) (Or.inl ⟨by rfl, ?_⟩) (by assumption) ?_
          rotate_left
          ·(intro w hSw; (try dsimp only at hSw); go_simp) <;> with_reducible rfl
          (try simp only [Act.put, List.setIfInBounds_toArray, List.set_cons_zero, List.set_cons_succ])
          refine takeH 3 66 (v := ?_) rfl (by kernel_rfl) (by kernel_rfl) (by kernel_rfl) (fun _ _ _ h => h) (Or.inl ⟨by rfl, ?_⟩) (by assumption) ?_
          rotate_left
          ·(intro w hSw; (try dsimp only at hSw); go_simp) <;> with_reducible rfl
          (try simp only [Act.put, List.setIfInBounds_toArray, List.set_cons_zero, List.set_cons_succ])
          refine takeH 4 67 (v := ?_) rfl (by kernel_rfl) (by kernel_rfl) (by kernel_rfl) (fun _ _ _ h => h) (Or.inl ⟨by rfl, ?_⟩) (by assumption) ?_
          rotate_left
          ·(intro w hSw; (try dsimp only at hSw); go_simp) <;> with_reducible rfl
          (try simp only [Act.put, List.setIfInBounds_toArray, List.set_cons_zero, List.set_cons_succ])
          refine takeH 5 68 (v := ?_) rfl (by kernel_rfl) (by kernel_rfl) (by kernel_rfl) (fun _ _ _ h => h) (Or.inl ⟨by rfl, ?_⟩) (by assumption) ?_
          rotate_left
          ·(intro w hSw; (try dsimp only at hSw); go_simp) <;> with_reducible rfl
          (try simp only [Act.put, List.setIfInBounds_toArray, List.set_cons_zero, List.set_cons_succ])
          refine takeH 6 69 (v := ?_) rfl (by kernel_rfl) (by kernel_rfl) (by kernel_rfl) (fun _ _ _ h => h) (Or.inl ⟨by rfl, ?_⟩) (by assumption) ?_
          rotate_left
          ·(intro w hSw; (try dsimp only at hSw); go_simp) <;> with_reducible rfl
          (try simp only [Act.put, List.setIfInBounds_toArray, List.set_cons_zero, List.set_cons_succ])
          refine takeH 7 70 (v := ?_) rfl (by kernel_rfl) (by kernel_rfl) (by kernel_rfl) (fun _ _ _ h => h) (Or.inl ⟨by rfl, ?_⟩) (by assumption) ?_
          rotate_left
          ·(intro w hSw; (try dsimp only at hSw); go_simp) <;> with_reducible rfl
          (try simp only [Act.put, List.setIfInBounds_toArray, List.set_cons_zero, List.set_cons_succ])
          refine takeH 8 71 (v := ?_) rfl (by kernel_rfl) (by kernel_rfl) (by kernel_rfl) (fun _ _ _ h => h) (Or.inl ⟨by rfl, ?_⟩) (by assumption) ?_
          rotate_left
          ·(intro w hSw; (try dsimp only at hSw); go_simp) <;> with_reducible rfl
          (try simp only [Act.put, List.setIfInBounds_toArray, List.set_cons_zero, List.set_cons_succ])
          refine wpAnyH_ready (rs := [9]) (by kernel_rfl) (by simp) ?_
          refine AllReadyH.cons (o := _) rfl (fun K hK => ?_) AllReadyH.nil
          go_simp
          refine (spec_l15Next (nm := nm) (st := st) (d := d) HN.out HM.out HKK.out hcap HTK.out hi1 (by omega) hlz HROW.out HRT.out).mono ?_; rw [← HNX.out]; rintro e w4 ⟨A4, m4, c4, rfl, ho4, hm4, hb4⟩
          try go_wp2_with fail
          refine hK.out _ _ (cS.out _ hb4) (fun hHeld => ?_)
          clear hK K
          (try simp only [Act.put, List.setIfInBounds_toArray, List.set_cons_zero, List.set_cons_succ])
          refine wpAnyH_ready (rs := [10]) (by kernel_rfl) (by simp) ?_
          refine AllReadyH.cons (o := _) rfl (fun K hK => ?_) AllReadyH.nil
          go_simp
          refine (spec_sameS _ _ _ _ _ _ _ _ _ HL2.out ho4.len (HS2.out.up hb4) ho4.recs hm2 (by omega)).mono ?_; rintro e w5 ⟨rfl, hb5⟩
          have hb5 := below_go hb4 hb5
          rw [decide_eq_true heq]
          try go_wp2_with fail
          refine hK.out _ _ (cS.out _ hb5) (fun hHeld => ?_)
          clear hK K
          (try simp only [Act.put, List.setIfInBounds_toArray, List.set_cons_zero, List.set_cons_succ])
          refine takeH 11 74 (v := ?_) rfl (by kernel_rfl) (by kernel_rfl) (by kernel_rfl) (fun _ _ _ h => h) (Or.inl ⟨by rfl, ?_⟩) (by assumption) ?_
          rotate_left
          ·(intro w hSw; (try dsimp only at hSw); go_simp) <;> with_reducible rfl
          (try simp only [Act.put, List.setIfInBounds_toArray, List.set_cons_zero, List.set_cons_succ])
          refine takeH 12 75 (v := ?_) rfl (by kernel_rfl) (by kernel_rfl) (by kernel_rfl) (fun _ _ _ h => h) (Or.inl ⟨by rfl, ?_⟩) (by assumption) ?_
          rotate_left
          ·(intro w hSw; (try dsimp only at hSw); go_simp) <;> with_reducible rfl
          (try simp only [Act.put, List.setIfInBounds_toArray, List.set_cons_zero, List.set_cons_succ])
          refine takeH 13 76 (v := ?_) rfl (by kernel_rfl) (by kernel_rfl) (by kernel_rfl) (fun _ _ _ h => h) (Or.inl ⟨by rfl, ?_⟩) (by assumption) ?_
          rotate_left
          ·(intro w hSw; (try dsimp only at hSw); go_simp) <;> with_reducible rfl
          (try simp only [Act.put, List.setIfInBounds_toArray, List.set_cons_zero, List.set_cons_succ])
          refine takeH 14 77 (v := ?_) rfl (by kernel_rfl) (by kernel_rfl) (by kernel_rfl) (fun _ _ _ h => h) (Or.inl ⟨by rfl, ?_⟩) (by assumption) ?_
          rotate_left
          ·(intro w hSw; (try dsimp only at hSw); go_simp) <;> with_reducible rfl
          (try simp only [Act.put, List.setIfInBounds_toArray, List.set_cons_zero, List.set_cons_succ])
          refine takeH 15 78 (v := ?_) rfl (by kernel_rfl) (by kernel_rfl) (by kernel_rfl) (fun _ _ _ h => h) (Or.inl ⟨by rfl, ?_⟩) (by assumption) ?_
          rotate_left
          ·(intro w hSw; (try dsimp only at hSw); go_simp) <;> with_reducible rfl
          (try simp only [Act.put, List.setIfInBounds_toArray, List.set_cons_zero, List.set_cons_succ])
          refine takeH 16 79 (v := ?_) rfl (by kernel_rfl) (by kernel_rfl) (by kernel_rfl) (fun _ _ _ h => h) (Or.inl ⟨by rfl, ?_⟩) (by assumption) ?_
          rotate_left
          ·(intro w hSw; (try dsimp only at hSw); go_simp) <;> with_reducible rfl
          (try simp only [Act.put, List.setIfInBounds_toArray, List.set_cons_zero, List.set_cons_succ])
          refine takeH 17 80 (v := ?_) rfl (by kernel_rfl) (by kernel_rfl) (by kernel_rfl) (fun _ _ _ h => h) (Or.inl ⟨by rfl, ?_⟩) (by assumption) ?_
          rotate_left
          ·(intro w hSw; (try dsimp only at hSw); go_simp) <;> with_reducible rfl
          (try simp only [Act.put, List.setIfInBounds_toArray, List.set_cons_zero, List.set_cons_succ])
          refine takeH 19 82 (v := ?_) rfl (by kernel_rfl) (by kernel_rfl) (by kernel_rfl) (fun _ _ _ h => h) (Or.inl ⟨by rfl, ?_⟩) (by assumption) ?_
          rotate_left
          ·(intro w hSw; (try dsimp only at hSw); go_simp) <;> with_reducible rfl
          (try simp only [Act.put, List.setIfInBounds_toArray, List.set_cons_zero, List.set_cons_succ])
          refine takeH 20 83 (v := ?_) rfl (by kernel_rfl) (by kernel_rfl) (by kernel_rfl) (fun _ _ _ h => h) (Or.inl ⟨by rfl, ?_⟩) (by assumption) ?_
          rotate_left
          ·(intro w hSw; (try dsimp only at hSw); go_simp) <;> with_reducible rfl
          (try simp only [Act.put, List.setIfInBounds_toArray, List.set_cons_zero, List.set_cons_succ])
          refine takeH 21 84 (v := ?_) rfl (by kernel_rfl) (by kernel_rfl) (by kernel_rfl) (fun _ _ _ h => h) (Or.inl ⟨by rfl, ?_⟩) (by assumption) ?_
          rotate_left
          ·(intro w hSw; (try dsimp only at hSw); go_simp) <;> with_reducible rfl
          (try simp only [Act.put, List.setIfInBounds_toArray, List.set_cons_zero, List.set_cons_succ])
          refine takeH 22 85 (v := ?_) rfl (by kernel_rfl) (by kernel_rfl) (by kernel_rfl) (fun _ _ _ h => h) (Or.inl ⟨by rfl, ?_⟩) (by assumption) ?_
          rotate_left
          ·(intro w hSw; (try dsimp only at hSw); go_simp) <;> with_reducible rfl
          (try simp only [Act.put, List.setIfInBounds_toArray, List.set_cons_zero, List.set_cons_succ])
          refine wpAnyH_ready (rs := [18]) (by kernel_rfl) (by simp) ?_
          refine AllReadyH.cons (o := _) rfl (fun K hK => ?_) AllReadyH.nil
          go_simp
          refine (spec_l1HasS (s := tg) HL2.out (HS2.out.up hb5) hm2).mono ?_; rw [← HY.out]; rintro e w6 ⟨rfl, rfl⟩
          try go_wp2_with fail
          refine hK.out _ _ (cS.out _ hb5) (fun hHeld => ?_)
          clear hK K
          (try simp only [Act.put, List.setIfInBounds_toArray, List.set_cons_zero, List.set_cons_succ])
          refine takeH 23 86 (v := ?_) rfl (by kernel_rfl) (by kernel_rfl) (by kernel_rfl) (fun _ _ _ h => h) (Or.inl ⟨by rfl, ?_⟩) (by assumption) ?_
          rotate_left
          ·(intro w hSw; (try dsimp only at hSw); go_simp) <;> with_reducible rfl
          (try simp only [Act.put, List.setIfInBounds_toArray, List.set_cons_zero, List.set_cons_succ])
          refine takeH 24 87 (v := ?_) rfl (by kernel_rfl) (by kernel_rfl) (by kernel_rfl) (fun _ _ _ h => h) (Or.inl ⟨by rfl, ?_⟩) (by assumption) ?_
          rotate_left
          ·(intro w hSw; (try dsimp only at hSw); go_simp) <;> with_reducible rfl
          (try simp only [Act.put, List.setIfInBounds_toArray, List.set_cons_zero, List.set_cons_succ])
          refine wpAnyH_done (by kernel_rfl) ?_ _
          (try simp only [Act.put, List.setIfInBounds_toArray, List.set_cons_zero, List.set_cons_succ])
          have HBN := Lib.hid (below_go HBR2.out hb5)
          clear hHeld cS ho4 hm4 hb4 hb5 hzE hzE2 K0 K1 HM HT HTK
          rcases y <;> rcases z
          ·skip
           have hstep : stepB (clH st l kb ks) tg ls t.size (i - 1) = true := by rw [HST2.out]; rfl
           have hok2 := okB_succ HOK.out hstep
           have HOK2 : Hid (okB (clH st l kb ks) tg ls t.size (i + 1 - 1) = true) := Lib.hid (by rw [hij] at hok2; exact hok2)
           clear hstep hok2 hij
           go_wp2
           go_roundw
           case rel => exact ⟨i + 1, by omega, by have := HNT.out; omega, by first | rfl | go_num, HOK2, HBN⟩
           case measure => simp [intOf]; omega
          ·skip
           have hstep : stepB (clH st l kb ks) tg ls t.size (i - 1) = false := by rw [HST2.out]; rfl
           have E := Lib.hid (show ck = false by rw [HQ6.out]; exact okB_no (show i - 1 < t.size by have := HNT.out; omega) hstep)
           clear hstep hij
           go_wp2
           go_ret
           rw [E.out]
           exact ⟨rfl, below_go HW0.out HBN.out⟩
          ·skip
           have hstep : stepB (clH st l kb ks) tg ls t.size (i - 1) = false := by rw [HST2.out]; rfl
           have E := Lib.hid (show ck = false by rw [HQ6.out]; exact okB_no (show i - 1 < t.size by have := HNT.out; omega) hstep)
           clear hstep hij
           go_wp2
           go_ret
           rw [E.out]
           exact ⟨rfl, below_go HW0.out HBN.out⟩
          ·skip
           have hstep : stepB (clH st l kb ks) tg ls t.size (i - 1) = true := by rw [HST2.out]; rfl
           have hok2 := okB_succ HOK.out hstep
           have HOK2 : Hid (okB (clH st l kb ks) tg ls t.size (i + 1 - 1) = true) := Lib.hid (by rw [hij] at hok2; exact hok2)
           clear hstep hok2 hij
           go_wp2
           go_roundw
           case rel => exact ⟨i + 1, by omega, by have := HNT.out; omega, by first | rfl | go_num, HOK2, HBN⟩
           case measure => simp [intOf]; omega
         ·have hstep : stepB (clH st l kb ks) tg ls t.size (i - 1) = false := by rw [HST.out, decide_eq_false heq, Bool.false_and]
          have E := Lib.hid (show ck = false by rw [HQ6.out]; exact okB_no (show i - 1 < t.size by have := HNT.out; omega) hstep)
          clear hstep hij HST
          refine wp_region_held_drew (S := fun u => (u.cell? ⟨p, 0, none⟩ = some (.string nm) ∧ u.cell? ⟨p, 1, none⟩ = some (.int .i64 (st : Int)) ∧ u.cell? ⟨p, 2, none⟩ = some (.slice A n c)) ∧ (u.cell? ⟨p + 1, 0, none⟩ = some (.string kb) ∧ u.cell? ⟨p + 1, 1, none⟩ = some (.string ks)) ∧ u.cell? ⟨b1, o1 + i, none⟩ = some (.slice B2 m2 d2)) (by kernel_rfl) (cS.out _ (Below.refl _ _)) (fun hHeld => ?_)
          refine takeH 0 63 (v := ?_) rfl (by kernel_rfl) (by kernel_rfl) (by kernel_rfl) (fun _ _ _ h => h) (Or.inl ⟨by rfl, ?_⟩) (by assumption) ?_
          rotate_left
          ·(intro w hSw; (try dsimp only at hSw); go_simp) <;> with_reducible rfl
          (try simp only [Act.put, List.setIfInBounds_toArray, List.set_cons_zero, List.set_cons_succ])
          refine takeH 1 64 (v := ?_) rfl (by kernel_rfl) (by kernel_rfl) (by kernel_rfl) (fun _ _ _ h => h) (Or.inl ⟨by rfl, ?_⟩) (by assumption) ?_
          rotate_left
          ·(intro w hSw; (try dsimp only at hSw); go_simp) <;> with_reducible rfl
          (try simp only [Act.put, List.setIfInBounds_toArray, List.set_cons_zero, List.set_cons_succ])
          refine takeH 2 65 (v := ?_) rfl (by kernel_rfl) (by kernel_rfl) (by kernel_rfl) (fun _ _ _ h => h) (Or.inl ⟨by rfl, ?_⟩) (by assumption) ?_
          rotate_left
          ·(intro w hSw; (try dsimp only at hSw); go_simp) <;> with_reducible rfl
          (try simp only [Act.put, List.setIfInBounds_toArray, List.set_cons_zero, List.set_cons_succ])
          refine takeH 3 66 (v := ?_) rfl (by kernel_rfl) (by kernel_rfl) (by kernel_rfl) (fun _ _ _ h => h) (Or.inl ⟨by rfl, ?_⟩) (by assumption) ?_
          rotate_left
          ·(intro w hSw; (try dsimp only at hSw); go_simp) <;> with_reducible rfl
          (try simp only [Act.put, List.setIfInBounds_toArray, List.set_cons_zero, List.set_cons_succ])
          refine takeH 4 67 (v := ?_) rfl (by kernel_rfl) (by kernel_rfl) (by kernel_rfl) (fun _ _ _ h => h) (Or.inl ⟨by rfl, ?_⟩) (by assumption) ?_
          rotate_left
          ·(intro w hSw; (try dsimp only at hSw); go_simp) <;> with_reducible rfl
          (try simp only [Act.put, List.setIfInBounds_toArray, List.set_cons_zero, List.set_cons_succ])
          refine takeH 5 68 (v := ?_) rfl (by kernel_rfl) (by kernel_rfl) (by kernel_rfl) (fun _ _ _ h => h) (Or.inl ⟨by rfl, ?_⟩) (by assumption) ?_
          rotate_left
          ·(intro w hSw; (try dsimp only at hSw); go_simp) <;> with_reducible rfl
          (try simp only [Act.put, List.setIfInBounds_toArray, List.set_cons_zero, List.set_cons_succ])
          refine takeH 6 69 (v := ?_) rfl (by kernel_rfl) (by kernel_rfl) (by kernel_rfl) (fun _ _ _ h => h) (Or.inl ⟨by rfl, ?_⟩) (by assumption) ?_
          rotate_left
          ·(intro w hSw; (try dsimp only at hSw); go_simp) <;> with_reducible rfl
          (try simp only [Act.put, List.setIfInBounds_toArray, List.set_cons_zero, List.set_cons_succ])
          refine takeH 7 70 (v := ?_) rfl (by kernel_rfl) (by kernel_rfl) (by kernel_rfl) (fun _ _ _ h => h) (Or.inl ⟨by rfl, ?_⟩) (by assumption) ?_
          rotate_left
          ·(intro w hSw; (try dsimp only at hSw); go_simp) <;> with_reducible rfl
          (try simp only [Act.put, List.setIfInBounds_toArray, List.set_cons_zero, List.set_cons_succ])
          refine takeH 8 71 (v := ?_) rfl (by kernel_rfl) (by kernel_rfl) (by kernel_rfl) (fun _ _ _ h => h) (Or.inl ⟨by rfl, ?_⟩) (by assumption) ?_
          rotate_left
          ·(intro w hSw; (try dsimp only at hSw); go_simp) <;> with_reducible rfl
          (try simp only [Act.put, List.setIfInBounds_toArray, List.set_cons_zero, List.set_cons_succ])
          refine wpAnyH_ready (rs := [9]) (by kernel_rfl) (by simp) ?_
          refine AllReadyH.cons (o := _) rfl (fun K hK => ?_) AllReadyH.nil
          go_simp
          refine (spec_l15Next (nm := nm) (st := st) (d := d) HN.out HM.out HKK.out hcap HTK.out hi1 (by omega) hlz HROW.out HRT.out).mono ?_; rw [← HNX.out]; rintro e w4 ⟨A4, m4, c4, rfl, ho4, hm4, hb4⟩
          try go_wp2_with fail
          refine hK.out _ _ (cS.out _ hb4) (fun hHeld => ?_)
          clear hK K
          (try simp only [Act.put, List.setIfInBounds_toArray, List.set_cons_zero, List.set_cons_succ])
          refine wpAnyH_ready (rs := [10]) (by kernel_rfl) (by simp) ?_
          refine AllReadyH.cons (o := _) rfl (fun K hK => ?_) AllReadyH.nil
          go_simp
          refine (spec_sameS _ _ _ _ _ _ _ _ _ HL2.out ho4.len (HS2.out.up hb4) ho4.recs hm2 (by omega)).mono ?_; rintro e w5 ⟨rfl, hb5⟩
          have hb5 := below_go hb4 hb5
          rw [decide_eq_false heq]
          try go_wp2_with fail
          refine hK.out _ _ (cS.out _ hb5) (fun hHeld => ?_)
          clear hK K
          (try simp only [Act.put, List.setIfInBounds_toArray, List.set_cons_zero, List.set_cons_succ])
          refine takeH 11 74 (v := ?_) rfl (by kernel_rfl) (by kernel_rfl) (by kernel_rfl) (fun _ _ _ h => h) (Or.inl ⟨by rfl, ?_⟩) (by assumption) ?_
          rotate_left
          ·(intro w hSw; (try dsimp only at hSw); go_simp) <;> with_reducible rfl
          (try simp only [Act.put, List.setIfInBounds_toArray, List.set_cons_zero, List.set_cons_succ])
          refine takeH 12 75 (v := ?_) rfl (by kernel_rfl) (by kernel_rfl) (by kernel_rfl) (fun _ _ _ h => h) (Or.inl ⟨by rfl, ?_⟩) (by assumption) ?_
          rotate_left
          ·(intro w hSw; (try dsimp only at hSw); go_simp) <;> with_reducible rfl
          (try simp only [Act.put, List.setIfInBounds_toArray, List.set_cons_zero, List.set_cons_succ])
          refine takeH 13 76 (v := undef) rfl (by kernel_rfl) (by kernel_rfl) (by kernel_rfl) (fun _ _ _ h => h) (Or.inr ⟨by rfl, rfl⟩) (by assumption) ?_
          (try simp only [Act.put, List.setIfInBounds_toArray, List.set_cons_zero, List.set_cons_succ])
          refine takeH 14 77 (v := undef) rfl (by kernel_rfl) (by kernel_rfl) (by kernel_rfl) (fun _ _ _ h => h) (Or.inr ⟨by rfl, rfl⟩) (by assumption) ?_
          (try simp only [Act.put, List.setIfInBounds_toArray, List.set_cons_zero, List.set_cons_succ])
          refine takeH 15 78 (v := undef) rfl (by kernel_rfl) (by kernel_rfl) (by kernel_rfl) (fun _ _ _ h => h) (Or.inr ⟨by rfl, rfl⟩) (by assumption) ?_
          (try simp only [Act.put, List.setIfInBounds_toArray, List.set_cons_zero, List.set_cons_succ])
          refine takeH 16 79 (v := undef) rfl (by kernel_rfl) (by kernel_rfl) (by kernel_rfl) (fun _ _ _ h => h) (Or.inr ⟨by rfl, rfl⟩) (by assumption) ?_
          (try simp only [Act.put, List.setIfInBounds_toArray, List.set_cons_zero, List.set_cons_succ])
          refine takeH 17 80 (v := undef) rfl (by kernel_rfl) (by kernel_rfl) (by kernel_rfl) (fun _ _ _ h => h) (Or.inr ⟨by rfl, rfl⟩) (by assumption) ?_
          (try simp only [Act.put, List.setIfInBounds_toArray, List.set_cons_zero, List.set_cons_succ])
          refine takeH 18 81 (v := undef) rfl (by kernel_rfl) (by kernel_rfl) (by kernel_rfl) (fun _ _ _ h => h) (Or.inr ⟨by rfl, rfl⟩) (by assumption) ?_
          (try simp only [Act.put, List.setIfInBounds_toArray, List.set_cons_zero, List.set_cons_succ])
          refine takeH 19 82 (v := undef) rfl (by kernel_rfl) (by kernel_rfl) (by kernel_rfl) (fun _ _ _ h => h) (Or.inr ⟨by rfl, rfl⟩) (by assumption) ?_
          (try simp only [Act.put, List.setIfInBounds_toArray, List.set_cons_zero, List.set_cons_succ])
          refine takeH 20 83 (v := undef) rfl (by kernel_rfl) (by kernel_rfl) (by kernel_rfl) (fun _ _ _ h => h) (Or.inr ⟨by rfl, rfl⟩) (by assumption) ?_
          (try simp only [Act.put, List.setIfInBounds_toArray, List.set_cons_zero, List.set_cons_succ])
          refine takeH 21 84 (v := undef) rfl (by kernel_rfl) (by kernel_rfl) (by kernel_rfl) (fun _ _ _ h => h) (Or.inr ⟨by rfl, rfl⟩) (by assumption) ?_
          (try simp only [Act.put, List.setIfInBounds_toArray, List.set_cons_zero, List.set_cons_succ])
          refine takeH 22 85 (v := undef) rfl (by kernel_rfl) (by kernel_rfl) (by kernel_rfl) (fun _ _ _ h => h) (Or.inr ⟨by rfl, rfl⟩) (by assumption) ?_
          (try simp only [Act.put, List.setIfInBounds_toArray, List.set_cons_zero, List.set_cons_succ])
          refine takeH 23 86 (v := undef) rfl (by kernel_rfl) (by kernel_rfl) (by kernel_rfl) (fun _ _ _ h => h) (Or.inr ⟨by rfl, rfl⟩) (by assumption) ?_
          (try simp only [Act.put, List.setIfInBounds_toArray, List.set_cons_zero, List.set_cons_succ])
          refine takeH 24 87 (v := ?_) rfl (by kernel_rfl) (by kernel_rfl) (by kernel_rfl) (fun _ _ _ h => h) (Or.inl ⟨by rfl, ?_⟩) (by assumption) ?_
          rotate_left
          ·(intro w hSw; (try dsimp only at hSw); go_simp) <;> with_reducible rfl
          (try simp only [Act.put, List.setIfInBounds_toArray, List.set_cons_zero, List.set_cons_succ])
          refine wpAnyH_done (by kernel_rfl) ?_ _
          (try simp only [Act.put, List.setIfInBounds_toArray, List.set_cons_zero, List.set_cons_succ])
          have HBN := Lib.hid (below_go HBR2.out hb5)
          clear hHeld cS ho4 hm4 hb4 hb5 K0 K1 HM HT HTK
          go_wp2
          go_ret
          rw [E.out]
          exact ⟨rfl, below_go HW0.out HBN.out⟩
        ·have hlI : ¬ (i : Int) < (N : Int) := by omega
         have hii : i - 1 = t.size := by have := HNT.out; omega
         have E := Lib.hid (show ck = true by rw [HQ6.out, ← hii]; exact hii ▸ HOK.out)
         clear hii
         go_wp2
         go_ret
         rw [E.out]
         exact ⟨rfl, below_go HW0.out HBR.out⟩
      ·have E := Lib.hid (show ck = false by rw [HQ5.out, decide_eq_false hra1, Bool.false_and])
       go_wp2
       go_ret
       rw [E.out]
       exact ⟨rfl, HB.out⟩
     ·have E := Lib.hid (show ck = false by rw [HQ4.out, decide_eq_false hxt, Bool.false_and])
      have hxe := bytes_ne hxt
      go_wp2
      go_ret
      rw [E.out]
      exact ⟨rfl, HB.out⟩
    ·have E := Lib.hid (show ck = false by rw [HQ3.out, decide_eq_false (show ¬ ls.length = t.size + 1 by omega), Bool.false_and])
     have hNI : ((N : Int) != (t.size : Int) + 1) = true := by rw [bne_iff_ne]; omega
     go_wp2
     go_ret
     rw [E.out]
     exact ⟨rfl, HB.out⟩
   ·have E := Lib.hid (show ck = false by rw [HQ2.out, decide_eq_false h8, Bool.false_and])
    have h8I : 8 < (t.size : Int) := by omega
    go_wp2
    go_ret
    rw [E.out]
    exact ⟨rfl, HB.out⟩
end Go.Proofs.YtidolgonmimicaaGreat
namespace Go.Proofs.YtidolgonmimicaaGreat
open Go.ChangeShapes Go.WideShapes Go.ChangeAt Go.RowKit Go.Deep
def tsV (nm : ByteArray) (st : Int) (l : List ByteArray) (kb ks t : ByteArray) : Bool := if goodF nm st l kb ks t = true then evenRow (hdAt st.toNat l kb ks t t.size) else false
end Go.Proofs.YtidolgonmimicaaGreat
namespace Go.Proofs.YtidolgonmimicaaGreat
open Go.ChangeShapes Go.WideShapes Go.ChangeAt Go.RowKit Go.Deep
set_option maxRecDepth 100000 in
theorem impl_touchEnd {A : Option Addr} {n c st : Nat} {nm : ByteArray} {l : List ByteArray} {kb ks : ByteArray} {t : ByteArray} {w : World} (hn : l.length = n) (h : Strs w A l) (hk : goodK nm (st : Int) l kb ks = true) (hg : goodT t = true) :
  Calls Tryz.prog 140 #[.agg #[.string nm, .int .i64 st, .slice A n c], .agg #[.string kb, .string ks], .string t] w fun e w' => e = .returned (.string (hdAt st l kb ks t t.size)) ∧ Below w.heap.size w w' := by
 have b0 : Below w.heap.size w ((w.alloc (.cells ⟨[.string nm, .int .i64 st, .slice A n c]⟩ 25)).alloc (.cells ⟨[.string kb, .string ks]⟩ 27)) := by (repeat' (first | (with_reducible exact Below.refl _ _) | (with_reducible assumption) | (with_reducible refine below_drewN ?_ _) | (with_reducible refine Below.drew ?_) | (with_reducible refine below_alloc ?_ _) | (with_reducible refine Below.alloc ?_ ?_ _) | (with_reducible refine Below.setCell ?_ ?_ _) | (with_reducible refine below_go ?_ (by with_reducible assumption)) | (with_reducible refine below_then (by with_reducible assumption) ?_ ?_) | go_size))
 have h60 := (goodT_t hg).2.1
 go_in
 go_wp2_with fail
 refine (impl_heads hn (h.up b0) hk hg).mono ?_; rintro e w1 ⟨A1, c1, rfl, ho, hb1⟩
 obtain ⟨g, rfl, _, _, gc, _⟩ := ho.at_ (by omega)
 have cg := gc t.size _ 0 _ (hdsL_at (Nat.lt_succ_self _)) rfl
 simp only [Nat.mul_one, Nat.add_zero] at cg
 clear gc
 go_wp2
 go_ret
 exact ⟨rfl, below_go b0 hb1⟩
end Go.Proofs.YtidolgonmimicaaGreat
namespace Go.Proofs.YtidolgonmimicaaGreat
open Go.ChangeShapes Go.WideShapes Go.ChangeAt Go.RowKit Go.Deep
open Go.Maps (Keyed string_keyed)
structure CkS (H : Cl → ByteArray) (a tg : ByteArray) (ls : List (List ByteArray)) (n i : Nat) (lv S : List ByteArray) : Prop where
 z : i = 0 → lv = [a]
 p : 1 ≤ i → ls.getD 0 [] = [a] ∧ lv = ls.getD (i - 1) [] ∧ okB H tg ls n (i - 1) = true
 s : ∀ x, x ∈ S ↔ x ∈ [a] ∨ ∃ Y ∈ ls.take i, x ∈ Y
 l : S.length ≤ 1 + 7000 * i
theorem take_mem {ls : List (List ByteArray)} {i : Nat} {r : List ByteArray} (h : ls[i]? = some r) (x : ByteArray) : (∃ Y ∈ ls.take (i + 1), x ∈ Y) ↔ (∃ Y ∈ ls.take i, x ∈ Y) ∨ x ∈ r := by
 rw [List.take_add_one, h]
 simp only [Option.toList_some, List.mem_append, List.mem_singleton]
 constructor
 ·rintro ⟨Y, q | rfl, hx⟩
  ·exact Or.inl ⟨Y, q, hx⟩
  ·exact Or.inr hx
 ·rintro (⟨Y, q, hx⟩ | hx)
  ·exact ⟨Y, Or.inl q, hx⟩
  ·exact ⟨r, Or.inr rfl, hx⟩
theorem CkS.seen {H : Cl → ByteArray} {a tg : ByteArray} {ls : List (List ByteArray)} {n i : Nat} {lv S : List ByteArray} (h : CkS H a tg ls n i lv S) (hi : 1 ≤ i) (hl : 0 < ls.length) : ∀ x, x ∈ S ↔ ∃ Y ∈ ls.take i, x ∈ Y := fun x => by
 rw [h.s]
 refine ⟨fun q => q.elim (fun hx => ?_) id, Or.inr⟩
 obtain ⟨r, hr⟩ := some_of_lt hl
 have e : r = [a] := by
  have := (h.p hi).1
  rw [List.getD, hr] at this
  exact this
 subst e
 exact ⟨[a], List.mem_of_getElem? (by rw [List.getElem?_take_of_lt hi]; exact hr), hx⟩
set_option maxHeartbeats 8000000 in
set_option maxRecDepth 100000 in
theorem impl_CheckRepair {A : Option Addr} {n c st : Nat} {nm : ByteArray} {l : List ByteArray} {kb ks a tg t : ByteArray} {B : Option Addr} {N d : Nat} {ls : List (List ByteArray)} {w : World} (hn : l.length = n) (h : Strs w A l) (hz : n ≤ 1048576) (hs : ∀ s ∈ l, s.size ≤ 16777216) (hnm : nm.size ≤ 16777216) (h9 : st ≤ 1000) (hkb : kb.size ≤ 16777216) (hks : ks.size ≤ 16777216) (ha : a.size ≤ 16777216) (hb : tg.size ≤ 16777216) (ht : t.size ≤ 16777216) (hT : TabS w B N ls) (hN : N ≤ 16777216) (hr : ∀ r ∈ ls, r.length ≤ 16777216) :
  Calls Tryz.prog 58 #[.agg #[.string nm, .int .i64 st, .slice A n c], .agg #[.string kb, .string ks], .string a, .string tg, .string t, .slice B N d] w fun e w' => e = .returned (.bool (ckR nm st l kb ks a tg t ls)) ∧ Below w.heap.size w w' := by
 have KS := string_keyed (P := Tryz.prog) (k := 9) Tryz.underlying9
 have hmm := @run_makeMap Tryz.prog
 obtain ⟨ck, hck⟩ : ∃ u, u = ckR nm st l kb ks a tg t ls := ⟨_, rfl⟩
 have HQ : Hid (ck = (rpB nm st l kb ks a tg && (goodT t && (decide (t.size ≤ 8) && (decide (ls.length = t.size + 1) && (decide (timesS a (hdAt st l kb ks t t.size) = tg) && (decide (ls.getD 0 [] = [a]) && okB (clH st l kb ks) tg ls t.size t.size))))))) := Lib.hid (hck.trans rfl)
 rw [← hck]
 clear hck
 have b0 : Below w.heap.size w ((w.alloc (.cells ⟨[.string nm, .int .i64 st, .slice A n c]⟩ 25)).alloc (.cells ⟨[.string kb, .string ks]⟩ 27)) := by (repeat' (first | (with_reducible exact Below.refl _ _) | (with_reducible assumption) | (with_reducible refine below_drewN ?_ _) | (with_reducible refine Below.drew ?_) | (with_reducible refine below_alloc ?_ _) | (with_reducible refine Below.alloc ?_ ?_ _) | (with_reducible refine Below.setCell ?_ ?_ _) | (with_reducible refine below_go ?_ (by with_reducible assumption)) | (with_reducible refine below_then (by with_reducible assumption) ?_ ?_) | go_size))
 have K0 := (Blk.at_ w 25 [.string nm, .int .i64 st, .slice A n c] (b := w.heap.size) rfl).alloc (.cells ⟨[.string kb, .string ks]⟩ 27)
 have K1 := Blk.at_ (w.alloc (.cells ⟨[.string nm, .int .i64 st, .slice A n c]⟩ 25)) 27 [.string kb, .string ks] (b := w.heap.size + 1) (by simp)
 have HM := Lib.hid h
 have HT := Lib.hid hT
 have HR := Lib.hid hr
 have HS := Lib.hid hs
 have HN := Lib.hid hn
 have hlen : ls.length = N := hT.len
 clear h hT hr hs hn
 go_in
 go_upto_region 1 with fail
 obtain ⟨w0, hw0⟩ : ∃ u, u = ((w.alloc (.cells #[.string nm, .int .i64 st, .slice A n c] 25)).alloc (.cells #[.string kb, .string ks] 27)) := ⟨_, rfl⟩
 rw [← hw0] at b0 K0 K1 ⊢
 clear hw0
 have HB := Lib.hid b0
 clear b0
 obtain ⟨p, hp⟩ : ∃ u, u = w.heap.size := ⟨_, rfl⟩
 have HP := Lib.hid hp
 rw [← hp] at K0 K1 ⊢
 clear hp
 have k0 := K0.cell 0; have k1 := K0.cell 1; have k2 := K0.cell 2; have j0 := K1.cell 0; have j1 := K1.cell 1
 simp only [List.getElem?_cons_zero, List.getElem?_cons_succ] at k0 k1 k2 j0 j1
 go_wp2_with fail
 clear k0 k1 k2 j0 j1
 refine (impl_goodRepair (nm := nm) HN.out (HM.out.up HB.out) hz HS.out hnm h9 hkb hks ha hb).mono ?_; rintro e w1 ⟨rfl, hb1⟩
 replace K0 := K0.up hb1
 replace K1 := K1.up hb1
 replace HB := Lib.hid (below_go HB.out hb1)
 clear hb1
 rcases hg : rpB nm st l kb ks a tg
 ·have E := Lib.hid (show ck = false by rw [HQ.out, hg]; simp)
  clear hg hmm
  go_wp2
  go_ret
  rw [E.out]
  exact ⟨rfl, HB.out⟩
 ·obtain ⟨hkk, h4, hra, hrb, hne⟩ := rpB_t hg
  have h38 := (goodM_st (goodK_t hkk).1).1
  have HQ1 := Lib.hid (HQ.out.trans (by rw [hg, Bool.true_and]))
  have HKK := Lib.hid hkk
  have HRA := Lib.hid hra
  have HNE := Lib.hid hne
  have hraz := hra.2
  have HCR := Lib.hid (clH_row h38.1 h38.2 l kb ks)
  have HD3 := Lib.hid (hds3_cl st l kb ks)
  clear hg hkk HQ hra hrb hne
  go_wp2_with fail
  refine (impl_GoodTouch ht).mono ?_; rintro e w' ⟨rfl, rfl⟩
  rcases hgt : goodT t
  ·have E := Lib.hid (show ck = false by rw [HQ1.out, hgt]; simp)
   clear hgt hmm
   go_wp2
   go_ret
   rw [E.out]
   exact ⟨rfl, HB.out⟩
  ·have HQ2 := Lib.hid (HQ1.out.trans (by rw [hgt, Bool.true_and]))
   have HGT := Lib.hid hgt
   have ht1 := (goodT_t hgt).1
   clear hgt HQ1
   by_cases h8 : t.size ≤ 8
   ·have HQ3 := Lib.hid (HQ2.out.trans (by rw [decide_eq_true h8, Bool.true_and]))
    have h8I : ¬ 8 < (t.size : Int) := by omega
    have hw1 : IntKind.i64.wrap ((t.size : Int) + 1) = (t.size : Int) + 1 := wrap_id (by omega)
    clear HQ2
    by_cases hNt : N = t.size + 1
    ·have HQ4 := Lib.hid (HQ3.out.trans (by rw [decide_eq_true (hlen.trans hNt), Bool.true_and]))
     have hNI : ((N : Int) != (t.size : Int) + 1) = false := by simp; omega
     have HNT := Lib.hid hNt
     clear HQ3 hNt
     have k0 := K0.cell 0; have k1 := K0.cell 1; have k2 := K0.cell 2; have j0 := K1.cell 0; have j1 := K1.cell 1
     simp only [List.getElem?_cons_zero, List.getElem?_cons_succ] at k0 k1 k2 j0 j1
     go_wp2_with fail
     clear k0 k1 k2 j0 j1
     refine (impl_touchEnd (nm := nm) (st := st) HN.out (HM.out.up HB.out) HKK.out HGT.out).mono ?_; rintro e w2 ⟨rfl, hb2⟩
     replace K0 := K0.up hb2
     replace K1 := K1.up hb2
     replace HB := Lib.hid (below_go HB.out hb2)
     clear hb2
     have hrow := hd_row (b := kb) (s := ks) (l := l) (u := t) h38.1 h38.2 t.size
     have hrz := hrow.2
     obtain ⟨hr1, hhr⟩ : ∃ u, u = hdAt st l kb ks t t.size := ⟨_, rfl⟩
     rw [← hhr] at HQ4 hrow hrz ⊢
     clear hhr
     go_wp2_with fail
     refine (impl_times (a := a) (b := hr1) (by omega) (by omega) (fits_good hrow.1 (by rw [hraz, hrow.2]))).mono ?_; rintro e w3 ⟨rfl, hb3⟩
     replace K0 := K0.up hb3
     replace K1 := K1.up hb3
     replace HB := Lib.hid (below_go HB.out hb3)
     clear hb3
     obtain ⟨x, hx⟩ : ∃ u, u = timesS a hr1 := ⟨_, rfl⟩
     rw [← hx] at HQ4 ⊢
     clear hx hrow hrz
     by_cases hxt : x = tg
     ·have HQ5 := Lib.hid (HQ4.out.trans (by rw [decide_eq_true hxt, Bool.true_and]))
      have hxb : (x.toList == tg.toList) = true := by rw [hxt]; simp
      clear HQ4 hxt
      have hsz3 := HB.out.size
      have hpw3 := K1.lt
      have M1 : SetX Tryz.prog (w3.alloc (.map #[] 0)) 9 4 w3.heap.size [] := SetX.made _ _ _ _
      have HM1 := Lib.hid M1
      have HBA : Hid (Below w.heap.size w (w3.alloc (.map #[] 0))) := Lib.hid (HB.out.alloc hsz3 _)
      replace K0 := K0.alloc (.map #[] 0)
      replace K1 := K1.alloc (.map #[] 0)
      clear M1
      go_upto_region 6 with (first | (refine wpList_setx_ins rfl (.tmp 49) (.tmp 50) (.const (.bool true)) 110 rfl KS Tryz.underlying110 Tryz.underlying9 Tryz.underlying4 rfl HM1.out (by simp) rfl rfl ha ?_; intro w4 hm4 hg4))
      clear hmm
      have HM4 : Hid (SetX Tryz.prog w4 9 4 w3.heap.size [a]) := Lib.hid hm4
      replace HB := Lib.hid (HBA.out.grown hg4 HBA.out.size (fun k e => by injection e with e; omega))
      replace K0 := K0.grown hg4 (fun e => by injection e with e; omega)
      replace K1 := K1.grown hg4 (fun e => by injection e with e; omega)
      obtain ⟨mb, hmb⟩ : ∃ u, u = w3.heap.size := ⟨_, rfl⟩
      rw [← hmb] at HM4 hpw3 hsz3 ⊢
      clear hm4 hg4 HM1 HBA hmb
      have LT := lit_strs2 w4 9 [a]
      have a4 : Below w4.heap.size w4 (w4.alloc (.cells ⟨[a].map Value.string⟩ 9)) := by (repeat' (first | (with_reducible exact Below.refl _ _) | (with_reducible assumption) | (with_reducible refine below_drewN ?_ _) | (with_reducible refine Below.drew ?_) | (with_reducible refine below_alloc ?_ _) | (with_reducible refine Below.alloc ?_ ?_ _) | (with_reducible refine Below.setCell ?_ ?_ _) | (with_reducible refine below_go ?_ (by with_reducible assumption)) | (with_reducible refine below_then (by with_reducible assumption) ?_ ?_) | go_size))
      simp only [List.map_cons, List.map_nil] at LT a4
      have HLT := Lib.hid LT
      have HMX := Lib.hid (HM4.out.up a4)
      have HK0 := Lib.hid (K0.up a4)
      have HK1 := Lib.hid (K1.up a4)
      have HBX := Lib.hid (below_go HB.out a4)
      clear LT a4 HM4 K0 K1 HB
      go_wp2
      go_loopw [14, 56] (fun v iv wr => ∃ (i m c' : Nat) (A' : Option Addr) (lv S : List ByteArray), i ≤ t.size + 1 ∧ v = .slice A' m c' ∧ iv = .int .i64 (i : Int) ∧ lv.length = m ∧ Hid (CkS (clH st l kb ks) a tg ls t.size i lv S) ∧ Hid (Strs wr A' lv) ∧ Hid (SetX Tryz.prog wr 9 4 mb S) ∧ Hid (Blk wr p 25 [.string nm, .int .i64 st, .slice A n c]) ∧ Hid (Blk wr (p + 1) 27 [.string kb, .string ks]) ∧ Hid (Below w.heap.size w wr)) (fun _ iv _ => 12 - (intOf iv).toNat)
      case atStart => exact ⟨0, 1, _, _, [a], [a], by omega, rfl, rfl, rfl, Lib.hid ⟨fun _ => rfl, fun q => by omega, fun x => by simp, by simp⟩, HLT, HMX, HK0, HK1, HBX⟩
      case round =>
       clear HLT HMX HK0 HK1 HBX
       obtain ⟨i, m, c4, A4, lv, S, hi2, rfl, rfl, hlv, HCK, HLV, HMS, HK0, HK1, HB⟩ := hrel
       rename World => wr
       have hwi : IntKind.i64.wrap ((i : Int) + 1) = ((i + 1 : Nat) : Int) := by rw [wrap_id (by omega)]; omega
       by_cases hlt : i < N
       ·have hlI : (i : Int) < (N : Int) := by omega
        obtain ⟨b1, o1, B1, m1, d1, r, eB, hlt1, hc1, hM1, hl1, hs1⟩ := HT.out.row (k := i) hlt
        replace hc1 := (HB.out.cell (p := ⟨b1, _, none⟩) hlt1).trans hc1
        subst eB
        have hm1 : m1 ≤ 16777216 := by rw [← hl1]; exact HR.out r (List.mem_of_getElem? hM1)
        have er : ls.getD i [] = r := by rw [List.getD, hM1]; rfl
        have HL1 := Lib.hid hl1
        have HM1 := Lib.hid hM1
        have HRS := Lib.hid hs1
        clear hM1 hl1 hs1
        rcases Nat.eq_zero_or_pos i with h0 | h0
        ·subst h0
         rw [Nat.add_zero] at hc1
         have h0I : ¬ (0 : Int) < ((0 : Nat) : Int) := by omega
         have elv := HCK.out.z rfl
         subst elv
         obtain rfl : m = 1 := by simpa using hlv.symm
         go_wp2_with fail
         clear hc1
         refine (equal_strs _ _ _ _ _ _ _ _ _ rfl HL1.out HLV.out (HRS.out.up HB.out) (by simp) hm1).mono ?_; rintro e w5 ⟨rfl, hb5⟩
         by_cases heq : [a] = r
         ·have hdq : decide ([a] = r) = true := decide_eq_true heq
          rw [hdq]
          clear hdq
          go_wp2_with fail
          refine (impl_has (s := tg) rfl (HLV.out.up hb5) (by simp) (by simp [Srt])).mono ?_; rintro e w6 ⟨rfl, hb6⟩
          have hin : inL [a] tg = false := by
           rcases hq : inL [a] tg
           ·rfl
           ·exact absurd (List.mem_singleton.1 (inL_iff.1 hq)).symm HNE.out
          rw [hin]
          have hb6' := below_go hb5 hb6
          have ht0 : ((0 : Int) == (t.size : Int)) = false := by rw [beq_eq_false_iff_ne]; omega
          have HLV2 := Lib.hid (HLV.out.up hb6')
          have HMS2 := Lib.hid (HMS.out.up hb6')
          have HK02 := Lib.hid (HK0.out.up hb6')
          have HK12 := Lib.hid (HK1.out.up hb6')
          have HB2 := Lib.hid (below_go HB.out hb6')
          have HCK2 : Hid (CkS (clH st l kb ks) a tg ls t.size 1 [a] S) := Lib.hid ⟨fun q => by omega, fun _ => ⟨by rw [er, heq], by rw [er, heq], okB_zero _ _ _ _⟩, fun x => by
           rw [HCK.out.s x, take_mem HM1.out x, ← heq]
           simp, by have := HCK.out.l; omega⟩
          clear hin hb6' hb6 hb5 heq er HLV HMS HK0 HK1 HB HCK
          go_wp2
          go_roundw
          case rel => exact ⟨1, 1, c4, A4, [a], S, by omega, rfl, by first | rfl | go_num, rfl, HCK2, HLV2, HMS2, HK02, HK12, HB2⟩
          case measure => simp [intOf]
         ·have hdq : decide ([a] = r) = false := decide_eq_false heq
          rw [hdq]
          have E := Lib.hid (show ck = false by rw [HQ5.out, decide_eq_false (show ¬ ls.getD 0 [] = [a] by rw [er]; exact fun q => heq q.symm), Bool.false_and])
          have HB2 := Lib.hid (below_go HB.out hb5)
          clear hdq heq er
          go_wp2
          go_ret
          rw [E.out]
          exact ⟨rfl, HB2.out⟩
        ·have h0I : (0 : Int) < (i : Int) := by omega
         obtain ⟨g1, g2, g3⟩ := HCK.out.p h0
         have hij : i - 1 + 1 = i := by omega
         have hla : lastL (ls.take i) = ls.getD (i - 1) [] := by
          have := lastL_take (M := ls) (j := i - 1) (by have := HNT.out; omega)
          rwa [hij] at this
         have HQ6 := Lib.hid (HQ5.out.trans (by rw [decide_eq_true g1, Bool.true_and]))
         have hrows := ck_rows (tg := tg) (n := t.size) HCR.out HRA.out g1 (i - 1) (by have := HNT.out; omega) g3
         rw [← g2] at hrows
         have HROW := Lib.hid hrows.1
         have hpow := pow3_le7 (show i - 1 ≤ 7 by have := HNT.out; omega)
         have hmz : m ≤ 2187 := by have := hrows.2; omega
         have hSl : S.length ≤ 100000 := by have := HCK.out.l; omega
         have HSM := Lib.hid (HCK.out.seen h0 (by omega))
         have hst : stepB (clH st l kb ks) tg ls t.size (i - 1) = (decide (r = nextF (clH st l kb ks) (ls.take i) lv) && (inL r tg == decide (i = t.size))) := by rw [stepB, hij, er, hla, ← g2]
         have HST := Lib.hid hst
         have HOK := Lib.hid g3
         have HG1 := Lib.hid g1
         have HNS := Lib.hid (nextF_set (clH st l kb ks) (ls.take i) lv).1
         have hnl := nextF_len (clH st l kb ks) (ls.take i) lv
         obtain ⟨k0, k1, k2, j0, j1⟩ := show _ ∧ _ ∧ _ ∧ _ ∧ _ from ⟨HK0.out.cell 0, HK0.out.cell 1, HK0.out.cell 2, HK1.out.cell 0, HK1.out.cell 1⟩
         simp only [List.getElem?_cons_zero, List.getElem?_cons_succ] at k0 k1 k2 j0 j1
         clear g1 g2 g3 hla hrows hpow hst
         go_wp2_with fail
         clear k0 k1 k2 j0 j1 hc1
         refine (impl_callHeads (nm := nm) HN.out (HM.out.up HB.out) HKK.out).mono ?_; rw [HD3.out]; rintro e w5 ⟨A5, c5, rfl, ho5, hb5⟩
         have HLV5 := Lib.hid (HLV.out.up hb5)
         have HMS5 := Lib.hid (HMS.out.up hb5)
         have HK05 := Lib.hid (HK0.out.up hb5)
         have HK15 := Lib.hid (HK1.out.up hb5)
         have HB5 := Lib.hid (below_go HB.out hb5)
         have HH5 := Lib.hid ho5.recs
         clear ho5 hb5 HLV HMS HK0 HK1 HB
         go_wp2_with fail
         refine (impl_nextLayer (ls := ls.take i) HH5.out HCR.out hlv HLV5.out HROW.out (by omega) HMS5.out hSl HSM.out).mono ?_; rintro e w6 ⟨g6, m6, c6, S6, rfl, ho6, hm6, hs6, hl6, hg6⟩
         have HB6 := Lib.hid (HB5.out.grown hg6 HB5.out.size (fun k e => by injection e with e; omega))
         have HK06 := Lib.hid (HK05.out.grown hg6 (fun e => by injection e with e; omega))
         have HK16 := Lib.hid (HK15.out.grown hg6 (fun e => by injection e with e; omega))
         have HM6 := Lib.hid hm6
         have HS6 := Lib.hid hs6
         have HO6 := Lib.hid ho6.recs
         have hl6' := ho6.len
         rw [← hl6'] at hl6
         have HL6 := Lib.hid hl6'
         obtain ⟨nx, hnx⟩ : ∃ u, u = nextF (clH st l kb ks) (ls.take i) lv := ⟨_, rfl⟩
         rw [← hnx] at HST HNS hnl HS6 HO6 HL6 hl6
         clear hm6 hs6 ho6 hg6 hl6' hnx HLV5 HMS5 HK05 HK15 HB5 HH5 HSM
         have hm6z : m6 ≤ 16777216 := by have := HL6.out; omega
         go_wp2_with fail
         refine (equal_strs _ _ _ _ _ _ _ _ _ HL6.out HL1.out HO6.out (HRS.out.up HB6.out) hm6z hm1).mono ?_; rintro e w7 ⟨rfl, hb7⟩
         by_cases heq : nx = r
         ·have hdq : decide (nx = r) = true := decide_eq_true heq
          rw [hdq]
          have HST2 := Lib.hid (HST.out.trans (by rw [decide_eq_true heq.symm, Bool.true_and]))
          clear hdq HST
          go_wp2_with fail
          refine (impl_has (s := tg) HL6.out (HO6.out.up hb7) hm6z HNS.out).mono ?_; rintro e w8 ⟨rfl, hb8⟩
          rw [← heq] at HST2
          obtain ⟨y, hy⟩ : ∃ u, u = inL nx tg := ⟨_, rfl⟩
          rw [← hy] at HST2 ⊢
          obtain ⟨z, hzz⟩ : ∃ u, u = decide (i = t.size) := ⟨_, rfl⟩
          rw [← hzz] at HST2
          have hzE : ((i : Int) == (t.size : Int)) = z := by
           rw [hzz]
           by_cases q : i = t.size
           ·rw [decide_eq_true q, beq_iff_eq]; omega
           ·rw [decide_eq_false q, beq_eq_false_iff_ne]; omega
          have hzE2 : decide (i = t.size) = z := hzz.symm
          have hb8' := below_go hb7 hb8
          have HLV8 := Lib.hid (HO6.out.up hb8')
          have HMS8 := Lib.hid (HM6.out.up hb8')
          have HK08 := Lib.hid (HK06.out.up hb8')
          have HK18 := Lib.hid (HK16.out.up hb8')
          have HB8 := Lib.hid (below_go HB6.out hb8')
          have hnz : nx.length ≤ 6561 := by omega
          have HSS : Hid (∀ x, x ∈ S6 ↔ x ∈ [a] ∨ ∃ Y ∈ ls.take (i + 1), x ∈ Y) := Lib.hid (fun x => by
           rw [HS6.out x, HCK.out.s x, take_mem HM1.out x, ← heq, or_assoc])
          have hS6 : S6.length ≤ 1 + 7000 * (i + 1) := by have := HCK.out.l; omega
          have en : nx = ls.getD (i + 1 - 1) [] := by rw [Nat.add_sub_cancel, er, heq]
          clear hy hzz hb8' hb8 hb7 HO6 HM6 HK06 HK16 HB6 heq er HCK hlv hl6 hnl hSl
          have hi3 := HNT.out
          rcases z <;> rcases y
          ·skip
           have hstep : stepB (clH st l kb ks) tg ls t.size (i - 1) = true := by rw [HST2.out]; rfl
           have hok2 := okB_succ HOK.out hstep
           have HCK2 : Hid (CkS (clH st l kb ks) a tg ls t.size (i + 1) nx S6) := Lib.hid ⟨fun q => by omega, fun _ => ⟨HG1.out, en, by rw [hij] at hok2; exact hok2⟩, HSS.out, hS6⟩
           have hi4 : i + 1 ≤ t.size + 1 := by omega
           clear hstep hok2 hij en hi3
           go_wp2
           go_roundw
           case rel => exact ⟨i + 1, m6, c6, _, nx, S6, hi4, rfl, by first | rfl | go_num, HL6.out, HCK2, HLV8, HMS8, HK08, HK18, HB8⟩
           case measure => simp [intOf]; omega
          ·skip
           have hstep : stepB (clH st l kb ks) tg ls t.size (i - 1) = false := by rw [HST2.out]; rfl
           have E := Lib.hid (show ck = false by rw [HQ6.out]; exact okB_no (show i - 1 < t.size by omega) hstep)
           clear hstep hij en hi3
           go_wp2
           go_ret
           rw [E.out]
           exact ⟨rfl, HB8.out⟩
          ·skip
           have hstep : stepB (clH st l kb ks) tg ls t.size (i - 1) = false := by rw [HST2.out]; rfl
           have E := Lib.hid (show ck = false by rw [HQ6.out]; exact okB_no (show i - 1 < t.size by omega) hstep)
           clear hstep hij en hi3
           go_wp2
           go_ret
           rw [E.out]
           exact ⟨rfl, HB8.out⟩
          ·skip
           have hstep : stepB (clH st l kb ks) tg ls t.size (i - 1) = true := by rw [HST2.out]; rfl
           have hok2 := okB_succ HOK.out hstep
           have HCK2 : Hid (CkS (clH st l kb ks) a tg ls t.size (i + 1) nx S6) := Lib.hid ⟨fun q => by omega, fun _ => ⟨HG1.out, en, by rw [hij] at hok2; exact hok2⟩, HSS.out, hS6⟩
           have hi4 : i + 1 ≤ t.size + 1 := by omega
           clear hstep hok2 hij en hi3
           go_wp2
           go_roundw
           case rel => exact ⟨i + 1, m6, c6, _, nx, S6, hi4, rfl, by first | rfl | go_num, HL6.out, HCK2, HLV8, HMS8, HK08, HK18, HB8⟩
           case measure => simp [intOf]; omega
         ·have hdq : decide (nx = r) = false := decide_eq_false heq
          rw [hdq]
          have hstep : stepB (clH st l kb ks) tg ls t.size (i - 1) = false := by rw [HST.out, decide_eq_false (fun q => heq q.symm), Bool.false_and]
          have E := Lib.hid (show ck = false by rw [HQ6.out]; exact okB_no (show i - 1 < t.size by have := HNT.out; omega) hstep)
          have HB8 := Lib.hid (below_go HB6.out hb7)
          clear hdq hstep hij heq er
          go_wp2
          go_ret
          rw [E.out]
          exact ⟨rfl, HB8.out⟩
       ·have hlI : ¬ (i : Int) < (N : Int) := by omega
        obtain ⟨g1, _, g3⟩ := HCK.out.p (by have := HNT.out; omega)
        have hii : i - 1 = t.size := by have := HNT.out; omega
        have E := Lib.hid (show ck = true by rw [HQ5.out, decide_eq_true g1, Bool.true_and, ← hii]; exact hii ▸ g3)
        clear hii g1 g3
        go_wp2
        go_ret
        rw [E.out]
        exact ⟨rfl, HB.out⟩
     ·have E := Lib.hid (show ck = false by rw [HQ4.out, decide_eq_false hxt, Bool.false_and])
      have hxe := bytes_ne hxt
      clear hmm
      go_wp2
      go_ret
      rw [E.out]
      exact ⟨rfl, HB.out⟩
    ·have E := Lib.hid (show ck = false by rw [HQ3.out, decide_eq_false (show ¬ ls.length = t.size + 1 by omega), Bool.false_and])
     have hNI : ((N : Int) != (t.size : Int) + 1) = true := by rw [bne_iff_ne]; omega
     clear hmm
     go_wp2
     go_ret
     rw [E.out]
     exact ⟨rfl, HB.out⟩
   ·have E := Lib.hid (show ck = false by rw [HQ2.out, decide_eq_false h8, Bool.false_and])
    have h8I : 8 < (t.size : Int) := by omega
    clear hmm
    go_wp2
    go_ret
    rw [E.out]
    exact ⟨rfl, HB.out⟩
end Go.Proofs.YtidolgonmimicaaGreat
namespace Go.Proofs.YtidolgonmimicaaGreat
open Go.ChangeShapes Go.WideShapes Go.ChangeAt Go.RowKit Go.Deep
theorem fm_str (l : List ByteArray) : l.flatMap strE = l.map Value.string := by
 induction l with
 | nil => rfl
 | cons a l ih => rw [List.flatMap_cons, ih]; rfl
theorem Recs.pastL {α : Type} {e : α → List Value} {s : Nat} {w w' : World} {A : Option Addr} {l : List α} {p : Nat} (h : Recs e s w A l) (hg : w.grownBy w' (some p)) (hne : 0 < l.length → ∀ a, A = some a → a.block ≠ p) : Recs e s w' A l := by
 refine ⟨h.1, h.2.1, fun hn => ?_⟩
 obtain ⟨b, off, e, hlt, hc⟩ := h.2.2 hn
 have hb : b ≠ p := by have := hne hn _ e; exact this
 refine ⟨b, off, e, Nat.lt_of_lt_of_le hlt hg.size, fun j u hu => (hg.cell_far ⟨b, _, none⟩ hlt (fun e => by injection e with e; exact hb e)).trans (hc j u hu)⟩
theorem own_loL {α : Type} {e : α → List Value} {s : Nat} {E : TypeId} {w : World} {base : Nat} {A : Option Addr} {n c : Nat} {l : List α} (h : Owned e s E w base A n c l) : 0 < l.length → ∀ a, A = some a → base ≤ a.block := fun h0 a ea => by
 obtain ⟨g, hA, hg, _⟩ := h.at_ (by rw [← h.len]; exact h0)
 rw [hA] at ea
 injection ea with ea
 subst ea
 exact hg
theorem strs_hit {w : World} {B : Option Addr} {r : List ByteArray} {g o : Nat} {f : ByteArray} (h : Strs w B r) : ∃ r' : List ByteArray, r'.length = r.length ∧ Strs (w.setCell ⟨g, o, none⟩ (.string f)) B r' := by
 have hsz : w.heap.size ≤ (w.setCell ⟨g, o, none⟩ (.string f)).heap.size := (only_set w (p := ⟨g, o, none⟩) (.string f)).size
 rcases Nat.eq_zero_or_pos r.length with hz | hz
 ·obtain rfl := List.length_eq_zero_iff.1 hz
  exact ⟨[], rfl, ⟨strE_len, Rd.none_ _ _ _⟩⟩
 ·obtain ⟨b, off, hA, hb, hc⟩ := h.2.2 hz
  have hcell : ∀ j x, r[j]? = some x → w.cell? ⟨b, off + j, none⟩ = some (.string x) := fun j x hx => hc j _ (by rw [fm_str, List.getElem?_map, hx]; rfl)
  by_cases hh : b = g ∧ off ≤ o ∧ o < off + r.length
  ·obtain ⟨e1, h1, h2⟩ := hh
   refine ⟨r.set (o - off) f, by rw [List.length_set], strE_len, by rw [flatMap_len strE_len], fun _ => ⟨b, off, hA, Nat.lt_of_lt_of_le hb hsz, fun j u hu => ?_⟩⟩
   rw [fm_str, List.getElem?_map] at hu
   by_cases hj : j = o - off
   ·subst hj
    rw [List.getElem?_set_self (by omega)] at hu
    simp only [Option.map_some, Option.some.injEq] at hu
    subst hu
    obtain ⟨x, hx⟩ := some_of_lt (l := r) (k := o - off) (by omega)
    have := hcell _ x hx
    rw [show off + (o - off) = o by omega] at this ⊢
    rw [e1] at this ⊢
    first | exact World.cell?_setCell_same _ _ this | exact World.cell?_setCell_same _ _ _ this
   ·rw [List.getElem?_set_ne (by omega)] at hu
    have hne : (⟨g, o, none⟩ : Addr) ≠ ⟨b, off + j, none⟩ := by intro e; injection e with _ e _; omega
    refine Eq.trans (World.cell?_setCell_other _ _ _ _ hne) (hc j u ?_)
    rw [fm_str, List.getElem?_map]; exact hu
  ·refine ⟨r, rfl, strE_len, by rw [flatMap_len strE_len], fun _ => ⟨b, off, hA, Nat.lt_of_lt_of_le hb hsz, fun j u hu => ?_⟩⟩
   have hj : j < r.length := by
    rw [fm_str] at hu
    have := (List.getElem?_eq_some_iff.1 hu).1
    simpa using this
   have hne : (⟨g, o, none⟩ : Addr) ≠ ⟨b, off + j, none⟩ := by intro e; injection e with e1 e2 _; exact hh ⟨e1.symm, by omega, by omega⟩
   exact Eq.trans (World.cell?_setCell_other _ _ _ _ hne) (hc j u hu)
theorem pick_list {P : Nat → List ByteArray → Prop} : ∀ n : Nat, (∀ k, k < n → ∃ r, P k r) → ∃ M : List (List ByteArray), M.length = n ∧ ∀ k r, M[k]? = some r → P k r
 | 0, _ => ⟨[], rfl, fun k r h => by simp at h⟩
 | n + 1, h => by
  obtain ⟨M, h1, h2⟩ := pick_list n (fun k hk => h k (by omega))
  obtain ⟨r, hr⟩ := h n (by omega)
  refine ⟨M ++ [r], by simp [h1], fun k x hx => ?_⟩
  rcases Nat.lt_or_ge k M.length with q | q
  ·rw [List.getElem?_append_left q] at hx
   exact h2 k x hx
  ·rw [List.getElem?_append_right q] at hx
   have hk0 : k - M.length = 0 := by
    have := (List.getElem?_eq_some_iff.1 hx).1
    simp at this; omega
   rw [hk0] at hx
   simp at hx
   subst hx
   rw [show k = n by omega]
   exact hr
def TabL (w : World) (lo : Nat) (A : Option Addr) (n : Nat) : Prop := ∃ (vs : List Hd) (M : List (List ByteArray)), vs.length = n ∧ M.length = n ∧ Recs slcE 1 w A vs ∧ (0 < n → ∀ a, A = some a → lo ≤ a.block) ∧ ∀ (k : Nat) (v : Hd) (r : List ByteArray), vs[k]? = some v → M[k]? = some r → v.2.1 = r.length ∧ Strs w v.1 r ∧ (0 < r.length → ∀ a, v.1 = some a → lo ≤ a.block) ∧ r.length ≤ 5000
section
variable {w w' : World} {A : Option Addr} {n lo : Nat}
theorem TabL.up (h : TabL w lo A n) (hb : Below w.heap.size w w') : TabL w' lo A n := by
 obtain ⟨vs, M, h1, h2, h3, h4, h5⟩ := h
 exact ⟨vs, M, h1, h2, h3.up hb, h4, fun k v r hv hr => ⟨(h5 k v r hv hr).1, (h5 k v r hv hr).2.1.up hb, (h5 k v r hv hr).2.2⟩⟩
theorem TabL.past {p : Nat} (h : TabL w lo A n) (hg : w.grownBy w' (some p)) (hp : p < lo) : TabL w' lo A n := by
 obtain ⟨vs, M, h1, h2, h3, h4, h5⟩ := h
 exact ⟨vs, M, h1, h2, h3.pastL hg (fun q a ea => by have := h4 (by omega) a ea; omega), h4, fun k v r hv hr => by
  obtain ⟨q1, q2, q3, q4⟩ := h5 k v r hv hr
  exact ⟨q1, q2.pastL hg (fun q a ea => by have := q3 q a ea; omega), q3, q4⟩⟩
theorem TabL.tab (h : TabL w lo A n) : ∃ M : List (List ByteArray), TabS w A n M ∧ ∀ r ∈ M, r.length ≤ 5000 := by
 obtain ⟨vs, M, h1, h2, h3, h4, h5⟩ := h
 refine ⟨M, ⟨vs, h1, h2, h3, fun k v r hv hr => ⟨(h5 k v r hv hr).1, (h5 k v r hv hr).2.1⟩⟩, fun r hr => ?_⟩
 obtain ⟨k, hk⟩ := List.getElem?_of_mem hr
 obtain ⟨v, hv⟩ := some_of_lt (l := vs) (k := k) (by have := (List.getElem?_eq_some_iff.1 hk).1; omega)
 exact (h5 k v r hv hk).2.2.2
theorem TabT.loose {c : Nat} {vs : List Hd} {M : List (List ByteArray)} (h : TabT w lo A n c vs M) (hM : ∀ r ∈ M, r.length ≤ 5000) : TabL w lo A n :=
 ⟨vs, M, h.top.len, h.nlen, h.top.recs, fun q => own_loL h.top (by rw [h.top.len]; exact q), fun k v r hv hr => by
  have ho := h.row k v r hv hr
  exact ⟨ho.len.symm, ho.recs, own_loL ho, hM r (List.mem_of_getElem? hr)⟩⟩
theorem TabL.hit {g o : Nat} {f : ByteArray} (h : TabL w lo A n) (hne : 0 < n → ∀ a, A = some a → a.block ≠ g) : TabL (w.setCell ⟨g, o, none⟩ (.string f)) lo A n := by
 obtain ⟨vs, M, h1, h2, h3, h4, h5⟩ := h
 obtain ⟨M', e1, e2⟩ := pick_list (P := fun k r' => ∀ v r, vs[k]? = some v → M[k]? = some r → r'.length = r.length ∧ Strs (w.setCell ⟨g, o, none⟩ (.string f)) v.1 r') n (fun k hk => by
  obtain ⟨v, hv⟩ := some_of_lt (l := vs) (k := k) (by omega)
  obtain ⟨r, hr⟩ := some_of_lt (l := M) (k := k) (by omega)
  obtain ⟨r', q1, q2⟩ := strs_hit (g := g) (o := o) (f := f) (h5 k v r hv hr).2.1
  exact ⟨r', fun v' r2 hv' hr2 => by
   rw [hv] at hv'; rw [hr] at hr2
   injection hv' with hv'; injection hr2 with hr2
   subst hv' hr2
   exact ⟨q1, q2⟩⟩)
 refine ⟨vs, M', h1, e1, h3.pastL (only_set w (p := ⟨g, o, none⟩) (.string f)) (fun q a ea => hne (by omega) a ea), h4, fun k v r' hv hr' => ?_⟩
 obtain ⟨r, hr⟩ := some_of_lt (l := M) (k := k) (by have := (List.getElem?_eq_some_iff.1 hv).1; omega)
 obtain ⟨q1, q2, q3, q4⟩ := h5 k v r hv hr
 obtain ⟨p1, p2⟩ := e2 k r' hr' v r hv hr
 exact ⟨by omega, p2, fun q => q3 (by omega), by omega⟩
end
end Go.Proofs.YtidolgonmimicaaGreat
namespace Go.Proofs.YtidolgonmimicaaGreat
open Go.ChangeShapes Go.WideShapes Go.ChangeAt Go.RowKit Go.Deep
theorem lst_size (nm : ByteArray) (st : Nat) (l : List ByteArray) (kb ks a tg : ByteArray) : (lstT (rtO nm st l kb ks a tg)).size ≤ 8 := by
 rcases h : rtO nm st l kb ks a tg with _ | w
 ·exact Nat.zero_le _
 ·rcases hr : rpB nm st l kb ks a tg
  ·rw [rtO_f hr] at h; cases h
  ·rw [rtO_t hr] at h
   rcases hl : layR (clH st l kb ks) a tg with _ | M
   ·rw [repW_none hl] at h; cases h
   ·obtain ⟨v, e1, e2, e3, e4, e5⟩ := repW_some hl
    rw [h] at e1
    injection e1 with e1
    subst e1
    obtain ⟨_, ⟨d, q2, q3, q4, q5⟩, _⟩ := layR_ok hl
    have hz := wT_size w
    show (wT w).size ≤ 8
    omega
theorem lay_rows (nm : ByteArray) (st : Nat) (l : List ByteArray) (kb ks a tg : ByteArray) : ((rlO nm st l kb ks a tg).getD []).length ≤ 9 ∧ ∀ r ∈ (rlO nm st l kb ks a tg).getD [], 1 ≤ r.length ∧ r.length ≤ 3200 := by
 rcases h : rlO nm st l kb ks a tg with _ | M
 ·exact ⟨Nat.zero_le _, fun r hr => by cases hr⟩
 ·rcases hr : rpB nm st l kb ks a tg
  ·rw [rlO_f hr] at h; cases h
  ·rw [rlO_t hr] at h
   obtain ⟨hL, ⟨d, q2, q3, q4, q5⟩, _, q7⟩ := layR_ok h
   refine ⟨by show M.length ≤ 9; omega, fun r hm => ?_⟩
   obtain ⟨k, hk⟩ := List.getElem?_of_mem hm
   exact ⟨layers_full hL q2 q5 hk, Nat.le_trans (manyL_at hm) q7⟩
theorem ol_same (nm : ByteArray) (st : Nat) (l : List ByteArray) (kb ks a tg : ByteArray) : (rtO nm st l kb ks a tg).isSome = (rlO nm st l kb ks a tg).isSome := by
 rcases hr : rpB nm st l kb ks a tg
 ·rw [rtO_f hr, rlO_f hr]; rfl
 ·rw [rtO_t hr, rlO_t hr]
  rcases hl : layR (clH st l kb ks) a tg with _ | M
  ·rw [repW_none hl]; rfl
  ·obtain ⟨v, e1, _⟩ := repW_some hl
   rw [e1]; rfl
end Go.Proofs.YtidolgonmimicaaGreat
namespace Go.Proofs.YtidolgonmimicaaGreat
open Go.ChangeShapes Go.WideShapes Go.ChangeAt Go.RowKit Go.Deep
end Go.Proofs.YtidolgonmimicaaGreat
