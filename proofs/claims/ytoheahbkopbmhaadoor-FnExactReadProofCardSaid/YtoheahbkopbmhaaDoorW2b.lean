/- The walks through the text of places and the list of all changes, the reference's side. -/
import Derived.Test.YtoheahbkopbmhaaDoorW2a
import Derived.Test.YtoheahbkopbmhaaDoorW02
namespace Go.Proofs.YtoheahbkopbmhaaDoor
set_option linter.unusedVariables false
set_option linter.unusedSimpArgs false
open Go.ChangeShapes Go.WideShapes Go.ChangeAt Go.RowKit Go.Deep
theorem spec_l1Num_1 {x : Int} {w : World} (h0 : 0 ≤ x) (h1 : x ≤ 9) :
    Calls Tryd.prog 27 #[.int .i64 x] w fun e w' => e = .returned (.string (dig1 x)) ∧ Below w.heap.size w w' := by
  have hI : x < 10 := by omega
  have hcv := run_convert_bytes_arg (P := Tryd.prog) (w.alloc (.cells #[.int .u8 (48 + x)] 5)) 55 5 Tryd.underlying55 Tryd.underlying5 w.heap.size 0 1 1 [48 + x] rfl (fun i hi => by
    obtain rfl : i = 0 := by omega
    exact Box.new w [.int .u8 (48 + x)] 5 0 _ rfl) 9 Tryd.underlying9
  have hdef : strOfNums [48 + x] = dig1 x := rfl
  rw [hdef] at hcv
  clear hdef
  go_in
  go_wp2
  go_ret
  exact ⟨rfl, by (repeat' (first | (with_reducible exact Below.refl _ _) | (with_reducible assumption) | (with_reducible refine below_drewN ?_ _) | (with_reducible refine Below.drew ?_) | (with_reducible refine below_alloc ?_ _) | (with_reducible refine Below.alloc ?_ ?_ _) | (with_reducible refine Below.setCell ?_ ?_ _) | (with_reducible refine below_go ?_ (by with_reducible assumption)) | (with_reducible refine below_then (by with_reducible assumption) ?_ ?_) | go_size))⟩
end Go.Proofs.YtoheahbkopbmhaaDoor
