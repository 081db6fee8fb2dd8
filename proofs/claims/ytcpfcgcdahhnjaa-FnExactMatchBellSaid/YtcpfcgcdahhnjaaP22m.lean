/- The best match of one bell, as a plain function. -/
import Derived.Test.YtcpfcgcdahhnjaaP22t
import Derived.Test.YtcpfcgcdahhnjaaP21i
namespace Go.Proofs.Ytcpfcgcdahhnjaa
set_option linter.unusedVariables false
set_option linter.unusedSimpArgs false
def mbA (x y z : Int) (rows : List ByteArray) (bell : Int) : List Int := ofBellR (idl x y z rows rows.length) bell
def mbOk (x y z : Int) (rows : List ByteArray) (l : List (Int × Int)) (bell : Int) : Bool := idlOk x y z rows && (goodStrikes l && (decide (0 < rows.length) && inB bell 1 (rows.getD 0 ByteArray.empty).size))
def mbAsk (x y z : Int) (rows : List ByteArray) (l : List (Int × Int)) (bell s : Int) : Bool := mbOk x y z rows l bell && askedM (mbA x y z rows bell) (ofBellR l bell) s
def mbOf (x y z : Int) (rows : List ByteArray) (l : List (Int × Int)) (bell s : Int) : List Int := if mbOk x y z rows l bell = true then bestOf (mbA x y z rows bell) (ofBellR l bell) s else []
def mbCost (x y z : Int) (rows : List ByteArray) (l : List (Int × Int)) (bell s : Int) : Int := if mbOk x y z rows l bell = true then bestCost (mbA x y z rows bell) (ofBellR l bell) s else 0
theorem mb_f {x y z : Int} {rows : List ByteArray} {l : List (Int × Int)} {bell s : Int} (h : mbOk x y z rows l bell = false) : mbOf x y z rows l bell s = [] ∧ mbCost x y z rows l bell s = 0 ∧ mbAsk x y z rows l bell s = false := by simp [mbOf, mbCost, mbAsk, h]
theorem mb_t {x y z : Int} {rows : List ByteArray} {l : List (Int × Int)} {bell s : Int} (h : mbOk x y z rows l bell = true) : mbOf x y z rows l bell s = bestOf (mbA x y z rows bell) (ofBellR l bell) s ∧ mbCost x y z rows l bell s = bestCost (mbA x y z rows bell) (ofBellR l bell) s ∧ mbAsk x y z rows l bell s = askedM (mbA x y z rows bell) (ofBellR l bell) s := by simp [mbOf, mbCost, mbAsk, h]
end Go.Proofs.Ytcpfcgcdahhnjaa
