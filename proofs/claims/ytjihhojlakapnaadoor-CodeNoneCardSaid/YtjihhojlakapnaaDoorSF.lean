/- Numbers as text: the shelf's 'FormatInt'. -/
import Derived.Test.YtjihhojlakapnaaDoorK
import Derived.Test.YtjihhojlakapnaaDoorSH
import Derived.Shelf.Strconv.Itoa4
import Derived.Lib.QuietBelow
namespace Go.Proofs
open Go.Shelf
namespace YtjihhojlakapnaaDoor
open Go.RowKit
theorem fmt_int (n : Int) (hn : isI n) (w : World) (htab : Lib.TabIs Tryd.prog w "internal/strconv.uint64pow10" .u64 Lib.pow10Tab) :
    Calls Tryd.prog 13 #[.int .i64 n, .int .i64 10] w fun e w' => e = .returned (.string ⟨(Lib.itoa n).toArray⟩) ∧ Below w.heap.size w w' :=
  (Any.strconv_FormatInt_10 lays173 n (by unfold isI at hn; omega) (by unfold isI at hn; omega) w htab).mono fun e w' ⟨he, k, os, hw⟩ => ⟨he, by subst hw; exact below_regrown w (w.drawn + k) os⟩
end YtjihhojlakapnaaDoor
end Go.Proofs
