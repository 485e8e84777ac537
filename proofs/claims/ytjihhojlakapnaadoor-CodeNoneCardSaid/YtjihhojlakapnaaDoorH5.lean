/- 'awake'. -/
import Derived.Test.YtjihhojlakapnaaDoorH4
namespace Go.Proofs.YtjihhojlakapnaaDoor
open Go.RowKit
set_option linter.unusedVariables false
set_option linter.unusedSimpArgs false
attribute [local go_sem] cell_set set_set m_undef

theorem mRead {w : World} {base mb : Nat} {M : List UInt8} {O : Nat → Prop} (h : MemP w base mb M O) (hbase : base ≤ w.heap.size) (at_ : Int) (hat : isI at_) :
    Calls Tryd.prog 59 #[.pointer (some ⟨mb, 0, none⟩), .int .i64 at_] w fun e w' => MemQ w w' base mb M O (.tuple #[rdV M at_, .bool (rdOk M at_)]) e := by
  by_cases hc : at_ % 8 = 0 ∧ 1536 ≤ at_ ∧ at_ < hereL M
  · exact read_in h hbase at_ hat hc.1 hc.2.1 hc.2.2
  · have hok : rdOk M at_ = false := by
      unfold rdOk
      rw [decide_eq_false_iff_not]
      exact fun h2 => hc ⟨h2.1, h2.2.1, h2.2.2.1⟩
    have hV : rdV M at_ = hdV 0 0 [] false false 0 := by unfold rdV; rw [hok]; rfl
    rw [hok, hV]
    exact read_low h hbase at_ hat hc
end Go.Proofs.YtjihhojlakapnaaDoor
