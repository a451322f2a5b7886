/- Printed by an own program: functions, and proofs that the program's calls come to them. -/
import Derived.Test.YthknhhpcogakfaaDoorPT0
import Derived.Test.YthknhhpcogakfaaDoorTreeN
namespace Go.Proofs.YthknhhpcogakfaaDoor.PT
open Go.RowKit Go.Proofs.YthknhhpcogakfaaDoorW.PrintWords Go.Proofs.YthknhhpcogakfaaDoorW.PrintLast Go.Proofs.YthknhhpcogakfaaDoorW.PrintMore
attribute [local go_sem] max2_int min2_int max_two min_two max_three min_three max_four min_four   -- for this text's walks alone
set_option linter.unusedVariables false
set_option linter.unusedSimpArgs false

-- given
-- imports: Derived.Test.YthknhhpcogakfaaDoorTreeN

def tree_Find.f (l0 : List S30) (a1 : Int) : Option Int := some (Hand.findF l0 a1)
theorem tree_Find.calls (A0 : Option Addr) (c0 : Nat) (l0 : List S30) (a1 : Int) (r : Int) (w : World) (hr0 : Kd.C k30 w A0 l0.length l0) (hc0 : l0.length ≤ c0) (h : tree_Find.f l0 a1 = some r) : Calls Tryd.prog 19 #[.slice A0 l0.length c0, .int .u64 a1] w fun e w' => e = .returned (.int .i64 r) ∧ Below w.heap.size w w' := by
  obtain rfl := Option.some.inj h
  exact (Hand.find_calls a1 A0 c0 l0 w hr0 hc0).mono fun e w' ⟨h1, h2⟩ => ⟨h1, h2.out⟩

end Go.Proofs.YthknhhpcogakfaaDoor.PT
