/- Printed by an own program: functions, and proofs that the program's calls come to them. -/
import Derived.Test.YtjbapiogekjdnaaPU0
import Derived.Test.YtjbapiogekjdnaaUtfB
namespace Go.Proofs.Ytjbapiogekjdnaa.PU
open Go.RowKit Go.Proofs.YtjbapiogekjdnaaW.PrintWords Go.Proofs.YtjbapiogekjdnaaW.PrintLast Go.Proofs.YtjbapiogekjdnaaW.PrintMore
attribute [local go_sem] max2_int min2_int max_two min_two max_three min_three max_four min_four   -- for this text's walks alone
set_option linter.unusedVariables false
set_option linter.unusedSimpArgs false

-- given
-- imports: Derived.Test.YtjbapiogekjdnaaUtfB

def utf_isRune.f (a0 : Int) : Option Bool := some (Hand.runeL.any (Hand.inB a0))
theorem utf_isRune.calls (a0 : Int) (r : Bool) (w : World) (h : utf_isRune.f a0 = some r) : Calls Try.prog 32 #[.int .i64 a0] w fun e w' => e = .returned (.bool r) ∧ Below w.heap.size w w' := by
  obtain rfl := Option.some.inj h
  exact (Hand.isRune_calls a0 w).mono fun e w' ⟨h1, h2⟩ => ⟨h1, h2.out⟩

end Go.Proofs.Ytjbapiogekjdnaa.PU
