/- Printed by an own program: functions, and proofs that the program's calls come to them. -/
import Derived.Test.YtjbapiogekjdnaaPU0
import Derived.Test.YtjbapiogekjdnaaUtfG
namespace Go.Proofs.Ytjbapiogekjdnaa.PU
open Go.RowKit Go.Proofs.YtjbapiogekjdnaaW.PrintWords Go.Proofs.YtjbapiogekjdnaaW.PrintLast Go.Proofs.YtjbapiogekjdnaaW.PrintMore
attribute [local go_sem] max2_int min2_int max_two min_two max_three min_three max_four min_four   -- for this text's walks alone
set_option linter.unusedVariables false
set_option linter.unusedSimpArgs false

-- given
-- imports: Derived.Test.YtjbapiogekjdnaaUtfG

-- CALLS pleacher/utf.Decode
def utf_IsText.f (a0 : ByteArray) : Option Bool := if a0.size ≤ 1000000000000 then some (Hand.areF Hand.charB a0) else none
theorem utf_IsText.calls (a0 : ByteArray) (r : Bool) (w : World) (h : utf_IsText.f a0 = some r) : Calls Try.prog 25 #[.string a0] w fun e w' => e = .returned (.bool r) ∧ Below w.heap.size w w' := by
  unfold utf_IsText.f at h
  by_cases hs : a0.size ≤ 1000000000000
  · rw [if_pos hs] at h
    obtain rfl := Option.some.inj h
    exact (Hand.isText_calls a0 w hs).mono fun e w' ⟨h1, h2⟩ => ⟨h1, h2.out⟩
  · rw [if_neg hs] at h; cases h

end Go.Proofs.Ytjbapiogekjdnaa.PU
