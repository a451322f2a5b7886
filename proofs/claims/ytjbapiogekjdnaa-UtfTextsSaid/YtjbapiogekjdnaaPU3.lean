/- Printed by an own program: functions, and proofs that the program's calls come to them. -/
import Derived.Test.YtjbapiogekjdnaaPU0
import Derived.Test.YtjbapiogekjdnaaUtfG
namespace Go.Proofs.Ytjbapiogekjdnaa.PU
open Go.RowKit Go.Proofs.YtjbapiogekjdnaaW.PrintWords Go.Proofs.YtjbapiogekjdnaaW.PrintLast Go.Proofs.YtjbapiogekjdnaaW.PrintMore
attribute [local go_sem] max2_int min2_int max_two min_two max_three min_three max_four min_four   -- for this text's walks alone
set_option linter.unusedVariables false
set_option linter.unusedSimpArgs false

-- given
-- imports: Derived.Test.YtjbapiogekjdnaaUtfG

-- CALLS pleacher/utf.Encode
def utf_Decode.f (a0 : ByteArray) : Option (Int × Int × Int) := if a0.size ≤ maxLen then some (Hand.decF a0) else none
theorem utf_Decode.calls (a0 : ByteArray) (r1 r2 r3 : Int) (w : World) (h : utf_Decode.f a0 = some (r1, r2, r3)) : Calls Try.prog 13 #[.string a0] w fun e w' => e = .returned (.tuple #[.int .i64 r1, .int .i64 r2, .int .i64 r3]) ∧ Below w.heap.size w w' := by
  unfold utf_Decode.f at h
  by_cases hs : a0.size ≤ maxLen
  · rw [if_pos hs] at h
    have := Hand.dec_calls a0 w hs
    rw [Option.some.inj h] at this
    exact this.mono fun e w' ⟨h1, h2⟩ => ⟨h1, h2.out⟩
  · rw [if_neg hs] at h; cases h

end Go.Proofs.Ytjbapiogekjdnaa.PU
