/- Printed by an own program: functions, and proofs that the program's calls come to them. -/
import Derived.Test.YtjbapiogekjdnaaPU0
import Derived.Test.YtjbapiogekjdnaaUtfG
namespace Go.Proofs.Ytjbapiogekjdnaa.PU
open Go.RowKit Go.Proofs.YtjbapiogekjdnaaW.PrintWords Go.Proofs.YtjbapiogekjdnaaW.PrintLast Go.Proofs.YtjbapiogekjdnaaW.PrintMore
attribute [local go_sem] max2_int min2_int max_two min_two max_three min_three max_four min_four   -- for this text's walks alone
set_option linter.unusedVariables false
set_option linter.unusedSimpArgs false

-- given
-- imports: Derived.Test.YtjbapiogekjdnaaUtfG

-- CALLS pleacher/utf.Decode
def utf_all.f (a0 : ByteArray) : Option (List Int × Int) := if a0.size ≤ 1000000000000 then some ((Hand.allS a0).1, ((Hand.allS a0).2.size : Int)) else none
theorem utf_all.calls (a0 : ByteArray) (r1 : List Int) (r2 : Int) (w : World) (h : utf_all.f a0 = some (r1, r2)) : Calls Try.prog 40 #[.string a0] w fun e w' => ∃ v0_ : Value, e = .returned (.tuple #[v0_, .int .i64 r2]) ∧ Kd.R (Kd.int .i64) 3 w' w.heap.size (fun _ => True) v0_ r1 ∧ Below w.heap.size w w' := by
  unfold utf_all.f at h
  by_cases hs : a0.size ≤ 1000000000000
  · rw [if_pos hs] at h
    injection h with h
    injection h with h1 h2
    have := Hand.all_calls a0 w hs
    refine this.mono fun e w' ⟨v, he, ho, hx⟩ => ⟨v, by rw [← h2]; exact he, ?_, hx.out⟩
    rw [← h1]
    exact Kd.R_of_own (enc := Value.int .i64) (h1 := fun _ => rfl) ho (fun _ _ => trivial)
  · rw [if_neg hs] at h; cases h

end Go.Proofs.Ytjbapiogekjdnaa.PU
