/- Printed by an own program: functions, and proofs that the program's calls come to them. -/
import Derived.Test.YthknhhpcogakfaaDoorPT0
import Derived.Test.YthknhhpcogakfaaDoorTreeN
namespace Go.Proofs.YthknhhpcogakfaaDoor.PT
open Go.RowKit Go.Proofs.YthknhhpcogakfaaDoorW.PrintWords Go.Proofs.YthknhhpcogakfaaDoorW.PrintLast Go.Proofs.YthknhhpcogakfaaDoorW.PrintMore
attribute [local go_sem] max2_int min2_int max_two min_two max_three min_three max_four min_four   -- for this text's walks alone
set_option linter.unusedVariables false
set_option linter.unusedSimpArgs false

-- given
-- imports: Derived.Test.YthknhhpcogakfaaDoorTreeN

-- KEEPS Hand.Gs
def tree_Right.f (l0 : List S30) : Option Bool := if l0.all (fun x => (Lit.int .u64 x.f0).wf) = true then some (Hand.rightF l0) else none
theorem tree_Right.calls (A0 : Option Addr) (c0 : Nat) (l0 : List S30) (r : Bool) (w : World) (hr0 : Kd.C k30 w A0 l0.length l0) (hc0 : l0.length ≤ c0) (h : tree_Right.f l0 = some r) : Calls Tryd.prog 13 #[.slice A0 l0.length c0] w fun e w' => e = .returned (.bool r) ∧ Below w.heap.size w w' := by
  unfold tree_Right.f at h
  split at h
  · rename_i hid
    obtain rfl := Option.some.inj h
    exact (Hand.right_calls A0 c0 l0 w hr0 hc0 (fun x hx => List.all_eq_true.1 hid x hx)).mono fun e w' ⟨h1, h2⟩ => ⟨h1, h2.out⟩
  · cases h

end Go.Proofs.YthknhhpcogakfaaDoor.PT
