/- Printed by an own program: functions, and proofs that the program's calls come to them. -/
import Derived.Test.YthknhhpcogakfaaDoorPT0
import Derived.Test.YthknhhpcogakfaaDoorTreeT
namespace Go.Proofs.YthknhhpcogakfaaDoor.PT
open Go.RowKit Go.Proofs.YthknhhpcogakfaaDoorW.PrintWords Go.Proofs.YthknhhpcogakfaaDoorW.PrintLast Go.Proofs.YthknhhpcogakfaaDoorW.PrintMore
attribute [local go_sem] max2_int min2_int max_two min_two max_three min_three max_four min_four   -- for this text's walks alone
set_option linter.unusedVariables false
set_option linter.unusedSimpArgs false

-- given
-- imports: Derived.Test.YthknhhpcogakfaaDoorTreeT

def tree_Kids.f (l0 : List S30) (a1 : Int) : Option (List Int) := if l0.all (fun x => (Lit.int .u64 x.f0).wf) = true then some (Hand.kidsF l0 a1) else none
theorem tree_Kids.calls (A0 : Option Addr) (c0 : Nat) (l0 : List S30) (a1 : Int) (r : List Int) (w : World) (hr0 : Kd.C k30 w A0 l0.length l0) (hc0 : l0.length ≤ c0) (h : tree_Kids.f l0 a1 = some r) : Calls Tryd.prog 16 #[.slice A0 l0.length c0, .int .i64 a1] w fun e w' => ∃ v0_ : Value, e = .returned (v0_) ∧ Kd.R (Kd.int .i64) 3 w' w.heap.size (fun _ => True) v0_ r ∧ Below w.heap.size w w' := by
  unfold tree_Kids.f at h
  split at h
  · rename_i hid
    obtain rfl := Option.some.inj h
    refine (Hand.kids_calls A0 c0 l0 a1 w hr0 hc0 (fun x hx => List.all_eq_true.1 hid x hx)).mono fun e w' ⟨v, h1, h2, h3⟩ => ⟨v, h1, ?_, h3.out⟩
    exact Kd.R_of_own (enc := Value.int .i64) (h1 := fun _ => rfl) h2 (fun _ _ => trivial)
  · cases h

end Go.Proofs.YthknhhpcogakfaaDoor.PT
