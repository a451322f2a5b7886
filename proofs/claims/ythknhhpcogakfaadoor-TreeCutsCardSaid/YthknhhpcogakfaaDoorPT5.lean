/- Printed by an own program: functions, and proofs that the program's calls come to them. -/
import Derived.Test.YthknhhpcogakfaaDoorPT0
import Derived.Test.YthknhhpcogakfaaDoorTreeN
namespace Go.Proofs.YthknhhpcogakfaaDoor.PT
open Go.RowKit Go.Proofs.YthknhhpcogakfaaDoorW.PrintWords Go.Proofs.YthknhhpcogakfaaDoorW.PrintLast Go.Proofs.YthknhhpcogakfaaDoorW.PrintMore
attribute [local go_sem] max2_int min2_int max_two min_two max_three min_three max_four min_four   -- for this text's walks alone
set_option linter.unusedVariables false
set_option linter.unusedSimpArgs false

-- given
-- imports: Derived.Test.YthknhhpcogakfaaDoorTreeN

-- SHARED 0
def tree_Cut.f (l0 : List S30) (a1 : Int) : Option (List S30 × Int) := if l0.all (fun x => (Lit.int .u64 x.f0).wf) = true then some (Hand.cutF l0 a1) else none
theorem tree_Cut.calls (A0 : Option Addr) (c0 : Nat) (l0 : List S30) (a1 : Int) (r1 : List S30) (r2 : Int) (w : World) (hr0 : Kd.C k30 w A0 l0.length l0) (hc0 : l0.length ≤ c0) (hG : Hand.Gs w) (h : tree_Cut.f l0 a1 = some (r1, r2)) : Calls Tryd.prog 18 #[.slice A0 l0.length c0, .int .i64 a1] w fun e w' => ∃ v0_ : Value, e = .returned (.tuple #[v0_, .int .i64 r2]) ∧ Kd.V k30 30 w' w.heap.size (fun k_ => (w.heap.size ≤ k_)) v0_ r1 ∧ Below w.heap.size w w' := by
  unfold tree_Cut.f at h
  split at h
  · rename_i hid
    have h := Option.some.inj h
    have hl := Hand.cutF_len2 l0 a1
    have hm := hr0.2.1
    rw [h] at hl
    have hb := Hand.cut_calls A0 c0 l0 a1 w hG hr0 hc0 (fun x hx => List.all_eq_true.1 hid x hx)
    rw [h] at hb
    refine hb.mono fun e w' ⟨h1, h2⟩ => ?_
    obtain ⟨v, e1, e2⟩ := h1.told (Nat.le_trans hl hm)
    exact ⟨v, e1, e2, h2.out⟩
  · cases h

end Go.Proofs.YthknhhpcogakfaaDoor.PT
