/- tree: checked, Branch. -/
import Derived.Test.YthknhhpcogakfaaDoorTreeH
set_option linter.unusedVariables false
set_option linter.unusedSimpArgs false
namespace Go.Proofs.YthknhhpcogakfaaDoor.Hand
open Go Go.RowKit Go.Proofs.YthknhhpcogakfaaDoor.K Go.Proofs.YthknhhpcogakfaaDoor.PT Go.Proofs.YthknhhpcogakfaaDoorW.PrintWords Go.Proofs.YthknhhpcogakfaaDoorW.PrintLast Go.Proofs.YthknhhpcogakfaaDoorW.PrintMore
set_option maxRecDepth 100000
set_option maxHeartbeats 2000000
/-- What checked tells: a sentinel, or nil. -/
def checkV (a b : Addr) (l : List S30) (i : Int) : Value := if rightF l = true then (if placeB l i = true then .nilIface else .iface 92 (.pointer (some b))) else .iface 92 (.pointer (some a))
theorem checked_calls (a b : Addr) (A : Option Addr) (c : Nat) (l : List S30) (i : Int) (w : World) (hg : Gv a b w) (hr : Kd.C k30 w A l.length l) (hc : l.length ≤ c) (hid : IdsIn l) :
    Calls Tryd.prog 35 #[.agg #[.slice A l.length c], .int .i64 i] w fun e w' => e = .returned (checkV a b l i) ∧ Ext w w' := by
  have hw0 : Ext w (w.alloc (.cells #[.slice A l.length c] 54)) := (Ext.refl w).alloc _
  have hb0 : (w.alloc (.cells #[.slice A l.length c] 54)).cell? ⟨w.heap.size, 0, none⟩ = some (.slice A l.length c) := cell_at (h_newN _ _ _ rfl) rfl
  have hR := Lib.hid (right_calls A c l _ (Kd.C_below hr hw0.out) hc hid)
  unfold checkV
  cases h1 : rightF l with
  | false =>
    rw [h1] at hR
    go_enter Tryd.func35, Tryd.ntmps35
    go_wp2_with (go_at_call 13; (with_reducible refine hR.out.mono ?_); rintro e w' ⟨rfl, hq⟩; have g0 := (hg.ext (hw0.trans hq)).v0)
    go_ret
    exact ⟨rfl, hw0.trans hq⟩
  | true =>
    rw [h1] at hR
    cases h2 : placeB l i with
    | true =>
      go_enter Tryd.func35, Tryd.ntmps35
      go_wp2_with (first | (go_at_call 13; (with_reducible refine hR.out.mono ?_); rintro e w' ⟨rfl, hq⟩; have hbq := hq.cell hb0) | (go_at_call 34; (with_reducible refine (isPlace_calls A c l i _).mono ?_); rintro e w2 ⟨rfl, hq2⟩; rw [h2]))
      go_ret
      exact ⟨rfl, (hw0.trans hq).trans hq2⟩
    | false =>
      go_enter Tryd.func35, Tryd.ntmps35
      go_wp2_with (first | (go_at_call 13; (with_reducible refine hR.out.mono ?_); rintro e w' ⟨rfl, hq⟩; have hbq := hq.cell hb0) | (go_at_call 34; (with_reducible refine (isPlace_calls A c l i _).mono ?_); rintro e w2 ⟨rfl, hq2⟩; rw [h2]; have g1 := (hg.ext ((hw0.trans hq).trans hq2)).v1))
      go_ret
      exact ⟨rfl, (hw0.trans hq).trans hq2⟩
end Go.Proofs.YthknhhpcogakfaaDoor.Hand
