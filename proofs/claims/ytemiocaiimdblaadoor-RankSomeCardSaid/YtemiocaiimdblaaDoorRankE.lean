/- rank: told, digits, the counter's Add and Load. -/
import Derived.Test.YtemiocaiimdblaaDoorRankC
import Derived.Test.YtemiocaiimdblaaDoorIs
import Derived.Laws.LoneSync

set_option linter.unusedVariables false
set_option linter.unusedSimpArgs false
namespace Go.Proofs.YtemiocaiimdblaaDoor.Hand
open Go Go.RowKit Go.Proofs.YtemiocaiimdblaaDoor.K
set_option maxRecDepth 100000
set_option maxHeartbeats 400000
/-- The sentinel's variable holds a pointer. -/
def Gv (a : Addr) (w : World) : Prop := w.cell? ⟨0, 0, none⟩ = some (.iface 79 (.pointer (some a)))
theorem Gv.size {a : Addr} {w : World} (h : Gv a w) : 0 < w.heap.size := by
  rcases Nat.lt_or_ge 0 w.heap.size with h' | h'
  · exact h'
  · unfold Gv at h; simp [World.cell?, Array.getElem?_eq_none h'] at h
theorem Gv.below {a : Addr} {n₀ : Nat} {w w' : World} (h : Gv a w) (hb : Below n₀ w w') (hn : 0 < n₀) : Gv a w' := (hb.cell (p := ⟨0, 0, none⟩) hn).trans h
theorem told_nil (a : Addr) (w : World) (hg : Gv a w) : Calls Tryd.prog 21 #[.nilIface] w fun e w' => e = .returned (.int .i64 0) ∧ w = w' := by
  unfold Gv at hg
  go_enter Tryd.func21, Tryd.ntmps21
  go_wp2_with (go_at_call 30; (with_reducible refine (is_nil a w).mono ?_); rintro e w' ⟨rfl, rfl⟩)
  go_ret
  exact ⟨rfl, rfl⟩
theorem told_same (a : Addr) (w : World) (hg : Gv a w) : Calls Tryd.prog 21 #[.iface 79 (.pointer (some a))] w fun e w' => e = .returned (.int .i64 120) ∧ w = w' := by
  unfold Gv at hg
  go_enter Tryd.func21, Tryd.ntmps21
  go_wp2_with (go_at_call 30; (with_reducible refine (is_same a w).mono ?_); rintro e w' ⟨rfl, rfl⟩)
  go_ret
  exact ⟨rfl, rfl⟩
theorem digits_calls (p : Option Addr) (w : World) : Calls Tryd.prog 28 #[.pointer p] w fun e w' => e = .returned (.func (.func 34) #[] #[.pointer (some ⟨w.heap.size, 0, none⟩)]) ∧ w' = w.alloc (.cells #[.pointer p] 35) := by
  go_enter Tryd.func28, Tryd.ntmps28
  go_wp2
  go_ret
  exact ⟨rfl, rfl⟩
theorem load_calls (b : Nat) (x : Int) (w : World) (hc : w.cell? ⟨b, 2, none⟩ = some (.int .i64 x)) : Calls Tryd.prog 26 #[.pointer (some ⟨b, 2, none⟩)] w fun e w' => e = .returned (.int .i64 x) ∧ w = w' := by
  go_enter Tryd.func26, Tryd.ntmps26
  go_wp2
  rw [run_call_load Tryd.func33 (by kernel_rfl) (by kernel_rfl) (by kernel_rfl) .i64 (by kernel_rfl) hc]
  rw [Oper.upon_value]
  go_wp2
  go_ret
  exact ⟨rfl, rfl⟩
theorem add_calls (b : Nat) (x : Int) (w : World) (hc : w.cell? ⟨b, 2, none⟩ = some (.int .i64 x)) (hz : w.frozen? ⟨b, 2, none⟩ = false) (h0 : 0 ≤ x) (h1 : x ≤ 1000000) :
    Calls Tryd.prog 29 #[.pointer (some ⟨b, 2, none⟩), .int .i64 1] w fun e w' => e = .returned (.int .i64 (x + 1)) ∧ w' = w.setCell ⟨b, 2, none⟩ (.int .i64 (x + 1)) := by
  go_enter Tryd.func29, Tryd.ntmps29
  go_wp2
  rw [run_call_add Tryd.func36 (by kernel_rfl) (by kernel_rfl) (by kernel_rfl) .i64 (by kernel_rfl) hc hz (s := x + 1) (by simp [Op.intArith, IntKind.wrap, IntKind.bits]; omega)]
  rw [Oper.upon_value]
  go_wp2
  go_ret
  exact ⟨rfl, rfl⟩
end Go.Proofs.YtemiocaiimdblaaDoor.Hand
