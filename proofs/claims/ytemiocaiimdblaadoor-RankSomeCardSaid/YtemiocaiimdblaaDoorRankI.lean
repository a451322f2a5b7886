/- rank: Between. -/
import Derived.Test.YtemiocaiimdblaaDoorRankH
set_option linter.unusedVariables false
set_option linter.unusedSimpArgs false
namespace Go.Proofs.YtemiocaiimdblaaDoor.Hand
open Go Go.RowKit Go.Shelf Go.Proofs.YtemiocaiimdblaaDoor.K
set_option maxRecDepth 100000
set_option maxHeartbeats 400000
/-- What Between tells: the key, and the number. -/
def betwF (a b : ByteArray) : ByteArray × Int := match nextK a b with | some k => (k, 0) | none => ({ data := #[] }, 120)
theorem changed_ext {w w' : World} {o : Obj} (hC : Changed w.heap.size (w.alloc o) w') : Ext w w' := by
  obtain ⟨h1, h2, h3, h4, h5⟩ := hC
  refine Ext.below ⟨h1, h2, h3, Nat.le_trans (by simp) h4, fun k hk => ?_⟩
  exact (h5 k (by simp; omega) (by omega)).trans (Below.heap_alloc _ _ _ hk)
theorem between_calls (a b : ByteArray) (g : Addr) (w : World) (hg : Gv g w) :
    Calls Tryd.prog 11 #[.string a, .string b] w fun e w' => e = .returned (.tuple #[.string (betwF a b).1, .int .i64 (betwF a b).2]) ∧ Ext w w' := by
  have hg1 : Gv g (w.alloc (.cells #[.string a, .string b, .int .i64 0] 44)) := hg.below ((Below.refl w.heap.size w).alloc (Nat.le_refl _) _) hg.size
  have hM : (w.alloc (.cells #[.string a, .string b, .int .i64 0] 44)).heap[w.heap.size]? = some (.cells #[.string a, .string b, .int .i64 0] 44 (0, 0)) := World.alloc_heap_new w _
  have hE : Ext w (w.alloc (.cells #[.string a, .string b, .int .i64 0] 44)) := (Ext.refl _).alloc _
  cases hk : nextK a b with
  | some k =>
    have e1 : betwF a b = (k, 0) := by unfold betwF; rw [hk]
    rw [e1]
    have Hk := Lib.hid hk
    clear hk e1
    go_enter Tryd.func11, Tryd.ntmps11
    go_wp2_with (first
      | (go_at_call 20; refine (next_calls _ a b 0 g _ hg1 hM (by omega) (by omega)).mono ?_; rw [Hk.out]; rintro e w' ⟨rfl, hC, _⟩)
      | (have hX := changed_ext hC; go_at_call 21; refine (told_nil g _ (hX.cell hg)).mono ?_; rintro e w2 ⟨rfl, rfl⟩))
    go_ret2
    exact ⟨rfl, changed_ext hC⟩
  | none =>
    have e1 : betwF a b = ({ data := #[] }, 120) := by unfold betwF; rw [hk]
    rw [e1]
    have Hk := Lib.hid hk
    clear hk e1
    go_enter Tryd.func11, Tryd.ntmps11
    go_wp2_with (first
      | (go_at_call 20; refine (next_calls _ a b 0 g _ hg1 hM (by omega) (by omega)).mono ?_; rw [Hk.out]; rintro e w' ⟨rfl, hC⟩)
      | (have hX := hE.trans hC; go_at_call 21; refine (told_same g _ (hX.cell hg)).mono ?_; rintro e w2 ⟨rfl, rfl⟩))
    go_ret2
    exact ⟨rfl, hE.trans hC⟩
end Go.Proofs.YtemiocaiimdblaaDoor.Hand
