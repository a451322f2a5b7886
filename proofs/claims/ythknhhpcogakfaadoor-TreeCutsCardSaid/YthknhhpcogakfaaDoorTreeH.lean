/- tree: places, a branch's end, what is checked, and told. -/
import Derived.Test.YthknhhpcogakfaaDoorTreeD
import Derived.Test.YthknhhpcogakfaaDoorTreeG
import Derived.Test.YthknhhpcogakfaaDoorIs
set_option linter.unusedVariables false
set_option linter.unusedSimpArgs false
namespace Go.Proofs.YthknhhpcogakfaaDoor.Hand
open Go Go.RowKit Go.Proofs.YthknhhpcogakfaaDoor.K Go.Proofs.YthknhhpcogakfaaDoor.PT Go.Proofs.YthknhhpcogakfaaDoorW.PrintWords Go.Proofs.YthknhhpcogakfaaDoorW.PrintLast Go.Proofs.YthknhhpcogakfaaDoorW.PrintMore
set_option maxRecDepth 100000
set_option maxHeartbeats 2000000
/-- The two sentinels' variables hold two pointers. -/
structure Gv (a b : Addr) (w : World) : Prop where
  v0 : w.cell? ⟨0, 0, none⟩ = some (.iface 92 (.pointer (some a)))
  v1 : w.cell? ⟨1, 0, none⟩ = some (.iface 92 (.pointer (some b)))
  ne : a ≠ b
  ha : ∃ c t, w.heap[a.block]? = some (.cells c t (0, 0))
  hb : ∃ c t, w.heap[b.block]? = some (.cells c t (0, 0))
theorem Gv.ext {a b : Addr} {w w' : World} (h : Gv a b w) (hx : Ext w w') : Gv a b w' :=
  ⟨hx.cell h.v0, hx.cell h.v1, h.ne, by obtain ⟨c, t, hh⟩ := h.ha; exact ⟨c, t, hx.heap hh⟩, by obtain ⟨c, t, hh⟩ := h.hb; exact ⟨c, t, hx.heap hh⟩⟩
def Gs (w : World) : Prop := ∃ a b, Gv a b w
theorem Gs.ext {w w' : World} (h : Gs w) (hx : Ext w w') : Gs w' := by obtain ⟨a, b, hg⟩ := h; exact ⟨a, b, hg.ext hx⟩
theorem told_tree {a b : Addr} {w : World} (hg : Gv a b w) : Calls Tryd.prog 36 #[.iface 92 (.pointer (some a))] w fun e w' => e = .returned (.int .i64 110) ∧ w = w' := by
  have h0 := hg.v0
  go_enter Tryd.func36, Tryd.ntmps36
  go_wp2_with (go_at_call 54; (with_reducible refine (is_same a w).mono ?_); rintro e w' ⟨rfl, rfl⟩)
  go_ret
  exact ⟨rfl, rfl⟩
theorem told_place {a b : Addr} {w : World} (hg : Gv a b w) : Calls Tryd.prog 36 #[.iface 92 (.pointer (some b))] w fun e w' => e = .returned (.int .i64 111) ∧ w = w' := by
  have h0 := hg.v0
  have h1 := hg.v1
  obtain ⟨ca, ta, ha⟩ := hg.ha
  obtain ⟨cb, tb, hb⟩ := hg.hb
  have hi := is_other b a cb ca tb ta w hg.ne.symm hb ha
  go_enter Tryd.func36, Tryd.ntmps36
  go_wp2_with (first | (go_at_call 54; (with_reducible refine hi.mono ?_); rintro e w' ⟨rfl, rfl⟩) | (go_at_call 54; (with_reducible refine (is_same b _).mono ?_); rintro e w' ⟨rfl, rfl⟩))
  go_ret
  exact ⟨rfl, rfl⟩
def placeB (l : List S30) (i : Int) : Bool := decide (0 ≤ i) && decide (i < (l.length : Int))
theorem isPlace_calls (A : Option Addr) (c : Nat) (l : List S30) (i : Int) (w : World) : Calls Tryd.prog 34 #[.agg #[.slice A l.length c], .int .i64 i] w fun e w' => e = .returned (.bool (placeB l i)) ∧ Ext w w' := by
  unfold placeB
  by_cases h : 0 ≤ i
  · rw [decide_eq_true h, Bool.true_and]
    go_enter Tryd.func34, Tryd.ntmps34
    go_wp2
    go_ret
    exact ⟨rfl, (Ext.refl _).alloc _⟩
  · rw [decide_eq_false h, Bool.false_and]
    go_enter Tryd.func34, Tryd.ntmps34
    go_wp2
    go_ret
    exact ⟨rfl, (Ext.refl _).alloc _⟩
/-- The place behind the branch. -/
def endL (dep : Int) : List S30 → Int → Int
  | [], i => i
  | x :: t, i => if dep < x.f1 then endL dep t (i + 1) else i
theorem endL_drop (dep : Int) (L : List S30) (k : Nat) (hk : k < L.length) (i : Int) : endL dep (L.drop k) i = if dep < (L.getD k z30).f1 then endL dep (L.drop (k + 1)) (i + 1) else i := by
  rw [List.drop_eq_getElem_cons hk, endL]
  simp [List.getD_eq_getElem?_getD, List.getElem?_eq_getElem hk]
theorem endL_bounds (dep : Int) : ∀ (L : List S30) (i : Int), i ≤ endL dep L i ∧ endL dep L i ≤ i + L.length
  | [], i => ⟨Int.le_refl _, by simp [endL]⟩
  | x :: t, i => by
    rw [endL]
    have := endL_bounds dep t (i + 1)
    split
    · simp only [List.length_cons]; omega
    · simp only [List.length_cons]; omega
def endF (l : List S30) (i : Nat) : Int := endL (l.getD i z30).f1 (l.drop (i + 1)) (i + 1)
theorem end_calls (A : Option Addr) (c : Nat) (l : List S30) (i : Nat) (w : World) (hr : Kd.C k30 w A l.length l) (hc : l.length ≤ c) (hi : i < l.length) :
    Calls Tryd.prog 38 #[.agg #[.slice A l.length c], .int .i64 (i : Int)] w fun e w' => e = .returned (.int .i64 (endF l i)) ∧ Ext w w' := by
  unfold endF
  obtain ⟨R, hR⟩ : ∃ R, endL (l.getD i z30).f1 (l.drop (i + 1)) (i + 1) = R := ⟨_, rfl⟩
  rw [hR]
  have HR := Lib.hid hR
  have hm := hr.2.1
  have HC := Lib.hid hr
  obtain ⟨ad, A3, c3, hb, a0, a1, a2, a3, _⟩ := at_node hr i hi
  subst hb
  obtain ⟨D, hD⟩ : ∃ D, (l.getD i z30).f1 = D := ⟨_, rfl⟩
  rw [hD] at a1 hR HR
  clear hR hr a0 a2 a3
  go_enter Tryd.func38, Tryd.ntmps38
  go_wp2
  have hw0 : Ext w (w.alloc (.cells #[.slice (some ad) l.length c] 51)) := (Ext.refl w).alloc _
  have hb0 : (w.alloc (.cells #[.slice (some ad) l.length c] 51)).cell? ⟨w.heap.size, 0, none⟩ = some (.slice (some ad) l.length c) := cell_at (h_newN _ _ _ rfl) rfl
  go_loopw [5] (fun e wr => ∃ (k : Nat), i + 1 ≤ k ∧ k ≤ l.length ∧ e = .int .i64 (k : Int) ∧ endL D (l.drop k) k = R ∧ Ext w wr ∧ wr.cell? ⟨w.heap.size, 0, none⟩ = some (.slice (some ad) l.length c)) (fun e _ => l.length - (intOf e).toNat)
  case atStart => exact ⟨i + 1, Nat.le_refl _, hi, by go_num, HR.out, hw0, hb0⟩
  case round =>
    clear hb0 hw0
    obtain ⟨k, hk0, hk, rfl, hA, hX, hbx⟩ := hrel
    have HA := Lib.hid hA
    clear hA
    have a1w := hX.cell a1
    by_cases hlt : k < l.length
    · obtain ⟨ad', A3', c3', hb, d0, d1, d2, d3, _⟩ := at_node HC.out k hlt
      obtain rfl : ad = ad' := by injection hb
      obtain ⟨X, hX0⟩ : ∃ X, (l.getD k z30).f1 = X := ⟨_, rfl⟩
      rw [hX0] at d1
      have HX := Lib.hid hX0
      clear hX0 d0 d2 d3 hb
      replace d1 := hX.cell d1
      by_cases hgt : D < X
      · go_wp2
        repeat (go_quiet (fail); try go_wp2)
        go_roundw
        case rel =>
          refine ⟨k + 1, by omega, by omega, by go_num, ?_, hX.drewN _, hbx⟩
          have h1 := HA.out
          rw [endL_drop D l k hlt, HX.out, if_pos hgt] at h1
          simpa using h1
        case measure => simp [intOf]; omega
      · go_wp2
        repeat (go_quiet (fail); try go_wp2)
        go_ret
        refine ⟨?_, hX.drewN _⟩
        have h1 := HA.out
        rw [endL_drop D l k hlt, HX.out, if_neg (by omega)] at h1
        rw [← h1]; rfl
    · go_wp2
      repeat (go_quiet (fail); try go_wp2)
      go_ret
      refine ⟨?_, hX.drewN _⟩
      have h1 := HA.out
      rw [List.drop_of_length_le (by omega)] at h1
      rw [← h1]; rfl
end Go.Proofs.YthknhhpcogakfaaDoor.Hand
