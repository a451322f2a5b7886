/- rank: Less, Right, letters, whether two texts are keys or empty. -/
import Derived.Test.YtemiocaiimdblaaDoorRankA
set_option linter.unusedVariables false
set_option linter.unusedSimpArgs false
namespace Go.Proofs.YtemiocaiimdblaaDoor.Hand
open Go Go.RowKit Go.Proofs.YtemiocaiimdblaaDoor.K
set_option maxRecDepth 100000
set_option maxHeartbeats 1000000
theorem cmpString_calls (a b : ByteArray) (w : World) :
    Calls Tryd.prog 32 #[.string a, .string b] w fun e w' => e = .returned (.int .i64 (Lib.compareBytes a.data.toList b.data.toList)) ∧ w = w' := by
  go_enter Tryd.func32, Tryd.ntmps32
  go_wp2
  rw [run_callFunc_extern Tryd.func39 (by kernel_rfl) (by kernel_rfl) (by kernel_rfl) (e := Extern.BytealgCompare.compare) (by kernel_rfl), Lib.run_compareString]
  simp only [Result.andThen]
  rw [Oper.upon_value]
  go_wp2
  go_ret
  exact ⟨rfl, rfl⟩
theorem compare_calls (a b : ByteArray) (w : World) :
    Calls Tryd.prog 25 #[.string a, .string b] w fun e w' => e = .returned (.int .i64 (Lib.compareBytes a.data.toList b.data.toList)) ∧ w = w' := by
  go_enter Tryd.func25, Tryd.ntmps25
  go_wp2_with (go_at_call 32; refine (cmpString_calls _ _ _).mono ?_; rintro e w' ⟨rfl, rfl⟩)
  go_ret
  exact ⟨rfl, rfl⟩
/-- Is one ahead, by bytes? -/
def lessB (a b : ByteArray) : Bool := decide (Lib.compareBytes a.data.toList b.data.toList < 0)
theorem less_calls (a b : ByteArray) (w : World) :
    Calls Tryd.prog 15 #[.string a, .string b] w fun e w' => e = .returned (.bool (lessB a b)) ∧ w = w' := by
  go_enter Tryd.func15, Tryd.ntmps15
  go_wp2_with (go_at_call 25; refine (compare_calls _ _ _).mono ?_; rintro e w' ⟨rfl, rfl⟩)
  go_ret
  exact ⟨rfl, rfl⟩
def sufB (a b : ByteArray) : Bool := decide (b.size ≤ a.size) && ((a.extract (a.size - b.size) a.size).toList == b.toList)
theorem hasSuffix_calls (a b : ByteArray) (w : World) (ha : a.size ≤ 1000000) :
    Calls Tryd.prog 24 #[.string a, .string b] w fun e w' => e = .returned (.bool (sufB a b)) ∧ w = w' := by
  have h31 : Calls Tryd.prog 31 #[.string a, .string b] w fun e w' => e = .returned (.bool (sufB a b)) ∧ w = w' := by
    by_cases h : b.size ≤ a.size
    · have h1 : decide ((b.size : Int) ≤ (a.size : Int)) = true := by simpa using h
      have h2 : decide (b.size ≤ a.size) = true := by simpa using h
      go_enter Tryd.func31, Tryd.ntmps31
      go_wp2
      go_ret
      refine ⟨?_, rfl⟩
      have e1 : ((a.size : Int) - (b.size : Int)).toNat = a.size - b.size := by omega
      simp [sufB, h2, e1]
    · have h1 : decide ((b.size : Int) ≤ (a.size : Int)) = false := by simpa using h
      have h2 : decide (b.size ≤ a.size) = false := by simpa using h
      go_enter Tryd.func31, Tryd.ntmps31
      go_wp2
      go_ret
      refine ⟨?_, rfl⟩
      simp [sufB, h2]
  go_enter Tryd.func24, Tryd.ntmps24
  go_wp2_with (go_at_call 31; refine h31.mono ?_; rintro e w' ⟨rfl, rfl⟩)
  go_ret
  exact ⟨rfl, rfl⟩
/-- Is it a key? -/
def rightB (s : ByteArray) : Bool := decide (s.size ≠ 0) && decide (s.size ≤ 200) && lettersB s && !(sufB s ⟨#[97]⟩)
theorem nil_iff (s : ByteArray) : (s.toList.isEmpty = true) ↔ s.size = 0 := by
  rw [ByteArray.toList_eq, List.isEmpty_iff, ← List.length_eq_zero_iff]
  show s.data.toList.length = 0 ↔ _
  rw [Array.length_toList]; rfl
theorem right_calls (s : ByteArray) (w : World) :
    Calls Tryd.prog 13 #[.string s] w fun e w' => e = .returned (.bool (rightB s)) ∧ Ext w w' := by
  by_cases h0 : s.size = 0
  · have h1 : s.toList.isEmpty = true := (nil_iff s).2 h0
    have h2 : rightB s = false := by simp [rightB, h0]
    clear h0
    rw [h2]
    clear h2
    go_enter Tryd.func13, Tryd.ntmps13
    go_wp2
    go_ret
    exact ⟨rfl, Ext.refl _⟩
  · have h1 : s.toList.isEmpty = false := by
      cases e : s.toList.isEmpty with
      | false => rfl
      | true => exact absurd ((nil_iff s).1 e) h0
    by_cases h3 : s.size ≤ 200
    · have h4 : decide ((s.size : Int) ≤ 200) = true := by simp; omega
      have e0 : rightB s = (lettersB s && !(sufB s ⟨#[97]⟩)) := by simp [rightB, h0, h3]
      rw [e0]
      clear e0
      cases hl : lettersB s with
      | false =>
        have Hl := Lib.hid hl
        clear hl
        go_enter Tryd.func13, Tryd.ntmps13
        go_wp2_with (go_at_call 23; refine (areLetters_calls _ _).mono ?_; rintro e w' ⟨rfl, hq⟩; rw [Hl.out])
        go_ret
        exact ⟨rfl, hq⟩
      | true =>
        have Hl := Lib.hid hl
        clear hl
        go_enter Tryd.func13, Tryd.ntmps13
        go_wp2_with (first | (go_at_call 23; refine (areLetters_calls _ _).mono ?_; rintro e w' ⟨rfl, hq⟩; rw [Hl.out]) | (go_at_call 24; refine (hasSuffix_calls _ _ _ (by omega)).mono ?_; rintro e w' ⟨rfl, rfl⟩))
        go_ret
        exact ⟨rfl, hq⟩
    · have h4 : decide ((s.size : Int) ≤ 200) = false := by simp; omega
      have e0 : rightB s = false := by simp [rightB, h3]
      rw [e0]
      clear e0
      go_enter Tryd.func13, Tryd.ntmps13
      go_wp2
      go_ret
      exact ⟨rfl, Ext.refl _⟩
end Go.Proofs.YtemiocaiimdblaaDoor.Hand
