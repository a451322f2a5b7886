/- rank: the reference's Less, Right, low. -/
import Derived.Test.YtemiocaiimdblaaDoorRankL
set_option linter.unusedVariables false
set_option linter.unusedSimpArgs false
namespace Go.Proofs.YtemiocaiimdblaaDoor.Hand
open Go Go.RowKit Go.Shelf Go.Proofs.YtemiocaiimdblaaDoor.K
set_option maxRecDepth 100000
set_option maxHeartbeats 400000
theorem bytesLess_cmp : ∀ l r : List UInt8, Op.bytesLess l r = decide (Lib.compareBytes l r < 0)
  | [], [] => rfl
  | [], y :: ys => rfl
  | x :: xs, [] => rfl
  | x :: xs, y :: ys => by
    rw [Op.bytesLess, Lib.compareBytes, bytesLess_cmp xs ys]
    by_cases h1 : x < y
    · simp [h1]
    · by_cases h2 : y < x
      · have : ¬ x = y := fun e => h1 (by rw [e] at h2 ⊢; exact h2)
        simp [h1, h2, this]
      · obtain rfl := u8_eq h1 h2
        simp [h1]
theorem strLess (a b : ByteArray) : Op.bytesLess a.toList b.toList = lessB a b := by
  rw [bytesLess_cmp, ByteArray.toList_eq, ByteArray.toList_eq]; rfl
theorem refLess_calls (a b : ByteArray) (w : World) : Calls Tryd.prog 16 #[.string a, .string b] w fun e w' => e = .returned (.bool (lessB a b)) ∧ w = w' := by
  have h := strLess a b
  go_enter Tryd.func16, Tryd.ntmps16
  go_wp2
  go_ret
  refine ⟨?_, rfl⟩
  first | rfl | (rw [← h]) | simp [h]
theorem low_calls (s : ByteArray) (i : Nat) (w : World) (hs : s.size ≤ 1000000) (hl : Isl s) :
    Calls Tryd.prog 22 #[.string s, .int .i64 (i : Int)] w fun e w' => e = .returned (.int .i64 (lett s i)) ∧ w = w' := by
  by_cases h : i < s.size
  · have e1 : lett s i = ((s[i]'h).toNat : Int) - 97 := by simp [lett, h]
    have hr := hl i
    rw [e1] at hr ⊢
    clear e1
    have hb := (s[i]'h).toNat_lt
    have hb2 : (s[i]'h).toNat < 256 := by simpa using hb
    go_enter Tryd.func22, Tryd.ntmps22
    go_wp2
    go_ret
    refine ⟨?_, rfl⟩
    simp [IntKind.wrap, IntKind.bits, wrap64] <;> omega
  · have e1 : lett s i = 0 := by simp [lett, h]
    rw [e1]
    clear e1
    go_enter Tryd.func22, Tryd.ntmps22
    go_wp2
    go_ret
    exact ⟨rfl, rfl⟩
/-- The loop of Right: a letter that is none ends it. -/
theorem refRight_calls (s : ByteArray) (w : World) (hs : s.size ≤ 1000000) : Calls Tryd.prog 14 #[.string s] w fun e w' => e = .returned (.bool (rightB s)) ∧ w = w' := by
  obtain ⟨R, hR⟩ : ∃ R, rightB s = R := ⟨_, rfl⟩
  rw [hR]
  have HR := Lib.hid hR
  clear hR
  go_enter Tryd.func14, Tryd.ntmps14
  go_wp2
  go_loopw [3] (fun i w' => w' = w ∧ ∃ (k : Nat), k ≤ s.size ∧ i = .int .i64 (k : Int) ∧ ∀ i (h : i < s.size), i < k → 97 ≤ (s[i]'h).toNat ∧ (s[i]'h).toNat ≤ 122)
    (fun i _ => s.size - (intOf i).toNat)
  case atStart => exact ⟨rfl, 0, by omega, rfl, fun i h hi => by omega⟩
  case round =>
    obtain ⟨rfl, k, hk, rfl, hl⟩ := hrel
    have HL := Lib.hid hl
    clear hl
    by_cases hp : k < s.size
    · have hno : (¬ (97 ≤ (s[k]'hp).toNat ∧ (s[k]'hp).toNat ≤ 122)) → R = false := fun hx => by
        cases e : R with
        | false => rfl
        | true =>
          have := HR.out
          rw [e] at this
          have h2 := (right_iff.1 this).2.2.1
          exact absurd ((letters_take.1 (letters_iff.2 h2)) k hp) hx
      have HN := Lib.hid hno
      clear hno
      by_cases hlt : (s[k]'hp).toNat < 97
      · have h1 : decide (((s[k]'hp).toNat : Int) < 97) = true := by simp; omega
        go_wp2
        go_ret
        exact ⟨by rw [HN.out (by omega)]; rfl, rfl⟩
      · have h1 : decide (((s[k]'hp).toNat : Int) < 97) = false := by simp; omega
        by_cases hgt : 122 < (s[k]'hp).toNat
        · have h2 : decide ((122 : Int) < ((s[k]'hp).toNat : Int)) = true := by simp; omega
          go_wp2
          go_ret
          exact ⟨by rw [HN.out (by omega)]; rfl, rfl⟩
        · have h2 : decide ((122 : Int) < ((s[k]'hp).toNat : Int)) = false := by simp; omega
          go_wp2
          go_roundw
          case rel =>
            refine ⟨by trivial, k + 1, by omega, by go_num, fun i h hi => ?_⟩
            rcases Nat.lt_or_ge i k with h3 | h3
            · exact HL.out i h h3
            · obtain rfl : i = k := by omega
              omega
          case measure => simp [intOf]; omega
    · have hle : Let s := letters_iff.1 (letters_take.2 (fun i h => HL.out i h (by omega)))
      have hRR : R = (decide (0 < s.size) && (decide (s.size ≤ 200) && decide (lett s (s.size - 1) ≠ 0))) := by
        have h0 := HR.out
        rw [← h0, Bool.eq_iff_iff, right_iff]
        simp only [Bool.and_eq_true, decide_eq_true_eq]
        exact ⟨fun ⟨h1, h2, _, h4⟩ => ⟨h1, h2, h4⟩, fun ⟨h1, h2, h4⟩ => ⟨h1, h2, hle, h4⟩⟩
      have HRR := Lib.hid hRR
      have HLe := Lib.hid hle
      clear hRR hle
      by_cases h0 : s.size = 0
      · have g1 : decide ((1 : Int) ≤ (s.size : Int)) = false := by simp; omega
        go_wp2
        go_ret
        exact ⟨by rw [HRR.out]; simp [h0], rfl⟩
      · have g1 : decide ((1 : Int) ≤ (s.size : Int)) = true := by simp; omega
        by_cases h2 : s.size ≤ 200
        · have g2 : decide ((s.size : Int) ≤ 200) = true := by simp; omega
          go_wp2
          go_ret
          refine ⟨?_, rfl⟩
          rw [HRR.out]
          obtain ⟨c, e1, e2⟩ := lett_some (s := s) (i := s.size - 1) (by omega)
          have e3 : (s[s.size - 1]'(by omega)) = c := by
            obtain ⟨hlt, e4⟩ := List.getElem?_eq_some_iff.1 e1
            rw [← e4]; rfl
          rw [e2]
          simp [e3, h2]
          have h3 : decide (0 < s.size) = true := by simp; omega
          rw [h3, Bool.true_and, Bool.eq_iff_iff]
          simp
          omega
        · have g2 : decide ((s.size : Int) ≤ 200) = false := by simp; omega
          go_wp2
          go_ret
          exact ⟨by rw [HRR.out]; simp [h2], rfl⟩
end Go.Proofs.YtemiocaiimdblaaDoor.Hand
