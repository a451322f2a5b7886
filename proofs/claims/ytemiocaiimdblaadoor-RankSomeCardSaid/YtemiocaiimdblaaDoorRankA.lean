/- rank: the small functions, each by its contract. -/
import Derived.Test.YtemiocaiimdblaaDoorKReg
import Derived.Test.YtemiocaiimdblaaDoorIs
import Derived.WalkSpells
import Derived.WalkLawsBesides
import Derived.Lib.Bytealg
import Derived.Deep.QuietTactic
import Derived.BigQuiet
import Derived.KernelRfl
import Derived.Lib.Hide
set_option linter.unusedVariables false
set_option linter.unusedSimpArgs false
namespace Go.Proofs.YtemiocaiimdblaaDoor.Hand
open Go Go.RowKit Go.Proofs.YtemiocaiimdblaaDoor.K
set_option maxRecDepth 100000
set_option maxHeartbeats 1000000
/-- Are all bytes letters? -/
def lettersB (s : ByteArray) : Bool := s.data.toList.all fun c => decide (97 ≤ c.toNat ∧ c.toNat ≤ 122)
theorem letters_take {s : ByteArray} : lettersB s = true ↔ ∀ i (h : i < s.size), 97 ≤ (s[i]'h).toNat ∧ (s[i]'h).toNat ≤ 122 := by
  unfold lettersB
  rw [List.all_eq_true]
  constructor
  · intro h i hi
    have := h (s[i]'hi) (by
      have h2 : i < s.data.toList.length := by simpa using hi
      have : s.data.toList[i] = s[i]'hi := by simp; rfl
      rw [← this]; exact List.getElem_mem h2)
    simpa using this
  · intro h x hx
    obtain ⟨i, hi, rfl⟩ := List.getElem_of_mem hx
    have := h i (by simpa using hi)
    simp only [decide_eq_true_eq]
    have e : s.data.toList[i] = s[i]'(by simpa using hi) := by simp; rfl
    rw [e]; exact this
theorem width_pos (s : ByteArray) (pos : Nat) (h : pos < s.size) : 1 ≤ (Utf8.decode s pos).2 := by
  by_cases ha : (s[pos]'h).toNat < 128
  · rw [decode_ascii s pos h ha]
    exact Nat.le_refl _
  · exact (decode_high s pos h (by omega)).2
theorem areLetters_calls (s : ByteArray) (w : World) :
    Calls Tryd.prog 23 #[.string s] w fun e w' => e = .returned (.bool (lettersB s)) ∧ Ext w w' := by
  go_enter Tryd.func23, Tryd.ntmps23
  go_wp2
  go_loopw [2, 4] (fun n c w' => ∃ (pos : Nat), w' = w.iter s pos ∧ n = .bool false ∧ pos ≤ s.size ∧ ∀ i (h : i < s.size), i < pos → 97 ≤ (s[i]'h).toNat ∧ (s[i]'h).toNat ≤ 122) (fun _ _ w' => s.size - w'.iterPos w.heap.size)
  case atStart => exact ⟨0, rfl, rfl, Nat.zero_le _, fun i h hi => by omega⟩
  case round =>
    obtain ⟨pos, rfl, rfl, hps, hl⟩ := hrel
    have HL := Lib.hid hl
    clear hl
    by_cases hp : pos < s.size
    · by_cases ha : (s[pos]'hp).toNat < 128
      · have hnx : ∀ ty, (Instr.next (.pointer (some ⟨w.heap.size, 0, none⟩)) true ty).run Tryd.prog (w.iter s pos) = _ := fun ty => run_next_ascii w s pos ty hp ha
        by_cases hlt : (s[pos]'hp).toNat < 97
        · have h1 : decide (((s[pos]'hp).toNat : Int) < 97) = true := by simp; omega
          go_wp2
          go_ret
          refine ⟨?_, (Ext.refl _).alloc _⟩
          have : lettersB s = false := by
            cases e : lettersB s with
            | false => rfl
            | true => have := letters_take.1 e pos hp; omega
          rw [this]; rfl
        · have h1 : decide (((s[pos]'hp).toNat : Int) < 97) = false := by simp; omega
          by_cases hgt : 123 ≤ (s[pos]'hp).toNat
          · have h2 : decide ((123 : Int) ≤ ((s[pos]'hp).toNat : Int)) = true := by simp; omega
            go_wp2
            go_ret
            refine ⟨?_, (Ext.refl _).alloc _⟩
            have : lettersB s = false := by
              cases e : lettersB s with
              | false => rfl
              | true => have := letters_take.1 e pos hp; omega
            rw [this]; rfl
          · have h2 : decide ((123 : Int) ≤ ((s[pos]'hp).toNat : Int)) = false := by simp; omega
            go_wp2
            go_roundw
            case rel =>
              refine ⟨pos + 1, rfl, rfl, by omega, fun i h hi => ?_⟩
              rcases Nat.lt_or_ge i pos with h3 | h3
              · exact HL.out i h h3
              · obtain rfl : i = pos := by omega
                omega
            case measure => simp; omega
      · have hnx : ∀ ty, (Instr.next (.pointer (some ⟨w.heap.size, 0, none⟩)) true ty).run Tryd.prog (w.iter s pos) = _ := fun ty => run_next_any w s pos ty hp
        have hd := (decode_high s pos hp (by omega)).1
        have h1 : decide (((Utf8.decode s pos).1 : Int) < 97) = false := by simp; omega
        have h2 : decide ((123 : Int) ≤ ((Utf8.decode s pos).1 : Int)) = true := by simp; omega
        go_wp2
        go_ret
        refine ⟨?_, (Ext.refl _).alloc _⟩
        have : lettersB s = false := by
          cases e : lettersB s with
          | false => rfl
          | true => have := letters_take.1 e pos hp; omega
        rw [this]; rfl
    · have hnx : ∀ ty, (Instr.next (.pointer (some ⟨w.heap.size, 0, none⟩)) true ty).run Tryd.prog (w.iter s pos) = _ := fun ty => run_next_end w s pos ty hp
      go_wp2
      go_ret
      refine ⟨?_, (Ext.refl _).alloc _⟩
      rw [letters_take.2 (fun i h => HL.out i h (by omega))]; rfl
end Go.Proofs.YtemiocaiimdblaaDoor.Hand
