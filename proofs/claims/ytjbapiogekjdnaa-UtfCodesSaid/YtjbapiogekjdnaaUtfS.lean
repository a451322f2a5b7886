/- utf: the plain law: all of a text's runes, by the reference. -/
import Derived.Test.YtjbapiogekjdnaaUtfR
set_option linter.unusedVariables false
set_option linter.unusedSimpArgs false
namespace Go.Proofs.Ytjbapiogekjdnaa.Hand
open Go Go.RowKit Go.Proofs.Ytjbapiogekjdnaa.PU Go.Proofs.YtjbapiogekjdnaaW.PrintWords Go.Proofs.YtjbapiogekjdnaaW.PrintLast Go.Proofs.YtjbapiogekjdnaaW.PrintMore
set_option maxRecDepth 100000
set_option maxHeartbeats 1000000
def cutS (s : ByteArray) : ByteArray := s.extract 0 (min s.size 500)
theorem cutS_size (s : ByteArray) : (cutS s).size ≤ 500 := by unfold cutS; rw [ByteArray.size_extract]; omega
theorem cut_ev (s : ByteArray) : pleacherlaw02_cut.f s = some (cutS s) := by
  unfold pleacherlaw02_cut.f cutS mn
  by_cases h : (500 : Int) < (s.size : Int)
  · rw [if_pos h, if_pos (by decide), if_pos (by omega), show min s.size 500 = 500 from by omega]; rfl
  · rw [if_neg h, if_pos (by omega), if_pos (by omega), show min s.size 500 = s.size from by omega, Int.toNat_natCast]
theorem dec_ev (s : ByteArray) (h : s.size ≤ 100000) : utf_Decode.f s = some (decF s) := by
  unfold utf_Decode.f; rw [if_pos (by unfold maxLen; omega)]
theorem all_ev (s : ByteArray) (h : s.size ≤ 100000) : utf_all.f s = some ((allS s).1, ((allS s).2.size : Int)) := by
  unfold utf_all.f; rw [if_pos (by omega)]
theorem name_ev (s : ByteArray) (h : s.size ≤ 100000) : utf_IsName.f s = some (nameF s) := by
  unfold utf_IsName.f; rw [if_pos (by omega)]
theorem text_ev (s : ByteArray) (h : s.size ≤ 100000) : utf_IsText.f s = some (areF charB s) := by
  unfold utf_IsText.f; rw [if_pos (by omega)]
theorem decF_nil (s : ByteArray) (h : s.size = 0) : decF s = (0, 0, 10) := by unfold decF; rw [if_pos h]
theorem allS_sizes (s : ByteArray) : (allS s).2.size ≤ s.size := allF_size _ s
/-- What the reference's loop comes to, from place a on. -/
theorem rrun (s : ByteArray) (hs : s.size ≤ 100000) : ∀ (d k a : Nat) (acc : List Int), a ≤ s.size → s.size - a ≤ d → d + 30 ≤ k → acc.length ≤ a →
    pleacherref02_Runes.l0 k s acc a = some (acc ++ (allS (s.extract a s.size)).1, (s.size : Int) - ((allS (s.extract a s.size)).2.size : Int)) := by
  intro d
  induction d with
  | zero =>
    intro k a acc ha hd hk hl
    obtain ⟨k, rfl⟩ : ∃ j, k = j + 1 := ⟨k - 1, by omega⟩
    have hz : (s.extract a s.size).size = 0 := by rw [ByteArray.size_extract]; omega
    simp only [pleacherref02_Runes.l0]
    rw [if_neg (by omega), allS_no _ (by rw [decF_nil _ hz]; decide), List.append_nil]
    simp only [hz]
    congr 2
    omega
  | succ d ih =>
    intro k a acc ha hd hk hl
    obtain ⟨k, rfl⟩ : ∃ j, k = j + 1 := ⟨k - 1, by omega⟩
    have hz : (s.extract a s.size).size = s.size - a := by rw [ByteArray.size_extract]; omega
    simp only [pleacherref02_Runes.l0]
    by_cases h0 : (a : Int) < (s.size : Int)
    · rw [if_pos h0, if_pos (by omega), if_pos (by omega), Int.toNat_natCast, rDec _ (by omega) k (by omega)]
      simp only [Option.bind_some]
      by_cases ok : (decF (s.extract a s.size)).2.2 = 0
      · obtain ⟨n1, n2⟩ := decF_ok _ ok
        rw [if_pos ok, if_pos (by omega), allS_ok _ ok]
        obtain ⟨m, hm⟩ : ∃ m : Nat, (decF (s.extract a s.size)).2.1 = (m : Int) := ⟨(decF (s.extract a s.size)).2.1.toNat, by omega⟩
        rw [hm] at n1 n2 ⊢
        rw [show wrap64 ((a : Int) + (m : Int)) = ((a + m : Nat) : Int) from by rw [wraps_64 _ (by omega) (by omega)]; omega]
        rw [ih k (a + m) _ (by omega) (by omega) (by omega) (by simp; omega)]
        have hx : (s.extract a s.size).extract m (s.extract a s.size).size = s.extract (a + m) s.size := by
          rw [ByteArray.extract_extract, hz]
          congr 1
          omega
        rw [Int.toNat_natCast, hx]
        simp
      · rw [if_neg ok, allS_no _ ok, List.append_nil]
        simp only [hz]
        congr 2
        omega
    · have hz0 : (s.extract a s.size).size = 0 := by omega
      rw [if_neg h0, allS_no _ (by rw [decF_nil _ hz0]; decide), List.append_nil]
      simp only [hz0]
      congr 2
      omega
theorem rRunes (s : ByteArray) (hs : s.size ≤ 100000) (k : Nat) (hk : 100100 ≤ k) : pleacherref02_Runes.f k s = some ((allS s).1, (s.size : Int) - ((allS s).2.size : Int)) := by
  have := rrun s hs s.size k 0 [] (by omega) (by omega) (by omega) (by simp)
  rw [ByteArray.extract_zero_size] at this
  unfold pleacherref02_Runes.f
  simpa using this
end Go.Proofs.Ytjbapiogekjdnaa.Hand
