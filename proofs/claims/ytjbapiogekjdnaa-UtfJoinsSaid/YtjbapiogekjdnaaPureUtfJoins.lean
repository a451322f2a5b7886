/- utf, the plain law: texts put together. -/
import Derived.Test.YtjbapiogekjdnaaUtfT
namespace Go.Proofs.Ytjbapiogekjdnaa.Pure
open Go Go.RowKit Go.Proofs.Ytjbapiogekjdnaa.PU Go.Proofs.Ytjbapiogekjdnaa.Hand Go.Proofs.YtjbapiogekjdnaaW.PrintWords Go.Proofs.YtjbapiogekjdnaaW.PrintLast Go.Proofs.YtjbapiogekjdnaaW.PrintMore
theorem valid_ev (s : ByteArray) (h : s.size ≤ 100000) : utf_Valid.f s = some ((s.size : Int) - ((allS s).2.size : Int), decide ((allS s).2.size = 0)) := by
  unfold utf_Valid.f
  rw [all_ev s h]
  have := allS_sizes s
  simp only [Option.bind_some]
  rw [wraps_64 _ (by omega) (by omega)]
  congr 2
  rw [Bool.eq_iff_iff]; simp
theorem count_ev (s : ByteArray) (h : s.size ≤ 100000) : utf_Count.f s = some (if (allS s).2.size = 0 then (((allS s).1.length : Int), 0) else (0, 20)) := by
  unfold utf_Count.f
  rw [all_ev s h]
  simp only [Option.bind_some]
  by_cases h0 : (allS s).2.size = 0
  · rw [if_neg (by omega), if_pos h0]
  · rw [if_pos (by omega), if_neg h0]
theorem len_b (s : ByteArray) (h : s.size ≤ 100000) : (allS s).1.length ≤ 1000000000001 := allS_len s (by omega)
theorem UtfJoins : pleacherlaw02_UtfJoins.Pure := by
  intro a b _ _
  refine ⟨100, ?_⟩
  have za := cutS_size a
  have zb := cutS_size b
  unfold pleacherlaw02_UtfJoins.f
  rw [shown_ev 100 (by decide), cut_ev, cut_ev]
  obtain ⟨s, hs⟩ : ∃ s, cutS a = s := ⟨_, rfl⟩
  obtain ⟨t, ht⟩ : ∃ t, cutS b = t := ⟨_, rfl⟩
  rw [hs] at za ⊢
  rw [ht] at zb ⊢
  have zc : (s ++ t).size = s.size + t.size := ByteArray.size_append
  simp only [Option.bind_some]
  rw [count_ev s (by omega), count_ev t (by omega), count_ev (s ++ t) (by omega), valid_ev s (by omega), valid_ev t (by omega), valid_ev (s ++ t) (by omega)]
  simp only [Option.bind_some]
  obtain ⟨h1, h2⟩ := allS_app t s.size s (Nat.le_refl _)
  have b1 := allS_sizes s
  have b2 := allS_sizes t
  have b3 := allS_sizes (s ++ t)
  have n1 := len_b s (by omega)
  have n2 := len_b t (by omega)
  rw [if_pos (by omega)]
  by_cases h0 : (allS s).2.size = 0
  · rw [h1 h0]
    simp only [h0, zc]
    by_cases h3 : (allS t).2.size = 0
    · simp only [h3]
      rw [wraps_64 _ (by omega) (by omega), wraps_64 _ (by simp; omega) (by simp; omega)]
      simp
    · have h4 : decide ((allS t).2.size = 0) = false := by simpa using h3
      rw [wraps_64 _ (by omega) (by omega)]
      simp [h3]
      omega
  · have h4 : decide ((allS s).2.size = 0) = false := by simpa using h0
    rw [if_neg (by rw [h4]; decide), if_pos trivial, if_neg h0, if_pos rfl, if_pos (by omega)]
    rw [zc]
    refine congrArg some (decide_eq_true ?_)
    omega
end Go.Proofs.Ytjbapiogekjdnaa.Pure
