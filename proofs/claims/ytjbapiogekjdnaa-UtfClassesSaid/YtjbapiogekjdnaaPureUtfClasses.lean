/- utf, the plain law: the classes are the reference's. -/
import Derived.Test.YtjbapiogekjdnaaUtfS
namespace Go.Proofs.Ytjbapiogekjdnaa.Pure
open Go Go.RowKit Go.Proofs.Ytjbapiogekjdnaa.PU Go.Proofs.Ytjbapiogekjdnaa.Hand Go.Proofs.YtjbapiogekjdnaaW.PrintWords Go.Proofs.YtjbapiogekjdnaaW.PrintLast
theorem UtfClasses : pleacherlaw02_UtfClasses.Pure := by
  intro r _
  refine ⟨100, ?_⟩
  have hb : pleacherref02_IsBlank.f r = utf_IsBlank.f r := rfl
  have hs : ∃ b, utf_IsBlank.f r = some b := by
    unfold utf_IsBlank.f
    repeat' split
    all_goals exact ⟨_, rfl⟩
  obtain ⟨b, hs⟩ := hs
  unfold pleacherlaw02_UtfClasses.f
  rw [shown_ev 100 (by decide), rChar, rFirst, rOther, hb, hs]
  unfold utf_IsChar.f utf_IsFirst.f utf_IsOther.f
  simp [charB, otherB]
end Go.Proofs.Ytjbapiogekjdnaa.Pure
