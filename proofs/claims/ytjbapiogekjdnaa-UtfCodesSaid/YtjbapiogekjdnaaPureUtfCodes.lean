/- utf, the plain law: Encode and Decode tell what the reference tells. -/
import Derived.Test.YtjbapiogekjdnaaUtfS
namespace Go.Proofs.Ytjbapiogekjdnaa.Pure
open Go Go.RowKit Go.Proofs.Ytjbapiogekjdnaa.PU Go.Proofs.Ytjbapiogekjdnaa.Hand Go.Proofs.YtjbapiogekjdnaaW.PrintWords Go.Proofs.YtjbapiogekjdnaaW.PrintLast
theorem UtfCodes : pleacherlaw02_UtfCodes.Pure := by
  intro r s _ _
  refine ⟨100, ?_⟩
  have hz := cutS_size s
  unfold pleacherlaw02_UtfCodes.f
  rw [shown_ev 100 (by decide), enc_ev r 100 (by decide), rEnc, cut_ev]
  simp only [Option.bind_some]
  rw [dec_ev (cutS s) (by omega), rDec (cutS s) (by omega) 100 (by decide)]
  simp
end Go.Proofs.Ytjbapiogekjdnaa.Pure
