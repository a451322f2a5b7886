/- utf, the plain law: greater runes' bytes are behind, byte by byte, and no fewer. -/
import Derived.Test.YtjbapiogekjdnaaUtfT
namespace Go.Proofs.Ytjbapiogekjdnaa.Pure
open Go Go.RowKit Go.Proofs.Ytjbapiogekjdnaa.PU Go.Proofs.Ytjbapiogekjdnaa.Hand Go.Proofs.YtjbapiogekjdnaaW.PrintWords Go.Proofs.YtjbapiogekjdnaaW.PrintLast Go.Proofs.YtjbapiogekjdnaaW.PrintMore
theorem UtfOrders : pleacherlaw02_UtfOrders.Pure := by
  intro r q _ _
  refine ⟨100, ?_⟩
  unfold pleacherlaw02_UtfOrders.f
  rw [shown_ev 100 (by decide), enc_ev _ 100 (by decide), enc_ev _ 100 (by decide)]
  simp only [Option.bind_some]
  unfold encS
  cases h1 : isRn (mn r q) with
  | false => simp
  | true =>
    cases h2 : isRn (mx r q) with
    | false => simp
    | true =>
      have l1 := encL_len _ h1
      have l2 := encL_len _ h2
      have z1 : (strOfNums (encL (mn r q))).size = (encL (mn r q)).length := strOfNums_size _
      have z2 : (strOfNums (encL (mx r q))).size = (encL (mx r q)).length := strOfNums_size _
      simp only [if_true]
      by_cases e : r = q
      · have e1 : mn r q = r := by unfold mn; rw [if_neg (by omega)]
        have e2 : mx r q = r := by unfold mx; rw [if_neg (by omega)]
        rw [e1] at h1 l1 z1
        rw [e2] at h2 l2 z2
        rw [e1, e2, bl_enc r r h1 h1, ltI_self]
        rw [if_pos (by omega), if_pos (by simp [e]), if_pos (by omega)]
        simp; omega
      · have hlt : mn r q < mx r q := by unfold mn mx; by_cases h : r < q <;> (repeat' split) <;> omega
        obtain ⟨o1, o2⟩ := enc_order _ _ h1 h2 hlt
        rw [bl_enc _ _ h1 h2, o2]
        rw [if_pos (by omega), if_pos (by simp [e]), if_pos (by omega)]
        simp; omega
end Go.Proofs.Ytjbapiogekjdnaa.Pure
