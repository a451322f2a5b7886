/- utf: the plain law: what runes' bytes are; the reference's Encode, Decode and classes come to the same. -/
import Derived.Test.YtjbapiogekjdnaaPU
import Derived.Test.YtjbapiogekjdnaaUtfG
set_option linter.unusedVariables false
set_option linter.unusedSimpArgs false
namespace Go.Proofs.Ytjbapiogekjdnaa.Hand
open Go Go.RowKit Go.Proofs.Ytjbapiogekjdnaa.PU Go.Proofs.YtjbapiogekjdnaaW.PrintWords Go.Proofs.YtjbapiogekjdnaaW.PrintLast Go.Proofs.YtjbapiogekjdnaaW.PrintMore
set_option maxRecDepth 100000
set_option maxHeartbeats 1000000
def encS (r : Int) : ByteArray × Int := if isRn r = true then (strOfNums (encL r), 0) else (⟨#[]⟩, 20)
theorem enc_ev (r : Int) (k : Nat) (hk : 10 ≤ k) : utf_Encode.f k r = some (encS r) := by
  unfold encS
  cases h : isRn r with
  | true => rw [if_pos rfl]; exact at_rounds (g := fun k => utf_Encode.f k r) (fun k => utf_Encode.mono r k) hk (encode_some r h)
  | false => rw [if_neg (by simp)]; exact encode_none k r h
theorem shown_ev (k : Nat) (hk : 10 ≤ k) : pleacherlaw02_shown.f k = some true := by
  have h1 : utf_Decode.f ⟨#[240, 159, 152, 128, 120]⟩ = some (128512, 4, 0) := by
    unfold utf_Decode.f
    rw [if_pos (by unfold maxLen; decide)]
    exact congrArg some (by kernel_rfl)
  have h2 : utf_Decode.f ⟨#[192, 128]⟩ = some (0, 0, 20) := by
    unfold utf_Decode.f
    rw [if_pos (by unfold maxLen; decide)]
    exact congrArg some (by kernel_rfl)
  have h3 : utf_IsName.f ⟨#[97, 45, 98]⟩ = some true := by
    unfold utf_IsName.f
    rw [if_pos (by decide)]
    exact congrArg some (by kernel_rfl)
  have h4 : encS 8364 = (strOfNums [226, 130, 172], 0) := by kernel_rfl
  have h5 : (strOfNums [226, 130, 172]).toList = ([226, 130, 172] : List UInt8) := by kernel_rfl
  unfold pleacherlaw02_shown.f
  rw [enc_ev 8364 k hk, h1, h2, h4]
  simp only [Option.bind_some]
  rw [if_pos h5, h3]
  simp
theorem rin (a b c : Int) : pleacherref02_in.f a b c = some (decide (b ≤ a) && decide (a ≤ c)) := by
  unfold pleacherref02_in.f
  by_cases h : a ≥ b
  · have h' : decide (b ≤ a) = true := by simpa using h
    rw [if_pos h, h']; rfl
  · have h' : decide (b ≤ a) = false := by simpa using h
    rw [if_neg h, h']; rfl
theorem rEnc (r : Int) : pleacherref02_Encode.f r = some (encS r) := by
  have h1 : pleacherref02_is.f r = some (isRn r) := by
    unfold pleacherref02_is.f
    rw [rin, rin]
    simp only [Option.bind_some]
    by_cases h : (decide (0 ≤ r) && decide (r ≤ 1114111)) = true
    · rw [if_pos h]
      simp at h
      refine congrArg some ?_
      rw [Bool.eq_iff_iff, isRn_iff]
      simp
      omega
    · rw [if_neg h]
      simp at h
      refine congrArg some ?_
      rw [Bool.eq_iff_iff, isRn_iff]
      simp
      omega
  unfold pleacherref02_Encode.f
  rw [h1]
  simp only [Option.bind_some]
  unfold encS
  cases h : isRn r with
  | false => rfl
  | true =>
    have hb := isRn_iff.1 h
    rw [if_pos rfl, if_pos rfl]
    have w (n : Int) (h0 : 0 ≤ n) (h1 : n < 2 ^ 62) : wrap64 n = n := wraps_64 n h0 h1
    have d64 : Int.tdiv r 64 = r / 64 := by rw [Int.tdiv_eq_ediv_of_nonneg (by omega)]
    have d4 : Int.tdiv r 4096 = r / 4096 := by rw [Int.tdiv_eq_ediv_of_nonneg (by omega)]
    have d2 : Int.tdiv r 262144 = r / 262144 := by rw [Int.tdiv_eq_ediv_of_nonneg (by omega)]
    have m0 : Int.tmod r 64 = r % 64 := by rw [Int.tmod_eq_emod_of_nonneg (by omega)]
    have m1 : Int.tmod (r / 64) 64 = r / 64 % 64 := by rw [Int.tmod_eq_emod_of_nonneg (by omega)]
    have m2 : Int.tmod (r / 4096) 64 = r / 4096 % 64 := by rw [Int.tmod_eq_emod_of_nonneg (by omega)]
    rw [d64, d4, d2, w (r / 64) (by omega) (by omega), w (r / 4096) (by omega) (by omega), w (r / 262144) (by omega) (by omega), m0, m1, m2, w (128 + r % 64) (by omega) (by omega), w (128 + r / 64 % 64) (by omega) (by omega), w (128 + r / 4096 % 64) (by omega) (by omega),
      w (192 + r / 64) (by omega) (by omega), w (224 + r / 4096) (by omega) (by omega), w (240 + r / 262144) (by omega) (by omega), show (128 + r % 64) % 256 = 128 + r % 64 from by omega, show (128 + r / 64 % 64) % 256 = 128 + r / 64 % 64 from by omega, show (128 + r / 4096 % 64) % 256 = 128 + r / 4096 % 64 from by omega]
    unfold encL
    by_cases c1 : r < 128
    · rw [if_pos c1, if_pos c1, if_pos (by decide), show r % 256 = r from by omega]; rfl
    · rw [if_neg c1, if_neg c1]
      by_cases c2 : r < 2048
      · rw [if_pos c2, if_pos c2, show (192 + r / 64) % 256 = 192 + r / 64 from by omega]
        simp
      · rw [if_neg c2, if_neg c2]
        by_cases c3 : r < 65536
        · rw [if_pos c3, if_pos c3, show (224 + r / 4096) % 256 = 224 + r / 4096 from by omega]
          simp
        · rw [if_neg c3, if_neg c3, show (240 + r / 262144) % 256 = 240 + r / 262144 from by omega]
          simp
theorem or_ite {p : Prop} [Decidable p] (c : Bool) : (if p then some true else some c) = some (decide p || c) := by
  by_cases h : p <;> simp [h]
theorem eq_in (a b : Int) : decide (a = b) = (decide (b ≤ a) && decide (a ≤ b)) := by
  rw [Bool.eq_iff_iff]; simp; omega
theorem beq_in (a b : Int) : (a == b) = (decide (b ≤ a) && decide (a ≤ b)) := by
  rw [Bool.eq_iff_iff]; simp; omega
theorem rFirst (r : Int) : pleacherref02_IsFirst.f r = some (firstL.any (inB r)) := by
  unfold pleacherref02_IsFirst.f
  simp only [rin, Option.bind_some, or_ite, decide_eq_true_eq, Bool.decide_eq_true]
  refine congrArg some ?_
  simp only [eq_in, firstL, inB, List.any_cons, List.any_nil, Bool.or_false, Bool.or_assoc]
theorem rChar (r : Int) : pleacherref02_IsChar.f r = some (charB r) := by
  unfold pleacherref02_IsChar.f
  simp only [rin, Option.bind_some, or_ite, Bool.decide_eq_true]
  refine congrArg some ?_
  simp only [charB, charL, inB, List.any_cons, List.any_nil, Bool.or_false]
  rw [Bool.eq_iff_iff]
  simp
  omega
theorem rOther (r : Int) : pleacherref02_IsOther.f r = some (otherB r) := by
  unfold pleacherref02_IsOther.f
  simp only [rFirst, rin, Option.bind_some, or_ite, Bool.decide_eq_true]
  refine congrArg some ?_
  unfold otherB
  congr 1
  simp only [moreL, inB, List.any_cons, List.any_nil, Bool.or_false]
  rw [Bool.eq_iff_iff]
  simp
  omega
end Go.Proofs.Ytjbapiogekjdnaa.Hand
