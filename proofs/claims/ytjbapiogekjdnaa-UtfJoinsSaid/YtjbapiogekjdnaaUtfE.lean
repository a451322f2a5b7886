/- utf: the bytes of a rune, as numbers; the program's Encode comes to them. -/
import Derived.Test.YtjbapiogekjdnaaPU2
import Derived.Test.YtjbapiogekjdnaaUtfB
import Derived.Laws.BitsLemmas
set_option linter.unusedVariables false
set_option linter.unusedSimpArgs false
namespace Go.Proofs.Ytjbapiogekjdnaa.Hand
open Go Go.RowKit Go.Proofs.Ytjbapiogekjdnaa.PU Go.Proofs.YtjbapiogekjdnaaW.PrintWords Go.Proofs.YtjbapiogekjdnaaW.PrintLast Go.Proofs.YtjbapiogekjdnaaW.PrintMore
set_option maxRecDepth 100000
set_option maxHeartbeats 1000000
/-- A rune's bytes. -/
def encL (r : Int) : List Int :=
  if r < 128 then [r] else if r < 2048 then [192 + r / 64, 128 + r % 64] else if r < 65536 then [224 + r / 4096, 128 + r / 64 % 64, 128 + r % 64] else [240 + r / 262144, 128 + r / 4096 % 64, 128 + r / 64 % 64, 128 + r % 64]
def isRn (r : Int) : Bool := decide ((0 ≤ r ∧ r ≤ 55295) ∨ (57344 ≤ r ∧ r ≤ 1114111))
theorem isRn_iff {r : Int} : isRn r = true ↔ (0 ≤ r ∧ r ≤ 55295) ∨ (57344 ≤ r ∧ r ≤ 1114111) := decide_eq_true_iff
theorem runeL_eq (r : Int) : runeL.any (inB r) = isRn r := by
  unfold isRn runeL inB
  rw [Bool.eq_iff_iff]
  simp
theorem wraps_i64 (n : Int) (h₀ : 0 ≤ n) (h₁ : n < 2 ^ 62) : IntKind.i64.wrap n = n := by rw [IntKind.wrap_i64]; omega
theorem wraps_64 (n : Int) (h₀ : 0 ≤ n) (h₁ : n < 2 ^ 62) : wrap64 n = n := by unfold wrap64; omega
theorem i64_and63 (x : Int) (h₀ : 0 ≤ x) (h₁ : x < 2 ^ 62) : bits .and .i64 x 63 = x % 64 := bits_mask .i64 62 (by decide) wraps_i64 6 (by decide) x h₀ h₁
theorem i64_or (i : Nat) (x y : Int) (hi : i ≤ 62) (hx₀ : 0 ≤ x) (hx : x % 2 ^ i = 0) (hx₁ : x < 2 ^ 62) (h₀ : 0 ≤ y) (h₁ : y < 2 ^ i) (h2 : y < 2 ^ 62) : bits .or .i64 x y = x + y :=
  bits_join .i64 62 (by decide) wraps_i64 i x y hx₀ hx hx₁ h₀ h₁ h2
theorem shr_n (r : Int) (s d : Int) (hs : 0 ≤ s) (hd : 2 ^ min s.toNat 64 = d) : shr .i64 r s = r / d := by unfold shr; rw [← hd]; rfl
theorem encode_some (r : Int) (h : isRn r = true) : utf_Encode.f 10 r = some (strOfNums (encL r), 0) := by
  have hb := isRn_iff.1 h
  have h0 : 0 ≤ r := by omega
  have h1 : r ≤ 1114111 := by omega
  have s0 : shr .i64 r 0 = r := by rw [shr_n r 0 1 (by decide) (by decide)]; omega
  have s6 : shr .i64 r 6 = r / 64 := shr_n r 6 64 (by decide) (by decide)
  have s12 : shr .i64 r 12 = r / 4096 := shr_n r 12 4096 (by decide) (by decide)
  have s18 : shr .i64 r 18 = r / 262144 := shr_n r 18 262144 (by decide) (by decide)
  have w0 : wrap64 0 = 0 := by unfold wrap64; rfl
  have w6 : wrap64 6 = 6 := by unfold wrap64; rfl
  have w12 : wrap64 12 = 12 := by unfold wrap64; rfl
  have m0 : (128 + r % 64) % 256 = 128 + r % 64 := by omega
  have m6 : (128 + r / 64 % 64) % 256 = 128 + r / 64 % 64 := by omega
  have m12 : (128 + r / 4096 % 64) % 256 = 128 + r / 4096 % 64 := by omega
  have a0 := i64_and63 r h0 (by omega)
  have a6 := i64_and63 (r / 64) (by omega) (by omega)
  have a12 := i64_and63 (r / 4096) (by omega) (by omega)
  have o0 := i64_or 6 128 (r % 64) (by decide) (by decide) (by decide) (by decide) (by omega) (by omega) (by omega)
  have o6 := i64_or 6 128 (r / 64 % 64) (by decide) (by decide) (by decide) (by decide) (by omega) (by omega) (by omega)
  have o12 := i64_or 6 128 (r / 4096 % 64) (by decide) (by decide) (by decide) (by decide) (by omega) (by omega) (by omega)
  unfold utf_Encode.f utf_isRune.f
  rw [runeL_eq, h]
  simp only [Option.bind_some, if_true]
  by_cases c1 : r ≥ 65536
  · have q := i64_or 3 240 (r / 262144) (by decide) (by decide) (by decide) (by decide) (by omega) (by omega) (by omega)
    rw [if_pos c1]
    have mq : (240 + r / 262144) % 256 = 240 + r / 262144 := by omega
    have el : encL r = [240 + r / 262144, 128 + r / 4096 % 64, 128 + r / 64 % 64, 128 + r % 64] := by unfold encL; rw [if_neg (by omega), if_neg (by omega), if_neg (by omega)]
    simp [utf_Encode.j0, utf_Encode.l0, s0, s6, s12, s18, w0, w6, w12, a0, a6, a12, o0, o6, o12, q, el, m0, m6, m12, mq]
  · rw [if_neg c1]
    by_cases c2 : r ≥ 2048
    · have q := i64_or 4 224 (r / 4096) (by decide) (by decide) (by decide) (by decide) (by omega) (by omega) (by omega)
      rw [if_pos c2]
      have mq : (224 + r / 4096) % 256 = 224 + r / 4096 := by omega
      have el : encL r = [224 + r / 4096, 128 + r / 64 % 64, 128 + r % 64] := by unfold encL; rw [if_neg (by omega), if_neg (by omega), if_pos (by omega)]
      simp [utf_Encode.j0, utf_Encode.l0, s0, s6, s12, s18, w0, w6, w12, a0, a6, a12, o0, o6, o12, q, el, m0, m6, m12, mq]
    · rw [if_neg c2]
      by_cases c3 : r ≥ 128
      · have q := i64_or 5 192 (r / 64) (by decide) (by decide) (by decide) (by decide) (by omega) (by omega) (by omega)
        rw [if_pos c3]
        have mq : (192 + r / 64) % 256 = 192 + r / 64 := by omega
        have el : encL r = [192 + r / 64, 128 + r % 64] := by unfold encL; rw [if_neg (by omega), if_pos (by omega)]
        simp [utf_Encode.j0, utf_Encode.l0, s0, s6, s12, s18, w0, w6, w12, a0, a6, a12, o0, o6, o12, q, el, m0, m6, m12, mq]
      · have q := i64_or 7 0 r (by decide) (by decide) (by decide) (by decide) (by omega) (by omega) (by omega)
        rw [if_neg c3]
        have mq : r % 256 = r := by omega
        have el : encL r = [r] := by unfold encL; rw [if_pos (by omega)]
        simp [utf_Encode.j0, utf_Encode.l0, s0, s6, s12, s18, w0, w6, w12, a0, a6, a12, o0, o6, o12, q, el, m0, m6, m12, mq]
theorem encode_none (k : Nat) (r : Int) (h : isRn r = false) : utf_Encode.f k r = some (⟨#[]⟩, 20) := by
  unfold utf_Encode.f utf_isRune.f
  rw [runeL_eq, h]
  rfl
end Go.Proofs.Ytjbapiogekjdnaa.Hand
