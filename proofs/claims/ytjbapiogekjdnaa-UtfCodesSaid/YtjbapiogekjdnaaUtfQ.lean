/- utf: the plain law: the reference's Decode comes to the program's. -/
import Derived.Test.YtjbapiogekjdnaaUtfP
set_option linter.unusedVariables false
set_option linter.unusedSimpArgs false
namespace Go.Proofs.Ytjbapiogekjdnaa.Hand
open Go Go.RowKit Go.Proofs.Ytjbapiogekjdnaa.PU Go.Proofs.YtjbapiogekjdnaaW.PrintWords Go.Proofs.YtjbapiogekjdnaaW.PrintLast Go.Proofs.YtjbapiogekjdnaaW.PrintMore
set_option maxRecDepth 100000
set_option maxHeartbeats 1000000
theorem rSize (c : Int) (k : Nat) (h0 : 0 ≤ c) (h1 : c < 256) (hk : 3 ≤ k) : pleacherref02_size.f k c = some ((headF c).1 + 1) := by
  obtain ⟨k, rfl⟩ : ∃ j, k = j + 3 := ⟨k - 3, by omega⟩
  unfold pleacherref02_size.f headF
  by_cases c1 : c < 128
  · rw [if_pos c1, if_neg (by omega), if_neg (by omega), if_neg (by omega), if_neg (by omega), if_neg (by omega)]; rfl
  · rw [if_neg c1]
    by_cases c2 : c ≥ 192
    · rw [if_pos c2]
      simp only [pleacherref02_size.j0]
      by_cases c3 : c < 224
      · rw [if_pos (by simpa using c3), if_neg (by omega), if_neg (by omega), if_neg (by omega), if_pos (by omega)]; rfl
      · rw [if_neg (by simpa using c3), if_pos (by omega)]
        simp only [pleacherref02_size.j1]
        by_cases c4 : c < 240
        · rw [if_pos (by simpa using c4), if_neg (by omega), if_neg (by omega), if_pos (by omega)]; rfl
        · rw [if_neg (by simpa using c4), if_pos (by omega)]
          by_cases c5 : c < 248
          · rw [if_pos c5, if_neg (by omega), if_pos (by omega)]; rfl
          · rw [if_neg c5, if_pos (by omega)]; rfl
    · rw [if_neg c2]
      simp only [pleacherref02_size.j0]
      rw [if_neg (by simp), if_neg (by omega)]
      simp only [pleacherref02_size.j1]
      rw [if_neg (by simp), if_neg (by omega), if_neg (by omega), if_neg (by omega), if_neg (by omega), if_neg (by omega), if_pos (by omega)]; rfl
def refR : Int → List Int → Int
  | r, [] => r
  | r, c :: l => refR (64 * r + c % 64) l
def refEnd (s : ByteArray) (n : Nat) (r : Int) : Option (Int × Int × Int) := if (encS r).2 = 0 then (if (encS r).1.toList = (s.extract 0 n).toList then some (r, (n : Int), 0) else some (0, 0, 20)) else some (0, 0, 20)
theorem rloop (s : ByteArray) (n : Nat) (hn : n ≤ s.size) (hn4 : n ≤ 4) : ∀ (d k i : Nat) (r : Int), i + d = n → d + 1 ≤ k → 0 ≤ r → (r + 1) * 64 ^ d ≤ 2 ^ 50 → pleacherref02_Decode.l0 k s n r i = refEnd s n (refR r (restL s i d)) := by
  intro d
  induction d with
  | zero =>
    intro k i r hi hk h0 hb
    obtain ⟨k, rfl⟩ : ∃ j, k = j + 1 := ⟨k - 1, by omega⟩
    simp only [pleacherref02_Decode.l0]
    rw [if_neg (by omega), rEnc]
    simp only [Option.bind_some, restL, refR, refEnd]
    rw [if_pos (show (0 : Int) ≤ (n : Int) by omega), if_pos (show (n : Int) ≤ (s.size : Int) by omega)]
    simp only [Int.toNat_natCast]
  | succ d ih =>
    intro k i r hi hk h0 hb
    obtain ⟨k, rfl⟩ : ∃ j, k = j + 1 := ⟨k - 1, by omega⟩
    obtain ⟨b0, b1⟩ := bt_lt s (i : Int)
    simp only [pleacherref02_Decode.l0]
    rw [if_pos (by omega), if_pos (by omega), if_pos (by omega)]
    have hp : (1 : Int) ≤ 64 ^ d := by
      have : (0 : Int) < 64 ^ d := Int.pow_pos (by decide)
      omega
    have hb2 : (r + 1) * 64 * 64 ^ d ≤ 2 ^ 50 := by rw [Int.pow_succ'] at hb; rw [Int.mul_assoc]; exact hb
    have hr : (r + 1) * 64 ≤ 2 ^ 50 := Int.le_trans (by
      have := Int.mul_le_mul_of_nonneg_left hp (show 0 ≤ (r + 1) * 64 by omega)
      simpa using this) hb2
    have e1 : wrap64 (bt s (i : Int)) = bt s (i : Int) := wraps_64 _ b0 (by omega)
    have e2 : wrap64 (64 * r) = 64 * r := wraps_64 _ (by omega) (by omega)
    have e3 : Int.tmod (bt s (i : Int)) 64 = bt s (i : Int) % 64 := Int.tmod_eq_emod_of_nonneg b0
    have e4 : wrap64 (64 * r + bt s (i : Int) % 64) = 64 * r + bt s (i : Int) % 64 := wraps_64 _ (by omega) (by omega)
    have e5 : wrap64 ((i : Int) + 1) = ((i + 1 : Nat) : Int) := by rw [wraps_64 _ (by omega) (by omega)]; omega
    rw [e1, e2, e3, e4, e5, ih k (i + 1) _ (by omega) (by omega) (by omega) ?_]
    · rw [restL, refR]
    · refine Int.le_trans (Int.mul_le_mul_of_nonneg_right (show 64 * r + bt s (i : Int) % 64 + 1 ≤ (r + 1) * 64 by omega) (by omega)) hb2
theorem restL_len (s : ByteArray) (n : Nat) : ∀ a, (restL s a n).length = n := by
  induction n with
  | zero => intro a; rfl
  | succ n ih => intro a; rw [restL, List.length_cons, ih]
theorem restL_get (s : ByteArray) (n : Nat) : ∀ (a i : Nat) (h : i < (restL s a n).length), (restL s a n)[i] = bt s ((a + i : Nat) : Int) := by
  induction n with
  | zero => intro a i h; simp [restL] at h
  | succ n ih =>
    intro a i h
    cases i with
    | zero => simp [restL]
    | succ i =>
      simp only [restL, List.getElem_cons_succ]
      rw [ih]
      congr 2
      omega
theorem toInts_extract (s : ByteArray) (a n : Nat) (h : a + n ≤ s.size) : (s.extract a (a + n)).toList.map (fun b => (b.toNat : Int)) = restL s a n := by
  have hz : (s.extract a (a + n)).size = n := by rw [ByteArray.size_extract]; omega
  rw [ByteArray.toList_eq]
  apply List.ext_getElem
  · rw [List.length_map, Array.length_toList, restL_len]; exact hz
  · intro i h1 h2
    rw [restL_get]
    have hi : i < n := by rw [restL_len] at h2; exact h2
    rw [List.getElem_map, Array.getElem_toList]
    have e := bt_extract s a (a + n) i h (by omega)
    rw [← e]
    exact (bt_at (s.extract a (a + n)) (i : Int) (by rw [Int.toNat_natCast, hz]; exact hi))
theorem toInts_nums : ∀ (L : List Int), (∀ x ∈ L, 0 ≤ x ∧ x < 256) → (strOfNums L).toList.map (fun b => (b.toNat : Int)) = L := by
  intro L h
  rw [ByteArray.toList_eq, strOfNums_data, List.map_map]
  conv => rhs; rw [← List.map_id L]
  apply List.map_congr_left
  intro x hx
  obtain ⟨h0, h1⟩ := h x hx
  simp only [Function.comp, id]
  rw [UInt8.toNat_ofNat_of_lt' (by show x.toNat < 256; omega)]
  omega
theorem toInts_inj {l r : List UInt8} (h : l.map (fun b => (b.toNat : Int)) = r.map (fun b => (b.toNat : Int))) : l = r :=
  (List.map_inj_right (f := fun b : UInt8 => (b.toNat : Int)) (fun x y e => UInt8.toNat_inj.1 (Int.ofNat.inj e))).1 h
theorem encL_byte (r : Int) (h : isRn r = true) : ∀ x ∈ encL r, 0 ≤ x ∧ x < 256 := by
  have hb := isRn_iff.1 h
  unfold encL
  intro x hx
  repeat' split at hx
  all_goals (simp at hx; omega)
theorem enc_eq (s : ByteArray) (n : Nat) (r : Int) (h : isRn r = true) (hn : n ≤ s.size) : (strOfNums (encL r)).toList = (s.extract 0 n).toList ↔ encL r = restL s 0 n := by
  have h1 := toInts_nums (encL r) (encL_byte r h)
  have h2 := toInts_extract s 0 n (by omega)
  rw [Nat.zero_add] at h2
  constructor
  · intro e; rw [← h1, ← h2, e]
  · intro e; exact toInts_inj (by rw [h1, h2, e])
theorem num1 (r b : Int) (h0 : 0 ≤ r) (h1 : r < 32) (b0 : 0 ≤ b) (b1 : b < 256) : encL (64 * r + b % 64) = [192 + r, b] ↔ b / 64 = 2 ∧ (encL (64 * r + b % 64)).length = 2 := by
  unfold encL
  repeat' split
  all_goals (simp; try omega)
theorem num2 (r b c : Int) (h0 : 0 ≤ r) (h1 : r < 16) (b0 : 0 ≤ b) (b1 : b < 256) (c0 : 0 ≤ c) (c1 : c < 256) : encL (64 * (64 * r + b % 64) + c % 64) = [224 + r, b, c] ↔ b / 64 = 2 ∧ c / 64 = 2 ∧ (encL (64 * (64 * r + b % 64) + c % 64)).length = 3 := by
  unfold encL
  repeat' split
  all_goals (simp; try omega)
theorem num3 (r b c d : Int) (h0 : 0 ≤ r) (h1 : r < 8) (b0 : 0 ≤ b) (b1 : b < 256) (c0 : 0 ≤ c) (c1 : c < 256) (d0 : 0 ≤ d) (d1 : d < 256) : encL (64 * (64 * (64 * r + b % 64) + c % 64) + d % 64) = [240 + r, b, c, d] ↔ b / 64 = 2 ∧ c / 64 = 2 ∧ d / 64 = 2 ∧ (encL (64 * (64 * (64 * r + b % 64) + c % 64) + d % 64)).length = 4 := by
  unfold encL
  repeat' split
  all_goals (simp; try omega)
end Go.Proofs.Ytjbapiogekjdnaa.Hand
