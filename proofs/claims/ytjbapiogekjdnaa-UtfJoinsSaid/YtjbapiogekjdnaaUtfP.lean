/- utf: the plain law: what runes' bytes are; the reference's Encode, Decode and classes come to the same. -/
import Derived.Test.YtjbapiogekjdnaaPU
import Derived.Test.YtjbapiogekjdnaaUtfG
set_option linter.unusedVariables false
set_option linter.unusedSimpArgs false
namespace Go.Proofs.Ytjbapiogekjdnaa.Hand
open Go Go.RowKit Go.Proofs.Ytjbapiogekjdnaa.PU Go.Proofs.YtjbapiogekjdnaaW.PrintWords Go.Proofs.YtjbapiogekjdnaaW.PrintLast Go.Proofs.YtjbapiogekjdnaaW.PrintMore
set_option maxRecDepth 100000
set_option maxHeartbeats 1000000
def encS (r : Int) : ByteArray × Int := if isRn r = true then (strOfNums (encL r), 0) else (⟨#[]⟩, 20)
theorem enc_ev (r : Int) (k : Nat) (hk : 10 ≤ k) : utf_Encode.f k r = some (encS r) := by
  unfold encS
  cases h : isRn r with
  | true => rw [if_pos rfl]; exact at_rounds (g := fun k => utf_Encode.f k r) (fun k => utf_Encode.mono r k) hk (encode_some r h)
  | false => rw [if_neg (by simp)]; exact encode_none k r h
theorem shown_ev (k : Nat) (hk : 10 ≤ k) : pleacherlaw02_shown.f k = some true := by
  have h1 : utf_Decode.f ⟨#[240, 159, 152, 128, 120]⟩ = some (128512, 4, 0) := by
    unfold utf_Decode.f
    rw [if_pos (by unfold maxLen; decide)]
    exact congrArg some (by kernel_rfl)
  have h2 : utf_Decode.f ⟨#[192, 128]⟩ = some (0, 0, 20) := by
    unfold utf_Decode.f
    rw [if_pos (by unfold maxLen; decide)]
    exact congrArg some (by kernel_rfl)
  have h3 : utf_IsName.f ⟨#[97, 45, 98]⟩ = some true := by
    unfold utf_IsName.f
    rw [if_pos (by decide)]
    exact congrArg some (by kernel_rfl)
  have h4 : encS 8364 = (strOfNums [226, 130, 172], 0) := by kernel_rfl
  have h5 : (strOfNums [226, 130, 172]).toList = ([226, 130, 172] : List UInt8) := by kernel_rfl
  unfold pleacherlaw02_shown.f
  rw [enc_ev 8364 k hk, h1, h2, h4]
  simp only [Option.bind_some]
  rw [if_pos h5, h3]
  simp
theorem rin (a b c : Int) : pleacherref02_in.f a b c = some (decide (b ≤ a) && decide (a ≤ c)) := by
  unfold pleacherref02_in.f
  by_cases h : a ≥ b
  · have h' : decide (b ≤ a) = true := by simpa using h
    rw [if_pos h, h']; rfl
  · have h' : decide (b ≤ a) = false := by simpa using h
    rw [if_neg h, h']; rfl
theorem rEnc (r : Int) : pleacherref02_Encode.f r = some (encS r) := by
  have h1 : pleacherref02_is.f r = some (isRn r) := by
    unfold pleacherref02_is.f
    rw [rin, rin]
    simp only [Option.bind_some]
    by_cases h : (decide (0 ≤ r) && decide (r ≤ 1114111)) = true
    · rw [if_pos h]
      simp at h
      refine congrArg some ?_
      rw [Bool.eq_iff_iff, isRn_iff]
      simp
      omega
    · rw [if_neg h]
      simp at h
      refine congrArg some ?_
      rw [Bool.eq_iff_iff, isRn_iff]
      simp
      omega
  unfold pleacherref02_Encode.f
  rw [h1]
  simp only [Option.bind_some]
  unfold encS
  cases h : isRn r with
  | false => rfl
  | true =>
    have hb := isRn_iff.1 h
    rw [if_pos rfl, if_pos rfl]
    have w (n : Int) (h0 : 0 ≤ n) (h1 : n < 2 ^ 62) : wrap64 n = n := wraps_64 n h0 h1
    have d64 : Int.tdiv r 64 = r / 64 := by rw [Int.tdiv_eq_ediv_of_nonneg (by omega)]
    have d4 : Int.tdiv r 4096 = r / 4096 := by rw [Int.tdiv_eq_ediv_of_nonneg (by omega)]
    have d2 : Int.tdiv r 262144 = r / 262144 := by rw [Int.tdiv_eq_ediv_of_nonneg (by omega)]
    have m0 : Int.tmod r 64 = r % 64 := by rw [Int.tmod_eq_emod_of_nonneg (by omega)]
    have m1 : Int.tmod (r / 64) 64 = r / 64 % 64 := by rw [Int.tmod_eq_emod_of_nonneg (by omega)]
    have m2 : Int.tmod (r / 4096) 64 = r / 4096 % 64 := by rw [Int.tmod_eq_emod_of_nonneg (by omega)]
    rw [d64, d4, d2, w (r / 64) (by omega) (by omega), w (r / 4096) (by omega) (by omega), w (r / 262144) (by omega) (by omega), m0, m1, m2, w (128 + r % 64) (by omega) (by omega), w (128 + r / 64 % 64) (by omega) (by omega), w (128 + r / 4096 % 64) (by omega) (by omega),
      w (192 + r / 64) (by omega) (by omega), w (224 + r / 4096) (by omega) (by omega), w (240 + r / 262144) (by omega) (by omega), show (128 + r % 64) % 256 = 128 + r % 64 from by omega, show (128 + r / 64 % 64) % 256 = 128 + r / 64 % 64 from by omega, show (128 + r / 4096 % 64) % 256 = 128 + r / 4096 % 64 from by omega]
    unfold encL
    by_cases c1 : r < 128
    · rw [if_pos c1, if_pos c1, if_pos (by decide), show r % 256 = r from by omega]; rfl
    · rw [if_neg c1, if_neg c1]
      by_cases c2 : r < 2048
      · rw [if_pos c2, if_pos c2, show (192 + r / 64) % 256 = 192 + r / 64 from by omega]
        simp
      · rw [if_neg c2, if_neg c2]
        by_cases c3 : r < 65536
        · rw [if_pos c3, if_pos c3, show (224 + r / 4096) % 256 = 224 + r / 4096 from by omega]
          simp
        · rw [if_neg c3, if_neg c3, show (240 + r / 262144) % 256 = 240 + r / 262144 from by omega]
          simp
theorem or_ite {p : Prop} [Decidable p] (c : Bool) : (if p then some true else some c) = some (decide p || c) := by
  by_cases h : p <;> simp [h]
theorem eq_in (a b : Int) : decide (a = b) = (decide (b ≤ a) && decide (a ≤ b)) := by
  rw [Bool.eq_iff_iff]; simp; omega
theorem beq_in (a b : Int) : (a == b) = (decide (b ≤ a) && decide (a ≤ b)) := by
  rw [Bool.eq_iff_iff]; simp; omega
theorem rFirst (r : Int) : pleacherref02_IsFirst.f r = some (firstL.any (inB r)) := by
  unfold pleacherref02_IsFirst.f
  simp only [rin, Option.bind_some, or_ite, decide_eq_true_eq, Bool.decide_eq_true]
  refine congrArg some ?_
  simp only [eq_in, firstL, inB, List.any_cons, List.any_nil, Bool.or_false, Bool.or_assoc]
theorem rChar (r : Int) : pleacherref02_IsChar.f r = some (charB r) := by
  unfold pleacherref02_IsChar.f
  simp only [rin, Option.bind_some, or_ite, Bool.decide_eq_true]
  refine congrArg some ?_
  simp only [charB, charL, inB, List.any_cons, List.any_nil, Bool.or_false]
  rw [Bool.eq_iff_iff]
  simp
  omega
theorem rOther (r : Int) : pleacherref02_IsOther.f r = some (otherB r) := by
  unfold pleacherref02_IsOther.f
  simp only [rFirst, rin, Option.bind_some, or_ite, Bool.decide_eq_true]
  refine congrArg some ?_
  unfold otherB
  congr 1
  simp only [moreL, inB, List.any_cons, List.any_nil, Bool.or_false]
  rw [Bool.eq_iff_iff]
  simp
  omega
theorem rSize (c : Int) (k : Nat) (h0 : 0 ≤ c) (h1 : c < 256) (hk : 3 ≤ k) : pleacherref02_size.f k c = some ((headF c).1 + 1) := by
  obtain ⟨k, rfl⟩ : ∃ j, k = j + 3 := ⟨k - 3, by omega⟩
  unfold pleacherref02_size.f headF
  by_cases c1 : c < 128
  · rw [if_pos c1, if_neg (by omega), if_neg (by omega), if_neg (by omega), if_neg (by omega), if_neg (by omega)]; rfl
  · rw [if_neg c1]
    by_cases c2 : c ≥ 192
    · rw [if_pos c2]
      simp only [pleacherref02_size.j0]
      by_cases c3 : c < 224
      · rw [if_pos (by simpa using c3), if_neg (by omega), if_neg (by omega), if_neg (by omega), if_pos (by omega)]; rfl
      · rw [if_neg (by simpa using c3), if_pos (by omega)]
        simp only [pleacherref02_size.j1]
        by_cases c4 : c < 240
        · rw [if_pos (by simpa using c4), if_neg (by omega), if_neg (by omega), if_pos (by omega)]; rfl
        · rw [if_neg (by simpa using c4), if_pos (by omega)]
          by_cases c5 : c < 248
          · rw [if_pos c5, if_neg (by omega), if_pos (by omega)]; rfl
          · rw [if_neg c5, if_pos (by omega)]; rfl
    · rw [if_neg c2]
      simp only [pleacherref02_size.j0]
      rw [if_neg (by simp), if_neg (by omega)]
      simp only [pleacherref02_size.j1]
      rw [if_neg (by simp), if_neg (by omega), if_neg (by omega), if_neg (by omega), if_neg (by omega), if_neg (by omega), if_pos (by omega)]; rfl
def refR : Int → List Int → Int
  | r, [] => r
  | r, c :: l => refR (64 * r + c % 64) l
def refEnd (s : ByteArray) (n : Nat) (r : Int) : Option (Int × Int × Int) := if (encS r).2 = 0 then (if (encS r).1.toList = (s.extract 0 n).toList then some (r, (n : Int), 0) else some (0, 0, 20)) else some (0, 0, 20)
theorem rloop (s : ByteArray) (n : Nat) (hn : n ≤ s.size) (hn4 : n ≤ 4) : ∀ (d k i : Nat) (r : Int), i + d = n → d + 1 ≤ k → 0 ≤ r → (r + 1) * 64 ^ d ≤ 2 ^ 50 → pleacherref02_Decode.l0 k s n r i = refEnd s n (refR r (restL s i d)) := by
  intro d
  induction d with
  | zero =>
    intro k i r hi hk h0 hb
    obtain ⟨k, rfl⟩ : ∃ j, k = j + 1 := ⟨k - 1, by omega⟩
    simp only [pleacherref02_Decode.l0]
    rw [if_neg (by omega), rEnc]
    simp only [Option.bind_some, restL, refR, refEnd]
    rw [if_pos (show (0 : Int) ≤ (n : Int) by omega), if_pos (show (n : Int) ≤ (s.size : Int) by omega)]
    simp only [Int.toNat_natCast]
  | succ d ih =>
    intro k i r hi hk h0 hb
    obtain ⟨k, rfl⟩ : ∃ j, k = j + 1 := ⟨k - 1, by omega⟩
    obtain ⟨b0, b1⟩ := bt_lt s (i : Int)
    simp only [pleacherref02_Decode.l0]
    rw [if_pos (by omega), if_pos (by omega), if_pos (by omega)]
    have hp : (1 : Int) ≤ 64 ^ d := by
      have : (0 : Int) < 64 ^ d := Int.pow_pos (by decide)
      omega
    have hb2 : (r + 1) * 64 * 64 ^ d ≤ 2 ^ 50 := by rw [Int.pow_succ'] at hb; rw [Int.mul_assoc]; exact hb
    have hr : (r + 1) * 64 ≤ 2 ^ 50 := Int.le_trans (by
      have := Int.mul_le_mul_of_nonneg_left hp (show 0 ≤ (r + 1) * 64 by omega)
      simpa using this) hb2
    have e1 : wrap64 (bt s (i : Int)) = bt s (i : Int) := wraps_64 _ b0 (by omega)
    have e2 : wrap64 (64 * r) = 64 * r := wraps_64 _ (by omega) (by omega)
    have e3 : Int.tmod (bt s (i : Int)) 64 = bt s (i : Int) % 64 := Int.tmod_eq_emod_of_nonneg b0
    have e4 : wrap64 (64 * r + bt s (i : Int) % 64) = 64 * r + bt s (i : Int) % 64 := wraps_64 _ (by omega) (by omega)
    have e5 : wrap64 ((i : Int) + 1) = ((i + 1 : Nat) : Int) := by rw [wraps_64 _ (by omega) (by omega)]; omega
    rw [e1, e2, e3, e4, e5, ih k (i + 1) _ (by omega) (by omega) (by omega) ?_]
    · rw [restL, refR]
    · refine Int.le_trans (Int.mul_le_mul_of_nonneg_right (show 64 * r + bt s (i : Int) % 64 + 1 ≤ (r + 1) * 64 by omega) (by omega)) hb2
theorem restL_len (s : ByteArray) (n : Nat) : ∀ a, (restL s a n).length = n := by
  induction n with
  | zero => intro a; rfl
  | succ n ih => intro a; rw [restL, List.length_cons, ih]
theorem restL_get (s : ByteArray) (n : Nat) : ∀ (a i : Nat) (h : i < (restL s a n).length), (restL s a n)[i] = bt s ((a + i : Nat) : Int) := by
  induction n with
  | zero => intro a i h; simp [restL] at h
  | succ n ih =>
    intro a i h
    cases i with
    | zero => simp [restL]
    | succ i =>
      simp only [restL, List.getElem_cons_succ]
      rw [ih]
      congr 2
      omega
theorem toInts_extract (s : ByteArray) (a n : Nat) (h : a + n ≤ s.size) : (s.extract a (a + n)).toList.map (fun b => (b.toNat : Int)) = restL s a n := by
  have hz : (s.extract a (a + n)).size = n := by rw [ByteArray.size_extract]; omega
  rw [ByteArray.toList_eq]
  apply List.ext_getElem
  · rw [List.length_map, Array.length_toList, restL_len]; exact hz
  · intro i h1 h2
    rw [restL_get]
    have hi : i < n := by rw [restL_len] at h2; exact h2
    rw [List.getElem_map, Array.getElem_toList]
    have e := bt_extract s a (a + n) i h (by omega)
    rw [← e]
    exact (bt_at (s.extract a (a + n)) (i : Int) (by rw [Int.toNat_natCast, hz]; exact hi))
theorem toInts_nums : ∀ (L : List Int), (∀ x ∈ L, 0 ≤ x ∧ x < 256) → (strOfNums L).toList.map (fun b => (b.toNat : Int)) = L := by
  intro L h
  rw [ByteArray.toList_eq, strOfNums_data, List.map_map]
  conv => rhs; rw [← List.map_id L]
  apply List.map_congr_left
  intro x hx
  obtain ⟨h0, h1⟩ := h x hx
  simp only [Function.comp, id]
  rw [UInt8.toNat_ofNat_of_lt' (by show x.toNat < 256; omega)]
  omega
theorem toInts_inj {l r : List UInt8} (h : l.map (fun b => (b.toNat : Int)) = r.map (fun b => (b.toNat : Int))) : l = r :=
  (List.map_inj_right (f := fun b : UInt8 => (b.toNat : Int)) (fun x y e => UInt8.toNat_inj.1 (Int.ofNat.inj e))).1 h
theorem encL_byte (r : Int) (h : isRn r = true) : ∀ x ∈ encL r, 0 ≤ x ∧ x < 256 := by
  have hb := isRn_iff.1 h
  unfold encL
  intro x hx
  repeat' split at hx
  all_goals (simp at hx; omega)
theorem enc_eq (s : ByteArray) (n : Nat) (r : Int) (h : isRn r = true) (hn : n ≤ s.size) : (strOfNums (encL r)).toList = (s.extract 0 n).toList ↔ encL r = restL s 0 n := by
  have h1 := toInts_nums (encL r) (encL_byte r h)
  have h2 := toInts_extract s 0 n (by omega)
  rw [Nat.zero_add] at h2
  constructor
  · intro e; rw [← h1, ← h2, e]
  · intro e; exact toInts_inj (by rw [h1, h2, e])
theorem num1 (r b : Int) (h0 : 0 ≤ r) (h1 : r < 32) (b0 : 0 ≤ b) (b1 : b < 256) : encL (64 * r + b % 64) = [192 + r, b] ↔ b / 64 = 2 ∧ (encL (64 * r + b % 64)).length = 2 := by
  unfold encL
  repeat' split
  all_goals (simp; try omega)
theorem num2 (r b c : Int) (h0 : 0 ≤ r) (h1 : r < 16) (b0 : 0 ≤ b) (b1 : b < 256) (c0 : 0 ≤ c) (c1 : c < 256) : encL (64 * (64 * r + b % 64) + c % 64) = [224 + r, b, c] ↔ b / 64 = 2 ∧ c / 64 = 2 ∧ (encL (64 * (64 * r + b % 64) + c % 64)).length = 3 := by
  unfold encL
  repeat' split
  all_goals (simp; try omega)
theorem num3 (r b c d : Int) (h0 : 0 ≤ r) (h1 : r < 8) (b0 : 0 ≤ b) (b1 : b < 256) (c0 : 0 ≤ c) (c1 : c < 256) (d0 : 0 ≤ d) (d1 : d < 256) : encL (64 * (64 * (64 * r + b % 64) + c % 64) + d % 64) = [240 + r, b, c, d] ↔ b / 64 = 2 ∧ c / 64 = 2 ∧ d / 64 = 2 ∧ (encL (64 * (64 * (64 * r + b % 64) + c % 64) + d % 64)).length = 4 := by
  unfold encL
  repeat' split
  all_goals (simp; try omega)
/-- The end of Decode: the two ways to ask come to the same. -/
theorem end_eq (s : ByteArray) (q : Nat) (r : Int) (R : Option Int) (hq : q < s.size) (hR : ∀ x, R = some x → x = r)
    (h : isRn r = true → (encL r = restL s 0 (q + 1) ↔ R = some r ∧ ((encL r).length : Int) = (q : Int) + 1)) : refEnd s (q + 1) r = some (decTail (q : Int) R) := by
  unfold refEnd encS
  cases hr : isRn r with
  | false =>
    rw [if_neg (by simp)]
    cases R with
    | none => rfl
    | some x =>
      obtain rfl := hR x rfl
      simp [decTail, hr]
  | true =>
    rw [if_pos rfl, if_pos rfl]
    have hh := h hr
    have he := enc_eq s (q + 1) r hr (by omega)
    by_cases e : encL r = restL s 0 (q + 1)
    · rw [if_pos (he.2 e)]
      obtain ⟨h1, h2⟩ := hh.1 e
      rw [h1]
      simp [decTail, hr, h2]
    · rw [if_neg (fun x => e (he.1 x))]
      cases R with
      | none => rfl
      | some x =>
        obtain rfl := hR x rfl
        have : ¬ ((encL x).length : Int) = (q : Int) + 1 := fun h2 => e (hh.2 ⟨rfl, h2⟩)
        simp [decTail, this]
theorem rDec (s : ByteArray) (hs : s.size ≤ 1000000000000) (k : Nat) (hk : 20 ≤ k) : pleacherref02_Decode.f k s = some (decF s) := by
  unfold pleacherref02_Decode.f decF
  by_cases h0 : s.size = 0
  · have e0 : s.toList = [] := by rw [ByteArray.toList_eq]; exact List.eq_nil_of_length_eq_zero (by rw [Array.length_toList]; exact h0)
    rw [if_pos e0, if_pos h0]
  · have e0 : ¬ s.toList = [] := fun h => h0 (by rw [ByteArray.toList_eq] at h; have := congrArg List.length h; rw [Array.length_toList] at this; exact this)
    rw [if_neg e0, if_neg h0, if_pos (by omega)]
    obtain ⟨b0, b1⟩ := bt_lt s 0
    obtain ⟨c, hc⟩ : ∃ c, bt s 0 = c := ⟨_, rfl⟩
    have hc' : bt s ((0 : Nat) : Int) = c := hc
    rw [hc] at b0 b1 ⊢
    rw [rSize c k b0 b1 (by omega)]
    simp only [Option.bind_some]
    obtain ⟨k, rfl⟩ : ∃ j, k = j + 10 := ⟨k - 10, by omega⟩
    by_cases c1 : (headF c).1 = -1
    · rw [c1, if_pos (by decide), if_pos (.inl (by decide))]
      simp only [pleacherref02_Decode.j0]
      rfl
    · obtain ⟨m0, m1, m2, m3⟩ := headF_b c b0 b1
      obtain ⟨q, hq⟩ : ∃ q : Nat, (headF c).1 = (q : Int) := ⟨(headF c).1.toNat, by omega⟩
      rw [hq, if_neg (by omega)]
      by_cases c2 : (s.size : Int) ≤ (q : Int)
      · rw [if_pos (.inr c2)]
        simp only [pleacherref02_Decode.j0]
        rw [if_pos (by simp; omega)]
      · rw [if_neg (by omega)]
        have hd : decide ((s.size : Int) < (q : Int) + 1) = false := by simp; omega
        rw [hd]
        simp only [pleacherref02_Decode.j0, pleacherref02_Decode.j1]
        rw [if_neg (by simp), if_pos (by omega), hc]
        have w0 : wrap64 c = c := wraps_64 c b0 (by omega)
        rw [w0]
        have hql : q < s.size := by omega
        have lp : ∀ r : Int, 0 ≤ r → r < 256 → pleacherref02_Decode.l0 (k + 8) s ((q : Int) + 1) r 1 = refEnd s (q + 1) (refR r (restL s 1 q)) := fun r hr0 hr1 => by
          have := rloop s (q + 1) (by omega) (by omega) q (k + 8) 1 r (by omega) (by omega) hr0 (by
            have h4 : (64 : Int) ^ q ≤ 262144 := by
              have hq4 : q = 0 ∨ q = 1 ∨ q = 2 ∨ q = 3 := by omega
              rcases hq4 with rfl | rfl | rfl | rfl <;> decide
            have h5 := Int.mul_le_mul_of_nonneg_left h4 (show 0 ≤ r + 1 by omega)
            refine Int.le_trans h5 ?_
            omega)
          simpa using this
        simp only [Int.toNat_natCast]
        have hr0 : (headF c).2 = if q = 0 then c else if q = 1 then c - 192 else if q = 2 then c - 224 else c - 240 := by
          unfold headF at hq c1 ⊢
          repeat' split at hq
          all_goals (dsimp only at hq ⊢)
          all_goals (repeat' split)
          all_goals omega
        have hcq : (q = 0 → c < 128) ∧ (q = 1 → 192 ≤ c ∧ c < 224) ∧ (q = 2 → 224 ≤ c ∧ c < 240) ∧ (q = 3 → 240 ≤ c ∧ c < 248) := by
          unfold headF at hq
          repeat' split at hq
          all_goals (dsimp only at hq; omega)
        have hq4 : q = 0 ∨ q = 1 ∨ q = 2 ∨ q = 3 := by omega
        rcases hq4 with rfl | rfl | rfl | rfl
        · rw [if_neg (by decide), if_neg (by decide), if_neg (by decide), lp c b0 b1]
          rw [if_pos rfl] at hr0
          rw [hr0]
          refine end_eq s 0 _ _ hql (fun x h => by simpa [restL, foldR, refR] using h.symm) (fun hr => ?_)
          have h1 : encL c = [c] := by unfold encL; rw [if_pos (hcq.1 rfl)]
          simp [restL, foldR, refR, h1, hc]
        · rw [if_pos (by decide), wraps_64 (c - 192) (by have := (hcq.2.1 rfl); omega) (by omega), lp (c - 192) (by have := (hcq.2.1 rfl); omega) (by omega)]
          rw [if_neg (by decide), if_pos rfl] at hr0
          rw [hr0]
          obtain ⟨d0, d1⟩ := bt_lt s ((1 : Nat) : Int)
          obtain ⟨d, hd'⟩ : ∃ d, bt s ((1 : Nat) : Int) = d := ⟨_, rfl⟩
          rw [hd'] at d0 d1
          have hn := num1 (c - 192) d (by have := (hcq.2.1 rfl); omega) (by have := (hcq.2.1 rfl); omega) d0 d1
          rw [show 192 + (c - 192) = c from by omega] at hn
          simp only [restL, refR, foldR, hd', hc', Nat.zero_add, Nat.reduceAdd] at hn ⊢
          by_cases h2 : d / 64 = 2
          · rw [if_pos h2, show (c - 192) * 64 + d % 64 = 64 * (c - 192) + d % 64 from by omega]
            refine end_eq s 1 _ _ hql (fun x h => (Option.some.inj h).symm) (fun hr => ?_)
            simp only [restL, hd', hc', Nat.zero_add, Nat.reduceAdd]
            rw [hn]
            simp [h2]
            omega
          · rw [if_neg h2]
            refine end_eq s 1 _ _ hql (fun x h => by cases h) (fun hr => ?_)
            simp only [restL, hd', hc', Nat.zero_add, Nat.reduceAdd]
            rw [hn]
            simp [h2]
        · rw [if_neg (by decide), if_pos (by decide), wraps_64 (c - 224) (by have := (hcq.2.2.1 rfl); omega) (by omega), lp (c - 224) (by have := (hcq.2.2.1 rfl); omega) (by omega)]
          rw [if_neg (by decide), if_neg (by decide), if_pos rfl] at hr0
          rw [hr0]
          obtain ⟨d0, d1⟩ := bt_lt s ((1 : Nat) : Int)
          obtain ⟨d, hd'⟩ : ∃ d, bt s ((1 : Nat) : Int) = d := ⟨_, rfl⟩
          rw [hd'] at d0 d1
          obtain ⟨e0, e1⟩ := bt_lt s ((2 : Nat) : Int)
          obtain ⟨e, he'⟩ : ∃ d, bt s ((2 : Nat) : Int) = d := ⟨_, rfl⟩
          rw [he'] at e0 e1
          have hn := num2 (c - 224) d e (by have := (hcq.2.2.1 rfl); omega) (by have := (hcq.2.2.1 rfl); omega) d0 d1 e0 e1
          rw [show 224 + (c - 224) = c from by omega] at hn
          simp only [restL, refR, foldR, hd', he', hc', Nat.zero_add, Nat.reduceAdd] at hn ⊢
          by_cases h2 : d / 64 = 2
          · rw [if_pos h2]
            by_cases h3 : e / 64 = 2
            · rw [if_pos h3, show ((c - 224) * 64 + d % 64) * 64 + e % 64 = 64 * (64 * (c - 224) + d % 64) + e % 64 from by omega]
              refine end_eq s 2 _ _ hql (fun x h => (Option.some.inj h).symm) (fun hr => ?_)
              simp only [restL, hd', he', hc', Nat.zero_add, Nat.reduceAdd]
              rw [hn]
              simp [h2, h3]
              omega
            · rw [if_neg h3]
              refine end_eq s 2 _ _ hql (fun x h => by cases h) (fun hr => ?_)
              simp only [restL, hd', he', hc', Nat.zero_add, Nat.reduceAdd]
              rw [hn]
              simp [h3]
          · rw [if_neg h2]
            refine end_eq s 2 _ _ hql (fun x h => by cases h) (fun hr => ?_)
            simp only [restL, hd', he', hc', Nat.zero_add, Nat.reduceAdd]
            rw [hn]
            simp [h2]
        · rw [if_neg (by decide), if_neg (by decide), if_pos (by decide), wraps_64 (c - 240) (by have := (hcq.2.2.2 rfl); omega) (by omega), lp (c - 240) (by have := (hcq.2.2.2 rfl); omega) (by omega)]
          rw [if_neg (by decide), if_neg (by decide), if_neg (by decide)] at hr0
          rw [hr0]
          obtain ⟨d0, d1⟩ := bt_lt s ((1 : Nat) : Int)
          obtain ⟨d, hd'⟩ : ∃ d, bt s ((1 : Nat) : Int) = d := ⟨_, rfl⟩
          rw [hd'] at d0 d1
          obtain ⟨e0, e1⟩ := bt_lt s ((2 : Nat) : Int)
          obtain ⟨e, he'⟩ : ∃ d, bt s ((2 : Nat) : Int) = d := ⟨_, rfl⟩
          rw [he'] at e0 e1
          obtain ⟨f0, f1⟩ := bt_lt s ((3 : Nat) : Int)
          obtain ⟨f, hf'⟩ : ∃ d, bt s ((3 : Nat) : Int) = d := ⟨_, rfl⟩
          rw [hf'] at f0 f1
          have hn := num3 (c - 240) d e f (by have := (hcq.2.2.2 rfl); omega) (by have := (hcq.2.2.2 rfl); omega) d0 d1 e0 e1 f0 f1
          rw [show 240 + (c - 240) = c from by omega] at hn
          simp only [restL, refR, foldR, hd', he', hf', hc', Nat.zero_add, Nat.reduceAdd] at hn ⊢
          by_cases h2 : d / 64 = 2
          · rw [if_pos h2]
            by_cases h3 : e / 64 = 2
            · rw [if_pos h3]
              by_cases h4 : f / 64 = 2
              · rw [if_pos h4, show (((c - 240) * 64 + d % 64) * 64 + e % 64) * 64 + f % 64 = 64 * (64 * (64 * (c - 240) + d % 64) + e % 64) + f % 64 from by omega]
                refine end_eq s 3 _ _ hql (fun x h => (Option.some.inj h).symm) (fun hr => ?_)
                simp only [restL, hd', he', hf', hc', Nat.zero_add, Nat.reduceAdd]
                rw [hn]
                simp [h2, h3, h4]
                omega
              · rw [if_neg h4]
                refine end_eq s 3 _ _ hql (fun x h => by cases h) (fun hr => ?_)
                simp only [restL, hd', he', hf', hc', Nat.zero_add, Nat.reduceAdd]
                rw [hn]
                simp [h4]
            · rw [if_neg h3]
              refine end_eq s 3 _ _ hql (fun x h => by cases h) (fun hr => ?_)
              simp only [restL, hd', he', hf', hc', Nat.zero_add, Nat.reduceAdd]
              rw [hn]
              simp [h3]
          · rw [if_neg h2]
            refine end_eq s 3 _ _ hql (fun x h => by cases h) (fun hr => ?_)
            simp only [restL, hd', he', hf', hc', Nat.zero_add, Nat.reduceAdd]
            rw [hn]
            simp [h2]
def cutS (s : ByteArray) : ByteArray := s.extract 0 (min s.size 500)
theorem cutS_size (s : ByteArray) : (cutS s).size ≤ 500 := by unfold cutS; rw [ByteArray.size_extract]; omega
theorem cut_ev (s : ByteArray) : pleacherlaw02_cut.f s = some (cutS s) := by
  unfold pleacherlaw02_cut.f cutS mn
  by_cases h : (500 : Int) < (s.size : Int)
  · rw [if_pos h, if_pos (by decide), if_pos (by omega), show min s.size 500 = 500 from by omega]; rfl
  · rw [if_neg h, if_pos (by omega), if_pos (by omega), show min s.size 500 = s.size from by omega, Int.toNat_natCast]
theorem dec_ev (s : ByteArray) (h : s.size ≤ 100000) : utf_Decode.f s = some (decF s) := by
  unfold utf_Decode.f; rw [if_pos (by unfold maxLen; omega)]
theorem all_ev (s : ByteArray) (h : s.size ≤ 100000) : utf_all.f s = some ((allS s).1, ((allS s).2.size : Int)) := by
  unfold utf_all.f; rw [if_pos (by omega)]
theorem name_ev (s : ByteArray) (h : s.size ≤ 100000) : utf_IsName.f s = some (nameF s) := by
  unfold utf_IsName.f; rw [if_pos (by omega)]
theorem text_ev (s : ByteArray) (h : s.size ≤ 100000) : utf_IsText.f s = some (areF charB s) := by
  unfold utf_IsText.f; rw [if_pos (by omega)]
theorem decF_nil (s : ByteArray) (h : s.size = 0) : decF s = (0, 0, 10) := by unfold decF; rw [if_pos h]
theorem allS_sizes (s : ByteArray) : (allS s).2.size ≤ s.size := allF_size _ s
/-- What the reference's loop comes to, from place a on. -/
theorem rrun (s : ByteArray) (hs : s.size ≤ 100000) : ∀ (d k a : Nat) (acc : List Int), a ≤ s.size → s.size - a ≤ d → d + 30 ≤ k → acc.length ≤ a →
    pleacherref02_Runes.l0 k s acc a = some (acc ++ (allS (s.extract a s.size)).1, (s.size : Int) - ((allS (s.extract a s.size)).2.size : Int)) := by
  intro d
  induction d with
  | zero =>
    intro k a acc ha hd hk hl
    obtain ⟨k, rfl⟩ : ∃ j, k = j + 1 := ⟨k - 1, by omega⟩
    have hz : (s.extract a s.size).size = 0 := by rw [ByteArray.size_extract]; omega
    simp only [pleacherref02_Runes.l0]
    rw [if_neg (by omega), allS_no _ (by rw [decF_nil _ hz]; decide), List.append_nil]
    simp only [hz]
    congr 2
    omega
  | succ d ih =>
    intro k a acc ha hd hk hl
    obtain ⟨k, rfl⟩ : ∃ j, k = j + 1 := ⟨k - 1, by omega⟩
    have hz : (s.extract a s.size).size = s.size - a := by rw [ByteArray.size_extract]; omega
    simp only [pleacherref02_Runes.l0]
    by_cases h0 : (a : Int) < (s.size : Int)
    · rw [if_pos h0, if_pos (by omega), if_pos (by omega), Int.toNat_natCast, rDec _ (by omega) k (by omega)]
      simp only [Option.bind_some]
      by_cases ok : (decF (s.extract a s.size)).2.2 = 0
      · obtain ⟨n1, n2⟩ := decF_ok _ ok
        rw [if_pos ok, if_pos (by omega), allS_ok _ ok]
        obtain ⟨m, hm⟩ : ∃ m : Nat, (decF (s.extract a s.size)).2.1 = (m : Int) := ⟨(decF (s.extract a s.size)).2.1.toNat, by omega⟩
        rw [hm] at n1 n2 ⊢
        rw [show wrap64 ((a : Int) + (m : Int)) = ((a + m : Nat) : Int) from by rw [wraps_64 _ (by omega) (by omega)]; omega]
        rw [ih k (a + m) _ (by omega) (by omega) (by omega) (by simp; omega)]
        have hx : (s.extract a s.size).extract m (s.extract a s.size).size = s.extract (a + m) s.size := by
          rw [ByteArray.extract_extract, hz]
          congr 1
          omega
        rw [Int.toNat_natCast, hx]
        simp
      · rw [if_neg ok, allS_no _ ok, List.append_nil]
        simp only [hz]
        congr 2
        omega
    · have hz0 : (s.extract a s.size).size = 0 := by omega
      rw [if_neg h0, allS_no _ (by rw [decF_nil _ hz0]; decide), List.append_nil]
      simp only [hz0]
      congr 2
      omega
theorem rRunes (s : ByteArray) (hs : s.size ≤ 100000) (k : Nat) (hk : 100100 ≤ k) : pleacherref02_Runes.f k s = some ((allS s).1, (s.size : Int) - ((allS s).2.size : Int)) := by
  have := rrun s hs s.size k 0 [] (by omega) (by omega) (by omega) (by simp)
  rw [ByteArray.extract_zero_size] at this
  unfold pleacherref02_Runes.f
  simpa using this
end Go.Proofs.Ytjbapiogekjdnaa.Hand
