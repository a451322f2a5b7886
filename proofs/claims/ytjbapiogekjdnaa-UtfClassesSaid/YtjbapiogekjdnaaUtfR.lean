/- utf: the plain law: the reference's Decode, Runes, Valid, Count, IsName, IsText come to the program's. -/
import Derived.Test.YtjbapiogekjdnaaUtfQ
set_option linter.unusedVariables false
set_option linter.unusedSimpArgs false
namespace Go.Proofs.Ytjbapiogekjdnaa.Hand
open Go Go.RowKit Go.Proofs.Ytjbapiogekjdnaa.PU Go.Proofs.YtjbapiogekjdnaaW.PrintWords Go.Proofs.YtjbapiogekjdnaaW.PrintLast Go.Proofs.YtjbapiogekjdnaaW.PrintMore
set_option maxRecDepth 100000
set_option maxHeartbeats 1000000
/-- The end of Decode: the two ways to ask come to the same. -/
theorem end_eq (s : ByteArray) (q : Nat) (r : Int) (R : Option Int) (hq : q < s.size) (hR : ∀ x, R = some x → x = r)
    (h : isRn r = true → (encL r = restL s 0 (q + 1) ↔ R = some r ∧ ((encL r).length : Int) = (q : Int) + 1)) : refEnd s (q + 1) r = some (decTail (q : Int) R) := by
  unfold refEnd encS
  cases hr : isRn r with
  | false =>
    rw [if_neg (by simp)]
    cases R with
    | none => rfl
    | some x =>
      obtain rfl := hR x rfl
      simp [decTail, hr]
  | true =>
    rw [if_pos rfl, if_pos rfl]
    have hh := h hr
    have he := enc_eq s (q + 1) r hr (by omega)
    by_cases e : encL r = restL s 0 (q + 1)
    · rw [if_pos (he.2 e)]
      obtain ⟨h1, h2⟩ := hh.1 e
      rw [h1]
      simp [decTail, hr, h2]
    · rw [if_neg (fun x => e (he.1 x))]
      cases R with
      | none => rfl
      | some x =>
        obtain rfl := hR x rfl
        have : ¬ ((encL x).length : Int) = (q : Int) + 1 := fun h2 => e (hh.2 ⟨rfl, h2⟩)
        simp [decTail, this]
theorem rDec (s : ByteArray) (hs : s.size ≤ 1000000000000) (k : Nat) (hk : 20 ≤ k) : pleacherref02_Decode.f k s = some (decF s) := by
  unfold pleacherref02_Decode.f decF
  by_cases h0 : s.size = 0
  · have e0 : s.toList = [] := by rw [ByteArray.toList_eq]; exact List.eq_nil_of_length_eq_zero (by rw [Array.length_toList]; exact h0)
    rw [if_pos e0, if_pos h0]
  · have e0 : ¬ s.toList = [] := fun h => h0 (by rw [ByteArray.toList_eq] at h; have := congrArg List.length h; rw [Array.length_toList] at this; exact this)
    rw [if_neg e0, if_neg h0, if_pos (by omega)]
    obtain ⟨b0, b1⟩ := bt_lt s 0
    obtain ⟨c, hc⟩ : ∃ c, bt s 0 = c := ⟨_, rfl⟩
    have hc' : bt s ((0 : Nat) : Int) = c := hc
    rw [hc] at b0 b1 ⊢
    rw [rSize c k b0 b1 (by omega)]
    simp only [Option.bind_some]
    obtain ⟨k, rfl⟩ : ∃ j, k = j + 10 := ⟨k - 10, by omega⟩
    by_cases c1 : (headF c).1 = -1
    · rw [c1, if_pos (by decide), if_pos (.inl (by decide))]
      simp only [pleacherref02_Decode.j0]
      rfl
    · obtain ⟨m0, m1, m2, m3⟩ := headF_b c b0 b1
      obtain ⟨q, hq⟩ : ∃ q : Nat, (headF c).1 = (q : Int) := ⟨(headF c).1.toNat, by omega⟩
      rw [hq, if_neg (by omega)]
      by_cases c2 : (s.size : Int) ≤ (q : Int)
      · rw [if_pos (.inr c2)]
        simp only [pleacherref02_Decode.j0]
        rw [if_pos (by simp; omega)]
      · rw [if_neg (by omega)]
        have hd : decide ((s.size : Int) < (q : Int) + 1) = false := by simp; omega
        rw [hd]
        simp only [pleacherref02_Decode.j0, pleacherref02_Decode.j1]
        rw [if_neg (by simp), if_pos (by omega), hc]
        have w0 : wrap64 c = c := wraps_64 c b0 (by omega)
        rw [w0]
        have hql : q < s.size := by omega
        have lp : ∀ r : Int, 0 ≤ r → r < 256 → pleacherref02_Decode.l0 (k + 8) s ((q : Int) + 1) r 1 = refEnd s (q + 1) (refR r (restL s 1 q)) := fun r hr0 hr1 => by
          have := rloop s (q + 1) (by omega) (by omega) q (k + 8) 1 r (by omega) (by omega) hr0 (by
            have h4 : (64 : Int) ^ q ≤ 262144 := by
              have hq4 : q = 0 ∨ q = 1 ∨ q = 2 ∨ q = 3 := by omega
              rcases hq4 with rfl | rfl | rfl | rfl <;> decide
            have h5 := Int.mul_le_mul_of_nonneg_left h4 (show 0 ≤ r + 1 by omega)
            refine Int.le_trans h5 ?_
            omega)
          simpa using this
        simp only [Int.toNat_natCast]
        have hr0 : (headF c).2 = if q = 0 then c else if q = 1 then c - 192 else if q = 2 then c - 224 else c - 240 := by
          unfold headF at hq c1 ⊢
          repeat' split at hq
          all_goals (dsimp only at hq ⊢)
          all_goals (repeat' split)
          all_goals omega
        have hcq : (q = 0 → c < 128) ∧ (q = 1 → 192 ≤ c ∧ c < 224) ∧ (q = 2 → 224 ≤ c ∧ c < 240) ∧ (q = 3 → 240 ≤ c ∧ c < 248) := by
          unfold headF at hq
          repeat' split at hq
          all_goals (dsimp only at hq; omega)
        have hq4 : q = 0 ∨ q = 1 ∨ q = 2 ∨ q = 3 := by omega
        rcases hq4 with rfl | rfl | rfl | rfl
        · rw [if_neg (by decide), if_neg (by decide), if_neg (by decide), lp c b0 b1]
          rw [if_pos rfl] at hr0
          rw [hr0]
          refine end_eq s 0 _ _ hql (fun x h => by simpa [restL, foldR, refR] using h.symm) (fun hr => ?_)
          have h1 : encL c = [c] := by unfold encL; rw [if_pos (hcq.1 rfl)]
          simp [restL, foldR, refR, h1, hc]
        · rw [if_pos (by decide), wraps_64 (c - 192) (by have := (hcq.2.1 rfl); omega) (by omega), lp (c - 192) (by have := (hcq.2.1 rfl); omega) (by omega)]
          rw [if_neg (by decide), if_pos rfl] at hr0
          rw [hr0]
          obtain ⟨d0, d1⟩ := bt_lt s ((1 : Nat) : Int)
          obtain ⟨d, hd'⟩ : ∃ d, bt s ((1 : Nat) : Int) = d := ⟨_, rfl⟩
          rw [hd'] at d0 d1
          have hn := num1 (c - 192) d (by have := (hcq.2.1 rfl); omega) (by have := (hcq.2.1 rfl); omega) d0 d1
          rw [show 192 + (c - 192) = c from by omega] at hn
          simp only [restL, refR, foldR, hd', hc', Nat.zero_add, Nat.reduceAdd] at hn ⊢
          by_cases h2 : d / 64 = 2
          · rw [if_pos h2, show (c - 192) * 64 + d % 64 = 64 * (c - 192) + d % 64 from by omega]
            refine end_eq s 1 _ _ hql (fun x h => (Option.some.inj h).symm) (fun hr => ?_)
            simp only [restL, hd', hc', Nat.zero_add, Nat.reduceAdd]
            rw [hn]
            simp [h2]
            omega
          · rw [if_neg h2]
            refine end_eq s 1 _ _ hql (fun x h => by cases h) (fun hr => ?_)
            simp only [restL, hd', hc', Nat.zero_add, Nat.reduceAdd]
            rw [hn]
            simp [h2]
        · rw [if_neg (by decide), if_pos (by decide), wraps_64 (c - 224) (by have := (hcq.2.2.1 rfl); omega) (by omega), lp (c - 224) (by have := (hcq.2.2.1 rfl); omega) (by omega)]
          rw [if_neg (by decide), if_neg (by decide), if_pos rfl] at hr0
          rw [hr0]
          obtain ⟨d0, d1⟩ := bt_lt s ((1 : Nat) : Int)
          obtain ⟨d, hd'⟩ : ∃ d, bt s ((1 : Nat) : Int) = d := ⟨_, rfl⟩
          rw [hd'] at d0 d1
          obtain ⟨e0, e1⟩ := bt_lt s ((2 : Nat) : Int)
          obtain ⟨e, he'⟩ : ∃ d, bt s ((2 : Nat) : Int) = d := ⟨_, rfl⟩
          rw [he'] at e0 e1
          have hn := num2 (c - 224) d e (by have := (hcq.2.2.1 rfl); omega) (by have := (hcq.2.2.1 rfl); omega) d0 d1 e0 e1
          rw [show 224 + (c - 224) = c from by omega] at hn
          simp only [restL, refR, foldR, hd', he', hc', Nat.zero_add, Nat.reduceAdd] at hn ⊢
          by_cases h2 : d / 64 = 2
          · rw [if_pos h2]
            by_cases h3 : e / 64 = 2
            · rw [if_pos h3, show ((c - 224) * 64 + d % 64) * 64 + e % 64 = 64 * (64 * (c - 224) + d % 64) + e % 64 from by omega]
              refine end_eq s 2 _ _ hql (fun x h => (Option.some.inj h).symm) (fun hr => ?_)
              simp only [restL, hd', he', hc', Nat.zero_add, Nat.reduceAdd]
              rw [hn]
              simp [h2, h3]
              omega
            · rw [if_neg h3]
              refine end_eq s 2 _ _ hql (fun x h => by cases h) (fun hr => ?_)
              simp only [restL, hd', he', hc', Nat.zero_add, Nat.reduceAdd]
              rw [hn]
              simp [h3]
          · rw [if_neg h2]
            refine end_eq s 2 _ _ hql (fun x h => by cases h) (fun hr => ?_)
            simp only [restL, hd', he', hc', Nat.zero_add, Nat.reduceAdd]
            rw [hn]
            simp [h2]
        · rw [if_neg (by decide), if_neg (by decide), if_pos (by decide), wraps_64 (c - 240) (by have := (hcq.2.2.2 rfl); omega) (by omega), lp (c - 240) (by have := (hcq.2.2.2 rfl); omega) (by omega)]
          rw [if_neg (by decide), if_neg (by decide), if_neg (by decide)] at hr0
          rw [hr0]
          obtain ⟨d0, d1⟩ := bt_lt s ((1 : Nat) : Int)
          obtain ⟨d, hd'⟩ : ∃ d, bt s ((1 : Nat) : Int) = d := ⟨_, rfl⟩
          rw [hd'] at d0 d1
          obtain ⟨e0, e1⟩ := bt_lt s ((2 : Nat) : Int)
          obtain ⟨e, he'⟩ : ∃ d, bt s ((2 : Nat) : Int) = d := ⟨_, rfl⟩
          rw [he'] at e0 e1
          obtain ⟨f0, f1⟩ := bt_lt s ((3 : Nat) : Int)
          obtain ⟨f, hf'⟩ : ∃ d, bt s ((3 : Nat) : Int) = d := ⟨_, rfl⟩
          rw [hf'] at f0 f1
          have hn := num3 (c - 240) d e f (by have := (hcq.2.2.2 rfl); omega) (by have := (hcq.2.2.2 rfl); omega) d0 d1 e0 e1 f0 f1
          rw [show 240 + (c - 240) = c from by omega] at hn
          simp only [restL, refR, foldR, hd', he', hf', hc', Nat.zero_add, Nat.reduceAdd] at hn ⊢
          by_cases h2 : d / 64 = 2
          · rw [if_pos h2]
            by_cases h3 : e / 64 = 2
            · rw [if_pos h3]
              by_cases h4 : f / 64 = 2
              · rw [if_pos h4, show (((c - 240) * 64 + d % 64) * 64 + e % 64) * 64 + f % 64 = 64 * (64 * (64 * (c - 240) + d % 64) + e % 64) + f % 64 from by omega]
                refine end_eq s 3 _ _ hql (fun x h => (Option.some.inj h).symm) (fun hr => ?_)
                simp only [restL, hd', he', hf', hc', Nat.zero_add, Nat.reduceAdd]
                rw [hn]
                simp [h2, h3, h4]
                omega
              · rw [if_neg h4]
                refine end_eq s 3 _ _ hql (fun x h => by cases h) (fun hr => ?_)
                simp only [restL, hd', he', hf', hc', Nat.zero_add, Nat.reduceAdd]
                rw [hn]
                simp [h4]
            · rw [if_neg h3]
              refine end_eq s 3 _ _ hql (fun x h => by cases h) (fun hr => ?_)
              simp only [restL, hd', he', hf', hc', Nat.zero_add, Nat.reduceAdd]
              rw [hn]
              simp [h3]
          · rw [if_neg h2]
            refine end_eq s 3 _ _ hql (fun x h => by cases h) (fun hr => ?_)
            simp only [restL, hd', he', hf', hc', Nat.zero_add, Nat.reduceAdd]
            rw [hn]
            simp [h2]
end Go.Proofs.Ytjbapiogekjdnaa.Hand
