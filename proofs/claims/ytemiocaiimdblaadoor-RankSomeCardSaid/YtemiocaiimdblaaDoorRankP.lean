/- rank: the plain law: what the key between is. -/
import Derived.Test.YtemiocaiimdblaaDoorRankH
set_option linter.unusedVariables false
set_option linter.unusedSimpArgs false
namespace Go.Proofs.YtemiocaiimdblaaDoor.Hand
open Go Go.RowKit Go.Proofs.YtemiocaiimdblaaDoor.K
set_option maxHeartbeats 1000000
theorem u8_eq {x y : UInt8} (h1 : ¬ x < y) (h2 : ¬ y < x) : x = y := by
  rw [UInt8.lt_iff_toNat_lt] at h1 h2
  exact UInt8.toNat_inj.1 (by omega)
theorem cmp_lt : ∀ l r : List UInt8, Lib.compareBytes l r < 0 ↔ ∃ m, m < r.length ∧ (∀ i, i < m → l[i]? = r[i]?) ∧ (l.length ≤ m ∨ ∃ x y, l[m]? = some x ∧ r[m]? = some y ∧ x < y)
  | [], [] => by simp [Lib.compareBytes]
  | [], y :: ys => by
    simp only [Lib.compareBytes]
    exact ⟨fun _ => ⟨0, by simp, fun i h => by omega, .inl (by simp)⟩, fun _ => by omega⟩
  | x :: xs, [] => by simp [Lib.compareBytes]
  | x :: xs, y :: ys => by
    rw [Lib.compareBytes]
    by_cases h1 : x < y
    · rw [if_pos h1]
      exact ⟨fun _ => ⟨0, by simp, fun i h => by omega, .inr ⟨x, y, rfl, rfl, h1⟩⟩, fun _ => by omega⟩
    · rw [if_neg h1]
      by_cases h2 : y < x
      · rw [if_pos h2]
        refine ⟨fun h => by omega, ?_⟩
        rintro ⟨m, hm, he, hx⟩
        exfalso
        cases m with
        | zero =>
          rcases hx with hx | ⟨x', y', e1, e2, hx⟩
          · simp at hx
          · simp at e1 e2; subst e1; subst e2; exact h1 hx
        | succ m =>
          have := he 0 (by omega)
          simp at this
          subst this
          exact h1 h2
      · rw [if_neg h2]
        obtain rfl := u8_eq h1 h2
        rw [cmp_lt xs ys]
        constructor
        · rintro ⟨m, hm, he, hx⟩
          refine ⟨m + 1, by simpa using hm, fun i hi => ?_, ?_⟩
          · cases i with
            | zero => rfl
            | succ i => simpa using he i (by omega)
          · simpa using hx
        · rintro ⟨m, hm, he, hx⟩
          cases m with
          | zero =>
            rcases hx with hx | ⟨x', y', e1, e2, hx⟩
            · simp at hx
            · simp at e1 e2; subst e1; subst e2; exact (h1 hx).elim
          | succ m =>
            refine ⟨m, by simpa using hm, fun i hi => ?_, ?_⟩
            · simpa using he (i + 1) (by omega)
            · simpa using hx
theorem size_list (s : ByteArray) : s.data.toList.length = s.size := by rw [Array.length_toList]; rfl
theorem lett_eq (s : ByteArray) (i : Nat) : lett s i = match s.data.toList[i]? with | some c => (c.toNat : Int) - 97 | none => 0 := by
  unfold lett
  split
  · rename_i h
    have h' : i < s.data.toList.length := by rw [size_list]; exact h
    rw [List.getElem?_eq_getElem h']
    rfl
  · rename_i h
    rw [List.getElem?_eq_none (by rw [size_list]; omega)]
/-- All its bytes are letters. -/
def Let (s : ByteArray) : Prop := ∀ (i : Nat) (c : UInt8), s.data.toList[i]? = some c → 97 ≤ c.toNat ∧ c.toNat ≤ 122
theorem lett_some {s : ByteArray} {i : Nat} (h : i < s.size) : ∃ c, s.data.toList[i]? = some c ∧ lett s i = (c.toNat : Int) - 97 := by
  have h' : i < s.data.toList.length := by rw [size_list]; exact h
  refine ⟨_, List.getElem?_eq_getElem h', ?_⟩
  rw [lett_eq, List.getElem?_eq_getElem h']
theorem lett_none {s : ByteArray} {i : Nat} (h : s.size ≤ i) : lett s i = 0 := by
  rw [lett_eq, List.getElem?_eq_none (by rw [size_list]; exact h)]
/-- Ahead, by the letters with zeros behind the end. -/
def Ahead (s t : ByteArray) : Prop := ∃ m, m < t.size ∧ lett s m < lett t m ∧ ∀ i, i < m → lett s i = lett t i
theorem less_of_ahead {s t : ByteArray} (h : Ahead s t) : lessB s t = true := by
  obtain ⟨m, hm, hlt, he⟩ := h
  unfold lessB
  rw [decide_eq_true_eq, cmp_lt]
  by_cases hs : m < s.size
  · refine ⟨m, by rw [size_list]; exact hm, fun i hi => ?_, .inr ?_⟩
    · obtain ⟨c, e1, e2⟩ := lett_some (s := s) (i := i) (by omega)
      obtain ⟨d, e3, e4⟩ := lett_some (s := t) (i := i) (by omega)
      have := he i hi
      rw [e1, e3, UInt8.toNat_inj.1 (show c.toNat = d.toNat by omega)]
    · obtain ⟨c, e1, e2⟩ := lett_some hs
      obtain ⟨d, e3, e4⟩ := lett_some hm
      exact ⟨c, d, e1, e3, by rw [UInt8.lt_iff_toNat_lt]; omega⟩
  · refine ⟨s.size, by rw [size_list]; omega, fun i hi => ?_, .inl (by rw [size_list]; omega)⟩
    obtain ⟨c, e1, e2⟩ := lett_some hi
    obtain ⟨d, e3, e4⟩ := lett_some (s := t) (i := i) (by omega)
    have := he i (by omega)
    rw [e1, e3, UInt8.toNat_inj.1 (show c.toNat = d.toNat by omega)]
theorem first_pos {f : Nat → Int} (hf : ∀ i, 0 ≤ f i) : ∀ (n lo : Nat), 0 < f (lo + n) → ∃ m, lo ≤ m ∧ m ≤ lo + n ∧ 0 < f m ∧ ∀ i, lo ≤ i → i < m → f i = 0
  | 0, lo, h => ⟨lo, by omega, by omega, h, fun i h1 h2 => by omega⟩
  | n + 1, lo, h => by
    by_cases h0 : 0 < f lo
    · exact ⟨lo, by omega, by omega, h0, fun i h1 h2 => by omega⟩
    · obtain ⟨m, h1, h2, h3, h4⟩ := first_pos hf n (lo + 1) (by rw [show lo + 1 + n = lo + (n + 1) from by omega]; exact h)
      refine ⟨m, by omega, by omega, h3, fun i hi1 hi2 => ?_⟩
      by_cases e : i = lo
      · subst e; have := hf i; omega
      · exact h4 i (by omega) hi2
theorem ahead_of_less {s t : ByteArray} (ht : Isl t) (hp : 0 < t.size) (hl : 0 < lett t (t.size - 1)) (h : lessB s t = true) : Ahead s t := by
  unfold lessB at h
  rw [decide_eq_true_eq, cmp_lt] at h
  obtain ⟨m, hm, he, hx⟩ := h
  rw [size_list] at hm hx
  have hin : ∀ i, i < m → i < s.size ∧ lett s i = lett t i := fun i hi => by
    obtain ⟨d, e3, e4⟩ := lett_some (s := t) (i := i) (by omega)
    have e := he i hi
    rw [e3] at e
    have hi' : i < s.size := by rw [← size_list]; exact (List.getElem?_eq_some_iff.1 e).1
    exact ⟨hi', by rw [lett_eq, lett_eq, e, e3]⟩
  rcases hx with hx | ⟨x, y, e1, e2, hx⟩
  · obtain ⟨q, hq1, hq2, hq3, hq4⟩ := first_pos (f := lett t) (fun i => (ht i).1) (t.size - 1 - m) m (by rw [show m + (t.size - 1 - m) = t.size - 1 from by omega]; exact hl)
    refine ⟨q, by omega, by rw [lett_none (by omega)]; exact hq3, fun i hi => ?_⟩
    by_cases h1 : i < m
    · exact (hin i h1).2
    · rw [lett_none (by omega), hq4 i (by omega) hi]
  · refine ⟨m, hm, ?_, fun i hi => (hin i hi).2⟩
    rw [lett_eq, lett_eq, e1, e2]
    rw [UInt8.lt_iff_toNat_lt] at hx
    simp only
    omega
/-- The letters of the key between. -/
theorem digs_spec (a b : ByteArray) : ∀ (n i : Nat) (free : Bool) (L : List Int), digs a b n i free = L →
    (L.length = n ∧ (∀ t, t < n → L.getD t 0 = lett a (i + t)) ∧ ∀ t, t < n → (free = true ∨ ∃ t', t' < t ∧ lett a (i + t') < lett b (i + t')) → 25 ≤ lett a (i + t)) ∨
    (∃ j mid, L.length = j + 1 ∧ j < n ∧ (∀ t, t < j → L.getD t 0 = lett a (i + t)) ∧ L.getD j 0 = mid ∧ lett a (i + j) < mid ∧
      (∀ t, t < j → (free = true ∨ ∃ t', t' < t ∧ lett a (i + t') < lett b (i + t')) → 25 ≤ lett a (i + t)) ∧
      ((mid < lett b (i + j) ∧ free = false ∧ ∀ t, t < j → lett b (i + t) ≤ lett a (i + t)) ∨ ((mid < 26) ∧ (free = true ∨ ∃ t, t < j ∧ lett a (i + t) < lett b (i + t) ∧ ∀ t', t' < t → lett b (i + t') ≤ lett a (i + t')))))
  | 0, i, free, L, h => by
    subst h
    exact .inl ⟨rfl, fun t h => by omega, fun t h => by omega⟩
  | n + 1, i, free, L, h => by
    rw [digs] at h
    by_cases hg : (if free then 26 else lett b i) > lett a i + 1
    · rw [if_pos hg] at h
      subst h
      refine .inr ⟨0, _, rfl, by omega, fun t ht => by omega, rfl, by simp only [Nat.add_zero, List.getD_cons_zero]; omega, fun t ht => by omega, ?_⟩
      cases free with
      | true => exact .inr ⟨by simp at hg ⊢; omega, .inl rfl⟩
      | false => exact .inl ⟨by simp at hg ⊢; omega, rfl, fun t ht => by omega⟩
    · rw [if_neg hg] at h
      subst h
      have ih := digs_spec a b n (i + 1) (free || decide (lett a i < (if free then 26 else lett b i))) _ rfl
      generalize digs a b n (i + 1) (free || decide (lett a i < (if free then 26 else lett b i))) = R at ih ⊢
      have e1 : ∀ t, i + 1 + t = i + (t + 1) := fun t => by omega
      have fr : ∀ t, (free = true ∨ ∃ t', t' < t + 1 ∧ lett a (i + t') < lett b (i + t')) → ((free || decide (lett a i < (if free then 26 else lett b i))) = true ∨ ∃ t', t' < t ∧ lett a (i + 1 + t') < lett b (i + 1 + t')) := fun t hx => by
        rcases hx with rfl | ⟨t', h1, h2⟩
        · exact .inl rfl
        · cases t' with
          | zero =>
            cases free with
            | true => exact .inl rfl
            | false => exact .inl (by simpa using h2)
          | succ t' => exact .inr ⟨t', by omega, by rw [e1]; exact h2⟩
      have f0 : free = true → 25 ≤ lett a i := fun hf => by subst hf; simp at hg; omega
      rcases ih with ⟨h1, h2, h3⟩ | ⟨j, mid, h1, h2, h3, h4, h5, h6, h7⟩
      · refine .inl ⟨by simp [h1], fun t ht => ?_, fun t ht hx => ?_⟩
        · cases t with
          | zero => rfl
          | succ t => rw [List.getD_cons_succ, h2 t (by omega), e1]
        · cases t with
          | zero =>
            rcases hx with hx | ⟨t', h, _⟩
            · exact f0 hx
            · omega
          | succ t => rw [← e1]; exact h3 t (by omega) (fr t hx)
      · refine .inr ⟨j + 1, mid, by simp [h1], by omega, fun t ht => ?_, by rw [List.getD_cons_succ]; exact h4, by rw [← e1]; exact h5, fun t ht hx => ?_, ?_⟩
        · cases t with
          | zero => rfl
          | succ t => rw [List.getD_cons_succ, h3 t (by omega), e1]
        · cases t with
          | zero =>
            rcases hx with hx | ⟨t', h, _⟩
            · exact f0 hx
            · omega
          | succ t => rw [← e1]; exact h6 t (by omega) (fr t hx)
        · cases free with
          | true =>
            refine .inr ⟨?_, .inl rfl⟩
            rcases h7 with ⟨_, h8, _⟩ | ⟨h8, _⟩
            · simp at h8
            · exact h8
          | false =>
            simp only [Bool.false_or, Bool.false_eq_true, if_false, decide_eq_false_iff_not, decide_eq_true_eq] at h7
            rcases h7 with ⟨h8, h9, h10⟩ | ⟨h8, h9 | ⟨t, h9, h10, h11⟩⟩
            · refine .inl ⟨by rw [← e1]; exact h8, rfl, fun t ht => ?_⟩
              cases t with
              | zero => simpa using h9
              | succ t => rw [← e1]; exact h10 t (by omega)
            · exact .inr ⟨h8, .inr ⟨0, by omega, by simpa using h9, fun t' ht => by omega⟩⟩
            · by_cases h12 : lett a i < lett b i
              · exact .inr ⟨h8, .inr ⟨0, by omega, by simpa using h12, fun t' ht => by omega⟩⟩
              · refine .inr ⟨h8, .inr ⟨t + 1, by omega, by rw [← e1]; exact h10, fun t' ht => ?_⟩⟩
                cases t' with
                | zero => simpa using h12
                | succ t' => rw [← e1]; exact h11 t' (by omega)
end Go.Proofs.YtemiocaiimdblaaDoor.Hand
