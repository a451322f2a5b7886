/- tree: plain laws of trees; TreeParents. -/
import Derived.Test.YthknhhpcogakfaaDoorTreeP
set_option linter.unusedVariables false
set_option linter.unusedSimpArgs false
namespace Go.Proofs.YthknhhpcogakfaaDoor.Hand
open Go Go.RowKit Go.Proofs.YthknhhpcogakfaaDoor.PT Go.Proofs.YthknhhpcogakfaaDoorW.PrintWords Go.Proofs.YthknhhpcogakfaaDoorW.PrintLast Go.Proofs.YthknhhpcogakfaaDoorW.PrintMore
set_option maxRecDepth 100000
set_option maxHeartbeats 1000000
def dep (l : List S30) (i : Nat) : Int := (l.getD i z30).f1
theorem nodeR_dep {d : Int} {x : S30} (h : nodeR d x = true) : 1 ≤ x.f1 ∧ x.f1 ≤ 25 ∧ x.f1 ≤ d + 1 := by
  unfold nodeR at h
  rw [Bool.not_eq_true', Bool.or_eq_false_iff, Bool.or_eq_false_iff, Bool.or_eq_false_iff, decide_eq_false_iff_not, decide_eq_false_iff_not] at h
  omega
/-- The depth ahead. -/
def depB (d : Int) (l : List S30) : Nat → Int
  | 0 => d
  | i + 1 => dep l i
theorem rightL_dep : ∀ (l : List S30) (d : Int) (ids : List Int), rightL d ids l = true → ∀ i, i < l.length → 1 ≤ dep l i ∧ dep l i ≤ 25 ∧ dep l i ≤ depB d l i + 1
  | [], _, _, _, i, hi => by simp at hi
  | x :: t, d, ids, h, i, hi => by
    rw [rightL, Bool.and_eq_true, Bool.and_eq_true] at h
    cases i with
    | zero => exact nodeR_dep h.1.2
    | succ i =>
      have := rightL_dep t _ _ h.2 i (by simpa using hi)
      refine ⟨this.1, this.2.1, ?_⟩
      cases i with
      | zero => exact this.2.2
      | succ i => exact this.2.2
theorem right_dep {l : List S30} (h : rightF l = true) (i : Nat) (hi : i < l.length) : 1 ≤ dep l i ∧ dep l i ≤ 25 ∧ dep l i ≤ depB 0 l i + 1 := by
  unfold rightF at h
  rw [Bool.and_eq_true] at h
  exact rightL_dep l 0 [] h.1 i hi
theorem parD_spec (l : List S30) (d : Int) : ∀ n, (parD l d n = -1 ∧ ∀ j, j < n → d ≤ dep l j) ∨ ∃ j, j < n ∧ parD l d n = (j : Int) ∧ dep l j < d ∧ ∀ t, j < t → t < n → d ≤ dep l t
  | 0 => .inl ⟨rfl, fun j hj => absurd hj (by omega)⟩
  | n + 1 => by
    rw [parD]
    by_cases h : (l.getD n z30).f1 < d
    · rw [if_pos h]
      exact .inr ⟨n, by omega, rfl, h, fun t h1 h2 => absurd h1 (by omega)⟩
    · rw [if_neg h]
      rcases parD_spec l d n with ⟨h1, h2⟩ | ⟨j, h1, h2, h3, h4⟩
      · refine .inl ⟨h1, fun j hj => ?_⟩
        rcases Nat.lt_or_ge j n with h5 | h5
        · exact h2 j h5
        · obtain rfl : j = n := by omega
          exact Int.not_lt.1 h
      · refine .inr ⟨j, by omega, h2, h3, fun t ht1 ht2 => ?_⟩
        rcases Nat.lt_or_ge t n with h5 | h5
        · exact h4 t ht1 h5
        · obtain rfl : t = n := by omega
          exact Int.not_lt.1 h
/-- The branch reaches as far as all behind it are deeper. -/
theorem endL_ge (d : Int) : ∀ (L : List S30) (i : Int) (m : Nat), m ≤ L.length → (∀ t, t < m → d < (L.getD t z30).f1) → i + m ≤ endL d L i
  | L, i, 0, _, _ => by have := (endL_bounds d L i).1; omega
  | [], i, m + 1, hm, _ => by simp at hm
  | x :: t, i, m + 1, hm, h => by
    rw [endL, if_pos (show d < x.f1 from h 0 (by omega))]
    have := endL_ge d t (i + 1) m (by simpa using hm) (fun q hq => by have := h (q + 1) (by omega); simpa using this)
    omega
theorem endF_ge (l : List S30) (p i : Nat) (hp : p < i) (hi : i < l.length) (h : ∀ t, p < t → t ≤ i → dep l p < dep l t) : (i : Int) + 1 ≤ endF l p := by
  have := endL_ge (dep l p) (l.drop (p + 1)) ((p : Int) + 1) (i - p) (by rw [List.length_drop]; omega) (fun t ht => by
    have := h (p + 1 + t) (by omega) (by omega)
    unfold dep at this
    rwa [show (l.drop (p + 1)).getD t z30 = l.getD (p + 1 + t) z30 by rw [List.getD_eq_getElem?_getD, List.getD_eq_getElem?_getD, List.getElem?_drop]])
  unfold endF
  unfold dep at this
  omega
theorem endF_le (l : List S30) (p : Nat) (hp : p < l.length) : (p : Int) + 1 ≤ endF l p ∧ endF l p ≤ l.length := by
  have := endL_bounds (l.getD p z30).f1 (l.drop (p + 1)) ((p : Int) + 1)
  rw [List.length_drop] at this
  unfold endF
  omega
/-- What a node's parent is. -/
theorem parent_spec {l : List S30} (h : rightF l = true) (i : Nat) (hi : i < l.length) : (parentF l i = -1 ∧ dep l i = 1) ∨ ∃ p : Nat, p < i ∧ parentF l i = (p : Int) ∧ dep l p = dep l i - 1 ∧ ∀ t, p < t → t ≤ i → dep l p < dep l t := by
  have hp : placeB l (i : Int) = true := by unfold placeB; rw [decide_eq_true (by omega), decide_eq_true (by omega)]; rfl
  have he : parentF l i = parD l (dep l i) i := by unfold parentF; rw [if_pos h, if_pos hp]; rfl
  rw [he]
  obtain ⟨a0, a1, a2⟩ := right_dep h i hi
  rcases parD_spec l (dep l i) i with ⟨h1, h2⟩ | ⟨j, h1, h2, h3, h4⟩
  · refine .inl ⟨h1, ?_⟩
    have h0 := right_dep h 0 (by omega)
    rcases Nat.eq_zero_or_pos i with hz | hz
    · subst hz; have := h0.2.2; simp only [depB] at this; omega
    · have := h2 0 hz
      have := h0.2.2
      simp only [depB] at this
      omega
  · refine .inr ⟨j, h1, h2, ?_, fun t ht1 ht2 => ?_⟩
    · obtain ⟨b0, b1, b2⟩ := right_dep h (j + 1) (by omega)
      simp only [depB] at b2
      rcases Nat.lt_or_ge (j + 1) i with h5 | h5
      · have := h4 (j + 1) (by omega) h5
        omega
      · obtain rfl : i = j + 1 := by omega
        omega
    · rcases Nat.lt_or_ge t i with h5 | h5
      · have := h4 t ht1 h5
        omega
      · obtain rfl : t = i := by omega
        omega
theorem rowM_len (l : List S30) (p : Nat) (hp : p < l.length) : ((rowM l p ((endF l p).toNat - p)).length : Int) = endF l p - p := by
  have := endF_le l p hp
  simp only [rowM, List.length_map, List.length_take, List.length_drop]
  omega
theorem treeParents_loop {t : List S30} (hid : t.all (fun x => (Lit.int .u64 x.f0).wf) = true) (h : rightF t = true) : ∀ (d i k : Nat), t.length - i = d → i ≤ t.length → 2 * d + 1100 ≤ k → pleacherlaw11_TreeParents.l0 k t true (i : Int) = some true := by
  have hlen := (right_sizes h).1
  intro d
  induction d with
  | zero =>
    intro i k hd hi hk
    obtain ⟨k, rfl⟩ : ∃ m, k = m + 1 := ⟨k - 1, by omega⟩
    rw [pleacherlaw11_TreeParents.l0, if_neg (by omega)]
  | succ d ih =>
    intro i k hd hi hk
    obtain ⟨k, rfl⟩ : ∃ m, k = m + 2 := ⟨k - 2, by omega⟩
    have hil : i < t.length := by omega
    have hnext : pleacherlaw11_TreeParents.l0 k t true (wrap64 ((i : Int) + 1)) = some true := by
      rw [w64 _ (by omega) (by omega), show (i : Int) + 1 = ((i + 1 : Nat) : Int) by omega]
      exact ih (i + 1) k (by omega) (by omega) (by omega)
    rw [pleacherlaw11_TreeParents.l0, if_pos (by omega), parent_eq t hid _ _ (by omega), Option.bind_some]
    rcases parent_spec h i hil with ⟨h1, h2⟩ | ⟨p, h1, h2, h3, h4⟩
    · rw [h1, if_neg (by omega), if_neg (by omega), if_pos rfl, if_pos (by omega), rdT]
      have : ((t.getD i z30).f1 != 1) = false := by
        unfold dep at h2
        rw [h2]; rfl
      rw [this, pleacherlaw11_TreeParents.j1, if_neg Bool.false_ne_true, if_neg (by omega)]
      exact hnext
    · rw [h2, if_neg (by omega), if_neg (by omega), if_neg (by omega), pleacherlaw11_TreeParents.j1, if_neg Bool.false_ne_true, if_pos (by omega)]
      have hpl : placeB t (p : Int) = true := by unfold placeB; rw [decide_eq_true (by omega), decide_eq_true (by omega)]; rfl
      have hb : tree_Branch.f t (p : Int) = some (rowM t p ((endF t p).toNat - p), 0) := by
        unfold tree_Branch.f branchF
        rw [if_pos hid, if_pos h, if_pos hpl]
        rfl
      rw [hb, Option.bind_some, if_pos rfl, if_pos (by omega), if_pos (by omega), if_pos (by omega), if_pos (by omega), rdT, rdT]
      have q1 := right_dep h i hil
      rw [w64 _ (by unfold dep at q1; omega) (by unfold dep at q1; omega), if_pos (by unfold dep at h3; omega), w64 _ (by omega) (by omega)]
      have hge := endF_ge t p i h1 hil h4
      have hlenR := rowM_len t p (by omega)
      refine (if_neg (show ¬ ((rowM t p ((endF t p).toNat - p)).length : Int) ≤ (i : Int) - p by omega)).trans hnext
theorem treeParents_true (l : List S30) (hid : IdsIn l) : ∃ k, pleacherlaw11_TreeParents.f k l = some true := by
  refine ⟨3000, ?_⟩
  obtain ⟨K, hK⟩ : ∃ K, (3000 : Nat) = K := ⟨_, rfl⟩
  rw [hK]
  have hk : 2900 ≤ K := by omega
  clear hK
  unfold pleacherlaw11_TreeParents.f
  have hw := few_ids hid
  have hl := few_len l
  rw [shown_true _ (by omega), Option.bind_some, few_eq _ _ (by omega), Option.bind_some]
  obtain ⟨t, ht⟩ : ∃ t, fewL l = t := ⟨_, rfl⟩
  rw [ht] at hw hl ⊢
  unfold tree_Right.f
  rw [if_pos hw, Option.bind_some]
  by_cases h : rightF t = true
  · rw [if_pos h]
    exact treeParents_loop hw h t.length 0 K (by omega) (by omega) (by omega)
  · rw [if_neg h, if_pos rfl, parent_eq t hw _ _ (by omega), Option.bind_some]
    unfold parentF
    rw [if_neg h]
    rfl
theorem treeParents_calls (A0 : Option Addr) (c0 : Nat) (l0 : List S30) (w : World) (hG : Gs w) (hr0 : Kd.C k30 w A0 l0.length l0) (hc0 : l0.length ≤ c0) (hid : IdsIn l0) : Calls Tryd.prog 3 #[.slice A0 l0.length c0] w fun e w' => e = .returned (.bool true) ∧ Below w.heap.size w w' := by
  obtain ⟨k, hk⟩ := treeParents_true l0 hid
  exact pleacherlaw11_TreeParents.calls k A0 c0 l0 true w hr0 hc0 hG hk
end Go.Proofs.YthknhhpcogakfaaDoor.Hand
