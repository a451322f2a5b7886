/- tree: what the printed functions of the laws tell, in plain Lean: few, shown, parents. -/
import Derived.Test.YthknhhpcogakfaaDoorPT9
set_option linter.unusedVariables false
set_option linter.unusedSimpArgs false
namespace Go.Proofs.YthknhhpcogakfaaDoor.Hand
open Go Go.RowKit Go.Proofs.YthknhhpcogakfaaDoor.PT Go.Proofs.YthknhhpcogakfaaDoorW.PrintWords Go.Proofs.YthknhhpcogakfaaDoorW.PrintLast Go.Proofs.YthknhhpcogakfaaDoorW.PrintMore
set_option maxRecDepth 100000
set_option maxHeartbeats 1000000
theorem mono_le {α : Type} {f : Nat → Option α} (hm : ∀ k, LeO (f k) (f (k + 1))) {r : α} {k : Nat} (h : f k = some r) : ∀ k', k ≤ k' → f k' = some r := by
  intro k' hk
  induction k' with
  | zero => rwa [show k = 0 by omega] at h
  | succ n ih =>
    rcases Nat.lt_or_ge n k with h1 | h1
    · rwa [show k = n + 1 by omega] at h
    · exact hm n r (ih h1)
theorem w64 (a : Int) (h0 : -9223372036854775808 ≤ a) (h1 : a ≤ 9223372036854775807) : wrap64 a = a := by unfold wrap64; omega
theorem rdT (l : List S30) (k : Nat) : rd_T30 l (k : Int) = l.getD k z30 := rfl
theorem rdA (l : List S44) (k : Nat) : rd_T44 l (k : Int) = l.getD k z44 := rfl
theorem shown_true : ∀ k, 20 ≤ k → pleacherlaw11_shown.f k = some true := fun k hk => mono_le (f := fun k => pleacherlaw11_shown.f k) (fun k => pleacherlaw11_shown.mono k) (k := 20) (by kernel_rfl) k hk
/-! few nodes -/
def cutS (s : ByteArray) : ByteArray := s.extract 0 (mn (s.size : Int) 110 : Int).toNat
def cutA (x : S44) : S44 := ⟨cutS x.f0, cutS x.f1⟩
def oneN (x : S30) : S30 := ⟨x.f0, x.f1, cutS x.f2, (x.f3.take 22).map cutA⟩
def fewL (l : List S30) : List S30 := (l.take 40).map oneN
theorem mn_ok (s : ByteArray) : 0 ≤ mn (s.size : Int) 110 ∧ mn (s.size : Int) 110 ≤ (s.size : Int) := by unfold mn; split <;> omega
theorem one_loop (x : S30) (b0 b1 : Int) (b2 : ByteArray) : ∀ (d i k : Nat) (acc : List S44), 22 - i = d → i ≤ 22 → d + 1 ≤ k → acc.length = i → pleacherlaw11_One.l0 k (i : Int) x.f0 x.f1 x.f2 x.f3 b0 b1 b2 acc = some (b0, b1, b2, acc ++ ((x.f3.take 22).drop i).map cutA) := by
  intro d
  induction d with
  | zero =>
    intro i k acc hd hi hk hacc
    obtain ⟨k, rfl⟩ : ∃ m, k = m + 1 := ⟨k - 1, by omega⟩
    obtain rfl : i = 22 := by omega
    rw [pleacherlaw11_One.l0]
    have : ((x.f3.take 22).drop 22) = [] := List.drop_of_length_le (by rw [List.length_take]; omega)
    rw [this, List.map_nil, List.append_nil]
    split
    · rfl
    · rfl
  | succ d ih =>
    intro i k acc hd hi hk hacc
    obtain ⟨k, rfl⟩ : ∃ m, k = m + 1 := ⟨k - 1, by omega⟩
    rw [pleacherlaw11_One.l0]
    by_cases hl : (i : Int) < (x.f3.length : Int)
    · rw [if_pos hl, if_pos (by omega), if_pos (by omega), if_pos (mn_ok _).1, if_pos (mn_ok _).2, if_pos (mn_ok _).1, if_pos (mn_ok _).2, if_pos (by omega)]
      rw [w64 _ (by omega) (by omega), show ((i : Int) + 1) = ((i + 1 : Nat) : Int) by omega]
      rw [ih (i + 1) k _ (by omega) (by omega) (by omega) (by simp [hacc])]
      have hlt : i < (x.f3.take 22).length := by rw [List.length_take]; omega
      rw [List.drop_eq_getElem_cons hlt, List.map_cons, List.append_assoc]
      have hge : (x.f3.take 22)[i] = x.f3.getD i z44 := by
        rw [List.getElem_take, List.getD_eq_getElem?_getD, List.getElem?_eq_getElem (by omega)]; rfl
      rw [hge]
      rfl
    · rw [if_neg hl]
      have : ((x.f3.take 22).drop i) = [] := List.drop_of_length_le (by rw [List.length_take]; omega)
      rw [this, List.map_nil, List.append_nil]
theorem one_eq (x : S30) (k : Nat) (hk : 30 ≤ k) : pleacherlaw11_One.f k x.f0 x.f1 x.f2 x.f3 = some (x.f0, x.f1, cutS x.f2, (x.f3.take 22).map cutA) := by
  unfold pleacherlaw11_One.f
  rw [if_pos (mn_ok _).1, if_pos (mn_ok _).2]
  have := one_loop x x.f0 x.f1 (cutS x.f2) 22 0 k [] rfl (by omega) (by omega) rfl
  rw [List.drop_zero, List.nil_append] at this
  exact this
theorem few_loop (l : List S30) : ∀ (d i k : Nat) (acc : List S30), 40 - i = d → i ≤ 40 → d + 31 ≤ k → acc.length = i → pleacherlaw11_Few.l0 k l 40 acc (i : Int) = some (acc ++ ((l.take 40).drop i).map oneN) := by
  intro d
  induction d with
  | zero =>
    intro i k acc hd hi hk hacc
    obtain ⟨k, rfl⟩ : ∃ m, k = m + 1 := ⟨k - 1, by omega⟩
    obtain rfl : i = 40 := by omega
    rw [pleacherlaw11_Few.l0]
    have : ((l.take 40).drop 40) = [] := List.drop_of_length_le (by rw [List.length_take]; omega)
    rw [this, List.map_nil, List.append_nil]
    split
    · rfl
    · rfl
  | succ d ih =>
    intro i k acc hd hi hk hacc
    obtain ⟨k, rfl⟩ : ∃ m, k = m + 1 := ⟨k - 1, by omega⟩
    rw [pleacherlaw11_Few.l0]
    by_cases hl : (i : Int) < (l.length : Int)
    · rw [if_pos hl, if_pos (by omega), if_pos (by omega), rdT, one_eq _ _ (by omega), Option.bind_some, if_pos (by omega)]
      rw [w64 _ (by omega) (by omega), show ((i : Int) + 1) = ((i + 1 : Nat) : Int) by omega]
      rw [ih (i + 1) k _ (by omega) (by omega) (by omega) (by simp [hacc])]
      have hlt : i < (l.take 40).length := by rw [List.length_take]; omega
      rw [List.drop_eq_getElem_cons hlt, List.map_cons, List.append_assoc]
      have hge : (l.take 40)[i] = l.getD i z30 := by
        rw [List.getElem_take, List.getD_eq_getElem?_getD, List.getElem?_eq_getElem (by omega)]; rfl
      rw [hge]
      rfl
    · rw [if_neg hl]
      have : ((l.take 40).drop i) = [] := List.drop_of_length_le (by rw [List.length_take]; omega)
      rw [this, List.map_nil, List.append_nil]
theorem few_eq (l : List S30) (k : Nat) (hk : 80 ≤ k) : pleacherlaw11_Few.f k l 40 = some (fewL l) := by
  unfold pleacherlaw11_Few.f
  have := few_loop l 40 0 k [] rfl (by omega) (by omega) rfl
  rw [List.drop_zero, List.nil_append] at this
  exact this
theorem few_len (l : List S30) : (fewL l).length ≤ 40 := by unfold fewL; rw [List.length_map, List.length_take]; omega
theorem few_ids {l : List S30} (h : IdsIn l) : (fewL l).all (fun x => (Lit.int .u64 x.f0).wf) = true := by
  rw [List.all_eq_true]
  intro x hx
  unfold fewL at hx
  obtain ⟨y, hy, rfl⟩ := List.mem_map.1 hx
  exact h y (List.mem_of_mem_take hy)
/-! parents -/
def parD (l : List S30) (d : Int) : Nat → Int
  | 0 => -1
  | j + 1 => if (l.getD j z30).f1 < d then (j : Int) else parD l d j
def parentF (l : List S30) (i : Int) : Int := if rightF l = true then (if placeB l i = true then parD l (l.getD i.toNat z30).f1 i.toNat else -1) else -1
theorem par_loop (l : List S30) (a : Nat) (ha : a < l.length) (hl : l.length ≤ 1000) : ∀ (j k : Nat), j ≤ a → j + 1 ≤ k → tree_Parent.l0 k l (a : Int) ((j : Int) - 1) = some (parD l (l.getD a z30).f1 j) := by
  intro j
  induction j with
  | zero =>
    intro k _ hk
    obtain ⟨k, rfl⟩ : ∃ m, k = m + 1 := ⟨k - 1, by omega⟩
    rw [tree_Parent.l0, if_neg (by omega)]
    rfl
  | succ j ih =>
    intro k hj hk
    obtain ⟨k, rfl⟩ : ∃ m, k = m + 1 := ⟨k - 1, by omega⟩
    rw [show ((j + 1 : Nat) : Int) - 1 = (j : Int) by omega, tree_Parent.l0, if_pos (by omega), if_pos (by omega), if_pos (by omega), if_pos (by omega), if_pos (by omega), rdT, rdT, parD]
    split
    · rfl
    · rw [w64 _ (by omega) (by omega)]
      exact ih k (by omega) (by omega)
theorem parent_eq (l : List S30) (hid : l.all (fun x => (Lit.int .u64 x.f0).wf) = true) (i : Int) (k : Nat) (hk : 1010 ≤ k) : tree_Parent.f k l i = some (parentF l i) := by
  unfold tree_Parent.f tree_Right.f parentF
  rw [if_pos hid, Option.bind_some]
  obtain ⟨k, rfl⟩ : ∃ m, k = m + 1 := ⟨k - 1, by omega⟩
  by_cases h1 : rightF l = true
  · rw [if_pos h1, if_pos h1]
    have hp : tree_walker_isPlace.f l i = some (placeB l i) := by
      unfold tree_walker_isPlace.f placeB
      by_cases h0 : i ≥ 0
      · rw [if_pos h0, decide_eq_true (show 0 ≤ i from h0), Bool.true_and]
      · rw [if_neg h0, decide_eq_false (show ¬ 0 ≤ i from h0), Bool.false_and]
    rw [hp, Option.bind_some]
    by_cases h2 : placeB l i = true
    · rw [h2, if_pos rfl]
      obtain ⟨a, rfl, ha⟩ := place_nat h2
      have hl := (right_sizes h1).1
      show tree_Parent.j0 (k + 1) l (a : Int) false = _
      rw [tree_Parent.j0, if_neg Bool.false_ne_true, w64 _ (by omega) (by omega)]
      exact par_loop l a ha hl a k (Nat.le_refl _) (by omega)
    · rw [if_neg h2, Bool.eq_false_iff.2 h2]
      show tree_Parent.j0 (k + 1) l i true = _
      rw [tree_Parent.j0, if_pos rfl]
  · rw [if_neg h1, if_neg h1, tree_Parent.j0, if_pos rfl]
end Go.Proofs.YthknhhpcogakfaaDoor.Hand
