/- One text out of several: TreeP, TreeQ, TreeRow, TreeV, TreeW, TreeX. -/
import Derived.Test.YthknhhpcogakfaaDoorPT3
import Derived.Test.YthknhhpcogakfaaDoorPT7
import Derived.Test.YthknhhpcogakfaaDoorPT8
import Derived.Deep.Slices
import Derived.Deep.Fields
import Derived.ChangeSame
import Derived.OpenShut
import Derived.Carry
import Derived.Stop.LaidTwo
import Derived.LaidHandle
import Derived.Test.YthknhhpcogakfaaDoorTreeT
import Derived.Test.YthknhhpcogakfaaDoorPT13
/- tree: what the printed functions of the laws tell, in plain Lean: few, shown, parents. -/
set_option linter.unusedVariables false
set_option linter.unusedSimpArgs false
namespace Go.Proofs.YthknhhpcogakfaaDoor.Hand
open Go Go.RowKit Go.Proofs.YthknhhpcogakfaaDoor.PT Go.Proofs.YthknhhpcogakfaaDoorW.PrintWords Go.Proofs.YthknhhpcogakfaaDoorW.PrintLast Go.Proofs.YthknhhpcogakfaaDoorW.PrintMore
set_option maxRecDepth 100000
set_option maxHeartbeats 1000000
theorem mono_le {α : Type} {f : Nat → Option α} (hm : ∀ k, LeO (f k) (f (k + 1))) {r : α} {k : Nat} (h : f k = some r) : ∀ k', k ≤ k' → f k' = some r := by
  intro k' hk
  induction k' with
  | zero => rwa [show k = 0 by omega] at h
  | succ n ih =>
    rcases Nat.lt_or_ge n k with h1 | h1
    · rwa [show k = n + 1 by omega] at h
    · exact hm n r (ih h1)
theorem w64 (a : Int) (h0 : -9223372036854775808 ≤ a) (h1 : a ≤ 9223372036854775807) : wrap64 a = a := by unfold wrap64; omega
theorem rdT (l : List S30) (k : Nat) : rd_T30 l (k : Int) = l.getD k z30 := rfl
theorem rdA (l : List S44) (k : Nat) : rd_T44 l (k : Int) = l.getD k z44 := rfl
theorem shown_true : ∀ k, 20 ≤ k → pleacherlaw11_shown.f k = some true := fun k hk => mono_le (f := fun k => pleacherlaw11_shown.f k) (fun k => pleacherlaw11_shown.mono k) (k := 20) (by kernel_rfl) k hk
/-! few nodes -/
def cutS (s : ByteArray) : ByteArray := s.extract 0 (mn (s.size : Int) 110 : Int).toNat
def cutA (x : S44) : S44 := ⟨cutS x.f0, cutS x.f1⟩
def oneN (x : S30) : S30 := ⟨x.f0, x.f1, cutS x.f2, (x.f3.take 22).map cutA⟩
def fewL (l : List S30) : List S30 := (l.take 40).map oneN
theorem mn_ok (s : ByteArray) : 0 ≤ mn (s.size : Int) 110 ∧ mn (s.size : Int) 110 ≤ (s.size : Int) := by unfold mn; split <;> omega
theorem one_loop (x : S30) (b0 b1 : Int) (b2 : ByteArray) : ∀ (d i k : Nat) (acc : List S44), 22 - i = d → i ≤ 22 → d + 1 ≤ k → acc.length = i → pleacherlaw11_One.l0 k (i : Int) x.f0 x.f1 x.f2 x.f3 b0 b1 b2 acc = some (b0, b1, b2, acc ++ ((x.f3.take 22).drop i).map cutA) := by
  intro d
  induction d with
  | zero =>
    intro i k acc hd hi hk hacc
    obtain ⟨k, rfl⟩ : ∃ m, k = m + 1 := ⟨k - 1, by omega⟩
    obtain rfl : i = 22 := by omega
    rw [pleacherlaw11_One.l0]
    have : ((x.f3.take 22).drop 22) = [] := List.drop_of_length_le (by rw [List.length_take]; omega)
    rw [this, List.map_nil, List.append_nil]
    split
    · rfl
    · rfl
  | succ d ih =>
    intro i k acc hd hi hk hacc
    obtain ⟨k, rfl⟩ : ∃ m, k = m + 1 := ⟨k - 1, by omega⟩
    rw [pleacherlaw11_One.l0]
    by_cases hl : (i : Int) < (x.f3.length : Int)
    · rw [if_pos hl, if_pos (by omega), if_pos (by omega), if_pos (mn_ok _).1, if_pos (mn_ok _).2, if_pos (mn_ok _).1, if_pos (mn_ok _).2, if_pos (by omega)]
      rw [w64 _ (by omega) (by omega), show ((i : Int) + 1) = ((i + 1 : Nat) : Int) by omega]
      rw [ih (i + 1) k _ (by omega) (by omega) (by omega) (by simp [hacc])]
      have hlt : i < (x.f3.take 22).length := by rw [List.length_take]; omega
      rw [List.drop_eq_getElem_cons hlt, List.map_cons, List.append_assoc]
      have hge : (x.f3.take 22)[i] = x.f3.getD i z44 := by
        rw [List.getElem_take, List.getD_eq_getElem?_getD, List.getElem?_eq_getElem (by omega)]; rfl
      rw [hge]
      rfl
    · rw [if_neg hl]
      have : ((x.f3.take 22).drop i) = [] := List.drop_of_length_le (by rw [List.length_take]; omega)
      rw [this, List.map_nil, List.append_nil]
theorem one_eq (x : S30) (k : Nat) (hk : 30 ≤ k) : pleacherlaw11_One.f k x.f0 x.f1 x.f2 x.f3 = some (x.f0, x.f1, cutS x.f2, (x.f3.take 22).map cutA) := by
  unfold pleacherlaw11_One.f
  rw [if_pos (mn_ok _).1, if_pos (mn_ok _).2]
  have := one_loop x x.f0 x.f1 (cutS x.f2) 22 0 k [] rfl (by omega) (by omega) rfl
  rw [List.drop_zero, List.nil_append] at this
  exact this
theorem few_loop (l : List S30) : ∀ (d i k : Nat) (acc : List S30), 40 - i = d → i ≤ 40 → d + 31 ≤ k → acc.length = i → pleacherlaw11_Few.l0 k l 40 acc (i : Int) = some (acc ++ ((l.take 40).drop i).map oneN) := by
  intro d
  induction d with
  | zero =>
    intro i k acc hd hi hk hacc
    obtain ⟨k, rfl⟩ : ∃ m, k = m + 1 := ⟨k - 1, by omega⟩
    obtain rfl : i = 40 := by omega
    rw [pleacherlaw11_Few.l0]
    have : ((l.take 40).drop 40) = [] := List.drop_of_length_le (by rw [List.length_take]; omega)
    rw [this, List.map_nil, List.append_nil]
    split
    · rfl
    · rfl
  | succ d ih =>
    intro i k acc hd hi hk hacc
    obtain ⟨k, rfl⟩ : ∃ m, k = m + 1 := ⟨k - 1, by omega⟩
    rw [pleacherlaw11_Few.l0]
    by_cases hl : (i : Int) < (l.length : Int)
    · rw [if_pos hl, if_pos (by omega), if_pos (by omega), rdT, one_eq _ _ (by omega), Option.bind_some, if_pos (by omega)]
      rw [w64 _ (by omega) (by omega), show ((i : Int) + 1) = ((i + 1 : Nat) : Int) by omega]
      rw [ih (i + 1) k _ (by omega) (by omega) (by omega) (by simp [hacc])]
      have hlt : i < (l.take 40).length := by rw [List.length_take]; omega
      rw [List.drop_eq_getElem_cons hlt, List.map_cons, List.append_assoc]
      have hge : (l.take 40)[i] = l.getD i z30 := by
        rw [List.getElem_take, List.getD_eq_getElem?_getD, List.getElem?_eq_getElem (by omega)]; rfl
      rw [hge]
      rfl
    · rw [if_neg hl]
      have : ((l.take 40).drop i) = [] := List.drop_of_length_le (by rw [List.length_take]; omega)
      rw [this, List.map_nil, List.append_nil]
theorem few_eq (l : List S30) (k : Nat) (hk : 80 ≤ k) : pleacherlaw11_Few.f k l 40 = some (fewL l) := by
  unfold pleacherlaw11_Few.f
  have := few_loop l 40 0 k [] rfl (by omega) (by omega) rfl
  rw [List.drop_zero, List.nil_append] at this
  exact this
theorem few_len (l : List S30) : (fewL l).length ≤ 40 := by unfold fewL; rw [List.length_map, List.length_take]; omega
theorem few_ids {l : List S30} (h : IdsIn l) : (fewL l).all (fun x => (Lit.int .u64 x.f0).wf) = true := by
  rw [List.all_eq_true]
  intro x hx
  unfold fewL at hx
  obtain ⟨y, hy, rfl⟩ := List.mem_map.1 hx
  exact h y (List.mem_of_mem_take hy)
/-! parents -/
def parD (l : List S30) (d : Int) : Nat → Int
  | 0 => -1
  | j + 1 => if (l.getD j z30).f1 < d then (j : Int) else parD l d j
def parentF (l : List S30) (i : Int) : Int := if rightF l = true then (if placeB l i = true then parD l (l.getD i.toNat z30).f1 i.toNat else -1) else -1
theorem par_loop (l : List S30) (a : Nat) (ha : a < l.length) (hl : l.length ≤ 1000) : ∀ (j k : Nat), j ≤ a → j + 1 ≤ k → tree_Parent.l0 k l (a : Int) ((j : Int) - 1) = some (parD l (l.getD a z30).f1 j) := by
  intro j
  induction j with
  | zero =>
    intro k _ hk
    obtain ⟨k, rfl⟩ : ∃ m, k = m + 1 := ⟨k - 1, by omega⟩
    rw [tree_Parent.l0, if_neg (by omega)]
    rfl
  | succ j ih =>
    intro k hj hk
    obtain ⟨k, rfl⟩ : ∃ m, k = m + 1 := ⟨k - 1, by omega⟩
    rw [show ((j + 1 : Nat) : Int) - 1 = (j : Int) by omega, tree_Parent.l0, if_pos (by omega), if_pos (by omega), if_pos (by omega), if_pos (by omega), if_pos (by omega), rdT, rdT, parD]
    split
    · rfl
    · rw [w64 _ (by omega) (by omega)]
      exact ih k (by omega) (by omega)
theorem parent_eq (l : List S30) (hid : l.all (fun x => (Lit.int .u64 x.f0).wf) = true) (i : Int) (k : Nat) (hk : 1010 ≤ k) : tree_Parent.f k l i = some (parentF l i) := by
  unfold tree_Parent.f tree_Right.f parentF
  rw [if_pos hid, Option.bind_some]
  obtain ⟨k, rfl⟩ : ∃ m, k = m + 1 := ⟨k - 1, by omega⟩
  by_cases h1 : rightF l = true
  · rw [if_pos h1, if_pos h1]
    have hp : tree_walker_isPlace.f l i = some (placeB l i) := by
      unfold tree_walker_isPlace.f placeB
      by_cases h0 : i ≥ 0
      · rw [if_pos h0, decide_eq_true (show 0 ≤ i from h0), Bool.true_and]
      · rw [if_neg h0, decide_eq_false (show ¬ 0 ≤ i from h0), Bool.false_and]
    rw [hp, Option.bind_some]
    by_cases h2 : placeB l i = true
    · rw [h2, if_pos rfl]
      obtain ⟨a, rfl, ha⟩ := place_nat h2
      have hl := (right_sizes h1).1
      show tree_Parent.j0 (k + 1) l (a : Int) false = _
      rw [tree_Parent.j0, if_neg Bool.false_ne_true, w64 _ (by omega) (by omega)]
      exact par_loop l a ha hl a k (Nat.le_refl _) (by omega)
    · rw [if_neg h2, Bool.eq_false_iff.2 h2]
      show tree_Parent.j0 (k + 1) l i true = _
      rw [tree_Parent.j0, if_pos rfl]
  · rw [if_neg h1, if_neg h1, tree_Parent.j0, if_pos rfl]
end Go.Proofs.YthknhhpcogakfaaDoor.Hand

/- tree: plain laws of trees; TreeParents. -/
set_option linter.unusedVariables false
set_option linter.unusedSimpArgs false
namespace Go.Proofs.YthknhhpcogakfaaDoor.Hand
open Go Go.RowKit Go.Proofs.YthknhhpcogakfaaDoor.PT Go.Proofs.YthknhhpcogakfaaDoorW.PrintWords Go.Proofs.YthknhhpcogakfaaDoorW.PrintLast Go.Proofs.YthknhhpcogakfaaDoorW.PrintMore
set_option maxRecDepth 100000
set_option maxHeartbeats 1000000
def dep (l : List S30) (i : Nat) : Int := (l.getD i z30).f1
theorem nodeR_dep {d : Int} {x : S30} (h : nodeR d x = true) : 1 ≤ x.f1 ∧ x.f1 ≤ 25 ∧ x.f1 ≤ d + 1 := by
  unfold nodeR at h
  rw [Bool.not_eq_true', Bool.or_eq_false_iff, Bool.or_eq_false_iff, Bool.or_eq_false_iff, decide_eq_false_iff_not, decide_eq_false_iff_not] at h
  omega
/-- The depth ahead. -/
def depB (d : Int) (l : List S30) : Nat → Int
  | 0 => d
  | i + 1 => dep l i
theorem rightL_dep : ∀ (l : List S30) (d : Int) (ids : List Int), rightL d ids l = true → ∀ i, i < l.length → 1 ≤ dep l i ∧ dep l i ≤ 25 ∧ dep l i ≤ depB d l i + 1
  | [], _, _, _, i, hi => by simp at hi
  | x :: t, d, ids, h, i, hi => by
    rw [rightL, Bool.and_eq_true, Bool.and_eq_true] at h
    cases i with
    | zero => exact nodeR_dep h.1.2
    | succ i =>
      have := rightL_dep t _ _ h.2 i (by simpa using hi)
      refine ⟨this.1, this.2.1, ?_⟩
      cases i with
      | zero => exact this.2.2
      | succ i => exact this.2.2
theorem right_dep {l : List S30} (h : rightF l = true) (i : Nat) (hi : i < l.length) : 1 ≤ dep l i ∧ dep l i ≤ 25 ∧ dep l i ≤ depB 0 l i + 1 := by
  unfold rightF at h
  rw [Bool.and_eq_true] at h
  exact rightL_dep l 0 [] h.1 i hi
theorem parD_spec (l : List S30) (d : Int) : ∀ n, (parD l d n = -1 ∧ ∀ j, j < n → d ≤ dep l j) ∨ ∃ j, j < n ∧ parD l d n = (j : Int) ∧ dep l j < d ∧ ∀ t, j < t → t < n → d ≤ dep l t
  | 0 => .inl ⟨rfl, fun j hj => absurd hj (by omega)⟩
  | n + 1 => by
    rw [parD]
    by_cases h : (l.getD n z30).f1 < d
    · rw [if_pos h]
      exact .inr ⟨n, by omega, rfl, h, fun t h1 h2 => absurd h1 (by omega)⟩
    · rw [if_neg h]
      rcases parD_spec l d n with ⟨h1, h2⟩ | ⟨j, h1, h2, h3, h4⟩
      · refine .inl ⟨h1, fun j hj => ?_⟩
        rcases Nat.lt_or_ge j n with h5 | h5
        · exact h2 j h5
        · obtain rfl : j = n := by omega
          exact Int.not_lt.1 h
      · refine .inr ⟨j, by omega, h2, h3, fun t ht1 ht2 => ?_⟩
        rcases Nat.lt_or_ge t n with h5 | h5
        · exact h4 t ht1 h5
        · obtain rfl : t = n := by omega
          exact Int.not_lt.1 h
/-- The branch reaches as far as all behind it are deeper. -/
theorem endL_ge (d : Int) : ∀ (L : List S30) (i : Int) (m : Nat), m ≤ L.length → (∀ t, t < m → d < (L.getD t z30).f1) → i + m ≤ endL d L i
  | L, i, 0, _, _ => by have := (endL_bounds d L i).1; omega
  | [], i, m + 1, hm, _ => by simp at hm
  | x :: t, i, m + 1, hm, h => by
    rw [endL, if_pos (show d < x.f1 from h 0 (by omega))]
    have := endL_ge d t (i + 1) m (by simpa using hm) (fun q hq => by have := h (q + 1) (by omega); simpa using this)
    omega
theorem endF_ge (l : List S30) (p i : Nat) (hp : p < i) (hi : i < l.length) (h : ∀ t, p < t → t ≤ i → dep l p < dep l t) : (i : Int) + 1 ≤ endF l p := by
  have := endL_ge (dep l p) (l.drop (p + 1)) ((p : Int) + 1) (i - p) (by rw [List.length_drop]; omega) (fun t ht => by
    have := h (p + 1 + t) (by omega) (by omega)
    unfold dep at this
    rwa [show (l.drop (p + 1)).getD t z30 = l.getD (p + 1 + t) z30 by rw [List.getD_eq_getElem?_getD, List.getD_eq_getElem?_getD, List.getElem?_drop]])
  unfold endF
  unfold dep at this
  omega
theorem endF_le (l : List S30) (p : Nat) (hp : p < l.length) : (p : Int) + 1 ≤ endF l p ∧ endF l p ≤ l.length := by
  have := endL_bounds (l.getD p z30).f1 (l.drop (p + 1)) ((p : Int) + 1)
  rw [List.length_drop] at this
  unfold endF
  omega
/-- What a node's parent is. -/
theorem parent_spec {l : List S30} (h : rightF l = true) (i : Nat) (hi : i < l.length) : (parentF l i = -1 ∧ dep l i = 1) ∨ ∃ p : Nat, p < i ∧ parentF l i = (p : Int) ∧ dep l p = dep l i - 1 ∧ ∀ t, p < t → t ≤ i → dep l p < dep l t := by
  have hp : placeB l (i : Int) = true := by unfold placeB; rw [decide_eq_true (by omega), decide_eq_true (by omega)]; rfl
  have he : parentF l i = parD l (dep l i) i := by unfold parentF; rw [if_pos h, if_pos hp]; rfl
  rw [he]
  obtain ⟨a0, a1, a2⟩ := right_dep h i hi
  rcases parD_spec l (dep l i) i with ⟨h1, h2⟩ | ⟨j, h1, h2, h3, h4⟩
  · refine .inl ⟨h1, ?_⟩
    have h0 := right_dep h 0 (by omega)
    rcases Nat.eq_zero_or_pos i with hz | hz
    · subst hz; have := h0.2.2; simp only [depB] at this; omega
    · have := h2 0 hz
      have := h0.2.2
      simp only [depB] at this
      omega
  · refine .inr ⟨j, h1, h2, ?_, fun t ht1 ht2 => ?_⟩
    · obtain ⟨b0, b1, b2⟩ := right_dep h (j + 1) (by omega)
      simp only [depB] at b2
      rcases Nat.lt_or_ge (j + 1) i with h5 | h5
      · have := h4 (j + 1) (by omega) h5
        omega
      · obtain rfl : i = j + 1 := by omega
        omega
    · rcases Nat.lt_or_ge t i with h5 | h5
      · have := h4 t ht1 h5
        omega
      · obtain rfl : t = i := by omega
        omega
theorem rowM_len (l : List S30) (p : Nat) (hp : p < l.length) : ((rowM l p ((endF l p).toNat - p)).length : Int) = endF l p - p := by
  have := endF_le l p hp
  simp only [rowM, List.length_map, List.length_take, List.length_drop]
  omega
end Go.Proofs.YthknhhpcogakfaaDoor.Hand

/- tree: arguments, opened: nodes. -/
set_option linter.unusedVariables false
set_option linter.unusedSimpArgs false
namespace Go.Proofs.YthknhhpcogakfaaDoor.Hand
open Go Go.RowKit Go.Proofs.YthknhhpcogakfaaDoor.PT Go.Proofs.YthknhhpcogakfaaDoor.K Go.Proofs.YthknhhpcogakfaaDoorW.PrintWords Go.Proofs.YthknhhpcogakfaaDoorW.PrintLast Go.Proofs.YthknhhpcogakfaaDoorW.PrintMore Go.ChangeShapes Go.WideShapes Go.Deep
set_option maxRecDepth 100000
set_option maxHeartbeats 1000000
theorem list_of {α : Type} {p : Nat → α → Prop} : ∀ (n : Nat), (∀ i, i < n → ∃ x, p i x) → ∃ l : List α, l.length = n ∧ ∀ i x, l[i]? = some x → p i x
  | 0, _ => ⟨[], rfl, fun i x h => by simp at h⟩
  | n + 1, h => by
    obtain ⟨l, hl, hp⟩ := list_of n (fun i hi => h i (by omega))
    obtain ⟨x, hx⟩ := h n (by omega)
    refine ⟨l ++ [x], by simp [hl], fun i y hy => ?_⟩
    rcases Nat.lt_or_ge i n with h1 | h1
    · rw [List.getElem?_append_left (by omega)] at hy; exact hp i y hy
    · have h2 : i < n + 1 := by have := (List.getElem?_eq_some_iff.1 hy).1; simpa [hl] using this
      obtain rfl : i = n := by omega
      rw [List.getElem?_append_right (by omega)] at hy
      rw [hl, Nat.sub_self] at hy
      obtain rfl : x = y := by simpa using hy
      exact hx
section
variable {H : Type} {enc : TypeId × Value → H} {w : World} {base : Nat} {spare : Nat → Bool} {held : Bool}
theorem cells44 : Tryd.prog.cellsOf 44 = 2 := by kernel_rfl
theorem cells30 : Tryd.prog.cellsOf 30 = 4 := by kernel_rfl
theorem cellsS1 : Tryd.prog.cellsOf 9 = 1 := by kernel_rfl
theorem cellsI1 : Tryd.prog.cellsOf 3 = 1 := by kernel_rfl
theorem cellsU1 : Tryd.prog.cellsOf 27 = 1 := by kernel_rfl
theorem cellsA1 : Tryd.prog.cellsOf 28 = 1 := by kernel_rfl
theorem open_attrs {fuel : Nat} {cs : List Value} {x : DataW H × List MemPlace} (h : DataW.trod enc Tryd.prog w base spare held fuel 28 cs = some x) :
    ∃ (A : Option Addr) (c : Nat) (l : List S44), cs = [.slice A l.length c] ∧ l.length ≤ c ∧ Kd.C k44 w A l.length l := by
  rcases open_slice Tryd.underlying28 h with ⟨rfl, _⟩ | ⟨a, len, cap, m, n, D, Pl, rfl, _, hl, hm, hmm, _, hi⟩
  · exact ⟨none, 0, [], rfl, Nat.le_refl _, rfl, by decide, fun h => absurd h (by simp)⟩
  · have hle : len ≤ m := by rw [hmm]; split <;> omega
    obtain ⟨l, hlen, hp⟩ := list_of (α := S44) (p := fun i y => ∀ j u, ([.string y.f0, .string y.f1] : List Value)[j]? = some u → w.cell? (a.add (i * 2 + j)) = some u) len (fun i hilt => by
      obtain ⟨cs', hc, ht'⟩ := hi i (by omega)
      rw [cells44] at hc
      obtain ⟨ys, n', _, _, hlen, hyl, hf⟩ := DataW.trod_struct Tryd.underlying44 ht'
      obtain ⟨_, hcl, hat⟩ := World.cells?_some hc
      match cs', hcl with
      | [u0, u1], _ =>
        have h0 : DataW.trod enc Tryd.prog w base spare held n' 9 ((([u0, u1] : List Value).drop 0).take (Tryd.prog.cellsOf 9)) = ys[0]? := hf 0 _ rfl
        have h1 : DataW.trod enc Tryd.prog w base spare held n' 9 ((([u0, u1] : List Value).drop 1).take (Tryd.prog.cellsOf 9)) = ys[1]? := hf 1 _ rfl
        have e0 : (ys[0]?).isSome := by rw [List.getElem?_eq_getElem (by rw [hyl]; decide)]; rfl
        have e1 : (ys[1]?).isSome := by rw [List.getElem?_eq_getElem (by rw [hyl]; decide)]; rfl
        obtain ⟨y0, hy0⟩ := Option.isSome_iff_exists.1 e0
        obtain ⟨y1, hy1⟩ := Option.isSome_iff_exists.1 e1
        rw [hy0] at h0
        rw [hy1] at h1
        rw [cellsS1] at h0 h1
        simp only [List.drop_zero, List.take_succ_cons, List.take_zero, List.drop_succ_cons] at h0 h1
        obtain ⟨s0, hs0, _, _⟩ := DataW.trod_string Tryd.underlying9 h0
        obtain ⟨s1, hs1, _, _⟩ := DataW.trod_string Tryd.underlying9 h1
        obtain rfl : u0 = .string s0 := by simpa using hs0
        obtain rfl : u1 = .string s1 := by simpa using hs1
        refine ⟨⟨s0, s1⟩, fun j u hu => ?_⟩
        have hj : j < 2 := by have := (List.getElem?_eq_some_iff.1 hu).1; simpa using this
        rw [← Go.Deep.add_add]
        exact (hat j hj).trans hu)
    subst hlen
    exact ⟨some a, cap, l, rfl, hl, rfl, by unfold maxLen at hm; omega, fun _ => ⟨a, rfl, fun j p hj => ⟨_, rfl, k44_mk w p, fun i u hu => hp j p hj i u hu⟩⟩⟩
theorem open_nodes {fuel : Nat} {cs : List Value} {x : DataW H × List MemPlace} (h : DataW.trod enc Tryd.prog w base spare held fuel 22 cs = some x) :
    ∃ (A : Option Addr) (c : Nat) (l : List S30), cs = [.slice A l.length c] ∧ l.length ≤ c ∧ Kd.C k30 w A l.length l ∧ IdsIn l := by
  rcases open_slice Tryd.underlying22 h with ⟨rfl, _⟩ | ⟨a, len, cap, m, n, D, Pl, rfl, _, hl, hm, hmm, _, hi⟩
  · exact ⟨none, 0, [], rfl, Nat.le_refl _, ⟨rfl, by decide, fun h => absurd h (by simp)⟩, fun x hx => by simp at hx⟩
  · have hle : len ≤ m := by rw [hmm]; split <;> omega
    obtain ⟨l, hlen, hp⟩ := list_of (α := S30) (p := fun i y => (∃ A3 c3, y.f3.length ≤ c3 ∧ k44.C w A3 y.f3.length y.f3 ∧ ∀ j u, ([.int .u64 y.f0, .int .i64 y.f1, .string y.f2, .slice A3 y.f3.length c3] : List Value)[j]? = some u → w.cell? (a.add (i * 4 + j)) = some u) ∧ (Lit.int .u64 y.f0).wf = true) len (fun i hilt => by
      obtain ⟨cs', hc, ht'⟩ := hi i (by omega)
      rw [cells30] at hc
      obtain ⟨ys, n', _, _, hlen, hyl, hf⟩ := DataW.trod_struct Tryd.underlying30 ht'
      obtain ⟨_, hcl, hat⟩ := World.cells?_some hc
      match cs', hcl with
      | [u0, u1, u2, u3], _ =>
        have h0 : DataW.trod enc Tryd.prog w base spare held n' 27 ((([u0, u1, u2, u3] : List Value).drop 0).take (Tryd.prog.cellsOf 27)) = ys[0]? := hf 0 _ rfl
        have h1 : DataW.trod enc Tryd.prog w base spare held n' 3 ((([u0, u1, u2, u3] : List Value).drop 1).take (Tryd.prog.cellsOf 3)) = ys[1]? := hf 1 _ rfl
        have h2 : DataW.trod enc Tryd.prog w base spare held n' 9 ((([u0, u1, u2, u3] : List Value).drop 2).take (Tryd.prog.cellsOf 9)) = ys[2]? := hf 2 _ rfl
        have h3 : DataW.trod enc Tryd.prog w base spare held n' 28 ((([u0, u1, u2, u3] : List Value).drop 3).take (Tryd.prog.cellsOf 28)) = ys[3]? := hf 3 _ rfl
        obtain ⟨y0, hy0⟩ := Option.isSome_iff_exists.1 (show (ys[0]?).isSome by rw [List.getElem?_eq_getElem (by rw [hyl]; decide)]; rfl)
        obtain ⟨y1, hy1⟩ := Option.isSome_iff_exists.1 (show (ys[1]?).isSome by rw [List.getElem?_eq_getElem (by rw [hyl]; decide)]; rfl)
        obtain ⟨y2, hy2⟩ := Option.isSome_iff_exists.1 (show (ys[2]?).isSome by rw [List.getElem?_eq_getElem (by rw [hyl]; decide)]; rfl)
        obtain ⟨y3, hy3⟩ := Option.isSome_iff_exists.1 (show (ys[3]?).isSome by rw [List.getElem?_eq_getElem (by rw [hyl]; decide)]; rfl)
        rw [hy0] at h0
        rw [hy1] at h1
        rw [hy2] at h2
        rw [hy3] at h3
        rw [cellsU1] at h0
        rw [cellsI1] at h1
        rw [cellsS1] at h2
        rw [cellsA1] at h3
        simp only [List.drop_zero, List.take_succ_cons, List.take_zero, List.drop_succ_cons] at h0 h1 h2 h3
        obtain ⟨s0, hs0, _, hwf⟩ := DataW.trod_int Tryd.underlying27 h0
        obtain ⟨s1, hs1, _, _⟩ := DataW.trod_int Tryd.underlying3 h1
        obtain ⟨s2, hs2, _, _⟩ := DataW.trod_string Tryd.underlying9 h2
        obtain ⟨A3, c3, l3, hs3, hl3, hC3⟩ := open_attrs h3
        obtain rfl : u0 = .int .u64 s0 := by simpa using hs0
        obtain rfl : u1 = .int .i64 s1 := by simpa using hs1
        obtain rfl : u2 = .string s2 := by simpa using hs2
        obtain rfl : u3 = .slice A3 l3.length c3 := by simpa using hs3
        refine ⟨⟨s0, s1, s2, l3⟩, ⟨A3, c3, hl3, hC3, fun j u hu => ?_⟩, hwf⟩
        have hj : j < 4 := by have := (List.getElem?_eq_some_iff.1 hu).1; simpa using this
        rw [← Go.Deep.add_add]
        exact (hat j hj).trans hu)
    subst hlen
    refine ⟨some a, cap, l, rfl, hl, ⟨rfl, by unfold maxLen at hm; omega, fun _ => ⟨a, rfl, fun j p hj => ?_⟩⟩, fun x hx => ?_⟩
    · obtain ⟨⟨A3, c3, h1, h2, h3⟩, _⟩ := hp j p hj
      exact ⟨_, rfl, k30_mk w p h1 h2, fun i u hu => h3 i u hu⟩
    · obtain ⟨j, hj⟩ := List.getElem?_of_mem hx
      exact (hp j x hj).2
theorem open_arg {r : Reach} {b0 : Nat} {v : Value} {d : DataW H} {p : List MemPlace} (hv : Value.okWide Tryd.prog w r b0 22 v) (h : DataW.Trod enc Tryd.prog w base spare held 22 v d p) :
    ∃ (A : Option Addr) (c : Nat) (l : List S30), v = .slice A l.length c ∧ l.length ≤ c ∧ Kd.C k30 w A l.length l ∧ IdsIn l := by
  obtain ⟨a, n, c, rfl⟩ := okWide_slice Tryd.underlying22 hv
  obtain ⟨fuel, hf⟩ := h
  obtain ⟨A, c', l, he, h1, h2, h3⟩ := open_nodes hf
  have : Value.slice a n c = .slice A l.length c' := by simpa [Value.cells] using he
  exact ⟨A, c', l, this, h1, h2, h3⟩
end
end Go.Proofs.YthknhhpcogakfaaDoor.Hand

/- tree: plain laws: what a tree is, node by node; what is cut, what is left. -/
set_option linter.unusedVariables false
set_option linter.unusedSimpArgs false
namespace Go.Proofs.YthknhhpcogakfaaDoor.Hand
open Go Go.RowKit Go.Proofs.YthknhhpcogakfaaDoor.PT Go.Proofs.YthknhhpcogakfaaDoorW.PrintWords Go.Proofs.YthknhhpcogakfaaDoorW.PrintLast Go.Proofs.YthknhhpcogakfaaDoorW.PrintMore
set_option maxRecDepth 100000
set_option maxHeartbeats 1000000
def idA (l : List S30) (i : Nat) : Int := (l.getD i z30).f0
/-- A tree, node by node. -/
structure RtL (d : Int) (ids : List Int) (l : List S30) : Prop where
  node : ∀ i, i < l.length → nodeR (depB d l i) (l.getD i z30) = true
  fresh : ∀ i, i < l.length → idA l i = 0 ∨ (¬ idA l i ∈ ids ∧ ∀ j, j < i → idA l j ≠ idA l i)
theorem newR_iff (ids : List Int) (x : S30) : newR ids x = true ↔ (x.f0 = 0 ∨ ¬ x.f0 ∈ ids) := by
  unfold newR
  rw [Bool.or_eq_true, decide_eq_true_eq, decide_eq_true_eq, List.count_eq_zero]
theorem rightL_iff : ∀ (l : List S30) (d : Int) (ids : List Int), rightL d ids l = true ↔ RtL d ids l
  | [], d, ids => ⟨fun _ => ⟨fun i hi => by simp at hi, fun i hi => by simp at hi⟩, fun _ => rfl⟩
  | x :: t, d, ids => by
    rw [rightL, Bool.and_eq_true, Bool.and_eq_true, newR_iff, rightL_iff t]
    constructor
    · rintro ⟨⟨h1, h2⟩, h3⟩
      refine ⟨fun i hi => ?_, fun i hi => ?_⟩
      · cases i with
        | zero => exact h2
        | succ i =>
          have := h3.node i (by simpa using hi)
          cases i with
          | zero => exact this
          | succ i => exact this
      · cases i with
        | zero => exact h1.imp id (fun h => ⟨h, fun j hj => absurd hj (by omega)⟩)
        | succ i =>
          have := h3.fresh i (by simpa using hi)
          refine this.imp id (fun ⟨g1, g2⟩ => ⟨fun h => g1 (List.mem_cons_of_mem _ h), fun j hj => ?_⟩)
          cases j with
          | zero => exact fun h => g1 (by rw [← show x.f0 = idA t i from h]; exact List.mem_cons_self)
          | succ j => exact g2 j (by omega)
    · intro h
      refine ⟨⟨?_, h.node 0 (by simp)⟩, ⟨fun i hi => ?_, fun i hi => ?_⟩⟩
      · exact (h.fresh 0 (by simp)).imp id (fun h => h.1)
      · have := h.node (i + 1) (by simpa using hi)
        cases i with
        | zero => exact this
        | succ i => exact this
      · have := h.fresh (i + 1) (by simpa using hi)
        refine this.imp id (fun ⟨g1, g2⟩ => ⟨fun hm => ?_, fun j hj => g2 (j + 1) (by omega)⟩)
        rcases List.mem_cons.1 hm with hm | hm
        · exact g2 0 (by omega) hm.symm
        · exact g1 hm
theorem right_iff (l : List S30) : rightF l = true ↔ RtL 0 [] l ∧ l.length ≤ 300 := by
  unfold rightF
  rw [Bool.and_eq_true, decide_eq_true_eq, rightL_iff]
  constructor
  · rintro ⟨h1, h2⟩; exact ⟨h1, by omega⟩
  · rintro ⟨h1, h2⟩; exact ⟨h1, by omega⟩
/-- A node but for its depth. -/
def bodyOk (x : S30) : Bool := !(longS x.f2 || !attrsR x.f3)
theorem nodeR_iff (d : Int) (x : S30) : nodeR d x = true ↔ 1 ≤ x.f1 ∧ x.f1 ≤ 25 ∧ x.f1 ≤ d + 1 ∧ bodyOk x = true := by
  unfold nodeR bodyOk
  cases h1 : longS x.f2 <;> cases h2 : attrsR x.f3 <;> simp <;> omega
/-- The same nodes, their depths shifted. -/
theorem deepN_eq {d : Int} {x : S30} (h0 : -9223372036854775808 ≤ x.f1 + d) (h1 : x.f1 + d ≤ 9223372036854775807) : deepN d x = ⟨x.f0, x.f1 + d, x.f2, x.f3⟩ := by
  unfold deepN; rw [w64 _ h0 h1]
theorem deep0 {l : List S30} (h : rightF l = true) : l.map (deepN 0) = l := by
  have : ∀ x ∈ l, deepN 0 x = x := fun x hx => by
    obtain ⟨i, hi⟩ := List.getElem?_of_mem hx
    have hil := (List.getElem?_eq_some_iff.1 hi).1
    have := right_dep h i hil
    unfold dep at this
    rw [getD_at z30 l i x hi] at this
    rw [deepN_eq (by omega) (by omega), Int.add_zero]
  rw [List.map_congr_left this, List.map_id']
theorem getD_drop_take (l : List S30) (i m t : Nat) (ht : t < m) : ((l.drop i).take m).getD t z30 = l.getD (i + t) z30 := by
  rw [List.getD_eq_getElem?_getD, List.getD_eq_getElem?_getD, List.getElem?_take, if_pos ht, List.getElem?_drop]
/-- All behind the branch's root are deeper, and the node behind is not. -/
theorem endL_spec (d : Int) : ∀ (L : List S30) (i : Int), (∀ t : Nat, i + t < endL d L i → d < (L.getD t z30).f1) ∧ (endL d L i < i + L.length → (L.getD (endL d L i - i).toNat z30).f1 ≤ d)
  | [], i => ⟨fun t h => by rw [endL] at h; omega, fun h => by rw [endL] at h; simp at h⟩
  | x :: t, i => by
    rw [endL]
    by_cases h : d < x.f1
    · rw [if_pos h]
      obtain ⟨h1, h2⟩ := endL_spec d t (i + 1)
      refine ⟨fun q hq => ?_, fun hl => ?_⟩
      · cases q with
        | zero => exact h
        | succ q => exact h1 q (by omega)
      · have hb := (endL_bounds d t (i + 1)).1
        have := h2 (by simp only [List.length_cons] at hl; omega)
        have he : (endL d t (i + 1) - i).toNat = (endL d t (i + 1) - (i + 1)).toNat + 1 := by omega
        rw [he]
        exact this
    · rw [if_neg h]
      refine ⟨fun q hq => absurd hq (by omega), fun hl => ?_⟩
      rw [show (i - i).toNat = 0 by omega]
      exact Int.not_lt.1 h
theorem endF_spec (l : List S30) (p : Nat) (hp : p < l.length) : (∀ t, p < t → (t : Int) < endF l p → dep l p < dep l t) ∧ (endF l p < l.length → dep l (endF l p).toNat ≤ dep l p) := by
  obtain ⟨h1, h2⟩ := endL_spec (l.getD p z30).f1 (l.drop (p + 1)) ((p : Int) + 1)
  have hb := endF_le l p hp
  have hd : ∀ t, (l.drop (p + 1)).getD t z30 = l.getD (p + 1 + t) z30 := fun t => by rw [List.getD_eq_getElem?_getD, List.getD_eq_getElem?_getD, List.getElem?_drop]
  have he : endL (l.getD p z30).f1 (l.drop (p + 1)) ((p : Int) + 1) = endF l p := rfl
  rw [he] at h1 h2
  refine ⟨fun t ht1 ht2 => ?_, fun hl => ?_⟩
  · have := h1 (t - (p + 1)) (by omega)
    rw [hd, show p + 1 + (t - (p + 1)) = t by omega] at this
    exact this
  · have := h2 (by rw [List.length_drop]; omega)
    rw [hd, show p + 1 + (endF l p - ((p : Int) + 1)).toNat = (endF l p).toNat by omega] at this
    exact this
end Go.Proofs.YthknhhpcogakfaaDoor.Hand

/- tree: what is cut, what is left: trees again. -/
set_option linter.unusedVariables false
set_option linter.unusedSimpArgs false
namespace Go.Proofs.YthknhhpcogakfaaDoor.Hand
open Go Go.RowKit Go.Proofs.YthknhhpcogakfaaDoor.PT Go.Proofs.YthknhhpcogakfaaDoorW.PrintWords Go.Proofs.YthknhhpcogakfaaDoorW.PrintLast Go.Proofs.YthknhhpcogakfaaDoorW.PrintMore
set_option maxRecDepth 100000
set_option maxHeartbeats 1000000
theorem rowM_length (l : List S30) (p E : Nat) (hE : E ≤ l.length) (hp : p ≤ E) : (rowM l p (E - p)).length = E - p := by
  simp only [rowM, List.length_map, List.length_take, List.length_drop]; omega
theorem getD_map (f : S30 → S30) (l : List S30) (j : Nat) (hj : j < l.length) : (l.map f).getD j z30 = f (l.getD j z30) := by
  rw [List.getD_eq_getElem?_getD, List.getD_eq_getElem?_getD, List.getElem?_map, List.getElem?_eq_getElem hj]; rfl
theorem rowM_get {l : List S30} (h : rightF l = true) (p E j : Nat) (hE : E ≤ l.length) (hj : p + j < E) :
    (rowM l p (E - p)).getD j z30 = ⟨idA l (p + j), dep l (p + j) + (1 - dep l p), (l.getD (p + j) z30).f2, (l.getD (p + j) z30).f3⟩ := by
  have h1 := right_dep h (p + j) (by omega)
  have h2 := right_dep h p (by omega)
  unfold rowM
  rw [getD_map _ _ _ (by rw [List.length_take, List.length_drop]; omega), getD_drop_take l p (E - p) j (by omega), deepN_eq]
  · rfl
  · unfold dep at h1 h2; omega
  · unfold dep at h1 h2; omega
theorem node_body {l : List S30} (h : rightF l = true) (i : Nat) (hi : i < l.length) : bodyOk (l.getD i z30) = true := ((nodeR_iff _ _).1 (((right_iff l).1 h).1.node i hi)).2.2.2
theorem rowM_right {l : List S30} (h : rightF l = true) (p E : Nat) (hE : E ≤ l.length) (hp : p < E) (hd : ∀ t, p < t → t < E → dep l p < dep l t) : rightF (rowM l p (E - p)) = true := by
  rw [right_iff]
  have hlen := rowM_length l p E hE (by omega)
  have hl := ((right_iff l).1 h)
  refine ⟨⟨fun i hi => ?_, fun i hi => ?_⟩, by rw [hlen]; omega⟩
  · rw [hlen] at hi
    rw [nodeR_iff, rowM_get h p E i hE (by omega)]
    have h1 := right_dep h (p + i) (by omega)
    have h2 := right_dep h p (by omega)
    have hb := node_body h (p + i) (by omega)
    refine ⟨?_, ?_, ?_, hb⟩
    · show 1 ≤ dep l (p + i) + (1 - dep l p)
      rcases Nat.eq_zero_or_pos i with h0 | h0
      · subst h0; simp only [Nat.add_zero]; omega
      · have := hd (p + i) (by omega) (by omega); omega
    · show dep l (p + i) + (1 - dep l p) ≤ 25
      omega
    · show dep l (p + i) + (1 - dep l p) ≤ depB 0 (rowM l p (E - p)) i + 1
      cases i with
      | zero => simp only [Nat.add_zero, depB]; omega
      | succ i =>
        have hprev : depB 0 (rowM l p (E - p)) (i + 1) = dep l (p + i) + (1 - dep l p) := by
          show dep (rowM l p (E - p)) i = _
          unfold dep
          rw [rowM_get h p E i hE (by omega)]
          rfl
        rw [hprev]
        have := h1.2.2
        rw [show p + (i + 1) = (p + i) + 1 by omega] at this ⊢
        simp only [depB] at this
        omega
  · rw [hlen] at hi
    have hid : ∀ j, p + j < E → idA (rowM l p (E - p)) j = idA l (p + j) := fun j hj => by
      show ((rowM l p (E - p)).getD j z30).f0 = _
      rw [rowM_get h p E j hE hj]
    rw [hid i (by omega)]
    refine (hl.1.fresh (p + i) (by omega)).imp id (fun ⟨_, g⟩ => ⟨by simp, fun j hj => ?_⟩)
    rw [hid j (by omega)]
    exact g (p + j) (by omega)
/-- Where the nodes that are left stood. -/
theorem without_at (l : List S30) (p E k : Nat) (hp : p ≤ E) (hE : E ≤ l.length) : (without l p E).getD k z30 = l.getD (if k < p then k else k - p + E) z30 := by
  rw [List.getD_eq_getElem?_getD, List.getD_eq_getElem?_getD, without_get l p E hp hE k]
  split <;> rfl
theorem without_len (l : List S30) (p E : Nat) (hp : p ≤ E) (hE : E ≤ l.length) : (without l p E).length = p + (l.length - E) := by
  simp only [without, List.length_append, List.length_take, List.length_drop]; omega
theorem without_right {l : List S30} (h : rightF l = true) (p E : Nat) (hE : E ≤ l.length) (hp : p < E) (hd : E < l.length → dep l E ≤ dep l p) : rightF (without l p E) = true := by
  rw [right_iff]
  have hlen := without_len l p E (by omega) hE
  have hl := ((right_iff l).1 h)
  have hdep : ∀ k, dep (without l p E) k = dep l (if k < p then k else k - p + E) := fun k => by
    unfold dep; rw [without_at l p E k (by omega) hE]
  have hid : ∀ k, idA (without l p E) k = idA l (if k < p then k else k - p + E) := fun k => by
    unfold idA; rw [without_at l p E k (by omega) hE]
  refine ⟨⟨fun k hk => ?_, fun k hk => ?_⟩, by rw [hlen]; omega⟩
  · rw [hlen] at hk
    obtain ⟨q, hq⟩ : ∃ q, (if k < p then k else k - p + E) = q := ⟨_, rfl⟩
    have hql : q < l.length := by rw [← hq]; split <;> omega
    rw [nodeR_iff, without_at l p E k (by omega) hE, hq]
    have h1 := right_dep h q hql
    refine ⟨h1.1, h1.2.1, ?_, node_body h q hql⟩
    show dep l q ≤ _
    by_cases hkp : k < p
    · rw [if_pos hkp] at hq
      subst hq
      cases k with
      | zero => exact h1.2.2
      | succ k =>
        have := h1.2.2
        simp only [depB] at this ⊢
        rw [hdep k, if_pos (by omega)]
        exact this
    · rw [if_neg hkp] at hq
      rcases Nat.lt_or_ge p k with hlt | hge
      · obtain ⟨k, rfl⟩ : ∃ m, k = m + 1 := ⟨k - 1, by omega⟩
        have := h1.2.2
        simp only [depB]
        rw [hdep k, if_neg (by omega)]
        rw [show q = (k - p + E) + 1 by omega] at this ⊢
        exact this
      · obtain rfl : k = p := by omega
        rw [Nat.sub_self, Nat.zero_add] at hq
        subst hq
        have h2 := hd hql
        have h3 := (right_dep h k (by omega)).2.2
        cases k with
        | zero => simp only [depB] at h3 ⊢; omega
        | succ k =>
          simp only [depB] at h3 ⊢
          rw [hdep k, if_pos (by omega)]
          omega
  · rw [hlen] at hk
    rw [hid k]
    refine (hl.1.fresh _ (by split <;> omega)).imp id (fun ⟨_, g⟩ => ⟨by simp, fun j hj => ?_⟩)
    rw [hid j]
    exact g _ (by split <;> split <;> omega)
theorem idxF_none {α : Type} (p : α → Bool) : ∀ (L : List α) (i : Int), (∀ x ∈ L, p x = false) → idxF p L i = -1
  | [], _, _ => rfl
  | x :: t, i, h => by
    rw [idxF, h x List.mem_cons_self, if_neg Bool.false_ne_true]
    exact idxF_none p t (i + 1) (fun y hy => h y (List.mem_cons_of_mem _ hy))
theorem find_cut {l : List S30} (h : rightF l = true) (p E q : Nat) (hE : E ≤ l.length) (hp : p ≤ q) (hq : q < E) : findF (without l p E) (idA l q) = -1 := by
  unfold findF
  split
  · rfl
  · rename_i hne
    refine idxF_none _ _ _ (fun x hx => decide_eq_false (fun he => ?_))
    obtain ⟨k, hk⟩ := List.getElem?_of_mem hx
    have hkl := (List.getElem?_eq_some_iff.1 hk).1
    rw [without_len l p E (by omega) hE] at hkl
    have hxe : idA l (if k < p then k else k - p + E) = idA l q := by
      rw [← he]
      unfold idA
      rw [← without_at l p E k (by omega) hE, getD_at z30 _ k x hk]
    have hf := ((right_iff l).1 h).1.fresh
    by_cases hkp : k < p
    · rw [if_pos hkp] at hxe
      rcases hf q (by omega) with h0 | ⟨_, g⟩
      · exact hne h0
      · exact g k (by omega) hxe
    · rw [if_neg hkp] at hxe
      rcases hf (k - p + E) (by omega) with h0 | ⟨_, g⟩
      · rw [hxe] at h0; exact hne h0
      · exact g q (by omega) hxe.symm
theorem kids_root {x : List S30} (h : rightF x = true) (hn : 0 < x.length) (hd : ∀ t, 0 < t → t < x.length → dep x 0 < dep x t) : kidsF x (-1) = [0] := by
  unfold kidsF
  rw [if_pos ⟨h, .inl rfl⟩]
  show kidsL x (x.length + 1 - 0) 0 x.length = [0]
  have he : endF x 0 = x.length := by
    have h1 := endF_le x 0 hn
    rcases Nat.lt_or_ge 1 x.length with h2 | h2
    · have := endF_ge x 0 (x.length - 1) (by omega) (by omega) (fun t h3 h4 => hd t h3 (by omega))
      omega
    · omega
  rw [kidsL_step x x.length 0 (Nat.le_refl _) hn, he, kidsL_done x x.length _ _ (by omega)]
  rfl
end Go.Proofs.YthknhhpcogakfaaDoor.Hand

/- tree: TreeCuts. -/
set_option linter.unusedVariables false
set_option linter.unusedSimpArgs false
namespace Go.Proofs.YthknhhpcogakfaaDoor.Hand
open Go Go.RowKit Go.Proofs.YthknhhpcogakfaaDoor.PT Go.Proofs.YthknhhpcogakfaaDoorW.PrintWords Go.Proofs.YthknhhpcogakfaaDoorW.PrintLast Go.Proofs.YthknhhpcogakfaaDoorW.PrintMore
set_option maxRecDepth 100000
set_option maxHeartbeats 1000000
theorem all_wf_iff {l : List S30} : l.all (fun x => (Lit.int .u64 x.f0).wf) = true ↔ ∀ i, i < l.length → (Lit.int .u64 (idA l i)).wf = true := by
  rw [List.all_eq_true]
  constructor
  · intro h i hi
    exact h _ (by rw [List.getD_eq_getElem?_getD, List.getElem?_eq_getElem hi]; exact List.getElem_mem hi)
  · intro h x hx
    obtain ⟨i, hi⟩ := List.getElem?_of_mem hx
    have := h i (List.getElem?_eq_some_iff.1 hi).1
    unfold idA at this
    rwa [getD_at z30 l i x hi] at this
theorem rowM_wf {l : List S30} (h : rightF l = true) (hw : l.all (fun x => (Lit.int .u64 x.f0).wf) = true) (p E : Nat) (hE : E ≤ l.length) (hp : p ≤ E) : (rowM l p (E - p)).all (fun x => (Lit.int .u64 x.f0).wf) = true := by
  rw [all_wf_iff] at hw ⊢
  intro i hi
  rw [rowM_length l p E hE hp] at hi
  have : idA (rowM l p (E - p)) i = idA l (p + i) := by
    show ((rowM l p (E - p)).getD i z30).f0 = _
    rw [rowM_get h p E i hE (by omega)]
  rw [this]
  exact hw _ (by omega)
theorem without_wf {l : List S30} (hw : l.all (fun x => (Lit.int .u64 x.f0).wf) = true) (p E : Nat) (hE : E ≤ l.length) (hp : p ≤ E) : (without l p E).all (fun x => (Lit.int .u64 x.f0).wf) = true := by
  rw [List.all_eq_true] at hw ⊢
  intro x hx
  unfold without at hx
  rcases List.mem_append.1 hx with h | h
  · exact hw x (List.mem_of_mem_take h)
  · exact hw x (List.mem_of_mem_drop h)
theorem treeCuts_loop (U X : List S30) (hU : U.all (fun x => (Lit.int .u64 x.f0).wf) = true) (hX : X.all (fun x => (Lit.int .u64 x.f0).wf) = true) (hlen : X.length ≤ 1000) (hf : ∀ i, i < X.length → findF U (idA X i) = -1)
    (h1 : rightF U = true) (h2 : rightF X = true) (h3 : kidsF X (-1) = [0]) : ∀ (d i k : Nat), X.length - i = d → i ≤ X.length → d + 1 ≤ k → pleacherlaw11_TreeCuts.l0 k true U X (i : Int) = some true := by
  intro d
  induction d with
  | zero =>
    intro i k hd hi hk
    obtain ⟨k, rfl⟩ : ∃ m, k = m + 1 := ⟨k - 1, by omega⟩
    rw [pleacherlaw11_TreeCuts.l0, if_neg (by omega), if_pos rfl]
    unfold tree_Right.f tree_Kids.f
    rw [if_pos hU, Option.bind_some, if_pos h1, if_pos hX, Option.bind_some, if_pos h2, if_pos hX, Option.bind_some, h3]
    rfl
  | succ d ih =>
    intro i k hd hi hk
    obtain ⟨k, rfl⟩ : ∃ m, k = m + 1 := ⟨k - 1, by omega⟩
    rw [pleacherlaw11_TreeCuts.l0, if_pos (by omega), if_pos (by omega), rdT]
    have : tree_Find.f U (X.getD i z30).f0 = some (-1) := by
      show some (findF U (idA X i)) = some (-1)
      rw [hf i (by omega)]
    rw [this, Option.bind_some, if_neg (by omega), w64 _ (by omega) (by omega), show (i : Int) + 1 = ((i + 1 : Nat) : Int) by omega]
    exact ih (i + 1) k (by omega) (by omega) (by omega)
theorem treeCuts_true (l : List S30) (a : Int) (hid : IdsIn l) : ∃ k, pleacherlaw11_TreeCuts.f k l a = some true := by
  refine ⟨3000, ?_⟩
  obtain ⟨K, hK⟩ : ∃ K, (3000 : Nat) = K := ⟨_, rfl⟩
  rw [hK]
  have hk : 2900 ≤ K := by omega
  clear hK
  unfold pleacherlaw11_TreeCuts.f
  have hw := few_ids hid
  have hl := few_len l
  rw [shown_true _ (by omega), Option.bind_some, few_eq _ _ (by omega), Option.bind_some]
  obtain ⟨t, ht⟩ : ∃ t, fewL l = t := ⟨_, rfl⟩
  rw [ht] at hw hl ⊢
  obtain ⟨K, rfl⟩ : ∃ m, K = m + 1 := ⟨K - 1, by omega⟩
  unfold tree_Cut.f tree_Branch.f
  rw [if_pos hw, if_pos hw, Option.bind_some, Option.bind_some]
  by_cases h : rightF t = true
  · by_cases h2 : placeB t a = true
    · obtain ⟨p, rfl, hp⟩ := place_nat h2
      have hc : cutF t (p : Int) = (without t p (endF t p).toNat, 0) := by
        unfold cutF
        rw [if_pos h, if_pos h2, deep0 h]
        rfl
      have hb : branchF t (p : Int) = (rowM t p ((endF t p).toNat - p), 0) := by
        unfold branchF
        rw [if_pos h, if_pos h2]
        rfl
      rw [hc, hb]
      have he := endF_le t p hp
      obtain ⟨s1, s2⟩ := endF_spec t p hp
      obtain ⟨E, hE⟩ : ∃ E : Nat, (endF t p).toNat = E := ⟨_, rfl⟩
      have hEE : endF t p = (E : Int) := by omega
      rw [hEE] at s1 s2 he
      rw [hE]
      have hd : ∀ q, p < q → q < E → dep t p < dep t q := fun q h1 h2 => s1 q h1 (by omega)
      have hXr := rowM_right h p E (by omega) (by omega) hd
      have hXl := rowM_length t p E (by omega) (by omega)
      have hdX : ∀ j, p + j < E → dep (rowM t p (E - p)) j = dep t (p + j) + (1 - dep t p) := fun j hj => by
        show ((rowM t p (E - p)).getD j z30).f1 = _
        rw [rowM_get h p E j (by omega) hj]
      show pleacherlaw11_TreeCuts.j0 (K + 1) true (without t p E) 0 (rowM t p (E - p)) 0 false = some true
      rw [pleacherlaw11_TreeCuts.j0, if_neg Bool.false_ne_true]
      refine treeCuts_loop _ _ (without_wf hw p E (by omega) (by omega)) (rowM_wf h hw p E (by omega) (by omega)) (by omega) (fun i hi => ?_) (without_right h p E (by omega) (by omega) (fun hl => ?_)) hXr (kids_root hXr (by omega) (fun q h1 h2 => ?_)) (rowM t p (E - p)).length 0 K (by omega) (by omega) (by omega)
      · rw [hXl] at hi
        have : idA (rowM t p (E - p)) i = idA t (p + i) := by
          show ((rowM t p (E - p)).getD i z30).f0 = _
          rw [rowM_get h p E i (by omega) (by omega)]
        rw [this]
        exact find_cut h p E (p + i) (by omega) (by omega) (by omega)
      · have := s2 (by omega)
        simpa using this
      · rw [hXl] at h2
        rw [hdX 0 (by omega), hdX q (by omega)]
        have := hd (p + q) (by omega) (by omega)
        simp only [Nat.add_zero]
        omega
    · have hc : cutF t a = ([], 111) := by unfold cutF; rw [if_pos h, if_neg h2]
      have hb : branchF t a = ([], 111) := by unfold branchF; rw [if_pos h, if_neg h2]
      rw [hc, hb]
      show pleacherlaw11_TreeCuts.j0 (K + 1) true [] 111 [] 111 true = some true
      rw [pleacherlaw11_TreeCuts.j0]
      rfl
  · have hc : cutF t a = ([], 110) := by unfold cutF; rw [if_neg h]
    have hb : branchF t a = ([], 110) := by unfold branchF; rw [if_neg h]
    rw [hc, hb]
    show pleacherlaw11_TreeCuts.j0 (K + 1) true [] 110 [] 110 true = some true
    rw [pleacherlaw11_TreeCuts.j0]
    rfl
theorem treeCuts_calls (A0 : Option Addr) (c0 : Nat) (l0 : List S30) (a1 : Int) (w : World) (hG : Gs w) (hr0 : Kd.C k30 w A0 l0.length l0) (hc0 : l0.length ≤ c0) (hid : IdsIn l0) : Calls Tryd.prog 5 #[.slice A0 l0.length c0, .int .i64 a1] w fun e w' => e = .returned (.bool true) ∧ Below w.heap.size w w' := by
  obtain ⟨k, hk⟩ := treeCuts_true l0 a1 hid
  exact pleacherlaw11_TreeCuts.calls k A0 c0 l0 a1 true w hr0 hc0 hG hk
end Go.Proofs.YthknhhpcogakfaaDoor.Hand
