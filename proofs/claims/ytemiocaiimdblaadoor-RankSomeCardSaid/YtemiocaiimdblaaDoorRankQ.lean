/- rank: the plain law: the key between is a key, is between, and short. -/
import Derived.Test.YtemiocaiimdblaaDoorRankP
set_option linter.unusedVariables false
set_option linter.unusedSimpArgs false
namespace Go.Proofs.YtemiocaiimdblaaDoor.Hand
open Go Go.RowKit Go.Proofs.YtemiocaiimdblaaDoor.K
set_option maxHeartbeats 1000000
theorem key_list (L : List Int) : (keyOf L).data.toList = L.map fun n => UInt8.ofNat (97 + n).toNat := by simp [keyOf, strOfNums]
theorem key_size (L : List Int) : (keyOf L).size = L.length := by rw [← size_list, key_list, List.length_map]
theorem key_byte {n : Int} (h0 : 0 ≤ n) (h1 : n ≤ 25) : (UInt8.ofNat (97 + n).toNat).toNat = (97 + n).toNat := by
  rw [UInt8.toNat_ofNat']; omega
theorem key_lett {L : List Int} (h : ∀ t, t < L.length → 0 ≤ L.getD t 0 ∧ L.getD t 0 ≤ 25) (i : Nat) : lett (keyOf L) i = L.getD i 0 := by
  by_cases hi : i < L.length
  · have h1 := h i hi
    rw [lett_eq, key_list, List.getElem?_map, List.getElem?_eq_getElem hi]
    simp only [List.getD_eq_getElem?_getD, List.getElem?_eq_getElem hi, Option.getD_some] at h1 ⊢
    simp only [Option.map_some]
    rw [key_byte h1.1 h1.2, Int.toNat_of_nonneg (by omega)]
    show (97 + L[i] : Int) - 97 = L[i]
    omega
  · rw [lett_none (by rw [key_size]; omega), List.getD_eq_getElem?_getD, List.getElem?_eq_none (by omega)]; rfl
theorem letters_iff {s : ByteArray} : lettersB s = true ↔ Let s := by
  unfold lettersB Let
  rw [List.all_eq_true]
  constructor
  · intro h i c e
    simpa using h c (List.mem_of_getElem? e)
  · intro h c hc
    obtain ⟨i, e⟩ := List.getElem?_of_mem hc
    simpa using h i c e
theorem suf_a {s : ByteArray} (hp : 0 < s.size) (hL : Let s) : sufB s ⟨#[97]⟩ = decide (lett s (s.size - 1) = 0) := by
  have h1 : ((⟨#[97]⟩ : ByteArray).size) = 1 := rfl
  obtain ⟨c, e1, e2⟩ := lett_some (s := s) (i := s.size - 1) (by omega)
  have hb := hL _ _ e1
  unfold sufB
  rw [h1, ByteArray.toList_eq, ByteArray.toList_eq, ByteArray.data_extract, Array.toList_extract]
  have h2 : (s.data.toList.extract (s.size - 1) s.size) = [c] := by
    rw [List.extract_eq_take_drop, show s.size - (s.size - 1) = 1 from by omega]
    obtain ⟨hlt, e3⟩ := List.getElem?_eq_some_iff.1 e1
    rw [List.drop_eq_getElem_cons hlt, e3]
    rfl
  rw [h2]
  have h3 : decide (1 ≤ s.size) = true := by simp; omega
  rw [h3, Bool.true_and, e2]
  have h4 : (([c] : List UInt8) == (⟨#[97]⟩ : ByteArray).data.toList) = decide (c = 97) := by
    simp
    first | rfl | exact beq_eq_decide _ _ | (rw [Bool.eq_iff_iff]; simp)
  rw [h4]
  congr 1
  simp only [eq_iff_iff]
  constructor
  · rintro rfl; rfl
  · intro h; exact UInt8.toNat_inj.1 (by show c.toNat = 97; omega)
theorem right_iff {s : ByteArray} : rightB s = true ↔ 0 < s.size ∧ s.size ≤ 200 ∧ Let s ∧ lett s (s.size - 1) ≠ 0 := by
  unfold rightB
  simp only [Bool.and_eq_true, decide_eq_true_eq, Bool.not_eq_true', letters_iff]
  constructor
  · rintro ⟨⟨⟨h1, h2⟩, h3⟩, h4⟩
    rw [suf_a (by omega) h3, decide_eq_false_iff_not] at h4
    exact ⟨by omega, h2, h3, h4⟩
  · rintro ⟨h1, h2, h3, h4⟩
    refine ⟨⟨⟨by omega, h2⟩, h3⟩, ?_⟩
    rw [suf_a h1 h3, decide_eq_false_iff_not]
    exact h4
theorem isl_right {s : ByteArray} (h : rightB s = true) : Isl s := isl_of (by simp [okB, h])
theorem last_pos {s : ByteArray} (h : rightB s = true) : 0 < s.size ∧ 0 < lett s (s.size - 1) := by
  have h1 := right_iff.1 h
  have := (isl_right h (s.size - 1)).1
  exact ⟨h1.1, by omega⟩
theorem ahead_right {s t : ByteArray} (ht : rightB t = true) (h : lessB s t = true) : Ahead s t := ahead_of_less (isl_right ht) (last_pos ht).1 (last_pos ht).2 h
/-- Where a gap was found, the key is one, and behind a. -/
theorem key_good {a : ByteArray} (hla : Isl a) {L : List Int} {j : Nat} {mid : Int} (h1 : L.length = j + 1) (h2 : j < 200) (h3 : ∀ t, t < j → L.getD t 0 = lett a t) (h4 : L.getD j 0 = mid) (h5 : lett a j < mid) (h6 : mid ≤ 25) :
    rightB (keyOf L) = true ∧ lessB a (keyOf L) = true ∧ ∀ i, lett (keyOf L) i = L.getD i 0 := by
  have hr : ∀ t, t < L.length → 0 ≤ L.getD t 0 ∧ L.getD t 0 ≤ 25 := fun t ht => by
    by_cases e : t = j
    · subst e; rw [h4]; have := (hla t).1; omega
    · rw [h3 t (by omega)]; exact hla t
  have hk := key_lett hr
  have hs : (keyOf L).size = j + 1 := by rw [key_size, h1]
  have ha := (hla j).1
  refine ⟨right_iff.2 ⟨by omega, by omega, ?_, ?_⟩, less_of_ahead ⟨j, by omega, by rw [hk, h4]; exact h5, fun i hi => by rw [hk, h3 i hi]⟩, hk⟩
  · intro i c e
    rw [key_list, List.getElem?_map] at e
    cases e2 : L[i]? with
    | none => rw [e2] at e; cases e
    | some x =>
      rw [e2] at e
      simp only [Option.map_some, Option.some.injEq] at e
      have hx := hr i (List.getElem?_eq_some_iff.1 e2).1
      rw [List.getD_eq_getElem?_getD, e2] at hx
      simp only [Option.getD_some] at hx
      rw [← e, key_byte hx.1 hx.2]
      omega
  · rw [hs, hk, show j + 1 - 1 = j from rfl, h4]
    omega
/-- Where none was, it is none that is behind a. -/
theorem key_bad {a : ByteArray} (hla : Isl a) {L : List Int} (h1 : L.length = 200) (h2 : ∀ t, t < 200 → L.getD t 0 = lett a t) : (rightB (keyOf L) && lessB a (keyOf L)) = false := by
  rw [Bool.and_eq_false_iff]
  cases hr : rightB (keyOf L) with
  | false => exact .inl rfl
  | true =>
    right
    cases hl : lessB a (keyOf L) with
    | false => rfl
    | true =>
      obtain ⟨m, hm, hlt, _⟩ := ahead_right hr hl
      rw [key_size, h1] at hm
      rw [key_lett (fun t ht => by rw [h2 t (by omega)]; exact hla t), h2 m hm] at hlt
      omega
theorem okB_nonempty {s : ByteArray} (h : okB s = true) (hp : 0 < s.size) : rightB s = true := by
  have : s.size ≠ 0 := by omega
  simpa [okB, this] using h
/-- a is ahead of b, letter by letter, or there is nothing ahead. -/
theorem ahead_ab {a b : ByteArray} (hb : okB b = true) (hp : 0 < b.size) (h : a.size = 0 ∨ lessB a b = true) : Ahead a b := by
  have hr := okB_nonempty hb hp
  rcases h with h | h
  · obtain ⟨q, hq1, hq2, hq3, hq4⟩ := first_pos (f := lett b) (fun i => (isl_right hr i).1) (b.size - 1) 0 (by rw [Nat.zero_add]; exact (last_pos hr).2)
    exact ⟨q, by omega, by rw [lett_none (by omega)]; exact hq3, fun i hi => by rw [lett_none (by omega), hq4 i (by omega) hi]⟩
  · exact ahead_right hr h
/-- All about the letters of the key between. -/
theorem digs_all {a b : ByteArray} (ha : okB a = true) (hb : okB b = true) (h : a.size = 0 ∨ b.size = 0 ∨ lessB a b = true) {L : List Int} (hL : digs a b 200 0 b.toList.isEmpty = L) :
    (L.length = 200 ∧ (∀ t, t < 200 → L.getD t 0 = lett a t) ∧ 200 ≤ max a.size b.size) ∨
    (∃ j mid, L.length = j + 1 ∧ j < 200 ∧ (∀ t, t < j → L.getD t 0 = lett a t) ∧ L.getD j 0 = mid ∧ lett a j < mid ∧ mid ≤ 25 ∧ j ≤ max a.size b.size ∧ (0 < b.size → lessB (keyOf L) b = true)) := by
  have hla := isl_of ha
  have hlb := isl_of hb
  have hab : 0 < b.size → Ahead a b := fun hp => ahead_ab hb hp (by rcases h with h | h | h; exact .inl h; omega; exact .inr h)
  have hfree : b.toList.isEmpty = true ↔ b.size = 0 := nil_iff b
  have hz : lett a (max a.size b.size) = 0 := lett_none (by omega)
  have hf : b.toList.isEmpty = true ∨ ∃ t', t' < max a.size b.size ∧ lett a (0 + t') < lett b (0 + t') := by
    by_cases hp : b.size = 0
    · exact .inl (hfree.2 hp)
    · obtain ⟨m, hm, hlt, _⟩ := hab (by omega)
      exact .inr ⟨m, by omega, by simpa using hlt⟩
  have hs := digs_spec a b 200 0 b.toList.isEmpty L hL
  simp only [Nat.zero_add] at hs hf
  rcases hs with ⟨h1, h2, h3⟩ | ⟨j, mid, h1, h2, h3, h4, h5, h6, h7⟩
  · refine .inl ⟨h1, h2, ?_⟩
    refine Nat.le_of_not_lt fun hlt => ?_
    have := h3 _ hlt hf
    omega
  · have hm25 : mid ≤ 25 := by
      rcases h7 with ⟨h8, _⟩ | ⟨h8, _⟩
      · have := (hlb j).2; omega
      · omega
    refine .inr ⟨j, mid, h1, h2, h3, h4, h5, hm25, ?_, fun hp => ?_⟩
    · refine Nat.le_of_not_lt fun hlt => ?_
      have := h6 _ hlt hf
      omega
    · obtain ⟨_, _, hk⟩ := key_good hla h1 h2 h3 h4 h5 hm25
      obtain ⟨m, hm, hlt, heq⟩ := hab hp
      have ha0 := (hla j).1
      rcases h7 with ⟨h8, _, h9⟩ | ⟨_, h9 | ⟨t, h9, h10, h11⟩⟩
      · have hjm : j ≤ m := Nat.le_of_not_lt fun hx => by have := h9 m hx; omega
        refine less_of_ahead ⟨j, Nat.lt_of_not_le fun hx => ?_, by rw [hk, h4]; exact h8, fun i hi => by rw [hk, h3 i hi]; exact heq i (by omega)⟩
        rw [lett_none hx] at h8
        omega
      · have := hfree.1 h9
        omega
      · have htm : t ≤ m := Nat.le_of_not_lt fun hx => by have := h11 m hx; omega
        have ht0 := (hla t).1
        refine less_of_ahead ⟨t, Nat.lt_of_not_le fun hx => ?_, by rw [hk, h3 t h9]; exact h10, fun i hi => by rw [hk, h3 i (by omega)]; exact heq i (by omega)⟩
        rw [lett_none hx] at h10
        omega
theorem cond_iff {a b : ByteArray} : ((okB a && okB b) && (decide (a.size = 0) || decide (b.size = 0) || lessB a b)) = true ↔ okB a = true ∧ okB b = true ∧ (a.size = 0 ∨ b.size = 0 ∨ lessB a b = true) := by
  simp only [Bool.and_eq_true, Bool.or_eq_true, decide_eq_true_eq]
  constructor
  · rintro ⟨⟨h1, h2⟩, (h3 | h3) | h3⟩
    · exact ⟨h1, h2, .inl h3⟩
    · exact ⟨h1, h2, .inr (.inl h3)⟩
    · exact ⟨h1, h2, .inr (.inr h3)⟩
  · rintro ⟨h1, h2, h3 | h3 | h3⟩
    · exact ⟨⟨h1, h2⟩, .inl (.inl h3)⟩
    · exact ⟨⟨h1, h2⟩, .inl (.inr h3)⟩
    · exact ⟨⟨h1, h2⟩, .inr h3⟩
theorem next_some {a b k : ByteArray} (h : nextK a b = some k) :
    rightB k = true ∧ lessB a k = true ∧ (0 < b.size → lessB k b = true) ∧ k.size ≤ max a.size b.size + 1 := by
  unfold nextK at h
  split at h
  · rename_i hc
    obtain ⟨ha, hb, hx⟩ := cond_iff.1 hc
    simp only at h
    generalize hL : digs a b 200 0 b.toList.isEmpty = L at h
    split at h
    · rename_i hk
      obtain rfl := Option.some.inj h
      have hk' : rightB (keyOf L) = true ∧ lessB a (keyOf L) = true := by simpa using hk
      rcases digs_all ha hb hx hL with ⟨h1, h2, _⟩ | ⟨j, mid, h1, h2, h3, h4, h5, h6, h7, h8⟩
      · rw [key_bad (isl_of ha) h1 h2] at hk; cases hk
      · exact ⟨hk'.1, hk'.2, h8, by rw [key_size, h1]; omega⟩
    · cases h
  · cases h
theorem next_none {a b : ByteArray} (h : nextK a b = none) : ((okB a && okB b) && (decide (a.size = 0) || decide (b.size = 0) || lessB a b)) = false ∨ 200 ≤ max a.size b.size := by
  unfold nextK at h
  split at h
  · rename_i hc
    obtain ⟨ha, hb, hx⟩ := cond_iff.1 hc
    simp only at h
    generalize hL : digs a b 200 0 b.toList.isEmpty = L at h
    rcases digs_all ha hb hx hL with ⟨h1, h2, h3⟩ | ⟨j, mid, h1, h2, h3, h4, h5, h6, h7, h8⟩
    · exact .inr h3
    · obtain ⟨g1, g2, _⟩ := key_good (isl_of ha) h1 h2 h3 h4 h5 h6
      rw [g1, g2] at h
      cases h
  · rename_i hc
    exact .inl (by simpa using hc)
end Go.Proofs.YtemiocaiimdblaaDoor.Hand
