/- rank: the law RankHalves. -/
import Derived.Test.YtemiocaiimdblaaDoorRankL
set_option linter.unusedVariables false
set_option linter.unusedSimpArgs false
namespace Go.Proofs.YtemiocaiimdblaaDoor.Hand
open Go Go.RowKit Go.Shelf Go.Proofs.YtemiocaiimdblaaDoor.K
set_option maxRecDepth 100000
set_option maxHeartbeats 400000
theorem size_right {s : ByteArray} (h : rightB s = true) : 0 < s.size ∧ s.size ≤ 200 := ⟨(right_iff.1 h).1, (right_iff.1 h).2.1⟩
/-- Behind a key that is short, and one between: a key between again. -/
theorem next_some_of {a b : ByteArray} (ha : okB a = true) (hb : okB b = true) (h : a.size = 0 ∨ b.size = 0 ∨ lessB a b = true) (hs : max a.size b.size < 200) : ∃ k, nextK a b = some k := by
  cases hk : nextK a b with
  | some k => exact ⟨k, rfl⟩
  | none =>
    rcases next_none hk with h1 | h1
    · rw [cond_iff.2 ⟨ha, hb, h⟩] at h1; cases h1
    · omega
theorem cond_of_some {a b k : ByteArray} (h : nextK a b = some k) : okB a = true ∧ okB b = true := by
  unfold nextK at h
  split at h
  · rename_i hc; exact ⟨(cond_iff.1 hc).1, (cond_iff.1 hc).2.1⟩
  · cases h
theorem halves {a b k : ByteArray} (ha : a.size ≤ 100) (hb : b.size ≤ 100) (h : nextK a b = some k) :
    ∃ x y, nextK a k = some x ∧ nextK k b = some y ∧ lessB x k = true ∧ lessB k y = true ∧ lessB a x = true ∧ (0 < b.size → lessB y b = true) := by
  obtain ⟨p1, p2, p3, p4⟩ := next_some h
  obtain ⟨q1, q2⟩ := cond_of_some h
  have hk : okB k = true := by simp [okB, p1]
  have hk0 := size_right p1
  obtain ⟨x, hx⟩ := next_some_of q1 hk (.inr (.inr p2)) (by omega)
  obtain ⟨y, hy⟩ := next_some_of hk q2 (by
    by_cases e : b.size = 0
    · exact .inr (.inl e)
    · exact .inr (.inr (p3 (by omega)))) (by omega)
  have hx' := next_some hx
  have hy' := next_some hy
  exact ⟨x, y, hx, hy, hx'.2.2.1 hk0.1, hy'.2.1, hx'.2.1, hy'.2.2.1⟩
theorem cut_or (n : Nat) (s : ByteArray) : (s.size ≤ n ∧ cutF n s = s) ∨ (n < s.size ∧ cutF n s = s.extract 0 n) := by
  unfold cutF
  by_cases h : s.size ≤ n
  · exact .inl ⟨h, by rw [show min s.size n = s.size from by omega, ByteArray.extract_zero_size]⟩
  · exact .inr ⟨by omega, by rw [show min s.size n = n from by omega]⟩
theorem rankHalves_some (a0 b0 a b k : ByteArray) (ea : (a0.size ≤ 100 ∧ a = a0) ∨ (100 < a0.size ∧ a = a0.extract 0 100)) (eb : (b0.size ≤ 100 ∧ b = b0) ∨ (100 < b0.size ∧ b = b0.extract 0 100)) (hla : a.size ≤ 100) (hlb : b.size ≤ 100) (hk : nextK a b = some k) (g : Addr) (w : World) (hg : Gv g w) (ha0 : a0.size ≤ maxLen) (hb0 : b0.size ≤ maxLen) : Calls Tryd.prog 5 #[.string a0, .string b0] w fun e w' => e = .returned (.bool true) ∧ Ext w w' := by
  have hE : Ext w w := Ext.refl w
  obtain ⟨x, y, hx, hy, l1, l2, l3, l4⟩ := halves hla hlb hk
  have h1 := bt (betwF_some hk)
  have h2 := bt (betwF_some hx)
  have h3 := bt (betwF_some hy)
  have L1 := Lib.hid l1
  have L2 := Lib.hid l2
  have L3 := Lib.hid l3
  have HB : Hid (b.toList.isEmpty = false → lessB y b = true) := Lib.hid fun h => l4 (by rw [empty_bool] at h; have := of_decide_eq_false h; omega)
  clear l1 l2 l3 l4 hx hy hk hla hlb
  cases nb : b.toList.isEmpty with
  | true =>
    cases na : a.toList.isEmpty <;> rcases ea with ⟨ea1, rfl⟩ | ⟨ea1, rfl⟩ <;> rcases eb with ⟨eb1, rfl⟩ | ⟨eb1, rfl⟩ <;>
    (go_enter Tryd.func5, Tryd.ntmps5
     go_wp2_with (first
       | (go_at_call 9; (with_reducible refine (shown_calls g _ (gvx hE hg)).mono ?_); rintro e w' ⟨rfl, hx⟩; replace hE := hE.trans hx; clear hx)
       | (go_at_call 15; (with_reducible refine (less_calls _ _ _).mono ?_); rintro e w' ⟨rfl, rfl⟩; first | rw [L1.out] | rw [L2.out] | rw [L3.out] | rw [HB.out])
       | (go_at_call 11; first | (with_reducible refine (h1 g _ (gvx hE hg)).mono ?_) | (with_reducible refine (h2 g _ (gvx hE hg)).mono ?_) | (with_reducible refine (h3 g _ (gvx hE hg)).mono ?_)
          rintro e w' ⟨rfl, hx⟩; replace hE := hE.trans hx; clear hx))) <;>
    (go_ret; exact ⟨rfl, hE⟩)
  | false =>
    have HB := Lib.hid (HB.out nb)
    cases na : a.toList.isEmpty <;> rcases ea with ⟨ea1, rfl⟩ | ⟨ea1, rfl⟩ <;> rcases eb with ⟨eb1, rfl⟩ | ⟨eb1, rfl⟩ <;>
    (go_enter Tryd.func5, Tryd.ntmps5
     go_wp2_with (first
       | (go_at_call 9; (with_reducible refine (shown_calls g _ (gvx hE hg)).mono ?_); rintro e w' ⟨rfl, hx⟩; replace hE := hE.trans hx; clear hx)
       | (go_at_call 15; (with_reducible refine (less_calls _ _ _).mono ?_); rintro e w' ⟨rfl, rfl⟩; first | rw [L1.out] | rw [L2.out] | rw [L3.out] | rw [HB.out])
       | (go_at_call 11; first | (with_reducible refine (h1 g _ (gvx hE hg)).mono ?_) | (with_reducible refine (h2 g _ (gvx hE hg)).mono ?_) | (with_reducible refine (h3 g _ (gvx hE hg)).mono ?_)
          rintro e w' ⟨rfl, hx⟩; replace hE := hE.trans hx; clear hx))) <;>
    (go_ret; exact ⟨rfl, hE⟩)
theorem rankHalves_none (a0 b0 a b : ByteArray) (ea : (a0.size ≤ 100 ∧ a = a0) ∨ (100 < a0.size ∧ a = a0.extract 0 100)) (eb : (b0.size ≤ 100 ∧ b = b0) ∨ (100 < b0.size ∧ b = b0.extract 0 100)) (hk : nextK a b = none) (g : Addr) (w : World) (hg : Gv g w) (ha0 : a0.size ≤ maxLen) (hb0 : b0.size ≤ maxLen) : Calls Tryd.prog 5 #[.string a0, .string b0] w fun e w' => e = .returned (.bool true) ∧ Ext w w' := by
  have hE : Ext w w := Ext.refl w
  have h1 := bt (betwF_none hk)
  clear hk
  rcases ea with ⟨ea1, rfl⟩ | ⟨ea1, rfl⟩ <;> rcases eb with ⟨eb1, rfl⟩ | ⟨eb1, rfl⟩ <;>
  (go_enter Tryd.func5, Tryd.ntmps5
   go_wp2_with (first
     | (go_at_call 9; (with_reducible refine (shown_calls g _ (gvx hE hg)).mono ?_); rintro e w' ⟨rfl, hx⟩; replace hE := hE.trans hx; clear hx)
     | (go_at_call 11; (with_reducible refine (h1 g _ (gvx hE hg)).mono ?_)
        rintro e w' ⟨rfl, hx⟩; replace hE := hE.trans hx; clear hx))) <;>
  (go_ret; exact ⟨rfl, hE⟩)
theorem rankHalves_calls (a0 b0 : ByteArray) (g : Addr) (w : World) (hg : Gv g w) (ha0 : a0.size ≤ maxLen) (hb0 : b0.size ≤ maxLen) : Calls Tryd.prog 5 #[.string a0, .string b0] w fun e w' => e = .returned (.bool true) ∧ Ext w w' := by
  have hE : Ext w w := Ext.refl w
  have ea := cut_or 100 a0
  have eb := cut_or 100 b0
  cases hk : nextK (cutF 100 a0) (cutF 100 b0) with
  | some k => exact rankHalves_some a0 b0 _ _ k ea eb (cutF_size _ _) (cutF_size _ _) hk g w hg ha0 hb0
  | none => exact rankHalves_none a0 b0 _ _ ea eb hk g w hg ha0 hb0
end Go.Proofs.YtemiocaiimdblaaDoor.Hand
