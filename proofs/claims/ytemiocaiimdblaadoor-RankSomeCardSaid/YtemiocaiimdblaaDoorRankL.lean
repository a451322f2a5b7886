/- rank: cut, and the law RankBetween, RankHalves. -/
import Derived.Test.YtemiocaiimdblaaDoorRankQ
import Derived.Test.YtemiocaiimdblaaDoorRankK
set_option linter.unusedVariables false
set_option linter.unusedSimpArgs false
namespace Go.Proofs.YtemiocaiimdblaaDoor.Hand
open Go Go.RowKit Go.Shelf Go.Proofs.YtemiocaiimdblaaDoor.K
set_option maxRecDepth 100000
set_option maxHeartbeats 400000
/-- The first n bytes. -/
def cutF (n : Nat) (s : ByteArray) : ByteArray := s.extract 0 (min s.size n)
theorem cutF_size (n : Nat) (s : ByteArray) : (cutF n s).size ≤ n := by unfold cutF; rw [ByteArray.size_extract]; omega
theorem cut_calls (s : ByteArray) (w : World) (hs : s.size ≤ maxLen) : Calls Tryd.prog 10 #[.string s] w fun e w' => e = .returned (.string (cutF 210 s)) ∧ w = w' := by
  by_cases h : s.size ≤ 210
  · have e1 : cutF 210 s = s := by
      unfold cutF
      rw [show min s.size 210 = s.size from by omega, ByteArray.extract_zero_size]
    rw [e1]
    go_enter Tryd.func10, Tryd.ntmps10
    go_wp2
    go_ret
    exact ⟨rfl, rfl⟩
  · have e1 : cutF 210 s = s.extract 0 210 := by
      unfold cutF
      rw [show min s.size 210 = 210 from by omega]
    rw [e1]
    go_enter Tryd.func10, Tryd.ntmps10
    go_wp2
    go_ret
    exact ⟨rfl, rfl⟩
theorem empty_bool (s : ByteArray) : s.toList.isEmpty = decide (s.size = 0) := by
  cases h : s.toList.isEmpty with
  | true => simp [(nil_iff s).1 h]
  | false =>
    have : ¬ s.size = 0 := fun e => by rw [(nil_iff s).2 e] at h; cases h
    simp [this]
theorem betwF_some {a b k : ByteArray} (h : nextK a b = some k) : betwF a b = (k, 0) := by unfold betwF; rw [h]
theorem betwF_none {a b : ByteArray} (h : nextK a b = none) : betwF a b = (⟨#[]⟩, 120) := by unfold betwF; rw [h]
theorem rankBetween_some (a0 b0 a b k : ByteArray) (hk : nextK a b = some k) (hca : ∀ w : World, a0.size ≤ maxLen → Calls Tryd.prog 10 #[.string a0] w fun e w' => e = .returned (.string a) ∧ w = w') (hcb : ∀ w : World, b0.size ≤ maxLen → Calls Tryd.prog 10 #[.string b0] w fun e w' => e = .returned (.string b) ∧ w = w')
    (ha : a.size ≤ 210) (hb : b.size ≤ 210) (g : Addr) (w : World) (hg : Gv g w) (ha0 : a0.size ≤ maxLen) (hb0 : b0.size ≤ maxLen) : Calls Tryd.prog 4 #[.string a0, .string b0] w fun e w' => e = .returned (.bool true) ∧ Ext w w' := by
  have hE : Ext w w := Ext.refl w
  have hbt := bt (betwF_some hk)
  obtain ⟨p1, p2, p3, p4⟩ := next_some hk
  have HR := Lib.hid p1
  have HL := Lib.hid p2
  have P4 := Lib.hid p4
  clear p1 p2 p4 hk
  have HB : Hid (b.toList.isEmpty = false → lessB k b = true) := Lib.hid fun h => p3 (by rw [empty_bool] at h; have := of_decide_eq_false h; omega)
  clear p3
  cases nb : b.toList.isEmpty with
  | true =>
    cases na : a.toList.isEmpty <;>
    (go_enter Tryd.func4, Tryd.ntmps4
     go_wp2_with (first
       | (go_at_call 9; (with_reducible refine (shown_calls g _ (gvx hE hg)).mono ?_); rintro e w' ⟨rfl, hx⟩; replace hE := hE.trans hx; clear hx)
       | (go_at_call 10; first | (with_reducible refine (hca _ ha0).mono ?_) | (with_reducible refine (hcb _ hb0).mono ?_)
          rintro e w' ⟨rfl, rfl⟩)
       | (go_at_call 11; (with_reducible refine (hbt g _ (gvx hE hg)).mono ?_); rintro e w' ⟨rfl, hx⟩; replace hE := hE.trans hx; clear hx)
       | (go_at_call 13; (with_reducible refine (right_calls _ _).mono ?_); rintro e w' ⟨rfl, hx⟩; replace hE := hE.trans hx; clear hx; rw [HR.out])
       | (go_at_call 15; (with_reducible refine (less_calls _ _ _).mono ?_); rintro e w' ⟨rfl, rfl⟩; rw [HL.out]))) <;>
    (go_ret; refine ⟨?_, hE⟩; have hz := P4.out; simp; omega)
  | false =>
    have HB := Lib.hid (HB.out nb)
    cases na : a.toList.isEmpty <;>
    (go_enter Tryd.func4, Tryd.ntmps4
     go_wp2_with (first
       | (go_at_call 9; (with_reducible refine (shown_calls g _ (gvx hE hg)).mono ?_); rintro e w' ⟨rfl, hx⟩; replace hE := hE.trans hx; clear hx)
       | (go_at_call 10; first | (with_reducible refine (hca _ ha0).mono ?_) | (with_reducible refine (hcb _ hb0).mono ?_)
          rintro e w' ⟨rfl, rfl⟩)
       | (go_at_call 11; (with_reducible refine (hbt g _ (gvx hE hg)).mono ?_); rintro e w' ⟨rfl, hx⟩; replace hE := hE.trans hx; clear hx)
       | (go_at_call 13; (with_reducible refine (right_calls _ _).mono ?_); rintro e w' ⟨rfl, hx⟩; replace hE := hE.trans hx; clear hx; rw [HR.out])
       | (go_at_call 15; (with_reducible refine (less_calls _ _ _).mono ?_); rintro e w' ⟨rfl, rfl⟩; first | rw [HL.out] | rw [HB.out]))) <;>
    (go_ret; refine ⟨?_, hE⟩; have hz := P4.out; simp; omega)
theorem rankBetween_none (a0 b0 a b : ByteArray) (hk : nextK a b = none) (hca : ∀ w : World, a0.size ≤ maxLen → Calls Tryd.prog 10 #[.string a0] w fun e w' => e = .returned (.string a) ∧ w = w') (hcb : ∀ w : World, b0.size ≤ maxLen → Calls Tryd.prog 10 #[.string b0] w fun e w' => e = .returned (.string b) ∧ w = w')
    (ha : a.size ≤ 210) (hb : b.size ≤ 210) (g : Addr) (w : World) (hg : Gv g w) (ha0 : a0.size ≤ maxLen) (hb0 : b0.size ≤ maxLen) : Calls Tryd.prog 4 #[.string a0, .string b0] w fun e w' => e = .returned (.bool true) ∧ Ext w w' := by
  have hE : Ext w w := Ext.refl w
  have hbt := bt (betwF_none hk)
  have hz := next_none hk
  simp only [okB, ← empty_bool] at hz
  have HZ := Lib.hid hz
  clear hz hk
  cases na : a.toList.isEmpty <;> cases ra : rightB a <;> cases nb : b.toList.isEmpty <;> cases rb : rightB b <;> cases ls : lessB a b
  all_goals
    (have HRa := Lib.hid ra; have HRb := Lib.hid rb; have HLs := Lib.hid ls; clear ra rb ls)
  all_goals
    (go_enter Tryd.func4, Tryd.ntmps4
     go_wp2_with (first
       | (go_at_call 9; (with_reducible refine (shown_calls g _ (gvx hE hg)).mono ?_); rintro e w' ⟨rfl, hx⟩; replace hE := hE.trans hx; clear hx)
       | (go_at_call 10; first | (with_reducible refine (hca _ ha0).mono ?_) | (with_reducible refine (hcb _ hb0).mono ?_)
          rintro e w' ⟨rfl, rfl⟩)
       | (go_at_call 11; (with_reducible refine (hbt g _ (gvx hE hg)).mono ?_); rintro e w' ⟨rfl, hx⟩; replace hE := hE.trans hx; clear hx)
       | (go_at_call 13; (with_reducible refine (right_calls _ _).mono ?_); rintro e w' ⟨rfl, hx⟩; replace hE := hE.trans hx; clear hx; first | rw [HRa.out] | rw [HRb.out])
       | (go_at_call 15; (with_reducible refine (less_calls _ _ _).mono ?_); rintro e w' ⟨rfl, rfl⟩; rw [HLs.out])))
  all_goals (go_ret; refine ⟨?_, hE⟩; first | rfl | (have hz := HZ.out; simp only [na, nb, HRa.out, HRb.out, HLs.out] at hz; simp at hz; simp; omega))
theorem rankBetween_calls (a0 b0 : ByteArray) (g : Addr) (w : World) (hg : Gv g w) (ha0 : a0.size ≤ maxLen) (hb0 : b0.size ≤ maxLen) : Calls Tryd.prog 4 #[.string a0, .string b0] w fun e w' => e = .returned (.bool true) ∧ Ext w w' := by
  cases hk : nextK (cutF 210 a0) (cutF 210 b0) with
  | some k => exact rankBetween_some a0 b0 _ _ k hk (cut_calls a0) (cut_calls b0) (cutF_size _ _) (cutF_size _ _) g w hg ha0 hb0
  | none => exact rankBetween_none a0 b0 _ _ hk (cut_calls a0) (cut_calls b0) (cutF_size _ _) (cutF_size _ _) g w hg ha0 hb0
end Go.Proofs.YtemiocaiimdblaaDoor.Hand
