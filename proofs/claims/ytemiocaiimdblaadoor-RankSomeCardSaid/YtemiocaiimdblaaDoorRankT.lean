/- rank: the law RankKeys. -/
import Derived.Test.YtemiocaiimdblaaDoorRankS
set_option linter.unusedVariables false
set_option linter.unusedSimpArgs false
namespace Go.Proofs.YtemiocaiimdblaaDoor.Hand
open Go Go.RowKit Go.Shelf Go.Proofs.YtemiocaiimdblaaDoor.K
set_option maxRecDepth 100000
set_option maxHeartbeats 400000
theorem refBetween_calls (a b : ByteArray) (w : World) (ha : a.size ≤ 1000000) (hb : b.size ≤ 1000000) :
    Calls Tryd.prog 12 #[.string a, .string b] w fun e w' => e = .returned (.tuple #[.string (betwF a b).1, .int .i64 (betwF a b).2]) ∧ Ext w w' := by
  cases hc : ((okB a && okB b) && (decide (a.size = 0) || decide (b.size = 0) || lessB a b)) with
  | false =>
    rw [betwF_none (nextK_refused hc)]
    exact (refBetween_refused a b w ha hb hc).mono fun e w' ⟨h1, h2⟩ => ⟨h1, h2 ▸ Ext.refl _⟩
  | true =>
    obtain ⟨h1, h2, h3⟩ := cond_iff.1 hc
    have pos : ∀ s : ByteArray, s.toList.isEmpty = false → 0 < s.size := fun s h => by rw [empty_bool] at h; have := of_decide_eq_false h; omega
    refine refBetween_loop a b ha hb hc w _ _ rfl rfl (fun h => okB_nonempty h1 (pos a h)) (fun h => okB_nonempty h2 (pos b h)) (fun g1 g2 => ?_)
    have q1 := pos a g1
    have q2 := pos b g2
    rcases h3 with h3 | h3 | h3
    · omega
    · omega
    · exact h3
theorem rankKeys_cut (a0 b0 a b : ByteArray) (hca : ∀ w : World, a0.size ≤ maxLen → Calls Tryd.prog 10 #[.string a0] w fun e w' => e = .returned (.string a) ∧ w = w') (hcb : ∀ w : World, b0.size ≤ maxLen → Calls Tryd.prog 10 #[.string b0] w fun e w' => e = .returned (.string b) ∧ w = w')
    (ha : a.size ≤ 210) (hb : b.size ≤ 210) (g : Addr) (w : World) (hg : Gv g w) (ha0 : a0.size ≤ maxLen) (hb0 : b0.size ≤ maxLen) : Calls Tryd.prog 3 #[.string a0, .string b0] w fun e w' => e = .returned (.bool true) ∧ Ext w w' := by
  have hE : Ext w w := Ext.refl w
  have ha' : a.size ≤ 1000000 := by omega
  have hb' : b.size ≤ 1000000 := by omega
  have h11 := fun (g : Addr) (w : World) => between_calls a b g w
  have h12 := fun (w : World) => refBetween_calls a b w ha' hb'
  obtain ⟨F1, F2⟩ := betwF a b
  go_enter Tryd.func3, Tryd.ntmps3
  go_wp2_with (first
    | (go_at_call 9; (with_reducible refine (shown_calls g _ (gvx hE hg)).mono ?_); rintro e w' ⟨rfl, hx⟩; replace hE := hE.trans hx; clear hx)
    | (go_at_call 10; first | (with_reducible refine (hca _ ha0).mono ?_) | (with_reducible refine (hcb _ hb0).mono ?_)
       rintro e w' ⟨rfl, rfl⟩)
    | (go_at_call 11; refine (h11 g _ (gvx hE hg)).mono ?_; rintro e w' ⟨rfl, hx⟩; replace hE := hE.trans hx; clear hx)
    | (go_at_call 12; refine (h12 _).mono ?_; rintro e w' ⟨rfl, hx⟩; replace hE := hE.trans hx; clear hx)
    | (go_at_call 13; refine (right_calls _ _).mono ?_; rintro e w' ⟨rfl, hx⟩; replace hE := hE.trans hx; clear hx)
    | (go_at_call 14; refine (refRight_calls _ _ ha').mono ?_; rintro e w' ⟨rfl, rfl⟩)
    | (go_at_call 15; refine (less_calls _ _ _).mono ?_; rintro e w' ⟨rfl, rfl⟩)
    | (go_at_call 16; refine (refLess_calls _ _ _).mono ?_; rintro e w' ⟨rfl, rfl⟩))
  go_ret
  exact ⟨rfl, hE⟩
theorem rankKeys_calls (a0 b0 : ByteArray) (g : Addr) (w : World) (hg : Gv g w) (ha0 : a0.size ≤ maxLen) (hb0 : b0.size ≤ maxLen) : Calls Tryd.prog 3 #[.string a0, .string b0] w fun e w' => e = .returned (.bool true) ∧ Ext w w' :=
  rankKeys_cut a0 b0 _ _ (cut_calls a0) (cut_calls b0) (cutF_size _ _) (cutF_size _ _) g w hg ha0 hb0
end Go.Proofs.YtemiocaiimdblaaDoor.Hand
