/- rank: the law RankSome. -/
import Derived.Test.YtemiocaiimdblaaDoorRankV
set_option linter.unusedVariables false
set_option linter.unusedSimpArgs false
namespace Go.Proofs.YtemiocaiimdblaaDoor.Hand
open Go Go.RowKit Go.Shelf Go.Proofs.YtemiocaiimdblaaDoor.K
set_option maxRecDepth 100000
set_option maxHeartbeats 400000
theorem rankSome_cut (a0 b0 a b : ByteArray) (n : Int) (hca : ∀ w : World, a0.size ≤ maxLen → Calls Tryd.prog 10 #[.string a0] w fun e w' => e = .returned (.string a) ∧ w = w') (hcb : ∀ w : World, b0.size ≤ maxLen → Calls Tryd.prog 10 #[.string b0] w fun e w' => e = .returned (.string b) ∧ w = w')
    (ha : a.size ≤ 210) (hb : b.size ≤ 210) (g : Addr) (w : World) (hg : Gv g w) (ha0 : a0.size ≤ maxLen) (hb0 : b0.size ≤ maxLen) (hn : -9223372036854775808 ≤ n) (hn2 : n ≤ 9223372036854775807) :
    Calls Tryd.prog 6 #[.string a0, .string b0, .int .i64 n] w fun e w' => e = .returned (.bool true) ∧ Ext w w' := by
  have hE : Ext w w := Ext.refl w
  have h17 := fun (W : World) (h : Gv g W) => some_calls a b n g W h hn hn2
  have h18 := fun (W : World) => refSome_calls a b n W (by omega) (by omega) hn hn2
  have hlen : ∀ ks, someF a b n = some ks → ks.length ≤ 300 := fun ks h => by
    unfold someF at h
    split at h
    · cases h
    · have := some_len h; omega
  cases hs : someF a b n with
  | none =>
    rw [hs] at h17 h18
    clear hs hlen
    go_enter Tryd.func6, Tryd.ntmps6
    go_wp2_with (first
      | (go_at_call 9; (with_reducible refine (shown_calls g _ (gvx hE hg)).mono ?_); rintro e w' ⟨rfl, hx⟩; replace hE := hE.trans hx; clear hx)
      | (go_at_call 10; first | (with_reducible refine (hca _ ha0).mono ?_) | (with_reducible refine (hcb _ hb0).mono ?_)
         rintro e w' ⟨rfl, rfl⟩)
      | (go_at_call 17; refine (h17 _ (gvx hE hg)).mono ?_; rintro e w' ⟨rfl, hx⟩; replace hE := hE.trans hx; clear hx)
      | (go_at_call 18; refine (h18 _).mono ?_; rintro e w' ⟨rfl, hx⟩; replace hE := hE.trans hx; clear hx)
      | (go_at_call 19; refine (texts_calls none none 0 0 [] _ (by simp) (fun k hk => by simp at hk) (fun k hk => by simp at hk)).mono ?_; rintro e w' ⟨rfl, hx⟩; replace hE := hE.trans hx; clear hx))
    go_ret
    exact ⟨rfl, hE⟩
  | some ks =>
    have hl := hlen ks hs
    rw [hs] at h17 h18
    clear hs hlen
    go_enter Tryd.func6, Tryd.ntmps6
    go_wp2_with (first
      | (go_at_call 9; (with_reducible refine (shown_calls g _ (gvx hE hg)).mono ?_); rintro e w' ⟨rfl, hx⟩; replace hE := hE.trans hx; clear hx)
      | (go_at_call 10; first | (with_reducible refine (hca _ ha0).mono ?_) | (with_reducible refine (hcb _ hb0).mono ?_)
         rintro e w' ⟨rfl, rfl⟩)
      | (go_at_call 17; refine (h17 _ (gvx hE hg)).mono ?_; rintro e w1 ⟨v1, rfl, hx, hr1⟩; replace hE := hE.trans hx; clear hx; obtain ⟨c1, p1, rfl, hq1⟩ := row_strings hr1; have HQ1 := Lib.hid hq1; clear hq1 hr1)
      | (go_at_call 18; refine (h18 _).mono ?_; rintro e w2 ⟨v2, rfl, hy, hr2⟩; replace hE := hE.trans hy; obtain ⟨c2, p2, rfl, hq2⟩ := row_strings hr2; have HQ2 := Lib.hid hq2; clear hq2 hr2)
      | (go_at_call 19; refine (texts_calls p1 p2 c1 c2 ks _ (by omega) (fun k hk => by obtain ⟨q, e1, e2⟩ := HQ1.out k hk; exact ⟨q, e1, hy.cell e2⟩) HQ2.out).mono ?_; rintro e w' ⟨rfl, hx⟩; replace hE := hE.trans hx; clear hx))
    go_ret
    exact ⟨rfl, hE⟩
theorem rankSome_calls (a0 b0 : ByteArray) (n : Int) (g : Addr) (w : World) (hg : Gv g w) (ha0 : a0.size ≤ maxLen) (hb0 : b0.size ≤ maxLen) (hn : -9223372036854775808 ≤ n) (hn2 : n ≤ 9223372036854775807) :
    Calls Tryd.prog 6 #[.string a0, .string b0, .int .i64 n] w fun e w' => e = .returned (.bool true) ∧ Ext w w' :=
  rankSome_cut a0 b0 _ _ n (cut_calls a0) (cut_calls b0) (cutF_size _ _) (cutF_size _ _) g w hg ha0 hb0 hn hn2
end Go.Proofs.YtemiocaiimdblaaDoor.Hand
