/- rank: the law's own helpers: shown, cut. -/
import Derived.Test.YtemiocaiimdblaaDoorRankK0
set_option linter.unusedVariables false
set_option linter.unusedSimpArgs false
namespace Go.Proofs.YtemiocaiimdblaaDoor.Hand
open Go Go.RowKit Go.Shelf Go.Proofs.YtemiocaiimdblaaDoor.K
set_option maxRecDepth 100000
set_option maxHeartbeats 400000
theorem f1 : betwF ⟨#[]⟩ ⟨#[]⟩ = (⟨#[110]⟩, 0) := by kernel_rfl
theorem f2 : betwF ⟨#[110]⟩ ⟨#[]⟩ = (⟨#[116]⟩, 0) := by kernel_rfl
theorem f3 : betwF ⟨#[110]⟩ ⟨#[111]⟩ = (⟨#[110, 110]⟩, 0) := by kernel_rfl
theorem f4 : betwF ⟨#[]⟩ ⟨#[98]⟩ = (⟨#[97, 110]⟩, 0) := by kernel_rfl
theorem f5 : betwF ⟨#[98]⟩ ⟨#[98]⟩ = (⟨#[]⟩, 120) := by kernel_rfl
theorem f6 : rightB ⟨#[97, 98]⟩ = true := by kernel_rfl
theorem f7 : rightB ⟨#[98, 97]⟩ = false := by kernel_rfl
theorem gvx {g : Addr} {w w' : World} (h : Ext w w') (hg : Gv g w) : Gv g w' := h.cell hg
theorem bt {a b k : ByteArray} {n : Int} (h : betwF a b = (k, n)) (g : Addr) (w : World) (hg : Gv g w) : Calls Tryd.prog 11 #[.string a, .string b] w fun e w' => e = .returned (.tuple #[.string k, .int .i64 n]) ∧ Ext w w' := by
  have := between_calls a b g w hg
  rw [h] at this
  exact this
theorem shown_calls (g : Addr) (w : World) (hg : Gv g w) : Calls Tryd.prog 9 #[] w fun e w' => e = .returned (.bool true) ∧ Ext w w' := by
  have hE : Ext w w := Ext.refl w
  go_enter Tryd.func9, Tryd.ntmps9
  go_wp2_with (first
    | (go_at_call 11; first | (with_reducible refine (bt f1 g _ (gvx hE hg)).mono ?_) | (with_reducible refine (bt f2 g _ (gvx hE hg)).mono ?_) | (with_reducible refine (bt f3 g _ (gvx hE hg)).mono ?_) | (with_reducible refine (bt f4 g _ (gvx hE hg)).mono ?_) | (with_reducible refine (bt f5 g _ (gvx hE hg)).mono ?_)
       rintro e w' ⟨rfl, hx⟩; replace hE := hE.trans hx; clear hx)
    | (go_at_call 13; refine (right_calls _ _).mono ?_; rintro e w' ⟨rfl, hx⟩; replace hE := hE.trans hx; clear hx; first | rw [f6] | rw [f7]))
  go_ret
  exact ⟨rfl, hE⟩
theorem rankMany_calls (n : Int) (g : Addr) (w : World) (hg : Gv g w) (hn : -9223372036854775808 ≤ n) (hn2 : n ≤ 9223372036854775807) : Calls Tryd.prog 8 #[.int .i64 n] w fun e w' => e = .returned (.bool true) ∧ Ext w w' := by
  have hE : Ext w w := Ext.refl w
  by_cases h : 0 ≤ n ∧ n ≤ 300
  · obtain ⟨ks, hks, hl⟩ := many_le (n := n.toNat) (by omega)
    have hs : someF ⟨#[]⟩ ⟨#[]⟩ n = some ks := by unfold someF; rw [if_neg (by omega), hks]
    have hl2 : (ks.length : Int) = n := by omega
    have h1 : decide (0 ≤ n) = true := by simp [h.1]
    have h2 : decide (n ≤ 300) = true := by simp [h.2]
    have hc := some_calls ⟨#[]⟩ ⟨#[]⟩ n g
    rw [hs] at hc
    have Hs := Lib.hid hs
    have Hl := Lib.hid hl
    have H := Lib.hid h
    clear hs hks hl h
    subst hl2
    go_enter Tryd.func8, Tryd.ntmps8
    go_wp2_with (first
      | (go_at_call 9; (with_reducible refine (shown_calls g _ (gvx hE hg)).mono ?_); rintro e w' ⟨rfl, hx⟩; replace hE := hE.trans hx; clear hx)
      | (go_at_call 17; refine (hc _ (gvx hE hg) hn hn2).mono ?_; rintro e w' ⟨v, rfl, hx, hrow⟩; replace hE := hE.trans hx; clear hx; rcases hrow.2 with ⟨rfl, hz⟩ | ⟨g_, cap, cur, rfl, _⟩))
    all_goals (go_ret; exact ⟨rfl, hE⟩)
  · have hs : someF ⟨#[]⟩ ⟨#[]⟩ n = none := by unfold someF; rw [if_pos (by omega)]
    have hc := some_calls ⟨#[]⟩ ⟨#[]⟩ n g
    rw [hs] at hc
    clear hs
    by_cases h0 : 0 ≤ n
    · have h1 : decide (0 ≤ n) = true := by simp [h0]
      have h2 : decide (n ≤ 300) = false := by simp; omega
      have H := Lib.hid h
      have H0 := Lib.hid h0
      clear h h0
      go_enter Tryd.func8, Tryd.ntmps8
      go_wp2_with (first
        | (go_at_call 9; (with_reducible refine (shown_calls g _ (gvx hE hg)).mono ?_); rintro e w' ⟨rfl, hx⟩; replace hE := hE.trans hx; clear hx)
        | (go_at_call 17; refine (hc _ (gvx hE hg) hn hn2).mono ?_; rintro e w' ⟨rfl, hx⟩; replace hE := hE.trans hx; clear hx))
      all_goals (go_ret; exact ⟨rfl, hE⟩)
    · have h1 : decide (0 ≤ n) = false := by simp; omega
      have H := Lib.hid h
      have H0 := Lib.hid h0
      clear h h0
      go_enter Tryd.func8, Tryd.ntmps8
      go_wp2_with (first
        | (go_at_call 9; (with_reducible refine (shown_calls g _ (gvx hE hg)).mono ?_); rintro e w' ⟨rfl, hx⟩; replace hE := hE.trans hx; clear hx)
        | (go_at_call 17; refine (hc _ (gvx hE hg) hn hn2).mono ?_; rintro e w' ⟨rfl, hx⟩; replace hE := hE.trans hx; clear hx))
      all_goals (go_ret; exact ⟨rfl, hE⟩)
end Go.Proofs.YtemiocaiimdblaaDoor.Hand
