/- utf: the laws whose walks are written by hand: UtfTexts, UtfBack, UtfFirst. -/
import Derived.Test.YtjbapiogekjdnaaUtfT
set_option linter.unusedVariables false
set_option linter.unusedSimpArgs false
namespace Go.Proofs.Ytjbapiogekjdnaa.Hand
open Go Go.RowKit Go.Proofs.Ytjbapiogekjdnaa.K Go.Proofs.Ytjbapiogekjdnaa.PU Go.Proofs.YtjbapiogekjdnaaW.PrintWords Go.Proofs.YtjbapiogekjdnaaW.PrintLast Go.Proofs.YtjbapiogekjdnaaW.PrintMore
set_option maxRecDepth 100000
set_option maxHeartbeats 4000000
theorem utfTexts_calls (s : ByteArray) (w : World) : Calls Try.prog 9 #[.string s] w fun e w' => e = .returned (.bool true) ∧ Ext w w' := by
  have hz := cutS_size s
  have hc := fun W => cutC s W
  obtain ⟨t, ht⟩ : ∃ t, cutS s = t := ⟨_, rfl⟩
  rw [ht] at hc hz
  clear ht
  have h1 := fun W => validC t (by omega) W
  have h2 := fun W => rvalidC t (by omega) W
  have h3 := fun W => countC t (by omega) W
  have h4 := fun W => rcountC t (by omega) W
  have h5 := fun W => isName_calls t W (by omega)
  have h6 := fun W => rnameC t (by omega) W
  have h7 := fun W => isText_calls t W (by omega)
  have h8 := fun W => rtextC t (by omega) W
  obtain ⟨⟨n, ok⟩, hv⟩ : ∃ x, validF t = x := ⟨_, rfl⟩
  rw [hv] at h1 h2
  obtain ⟨⟨m, e⟩, hv2⟩ : ∃ x, countF t = x := ⟨_, rfl⟩
  rw [hv2] at h3 h4
  obtain ⟨b1, hb1⟩ : ∃ b, nameF t = b := ⟨_, rfl⟩
  rw [hb1] at h5 h6
  obtain ⟨b2, hb2⟩ : ∃ b, areF charB t = b := ⟨_, rfl⟩
  rw [hb2] at h7 h8
  simp only at h1 h2 h3 h4
  clear hv hv2 hb1 hb2
  have hE : Ext w w := Ext.refl w
  cases ok <;> cases b1 <;> cases b2 <;>
  (go_enter Try.func9, Try.ntmps9
   go_wp2_with (first
     | (go_at_call 10; (with_reducible refine (shownC _).mono ?_); rintro e w' ⟨rfl, hx⟩; replace hE := hE.trans hx; clear hx)
     | (go_at_call 14; (with_reducible refine (hc _).mono ?_); rintro e w' ⟨rfl, hx⟩; replace hE := hE.trans hx; clear hx)
     | (go_at_call 27; (with_reducible refine (h1 _).mono ?_); rintro e w' ⟨rfl, hx⟩; replace hE := hE.trans hx; clear hx)
     | (go_at_call 28; (with_reducible refine (h2 _).mono ?_); rintro e w' ⟨rfl, hx⟩; replace hE := hE.trans hx; clear hx)
     | (go_at_call 26; (with_reducible refine (h3 _).mono ?_); rintro e w' ⟨rfl, hx⟩; replace hE := hE.trans hx; clear hx)
     | (go_at_call 29; (with_reducible refine (h4 _).mono ?_); rintro e w' ⟨rfl, hx⟩; replace hE := hE.trans hx; clear hx)
     | (go_at_call 24; (with_reducible refine (h5 _).mono ?_); rintro e w' ⟨rfl, hx⟩; replace hE := hE.trans hx; clear hx)
     | (go_at_call 30; (with_reducible refine (h6 _).mono ?_); rintro e w' ⟨rfl, hx⟩; replace hE := hE.trans hx; clear hx)
     | (go_at_call 25; (with_reducible refine (h7 _).mono ?_); rintro e w' ⟨rfl, hx⟩; replace hE := hE.trans hx; clear hx)
     | (go_at_call 31; (with_reducible refine (h8 _).mono ?_); rintro e w' ⟨rfl, hx⟩; replace hE := hE.trans hx; clear hx))
   go_ret
   exact ⟨rfl, hE⟩)
end Go.Proofs.Ytjbapiogekjdnaa.Hand
