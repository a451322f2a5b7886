/- utf: the walk of UtfBack. -/
import Derived.Test.YtjbapiogekjdnaaUtfT
set_option linter.unusedVariables false
set_option linter.unusedSimpArgs false
namespace Go.Proofs.Ytjbapiogekjdnaa.Hand
open Go Go.RowKit Go.Proofs.Ytjbapiogekjdnaa.K Go.Proofs.Ytjbapiogekjdnaa.PU Go.Proofs.YtjbapiogekjdnaaW.PrintWords Go.Proofs.YtjbapiogekjdnaaW.PrintLast Go.Proofs.YtjbapiogekjdnaaW.PrintMore
set_option maxRecDepth 100000
set_option maxHeartbeats 4000000
/-- What the second half asks of a text: what Decode tells of it, and Encode of that. -/
def Tells (t : ByteArray) (c m g : Int) (d : ByteArray) (h : Int) : Prop := (g = 0 ∧ h = 0 ∧ ∃ M : Nat, m = (M : Int) ∧ 1 ≤ M ∧ M ≤ t.size ∧ d = t.extract 0 M) ∨ ¬ g = 0
theorem tells (t : ByteArray) : Tells t (decF t).1 (decF t).2.1 (decF t).2.2 (encS (decF t).1).1 (encS (decF t).1).2 := by
  by_cases ok : (decF t).2.2 = 0
  · obtain ⟨n1, n2⟩ := decF_ok t ok
    obtain ⟨h1, h2, h3, h4⟩ := dec_enc t ok
    have hp := dec_parts t ok
    refine .inl ⟨ok, ?_, (decF t).2.1.toNat, by omega, by omega, by omega, ?_⟩
    · unfold encS; rw [if_pos h1]
    · unfold encS; rw [if_pos h1, hp]
  · exact .inr ok
def Firsts (r : Int) (a : ByteArray) (e : Int) (t : ByteArray) (b n f : Int) : Prop := (e = 0 ∧ b = r ∧ n = (a.size : Int) ∧ f = 0 ∧ ((0 ≤ r ∧ r < 55296) ∨ (57344 ≤ r ∧ r ≤ 1114111))) ∨ (e = 20 ∧ a = ⟨#[]⟩ ∧ (r < 0 ∨ 1114111 < r ∨ (55296 ≤ r ∧ r < 57344)))
theorem firsts (r : Int) (t : ByteArray) : Firsts r (encS r).1 (encS r).2 t (decF ((encS r).1 ++ t)).1 (decF ((encS r).1 ++ t)).2.1 (decF ((encS r).1 ++ t)).2.2 := by
  cases hr : isRn r with
  | true =>
    have hb := isRn_iff.1 hr
    have e : encS r = (strOfNums (encL r), 0) := by unfold encS; rw [if_pos hr]
    rw [e, dec_of_enc r t hr]
    exact .inl ⟨rfl, rfl, by rw [strOfNums_size], rfl, by omega⟩
  | false =>
    have e : encS r = (⟨#[]⟩, 20) := by unfold encS; rw [hr]; rfl
    rw [e]
    refine .inr ⟨rfl, rfl, ?_⟩
    have : ¬ isRn r = true := by rw [hr]; decide
    rw [isRn_iff] at this
    omega
theorem encS_size (r : Int) : (encS r).1.size ≤ 4 := by
  unfold encS
  cases hr : isRn r with
  | true => rw [if_pos rfl]; simp only; rw [strOfNums_size]; exact (encL_len r hr).2
  | false => rw [if_neg (by simp)]; exact Nat.zero_le _
theorem empty_app (t : ByteArray) : (⟨#[]⟩ : ByteArray) ++ t = t := ByteArray.ext (by rw [ByteArray.data_append]; exact Array.empty_append)
theorem utfBack_calls (r : Int) (s : ByteArray) (w : World) : Calls Try.prog 4 #[.int .i64 r, .string s] w fun e w' => e = .returned (.bool true) ∧ Ext w w' := by
  have hz := cutS_size s
  have hc := fun W => cutC s W
  obtain ⟨t, ht⟩ : ∃ t, cutS s = t := ⟨_, rfl⟩
  rw [ht] at hc hz
  clear ht
  have za := encS_size r
  have h1 := fun W => encC r W
  have h2 := fun W => decC ((encS r).1 ++ t) (by rw [ByteArray.size_append]; omega) W
  have h3 := fun W => decC t (by omega) W
  have h4 := fun W => encC (decF t).1 W
  have hT := tells t
  have hF := firsts r t
  obtain ⟨⟨b, n, f⟩, hv⟩ : ∃ x, decF ((encS r).1 ++ t) = x := ⟨_, rfl⟩
  rw [hv] at h2 hF
  clear hv
  obtain ⟨⟨a, e⟩, hv⟩ : ∃ x, encS r = x := ⟨_, rfl⟩
  rw [hv] at h1 h2 hF za
  clear hv
  obtain ⟨⟨d, h⟩, hv⟩ : ∃ x, encS (decF t).1 = x := ⟨_, rfl⟩
  rw [hv] at h4 hT
  clear hv
  obtain ⟨⟨c, m, g⟩, hv⟩ : ∃ x, decF t = x := ⟨_, rfl⟩
  rw [hv] at h3 h4 hT
  clear hv
  simp only at h1 h2 h3 h4 hT hF za
  have hsum : a.size + t.size ≤ 9223372036854775807 := by omega
  have hE : Ext w w := Ext.refl w
  unfold Tells at hT
  unfold Firsts at hF
  rcases hF with ⟨rfl, rfl, rfl, rfl, hr⟩ | ⟨rfl, rfl, hr⟩
  · rcases hT with ⟨rfl, rfl, M, rfl, hm1, hm2, rfl⟩ | hg
    · rcases hr with ⟨r0, r1⟩ | ⟨r0, r1⟩
      · go_enter Try.func4, Try.ntmps4
        go_wp2_with (first
          | (go_at_call 10; (with_reducible refine (shownC _).mono ?_); rintro e w' ⟨rfl, hx⟩; replace hE := hE.trans hx; clear hx)
          | (go_at_call 14; (with_reducible refine (hc _).mono ?_); rintro e w' ⟨rfl, hx⟩; replace hE := hE.trans hx; clear hx)
          | (go_at_call 11; first | (with_reducible refine (h1 _).mono ?_) | (with_reducible refine (h4 _).mono ?_)
             rintro e w' ⟨rfl, hx⟩; replace hE := hE.trans hx; clear hx)
          | (go_at_call 13; first | (with_reducible refine (h2 _).mono ?_) | (with_reducible refine (h3 _).mono ?_)
             rintro e w' ⟨rfl, hx⟩; replace hE := hE.trans hx; clear hx))
        go_ret
        exact ⟨by first | rfl | (simp; omega), hE⟩
      · go_enter Try.func4, Try.ntmps4
        go_wp2_with (first
          | (go_at_call 10; (with_reducible refine (shownC _).mono ?_); rintro e w' ⟨rfl, hx⟩; replace hE := hE.trans hx; clear hx)
          | (go_at_call 14; (with_reducible refine (hc _).mono ?_); rintro e w' ⟨rfl, hx⟩; replace hE := hE.trans hx; clear hx)
          | (go_at_call 11; first | (with_reducible refine (h1 _).mono ?_) | (with_reducible refine (h4 _).mono ?_)
             rintro e w' ⟨rfl, hx⟩; replace hE := hE.trans hx; clear hx)
          | (go_at_call 13; first | (with_reducible refine (h2 _).mono ?_) | (with_reducible refine (h3 _).mono ?_)
             rintro e w' ⟨rfl, hx⟩; replace hE := hE.trans hx; clear hx))
        go_ret
        exact ⟨by first | rfl | (simp; omega), hE⟩
    · have hg' : (g == 0) = false := by simpa using hg
      have HG := Lib.hid hg
      clear hg
      rcases hr with ⟨r0, r1⟩ | ⟨r0, r1⟩
      · go_enter Try.func4, Try.ntmps4
        go_wp2_with (first
          | (go_at_call 10; (with_reducible refine (shownC _).mono ?_); rintro e w' ⟨rfl, hx⟩; replace hE := hE.trans hx; clear hx)
          | (go_at_call 14; (with_reducible refine (hc _).mono ?_); rintro e w' ⟨rfl, hx⟩; replace hE := hE.trans hx; clear hx)
          | (go_at_call 11; first | (with_reducible refine (h1 _).mono ?_) | (with_reducible refine (h4 _).mono ?_)
             rintro e w' ⟨rfl, hx⟩; replace hE := hE.trans hx; clear hx)
          | (go_at_call 13; first | (with_reducible refine (h2 _).mono ?_) | (with_reducible refine (h3 _).mono ?_)
             rintro e w' ⟨rfl, hx⟩; replace hE := hE.trans hx; clear hx))
        go_ret
        exact ⟨by first | rfl | (simp; omega), hE⟩
      · go_enter Try.func4, Try.ntmps4
        go_wp2_with (first
          | (go_at_call 10; (with_reducible refine (shownC _).mono ?_); rintro e w' ⟨rfl, hx⟩; replace hE := hE.trans hx; clear hx)
          | (go_at_call 14; (with_reducible refine (hc _).mono ?_); rintro e w' ⟨rfl, hx⟩; replace hE := hE.trans hx; clear hx)
          | (go_at_call 11; first | (with_reducible refine (h1 _).mono ?_) | (with_reducible refine (h4 _).mono ?_)
             rintro e w' ⟨rfl, hx⟩; replace hE := hE.trans hx; clear hx)
          | (go_at_call 13; first | (with_reducible refine (h2 _).mono ?_) | (with_reducible refine (h3 _).mono ?_)
             rintro e w' ⟨rfl, hx⟩; replace hE := hE.trans hx; clear hx))
        go_ret
        exact ⟨by first | rfl | (simp; omega), hE⟩
  · rcases hT with ⟨rfl, rfl, M, rfl, hm1, hm2, rfl⟩ | hg
    · rcases hr with r0 | r0 | ⟨r0, r1⟩
      · go_enter Try.func4, Try.ntmps4
        go_wp2_with (first
          | (go_at_call 10; (with_reducible refine (shownC _).mono ?_); rintro e w' ⟨rfl, hx⟩; replace hE := hE.trans hx; clear hx)
          | (go_at_call 14; (with_reducible refine (hc _).mono ?_); rintro e w' ⟨rfl, hx⟩; replace hE := hE.trans hx; clear hx)
          | (go_at_call 11; first | (with_reducible refine (h1 _).mono ?_) | (with_reducible refine (h4 _).mono ?_)
             rintro e w' ⟨rfl, hx⟩; replace hE := hE.trans hx; clear hx)
          | (go_at_call 13; first | (with_reducible refine (h2 _).mono ?_) | (with_reducible refine (h3 _).mono ?_)
             rintro e w' ⟨rfl, hx⟩; replace hE := hE.trans hx; clear hx))
        go_ret
        exact ⟨by first | rfl | (simp; omega), hE⟩
      · go_enter Try.func4, Try.ntmps4
        go_wp2_with (first
          | (go_at_call 10; (with_reducible refine (shownC _).mono ?_); rintro e w' ⟨rfl, hx⟩; replace hE := hE.trans hx; clear hx)
          | (go_at_call 14; (with_reducible refine (hc _).mono ?_); rintro e w' ⟨rfl, hx⟩; replace hE := hE.trans hx; clear hx)
          | (go_at_call 11; first | (with_reducible refine (h1 _).mono ?_) | (with_reducible refine (h4 _).mono ?_)
             rintro e w' ⟨rfl, hx⟩; replace hE := hE.trans hx; clear hx)
          | (go_at_call 13; first | (with_reducible refine (h2 _).mono ?_) | (with_reducible refine (h3 _).mono ?_)
             rintro e w' ⟨rfl, hx⟩; replace hE := hE.trans hx; clear hx))
        go_ret
        exact ⟨by first | rfl | (simp; omega), hE⟩
      · go_enter Try.func4, Try.ntmps4
        go_wp2_with (first
          | (go_at_call 10; (with_reducible refine (shownC _).mono ?_); rintro e w' ⟨rfl, hx⟩; replace hE := hE.trans hx; clear hx)
          | (go_at_call 14; (with_reducible refine (hc _).mono ?_); rintro e w' ⟨rfl, hx⟩; replace hE := hE.trans hx; clear hx)
          | (go_at_call 11; first | (with_reducible refine (h1 _).mono ?_) | (with_reducible refine (h4 _).mono ?_)
             rintro e w' ⟨rfl, hx⟩; replace hE := hE.trans hx; clear hx)
          | (go_at_call 13; first | (with_reducible refine (h2 _).mono ?_) | (with_reducible refine (h3 _).mono ?_)
             rintro e w' ⟨rfl, hx⟩; replace hE := hE.trans hx; clear hx))
        go_ret
        exact ⟨by first | rfl | (simp; omega), hE⟩
    · have hg' : (g == 0) = false := by simpa using hg
      have HG := Lib.hid hg
      clear hg
      rcases hr with r0 | r0 | ⟨r0, r1⟩
      · go_enter Try.func4, Try.ntmps4
        go_wp2_with (first
          | (go_at_call 10; (with_reducible refine (shownC _).mono ?_); rintro e w' ⟨rfl, hx⟩; replace hE := hE.trans hx; clear hx)
          | (go_at_call 14; (with_reducible refine (hc _).mono ?_); rintro e w' ⟨rfl, hx⟩; replace hE := hE.trans hx; clear hx)
          | (go_at_call 11; first | (with_reducible refine (h1 _).mono ?_) | (with_reducible refine (h4 _).mono ?_)
             rintro e w' ⟨rfl, hx⟩; replace hE := hE.trans hx; clear hx)
          | (go_at_call 13; first | (with_reducible refine (h2 _).mono ?_) | (with_reducible refine (h3 _).mono ?_)
             rintro e w' ⟨rfl, hx⟩; replace hE := hE.trans hx; clear hx))
        go_ret
        exact ⟨by first | rfl | (simp; omega), hE⟩
      · go_enter Try.func4, Try.ntmps4
        go_wp2_with (first
          | (go_at_call 10; (with_reducible refine (shownC _).mono ?_); rintro e w' ⟨rfl, hx⟩; replace hE := hE.trans hx; clear hx)
          | (go_at_call 14; (with_reducible refine (hc _).mono ?_); rintro e w' ⟨rfl, hx⟩; replace hE := hE.trans hx; clear hx)
          | (go_at_call 11; first | (with_reducible refine (h1 _).mono ?_) | (with_reducible refine (h4 _).mono ?_)
             rintro e w' ⟨rfl, hx⟩; replace hE := hE.trans hx; clear hx)
          | (go_at_call 13; first | (with_reducible refine (h2 _).mono ?_) | (with_reducible refine (h3 _).mono ?_)
             rintro e w' ⟨rfl, hx⟩; replace hE := hE.trans hx; clear hx))
        go_ret
        exact ⟨by first | rfl | (simp; omega), hE⟩
      · go_enter Try.func4, Try.ntmps4
        go_wp2_with (first
          | (go_at_call 10; (with_reducible refine (shownC _).mono ?_); rintro e w' ⟨rfl, hx⟩; replace hE := hE.trans hx; clear hx)
          | (go_at_call 14; (with_reducible refine (hc _).mono ?_); rintro e w' ⟨rfl, hx⟩; replace hE := hE.trans hx; clear hx)
          | (go_at_call 11; first | (with_reducible refine (h1 _).mono ?_) | (with_reducible refine (h4 _).mono ?_)
             rintro e w' ⟨rfl, hx⟩; replace hE := hE.trans hx; clear hx)
          | (go_at_call 13; first | (with_reducible refine (h2 _).mono ?_) | (with_reducible refine (h3 _).mono ?_)
             rintro e w' ⟨rfl, hx⟩; replace hE := hE.trans hx; clear hx))
        go_ret
        exact ⟨by first | rfl | (simp; omega), hE⟩
end Go.Proofs.Ytjbapiogekjdnaa.Hand
