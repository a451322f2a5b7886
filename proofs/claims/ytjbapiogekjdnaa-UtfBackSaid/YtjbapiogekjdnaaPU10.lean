/- Printed by an own program: functions, and proofs that the program's calls come to them. -/
import Derived.Test.YtjbapiogekjdnaaPU0
import Derived.Test.YtjbapiogekjdnaaPU5
namespace Go.Proofs.Ytjbapiogekjdnaa.PU
open Go.RowKit Go.Proofs.YtjbapiogekjdnaaW.PrintWords Go.Proofs.YtjbapiogekjdnaaW.PrintLast Go.Proofs.YtjbapiogekjdnaaW.PrintMore
attribute [local go_sem] max2_int min2_int max_two min_two max_three min_three max_four min_four   -- for this text's walks alone
set_option linter.unusedVariables false
set_option linter.unusedSimpArgs false

/-! ### pleacherref02_IsFirst: function 19 -/
def pleacherref02_IsFirst.f (a0 : Int) : Option (Bool) := if a0 = 58 then (some true) else ((pleacherref02_in.f a0 65 90).bind fun t165 => (if t165 = true then (some true) else (if a0 = 95 then (some true) else ((pleacherref02_in.f a0 97 122).bind fun t166 => (if t166 = true then (some true) else ((pleacherref02_in.f a0 192 214).bind fun t167 => (if t167 = true then (some true) else ((pleacherref02_in.f a0 216 246).bind fun t168 => (if t168 = true then (some true) else ((pleacherref02_in.f a0 248 767).bind fun t169 => (if t169 = true then (some true) else ((pleacherref02_in.f a0 880 893).bind fun t170 => (if t170 = true then (some true) else ((pleacherref02_in.f a0 895 8191).bind fun t171 => (if t171 = true then (some true) else ((pleacherref02_in.f a0 8204 8205).bind fun t172 => (if t172 = true then (some true) else ((pleacherref02_in.f a0 8304 8591).bind fun t173 => (if t173 = true then (some true) else ((pleacherref02_in.f a0 11264 12271).bind fun t174 => (if t174 = true then (some true) else ((pleacherref02_in.f a0 12289 55295).bind fun t175 => (if t175 = true then (some true) else ((pleacherref02_in.f a0 63744 64975).bind fun t176 => (if t176 = true then (some true) else ((pleacherref02_in.f a0 65008 65533).bind fun t177 => (if t177 = true then (some true) else ((pleacherref02_in.f a0 65536 983039).bind fun t178 => (some t178)))))))))))))))))))))))))))))
set_option maxHeartbeats 8000000 in
set_option maxRecDepth 100000 in
theorem pleacherref02_IsFirst.calls (a0 : Int) (r : Bool) (w : World) (h : pleacherref02_IsFirst.f a0 = some r) :
    Calls Try.prog 19 #[.int .i64 a0] w fun e w' => e = .returned (.bool r) ∧ Drawn0 w w' := by
  have H : (if a0 = 58 then (some true) else ((pleacherref02_in.f a0 65 90).bind fun t165 => (if t165 = true then (some true) else (if a0 = 95 then (some true) else ((pleacherref02_in.f a0 97 122).bind fun t166 => (if t166 = true then (some true) else ((pleacherref02_in.f a0 192 214).bind fun t167 => (if t167 = true then (some true) else ((pleacherref02_in.f a0 216 246).bind fun t168 => (if t168 = true then (some true) else ((pleacherref02_in.f a0 248 767).bind fun t169 => (if t169 = true then (some true) else ((pleacherref02_in.f a0 880 893).bind fun t170 => (if t170 = true then (some true) else ((pleacherref02_in.f a0 895 8191).bind fun t171 => (if t171 = true then (some true) else ((pleacherref02_in.f a0 8204 8205).bind fun t172 => (if t172 = true then (some true) else ((pleacherref02_in.f a0 8304 8591).bind fun t173 => (if t173 = true then (some true) else ((pleacherref02_in.f a0 11264 12271).bind fun t174 => (if t174 = true then (some true) else ((pleacherref02_in.f a0 12289 55295).bind fun t175 => (if t175 = true then (some true) else ((pleacherref02_in.f a0 63744 64975).bind fun t176 => (if t176 = true then (some true) else ((pleacherref02_in.f a0 65008 65533).bind fun t177 => (if t177 = true then (some true) else ((pleacherref02_in.f a0 65536 983039).bind fun t178 => (some t178)))))))))))))))))))))))))))))) = some r := h
  clear h
  by_cases c2 : a0 = 58
  · rw [if_pos c2] at H
    have c2b0 : (a0 == 58) = true := beq_iff_eq.mpr c2
    have c2b1 : (a0 != 58) = false := bne_eq_false_iff_eq.mpr c2
    clear c2
    obtain rfl := Option.some.inj H
    go_enter Try.func19, Try.ntmps19
    go_wp2
    go_ret
    exact ⟨by first | rfl | (simp; done) | (simp [*]; done), by repeat (first | exact Drawn0.refl _ | apply Drawn0.step)⟩
  · rw [if_neg c2] at H
    have c2b0 : (a0 == 58) = false := beq_eq_false_iff_ne.mpr c2
    have c2b1 : (a0 != 58) = true := bne_iff_ne.mpr c2
    replace H := Option.bind_eq_some_iff.mp H
    obtain ⟨t165, A30, H⟩ := H
    replace H : (if t165 = true then (some true) else (if a0 = 95 then (some true) else ((pleacherref02_in.f a0 97 122).bind fun t166 => (if t166 = true then (some true) else ((pleacherref02_in.f a0 192 214).bind fun t167 => (if t167 = true then (some true) else ((pleacherref02_in.f a0 216 246).bind fun t168 => (if t168 = true then (some true) else ((pleacherref02_in.f a0 248 767).bind fun t169 => (if t169 = true then (some true) else ((pleacherref02_in.f a0 880 893).bind fun t170 => (if t170 = true then (some true) else ((pleacherref02_in.f a0 895 8191).bind fun t171 => (if t171 = true then (some true) else ((pleacherref02_in.f a0 8204 8205).bind fun t172 => (if t172 = true then (some true) else ((pleacherref02_in.f a0 8304 8591).bind fun t173 => (if t173 = true then (some true) else ((pleacherref02_in.f a0 11264 12271).bind fun t174 => (if t174 = true then (some true) else ((pleacherref02_in.f a0 12289 55295).bind fun t175 => (if t175 = true then (some true) else ((pleacherref02_in.f a0 63744 64975).bind fun t176 => (if t176 = true then (some true) else ((pleacherref02_in.f a0 65008 65533).bind fun t177 => (if t177 = true then (some true) else ((pleacherref02_in.f a0 65536 983039).bind fun t178 => (some t178)))))))))))))))))))))))))))) = some r := H
    have A3 := Aside0.mk A30
    clear A30
    by_cases c4 : t165 = true
    · subst c4
      have H1 : (some true) = some r := by rw [if_pos rfl] at H; exact H
      clear H
      have H := H1
      clear H1
      obtain rfl := Option.some.inj H
      go_enter Try.func19, Try.ntmps19
      go_wp2_with (first | (go_at_call 38; (with_reducible refine (pleacherref02_in.calls a0 65 90 true _ A3.out).mono ?_); rintro e w' ⟨rfl, ⟨nd, rfl⟩⟩))
      go_ret
      exact ⟨by first | rfl | (simp; done) | (simp [*]; done), by repeat (first | exact Drawn0.refl _ | apply Drawn0.step)⟩
    · replace c4 := Bool.eq_false_iff.mpr c4
      subst c4
      have H1 : (if a0 = 95 then (some true) else ((pleacherref02_in.f a0 97 122).bind fun t166 => (if t166 = true then (some true) else ((pleacherref02_in.f a0 192 214).bind fun t167 => (if t167 = true then (some true) else ((pleacherref02_in.f a0 216 246).bind fun t168 => (if t168 = true then (some true) else ((pleacherref02_in.f a0 248 767).bind fun t169 => (if t169 = true then (some true) else ((pleacherref02_in.f a0 880 893).bind fun t170 => (if t170 = true then (some true) else ((pleacherref02_in.f a0 895 8191).bind fun t171 => (if t171 = true then (some true) else ((pleacherref02_in.f a0 8204 8205).bind fun t172 => (if t172 = true then (some true) else ((pleacherref02_in.f a0 8304 8591).bind fun t173 => (if t173 = true then (some true) else ((pleacherref02_in.f a0 11264 12271).bind fun t174 => (if t174 = true then (some true) else ((pleacherref02_in.f a0 12289 55295).bind fun t175 => (if t175 = true then (some true) else ((pleacherref02_in.f a0 63744 64975).bind fun t176 => (if t176 = true then (some true) else ((pleacherref02_in.f a0 65008 65533).bind fun t177 => (if t177 = true then (some true) else ((pleacherref02_in.f a0 65536 983039).bind fun t178 => (some t178))))))))))))))))))))))))))) = some r := by rw [if_neg (show ¬ (false = true) by decide)] at H; exact H
      clear H
      have H := H1
      clear H1
      by_cases c5 : a0 = 95
      · rw [if_pos c5] at H
        have c5b0 : (a0 == 95) = true := beq_iff_eq.mpr c5
        have c5b1 : (a0 != 95) = false := bne_eq_false_iff_eq.mpr c5
        clear c5
        obtain rfl := Option.some.inj H
        go_enter Try.func19, Try.ntmps19
        go_wp2_with (first | (go_at_call 38; (with_reducible refine (pleacherref02_in.calls a0 65 90 false _ A3.out).mono ?_); rintro e w' ⟨rfl, ⟨nd, rfl⟩⟩))
        go_ret
        exact ⟨by first | rfl | (simp; done) | (simp [*]; done), by repeat (first | exact Drawn0.refl _ | apply Drawn0.step)⟩
      · rw [if_neg c5] at H
        have c5b0 : (a0 == 95) = false := beq_eq_false_iff_ne.mpr c5
        have c5b1 : (a0 != 95) = true := bne_iff_ne.mpr c5
        replace H := Option.bind_eq_some_iff.mp H
        obtain ⟨t166, A60, H⟩ := H
        replace H : (if t166 = true then (some true) else ((pleacherref02_in.f a0 192 214).bind fun t167 => (if t167 = true then (some true) else ((pleacherref02_in.f a0 216 246).bind fun t168 => (if t168 = true then (some true) else ((pleacherref02_in.f a0 248 767).bind fun t169 => (if t169 = true then (some true) else ((pleacherref02_in.f a0 880 893).bind fun t170 => (if t170 = true then (some true) else ((pleacherref02_in.f a0 895 8191).bind fun t171 => (if t171 = true then (some true) else ((pleacherref02_in.f a0 8204 8205).bind fun t172 => (if t172 = true then (some true) else ((pleacherref02_in.f a0 8304 8591).bind fun t173 => (if t173 = true then (some true) else ((pleacherref02_in.f a0 11264 12271).bind fun t174 => (if t174 = true then (some true) else ((pleacherref02_in.f a0 12289 55295).bind fun t175 => (if t175 = true then (some true) else ((pleacherref02_in.f a0 63744 64975).bind fun t176 => (if t176 = true then (some true) else ((pleacherref02_in.f a0 65008 65533).bind fun t177 => (if t177 = true then (some true) else ((pleacherref02_in.f a0 65536 983039).bind fun t178 => (some t178))))))))))))))))))))))))) = some r := H
        have A6 := Aside0.mk A60
        clear A60
        by_cases c7 : t166 = true
        · subst c7
          have H1 : (some true) = some r := by rw [if_pos rfl] at H; exact H
          clear H
          have H := H1
          clear H1
          obtain rfl := Option.some.inj H
          go_enter Try.func19, Try.ntmps19
          go_wp2_with (first | (go_at_call 38; (with_reducible refine (pleacherref02_in.calls a0 65 90 false _ A3.out).mono ?_); rintro e w' ⟨rfl, ⟨nd, rfl⟩⟩) | (go_at_call 38; (with_reducible refine (pleacherref02_in.calls a0 97 122 true _ A6.out).mono ?_); rintro e w' ⟨rfl, ⟨nd, rfl⟩⟩))
          go_ret
          exact ⟨by first | rfl | (simp; done) | (simp [*]; done), by repeat (first | exact Drawn0.refl _ | apply Drawn0.step)⟩
        · replace c7 := Bool.eq_false_iff.mpr c7
          subst c7
          have H1 : ((pleacherref02_in.f a0 192 214).bind fun t167 => (if t167 = true then (some true) else ((pleacherref02_in.f a0 216 246).bind fun t168 => (if t168 = true then (some true) else ((pleacherref02_in.f a0 248 767).bind fun t169 => (if t169 = true then (some true) else ((pleacherref02_in.f a0 880 893).bind fun t170 => (if t170 = true then (some true) else ((pleacherref02_in.f a0 895 8191).bind fun t171 => (if t171 = true then (some true) else ((pleacherref02_in.f a0 8204 8205).bind fun t172 => (if t172 = true then (some true) else ((pleacherref02_in.f a0 8304 8591).bind fun t173 => (if t173 = true then (some true) else ((pleacherref02_in.f a0 11264 12271).bind fun t174 => (if t174 = true then (some true) else ((pleacherref02_in.f a0 12289 55295).bind fun t175 => (if t175 = true then (some true) else ((pleacherref02_in.f a0 63744 64975).bind fun t176 => (if t176 = true then (some true) else ((pleacherref02_in.f a0 65008 65533).bind fun t177 => (if t177 = true then (some true) else ((pleacherref02_in.f a0 65536 983039).bind fun t178 => (some t178)))))))))))))))))))))))) = some r := by rw [if_neg (show ¬ (false = true) by decide)] at H; exact H
          clear H
          have H := H1
          clear H1
          replace H := Option.bind_eq_some_iff.mp H
          obtain ⟨t167, A80, H⟩ := H
          replace H : (if t167 = true then (some true) else ((pleacherref02_in.f a0 216 246).bind fun t168 => (if t168 = true then (some true) else ((pleacherref02_in.f a0 248 767).bind fun t169 => (if t169 = true then (some true) else ((pleacherref02_in.f a0 880 893).bind fun t170 => (if t170 = true then (some true) else ((pleacherref02_in.f a0 895 8191).bind fun t171 => (if t171 = true then (some true) else ((pleacherref02_in.f a0 8204 8205).bind fun t172 => (if t172 = true then (some true) else ((pleacherref02_in.f a0 8304 8591).bind fun t173 => (if t173 = true then (some true) else ((pleacherref02_in.f a0 11264 12271).bind fun t174 => (if t174 = true then (some true) else ((pleacherref02_in.f a0 12289 55295).bind fun t175 => (if t175 = true then (some true) else ((pleacherref02_in.f a0 63744 64975).bind fun t176 => (if t176 = true then (some true) else ((pleacherref02_in.f a0 65008 65533).bind fun t177 => (if t177 = true then (some true) else ((pleacherref02_in.f a0 65536 983039).bind fun t178 => (some t178))))))))))))))))))))))) = some r := H
          have A8 := Aside0.mk A80
          clear A80
          by_cases c9 : t167 = true
          · subst c9
            have H1 : (some true) = some r := by rw [if_pos rfl] at H; exact H
            clear H
            have H := H1
            clear H1
            obtain rfl := Option.some.inj H
            go_enter Try.func19, Try.ntmps19
            go_wp2_with (first | (go_at_call 38; (with_reducible refine (pleacherref02_in.calls a0 65 90 false _ A3.out).mono ?_); rintro e w' ⟨rfl, ⟨nd, rfl⟩⟩) | (go_at_call 38; (with_reducible refine (pleacherref02_in.calls a0 97 122 false _ A6.out).mono ?_); rintro e w' ⟨rfl, ⟨nd, rfl⟩⟩) | (go_at_call 38; (with_reducible refine (pleacherref02_in.calls a0 192 214 true _ A8.out).mono ?_); rintro e w' ⟨rfl, ⟨nd, rfl⟩⟩))
            go_ret
            exact ⟨by first | rfl | (simp; done) | (simp [*]; done), by repeat (first | exact Drawn0.refl _ | apply Drawn0.step)⟩
          · replace c9 := Bool.eq_false_iff.mpr c9
            subst c9
            have H1 : ((pleacherref02_in.f a0 216 246).bind fun t168 => (if t168 = true then (some true) else ((pleacherref02_in.f a0 248 767).bind fun t169 => (if t169 = true then (some true) else ((pleacherref02_in.f a0 880 893).bind fun t170 => (if t170 = true then (some true) else ((pleacherref02_in.f a0 895 8191).bind fun t171 => (if t171 = true then (some true) else ((pleacherref02_in.f a0 8204 8205).bind fun t172 => (if t172 = true then (some true) else ((pleacherref02_in.f a0 8304 8591).bind fun t173 => (if t173 = true then (some true) else ((pleacherref02_in.f a0 11264 12271).bind fun t174 => (if t174 = true then (some true) else ((pleacherref02_in.f a0 12289 55295).bind fun t175 => (if t175 = true then (some true) else ((pleacherref02_in.f a0 63744 64975).bind fun t176 => (if t176 = true then (some true) else ((pleacherref02_in.f a0 65008 65533).bind fun t177 => (if t177 = true then (some true) else ((pleacherref02_in.f a0 65536 983039).bind fun t178 => (some t178)))))))))))))))))))))) = some r := by rw [if_neg (show ¬ (false = true) by decide)] at H; exact H
            clear H
            have H := H1
            clear H1
            replace H := Option.bind_eq_some_iff.mp H
            obtain ⟨t168, A100, H⟩ := H
            replace H : (if t168 = true then (some true) else ((pleacherref02_in.f a0 248 767).bind fun t169 => (if t169 = true then (some true) else ((pleacherref02_in.f a0 880 893).bind fun t170 => (if t170 = true then (some true) else ((pleacherref02_in.f a0 895 8191).bind fun t171 => (if t171 = true then (some true) else ((pleacherref02_in.f a0 8204 8205).bind fun t172 => (if t172 = true then (some true) else ((pleacherref02_in.f a0 8304 8591).bind fun t173 => (if t173 = true then (some true) else ((pleacherref02_in.f a0 11264 12271).bind fun t174 => (if t174 = true then (some true) else ((pleacherref02_in.f a0 12289 55295).bind fun t175 => (if t175 = true then (some true) else ((pleacherref02_in.f a0 63744 64975).bind fun t176 => (if t176 = true then (some true) else ((pleacherref02_in.f a0 65008 65533).bind fun t177 => (if t177 = true then (some true) else ((pleacherref02_in.f a0 65536 983039).bind fun t178 => (some t178))))))))))))))))))))) = some r := H
            have A10 := Aside0.mk A100
            clear A100
            by_cases c11 : t168 = true
            · subst c11
              have H1 : (some true) = some r := by rw [if_pos rfl] at H; exact H
              clear H
              have H := H1
              clear H1
              obtain rfl := Option.some.inj H
              go_enter Try.func19, Try.ntmps19
              go_wp2_with (first | (go_at_call 38; (with_reducible refine (pleacherref02_in.calls a0 65 90 false _ A3.out).mono ?_); rintro e w' ⟨rfl, ⟨nd, rfl⟩⟩) | (go_at_call 38; (with_reducible refine (pleacherref02_in.calls a0 97 122 false _ A6.out).mono ?_); rintro e w' ⟨rfl, ⟨nd, rfl⟩⟩) | (go_at_call 38; (with_reducible refine (pleacherref02_in.calls a0 192 214 false _ A8.out).mono ?_); rintro e w' ⟨rfl, ⟨nd, rfl⟩⟩) | (go_at_call 38; (with_reducible refine (pleacherref02_in.calls a0 216 246 true _ A10.out).mono ?_); rintro e w' ⟨rfl, ⟨nd, rfl⟩⟩))
              go_ret
              exact ⟨by first | rfl | (simp; done) | (simp [*]; done), by repeat (first | exact Drawn0.refl _ | apply Drawn0.step)⟩
            · replace c11 := Bool.eq_false_iff.mpr c11
              subst c11
              have H1 : ((pleacherref02_in.f a0 248 767).bind fun t169 => (if t169 = true then (some true) else ((pleacherref02_in.f a0 880 893).bind fun t170 => (if t170 = true then (some true) else ((pleacherref02_in.f a0 895 8191).bind fun t171 => (if t171 = true then (some true) else ((pleacherref02_in.f a0 8204 8205).bind fun t172 => (if t172 = true then (some true) else ((pleacherref02_in.f a0 8304 8591).bind fun t173 => (if t173 = true then (some true) else ((pleacherref02_in.f a0 11264 12271).bind fun t174 => (if t174 = true then (some true) else ((pleacherref02_in.f a0 12289 55295).bind fun t175 => (if t175 = true then (some true) else ((pleacherref02_in.f a0 63744 64975).bind fun t176 => (if t176 = true then (some true) else ((pleacherref02_in.f a0 65008 65533).bind fun t177 => (if t177 = true then (some true) else ((pleacherref02_in.f a0 65536 983039).bind fun t178 => (some t178)))))))))))))))))))) = some r := by rw [if_neg (show ¬ (false = true) by decide)] at H; exact H
              clear H
              have H := H1
              clear H1
              replace H := Option.bind_eq_some_iff.mp H
              obtain ⟨t169, A120, H⟩ := H
              replace H : (if t169 = true then (some true) else ((pleacherref02_in.f a0 880 893).bind fun t170 => (if t170 = true then (some true) else ((pleacherref02_in.f a0 895 8191).bind fun t171 => (if t171 = true then (some true) else ((pleacherref02_in.f a0 8204 8205).bind fun t172 => (if t172 = true then (some true) else ((pleacherref02_in.f a0 8304 8591).bind fun t173 => (if t173 = true then (some true) else ((pleacherref02_in.f a0 11264 12271).bind fun t174 => (if t174 = true then (some true) else ((pleacherref02_in.f a0 12289 55295).bind fun t175 => (if t175 = true then (some true) else ((pleacherref02_in.f a0 63744 64975).bind fun t176 => (if t176 = true then (some true) else ((pleacherref02_in.f a0 65008 65533).bind fun t177 => (if t177 = true then (some true) else ((pleacherref02_in.f a0 65536 983039).bind fun t178 => (some t178))))))))))))))))))) = some r := H
              have A12 := Aside0.mk A120
              clear A120
              by_cases c13 : t169 = true
              · subst c13
                have H1 : (some true) = some r := by rw [if_pos rfl] at H; exact H
                clear H
                have H := H1
                clear H1
                obtain rfl := Option.some.inj H
                go_enter Try.func19, Try.ntmps19
                go_wp2_with (first | (go_at_call 38; (with_reducible refine (pleacherref02_in.calls a0 65 90 false _ A3.out).mono ?_); rintro e w' ⟨rfl, ⟨nd, rfl⟩⟩) | (go_at_call 38; (with_reducible refine (pleacherref02_in.calls a0 97 122 false _ A6.out).mono ?_); rintro e w' ⟨rfl, ⟨nd, rfl⟩⟩) | (go_at_call 38; (with_reducible refine (pleacherref02_in.calls a0 192 214 false _ A8.out).mono ?_); rintro e w' ⟨rfl, ⟨nd, rfl⟩⟩) | (go_at_call 38; (with_reducible refine (pleacherref02_in.calls a0 216 246 false _ A10.out).mono ?_); rintro e w' ⟨rfl, ⟨nd, rfl⟩⟩) | (go_at_call 38; (with_reducible refine (pleacherref02_in.calls a0 248 767 true _ A12.out).mono ?_); rintro e w' ⟨rfl, ⟨nd, rfl⟩⟩))
                go_ret
                exact ⟨by first | rfl | (simp; done) | (simp [*]; done), by repeat (first | exact Drawn0.refl _ | apply Drawn0.step)⟩
              · replace c13 := Bool.eq_false_iff.mpr c13
                subst c13
                have H1 : ((pleacherref02_in.f a0 880 893).bind fun t170 => (if t170 = true then (some true) else ((pleacherref02_in.f a0 895 8191).bind fun t171 => (if t171 = true then (some true) else ((pleacherref02_in.f a0 8204 8205).bind fun t172 => (if t172 = true then (some true) else ((pleacherref02_in.f a0 8304 8591).bind fun t173 => (if t173 = true then (some true) else ((pleacherref02_in.f a0 11264 12271).bind fun t174 => (if t174 = true then (some true) else ((pleacherref02_in.f a0 12289 55295).bind fun t175 => (if t175 = true then (some true) else ((pleacherref02_in.f a0 63744 64975).bind fun t176 => (if t176 = true then (some true) else ((pleacherref02_in.f a0 65008 65533).bind fun t177 => (if t177 = true then (some true) else ((pleacherref02_in.f a0 65536 983039).bind fun t178 => (some t178)))))))))))))))))) = some r := by rw [if_neg (show ¬ (false = true) by decide)] at H; exact H
                clear H
                have H := H1
                clear H1
                replace H := Option.bind_eq_some_iff.mp H
                obtain ⟨t170, A140, H⟩ := H
                replace H : (if t170 = true then (some true) else ((pleacherref02_in.f a0 895 8191).bind fun t171 => (if t171 = true then (some true) else ((pleacherref02_in.f a0 8204 8205).bind fun t172 => (if t172 = true then (some true) else ((pleacherref02_in.f a0 8304 8591).bind fun t173 => (if t173 = true then (some true) else ((pleacherref02_in.f a0 11264 12271).bind fun t174 => (if t174 = true then (some true) else ((pleacherref02_in.f a0 12289 55295).bind fun t175 => (if t175 = true then (some true) else ((pleacherref02_in.f a0 63744 64975).bind fun t176 => (if t176 = true then (some true) else ((pleacherref02_in.f a0 65008 65533).bind fun t177 => (if t177 = true then (some true) else ((pleacherref02_in.f a0 65536 983039).bind fun t178 => (some t178))))))))))))))))) = some r := H
                have A14 := Aside0.mk A140
                clear A140
                by_cases c15 : t170 = true
                · subst c15
                  have H1 : (some true) = some r := by rw [if_pos rfl] at H; exact H
                  clear H
                  have H := H1
                  clear H1
                  obtain rfl := Option.some.inj H
                  go_enter Try.func19, Try.ntmps19
                  go_wp2_with (first | (go_at_call 38; (with_reducible refine (pleacherref02_in.calls a0 65 90 false _ A3.out).mono ?_); rintro e w' ⟨rfl, ⟨nd, rfl⟩⟩) | (go_at_call 38; (with_reducible refine (pleacherref02_in.calls a0 97 122 false _ A6.out).mono ?_); rintro e w' ⟨rfl, ⟨nd, rfl⟩⟩) | (go_at_call 38; (with_reducible refine (pleacherref02_in.calls a0 192 214 false _ A8.out).mono ?_); rintro e w' ⟨rfl, ⟨nd, rfl⟩⟩) | (go_at_call 38; (with_reducible refine (pleacherref02_in.calls a0 216 246 false _ A10.out).mono ?_); rintro e w' ⟨rfl, ⟨nd, rfl⟩⟩) | (go_at_call 38; (with_reducible refine (pleacherref02_in.calls a0 248 767 false _ A12.out).mono ?_); rintro e w' ⟨rfl, ⟨nd, rfl⟩⟩) | (go_at_call 38; (with_reducible refine (pleacherref02_in.calls a0 880 893 true _ A14.out).mono ?_); rintro e w' ⟨rfl, ⟨nd, rfl⟩⟩))
                  go_ret
                  exact ⟨by first | rfl | (simp; done) | (simp [*]; done), by repeat (first | exact Drawn0.refl _ | apply Drawn0.step)⟩
                · replace c15 := Bool.eq_false_iff.mpr c15
                  subst c15
                  have H1 : ((pleacherref02_in.f a0 895 8191).bind fun t171 => (if t171 = true then (some true) else ((pleacherref02_in.f a0 8204 8205).bind fun t172 => (if t172 = true then (some true) else ((pleacherref02_in.f a0 8304 8591).bind fun t173 => (if t173 = true then (some true) else ((pleacherref02_in.f a0 11264 12271).bind fun t174 => (if t174 = true then (some true) else ((pleacherref02_in.f a0 12289 55295).bind fun t175 => (if t175 = true then (some true) else ((pleacherref02_in.f a0 63744 64975).bind fun t176 => (if t176 = true then (some true) else ((pleacherref02_in.f a0 65008 65533).bind fun t177 => (if t177 = true then (some true) else ((pleacherref02_in.f a0 65536 983039).bind fun t178 => (some t178)))))))))))))))) = some r := by rw [if_neg (show ¬ (false = true) by decide)] at H; exact H
                  clear H
                  have H := H1
                  clear H1
                  replace H := Option.bind_eq_some_iff.mp H
                  obtain ⟨t171, A160, H⟩ := H
                  replace H : (if t171 = true then (some true) else ((pleacherref02_in.f a0 8204 8205).bind fun t172 => (if t172 = true then (some true) else ((pleacherref02_in.f a0 8304 8591).bind fun t173 => (if t173 = true then (some true) else ((pleacherref02_in.f a0 11264 12271).bind fun t174 => (if t174 = true then (some true) else ((pleacherref02_in.f a0 12289 55295).bind fun t175 => (if t175 = true then (some true) else ((pleacherref02_in.f a0 63744 64975).bind fun t176 => (if t176 = true then (some true) else ((pleacherref02_in.f a0 65008 65533).bind fun t177 => (if t177 = true then (some true) else ((pleacherref02_in.f a0 65536 983039).bind fun t178 => (some t178))))))))))))))) = some r := H
                  have A16 := Aside0.mk A160
                  clear A160
                  by_cases c17 : t171 = true
                  · subst c17
                    have H1 : (some true) = some r := by rw [if_pos rfl] at H; exact H
                    clear H
                    have H := H1
                    clear H1
                    obtain rfl := Option.some.inj H
                    go_enter Try.func19, Try.ntmps19
                    go_wp2_with (first | (go_at_call 38; (with_reducible refine (pleacherref02_in.calls a0 65 90 false _ A3.out).mono ?_); rintro e w' ⟨rfl, ⟨nd, rfl⟩⟩) | (go_at_call 38; (with_reducible refine (pleacherref02_in.calls a0 97 122 false _ A6.out).mono ?_); rintro e w' ⟨rfl, ⟨nd, rfl⟩⟩) | (go_at_call 38; (with_reducible refine (pleacherref02_in.calls a0 192 214 false _ A8.out).mono ?_); rintro e w' ⟨rfl, ⟨nd, rfl⟩⟩) | (go_at_call 38; (with_reducible refine (pleacherref02_in.calls a0 216 246 false _ A10.out).mono ?_); rintro e w' ⟨rfl, ⟨nd, rfl⟩⟩) | (go_at_call 38; (with_reducible refine (pleacherref02_in.calls a0 248 767 false _ A12.out).mono ?_); rintro e w' ⟨rfl, ⟨nd, rfl⟩⟩) | (go_at_call 38; (with_reducible refine (pleacherref02_in.calls a0 880 893 false _ A14.out).mono ?_); rintro e w' ⟨rfl, ⟨nd, rfl⟩⟩) | (go_at_call 38; (with_reducible refine (pleacherref02_in.calls a0 895 8191 true _ A16.out).mono ?_); rintro e w' ⟨rfl, ⟨nd, rfl⟩⟩))
                    go_ret
                    exact ⟨by first | rfl | (simp; done) | (simp [*]; done), by repeat (first | exact Drawn0.refl _ | apply Drawn0.step)⟩
                  · replace c17 := Bool.eq_false_iff.mpr c17
                    subst c17
                    have H1 : ((pleacherref02_in.f a0 8204 8205).bind fun t172 => (if t172 = true then (some true) else ((pleacherref02_in.f a0 8304 8591).bind fun t173 => (if t173 = true then (some true) else ((pleacherref02_in.f a0 11264 12271).bind fun t174 => (if t174 = true then (some true) else ((pleacherref02_in.f a0 12289 55295).bind fun t175 => (if t175 = true then (some true) else ((pleacherref02_in.f a0 63744 64975).bind fun t176 => (if t176 = true then (some true) else ((pleacherref02_in.f a0 65008 65533).bind fun t177 => (if t177 = true then (some true) else ((pleacherref02_in.f a0 65536 983039).bind fun t178 => (some t178)))))))))))))) = some r := by rw [if_neg (show ¬ (false = true) by decide)] at H; exact H
                    clear H
                    have H := H1
                    clear H1
                    replace H := Option.bind_eq_some_iff.mp H
                    obtain ⟨t172, A180, H⟩ := H
                    replace H : (if t172 = true then (some true) else ((pleacherref02_in.f a0 8304 8591).bind fun t173 => (if t173 = true then (some true) else ((pleacherref02_in.f a0 11264 12271).bind fun t174 => (if t174 = true then (some true) else ((pleacherref02_in.f a0 12289 55295).bind fun t175 => (if t175 = true then (some true) else ((pleacherref02_in.f a0 63744 64975).bind fun t176 => (if t176 = true then (some true) else ((pleacherref02_in.f a0 65008 65533).bind fun t177 => (if t177 = true then (some true) else ((pleacherref02_in.f a0 65536 983039).bind fun t178 => (some t178))))))))))))) = some r := H
                    have A18 := Aside0.mk A180
                    clear A180
                    by_cases c19 : t172 = true
                    · subst c19
                      have H1 : (some true) = some r := by rw [if_pos rfl] at H; exact H
                      clear H
                      have H := H1
                      clear H1
                      obtain rfl := Option.some.inj H
                      go_enter Try.func19, Try.ntmps19
                      go_wp2_with (first | (go_at_call 38; (with_reducible refine (pleacherref02_in.calls a0 65 90 false _ A3.out).mono ?_); rintro e w' ⟨rfl, ⟨nd, rfl⟩⟩) | (go_at_call 38; (with_reducible refine (pleacherref02_in.calls a0 97 122 false _ A6.out).mono ?_); rintro e w' ⟨rfl, ⟨nd, rfl⟩⟩) | (go_at_call 38; (with_reducible refine (pleacherref02_in.calls a0 192 214 false _ A8.out).mono ?_); rintro e w' ⟨rfl, ⟨nd, rfl⟩⟩) | (go_at_call 38; (with_reducible refine (pleacherref02_in.calls a0 216 246 false _ A10.out).mono ?_); rintro e w' ⟨rfl, ⟨nd, rfl⟩⟩) | (go_at_call 38; (with_reducible refine (pleacherref02_in.calls a0 248 767 false _ A12.out).mono ?_); rintro e w' ⟨rfl, ⟨nd, rfl⟩⟩) | (go_at_call 38; (with_reducible refine (pleacherref02_in.calls a0 880 893 false _ A14.out).mono ?_); rintro e w' ⟨rfl, ⟨nd, rfl⟩⟩) | (go_at_call 38; (with_reducible refine (pleacherref02_in.calls a0 895 8191 false _ A16.out).mono ?_); rintro e w' ⟨rfl, ⟨nd, rfl⟩⟩) | (go_at_call 38; (with_reducible refine (pleacherref02_in.calls a0 8204 8205 true _ A18.out).mono ?_); rintro e w' ⟨rfl, ⟨nd, rfl⟩⟩))
                      go_ret
                      exact ⟨by first | rfl | (simp; done) | (simp [*]; done), by repeat (first | exact Drawn0.refl _ | apply Drawn0.step)⟩
                    · replace c19 := Bool.eq_false_iff.mpr c19
                      subst c19
                      have H1 : ((pleacherref02_in.f a0 8304 8591).bind fun t173 => (if t173 = true then (some true) else ((pleacherref02_in.f a0 11264 12271).bind fun t174 => (if t174 = true then (some true) else ((pleacherref02_in.f a0 12289 55295).bind fun t175 => (if t175 = true then (some true) else ((pleacherref02_in.f a0 63744 64975).bind fun t176 => (if t176 = true then (some true) else ((pleacherref02_in.f a0 65008 65533).bind fun t177 => (if t177 = true then (some true) else ((pleacherref02_in.f a0 65536 983039).bind fun t178 => (some t178)))))))))))) = some r := by rw [if_neg (show ¬ (false = true) by decide)] at H; exact H
                      clear H
                      have H := H1
                      clear H1
                      replace H := Option.bind_eq_some_iff.mp H
                      obtain ⟨t173, A200, H⟩ := H
                      replace H : (if t173 = true then (some true) else ((pleacherref02_in.f a0 11264 12271).bind fun t174 => (if t174 = true then (some true) else ((pleacherref02_in.f a0 12289 55295).bind fun t175 => (if t175 = true then (some true) else ((pleacherref02_in.f a0 63744 64975).bind fun t176 => (if t176 = true then (some true) else ((pleacherref02_in.f a0 65008 65533).bind fun t177 => (if t177 = true then (some true) else ((pleacherref02_in.f a0 65536 983039).bind fun t178 => (some t178))))))))))) = some r := H
                      have A20 := Aside0.mk A200
                      clear A200
                      by_cases c21 : t173 = true
                      · subst c21
                        have H1 : (some true) = some r := by rw [if_pos rfl] at H; exact H
                        clear H
                        have H := H1
                        clear H1
                        obtain rfl := Option.some.inj H
                        go_enter Try.func19, Try.ntmps19
                        go_wp2_with (first | (go_at_call 38; (with_reducible refine (pleacherref02_in.calls a0 65 90 false _ A3.out).mono ?_); rintro e w' ⟨rfl, ⟨nd, rfl⟩⟩) | (go_at_call 38; (with_reducible refine (pleacherref02_in.calls a0 97 122 false _ A6.out).mono ?_); rintro e w' ⟨rfl, ⟨nd, rfl⟩⟩) | (go_at_call 38; (with_reducible refine (pleacherref02_in.calls a0 192 214 false _ A8.out).mono ?_); rintro e w' ⟨rfl, ⟨nd, rfl⟩⟩) | (go_at_call 38; (with_reducible refine (pleacherref02_in.calls a0 216 246 false _ A10.out).mono ?_); rintro e w' ⟨rfl, ⟨nd, rfl⟩⟩) | (go_at_call 38; (with_reducible refine (pleacherref02_in.calls a0 248 767 false _ A12.out).mono ?_); rintro e w' ⟨rfl, ⟨nd, rfl⟩⟩) | (go_at_call 38; (with_reducible refine (pleacherref02_in.calls a0 880 893 false _ A14.out).mono ?_); rintro e w' ⟨rfl, ⟨nd, rfl⟩⟩) | (go_at_call 38; (with_reducible refine (pleacherref02_in.calls a0 895 8191 false _ A16.out).mono ?_); rintro e w' ⟨rfl, ⟨nd, rfl⟩⟩) | (go_at_call 38; (with_reducible refine (pleacherref02_in.calls a0 8204 8205 false _ A18.out).mono ?_); rintro e w' ⟨rfl, ⟨nd, rfl⟩⟩) | (go_at_call 38; (with_reducible refine (pleacherref02_in.calls a0 8304 8591 true _ A20.out).mono ?_); rintro e w' ⟨rfl, ⟨nd, rfl⟩⟩))
                        go_ret
                        exact ⟨by first | rfl | (simp; done) | (simp [*]; done), by repeat (first | exact Drawn0.refl _ | apply Drawn0.step)⟩
                      · replace c21 := Bool.eq_false_iff.mpr c21
                        subst c21
                        have H1 : ((pleacherref02_in.f a0 11264 12271).bind fun t174 => (if t174 = true then (some true) else ((pleacherref02_in.f a0 12289 55295).bind fun t175 => (if t175 = true then (some true) else ((pleacherref02_in.f a0 63744 64975).bind fun t176 => (if t176 = true then (some true) else ((pleacherref02_in.f a0 65008 65533).bind fun t177 => (if t177 = true then (some true) else ((pleacherref02_in.f a0 65536 983039).bind fun t178 => (some t178)))))))))) = some r := by rw [if_neg (show ¬ (false = true) by decide)] at H; exact H
                        clear H
                        have H := H1
                        clear H1
                        replace H := Option.bind_eq_some_iff.mp H
                        obtain ⟨t174, A220, H⟩ := H
                        replace H : (if t174 = true then (some true) else ((pleacherref02_in.f a0 12289 55295).bind fun t175 => (if t175 = true then (some true) else ((pleacherref02_in.f a0 63744 64975).bind fun t176 => (if t176 = true then (some true) else ((pleacherref02_in.f a0 65008 65533).bind fun t177 => (if t177 = true then (some true) else ((pleacherref02_in.f a0 65536 983039).bind fun t178 => (some t178))))))))) = some r := H
                        have A22 := Aside0.mk A220
                        clear A220
                        by_cases c23 : t174 = true
                        · subst c23
                          have H1 : (some true) = some r := by rw [if_pos rfl] at H; exact H
                          clear H
                          have H := H1
                          clear H1
                          obtain rfl := Option.some.inj H
                          go_enter Try.func19, Try.ntmps19
                          go_wp2_with (first | (go_at_call 38; (with_reducible refine (pleacherref02_in.calls a0 65 90 false _ A3.out).mono ?_); rintro e w' ⟨rfl, ⟨nd, rfl⟩⟩) | (go_at_call 38; (with_reducible refine (pleacherref02_in.calls a0 97 122 false _ A6.out).mono ?_); rintro e w' ⟨rfl, ⟨nd, rfl⟩⟩) | (go_at_call 38; (with_reducible refine (pleacherref02_in.calls a0 192 214 false _ A8.out).mono ?_); rintro e w' ⟨rfl, ⟨nd, rfl⟩⟩) | (go_at_call 38; (with_reducible refine (pleacherref02_in.calls a0 216 246 false _ A10.out).mono ?_); rintro e w' ⟨rfl, ⟨nd, rfl⟩⟩) | (go_at_call 38; (with_reducible refine (pleacherref02_in.calls a0 248 767 false _ A12.out).mono ?_); rintro e w' ⟨rfl, ⟨nd, rfl⟩⟩) | (go_at_call 38; (with_reducible refine (pleacherref02_in.calls a0 880 893 false _ A14.out).mono ?_); rintro e w' ⟨rfl, ⟨nd, rfl⟩⟩) | (go_at_call 38; (with_reducible refine (pleacherref02_in.calls a0 895 8191 false _ A16.out).mono ?_); rintro e w' ⟨rfl, ⟨nd, rfl⟩⟩) | (go_at_call 38; (with_reducible refine (pleacherref02_in.calls a0 8204 8205 false _ A18.out).mono ?_); rintro e w' ⟨rfl, ⟨nd, rfl⟩⟩) | (go_at_call 38; (with_reducible refine (pleacherref02_in.calls a0 8304 8591 false _ A20.out).mono ?_); rintro e w' ⟨rfl, ⟨nd, rfl⟩⟩) | (go_at_call 38; (with_reducible refine (pleacherref02_in.calls a0 11264 12271 true _ A22.out).mono ?_); rintro e w' ⟨rfl, ⟨nd, rfl⟩⟩))
                          go_ret
                          exact ⟨by first | rfl | (simp; done) | (simp [*]; done), by repeat (first | exact Drawn0.refl _ | apply Drawn0.step)⟩
                        · replace c23 := Bool.eq_false_iff.mpr c23
                          subst c23
                          have H1 : ((pleacherref02_in.f a0 12289 55295).bind fun t175 => (if t175 = true then (some true) else ((pleacherref02_in.f a0 63744 64975).bind fun t176 => (if t176 = true then (some true) else ((pleacherref02_in.f a0 65008 65533).bind fun t177 => (if t177 = true then (some true) else ((pleacherref02_in.f a0 65536 983039).bind fun t178 => (some t178)))))))) = some r := by rw [if_neg (show ¬ (false = true) by decide)] at H; exact H
                          clear H
                          have H := H1
                          clear H1
                          replace H := Option.bind_eq_some_iff.mp H
                          obtain ⟨t175, A240, H⟩ := H
                          replace H : (if t175 = true then (some true) else ((pleacherref02_in.f a0 63744 64975).bind fun t176 => (if t176 = true then (some true) else ((pleacherref02_in.f a0 65008 65533).bind fun t177 => (if t177 = true then (some true) else ((pleacherref02_in.f a0 65536 983039).bind fun t178 => (some t178))))))) = some r := H
                          have A24 := Aside0.mk A240
                          clear A240
                          by_cases c25 : t175 = true
                          · subst c25
                            have H1 : (some true) = some r := by rw [if_pos rfl] at H; exact H
                            clear H
                            have H := H1
                            clear H1
                            obtain rfl := Option.some.inj H
                            go_enter Try.func19, Try.ntmps19
                            go_wp2_with (first | (go_at_call 38; (with_reducible refine (pleacherref02_in.calls a0 65 90 false _ A3.out).mono ?_); rintro e w' ⟨rfl, ⟨nd, rfl⟩⟩) | (go_at_call 38; (with_reducible refine (pleacherref02_in.calls a0 97 122 false _ A6.out).mono ?_); rintro e w' ⟨rfl, ⟨nd, rfl⟩⟩) | (go_at_call 38; (with_reducible refine (pleacherref02_in.calls a0 192 214 false _ A8.out).mono ?_); rintro e w' ⟨rfl, ⟨nd, rfl⟩⟩) | (go_at_call 38; (with_reducible refine (pleacherref02_in.calls a0 216 246 false _ A10.out).mono ?_); rintro e w' ⟨rfl, ⟨nd, rfl⟩⟩) | (go_at_call 38; (with_reducible refine (pleacherref02_in.calls a0 248 767 false _ A12.out).mono ?_); rintro e w' ⟨rfl, ⟨nd, rfl⟩⟩) | (go_at_call 38; (with_reducible refine (pleacherref02_in.calls a0 880 893 false _ A14.out).mono ?_); rintro e w' ⟨rfl, ⟨nd, rfl⟩⟩) | (go_at_call 38; (with_reducible refine (pleacherref02_in.calls a0 895 8191 false _ A16.out).mono ?_); rintro e w' ⟨rfl, ⟨nd, rfl⟩⟩) | (go_at_call 38; (with_reducible refine (pleacherref02_in.calls a0 8204 8205 false _ A18.out).mono ?_); rintro e w' ⟨rfl, ⟨nd, rfl⟩⟩) | (go_at_call 38; (with_reducible refine (pleacherref02_in.calls a0 8304 8591 false _ A20.out).mono ?_); rintro e w' ⟨rfl, ⟨nd, rfl⟩⟩) | (go_at_call 38; (with_reducible refine (pleacherref02_in.calls a0 11264 12271 false _ A22.out).mono ?_); rintro e w' ⟨rfl, ⟨nd, rfl⟩⟩) | (go_at_call 38; (with_reducible refine (pleacherref02_in.calls a0 12289 55295 true _ A24.out).mono ?_); rintro e w' ⟨rfl, ⟨nd, rfl⟩⟩))
                            go_ret
                            exact ⟨by first | rfl | (simp; done) | (simp [*]; done), by repeat (first | exact Drawn0.refl _ | apply Drawn0.step)⟩
                          · replace c25 := Bool.eq_false_iff.mpr c25
                            subst c25
                            have H1 : ((pleacherref02_in.f a0 63744 64975).bind fun t176 => (if t176 = true then (some true) else ((pleacherref02_in.f a0 65008 65533).bind fun t177 => (if t177 = true then (some true) else ((pleacherref02_in.f a0 65536 983039).bind fun t178 => (some t178)))))) = some r := by rw [if_neg (show ¬ (false = true) by decide)] at H; exact H
                            clear H
                            have H := H1
                            clear H1
                            replace H := Option.bind_eq_some_iff.mp H
                            obtain ⟨t176, A260, H⟩ := H
                            replace H : (if t176 = true then (some true) else ((pleacherref02_in.f a0 65008 65533).bind fun t177 => (if t177 = true then (some true) else ((pleacherref02_in.f a0 65536 983039).bind fun t178 => (some t178))))) = some r := H
                            have A26 := Aside0.mk A260
                            clear A260
                            by_cases c27 : t176 = true
                            · subst c27
                              have H1 : (some true) = some r := by rw [if_pos rfl] at H; exact H
                              clear H
                              have H := H1
                              clear H1
                              obtain rfl := Option.some.inj H
                              go_enter Try.func19, Try.ntmps19
                              go_wp2_with (first | (go_at_call 38; (with_reducible refine (pleacherref02_in.calls a0 65 90 false _ A3.out).mono ?_); rintro e w' ⟨rfl, ⟨nd, rfl⟩⟩) | (go_at_call 38; (with_reducible refine (pleacherref02_in.calls a0 97 122 false _ A6.out).mono ?_); rintro e w' ⟨rfl, ⟨nd, rfl⟩⟩) | (go_at_call 38; (with_reducible refine (pleacherref02_in.calls a0 192 214 false _ A8.out).mono ?_); rintro e w' ⟨rfl, ⟨nd, rfl⟩⟩) | (go_at_call 38; (with_reducible refine (pleacherref02_in.calls a0 216 246 false _ A10.out).mono ?_); rintro e w' ⟨rfl, ⟨nd, rfl⟩⟩) | (go_at_call 38; (with_reducible refine (pleacherref02_in.calls a0 248 767 false _ A12.out).mono ?_); rintro e w' ⟨rfl, ⟨nd, rfl⟩⟩) | (go_at_call 38; (with_reducible refine (pleacherref02_in.calls a0 880 893 false _ A14.out).mono ?_); rintro e w' ⟨rfl, ⟨nd, rfl⟩⟩) | (go_at_call 38; (with_reducible refine (pleacherref02_in.calls a0 895 8191 false _ A16.out).mono ?_); rintro e w' ⟨rfl, ⟨nd, rfl⟩⟩) | (go_at_call 38; (with_reducible refine (pleacherref02_in.calls a0 8204 8205 false _ A18.out).mono ?_); rintro e w' ⟨rfl, ⟨nd, rfl⟩⟩) | (go_at_call 38; (with_reducible refine (pleacherref02_in.calls a0 8304 8591 false _ A20.out).mono ?_); rintro e w' ⟨rfl, ⟨nd, rfl⟩⟩) | (go_at_call 38; (with_reducible refine (pleacherref02_in.calls a0 11264 12271 false _ A22.out).mono ?_); rintro e w' ⟨rfl, ⟨nd, rfl⟩⟩) | (go_at_call 38; (with_reducible refine (pleacherref02_in.calls a0 12289 55295 false _ A24.out).mono ?_); rintro e w' ⟨rfl, ⟨nd, rfl⟩⟩) | (go_at_call 38; (with_reducible refine (pleacherref02_in.calls a0 63744 64975 true _ A26.out).mono ?_); rintro e w' ⟨rfl, ⟨nd, rfl⟩⟩))
                              go_ret
                              exact ⟨by first | rfl | (simp; done) | (simp [*]; done), by repeat (first | exact Drawn0.refl _ | apply Drawn0.step)⟩
                            · replace c27 := Bool.eq_false_iff.mpr c27
                              subst c27
                              have H1 : ((pleacherref02_in.f a0 65008 65533).bind fun t177 => (if t177 = true then (some true) else ((pleacherref02_in.f a0 65536 983039).bind fun t178 => (some t178)))) = some r := by rw [if_neg (show ¬ (false = true) by decide)] at H; exact H
                              clear H
                              have H := H1
                              clear H1
                              replace H := Option.bind_eq_some_iff.mp H
                              obtain ⟨t177, A280, H⟩ := H
                              replace H : (if t177 = true then (some true) else ((pleacherref02_in.f a0 65536 983039).bind fun t178 => (some t178))) = some r := H
                              have A28 := Aside0.mk A280
                              clear A280
                              by_cases c29 : t177 = true
                              · subst c29
                                have H1 : (some true) = some r := by rw [if_pos rfl] at H; exact H
                                clear H
                                have H := H1
                                clear H1
                                obtain rfl := Option.some.inj H
                                go_enter Try.func19, Try.ntmps19
                                go_wp2_with (first | (go_at_call 38; (with_reducible refine (pleacherref02_in.calls a0 65 90 false _ A3.out).mono ?_); rintro e w' ⟨rfl, ⟨nd, rfl⟩⟩) | (go_at_call 38; (with_reducible refine (pleacherref02_in.calls a0 97 122 false _ A6.out).mono ?_); rintro e w' ⟨rfl, ⟨nd, rfl⟩⟩) | (go_at_call 38; (with_reducible refine (pleacherref02_in.calls a0 192 214 false _ A8.out).mono ?_); rintro e w' ⟨rfl, ⟨nd, rfl⟩⟩) | (go_at_call 38; (with_reducible refine (pleacherref02_in.calls a0 216 246 false _ A10.out).mono ?_); rintro e w' ⟨rfl, ⟨nd, rfl⟩⟩) | (go_at_call 38; (with_reducible refine (pleacherref02_in.calls a0 248 767 false _ A12.out).mono ?_); rintro e w' ⟨rfl, ⟨nd, rfl⟩⟩) | (go_at_call 38; (with_reducible refine (pleacherref02_in.calls a0 880 893 false _ A14.out).mono ?_); rintro e w' ⟨rfl, ⟨nd, rfl⟩⟩) | (go_at_call 38; (with_reducible refine (pleacherref02_in.calls a0 895 8191 false _ A16.out).mono ?_); rintro e w' ⟨rfl, ⟨nd, rfl⟩⟩) | (go_at_call 38; (with_reducible refine (pleacherref02_in.calls a0 8204 8205 false _ A18.out).mono ?_); rintro e w' ⟨rfl, ⟨nd, rfl⟩⟩) | (go_at_call 38; (with_reducible refine (pleacherref02_in.calls a0 8304 8591 false _ A20.out).mono ?_); rintro e w' ⟨rfl, ⟨nd, rfl⟩⟩) | (go_at_call 38; (with_reducible refine (pleacherref02_in.calls a0 11264 12271 false _ A22.out).mono ?_); rintro e w' ⟨rfl, ⟨nd, rfl⟩⟩) | (go_at_call 38; (with_reducible refine (pleacherref02_in.calls a0 12289 55295 false _ A24.out).mono ?_); rintro e w' ⟨rfl, ⟨nd, rfl⟩⟩) | (go_at_call 38; (with_reducible refine (pleacherref02_in.calls a0 63744 64975 false _ A26.out).mono ?_); rintro e w' ⟨rfl, ⟨nd, rfl⟩⟩) | (go_at_call 38; (with_reducible refine (pleacherref02_in.calls a0 65008 65533 true _ A28.out).mono ?_); rintro e w' ⟨rfl, ⟨nd, rfl⟩⟩))
                                go_ret
                                exact ⟨by first | rfl | (simp; done) | (simp [*]; done), by repeat (first | exact Drawn0.refl _ | apply Drawn0.step)⟩
                              · replace c29 := Bool.eq_false_iff.mpr c29
                                subst c29
                                have H1 : ((pleacherref02_in.f a0 65536 983039).bind fun t178 => (some t178)) = some r := by rw [if_neg (show ¬ (false = true) by decide)] at H; exact H
                                clear H
                                have H := H1
                                clear H1
                                replace H := Option.bind_eq_some_iff.mp H
                                obtain ⟨t178, A300, H⟩ := H
                                replace H : (some t178) = some r := H
                                have A30 := Aside0.mk A300
                                clear A300
                                obtain rfl := Option.some.inj H
                                go_enter Try.func19, Try.ntmps19
                                go_wp2_with (first | (go_at_call 38; (with_reducible refine (pleacherref02_in.calls a0 65 90 false _ A3.out).mono ?_); rintro e w' ⟨rfl, ⟨nd, rfl⟩⟩) | (go_at_call 38; (with_reducible refine (pleacherref02_in.calls a0 97 122 false _ A6.out).mono ?_); rintro e w' ⟨rfl, ⟨nd, rfl⟩⟩) | (go_at_call 38; (with_reducible refine (pleacherref02_in.calls a0 192 214 false _ A8.out).mono ?_); rintro e w' ⟨rfl, ⟨nd, rfl⟩⟩) | (go_at_call 38; (with_reducible refine (pleacherref02_in.calls a0 216 246 false _ A10.out).mono ?_); rintro e w' ⟨rfl, ⟨nd, rfl⟩⟩) | (go_at_call 38; (with_reducible refine (pleacherref02_in.calls a0 248 767 false _ A12.out).mono ?_); rintro e w' ⟨rfl, ⟨nd, rfl⟩⟩) | (go_at_call 38; (with_reducible refine (pleacherref02_in.calls a0 880 893 false _ A14.out).mono ?_); rintro e w' ⟨rfl, ⟨nd, rfl⟩⟩) | (go_at_call 38; (with_reducible refine (pleacherref02_in.calls a0 895 8191 false _ A16.out).mono ?_); rintro e w' ⟨rfl, ⟨nd, rfl⟩⟩) | (go_at_call 38; (with_reducible refine (pleacherref02_in.calls a0 8204 8205 false _ A18.out).mono ?_); rintro e w' ⟨rfl, ⟨nd, rfl⟩⟩) | (go_at_call 38; (with_reducible refine (pleacherref02_in.calls a0 8304 8591 false _ A20.out).mono ?_); rintro e w' ⟨rfl, ⟨nd, rfl⟩⟩) | (go_at_call 38; (with_reducible refine (pleacherref02_in.calls a0 11264 12271 false _ A22.out).mono ?_); rintro e w' ⟨rfl, ⟨nd, rfl⟩⟩) | (go_at_call 38; (with_reducible refine (pleacherref02_in.calls a0 12289 55295 false _ A24.out).mono ?_); rintro e w' ⟨rfl, ⟨nd, rfl⟩⟩) | (go_at_call 38; (with_reducible refine (pleacherref02_in.calls a0 63744 64975 false _ A26.out).mono ?_); rintro e w' ⟨rfl, ⟨nd, rfl⟩⟩) | (go_at_call 38; (with_reducible refine (pleacherref02_in.calls a0 65008 65533 false _ A28.out).mono ?_); rintro e w' ⟨rfl, ⟨nd, rfl⟩⟩) | (go_at_call 38; (with_reducible refine (pleacherref02_in.calls a0 65536 983039 t178 _ A30.out).mono ?_); rintro e w' ⟨rfl, ⟨nd, rfl⟩⟩))
                                go_ret
                                exact ⟨by first | rfl | (simp; done) | (simp [*]; done), by repeat (first | exact Drawn0.refl _ | apply Drawn0.step)⟩

end Go.Proofs.Ytjbapiogekjdnaa.PU
