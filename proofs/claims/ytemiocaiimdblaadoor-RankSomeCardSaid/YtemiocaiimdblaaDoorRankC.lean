/- rank: the letters of the key between, and the maker's next key. -/
import Derived.Test.YtemiocaiimdblaaDoorRankB
set_option linter.unusedVariables false
set_option linter.unusedSimpArgs false
namespace Go.Proofs.YtemiocaiimdblaaDoor.Hand
open Go Go.RowKit Go.Proofs.YtemiocaiimdblaaDoor.K
set_option maxRecDepth 100000
set_option maxHeartbeats 1000000
def okB (s : ByteArray) : Bool := decide (s.size = 0) || rightB s
theorem empty_false {s : ByteArray} (h : ¬ s.size = 0) : s.toList.isEmpty = false := by
  cases e : s.toList.isEmpty with
  | false => rfl
  | true => exact absurd ((nil_iff s).1 e) h
theorem areRight_calls (b c : Nat) (s0 s1 : ByteArray) (w : World) (h0 : w.cell? ⟨b, 0, none⟩ = some (.string s0)) (h1 : w.cell? ⟨b, 1, none⟩ = some (.string s1)) :
    Calls Tryd.prog 27 #[.slice (some ⟨b, 0, none⟩) 2 c] w fun e w' => e = .returned (.bool (okB s0 && okB s1)) ∧ Ext w w' := by
  have hc0 := fun (W : World) (h : Ext w W) => h.cell h0
  have hc1 := fun (W : World) (h : Ext w W) => h.cell h1
  by_cases e0 : s0.size = 0
  · have n0 : s0.toList.isEmpty = true := (nil_iff s0).2 e0
    have k0 : okB s0 = true := by simp [okB, e0]
    rw [k0]
    clear e0 k0
    by_cases e1 : s1.size = 0
    · have n1 : s1.toList.isEmpty = true := (nil_iff s1).2 e1
      have k1 : okB s1 = true := by simp [okB, e1]
      rw [k1]
      clear e1 k1 hc0 hc1
      go_enter Tryd.func27, Tryd.ntmps27
      go_wp2
      refine wp_loop_rounds 3 ?_
      repeat (rw [rounds_succ]; go_wp2)
      go_ret
      exact ⟨rfl, Ext.refl _⟩
    · have n1 := empty_false e1
      have k1 : okB s1 = rightB s1 := by simp [okB, e1]
      rw [k1]
      clear e1 k1 hc0
      cases hr : rightB s1 with
      | true =>
        have Hr := Lib.hid hr
        clear hr
        go_enter Tryd.func27, Tryd.ntmps27
        go_wp2
        refine wp_loop_rounds 3 ?_
        rw [rounds_succ]
        go_wp2
        rw [rounds_succ]
        go_wp2_with (go_at_call 13; refine (right_calls _ _).mono ?_; rintro e w1 ⟨rfl, hq⟩; rw [Hr.out])
        rw [rounds_succ]
        go_wp2
        go_ret
        exact ⟨rfl, hq⟩
      | false =>
        have Hr := Lib.hid hr
        clear hr
        go_enter Tryd.func27, Tryd.ntmps27
        go_wp2
        refine wp_loop_rounds 3 ?_
        rw [rounds_succ]
        go_wp2
        rw [rounds_succ]
        go_wp2_with (go_at_call 13; refine (right_calls _ _).mono ?_; rintro e w1 ⟨rfl, hq⟩; rw [Hr.out])
        go_ret
        exact ⟨rfl, hq⟩
  · have n0 := empty_false e0
    have k0 : okB s0 = rightB s0 := by simp [okB, e0]
    rw [k0]
    clear e0 k0 hc0
    cases hr : rightB s0 with
    | false =>
      have Hr := Lib.hid hr
      clear hr
      clear hc1
      go_enter Tryd.func27, Tryd.ntmps27
      go_wp2
      refine wp_loop_rounds 3 ?_
      rw [rounds_succ]
      go_wp2_with (go_at_call 13; refine (right_calls _ _).mono ?_; rintro e w1 ⟨rfl, hq⟩; rw [Hr.out])
      go_ret
      exact ⟨rfl, hq⟩
    | true =>
      have Hr := Lib.hid hr
      clear hr
      by_cases e1 : s1.size = 0
      · have n1 : s1.toList.isEmpty = true := (nil_iff s1).2 e1
        have k1 : okB s1 = true := by simp [okB, e1]
        rw [k1]
        clear e1 k1
        have Hc := Lib.hid hc1
        clear hc1
        go_enter Tryd.func27, Tryd.ntmps27
        go_wp2
        refine wp_loop_rounds 3 ?_
        rw [rounds_succ]
        go_wp2_with (go_at_call 13; refine (right_calls _ _).mono ?_; rintro e w1 ⟨rfl, hq⟩; rw [Hr.out])
        rw [rounds_succ]
        have c1 := Hc.out _ hq
        go_wp2
        rw [rounds_succ]
        go_wp2
        go_ret
        exact ⟨rfl, hq⟩
      · have n1 := empty_false e1
        have k1 : okB s1 = rightB s1 := by simp [okB, e1]
        rw [k1]
        clear e1 k1
        have Hc := Lib.hid hc1
        clear hc1
        cases hr2 : rightB s1 with
        | true =>
          have Hr2 := Lib.hid hr2
          clear hr2
          go_enter Tryd.func27, Tryd.ntmps27
          go_wp2
          refine wp_loop_rounds 3 ?_
          rw [rounds_succ]
          go_wp2_with (go_at_call 13; refine (right_calls _ _).mono ?_; rintro e w1 ⟨rfl, hq⟩; rw [Hr.out])
          rw [rounds_succ]
          have c1 := Hc.out _ hq
          go_wp2_with (go_at_call 13; refine (right_calls _ _).mono ?_; rintro e w2 ⟨rfl, hq2⟩; rw [Hr2.out])
          rw [rounds_succ]
          go_wp2
          go_ret
          exact ⟨rfl, hq.trans hq2⟩
        | false =>
          have Hr2 := Lib.hid hr2
          clear hr2
          go_enter Tryd.func27, Tryd.ntmps27
          go_wp2
          refine wp_loop_rounds 3 ?_
          rw [rounds_succ]
          go_wp2_with (go_at_call 13; refine (right_calls _ _).mono ?_; rintro e w1 ⟨rfl, hq⟩; rw [Hr.out])
          rw [rounds_succ]
          have c1 := Hc.out _ hq
          go_wp2_with (go_at_call 13; refine (right_calls _ _).mono ?_; rintro e w2 ⟨rfl, hq2⟩; rw [Hr2.out])
          go_ret
          exact ⟨rfl, hq.trans hq2⟩
/-- A key's letter, as a number; behind its end 0. -/
def lett (s : ByteArray) (i : Nat) : Int := if h : i < s.size then ((s[i]'h).toNat : Int) - 97 else 0
theorem letter_calls (s : ByteArray) (i : Nat) (w : World) (hs : s.size ≤ 1000000) :
    Calls Tryd.prog 35 #[.string s, .int .i64 (i : Int)] w fun e w' => e = .returned (.int .i64 (lett s i)) ∧ w = w' := by
  by_cases h : i < s.size
  · have e1 : lett s i = ((s[i]'h).toNat : Int) - 97 := by simp [lett, h]
    rw [e1]
    clear e1
    have hb := (s[i]'h).toNat_lt
    have hb2 : (s[i]'h).toNat < 256 := by simpa using hb
    go_enter Tryd.func35, Tryd.ntmps35
    go_wp2
    go_ret
    refine ⟨?_, rfl⟩
    simp [wrap64] <;> omega
  · have e1 : lett s i = 0 := by simp [lett, h]
    rw [e1]
    clear e1
    go_enter Tryd.func35, Tryd.ntmps35
    go_wp2
    go_ret
    exact ⟨rfl, rfl⟩
end Go.Proofs.YtemiocaiimdblaaDoor.Hand
