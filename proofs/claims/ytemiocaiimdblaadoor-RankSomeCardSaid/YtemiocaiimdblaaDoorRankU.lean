/- rank: the reference's Some, Texts, and the law RankSome. -/
import Derived.Test.YtemiocaiimdblaaDoorRankT
import Derived.Test.YtemiocaiimdblaaDoorRankO
import Derived.Test.YtemiocaiimdblaaDoorRankM
set_option linter.unusedVariables false
set_option linter.unusedSimpArgs false
namespace Go.Proofs.YtemiocaiimdblaaDoor.Hand
open Go Go.RowKit Go.Shelf Go.Proofs.YtemiocaiimdblaaDoor.K
set_option maxRecDepth 100000
set_option maxHeartbeats 400000
theorem nextK_size {a b k : ByteArray} (h : nextK a b = some k) : k.size ≤ 1000000 := by
  have := (size_right (next_some h).1).2
  omega
theorem row_ext {w w' : World} {base : Nat} {e : TypeId} {size n : Nat} {v : Value} {xs : List Value} (h : w.ownsRow base e size v n xs) (hx : Ext w w') : w'.ownsRow base e size v n xs := by
  refine ⟨h.1, ?_⟩
  rcases h.2 with h1 | ⟨g, cap, cur, rfl, h2, h3, h4⟩
  · exact .inl h1
  · exact .inr ⟨g, cap, cur, rfl, h2, hx.heap h3, h4⟩
theorem refSome_calls (a b : ByteArray) (n : Int) (w : World) (ha : a.size ≤ 1000000) (hb : b.size ≤ 1000000) (hn : -9223372036854775808 ≤ n) (hn2 : n ≤ 9223372036854775807) :
    Calls Tryd.prog 18 #[.string a, .string b, .int .i64 n] w (SomeP w (someF a b n)) := by
  obtain ⟨i0, hi, hz0, hz1, hz2⟩ := info_parts info9
  by_cases h0 : n < 0
  · have e1 : someF a b n = none := by unfold someF; rw [if_pos (.inl h0)]
    rw [e1]
    go_enter Tryd.func18, Tryd.ntmps18
    go_wp2
    go_ret2
    exact ⟨rfl, Ext.refl _⟩
  · by_cases h3 : n > 300
    · have e1 : someF a b n = none := by unfold someF; rw [if_pos (.inr h3)]
      rw [e1]
      go_enter Tryd.func18, Tryd.ntmps18
      go_wp2
      go_ret2
      exact ⟨rfl, Ext.refl _⟩
    · have e1 : someF a b n = someL b n.toNat a := by unfold someF; rw [if_neg (by omega)]
      rw [e1]
      clear e1
      obtain ⟨m, rfl⟩ : ∃ m : Nat, n = (m : Int) := ⟨n.toNat, by omega⟩
      simp only [Int.toNat_natCast]
      have hm300 : m ≤ 300 := by omega
      have hm1 : decide ((m : Int) < 0) = false := by simp
      have hm2 : decide (300 < (m : Int)) = false := by simp; omega
      obtain ⟨R, hR⟩ : ∃ R, someL b m a = R := ⟨_, rfl⟩
      rw [hR]
      go_enter Tryd.func18, Tryd.ntmps18
      go_wp2
      go_loopw [0, 8, 9] (fun x v i wr => ∃ (ks : List ByteArray) (ai : ByteArray), ks.length ≤ m ∧ x = .string ai ∧ ai.size ≤ 1000000 ∧ i = .int .i64 (ks.length : Int) ∧ wr.ownsRow w.heap.size 9 1 v ks.length (ks.map Value.string) ∧ Below w.heap.size w wr ∧ R = (someL b (m - ks.length) ai).map (ks ++ ·))
        (fun _ _ i _ => m - (intOf i).toNat)
      case atStart =>
        exact ⟨[], a, by simp, rfl, ha, rfl, World.ownsRow_nil _ _ _ _, Below.refl _ _, by simp [← hR]⟩
      case round =>
        obtain ⟨ks, ai, hk, rfl, hai, rfl, hrow, hB, HS⟩ := hrel
        have hEx : Ext w _ := Ext.below hB
        by_cases hlt : ks.length < m
        · obtain ⟨q, hq⟩ : ∃ q, m - ks.length = q + 1 := ⟨m - ks.length - 1, by omega⟩
          rw [hq, someL] at HS
          have HQ := Lib.hid hq
          clear hq
          cases hnk : nextK ai b with
          | none =>
            rw [hnk] at HS
            have HR : Hid (R = none) := Lib.hid HS
            have hbf := betwF_none hnk
            have hrc := fun (W : World) => refBetween_calls ai b W hai hb
            rw [hbf] at hrc
            clear HS hnk hbf
            go_wp2_with (go_at_call 12; refine (hrc _).mono ?_; rintro e w2 ⟨rfl, hx⟩)
            go_ret2
            rw [HR.out]
            exact ⟨rfl, hEx.trans hx⟩
          | some k =>
            rw [hnk] at HS
            have HR : Hid (R = (someL b q k).map ((ks ++ [k]) ++ ·)) := Lib.hid (by rw [HS]; cases hz : someL b q k <;> simp [hz])
            have hks := nextK_size hnk
            have hbf := betwF_some hnk
            have hrc := fun (W : World) => refBetween_calls ai b W hai hb
            rw [hbf] at hrc
            clear HS hnk hbf
            go_wp2_with (first
              | (go_at_call 12; refine (hrc _).mono ?_; rintro e w2 ⟨rfl, hx⟩; have hrow2 := row_ext hrow hx)
              | (at_builtin; refine wpList_append_own _ rfl _ _ 29 rfl w.heap.size 9 i0 (.string ⟨#[]⟩) 1 16 Tryd.underlying29 hi hz0 hz1 hz2 rfl (by decide) u8 ks.length _ rfl (hrow2.alloc _) ⟨w2.heap.size, 0, none⟩ 1 1 [.string k] rfl rfl (cell_one_new _ _ _) (by simp [Value.oneCell']) (by unfold maxLen; omega) (by omega) ?_ ?_; rotate_right))
            · intro v' w4 hown hgrow _
              obtain ⟨g', cap', rfl⟩ := ownsRow_succ hown
              have hB2 := hEx.trans hx
              have hB4 : Below w.heap.size w w4 := by
                refine hB2.out.trans (((Below.refl _ w2).alloc hB2.size _).grown hgrow (by have := hB2.size; simp; omega) fun j ej => ?_)
                have := row_ne (bm := j) hrow2
                exact Nat.le_of_not_lt fun hj => this (by omega) ej.symm
              go_wp2
              go_roundw
              case rel => exact ⟨ks ++ [k], k, by simp; omega, rfl, hks, by simp, by simpa using hown, hB4, by rw [HR.out, show m - (ks ++ [k]).length = q from by have := HQ.out; simp; omega]⟩
              case measure => simp [intOf]; omega
            · have := (hEx.trans hx).size
              simp; omega
        · have hme : m - ks.length = 0 := by omega
          rw [hme, someL] at HS
          have HR : Hid (R = some ks) := Lib.hid (by rw [HS]; simp)
          clear HS hme
          go_wp2
          go_ret2
          rw [HR.out]
          exact ⟨_, rfl, hEx, hrow⟩
end Go.Proofs.YtemiocaiimdblaaDoor.Hand
