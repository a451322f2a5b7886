/- rank: the reference's Between, and the law RankKeys. -/
import Derived.Test.YtemiocaiimdblaaDoorRankN
import Derived.Laws.BytesArg
set_option linter.unusedVariables false
set_option linter.unusedSimpArgs false
namespace Go.Proofs.YtemiocaiimdblaaDoor.Hand
open Go Go.RowKit Go.Shelf Go.Proofs.YtemiocaiimdblaaDoor.K
set_option maxRecDepth 100000
set_option maxHeartbeats 400000
/-- One letter as a string. -/
theorem conv_one {W : World} {v : Nat} {x : Int} (h : W.cell? ⟨v, 0, none⟩ = some (.int .u8 x)) : (convert 51 9 (.slice (some ⟨v, 0, none⟩) 1 1)).run Tryd.prog W = .ok (.string (strOfNums [x])) W :=
  run_convert_bytes_arg W 51 5 Tryd.underlying51 Tryd.underlying5 v 0 1 1 [x] rfl (fun i hi => by
    obtain rfl : i = 0 := by omega
    exact h) 9 Tryd.underlying9
theorem key_snoc (L : List Int) (x : Int) : keyOf L ++ strOfNums [97 + x] = keyOf (L ++ [x]) := by
  have h : (keyOf L ++ strOfNums [97 + x]).data = (keyOf (L ++ [x])).data := by
    rw [ByteArray.data_append]
    apply Array.toList_inj.1
    rw [Array.toList_append, key_list, key_list]
    simp [strOfNums]
  exact ByteArray.ext h
theorem nextK_good {a b : ByteArray} {L : List Int} (hc : ((okB a && okB b) && (decide (a.size = 0) || decide (b.size = 0) || lessB a b)) = true) (hL : digs a b 200 0 b.toList.isEmpty = L) {j : Nat} {mid : Int} (h1 : L.length = j + 1) (h2 : j < 200) (h3 : ∀ t, t < j → L.getD t 0 = lett a t) (h4 : L.getD j 0 = mid) (h5 : lett a j < mid) (h6 : mid ≤ 25) : nextK a b = some (keyOf L) := by
  obtain ⟨g1, g2, _⟩ := key_good (isl_of (cond_iff.1 hc).1) h1 h2 h3 h4 h5 h6
  unfold nextK
  rw [if_pos hc]
  simp only
  rw [hL, g1, g2]
  rfl
theorem nextK_bad {a b : ByteArray} {L : List Int} (hc : ((okB a && okB b) && (decide (a.size = 0) || decide (b.size = 0) || lessB a b)) = true) (hL : digs a b 200 0 b.toList.isEmpty = L) (h1 : L.length = 200) (h2 : ∀ t, t < 200 → L.getD t 0 = lett a t) : nextK a b = none := by
  have g := key_bad (isl_of (cond_iff.1 hc).1) h1 h2
  unfold nextK
  rw [if_pos hc]
  simp only
  rw [hL, g]
  rfl
theorem nextK_refused {a b : ByteArray} (hc : ((okB a && okB b) && (decide (a.size = 0) || decide (b.size = 0) || lessB a b)) = false) : nextK a b = none := by
  unfold nextK
  rw [if_neg (by rw [hc]; simp)]
theorem refBetween_refused (a b : ByteArray) (w : World) (ha : a.size ≤ 1000000) (hb : b.size ≤ 1000000) (hc : ((okB a && okB b) && (decide (a.size = 0) || decide (b.size = 0) || lessB a b)) = false) :
    Calls Tryd.prog 12 #[.string a, .string b] w fun e w' => e = .returned (.tuple #[.string ⟨#[]⟩, .int .i64 120]) ∧ w = w' := by
  have hz := hc
  simp only [okB, ← empty_bool] at hz
  have HZ := Lib.hid hz
  clear hz hc
  have hle := strLess a b
  cases na : a.toList.isEmpty <;> cases ra : rightB a <;> cases nb : b.toList.isEmpty <;> cases rb : rightB b <;> cases ls : lessB a b
  all_goals
    (rw [ls] at hle; have hz := HZ.out; rw [na, ra, nb, rb, ls] at hz; have HRa := Lib.hid ra; have HRb := Lib.hid rb; have HLs := Lib.hid ls; clear ra rb ls HZ)
  all_goals first
    | (exfalso; revert hz; decide)
    | (clear hz
       go_enter Tryd.func12, Tryd.ntmps12
       go_wp2_with (go_at_call 14; (with_reducible refine (refRight_calls _ _ (by assumption)).mono ?_); rintro e w' ⟨rfl, rfl⟩; first | rw [HRa.out] | rw [HRb.out])
       go_ret2
       exact ⟨rfl, rfl⟩)
end Go.Proofs.YtemiocaiimdblaaDoor.Hand
