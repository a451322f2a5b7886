/- rank: the reference's Between where the two are in order. -/
import Derived.Test.YtemiocaiimdblaaDoorRankR
set_option linter.unusedVariables false
set_option linter.unusedSimpArgs false
namespace Go.Proofs.YtemiocaiimdblaaDoor.Hand
open Go Go.RowKit Go.Shelf Go.Proofs.YtemiocaiimdblaaDoor.K
set_option maxRecDepth 100000
set_option maxHeartbeats 400000
theorem refBetween_loop (a b : ByteArray) (ha : a.size ≤ 1000000) (hb : b.size ≤ 1000000) (hc : ((okB a && okB b) && (decide (a.size = 0) || decide (b.size = 0) || lessB a b)) = true)
    (w : World) (na nb : Bool) (hna : a.toList.isEmpty = na) (hnb : b.toList.isEmpty = nb) (hra : na = false → rightB a = true) (hrb : nb = false → rightB b = true) (hls : na = false → nb = false → lessB a b = true) :
    Calls Tryd.prog 12 #[.string a, .string b] w fun e w' => e = .returned (.tuple #[.string (betwF a b).1, .int .i64 (betwF a b).2]) ∧ Ext w w' := by
  have hla := isl_of (cond_iff.1 hc).1
  have hlb := isl_of (cond_iff.1 hc).2.1
  obtain ⟨L, hL⟩ : ∃ L, digs a b 200 0 b.toList.isEmpty = L := ⟨_, rfl⟩
  have hle := strLess a b
  have HGood := Lib.hid (fun j mid => nextK_good (j := j) (mid := mid) hc hL)
  have HBad := Lib.hid (nextK_bad hc hL)
  rw [hnb] at hL
  obtain ⟨F, hF⟩ : ∃ F, betwF a b = F := ⟨_, rfl⟩
  rw [hF]
  have HF := Lib.hid hF
  have HL := Lib.hid hL
  have HA := Lib.hid hla
  have HB := Lib.hid hlb
  clear hL hc hF hla hlb
  have hcv : ∀ (W : World) (x : Int), (convert 51 9 (.slice (some ⟨W.heap.size, 0, none⟩) 1 1)).run Tryd.prog (W.alloc (.cells #[.int .u8 x] 5)) = .ok (.string (strOfNums [x])) (W.alloc (.cells #[.int .u8 x] 5)) := fun W x => conv_one (by simp)
  have hss : ∀ x : Int, (strOfNums [x]).size = 1 := fun x => strOfNums_size [x]
  cases na <;> cases nb
  all_goals (try have HRa := Lib.hid (hra rfl)); (try have HRb := Lib.hid (hrb rfl)); (try have hls2 := hls rfl rfl; rw [hls2] at hle); clear hra hrb hls
  all_goals
    (go_enter Tryd.func12, Tryd.ntmps12
     go_wp2_with (go_at_call 14; (with_reducible refine (refRight_calls _ _ (by assumption)).mono ?_); rintro e w' ⟨rfl, rfl⟩; first | rw [HRa.out] | rw [HRb.out])
     go_loopw [6, 7, 8] (fun f s i wr => Ext w wr ∧ ∃ (k : Nat) (pre : List Int) (free : Bool), k ≤ 200 ∧ pre.length = k ∧ f = .bool free ∧ s = .string (keyOf pre) ∧ i = .int .i64 (k : Int) ∧ pre ++ digs a b (200 - k) k free = L ∧ ∀ t, t < k → pre.getD t 0 = lett a t) (fun _ _ i _ => 200 - (intOf i).toNat)
     case atStart => exact ⟨Ext.refl _, 0, [], _, by omega, rfl, rfl, rfl, rfl, HL.out, fun t ht => by omega⟩
     case round =>
       obtain ⟨hX, k, pre, free, hk, hlen, rfl, rfl, rfl, HE, hp⟩ := hrel
       have HE' := Lib.hid HE
       have Hlen := Lib.hid hlen
       have HP := Lib.hid hp
       have hsz : (keyOf pre).size ≤ 200 := by rw [key_size]; omega
       clear HE hlen hp
       obtain ⟨x0, x1⟩ := HA.out k
       obtain ⟨y0, y1⟩ := HB.out k
       by_cases hlt : k < 200
       · obtain ⟨n, hn⟩ : ∃ n, 200 - k = n + 1 := ⟨199 - k, by omega⟩
         have HN := Lib.hid hn
         clear hn
         cases free with
         | true =>
           by_cases hgt : lett a k + 1 < 26
           · have hmid : keyOf pre ++ strOfNums [97 + (lett a k + 26) / 2] = keyOf (pre ++ [(lett a k + 26) / 2]) := key_snoc _ _
             have hres : F = (keyOf (pre ++ [(lett a k + 26) / 2]), 0) := by
               have h1 := HE'.out
               rw [HN.out] at h1
               simp only [digs, if_true, if_false, Bool.false_eq_true] at h1
               rw [if_pos hgt] at h1
               rw [← HF.out, betwF_some (HGood.out k ((lett a k + 26) / 2) (by rw [← h1, List.length_append, Hlen.out]; rfl) hlt (fun t ht => by rw [← h1, List.getD_eq_getElem?_getD, List.getElem?_append_left (by rw [Hlen.out]; exact ht), ← List.getD_eq_getElem?_getD]; exact HP.out t ht) (by rw [← h1, List.getD_eq_getElem?_getD, List.getElem?_append_right (by rw [Hlen.out]; omega), Hlen.out]; simp) (by omega) (by omega)), ← h1]
             have HR := Lib.hid hres
             clear hres
             go_wp2_with (go_at_call 22; first | ((with_reducible refine (low_calls a k _ ha HA.out).mono ?_); rintro e w' ⟨rfl, rfl⟩) | ((with_reducible refine (low_calls b k _ hb HB.out).mono ?_); rintro e w' ⟨rfl, rfl⟩))
             go_ret2
             rw [HR.out]
             exact ⟨rfl, hX.alloc _⟩
           · have hc : True := trivial
             have HD : Hid ((pre ++ [lett a k]) ++ digs a b (200 - (k + 1)) (k + 1) true = L) := by
               have h1 := HE'.out
               rw [HN.out] at h1
               simp only [digs, if_true, if_false, Bool.false_eq_true, Bool.true_or, Bool.false_or] at h1
               rw [if_neg hgt] at h1
               have h2 := HN.out
               rw [show 200 - (k + 1) = n from by omega, List.append_assoc]
               first | exact h1 | exact Lib.hid (by simpa [hc] using h1)
             have hsn : keyOf pre ++ strOfNums [97 + lett a k] = keyOf (pre ++ [lett a k]) := key_snoc _ _
             have HQ : Hid (∀ t, t < k + 1 → (pre ++ [lett a k]).getD t 0 = lett a t) := Lib.hid fun t ht => by
               have hl := Hlen.out
               rcases Nat.lt_or_ge t k with h | h
               · rw [List.getD_eq_getElem?_getD, List.getElem?_append_left (by omega), ← List.getD_eq_getElem?_getD]; exact HP.out t h
               · obtain rfl : t = k := by omega
                 rw [List.getD_eq_getElem?_getD, List.getElem?_append_right (by omega), hl]; simp
             go_wp2_with (go_at_call 22; first | ((with_reducible refine (low_calls a k _ ha HA.out).mono ?_); rintro e w' ⟨rfl, rfl⟩) | ((with_reducible refine (low_calls b k _ hb HB.out).mono ?_); rintro e w' ⟨rfl, rfl⟩))
             go_roundw
             case rel => exact ⟨hX.alloc _, k + 1, pre ++ [lett a k], true, by omega, by have := Hlen.out; simp; omega, rfl, rfl, by go_num, HD.out, HQ.out⟩
             case measure => simp [intOf]; omega
         | false =>
           by_cases hgt : lett a k + 1 < lett b k
           · have hmid : keyOf pre ++ strOfNums [97 + (lett a k + lett b k) / 2] = keyOf (pre ++ [(lett a k + lett b k) / 2]) := key_snoc _ _
             have hres : F = (keyOf (pre ++ [(lett a k + lett b k) / 2]), 0) := by
               have h1 := HE'.out
               rw [HN.out] at h1
               simp only [digs, if_true, if_false, Bool.false_eq_true] at h1
               rw [if_pos hgt] at h1
               rw [← HF.out, betwF_some (HGood.out k ((lett a k + lett b k) / 2) (by rw [← h1, List.length_append, Hlen.out]; rfl) hlt (fun t ht => by rw [← h1, List.getD_eq_getElem?_getD, List.getElem?_append_left (by rw [Hlen.out]; exact ht), ← List.getD_eq_getElem?_getD]; exact HP.out t ht) (by rw [← h1, List.getD_eq_getElem?_getD, List.getElem?_append_right (by rw [Hlen.out]; omega), Hlen.out]; simp) (by omega) (by omega)), ← h1]
             have HR := Lib.hid hres
             clear hres
             go_wp2_with (go_at_call 22; first | ((with_reducible refine (low_calls a k _ ha HA.out).mono ?_); rintro e w' ⟨rfl, rfl⟩) | ((with_reducible refine (low_calls b k _ hb HB.out).mono ?_); rintro e w' ⟨rfl, rfl⟩))
             go_ret2
             rw [HR.out]
             exact ⟨rfl, hX.alloc _⟩
           · by_cases hc : lett a k < lett b k
             · have h3 : decide (lett a k < lett b k) = true := by simpa using hc
               have HD : Hid ((pre ++ [lett a k]) ++ digs a b (200 - (k + 1)) (k + 1) true = L) := by
                 have h1 := HE'.out
                 rw [HN.out] at h1
                 simp only [digs, if_true, if_false, Bool.false_eq_true, Bool.true_or, Bool.false_or] at h1
                 rw [if_neg hgt] at h1
                 have h2 := HN.out
                 rw [show 200 - (k + 1) = n from by omega, List.append_assoc]
                 first | exact h1 | exact Lib.hid (by simpa [hc] using h1)
               have hsn : keyOf pre ++ strOfNums [97 + lett a k] = keyOf (pre ++ [lett a k]) := key_snoc _ _
               have HQ : Hid (∀ t, t < k + 1 → (pre ++ [lett a k]).getD t 0 = lett a t) := Lib.hid fun t ht => by
                 have hl := Hlen.out
                 rcases Nat.lt_or_ge t k with h | h
                 · rw [List.getD_eq_getElem?_getD, List.getElem?_append_left (by omega), ← List.getD_eq_getElem?_getD]; exact HP.out t h
                 · obtain rfl : t = k := by omega
                   rw [List.getD_eq_getElem?_getD, List.getElem?_append_right (by omega), hl]; simp
               go_wp2_with (go_at_call 22; first | ((with_reducible refine (low_calls a k _ ha HA.out).mono ?_); rintro e w' ⟨rfl, rfl⟩) | ((with_reducible refine (low_calls b k _ hb HB.out).mono ?_); rintro e w' ⟨rfl, rfl⟩))
               go_roundw
               case rel => exact ⟨hX.alloc _, k + 1, pre ++ [lett a k], true, by omega, by have := Hlen.out; simp; omega, rfl, rfl, by go_num, HD.out, HQ.out⟩
               case measure => simp [intOf]; omega
             · have h3 : decide (lett a k < lett b k) = false := by simpa using hc
               have HD : Hid ((pre ++ [lett a k]) ++ digs a b (200 - (k + 1)) (k + 1) false = L) := by
                 have h1 := HE'.out
                 rw [HN.out] at h1
                 simp only [digs, if_true, if_false, Bool.false_eq_true, Bool.true_or, Bool.false_or] at h1
                 rw [if_neg hgt] at h1
                 have h2 := HN.out
                 rw [show 200 - (k + 1) = n from by omega, List.append_assoc]
                 first | exact h1 | exact Lib.hid (by simpa [hc] using h1)
               have hsn : keyOf pre ++ strOfNums [97 + lett a k] = keyOf (pre ++ [lett a k]) := key_snoc _ _
               have HQ : Hid (∀ t, t < k + 1 → (pre ++ [lett a k]).getD t 0 = lett a t) := Lib.hid fun t ht => by
                 have hl := Hlen.out
                 rcases Nat.lt_or_ge t k with h | h
                 · rw [List.getD_eq_getElem?_getD, List.getElem?_append_left (by omega), ← List.getD_eq_getElem?_getD]; exact HP.out t h
                 · obtain rfl : t = k := by omega
                   rw [List.getD_eq_getElem?_getD, List.getElem?_append_right (by omega), hl]; simp
               go_wp2_with (go_at_call 22; first | ((with_reducible refine (low_calls a k _ ha HA.out).mono ?_); rintro e w' ⟨rfl, rfl⟩) | ((with_reducible refine (low_calls b k _ hb HB.out).mono ?_); rintro e w' ⟨rfl, rfl⟩))
               go_roundw
               case rel => exact ⟨hX.alloc _, k + 1, pre ++ [lett a k], false, by omega, by have := Hlen.out; simp; omega, rfl, rfl, by go_num, HD.out, HQ.out⟩
               case measure => simp [intOf]; omega
       · have hres : F = (⟨#[]⟩, 120) := by
           have h1 := HE'.out
           rw [show 200 - k = 0 from by omega, digs, List.append_nil] at h1
           have hk2 : k = 200 := by omega
           rw [← HF.out, betwF_none (HBad.out (by rw [← h1, Hlen.out, hk2]) (fun t ht => by rw [← h1]; exact HP.out t (by omega)))]
         have HR := Lib.hid hres
         clear hres
         go_wp2
         go_ret2
         rw [HR.out]
         exact ⟨rfl, hX⟩)
end Go.Proofs.YtemiocaiimdblaaDoor.Hand
