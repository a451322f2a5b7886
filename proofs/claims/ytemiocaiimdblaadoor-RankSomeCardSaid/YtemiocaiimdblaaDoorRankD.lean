/- rank: the iterator over the letters of the key between. -/
import Derived.RangeFuncNested
import Derived.RangeFuncBound
import Derived.RangeFuncCalls
import Derived.RangeFuncLeaves
import Derived.Shelf.Abstract
import Derived.Shelf.RegionOpen
import Derived.OwnWalkIn
import Derived.TacticsInMore
import Derived.LoopNIn
import Derived.LoopIn
import Derived.WalkMore
import Derived.Deep.Cut
import Derived.Test.YtemiocaiimdblaaDoorRankC
set_option linter.unusedVariables false
set_option linter.unusedSimpArgs false
namespace Go.Proofs.YtemiocaiimdblaaDoor.Hand
open Go Go.RowKit Go.Shelf Go.Proofs.YtemiocaiimdblaaDoor.K
attribute [local go_sem] Oper.semAt_some
set_option maxRecDepth 100000
set_option maxHeartbeats 400000
/-- The letters of the key between, from number i on, as numbers. -/
def digs (a b : ByteArray) : Nat → Nat → Bool → List Int
  | 0, _, _ => []
  | n + 1, i, free =>
    if (if free then 26 else lett b i) > lett a i + 1 then [(lett a i + (if free then 26 else lett b i)) / 2]
    else lett a i :: digs a b n (i + 1) (free || decide (lett a i < (if free then 26 else lett b i)))
/-- What a round keeps: all below n₀, and the iterator's own box. -/
structure Kpd (bx n₀ : Nat) (W W' : World) : Prop where
  below : Below n₀ W W'
  box : W'.heap[bx]? = W.heap[bx]?
theorem Kpd.refl (bx n₀ : Nat) (W : World) : Kpd bx n₀ W W := ⟨Below.refl _ _, rfl⟩
theorem Kpd.trans {bx n₀ : Nat} {A B C : World} (h : Kpd bx n₀ A B) (k : Kpd bx n₀ B C) : Kpd bx n₀ A C := ⟨h.below.trans k.below, k.box.trans h.box⟩
theorem Kpd.cell {bx n₀ : Nat} {A B : World} (h : Kpd bx n₀ A B) (i : Nat) : B.cell? ⟨bx, i, none⟩ = A.cell? ⟨bx, i, none⟩ := by simp only [World.cell?, h.box]
def Isl (s : ByteArray) : Prop := ∀ i, 0 ≤ lett s i ∧ lett s i ≤ 25
theorem digits1_in (m l bx bm n₀ : Nat) (a b : ByteArray) (ha : a.size ≤ 1000000) (hb : b.size ≤ 1000000) (hla : Hid (Isl a)) (hlb : Hid (Isl b)) (J Jx : List Int → World → Prop)
    (hY : Hid (∀ pre x W, J pre W → pre.length < 200 → 0 ≤ x → x ≤ 25 → YieldAt Fence.wide (m - 1) Tryd.prog l #[.int .i64 x] W fun e W' => (e = .returned (.bool true) ∧ J (pre ++ [x]) W' ∧ Kpd bx n₀ W W') ∨ (e = .returned (.bool false) ∧ Jx (pre ++ [x]) W')))
    (W : World) (hbm : bm < n₀) (c1 : W.cell? ⟨bx, 0, none⟩ = some (.pointer (some ⟨bm, 0, none⟩))) (c2 : W.cell? ⟨bm, 0, none⟩ = some (.string a)) (c3 : W.cell? ⟨bm, 1, none⟩ = some (.string b)) (h0 : J [] W) :
    CallsIn Fence.wide m Tryd.prog 34 #[.func (.yield l) #[] #[], .pointer (some ⟨bx, 0, none⟩)] W fun e W' => (∃ v, e = .returned v) ∧ ((∃ xs, xs = digs a b 200 0 b.toList.isEmpty ∧ J xs W') ∨ (∃ pre, True ∧ Jx pre W')) := by
  obtain ⟨L, hL⟩ : ∃ L, digs a b 200 0 b.toList.isEmpty = L := ⟨_, rfl⟩
  rw [hL]
  have HL := Lib.hid hL
  clear hL
  refine callsIn_wide.2 ?_
  go_enter Tryd.func34, Tryd.ntmps34
  go_wp2
  go_step3
  go_wp2
  go_step3
  go_wp2
  go_loopw [3, 13] (fun f i wr => ∃ (k : Nat) (pre : List Int) (free : Bool), k ≤ 200 ∧ pre.length = k ∧ i = .int .i64 (k : Int) ∧ f = .bool free ∧ pre ++ digs a b (200 - k) k free = L ∧ J pre wr ∧ Kpd bx n₀ W wr)
    (fun _ i _ => 200 - (intOf i).toNat)
  case atStart => exact ⟨0, [], b.toList.isEmpty, by omega, rfl, rfl, rfl, HL.out, h0, Kpd.refl _ _ _⟩
  case round =>
    obtain ⟨k, pre, free, hk, hlen, rfl, rfl, HE, hJ, hB⟩ := hrel
    have Hlen := Lib.hid hlen
    clear hlen
    have HE' := Lib.hid HE
    clear HE
    have d1 := (hB.cell 0).trans c1
    have d2 := (hB.below.cell (p := ⟨bm, 0, none⟩) hbm).trans c2
    have d3 := (hB.below.cell (p := ⟨bm, 1, none⟩) hbm).trans c3
    obtain ⟨x0, x1⟩ := hla.out k
    obtain ⟨y0, y1⟩ := hlb.out k
    clear c1 c2 c3
    by_cases hlt : k < 200
    · obtain ⟨n, hn⟩ : ∃ n, 200 - k = n + 1 := ⟨199 - k, by omega⟩
      have HN := Lib.hid hn
      clear hn
      cases free with
      | true =>
        by_cases hgt : lett a k + 1 < 26
        · -- the last letter
          have HD : Hid (pre ++ [(lett a k + 26) / 2] = L) := by
            have h1 := HE'.out
            rw [HN.out] at h1
            simp only [digs, if_true, if_false, Bool.false_eq_true] at h1
            rw [if_pos hgt] at h1
            exact h1
          go_upto_region 8 with (go_at_call 35; first | ((with_reducible refine (letter_calls a k _ ha).mono ?_); rintro e w' ⟨rfl, rfl⟩) | ((with_reducible refine (letter_calls b k _ hb).mono ?_); rintro e w' ⟨rfl, rfl⟩))
          obtain ⟨fn, tmps, assign, body, hy, hR⟩ := hY.out pre ((lett a k + 26) / 2) wr hJ (by have := Hlen.out; omega) (by omega) (by omega)
          refine (wpIn_wide (n := m)).1 ?_
          gi_wp2
          refine ⟨fun h => absurd h (by decide), ?_⟩
          refine hR.mono ?_
          rintro e W3 (⟨rfl, hJ3, hk3⟩ | ⟨rfl, hJ3⟩)
          all_goals (gi_wp2; go_wp2)
          all_goals rw [Exit.noGoto_normal]
          all_goals refine bodyPost_end (results_none rfl _ _ _) rfl ?_
          · exact ⟨⟨_, rfl⟩, .inl ⟨_, HD.out, hJ3⟩⟩
          · exact ⟨⟨_, rfl⟩, .inr ⟨_, trivial, hJ3⟩⟩
        · have hc : True := trivial
          have HD : Hid ((pre ++ [lett a k]) ++ digs a b (200 - (k + 1)) (k + 1) true = L) := by
            have h1 := HE'.out
            rw [HN.out] at h1
            simp only [digs, if_true, if_false, Bool.false_eq_true, Bool.true_or, Bool.false_or] at h1
            rw [if_neg hgt] at h1
            have h2 := HN.out
            rw [show 200 - (k + 1) = n from by omega, List.append_assoc]
            first | exact h1 | exact Lib.hid (by simpa [hc] using h1)
          go_upto_region 10 with (go_at_call 35; first | ((with_reducible refine (letter_calls a k _ ha).mono ?_); rintro e w' ⟨rfl, rfl⟩) | ((with_reducible refine (letter_calls b k _ hb).mono ?_); rintro e w' ⟨rfl, rfl⟩))
          obtain ⟨fn, tmps, assign, body, hy, hR⟩ := hY.out pre (lett a k) wr hJ (by have := Hlen.out; omega) (by omega) (by omega)
          refine (wpIn_wide (n := m)).1 ?_
          gi_wp2
          refine ⟨fun h => absurd h (by decide), ?_⟩
          refine hR.mono ?_
          rintro e W3 (⟨rfl, hJ3, hk3⟩ | ⟨rfl, hJ3⟩)
          · gi_wp2
            go_wp2
            go_roundw
            case rel => exact ⟨k + 1, pre ++ [lett a k], true, by omega, by have := Hlen.out; simp; omega, by go_num, rfl, HD.out, hJ3, hB.trans hk3⟩
            case measure => simp [intOf]; omega
          · gi_wp2
            go_wp2
            rw [Exit.noGoto_normal]
            refine bodyPost_end (results_none rfl _ _ _) rfl ?_
            exact ⟨⟨_, rfl⟩, .inr ⟨_, trivial, hJ3⟩⟩
      | false =>
        by_cases hgt : lett a k + 1 < lett b k
        · -- the last letter
          have HD : Hid (pre ++ [(lett a k + lett b k) / 2] = L) := by
            have h1 := HE'.out
            rw [HN.out] at h1
            simp only [digs, if_true, if_false, Bool.false_eq_true] at h1
            rw [if_pos hgt] at h1
            exact h1
          go_upto_region 8 with (go_at_call 35; first | ((with_reducible refine (letter_calls a k _ ha).mono ?_); rintro e w' ⟨rfl, rfl⟩) | ((with_reducible refine (letter_calls b k _ hb).mono ?_); rintro e w' ⟨rfl, rfl⟩))
          obtain ⟨fn, tmps, assign, body, hy, hR⟩ := hY.out pre ((lett a k + lett b k) / 2) wr hJ (by have := Hlen.out; omega) (by omega) (by omega)
          refine (wpIn_wide (n := m)).1 ?_
          gi_wp2
          refine ⟨fun h => absurd h (by decide), ?_⟩
          refine hR.mono ?_
          rintro e W3 (⟨rfl, hJ3, hk3⟩ | ⟨rfl, hJ3⟩)
          all_goals (gi_wp2; go_wp2)
          all_goals rw [Exit.noGoto_normal]
          all_goals refine bodyPost_end (results_none rfl _ _ _) rfl ?_
          · exact ⟨⟨_, rfl⟩, .inl ⟨_, HD.out, hJ3⟩⟩
          · exact ⟨⟨_, rfl⟩, .inr ⟨_, trivial, hJ3⟩⟩
        · by_cases hc : lett a k < lett b k
          · have h3 : decide (lett a k < lett b k) = true := by simpa using hc
            have HD : Hid ((pre ++ [lett a k]) ++ digs a b (200 - (k + 1)) (k + 1) true = L) := by
              have h1 := HE'.out
              rw [HN.out] at h1
              simp only [digs, if_true, if_false, Bool.false_eq_true, Bool.true_or, Bool.false_or] at h1
              rw [if_neg hgt] at h1
              have h2 := HN.out
              rw [show 200 - (k + 1) = n from by omega, List.append_assoc]
              first | exact h1 | exact Lib.hid (by simpa [hc] using h1)
            go_upto_region 10 with (go_at_call 35; first | ((with_reducible refine (letter_calls a k _ ha).mono ?_); rintro e w' ⟨rfl, rfl⟩) | ((with_reducible refine (letter_calls b k _ hb).mono ?_); rintro e w' ⟨rfl, rfl⟩))
            obtain ⟨fn, tmps, assign, body, hy, hR⟩ := hY.out pre (lett a k) wr hJ (by have := Hlen.out; omega) (by omega) (by omega)
            refine (wpIn_wide (n := m)).1 ?_
            gi_wp2
            refine ⟨fun h => absurd h (by decide), ?_⟩
            refine hR.mono ?_
            rintro e W3 (⟨rfl, hJ3, hk3⟩ | ⟨rfl, hJ3⟩)
            · gi_wp2
              go_wp2
              go_roundw
              case rel => exact ⟨k + 1, pre ++ [lett a k], true, by omega, by have := Hlen.out; simp; omega, by go_num, rfl, HD.out, hJ3, hB.trans hk3⟩
              case measure => simp [intOf]; omega
            · gi_wp2
              go_wp2
              rw [Exit.noGoto_normal]
              refine bodyPost_end (results_none rfl _ _ _) rfl ?_
              exact ⟨⟨_, rfl⟩, .inr ⟨_, trivial, hJ3⟩⟩
          · have h3 : decide (lett a k < lett b k) = false := by simpa using hc
            have HD : Hid ((pre ++ [lett a k]) ++ digs a b (200 - (k + 1)) (k + 1) false = L) := by
              have h1 := HE'.out
              rw [HN.out] at h1
              simp only [digs, if_true, if_false, Bool.false_eq_true, Bool.true_or, Bool.false_or] at h1
              rw [if_neg hgt] at h1
              have h2 := HN.out
              rw [show 200 - (k + 1) = n from by omega, List.append_assoc]
              first | exact h1 | exact Lib.hid (by simpa [hc] using h1)
            go_upto_region 10 with (go_at_call 35; first | ((with_reducible refine (letter_calls a k _ ha).mono ?_); rintro e w' ⟨rfl, rfl⟩) | ((with_reducible refine (letter_calls b k _ hb).mono ?_); rintro e w' ⟨rfl, rfl⟩))
            obtain ⟨fn, tmps, assign, body, hy, hR⟩ := hY.out pre (lett a k) wr hJ (by have := Hlen.out; omega) (by omega) (by omega)
            refine (wpIn_wide (n := m)).1 ?_
            gi_wp2
            refine ⟨fun h => absurd h (by decide), ?_⟩
            refine hR.mono ?_
            rintro e W3 (⟨rfl, hJ3, hk3⟩ | ⟨rfl, hJ3⟩)
            · gi_wp2
              go_wp2
              go_roundw
              case rel => exact ⟨k + 1, pre ++ [lett a k], false, by omega, by have := Hlen.out; simp; omega, by go_num, rfl, HD.out, hJ3, hB.trans hk3⟩
              case measure => simp [intOf]; omega
            · gi_wp2
              go_wp2
              rw [Exit.noGoto_normal]
              refine bodyPost_end (results_none rfl _ _ _) rfl ?_
              exact ⟨⟨_, rfl⟩, .inr ⟨_, trivial, hJ3⟩⟩
    · go_wp2
      rw [Exit.noGoto_normal]
      refine bodyPost_end (results_none rfl _ _ _) rfl ?_
      have h1 := HE'.out
      rw [show 200 - k = 0 from by omega, digs, List.append_nil] at h1
      exact ⟨⟨_, rfl⟩, .inl ⟨_, h1, hJ⟩⟩
/-- The iterator's contract, as the caller's law asks for it. -/
abbrev Letter := { x : Int // 0 ≤ x ∧ x ≤ 25 }
theorem digits1_stops (m bx bm n₀ : Nat) (a b : ByteArray) (ha : a.size ≤ 1000000) (hb : b.size ≤ 1000000) (hla : Isl a) (hlb : Isl b)
    (W : World) (hbx : bx < W.heap.size) (hbm : bm < n₀) (hn : n₀ ≤ W.heap.size) (c1 : W.cell? ⟨bx, 0, none⟩ = some (.pointer (some ⟨bm, 0, none⟩))) (c2 : W.cell? ⟨bm, 0, none⟩ = some (.string a)) (c3 : W.cell? ⟨bm, 1, none⟩ = some (.string b)) :
    SeqStopsK Fence.wide m Tryd.prog 34 #[.pointer (some ⟨bx, 0, none⟩)] (fun x : Letter => #[.int .i64 x.1]) (Kpd bx n₀) (fun xs => xs.map (·.1) = digs a b 200 0 b.toList.isEmpty) (fun _ => True) 200 W := by
  intro l J Jx W1 hB _ _ hY h0
  refine (digits1_in m l bx bm n₀ a b ha hb (Lib.hid hla) (Lib.hid hlb) (fun pre W => ∃ p : List Letter, p.map (·.1) = pre ∧ J p W) (fun pre W => ∃ p : List Letter, p.map (·.1) = pre ∧ Jx p W) (Lib.hid ?_) W1 hbm ((hB.cell (p := ⟨bx, 0, none⟩) hbx).trans c1) ((hB.cell (p := ⟨bm, 0, none⟩) (Nat.lt_of_lt_of_le hbm hn)).trans c2) ((hB.cell (p := ⟨bm, 1, none⟩) (Nat.lt_of_lt_of_le hbm hn)).trans c3) ⟨[], rfl, h0⟩).mono ?_
  · rintro pre x W ⟨p, rfl, hJ⟩ hl h1 h2
    obtain ⟨fn, tmps, assign, body, hy, hR⟩ := hY p ⟨x, h1, h2⟩ W hJ (by simpa using hl)
    refine ⟨fn, tmps, assign, body, hy, hR.mono ?_⟩
    rintro e W' (⟨he, hj, hk⟩ | ⟨he, hj⟩)
    · exact .inl ⟨he, ⟨_, by simp, hj⟩, hk⟩
    · exact .inr ⟨he, ⟨_, by simp, hj⟩⟩
  · rintro e W' ⟨hv, ⟨xs, hS, p, hp, hJ⟩ | ⟨pre, _, p, hp, hJ⟩⟩
    · exact ⟨hv, .inl ⟨p, hp.trans hS, hJ⟩⟩
    · exact ⟨hv, .inr ⟨p, trivial, hJ⟩⟩
end Go.Proofs.YtemiocaiimdblaaDoor.Hand
