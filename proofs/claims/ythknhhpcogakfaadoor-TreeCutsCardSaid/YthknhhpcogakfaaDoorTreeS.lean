/- tree: the iterator of a node's kids. -/
import Derived.RangeFuncNested
import Derived.RangeFuncBound
import Derived.RangeFuncCalls
import Derived.RangeFuncLeaves
import Derived.RangeFuncBox
import Derived.Shelf.Abstract
import Derived.Shelf.RegionOpen
import Derived.OwnWalkIn
import Derived.TacticsInMore
import Derived.LoopNIn
import Derived.LoopIn
import Derived.WalkMore
import Derived.Deep.Cut
import Derived.Test.YthknhhpcogakfaaDoorKRange
import Derived.Test.YthknhhpcogakfaaDoorTreeN
set_option linter.unusedVariables false
set_option linter.unusedSimpArgs false
namespace Go.Proofs.YthknhhpcogakfaaDoor.Hand
open Go Go.RowKit Go.Shelf Go.Proofs.YthknhhpcogakfaaDoor.K Go.Proofs.YthknhhpcogakfaaDoor.PT Go.Proofs.YthknhhpcogakfaaDoorW.PrintWords Go.Proofs.YthknhhpcogakfaaDoorW.PrintLast Go.Proofs.YthknhhpcogakfaaDoorW.PrintMore
attribute [local go_sem] Oper.semAt_some
set_option maxRecDepth 100000
set_option maxHeartbeats 4000000
theorem endF_le0 (l : List S30) (p : Nat) (hp : p < l.length) : (p : Int) + 1 ≤ endF l p ∧ endF l p ≤ l.length := by
  have := endL_bounds (l.getD p z30).f1 (l.drop (p + 1)) ((p : Int) + 1)
  rw [List.length_drop] at this
  unfold endF
  omega
/-- The places of kids, from place k on, ahead of e. -/
def kidsL (l : List S30) : Nat → Nat → Nat → List Int
  | 0, _, _ => []
  | f + 1, k, e => if k < e then (k : Int) :: kidsL l f (endF l k).toNat e else []
theorem kidsL_fuel (l : List S30) (e : Nat) (he : e ≤ l.length) : ∀ (f g k : Nat), e - k < f → e - k < g → kidsL l f k e = kidsL l g k e := by
  intro f
  induction f with
  | zero => intro g k h; omega
  | succ f ih =>
    intro g k h1 h2
    obtain ⟨g, rfl⟩ : ∃ m, g = m + 1 := ⟨g - 1, by omega⟩
    rw [kidsL, kidsL]
    split
    · rename_i hk
      have := endF_le0 l k (by omega)
      rw [ih g _ (by omega) (by omega)]
    · rfl
theorem kidsL_step (l : List S30) (e k : Nat) (he : e ≤ l.length) (hk : k < e) : kidsL l (l.length + 1 - k) k e = (k : Int) :: kidsL l (l.length + 1 - (endF l k).toNat) (endF l k).toNat e := by
  obtain ⟨g, hg⟩ : ∃ g, l.length + 1 - k = g + 1 := ⟨l.length - k, by omega⟩
  have := endF_le0 l k (by omega)
  rw [hg, kidsL, if_pos hk, kidsL_fuel l e he g (l.length + 1 - (endF l k).toNat) _ (by omega) (by omega)]
theorem kidsL_done (l : List S30) (e k f : Nat) (hk : ¬ k < e) : kidsL l f k e = [] := by
  cases f with
  | zero => rfl
  | succ f => rw [kidsL, if_neg hk]
def topE (l : List S30) (at_ : Int) : Nat := if 0 ≤ at_ then (endF l at_.toNat).toNat else l.length
def kidsOf (l : List S30) (at_ : Int) : List Int := kidsL l (l.length + 1 - (at_ + 1).toNat) (at_ + 1).toNat (topE l at_)
structure KpK (bw bi n₀ : Nat) (W W' : World) : Prop where
  hw : W'.heap[bw]? = W.heap[bw]?
  hi : W'.heap[bi]? = W.heap[bi]?
  hb : Below n₀ W W'
theorem kids1_in (m ly bw bi : Nat) (A : Option Addr) (c : Nat) (l : List S30) (at_ : Int) (w0 : World) (hr : Kd.C k30 w0 A l.length l) (hc : l.length ≤ c) (hn : l.length ≤ 1000) (ha0 : -1 ≤ at_) (ha1 : at_ < (l.length : Int)) (J Jx : List Int → World → Prop)
    (hJ : Hid (∀ s A B, J s A → Ext A B → J s B))
    (hY : Hid (∀ pre x W1, J pre W1 → pre.length < 1001 → YieldAt Fence.wide (m - 1) Tryd.prog ly #[.int .i64 x] W1 fun e W' => (e = .returned (.bool true) ∧ J (pre ++ [x]) W' ∧ KpK bw bi w0.heap.size W1 W') ∨ (e = .returned (.bool false) ∧ Jx (pre ++ [x]) W')))
    (W : World) (hb : Boxed W bw 51 (.slice A l.length c)) (hbi : Boxed W bi 3 (.int .i64 at_)) (hB0 : Below w0.heap.size w0 W) (h0 : J [] W) :
    CallsIn Fence.wide m Tryd.prog 56 #[.func (.yield ly) #[] #[], .pointer (some ⟨bw, 0, none⟩), .pointer (some ⟨bi, 0, none⟩)] W fun e W' => (∃ v, e = .returned v) ∧ ((∃ xs, xs = kidsOf l at_ ∧ J xs W') ∨ (∃ pre, True ∧ Jx pre W')) := by
  obtain ⟨L, hL⟩ : ∃ L, kidsOf l at_ = L := ⟨_, rfl⟩
  rw [hL]
  unfold kidsOf at hL
  have hc1 := hb.cell
  have hc2 := hbi.cell
  refine callsIn_wide.2 ?_
  rcases (by omega : at_ = -1 ∨ 0 ≤ at_) with hat | hat
  · have he : topE l at_ = l.length := by unfold topE; rw [if_neg (by omega)]
    rw [he] at hL
    have HL := Lib.hid hL
    clear hL he
    subst hat
    go_enter Tryd.func56, Tryd.ntmps56
    go_wp2
    go_step3
    go_wp2
    go_step3
    go_wp2
    go_loopw [5] (fun i wr => ∃ (pre : List Int) (k : Nat), i = .int .i64 (k : Int) ∧ (k : Nat) ≤ l.length ∧ pre.length ≤ k ∧ J pre wr ∧ Boxed wr bw 51 (.slice A l.length c) ∧ Boxed wr bi 3 (.int .i64 (-1)) ∧ Below w0.heap.size w0 wr ∧ pre ++ kidsL l (l.length + 1 - k) k l.length = L) (fun i _ => l.length - (intOf i).toNat)
    case atStart => exact ⟨[], ((-1 : Int) + 1).toNat, by rfl, by omega, by simp, h0, hb, hbi, hB0, by rw [List.nil_append]; exact HL.out⟩
    case round =>
      obtain ⟨pre, k, rfl, hk, hpl, hj, hw, hi, hB, hA⟩ := hrel
      have HA := Lib.hid hA
      clear hA
      have hc1 := hw.cell
      have hc2 := hi.cell
      by_cases hlt : k < l.length
      · obtain ⟨fn, tmps, assign, body, hy, hR⟩ := hY.out pre (k : Int) wr hj (by omega)
        go_upto_region 6 with (fail)
        refine (wpIn_wide (n := m)).1 ?_
        gi_wp2
        refine ⟨fun h => absurd h (by decide), ?_⟩
        refine hR.mono ?_
        rintro e_ W4 (⟨rfl, hj4, hk1, hk2, hk3⟩ | ⟨rfl, hj4⟩)
        · have hw4 := hk1.trans hw
          have hi4 := hk2.trans hi
          have hB4 := hB.trans (hk3.mono (Nat.le_refl _))
          have hd1 := Boxed.cell hw4
          have HE := end_calls A c l k W4 (Kd.C_below hr hB4) hc (by omega)
          have HEQ := Lib.hid HE
          obtain ⟨q0, q1⟩ := endF_le0 l k (by omega)
          obtain ⟨k2, hk2'⟩ : ∃ k2 : Nat, endF l k = (k2 : Int) := ⟨(endF l k).toNat, by omega⟩
          rw [hk2'] at q0 q1 HEQ
          have HK := Lib.hid hk2'
          clear HE hk2' hc1 hc2
          gi_wp2
          go_wp2_with (go_at_call 38; (with_reducible refine HEQ.out.mono ?_); rintro e_ w5 ⟨rfl, hx⟩)
          go_roundw
          case rel =>
            refine ⟨pre ++ [(k : Int)], k2, rfl, by omega, by simp; omega, hJ.out _ _ _ hj4 hx, hx.heap hw4, hx.heap hi4, hB4.trans (hx.out.mono hB4.size), ?_⟩
            have h1 := HA.out
            rw [kidsL_step l l.length k (by omega) hlt, HK.out] at h1
            simpa using h1
          case measure => simp [intOf]; omega
        · gi_wp2
          go_wp2
          rw [Exit.noGoto_normal]
          refine bodyPost_end (results_none rfl _ _ _) rfl ?_
          exact ⟨⟨_, rfl⟩, .inr ⟨_, trivial, hj4⟩⟩
      · go_wp2
        rw [Exit.noGoto_normal]
        refine bodyPost_end (results_none rfl _ _ _) rfl ?_
        have h1 := HA.out
        rw [kidsL_done l l.length k _ hlt, List.append_nil] at h1
        exact ⟨⟨_, rfl⟩, .inl ⟨pre, h1, hj⟩⟩
  · have HE := end_calls A c l at_.toNat W (Kd.C_below hr hB0) hc (by omega)
    rw [show ((at_.toNat : Nat) : Int) = at_ by omega] at HE
    obtain ⟨q0, q1⟩ := endF_le0 l at_.toNat (by omega)
    obtain ⟨e, hee⟩ : ∃ e : Nat, endF l at_.toNat = (e : Int) := ⟨(endF l at_.toNat).toNat, by omega⟩
    have he : topE l at_ = e := by unfold topE; rw [if_pos hat]; omega
    rw [he] at hL
    rw [hee] at HE q0 q1
    have HL := Lib.hid hL
    have HEQ0 := Lib.hid HE
    clear hL he HE hee
    go_enter Tryd.func56, Tryd.ntmps56
    go_wp2_with (go_at_call 38; (with_reducible refine HEQ0.out.mono ?_); rintro e_ w1 ⟨rfl, hx⟩; have hcx := hx.cell hc2)
    go_step3
    go_wp2_with (go_at_call 38; (with_reducible refine HEQ0.out.mono ?_); rintro e_ w1 ⟨rfl, hx⟩; have hcx := hx.cell hc2)
    go_step3
    go_wp2_with (go_at_call 38; (with_reducible refine HEQ0.out.mono ?_); rintro e_ w1 ⟨rfl, hx⟩; have hcx := hx.cell hc2)
    go_loopw [5] (fun i wr => ∃ (pre : List Int) (k : Nat), i = .int .i64 (k : Int) ∧ (k : Nat) ≤ l.length ∧ pre.length ≤ k ∧ J pre wr ∧ Boxed wr bw 51 (.slice A l.length c) ∧ Boxed wr bi 3 (.int .i64 at_) ∧ Below w0.heap.size w0 wr ∧ pre ++ kidsL l (l.length + 1 - k) k e = L) (fun i _ => l.length - (intOf i).toNat)
    case atStart => exact ⟨[], (at_ + 1).toNat, by go_num, by omega, by simp, hJ.out _ _ _ h0 hx, hx.heap hb, hx.heap hbi, hB0.trans (hx.out.mono hB0.size), by rw [List.nil_append]; exact HL.out⟩
    case round =>
      obtain ⟨pre, k, rfl, hk, hpl, hj, hw, hi, hB, hA⟩ := hrel
      have HA := Lib.hid hA
      clear hA
      have hc1 := hw.cell
      have hc2 := hi.cell
      by_cases hlt : k < e
      · obtain ⟨fn, tmps, assign, body, hy, hR⟩ := hY.out pre (k : Int) wr hj (by omega)
        go_upto_region 6 with (fail)
        refine (wpIn_wide (n := m)).1 ?_
        gi_wp2
        refine ⟨fun h => absurd h (by decide), ?_⟩
        refine hR.mono ?_
        rintro e_ W4 (⟨rfl, hj4, hk1, hk2, hk3⟩ | ⟨rfl, hj4⟩)
        · have hw4 := hk1.trans hw
          have hi4 := hk2.trans hi
          have hB4 := hB.trans (hk3.mono (Nat.le_refl _))
          have hd1 := Boxed.cell hw4
          have HE := end_calls A c l k W4 (Kd.C_below hr hB4) hc (by omega)
          have HEQ := Lib.hid HE
          obtain ⟨q0, q1⟩ := endF_le0 l k (by omega)
          obtain ⟨k2, hk2'⟩ : ∃ k2 : Nat, endF l k = (k2 : Int) := ⟨(endF l k).toNat, by omega⟩
          rw [hk2'] at q0 q1 HEQ
          have HK := Lib.hid hk2'
          clear HE hk2' hc1 hc2
          gi_wp2
          go_wp2_with (go_at_call 38; (with_reducible refine HEQ.out.mono ?_); rintro e_ w5 ⟨rfl, hx⟩)
          go_roundw
          case rel =>
            refine ⟨pre ++ [(k : Int)], k2, rfl, by omega, by simp; omega, hJ.out _ _ _ hj4 hx, hx.heap hw4, hx.heap hi4, hB4.trans (hx.out.mono hB4.size), ?_⟩
            have h1 := HA.out
            rw [kidsL_step l e k (by omega) hlt, HK.out] at h1
            simpa using h1
          case measure => simp [intOf]; omega
        · gi_wp2
          go_wp2
          rw [Exit.noGoto_normal]
          refine bodyPost_end (results_none rfl _ _ _) rfl ?_
          exact ⟨⟨_, rfl⟩, .inr ⟨_, trivial, hj4⟩⟩
      · go_wp2
        rw [Exit.noGoto_normal]
        refine bodyPost_end (results_none rfl _ _ _) rfl ?_
        have h1 := HA.out
        rw [kidsL_done l e k _ hlt, List.append_nil] at h1
        exact ⟨⟨_, rfl⟩, .inl ⟨pre, h1, hj⟩⟩
end Go.Proofs.YthknhhpcogakfaaDoor.Hand
