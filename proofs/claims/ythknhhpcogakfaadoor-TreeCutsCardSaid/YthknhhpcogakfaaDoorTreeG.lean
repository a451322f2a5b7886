/- tree: nodes moved: the walk. -/
import Derived.Test.YthknhhpcogakfaaDoorTreeF
set_option linter.unusedVariables false
set_option linter.unusedSimpArgs false
namespace Go.Proofs.YthknhhpcogakfaaDoor.Hand
open Go Go.RowKit Go.Proofs.YthknhhpcogakfaaDoor.K Go.Proofs.YthknhhpcogakfaaDoor.PT Go.Proofs.YthknhhpcogakfaaDoorW.PrintWords Go.Proofs.YthknhhpcogakfaaDoorW.PrintLast Go.Proofs.YthknhhpcogakfaaDoorW.PrintMore
set_option maxRecDepth 100000
set_option maxHeartbeats 2000000
theorem copy_made (d : Int) (A : Option Addr) (c : Nat) (l : List S30) (w w1 : World) (cur : Array Value) (hr : Kd.C k30 w A l.length l) (hx : Ext w w1) (hg : w1.heap[w.heap.size]? = some (.cells cur 30 (0, 0))) (hcur : cur.size = l.length * 4) :
    ∃ w2, (Builtin.copy_ #[22, 22] 3 #[.slice (some ⟨w.heap.size, 0, none⟩) l.length l.length, .slice A l.length c]).run Tryd.prog w1 = .ok (goInt l.length) w2 ∧ MovedTo w w2 d l 0 ∧ Ext w w2 := by
  cases A with
  | none =>
    have h0 : l = [] := by
      rcases Nat.eq_zero_or_pos l.length with h | h
      · exact List.eq_nil_of_length_eq_zero h
      · obtain ⟨ad, e, _⟩ := hr.2.2 h; cases e
    subst h0
    refine ⟨w1, ?_, ⟨⟨fun _ => undef, cur, hg, hcur, fun i hi => by simp at hi⟩, fun j hj => absurd hj (by omega), fun j _ hj => absurd hj (by simp)⟩, hx⟩
    have hl : ∀ (x : Addr), (loadCells x 0).run Tryd.prog w1 = .ok #[] w1 := fun x => by simpa using run_loadCells_list (P := Tryd.prog) w1 x [] (by simp)
    obtain ⟨i, hi, hs⟩ := Option.map_eq_some_iff.1 sizeN
    simp [Builtin.copy_, run_underlying Tryd.underlying22, Builtin.lenOf, Builtin.firstCells, sizeOf, typeInfo, hi, storeCells, hl]
  | some ad =>
    obtain ⟨cs, hlen, hcs, hone, hat⟩ := node_cells hr
    have hrun := run_copyN (P := Tryd.prog) w1 22 22 3 30 4 w.heap.size l.length l.length ad l.length c cur 30 cs Tryd.underlying22 sizeN hg (by rw [hlen, show Nat.min l.length l.length = l.length from Nat.min_self _]) (fun j v hj => hx.cell (hcs j v hj)) (by omega) hone
    have hdrop : cur.toList.drop cs.length = [] := List.drop_of_length_le (by rw [Array.length_toList]; omega)
    rw [hdrop, List.append_nil, show Nat.min l.length l.length = l.length from Nat.min_self _] at hrun
    have hg2 : (w1.setRow w.heap.size cs.toArray).heap[w.heap.size]? = some (.cells cs.toArray 30 (0, 0)) := setRow_heap w1 _ _ _ _ _ hg
    refine ⟨_, hrun, ⟨⟨fun i => cs.getD i undef, cs.toArray, hg2, by simpa using hlen, fun i hi => ?_⟩, fun j hj => absurd hj (by omega), fun j _ hj => ?_⟩, ?_⟩
    · rw [List.getElem?_toArray]; show cs[i]? = some (cs.getD i undef); rw [List.getD_eq_getElem?_getD, List.getElem?_eq_getElem (by omega)]; rfl
    · obtain ⟨q0, q1, q2⟩ := hat j hj
      exact ⟨cell_at hg2 (by simpa using q0), cell_at hg2 (by simpa using q1), cell_at hg2 (by simpa using q2)⟩
    · refine Ext.below (hx.out.trans ⟨rfl, rfl, rfl, by simp [World.setRow], fun k hk => setRow_other w1 _ k _ (by omega)⟩)
theorem made_next {w w1 : World} {d : Int} {l : List S30} {A : Option Addr} {c : Nat} {xs : List Value}
    (h : ∀ w1 cur, Ext w w1 → w1.heap[w.heap.size]? = some (.cells cur 30 (0, 0)) → cur.size = l.length * 4 → ∃ w2, (Builtin.copy_ #[22, 22] 3 #[.slice (some ⟨w.heap.size, 0, none⟩) l.length l.length, .slice A l.length c]).run Tryd.prog w1 = .ok (goInt l.length) w2 ∧ MovedTo w w2 d l 0 ∧ Ext w w2)
    (ho : w1.ownsRow w.heap.size 30 4 (.slice (some ⟨w.heap.size, 0, none⟩) l.length l.length) l.length xs) (hg : w.grownBy w1 none) :
    ∃ w2, (Builtin.copy_ #[22, 22] 3 #[.slice (some ⟨w.heap.size, 0, none⟩) l.length l.length, .slice A l.length c]).run Tryd.prog w1 = .ok (goInt l.length) w2 ∧ MovedTo w w2 d l 0 ∧ Ext w w2 := by
  rcases ho.2 with ⟨he, _⟩ | ⟨g, cap, cur, he, _, hh, _, _, hsz, _⟩
  · cases he
  · injection he with e1 _ e3
    injection e1 with e1
    injection e1 with e1
    subst e1; subst e3
    exact h w1 cur (Ext.below ((Below.refl _ _).grown hg (Nat.le_refl _) (fun k hk => by cases hk))) hh hsz
theorem moved_calls (d : Int) (A : Option Addr) (c : Nat) (l : List S30) (w : World) (hr : Kd.C k30 w A l.length l) (hc : l.length ≤ c) (hn : l.length ≤ 1000) (hatt : ∀ x ∈ l, x.f3.length ≤ 1000) :
    Calls Tryd.prog 37 #[.int .i64 d, .slice A l.length c] w fun e w' => e = .returned (.slice (some ⟨w.heap.size, 0, none⟩) l.length l.length) ∧ MovedTo w w' d l l.length ∧ Ext w w' := by
  obtain ⟨i0, hi, hz0, hz1, hz2⟩ := info_parts infoN
  have HC := Lib.hid hr
  have HA := Lib.hid hatt
  have hcm := Lib.hid (fun w1 cur => copy_made d A c l w w1 cur hr)
  clear hr hatt
  go_enter Tryd.func37, Tryd.ntmps37
  go_wp2_with (at_make; refine wpList_make_full _ rfl _ _ 22 rfl w.heap.size 30 i0 _ 4 Tryd.underlying22 hi hz0 hz1 .i64 .i64 _ _ l.length rfl rfl rfl rfl (by rw [hz2]; omega) (by unfold maxLen; omega) (Nat.le_refl _) ?_; intro w1 hown1 hgrow1; obtain ⟨w2, hrun, hM, hX⟩ := made_next hcm.out hown1 hgrow1; clear hown1 hgrow1)
  go_loopw [15] (fun i wr => ∃ (k : Nat), k ≤ l.length ∧ i = .int .i64 (k : Int) ∧ MovedTo w wr d l k ∧ Ext w wr) (fun i _ => l.length - (intOf i).toNat)
  case atStart => exact ⟨0, Nat.zero_le _, rfl, hM, hX⟩
  case round =>
    clear hM hX hrun
    obtain ⟨k, hk, rfl, hM, hX⟩ := hrel
    by_cases hlt : k < l.length
    · obtain ⟨ad, A3, c3, hb, d0, d1, d2, d3, hc3, hn3⟩ := at_node HC.out k hlt
      have hat := HA.out _ (show l.getD k z30 ∈ l by rw [List.getD_eq_getElem?_getD, List.getElem?_eq_getElem hlt]; exact List.getElem_mem hlt)
      obtain ⟨r0, r1, r2⟩ := hM.2.2 k (Nat.le_refl _) hlt
      subst hb
      obtain ⟨X, hX0⟩ : ∃ X, l.getD k z30 = X := ⟨_, rfl⟩
      rw [hX0] at d0 d1 d2 d3 hc3 hn3 hat r0 r1 r2
      have HX := Lib.hid hX0
      clear hX0 d0 d1 d2 r0 r2
      have hM0 := Lib.hid hM
      obtain ⟨f, hf⟩ := hM.1
      have fz := hf.frozen (k * 4 + 1)
      have hX1 : Ext w (wr.setCell ⟨w.heap.size, k * 4 + 1, none⟩ (.int .i64 (wrap64 (X.f1 + d)))) := Ext.below (hX.out.setCell (Nat.le_refl _) _)
      replace d3 := hX1.cell d3
      have hn4 := Kd.C_below hn3 hX1.out
      have hg3 := (hf.set (k * 4 + 1) (.int .i64 (wrap64 (X.f1 + d))))
      have hsz : w.heap.size + 1 ≤ (wr.setCell ⟨w.heap.size, k * 4 + 1, none⟩ (.int .i64 (wrap64 (X.f1 + d)))).heap.size := hg3.lt
      clear hM
      go_wp2_with (go_at_call 55; (with_reducible refine (clone_calls A3 c3 X.f3 _ hn4 hc3 hat).mono ?_); rintro e w2 ⟨⟨v, rfl, hv⟩, hq⟩; obtain ⟨Av, cv, rfl, _, _⟩ := hv.reads; have hq3 := hg3.of_block (hq.out.block _ hg3.lt); have e3 := hq3.cell (i := k * 4 + 3) (by omega); have z3 := hq3.frozen (k * 4 + 3))
      go_roundw
      case rel =>
        refine ⟨k + 1, by omega, by go_num, movedTo_step hM0.out hlt HX.out hq (own_weaken hv hsz), Ext.below ((hX1.trans hq).out.setCell (Nat.le_refl _) _)⟩
      case measure => simp [intOf]; omega
    · go_wp2
      go_ret
      obtain rfl : k = l.length := by omega
      exact ⟨rfl, hM, hX⟩
end Go.Proofs.YthknhhpcogakfaaDoor.Hand
