/- tree: Cut. -/
import Derived.Test.YthknhhpcogakfaaDoorTreeL
set_option linter.unusedVariables false
set_option linter.unusedSimpArgs false
namespace Go.Proofs.YthknhhpcogakfaaDoor.Hand
open Go Go.RowKit Go.Proofs.YthknhhpcogakfaaDoor.K Go.Proofs.YthknhhpcogakfaaDoor.PT Go.Proofs.YthknhhpcogakfaaDoorW.PrintWords Go.Proofs.YthknhhpcogakfaaDoorW.PrintLast Go.Proofs.YthknhhpcogakfaaDoorW.PrintMore
set_option maxRecDepth 100000
set_option maxHeartbeats 4000000
def T18_5 : List (List (Tmp × Option Nat)) := [[(0, none)], [(19, some 0)], [(1, none)], [(6, none)], [(22, some 3)], [(1, none)], [(23, some 4), (24, some 5)], [(20, some 1), (21, some 2), (25, some 6)], [(26, some 7)]]
/-- A row of nodes of the call's own, in block g, of c places. -/
structure RowK (w : World) (g c : Nat) (r : List S30) : Prop where
  is : ∃ f, w.rowIs g 30 (c * 4) f
  at_ : ∀ j x, r[j]? = some x → NodeAt w g j x
theorem RowK.ext {w w' : World} {g c : Nat} {r : List S30} (h : RowK w g c r) (hx : Ext w w') : RowK w' g c r :=
  ⟨by obtain ⟨f, hf⟩ := h.is; exact ⟨f, hf.of_block (hx.out.block _ hf.lt)⟩, fun j x hj => (h.at_ j x hj).ext hx⟩
theorem RowN.row {w : World} {g : Nat} {r : List S30} (h : RowN w g r) : RowK w g r.length r := ⟨h.is, h.at_⟩
def RowV (w0 : World) (r : List S30) (v : Value) (w : World) : Prop := ∃ g c, v = .slice (some ⟨g, 0, none⟩) r.length c ∧ r.length ≤ c ∧ w0.heap.size ≤ g ∧ RowK w g c r
theorem MovedV.row {w0 w : World} {r : List S30} {v : Value} (h : MovedV w0 r v w) : RowV w0 r v w := by
  obtain ⟨g, e, h1, h2⟩ := h
  exact ⟨g, r.length, e, Nat.le_refl _, h1, h2.row⟩
/-- What Delete leaves. -/
def without (r : List S30) (i j : Nat) : List S30 := r.take i ++ r.drop j
theorem without_get (r : List S30) (i j : Nat) (hi : i ≤ j) (hj : j ≤ r.length) (k : Nat) : (without r i j)[k]? = if k < i then r[k]? else r[k - i + j]? := by
  unfold without
  rw [List.getElem?_append, List.length_take, Nat.min_eq_left (by omega)]
  split
  · rw [List.getElem?_take, if_pos (by assumption)]
  · rw [List.getElem?_drop]; congr 1; omega
theorem row_one {w : World} {g : Nat} {r : List S30} {cur : Array Value} (h : RowN w g r) (hg : w.heap[g]? = some (.cells cur 30 (0, 0))) (hcur : cur.size = r.length * 4) : ∀ v ∈ cur.toList, v.oneCell' = true := by
  intro v hv
  obtain ⟨t, ht⟩ := List.getElem?_of_mem hv
  have htl : t < r.length * 4 := by have := (List.getElem?_eq_some_iff.1 ht).1; simpa [hcur] using this
  have hc : w.cell? ⟨g, t, none⟩ = some v := cell_at hg (by simpa using ht)
  have hk : t / 4 < r.length := by omega
  have hN := h.at_ (t / 4) r[t / 4] (List.getElem?_eq_getElem hk)
  have hm : t % 4 < 4 := Nat.mod_lt _ (by decide)
  have ht4 : t = t / 4 * 4 + t % 4 := by omega
  rcases hq : t % 4 with _ | _ | _ | _ | q
  · rw [hq, Nat.add_zero] at ht4; rw [ht4, hN.c0] at hc; injection hc with hc; subst hc; rfl
  · rw [hq] at ht4; rw [ht4, hN.c1] at hc; injection hc with hc; subst hc; rfl
  · rw [hq] at ht4; rw [ht4, hN.c2] at hc; injection hc with hc; subst hc; rfl
  · rw [hq] at ht4
    obtain ⟨v', hv', ho⟩ := hN.c3
    rw [ht4, hv'] at hc
    injection hc with hc
    subst hc
    obtain ⟨A, c, rfl, _⟩ := ho.reads
    rfl
  · omega
theorem deleted_row {w w' : World} {g i j : Nat} {r : List S30} {cur : Array Value} (h : RowN w g r) (hg : w.heap[g]? = some (.cells cur 30 (0, 0))) (hcur : cur.size = r.length * 4) (hij : i < j) (hj : j ≤ r.length)
    (ho : w'.ownsRow g 30 4 (.slice (some ⟨g, 0, none⟩) (i + (r.length - j)) r.length) (i + (r.length - j)) (cur.toList.take (i * 4) ++ cur.toList.drop (j * 4))) (hgr : w.grownBy w' (some g)) : RowK w' g r.length (without r i j) := by
  obtain ⟨cur2, hg2, hc2, ht2⟩ := own_block ho
  refine ⟨⟨fun t => cur2.getD t undef, cur2, hg2, hc2, fun t ht => by show cur2[t]? = some (cur2.getD t undef); rw [Array.getD_eq_getD_getElem?, Array.getElem?_eq_getElem (by omega)]; rfl⟩, fun k x hk => ?_⟩
  have hkl : k < i + (r.length - j) := by
    have := (List.getElem?_eq_some_iff.1 hk).1
    simpa [without, List.length_take, List.length_drop, Nat.min_eq_left (show i ≤ r.length by omega)] using this
  rw [without_get r i j (by omega) hj] at hk
  have hcell : ∀ q, q < 4 → w'.cell? ⟨g, k * 4 + q, none⟩ = if k < i then w.cell? ⟨g, k * 4 + q, none⟩ else w.cell? ⟨g, (k - i + j) * 4 + q, none⟩ := fun q hq => by
    rw [ho.cellAt (k * 4 + q) (by omega), List.getElem?_append, List.length_take, Array.length_toList, hcur, Nat.min_eq_left (by omega)]
    have hw : ∀ t, w.cell? ⟨g, t, none⟩ = cur[t]? := fun t => cell_of_row w g t cur 30 (0, 0) hg
    by_cases hki : k < i
    · rw [if_pos (by omega), if_pos hki, List.getElem?_take, if_pos (by omega), hw]; simp
    · rw [if_neg (by omega), if_neg hki, List.getElem?_drop, hw, Array.getElem?_toList]
      congr 1
      omega
  have hN : NodeAt w g (if k < i then k else k - i + j) x := by
    by_cases hki : k < i
    · rw [if_pos hki] at hk ⊢; exact h.at_ k x hk
    · rw [if_neg hki] at hk ⊢; exact h.at_ _ x hk
  have hown : ∀ v, OwnA w (g + 1) v x.f3 → OwnA w' (g + 1) v x.f3 := fun v hv => own_move hv (fun b hb => hgr.block b (own_lt hv b hb) (by
    intro he
    have := own_base hv b hb
    injection he with he
    omega))
  obtain ⟨v, hv, hvo⟩ := hN.c3
  have c0 := hcell 0 (by decide)
  have c1 := hcell 1 (by decide)
  have c2 := hcell 2 (by decide)
  have c3 := hcell 3 (by decide)
  by_cases hki : k < i
  · simp only [if_pos hki, Nat.add_zero] at c0 c1 c2 c3 hN hv
    exact ⟨c0.trans hN.c0, c1.trans hN.c1, c2.trans hN.c2, v, c3.trans hv, hown v hvo⟩
  · simp only [if_neg hki, Nat.add_zero] at c0 c1 c2 c3 hN hv
    exact ⟨c0.trans hN.c0, c1.trans hN.c1, c2.trans hN.c2, v, c3.trans hv, hown v hvo⟩
/-- What a call tells that makes nodes: none, or a row of its own. -/
def ToldV (w0 : World) (r : List S30) (code : Int) (e : Ending) (w : World) : Prop := ∃ v, e = .returned (.tuple #[v, .int .i64 code]) ∧ (RowV w0 r v w ∨ (v = .slice none 0 0 ∧ r = []))
theorem cut_good (a b : Addr) (ad : Addr) (c : Nat) (l : List S30) (i : Nat) (u : World) (hg : Gv a b u) (hr : Kd.C k30 u (some ad) l.length l) (hc : l.length ≤ c) (hi : i < l.length) (hid : IdsIn l) (hR : rightF l = true) (hn : l.length ≤ 1000) (hatt : ∀ x ∈ l, x.f3.length ≤ 1000) :
    Calls Tryd.prog 18 #[.slice (some ad) l.length c, .int .i64 (i : Int)] u fun e w' => ToldV u (without (l.map (deepN 0)) i (endF l i).toNat) 0 e w' ∧ Ext u w' := by
  have hw0 : Ext u (u.alloc (.cells #[.slice (some ad) l.length c] 54)) := (Ext.refl u).alloc _
  have hb0 : (u.alloc (.cells #[.slice (some ad) l.length c] 54)).cell? ⟨u.heap.size, 0, none⟩ = some (.slice (some ad) l.length c) := cell_at (h_newN _ _ _ rfl) rfl
  have hck := checked_calls a b (some ad) c l (i : Int) _ (hg.ext hw0) (Kd.C_below hr hw0.out) hc hid
  have hcv : checkV a b l (i : Int) = .nilIface := by
    unfold checkV
    rw [if_pos hR, if_pos (by unfold placeB; rw [decide_eq_true (by omega), decide_eq_true (by omega)]; rfl)]
  rw [hcv] at hck
  have HK := Lib.hid hck
  obtain ⟨e0, e1⟩ := endL_bounds (l.getD i z30).f1 (l.drop (i + 1)) ((i : Int) + 1)
  rw [List.length_drop] at e1
  obtain ⟨E, hEE⟩ : ∃ E : Nat, endF l i = (E : Int) := ⟨(endF l i).toNat, by unfold endF; omega⟩
  have hE0 : i < E := by unfold endF at hEE; omega
  have hEl : E ≤ l.length := by unfold endF at hEE; omega
  rw [show (endF l i).toNat = E by omega]
  have HE := Lib.hid hEE
  have hlm : (l.map (deepN 0)).length = l.length := List.length_map ..
  have HLM := Lib.hid hlm
  clear hck hcv e0 e1 hEE hlm
  go_enter Tryd.func18, Tryd.ntmps18
  go_upto_region 5 with (go_at_call 35; (with_reducible refine HK.out.mono ?_); rintro e w2 ⟨rfl, hq⟩)
  have hr2 := Kd.C_below hr (hw0.trans hq).out
  have cb := hq.cell hb0
  refine region_tail 7 T18_5 ?_ ?_ ?_ ?_ ?_ ?_
  · kernel_rfl
  · kernel_rfl
  · kernel_rfl
  · kernel_rfl
  · kernel_rfl
  simp only [List.take_succ_cons, List.take_zero]
  refine RChain.quiet (.slice (some ad) l.length c) rfl (fun a_ w hE ⟨(h0 : a_.tmps.getD 0 undef = .slice (some ad) l.length c), _⟩ => ?_) ?_
  · conv => lhs; simp [go_sem, h0]
    try exact rfl
  refine RChain.step (MovedV w2 (l.map (deepN 0))) (movedV_stable _ _) rfl (fun a_ w hE ⟨(h19 : a_.tmps.getD 19 undef = .slice (some ad) l.length c), _⟩ => ?_) ?_
  · refine Steps1.call 37 #[.int .i64 0, .slice (some ad) l.length c] ?_ ((moved_row 0 (some ad) c l w2 w hE (Kd.C_below hr2 hE.out) hc hn hatt).mono fun e w' ⟨v, he, hv, hx⟩ => ⟨v, he, hx, hv⟩)
    conv => lhs; simp [go_sem, h19]
    try exact rfl
  refine RChain.quiet (.int .i64 (i : Int)) rfl (fun a_ w hE ⟨(h1 : a_.tmps.getD 1 undef = .int .i64 (i : Int)), _⟩ => ?_) ?_
  · conv => lhs; simp [go_sem, h1]
    try exact rfl
  refine RChain.quiet (.pointer (some ⟨u.heap.size, 0, none⟩)) rfl (fun a_ w hE ⟨(h6 : a_.tmps.getD 6 undef = .pointer (some ⟨u.heap.size, 0, none⟩)), _⟩ => ?_) ?_
  · conv => lhs; simp [go_sem, h6]
    try exact rfl
  refine RChain.quiet (.agg #[.slice (some ad) l.length c]) rfl (fun a_ w hE ⟨(h22 : a_.tmps.getD 22 undef = .pointer (some ⟨u.heap.size, 0, none⟩)), _⟩ => ?_) ?_
  · conv => lhs; simp [go_sem, h22, hE.cell cb]
    try exact rfl
  refine RChain.quiet (.int .i64 (i : Int)) rfl (fun a_ w hE ⟨(h1 : a_.tmps.getD 1 undef = .int .i64 (i : Int)), _⟩ => ?_) ?_
  · conv => lhs; simp [go_sem, h1]
    try exact rfl
  refine RChain.step (is (.int .i64 (E : Int))) (stable_is _) rfl (fun a_ w hE ⟨(h23 : a_.tmps.getD 23 undef = .agg #[.slice (some ad) l.length c]), (h24 : a_.tmps.getD 24 undef = .int .i64 (i : Int)), _⟩ => ?_) ?_
  · refine Steps1.call 38 #[.agg #[.slice (some ad) l.length c], .int .i64 (i : Int)] ?_ ((end_calls (some ad) c l i w (Kd.C_below hr2 hE.out) hc hi).mono fun e w' ⟨he, hx⟩ => ⟨_, he, hx, by rw [HE.out]⟩)
    conv => lhs; simp [go_sem, h23, h24]
    try exact rfl
  refine RChain.nil (fun w1 hE1 => ?_)
  refine endAll_cons (fun v0 (hv : v0 = .slice (some ad) l.length c) => ?_)
  subst hv
  refine endAll_cons (fun v1 hv => ?_)
  obtain ⟨g1, rfl, hg1, hr1⟩ := hv
  refine endAll_cons (fun v2 (hv : v2 = .int .i64 (i : Int)) => ?_)
  subst hv
  refine endAll_cons (fun v3 (hv : v3 = .pointer (some ⟨u.heap.size, 0, none⟩)) => ?_)
  subst hv
  refine endAll_cons (fun v4 (hv : v4 = .agg #[.slice (some ad) l.length c]) => ?_)
  subst hv
  refine endAll_cons (fun v5 (hv : v5 = .int .i64 (i : Int)) => ?_)
  subst hv
  refine endAll_cons (fun v6 (hv : v6 = .int .i64 (E : Int)) => ?_)
  subst hv
  refine endAll_at { tmps := List.toArray (.slice (some ad) l.length c :: .int .i64 (i : Int) :: undef :: undef :: .slice none 0 0 :: .int .i64 0 :: .pointer (some ⟨u.heap.size, 0, none⟩) :: .nilIface :: undef :: .slice (some ad) l.length c :: .agg #[.slice (some ad) l.length c] :: .agg #[.slice (some ad) l.length c] :: .agg #[.slice (some ad) l.length c] :: .int .i64 (i : Int) :: .nilIface :: .nilIface :: .bool false :: undef :: undef :: .slice (some ad) l.length c :: .slice (some ⟨g1, 0, none⟩) (l.map (deepN 0)).length (l.map (deepN 0)).length :: .int .i64 (i : Int) :: .pointer (some ⟨u.heap.size, 0, none⟩) :: .agg #[.slice (some ad) l.length c] :: .int .i64 (i : Int) :: .int .i64 (E : Int) :: undef :: undef :: undef :: undef :: undef :: []), defers := [] } (by kernel_rfl) ?_
  unfold TailQ
  simp only [List.drop_succ_cons, List.drop_zero]
  have hX := (hw0.trans hq).trans hE1
  obtain ⟨f, hf⟩ := hr1.is
  obtain ⟨cur, hgc, hcur, _⟩ := hf
  have hone := row_one hr1 hgc hcur
  obtain ⟨r, hrr⟩ : ∃ r, l.map (deepN 0) = r := ⟨_, rfl⟩
  rw [hrr] at hr1 hcur ⊢
  have hlr : r.length = l.length := by rw [← hrr]; exact HLM.out
  have hcur' : cur.size = l.length * 4 := by rw [← hlr]; exact hcur
  have hdel := delete_calls g1 l.length i E w1 cur hgc hcur' hone hn hE0 hEl
  have HD := Lib.hid hdel
  have hne : ¬ ((i : Int) + ((l.length - E : Nat) : Int) = 0) ∨ ((i : Int) + ((l.length - E : Nat) : Int) = 0) := by omega
  have hw : (without r i E).length = i + (l.length - E) := by simp only [without, List.length_append, List.length_take, List.length_drop, hlr]; omega
  have hrow : ∀ w3, w3.ownsRow g1 30 4 (.slice (some ⟨g1, 0, none⟩) (i + (l.length - E)) l.length) (i + (l.length - E)) (cur.toList.take (i * 4) ++ cur.toList.drop (E * 4)) → w1.grownBy w3 (some g1) → RowV u (without r i E) (.slice (some ⟨g1, 0, none⟩) (i + (l.length - E)) l.length) w3 ∧ Ext u w3 := fun w3 ho hgr => by
    rw [← hlr] at ho
    have hdr := deleted_row hr1 hgc hcur hE0 (by omega) ho hgr
    rw [hlr] at hdr
    refine ⟨⟨g1, l.length, by rw [hw], by omega, Nat.le_trans (hw0.trans hq).size hg1, hdr⟩, ?_⟩
    refine Ext.below (hX.out.grown hgr hX.size (fun k hk => ?_))
    cases hk
    exact Nat.le_trans (hw0.trans hq).size hg1
  have HW := Lib.hid hw
  have HRW := Lib.hid hrow
  rw [hlr]
  have HRR := Lib.hid hrr
  clear hdel hrow hone hrr hw hlr
  rcases hne with hne | hne
  · go_wp2_with (go_at_call 41; (with_reducible refine HD.out.mono ?_); rintro e w3 ⟨rfl, ho, hgr⟩)
    go_ret2
    obtain ⟨q1, q2⟩ := HRW.out _ ho hgr
    have hw := HW.out
    obtain rfl := HRR.out
    exact ⟨⟨_, rfl, .inl q1⟩, q2⟩
  · go_wp2_with (go_at_call 41; (with_reducible refine HD.out.mono ?_); rintro e w3 ⟨rfl, ho, hgr⟩)
    go_ret2
    obtain ⟨q1, q2⟩ := HRW.out _ ho hgr
    have hw := HW.out
    obtain rfl := HRR.out
    refine ⟨⟨_, rfl, .inr ⟨rfl, ?_⟩⟩, q2⟩
    exact List.eq_nil_of_length_eq_zero (by rw [hw]; omega)
end Go.Proofs.YthknhhpcogakfaaDoor.Hand
