/- tree: Branch. -/
import Derived.Test.YthknhhpcogakfaaDoorTreeI
import Derived.WalkLawsBesides
import Derived.Shelf.Abstract
import Derived.Shelf.RegionOpen
set_option linter.unusedVariables false
set_option linter.unusedSimpArgs false
namespace Go.Proofs.YthknhhpcogakfaaDoor.Hand
open Go Go.RowKit Go.Proofs.YthknhhpcogakfaaDoor.K Go.Proofs.YthknhhpcogakfaaDoor.PT Go.Proofs.YthknhhpcogakfaaDoorW.PrintWords Go.Proofs.YthknhhpcogakfaaDoorW.PrintLast Go.Proofs.YthknhhpcogakfaaDoorW.PrintMore
set_option maxRecDepth 100000
set_option maxHeartbeats 4000000
/-- A row of nodes of the call's own, in block g. -/
structure RowN (w : World) (g : Nat) (r : List S30) : Prop where
  is : ∃ f, w.rowIs g 30 (r.length * 4) f
  at_ : ∀ j x, r[j]? = some x → NodeAt w g j x
theorem RowN.ext {w w' : World} {g : Nat} {r : List S30} (h : RowN w g r) (hx : Ext w w') : RowN w' g r :=
  ⟨by obtain ⟨f, hf⟩ := h.is; exact ⟨f, hf.of_block (hx.out.block _ hf.lt)⟩, fun j x hj => (h.at_ j x hj).ext hx⟩
theorem MovedTo.row {w w' : World} {d : Int} {l : List S30} (h : MovedTo w w' d l l.length) : RowN w' w.heap.size (l.map (deepN d)) := by
  refine ⟨by rw [List.length_map]; exact h.1, fun j x hj => ?_⟩
  rw [List.getElem?_map] at hj
  cases hl : l[j]? with
  | none => rw [hl] at hj; cases hj
  | some y =>
    rw [hl] at hj
    obtain rfl : deepN d y = x := by injection hj
    have := h.2.1 j (List.getElem?_eq_some_iff.1 hl).1
    rwa [getD_at z30 l j y hl] at this
def MovedV (w0 : World) (r : List S30) (v : Value) (w : World) : Prop := ∃ g, v = .slice (some ⟨g, 0, none⟩) r.length r.length ∧ w0.heap.size ≤ g ∧ RowN w g r
theorem movedV_stable (w0 : World) (r : List S30) : Stable (MovedV w0 r) := fun v w w' ⟨g, e, h1, h2⟩ hx => ⟨g, e, h1, h2.ext hx⟩
theorem moved_row (d : Int) (A : Option Addr) (c : Nat) (l : List S30) (w0 w : World) (hx0 : Ext w0 w) (hr : Kd.C k30 w A l.length l) (hc : l.length ≤ c) (hn : l.length ≤ 1000) (hatt : ∀ x ∈ l, x.f3.length ≤ 1000) :
    Calls Tryd.prog 37 #[.int .i64 d, .slice A l.length c] w fun e w' => ∃ v, e = .returned v ∧ MovedV w0 (l.map (deepN d)) v w' ∧ Ext w w' :=
  (moved_calls d A c l w hr hc hn hatt).mono fun e w' ⟨he, hm, hx⟩ => ⟨_, he, ⟨w.heap.size, by rw [List.length_map], hx0.size, hm.row⟩, hx⟩
/-- The branch at i, of m nodes, at depth 1. -/
def rowM (l : List S30) (i m : Nat) : List S30 := ((l.drop i).take m).map (deepN (1 - (l.getD i z30).f1))
theorem cut_run (ad : Addr) (n c i e : Nat) (h1 : i < e) (h2 : e ≤ n) (h3 : n ≤ c) (w : World) :
    (Instr.slice 22 (.slice (some ad) n c) (some (.int .i64 (i : Int))) (some (.int .i64 (e : Int))) (some (.int .i64 (e : Int)))).run Tryd.prog w = .ok (.slice (some (ad.add (i * 4))) (e - i) (e - i)) w := by
  obtain ⟨i0, hi, hs⟩ := Option.map_eq_some_iff.1 sizeN
  rw [run_slice_lhm (t := 22) (a := some ad) (len := n) (cap := c) (ht := by kernel_rfl) (kl := .i64) (kh := .i64) (km := .i64) (l := (i : Int)) (h := (e : Int)) (m := (e : Int)) (h0 := by omega) (h1 := by omega) (h2 := by omega) (h3 := by omega)]
  have he : Tryd.prog.elem 22 = 30 := by kernel_rfl
  rw [he]
  simp [sizeOf, typeInfo, hi, hs, Result.andThen, sliced]
  omega
theorem deepN_wrap (d : Int) (x : S30) : deepN (wrap64 d) x = deepN d x := by
  have h : wrap64 (x.f1 + wrap64 d) = wrap64 (x.f1 + d) := by unfold wrap64; omega
  unfold deepN; rw [h]
def T15_5 : List (List (Tmp × Option Nat)) := [[(0, none)], [(1, none)], [(18, some 0), (19, some 1)], [(20, some 2)], [(21, some 3)], [(22, some 4)], [(0, none)], [(1, none)], [(6, none)], [(26, some 8)], [(1, none)], [(27, some 9), (28, some 10)], [(6, none)], [(30, some 12)], [(1, none)], [(31, some 13), (32, some 14)], [(24, some 6), (25, some 7), (29, some 11), (33, some 15)], [(23, some 5), (34, some 16)], [(35, some 17)], []]
/-- A branch's results: what checked tells, or its nodes. -/
def BranchV (w0 : World) (r : List S30) (code : Int) (e : Ending) (w : World) : Prop := ∃ v, e = .returned (.tuple #[v, .int .i64 code]) ∧ (MovedV w0 r v w ∨ (v = .slice none 0 0 ∧ r = []))
theorem branch_good (a b : Addr) (ad : Addr) (c : Nat) (l : List S30) (i : Nat) (u : World) (hg : Gv a b u) (hr : Kd.C k30 u (some ad) l.length l) (hc : l.length ≤ c) (hi : i < l.length) (hid : IdsIn l) (hR : rightF l = true) (hn : l.length ≤ 1000) (hatt : ∀ x ∈ l, x.f3.length ≤ 1000) :
    Calls Tryd.prog 15 #[.slice (some ad) l.length c, .int .i64 (i : Int)] u fun e w' => BranchV u (rowM l i ((endF l i).toNat - i)) 0 e w' ∧ Ext u w' := by
  have hw0 : Ext u (u.alloc (.cells #[.slice (some ad) l.length c] 54)) := (Ext.refl u).alloc _
  have hb0 : (u.alloc (.cells #[.slice (some ad) l.length c] 54)).cell? ⟨u.heap.size, 0, none⟩ = some (.slice (some ad) l.length c) := cell_at (h_newN _ _ _ rfl) rfl
  have hck := checked_calls a b (some ad) c l (i : Int) _ (hg.ext hw0) (Kd.C_below hr hw0.out) hc hid
  have hcv : checkV a b l (i : Int) = .nilIface := by
    unfold checkV
    rw [if_pos hR, if_pos (by unfold placeB; rw [decide_eq_true (by omega), decide_eq_true (by omega)]; rfl)]
  rw [hcv] at hck
  have HK := Lib.hid hck
  obtain ⟨ad', A3, c3, hb, a0, a1, a2, a3, _⟩ := at_node hr i hi
  obtain rfl : ad = ad' := by injection hb
  obtain ⟨D, hD⟩ : ∃ D, (l.getD i z30).f1 = D := ⟨_, rfl⟩
  rw [hD] at a1
  have HD := Lib.hid hD
  obtain ⟨e0, e1⟩ := endL_bounds (l.getD i z30).f1 (l.drop (i + 1)) ((i : Int) + 1)
  rw [List.length_drop] at e1
  obtain ⟨E, hEE⟩ : ∃ E : Nat, endF l i = (E : Int) := ⟨(endF l i).toNat, by unfold endF; omega⟩
  have hE0 : i < E := by unfold endF at hEE; omega
  have hEl : E ≤ l.length := by unfold endF at hEE; omega
  obtain ⟨m, hm⟩ : ∃ m, E - i = m := ⟨_, rfl⟩
  have hmE : (endF l i).toNat - i = m := by rw [hEE]; omega
  rw [hmE]
  have HM := Lib.hid hm
  have HE := Lib.hid hEE
  have HCUT : Hid (∀ w : World, (Instr.slice 22 (.slice (some ad) l.length c) (some (.int .i64 (i : Int))) (some (.int .i64 (endF l i))) (some (.int .i64 (endF l i)))).run Tryd.prog w = .ok (.slice (some (ad.add (i * 4))) m m) w) := Lib.hid (fun w => by rw [hEE, ← hm]; exact cut_run ad _ c i E hE0 hEl hc w)
  clear hck hcv hD a0 a2 a3 e0 e1 hEE hm hmE
  go_enter Tryd.func15, Tryd.ntmps15
  go_upto_region 5 with (go_at_call 35; (with_reducible refine HK.out.mono ?_); rintro e w2 ⟨rfl, hq⟩)
  have hr2 := Kd.C_below hr (hw0.trans hq).out
  have d1 := (hw0.trans hq).cell a1
  have cb := hq.cell hb0
  have hlm : ((l.drop i).take m).length = m := by rw [List.length_take, List.length_drop]; have := HM.out; omega
  have HMV : Hid (∀ w, Ext w2 w → Calls Tryd.prog 37 #[.int .i64 (wrap64 (1 - D)), .slice (some (ad.add (i * 4))) m m] w fun e w' => ∃ v, e = .returned v ∧ MovedV w2 (rowM l i m) v w' ∧ Ext w w') := Lib.hid (fun w hE => by
    have hC : Kd.C k30 w (some (ad.add (i * 4))) ((l.drop i).take m).length ((l.drop i).take m) := by
      have h1 := Kd.C_drop (c := l.length + i + 1) (m := i) (Kd.C_below hr2 hE.out) (by omega) (by omega)
      rw [if_neg (by omega)] at h1
      exact Kd.C_take h1 (by rw [List.length_drop]; have := HM.out; omega)
    have hm1 := HM.out
    have h2 := moved_row (wrap64 (1 - D)) (some (ad.add (i * 4))) m ((l.drop i).take m) w2 w hE hC (by omega) (by omega) (fun x hx => hatt x (List.mem_of_mem_drop (List.mem_of_mem_take hx)))
    rw [hlm] at h2
    have hw : ((l.drop i).take m).map (deepN (wrap64 (1 - D))) = rowM l i m := by
      unfold rowM
      rw [HD.out]
      apply List.map_congr_left
      intro x _
      exact deepN_wrap (1 - D) x
    rw [hw] at h2
    exact h2)
  refine region_r T15_5 ?_ ?_ ?_ ?_ ?_
  · kernel_rfl
  · kernel_rfl
  · kernel_rfl
  · kernel_rfl
  refine RChain.quiet (.slice (some ad) l.length c) rfl (fun a_ w hE ⟨(h0 : a_.tmps.getD 0 undef = .slice (some ad) l.length c), _⟩ => ?_) ?_
  · conv => lhs; simp [go_sem, h0]
    try exact rfl
  refine RChain.quiet (.int .i64 (i : Int)) rfl (fun a_ w hE ⟨(h1 : a_.tmps.getD 1 undef = .int .i64 (i : Int)), _⟩ => ?_) ?_
  · conv => lhs; simp [go_sem, h1]
    try exact rfl
  refine RChain.quiet (.pointer (some (ad.add (i * 4)))) rfl (fun a_ w hE ⟨(h18 : a_.tmps.getD 18 undef = .slice (some ad) l.length c), (h19 : a_.tmps.getD 19 undef = .int .i64 (i : Int)), _⟩ => ?_) ?_
  · conv => lhs; simp [go_sem, h18, h19, hi]
    try exact rfl
  refine RChain.quiet (.pointer (some ⟨(ad.add (i * 4)).block, (ad.add (i * 4)).off + 1, none⟩)) rfl (fun a_ w hE ⟨(h20 : a_.tmps.getD 20 undef = .pointer (some (ad.add (i * 4)))), _⟩ => ?_) ?_
  · conv => lhs; simp [go_sem, h20]
    try exact rfl
  refine RChain.quiet (.int .i64 D) rfl (fun a_ w hE ⟨(h21 : a_.tmps.getD 21 undef = .pointer (some ⟨(ad.add (i * 4)).block, (ad.add (i * 4)).off + 1, none⟩)), _⟩ => ?_) ?_
  · conv => lhs; simp [go_sem, h21, hE.cell d1]
    try exact rfl
  refine RChain.quiet (.int .i64 (wrap64 (1 - D))) rfl (fun a_ w hE ⟨(h22 : a_.tmps.getD 22 undef = .int .i64 D), _⟩ => ?_) ?_
  · conv => lhs; simp [go_sem, h22, IntKind.wrap_i64]
    unfold wrap64; rfl
  refine RChain.quiet (.slice (some ad) l.length c) rfl (fun a_ w hE ⟨(h0 : a_.tmps.getD 0 undef = .slice (some ad) l.length c), _⟩ => ?_) ?_
  · conv => lhs; simp [go_sem, h0]
    try exact rfl
  refine RChain.quiet (.int .i64 (i : Int)) rfl (fun a_ w hE ⟨(h1 : a_.tmps.getD 1 undef = .int .i64 (i : Int)), _⟩ => ?_) ?_
  · conv => lhs; simp [go_sem, h1]
    try exact rfl
  refine RChain.quiet (.pointer (some ⟨u.heap.size, 0, none⟩)) rfl (fun a_ w hE ⟨(h6 : a_.tmps.getD 6 undef = .pointer (some ⟨u.heap.size, 0, none⟩)), _⟩ => ?_) ?_
  · conv => lhs; simp [go_sem, h6]
    try exact rfl
  refine RChain.quiet (.agg #[.slice (some ad) l.length c]) rfl (fun a_ w hE ⟨(h26 : a_.tmps.getD 26 undef = .pointer (some ⟨u.heap.size, 0, none⟩)), _⟩ => ?_) ?_
  · conv => lhs; simp [go_sem, h26, hE.cell cb]
    try exact rfl
  refine RChain.quiet (.int .i64 (i : Int)) rfl (fun a_ w hE ⟨(h1 : a_.tmps.getD 1 undef = .int .i64 (i : Int)), _⟩ => ?_) ?_
  · conv => lhs; simp [go_sem, h1]
    try exact rfl
  refine RChain.step (is (.int .i64 (endF l i))) (stable_is _) rfl (fun a_ w hE ⟨(h27 : a_.tmps.getD 27 undef = .agg #[.slice (some ad) l.length c]), (h28 : a_.tmps.getD 28 undef = .int .i64 (i : Int)), _⟩ => ?_) ?_
  · refine Steps1.call 38 #[.agg #[.slice (some ad) l.length c], .int .i64 (i : Int)] ?_ ((end_calls (some ad) c l i w (Kd.C_below hr2 hE.out) hc hi).mono fun e w' ⟨he, hx⟩ => ⟨_, he, hx, rfl⟩)
    conv => lhs; simp [go_sem, h27, h28]
    try exact rfl
  refine RChain.quiet (.pointer (some ⟨u.heap.size, 0, none⟩)) rfl (fun a_ w hE ⟨(h6 : a_.tmps.getD 6 undef = .pointer (some ⟨u.heap.size, 0, none⟩)), _⟩ => ?_) ?_
  · conv => lhs; simp [go_sem, h6]
    try exact rfl
  refine RChain.quiet (.agg #[.slice (some ad) l.length c]) rfl (fun a_ w hE ⟨(h30 : a_.tmps.getD 30 undef = .pointer (some ⟨u.heap.size, 0, none⟩)), _⟩ => ?_) ?_
  · conv => lhs; simp [go_sem, h30, hE.cell cb]
    try exact rfl
  refine RChain.quiet (.int .i64 (i : Int)) rfl (fun a_ w hE ⟨(h1 : a_.tmps.getD 1 undef = .int .i64 (i : Int)), _⟩ => ?_) ?_
  · conv => lhs; simp [go_sem, h1]
    try exact rfl
  refine RChain.step (is (.int .i64 (endF l i))) (stable_is _) rfl (fun a_ w hE ⟨(h31 : a_.tmps.getD 31 undef = .agg #[.slice (some ad) l.length c]), (h32 : a_.tmps.getD 32 undef = .int .i64 (i : Int)), _⟩ => ?_) ?_
  · refine Steps1.call 38 #[.agg #[.slice (some ad) l.length c], .int .i64 (i : Int)] ?_ ((end_calls (some ad) c l i w (Kd.C_below hr2 hE.out) hc hi).mono fun e w' ⟨he, hx⟩ => ⟨_, he, hx, rfl⟩)
    conv => lhs; simp [go_sem, h31, h32]
    try exact rfl
  refine RChain.quiet (.slice (some (ad.add (i * 4))) m m) rfl (fun a_ w hE ⟨(h24 : a_.tmps.getD 24 undef = .slice (some ad) l.length c), (h25 : a_.tmps.getD 25 undef = .int .i64 (i : Int)), (h29 : a_.tmps.getD 29 undef = .int .i64 (endF l i)), (h33 : a_.tmps.getD 33 undef = .int .i64 (endF l i)), _⟩ => ?_) ?_
  · have hcut := HCUT.out w
    conv => lhs; simp [go_sem, h24, h25, h29, h33, hcut]
    try exact rfl
  refine RChain.step (MovedV w2 (rowM l i m)) (movedV_stable _ _) rfl (fun a_ w hE ⟨(h23 : a_.tmps.getD 23 undef = .int .i64 (wrap64 (1 - D))), (h34 : a_.tmps.getD 34 undef = .slice (some (ad.add (i * 4))) m m), _⟩ => ?_) ?_
  · refine Steps1.call 37 #[.int .i64 (wrap64 (1 - D)), .slice (some (ad.add (i * 4))) m m] ?_ ((HMV.out w hE).mono fun e w' ⟨v, he, hv, hx⟩ => ⟨v, he, hx, hv⟩)
    conv => lhs; simp [go_sem, h23, h34]
    try exact rfl
  refine RChain.step (MovedV w2 (rowM l i m)) (movedV_stable _ _) rfl (fun a_ w hE ⟨h35, _⟩ => ?_) ?_
  · refine Steps1.value (a_.tmps.getD 35 undef) w ?_ (Ext.refl _) h35
    conv => lhs; simp [go_sem]
    rw [Array.getD_eq_getD_getElem?]
  refine RChain.quiet (.int .i64 0) rfl (fun a_ w hE _ => ?_) ?_
  · conv => lhs; simp [go_sem]
    try exact rfl
  refine RChain.nil (fun w1 hE1 => ?_)
  refine endAll_cons (fun v0 (hv : v0 = .slice (some ad) l.length c) => ?_)
  subst hv
  refine endAll_cons (fun v1 (hv : v1 = .int .i64 (i : Int)) => ?_)
  subst hv
  refine endAll_cons (fun v2 (hv : v2 = .pointer (some (ad.add (i * 4)))) => ?_)
  subst hv
  refine endAll_cons (fun v3 (hv : v3 = .pointer (some ⟨(ad.add (i * 4)).block, (ad.add (i * 4)).off + 1, none⟩)) => ?_)
  subst hv
  refine endAll_cons (fun v4 (hv : v4 = .int .i64 D) => ?_)
  subst hv
  refine endAll_cons (fun v5 (hv : v5 = .int .i64 (wrap64 (1 - D))) => ?_)
  subst hv
  refine endAll_cons (fun v6 (hv : v6 = .slice (some ad) l.length c) => ?_)
  subst hv
  refine endAll_cons (fun v7 (hv : v7 = .int .i64 (i : Int)) => ?_)
  subst hv
  refine endAll_cons (fun v8 (hv : v8 = .pointer (some ⟨u.heap.size, 0, none⟩)) => ?_)
  subst hv
  refine endAll_cons (fun v9 (hv : v9 = .agg #[.slice (some ad) l.length c]) => ?_)
  subst hv
  refine endAll_cons (fun v10 (hv : v10 = .int .i64 (i : Int)) => ?_)
  subst hv
  refine endAll_cons (fun v11 (hv : v11 = .int .i64 (endF l i)) => ?_)
  subst hv
  refine endAll_cons (fun v12 (hv : v12 = .pointer (some ⟨u.heap.size, 0, none⟩)) => ?_)
  subst hv
  refine endAll_cons (fun v13 (hv : v13 = .agg #[.slice (some ad) l.length c]) => ?_)
  subst hv
  refine endAll_cons (fun v14 (hv : v14 = .int .i64 (i : Int)) => ?_)
  subst hv
  refine endAll_cons (fun v15 (hv : v15 = .int .i64 (endF l i)) => ?_)
  subst hv
  refine endAll_cons (fun v16 (hv : v16 = .slice (some (ad.add (i * 4))) m m) => ?_)
  subst hv
  refine endAll_cons (fun v17 hv => ?_)
  obtain ⟨g17, rfl, hg17, hr17⟩ := hv
  refine endAll_cons (fun v18 hv => ?_)
  obtain ⟨g18, rfl, hg18, hr18⟩ := hv
  refine endAll_cons (fun v19 (hv : v19 = .int .i64 0) => ?_)
  subst hv
  refine endAll_at { tmps := List.toArray (.slice (some ad) l.length c :: .int .i64 (i : Int) :: undef :: undef :: .slice (some ⟨g18, 0, none⟩) (rowM l i m).length (rowM l i m).length :: .int .i64 0 :: .pointer (some ⟨u.heap.size, 0, none⟩) :: .nilIface :: .slice (some ad) l.length c :: .agg #[.slice (some ad) l.length c] :: .agg #[.slice (some ad) l.length c] :: .agg #[.slice (some ad) l.length c] :: .int .i64 (i : Int) :: .nilIface :: .nilIface :: .bool false :: undef :: undef :: .slice (some ad) l.length c :: .int .i64 (i : Int) :: .pointer (some (ad.add (i * 4))) :: .pointer (some ⟨(ad.add (i * 4)).block, (ad.add (i * 4)).off + 1, none⟩) :: .int .i64 D :: .int .i64 (wrap64 (1 - D)) :: .slice (some ad) l.length c :: .int .i64 (i : Int) :: .pointer (some ⟨u.heap.size, 0, none⟩) :: .agg #[.slice (some ad) l.length c] :: .int .i64 (i : Int) :: .int .i64 (endF l i) :: .pointer (some ⟨u.heap.size, 0, none⟩) :: .agg #[.slice (some ad) l.length c] :: .int .i64 (i : Int) :: .int .i64 (endF l i) :: .slice (some (ad.add (i * 4))) m m :: .slice (some ⟨g17, 0, none⟩) (rowM l i m).length (rowM l i m).length :: []), defers := [] } (by kernel_rfl) ?_
  go_wp2
  go_ret2
  exact ⟨⟨_, rfl, .inl ⟨g18, rfl, Nat.le_trans (hw0.trans hq).size hg18, hr18⟩⟩, (hw0.trans hq).trans hE1⟩
end Go.Proofs.YthknhhpcogakfaaDoor.Hand
