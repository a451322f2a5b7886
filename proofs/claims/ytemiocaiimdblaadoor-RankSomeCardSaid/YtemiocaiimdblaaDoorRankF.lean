/- rank: the maker's next key. -/
import Derived.Test.YtemiocaiimdblaaDoorRankD
import Derived.Test.YtemiocaiimdblaaDoorRankE
import Derived.Test.YtemiocaiimdblaaDoorKReg
set_option linter.unusedVariables false
set_option linter.unusedSimpArgs false
namespace Go.Proofs.YtemiocaiimdblaaDoor.Hand
open Go Go.RowKit Go.Shelf Go.Proofs.YtemiocaiimdblaaDoor.K
set_option maxRecDepth 100000
set_option maxHeartbeats 4000000
def T20_1 : List (List (Tmp × Option Nat)) := [[(0, none)], [(7, some 0)], [(8, some 1)], [(9, some 2)], [(10, some 3)], [(0, none)], [(12, some 5)], [(13, some 6)], [(14, some 7)], [(15, some 8)], [(11, some 4), (16, some 9)], [(17, some 10)], [(18, some 11)], [(19, some 12)], [(20, some 13), (0, none)], [(20, some 13), (21, some 14)], [(20, some 13), (22, some 15)], [(20, some 13), (23, some 16)], [(20, some 13), (24, some 17)], [(20, some 13), (25, some 18)], [(20, some 13), (26, some 19)], [(27, some 20), (0, none)], [(27, some 20), (28, some 21)], [(27, some 20), (29, some 22)], [(27, some 20), (30, some 23)], [(27, some 20), (31, some 24)], [(27, some 20), (32, some 25)], [(20, some 13), (27, some 20), (33, some 26)], [(20, some 13), (34, some 27)], [(35, some 28), (0, none)], [(35, some 28), (36, some 29)], [(35, some 28), (37, some 30)], [(35, some 28), (38, some 31)], [(35, some 28), (39, some 32)], [(35, some 28), (0, none)], [(35, some 28), (41, some 34)], [(35, some 28), (42, some 35)], [(35, some 28), (43, some 36)], [(35, some 28), (44, some 37)], [(35, some 28), (40, some 33), (45, some 38)], [(35, some 28), (46, some 39)], [(20, some 13), (35, some 28), (47, some 40)], [(20, some 13), (48, some 41)]]
def T20_2 : List (List (Tmp × Option Nat)) := [[], [], [(50, some 0)]]
def T20_11 : List (List (Tmp × Option Nat)) := [[], [], [(78, some 0)]]
theorem next_bad (bm : Nat) (a b : ByteArray) (g : Addr) (w : World) (hg : Gv g w) (c0 : w.cell? ⟨bm, 0, none⟩ = some (.string a)) (c1 : w.cell? ⟨bm, 1, none⟩ = some (.string b)) (HOK : (okB a && okB b) = false) :
    Calls Tryd.prog 20 #[.pointer (some ⟨bm, 0, none⟩)] w fun e w' => e = .returned (.tuple #[.string { data := #[] }, .iface 79 (.pointer (some g))]) ∧ Ext w w' := by
  go_enter Tryd.func20, Tryd.ntmps20
  go_upto_region 1 with (fail)
  refine region_r T20_1 ?_ ?_ ?_ ?_ ?_
  · kernel_rfl
  · kernel_rfl
  · kernel_rfl
  · kernel_rfl
  refine RChain.quiet (.pointer (some ⟨bm, 0, none⟩)) rfl (fun a_ w hE ⟨(h0 : a_.tmps.getD 0 undef = .pointer (some ⟨bm, 0, none⟩)), _⟩ => ?_) ?_
  · conv => lhs; simp [go_sem, h0]
    try exact rfl
  refine RChain.quiet (.pointer (some ⟨bm, 0, none⟩)) rfl (fun a_ w hE ⟨(h7 : a_.tmps.getD 7 undef = .pointer (some ⟨bm, 0, none⟩)), _⟩ => ?_) ?_
  · conv => lhs; simp [go_sem, h7]
    try exact rfl
  refine RChain.quiet (.pointer (some ⟨bm, 0, none⟩)) rfl (fun a_ w hE ⟨(h8 : a_.tmps.getD 8 undef = .pointer (some ⟨bm, 0, none⟩)), _⟩ => ?_) ?_
  · conv => lhs; simp [go_sem, h8]
    try exact rfl
  refine RChain.quiet (.pointer (some ⟨bm, 0, none⟩)) rfl (fun a_ w hE ⟨(h9 : a_.tmps.getD 9 undef = .pointer (some ⟨bm, 0, none⟩)), _⟩ => ?_) ?_
  · conv => lhs; simp [go_sem, h9]
    try exact rfl
  refine RChain.quiet (.string a) rfl (fun a_ w hE ⟨(h10 : a_.tmps.getD 10 undef = .pointer (some ⟨bm, 0, none⟩)), _⟩ => ?_) ?_
  · conv => lhs; simp [go_sem, h10, hE.cell c0]
    try exact rfl
  refine RChain.quiet (.pointer (some ⟨bm, 0, none⟩)) rfl (fun a_ w hE ⟨(h0 : a_.tmps.getD 0 undef = .pointer (some ⟨bm, 0, none⟩)), _⟩ => ?_) ?_
  · conv => lhs; simp [go_sem, h0]
    try exact rfl
  refine RChain.quiet (.pointer (some ⟨bm, 0, none⟩)) rfl (fun a_ w hE ⟨(h12 : a_.tmps.getD 12 undef = .pointer (some ⟨bm, 0, none⟩)), _⟩ => ?_) ?_
  · conv => lhs; simp [go_sem, h12]
    try exact rfl
  refine RChain.quiet (.pointer (some ⟨bm, 0, none⟩)) rfl (fun a_ w hE ⟨(h13 : a_.tmps.getD 13 undef = .pointer (some ⟨bm, 0, none⟩)), _⟩ => ?_) ?_
  · conv => lhs; simp [go_sem, h13]
    try exact rfl
  refine RChain.quiet (.pointer (some ⟨bm, 1, none⟩)) rfl (fun a_ w hE ⟨(h14 : a_.tmps.getD 14 undef = .pointer (some ⟨bm, 0, none⟩)), _⟩ => ?_) ?_
  · conv => lhs; simp [go_sem, h14]
    try exact rfl
  refine RChain.quiet (.string b) rfl (fun a_ w hE ⟨(h15 : a_.tmps.getD 15 undef = .pointer (some ⟨bm, 1, none⟩)), _⟩ => ?_) ?_
  · conv => lhs; simp [go_sem, h15, hE.cell c1]
    try exact rfl
  refine RChain.step (fun v w => ∃ k, v = .slice (some ⟨k, 0, none⟩) 2 2 ∧ w.cell? ⟨k, 0, none⟩ = some (.string a) ∧ w.cell? ⟨k, 1, none⟩ = some (.string b)) (fun v w w' ⟨k, e, x, y⟩ hx => ⟨k, e, hx.cell x, hx.cell y⟩) rfl (fun a_ w hE ⟨(h11 : a_.tmps.getD 11 undef = .string a), (h16 : a_.tmps.getD 16 undef = .string b), _⟩ => ?_) ?_
  · refine Steps1.value (.slice (some ⟨w.heap.size, 0, none⟩) 2 2) (w.alloc (.cells #[.string a, .string b] 9)) ?_ ((Ext.refl _).alloc _) ⟨_, rfl, by simp, by simp⟩
    have h11' := h11; have h16' := h16; rw [Array.getD_eq_getD_getElem?] at h11' h16'
    conv => lhs; simp [go_sem, h11, h16, h11', h16']
    try exact rfl
  refine RChain.step (is (.bool false)) (stable_is _) rfl (fun a_ w hE ⟨⟨k, (hk : a_.tmps.getD 17 undef = _), k0, k1⟩, _⟩ => ?_) ?_
  · refine Steps1.call 27 #[.slice (some ⟨k, 0, none⟩) 2 2] ?_ ((areRight_calls k 2 a b w k0 k1).mono fun e w' ⟨he, hx⟩ => ⟨_, by rw [he, HOK], hx, rfl⟩)
    conv => lhs; simp [go_sem, hk]
    try exact rfl
  refine RChain.quiet (.bool true) rfl (fun a_ w hE ⟨(h18 : a_.tmps.getD 18 undef = .bool false), _⟩ => ?_) ?_
  · conv => lhs; simp [go_sem, h18]
    try exact rfl
  refine RChain.quiet (.bool true) rfl (fun a_ w hE ⟨(h19 : a_.tmps.getD 19 undef = .bool true), _⟩ => ?_) ?_
  · conv => lhs; simp [go_sem, h19]
    try exact rfl
  refine RChain.off rfl rfl rfl (fun a w ⟨hg, _⟩ => hg) ?_
  refine RChain.off rfl rfl rfl (fun a w ⟨hg, _⟩ => hg) ?_
  refine RChain.off rfl rfl rfl (fun a w ⟨hg, _⟩ => hg) ?_
  refine RChain.off rfl rfl rfl (fun a w ⟨hg, _⟩ => hg) ?_
  refine RChain.off rfl rfl rfl (fun a w ⟨hg, _⟩ => hg) ?_
  refine RChain.off rfl rfl rfl (fun a w ⟨hg, _⟩ => hg) ?_
  refine RChain.off rfl rfl rfl (fun a w ⟨hg, _⟩ => hg) ?_
  refine RChain.dead rfl rfl rfl (fun a w ⟨hg, _⟩ => hg) ?_
  refine RChain.dead rfl rfl rfl (fun a w ⟨hg, _⟩ => hg) ?_
  refine RChain.dead rfl rfl rfl (fun a w ⟨hg, _⟩ => hg) ?_
  refine RChain.dead rfl rfl rfl (fun a w ⟨hg, _⟩ => hg) ?_
  refine RChain.dead rfl rfl rfl (fun a w ⟨hg, _⟩ => hg) ?_
  refine RChain.dead rfl rfl rfl (fun a w ⟨hg, _⟩ => hg) ?_
  refine RChain.off rfl rfl rfl (fun a w ⟨hg, _⟩ => hg) ?_
  refine RChain.off rfl rfl rfl (fun a w ⟨hg, _⟩ => hg) ?_
  refine RChain.dead rfl rfl rfl (fun a w ⟨hg, _⟩ => hg) ?_
  refine RChain.dead rfl rfl rfl (fun a w ⟨hg, _⟩ => hg) ?_
  refine RChain.dead rfl rfl rfl (fun a w ⟨hg, _⟩ => hg) ?_
  refine RChain.dead rfl rfl rfl (fun a w ⟨hg, _⟩ => hg) ?_
  refine RChain.dead rfl rfl rfl (fun a w ⟨hg, _⟩ => hg) ?_
  refine RChain.dead rfl rfl rfl (fun a w ⟨hg, _⟩ => hg) ?_
  refine RChain.dead rfl rfl rfl (fun a w ⟨hg, _⟩ => hg) ?_
  refine RChain.dead rfl rfl rfl (fun a w ⟨hg, _⟩ => hg) ?_
  refine RChain.dead rfl rfl rfl (fun a w ⟨hg, _⟩ => hg) ?_
  refine RChain.dead rfl rfl rfl (fun a w ⟨hg, _⟩ => hg) ?_
  refine RChain.dead rfl rfl rfl (fun a w ⟨hg, _⟩ => hg) ?_
  refine RChain.dead rfl rfl rfl (fun a w ⟨hg, _⟩ => hg) ?_
  refine RChain.off rfl rfl rfl (fun a w ⟨hg, _⟩ => hg) ?_
  refine RChain.quiet (.bool true) rfl (fun a_ w hE ⟨(h20 : a_.tmps.getD 20 undef = .bool true), (h48 : a_.tmps.getD 48 undef = undef), _⟩ => ?_) ?_
  · conv => lhs; simp [go_sem, h20, h48]
    try exact rfl
  refine RChain.nil (fun w1 hE1 => ?_)
  refine endAll_cons (fun v0 (hv : v0 = .pointer (some ⟨bm, 0, none⟩)) => ?_)
  subst hv
  refine endAll_cons (fun v1 (hv : v1 = .pointer (some ⟨bm, 0, none⟩)) => ?_)
  subst hv
  refine endAll_cons (fun v2 (hv : v2 = .pointer (some ⟨bm, 0, none⟩)) => ?_)
  subst hv
  refine endAll_cons (fun v3 (hv : v3 = .pointer (some ⟨bm, 0, none⟩)) => ?_)
  subst hv
  refine endAll_cons (fun v4 (hv : v4 = .string a) => ?_)
  subst hv
  refine endAll_cons (fun v5 (hv : v5 = .pointer (some ⟨bm, 0, none⟩)) => ?_)
  subst hv
  refine endAll_cons (fun v6 (hv : v6 = .pointer (some ⟨bm, 0, none⟩)) => ?_)
  subst hv
  refine endAll_cons (fun v7 (hv : v7 = .pointer (some ⟨bm, 0, none⟩)) => ?_)
  subst hv
  refine endAll_cons (fun v8 (hv : v8 = .pointer (some ⟨bm, 1, none⟩)) => ?_)
  subst hv
  refine endAll_cons (fun v9 (hv : v9 = .string b) => ?_)
  subst hv
  refine endAll_cons (fun v10 hv => ?_)
  obtain ⟨k, rfl, _, _⟩ := hv
  refine endAll_cons (fun v11 (hv : v11 = .bool false) => ?_)
  subst hv
  refine endAll_cons (fun v12 (hv : v12 = .bool true) => ?_)
  subst hv
  refine endAll_cons (fun v13 (hv : v13 = .bool true) => ?_)
  subst hv
  refine endAll_cons (fun v14 (hv : v14 = undef) => ?_)
  subst hv
  refine endAll_cons (fun v15 (hv : v15 = undef) => ?_)
  subst hv
  refine endAll_cons (fun v16 (hv : v16 = undef) => ?_)
  subst hv
  refine endAll_cons (fun v17 (hv : v17 = undef) => ?_)
  subst hv
  refine endAll_cons (fun v18 (hv : v18 = undef) => ?_)
  subst hv
  refine endAll_cons (fun v19 (hv : v19 = undef) => ?_)
  subst hv
  refine endAll_cons (fun v20 (hv : v20 = undef) => ?_)
  subst hv
  refine endAll_cons (fun v21 (hv : v21 = undef) => ?_)
  subst hv
  refine endAll_cons (fun v22 (hv : v22 = undef) => ?_)
  subst hv
  refine endAll_cons (fun v23 (hv : v23 = undef) => ?_)
  subst hv
  refine endAll_cons (fun v24 (hv : v24 = undef) => ?_)
  subst hv
  refine endAll_cons (fun v25 (hv : v25 = undef) => ?_)
  subst hv
  refine endAll_cons (fun v26 (hv : v26 = undef) => ?_)
  subst hv
  refine endAll_cons (fun v27 (hv : v27 = undef) => ?_)
  subst hv
  refine endAll_cons (fun v28 (hv : v28 = undef) => ?_)
  subst hv
  refine endAll_cons (fun v29 (hv : v29 = undef) => ?_)
  subst hv
  refine endAll_cons (fun v30 (hv : v30 = undef) => ?_)
  subst hv
  refine endAll_cons (fun v31 (hv : v31 = undef) => ?_)
  subst hv
  refine endAll_cons (fun v32 (hv : v32 = undef) => ?_)
  subst hv
  refine endAll_cons (fun v33 (hv : v33 = undef) => ?_)
  subst hv
  refine endAll_cons (fun v34 (hv : v34 = undef) => ?_)
  subst hv
  refine endAll_cons (fun v35 (hv : v35 = undef) => ?_)
  subst hv
  refine endAll_cons (fun v36 (hv : v36 = undef) => ?_)
  subst hv
  refine endAll_cons (fun v37 (hv : v37 = undef) => ?_)
  subst hv
  refine endAll_cons (fun v38 (hv : v38 = undef) => ?_)
  subst hv
  refine endAll_cons (fun v39 (hv : v39 = undef) => ?_)
  subst hv
  refine endAll_cons (fun v40 (hv : v40 = undef) => ?_)
  subst hv
  refine endAll_cons (fun v41 (hv : v41 = undef) => ?_)
  subst hv
  refine endAll_cons (fun v42 (hv : v42 = .bool true) => ?_)
  subst hv
  refine endAll_at { tmps := List.toArray (.pointer (some ⟨bm, 0, none⟩) :: undef :: .string { data := #[] } :: .nilIface :: undef :: undef :: undef :: .pointer (some ⟨bm, 0, none⟩) :: .pointer (some ⟨bm, 0, none⟩) :: .pointer (some ⟨bm, 0, none⟩) :: .pointer (some ⟨bm, 0, none⟩) :: .string a :: .pointer (some ⟨bm, 0, none⟩) :: .pointer (some ⟨bm, 0, none⟩) :: .pointer (some ⟨bm, 0, none⟩) :: .pointer (some ⟨bm, 1, none⟩) :: .string b :: .slice (some ⟨k, 0, none⟩) 2 2 :: .bool false :: .bool true :: .bool true :: undef :: undef :: undef :: undef :: undef :: undef :: undef :: undef :: undef :: undef :: undef :: undef :: undef :: undef :: undef :: undef :: undef :: undef :: undef :: undef :: undef :: undef :: undef :: undef :: undef :: undef :: undef :: undef :: .bool true :: undef :: undef :: undef :: undef :: undef :: undef :: undef :: undef :: undef :: undef :: undef :: undef :: undef :: undef :: undef :: undef :: undef :: undef :: undef :: undef :: undef :: undef :: undef :: undef :: undef :: undef :: undef :: undef :: undef :: []), defers := [] } (by kernel_rfl) ?_
  have hG : w1.cell? ⟨0, 0, none⟩ = some (.iface 79 (.pointer (some g))) := hE1.cell hg
  go_upto_region 2 with (fail)
  refine region_r T20_2 ?_ ?_ ?_ ?_ ?_
  · kernel_rfl
  · kernel_rfl
  · kernel_rfl
  · kernel_rfl
  refine RChain.quiet (.iface 79 (.pointer (some g))) rfl (fun a_ w hE _ => ?_) ?_
  · conv => lhs; simp [go_sem, hE.cell hG]
    try exact rfl
  refine RChain.quiet (.string { data := #[] }) rfl (fun a_ w hE _ => ?_) ?_
  · conv => lhs; simp [go_sem]
    try exact rfl
  refine RChain.quiet (.iface 79 (.pointer (some g))) rfl (fun a_ w hE ⟨(h50 : a_.tmps.getD 50 undef = .iface 79 (.pointer (some g))), _⟩ => ?_) ?_
  · conv => lhs; simp [go_sem, h50]
    try exact rfl
  refine RChain.nil (fun w2 hE2 => ?_)
  refine endAll_cons (fun v0 (hv : v0 = .iface 79 (.pointer (some g))) => ?_)
  subst hv
  refine endAll_cons (fun v1 (hv : v1 = .string { data := #[] }) => ?_)
  subst hv
  refine endAll_cons (fun v2 (hv : v2 = .iface 79 (.pointer (some g))) => ?_)
  subst hv
  refine endAll_at { tmps := List.toArray (.pointer (some ⟨bm, 0, none⟩) :: undef :: .string { data := #[] } :: .iface 79 (.pointer (some g)) :: undef :: undef :: undef :: .pointer (some ⟨bm, 0, none⟩) :: .pointer (some ⟨bm, 0, none⟩) :: .pointer (some ⟨bm, 0, none⟩) :: .pointer (some ⟨bm, 0, none⟩) :: .string a :: .pointer (some ⟨bm, 0, none⟩) :: .pointer (some ⟨bm, 0, none⟩) :: .pointer (some ⟨bm, 0, none⟩) :: .pointer (some ⟨bm, 1, none⟩) :: .string b :: .slice (some ⟨k, 0, none⟩) 2 2 :: .bool false :: .bool true :: .bool true :: undef :: undef :: undef :: undef :: undef :: undef :: undef :: undef :: undef :: undef :: undef :: undef :: undef :: undef :: undef :: undef :: undef :: undef :: undef :: undef :: undef :: undef :: undef :: undef :: undef :: undef :: undef :: undef :: .bool true :: .iface 79 (.pointer (some g)) :: undef :: undef :: undef :: undef :: undef :: undef :: undef :: undef :: undef :: undef :: undef :: undef :: undef :: undef :: undef :: undef :: undef :: undef :: undef :: undef :: undef :: undef :: undef :: undef :: undef :: undef :: undef :: undef :: []), defers := [] } (by kernel_rfl) ?_
  go_wp2
  go_ret2
  exact ⟨rfl, hE1.trans hE2⟩
end Go.Proofs.YtemiocaiimdblaaDoor.Hand
