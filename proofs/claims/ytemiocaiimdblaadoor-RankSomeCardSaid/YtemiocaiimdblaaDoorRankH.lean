/- rank: the maker's next key. -/
import Derived.Test.YtemiocaiimdblaaDoorRankD
import Derived.Test.YtemiocaiimdblaaDoorRankE
import Derived.Test.YtemiocaiimdblaaDoorRankG
set_option linter.unusedVariables false
set_option linter.unusedSimpArgs false
namespace Go.Proofs.YtemiocaiimdblaaDoor.Hand
open Go Go.RowKit Go.Shelf Go.Proofs.YtemiocaiimdblaaDoor.K
set_option maxRecDepth 100000
set_option maxHeartbeats 4000000

theorem next_less (bm : Nat) (a b : ByteArray) (g : Addr) (w : World) (hg : Gv g w) (c0 : w.cell? ⟨bm, 0, none⟩ = some (.string a)) (c1 : w.cell? ⟨bm, 1, none⟩ = some (.string b)) (HOK : (okB a && okB b) = true) (ea : a.size ≠ 0) (eb : b.size ≠ 0) (HL : lessB a b = false) :
    Calls Tryd.prog 20 #[.pointer (some ⟨bm, 0, none⟩)] w fun e w' => e = .returned (.tuple #[.string { data := #[] }, .iface 79 (.pointer (some g))]) ∧ Ext w w' := by
  have na := empty_false ea
  have nb := empty_false eb
  go_enter Tryd.func20, Tryd.ntmps20
  go_upto_region 1 with (fail)
  refine region_r T20_1 ?_ ?_ ?_ ?_ ?_
  · kernel_rfl
  · kernel_rfl
  · kernel_rfl
  · kernel_rfl
  refine RChain.quiet (.pointer (some ⟨bm, 0, none⟩)) rfl (fun a_ w hE ⟨(h0 : a_.tmps.getD 0 undef = .pointer (some ⟨bm, 0, none⟩)), _⟩ => ?_) ?_
  · conv => lhs; simp [go_sem, h0]
    try exact rfl
  refine RChain.quiet (.pointer (some ⟨bm, 0, none⟩)) rfl (fun a_ w hE ⟨(h7 : a_.tmps.getD 7 undef = .pointer (some ⟨bm, 0, none⟩)), _⟩ => ?_) ?_
  · conv => lhs; simp [go_sem, h7]
    try exact rfl
  refine RChain.quiet (.pointer (some ⟨bm, 0, none⟩)) rfl (fun a_ w hE ⟨(h8 : a_.tmps.getD 8 undef = .pointer (some ⟨bm, 0, none⟩)), _⟩ => ?_) ?_
  · conv => lhs; simp [go_sem, h8]
    try exact rfl
  refine RChain.quiet (.pointer (some ⟨bm, 0, none⟩)) rfl (fun a_ w hE ⟨(h9 : a_.tmps.getD 9 undef = .pointer (some ⟨bm, 0, none⟩)), _⟩ => ?_) ?_
  · conv => lhs; simp [go_sem, h9]
    try exact rfl
  refine RChain.quiet (.string a) rfl (fun a_ w hE ⟨(h10 : a_.tmps.getD 10 undef = .pointer (some ⟨bm, 0, none⟩)), _⟩ => ?_) ?_
  · conv => lhs; simp [go_sem, h10, hE.cell c0]
    try exact rfl
  refine RChain.quiet (.pointer (some ⟨bm, 0, none⟩)) rfl (fun a_ w hE ⟨(h0 : a_.tmps.getD 0 undef = .pointer (some ⟨bm, 0, none⟩)), _⟩ => ?_) ?_
  · conv => lhs; simp [go_sem, h0]
    try exact rfl
  refine RChain.quiet (.pointer (some ⟨bm, 0, none⟩)) rfl (fun a_ w hE ⟨(h12 : a_.tmps.getD 12 undef = .pointer (some ⟨bm, 0, none⟩)), _⟩ => ?_) ?_
  · conv => lhs; simp [go_sem, h12]
    try exact rfl
  refine RChain.quiet (.pointer (some ⟨bm, 0, none⟩)) rfl (fun a_ w hE ⟨(h13 : a_.tmps.getD 13 undef = .pointer (some ⟨bm, 0, none⟩)), _⟩ => ?_) ?_
  · conv => lhs; simp [go_sem, h13]
    try exact rfl
  refine RChain.quiet (.pointer (some ⟨bm, 1, none⟩)) rfl (fun a_ w hE ⟨(h14 : a_.tmps.getD 14 undef = .pointer (some ⟨bm, 0, none⟩)), _⟩ => ?_) ?_
  · conv => lhs; simp [go_sem, h14]
    try exact rfl
  refine RChain.quiet (.string b) rfl (fun a_ w hE ⟨(h15 : a_.tmps.getD 15 undef = .pointer (some ⟨bm, 1, none⟩)), _⟩ => ?_) ?_
  · conv => lhs; simp [go_sem, h15, hE.cell c1]
    try exact rfl
  refine RChain.step (fun v w => ∃ k, v = .slice (some ⟨k, 0, none⟩) 2 2 ∧ w.cell? ⟨k, 0, none⟩ = some (.string a) ∧ w.cell? ⟨k, 1, none⟩ = some (.string b)) (fun v w w' ⟨k, e, x, y⟩ hx => ⟨k, e, hx.cell x, hx.cell y⟩) rfl (fun a_ w hE ⟨(h11 : a_.tmps.getD 11 undef = .string a), (h16 : a_.tmps.getD 16 undef = .string b), _⟩ => ?_) ?_
  · refine Steps1.value (.slice (some ⟨w.heap.size, 0, none⟩) 2 2) (w.alloc (.cells #[.string a, .string b] 9)) ?_ ((Ext.refl _).alloc _) ⟨_, rfl, by simp, by simp⟩
    have h11' := h11; have h16' := h16; rw [Array.getD_eq_getD_getElem?] at h11' h16'
    conv => lhs; simp [go_sem, h11, h16, h11', h16']
    try exact rfl
  refine RChain.step (is (.bool true)) (stable_is _) rfl (fun a_ w hE ⟨⟨k, (hk : a_.tmps.getD 17 undef = _), k0, k1⟩, _⟩ => ?_) ?_
  · refine Steps1.call 27 #[.slice (some ⟨k, 0, none⟩) 2 2] ?_ ((areRight_calls k 2 a b w k0 k1).mono fun e w' ⟨he, hx⟩ => ⟨_, by rw [he, HOK], hx, rfl⟩)
    conv => lhs; simp [go_sem, hk]
    try exact rfl
  refine RChain.quiet (.bool false) rfl (fun a_ w hE ⟨(h18 : a_.tmps.getD 18 undef = .bool true), _⟩ => ?_) ?_
  · conv => lhs; simp [go_sem, h18]
    try exact rfl
  refine RChain.quiet (.bool false) rfl (fun a_ w hE ⟨(h19 : a_.tmps.getD 19 undef = .bool false), _⟩ => ?_) ?_
  · conv => lhs; simp [go_sem, h19]
    try exact rfl
  refine RChain.on (.pointer (some ⟨bm, 0, none⟩)) rfl rfl rfl (fun a w ⟨hg, _⟩ => hg) (fun a_ w hE ⟨(h20 : a_.tmps.getD 20 undef = .bool false), (h0 : a_.tmps.getD 0 undef = .pointer (some ⟨bm, 0, none⟩)), _⟩ => ?_) ?_
  · conv => lhs; simp [go_sem, h20, h0]
    try exact rfl
  refine RChain.on (.pointer (some ⟨bm, 0, none⟩)) rfl rfl rfl (fun a w ⟨hg, _⟩ => hg) (fun a_ w hE ⟨(h20 : a_.tmps.getD 20 undef = .bool false), (h21 : a_.tmps.getD 21 undef = .pointer (some ⟨bm, 0, none⟩)), _⟩ => ?_) ?_
  · conv => lhs; simp [go_sem, h20, h21]
    try exact rfl
  refine RChain.on (.pointer (some ⟨bm, 0, none⟩)) rfl rfl rfl (fun a w ⟨hg, _⟩ => hg) (fun a_ w hE ⟨(h20 : a_.tmps.getD 20 undef = .bool false), (h22 : a_.tmps.getD 22 undef = .pointer (some ⟨bm, 0, none⟩)), _⟩ => ?_) ?_
  · conv => lhs; simp [go_sem, h20, h22]
    try exact rfl
  refine RChain.on (.pointer (some ⟨bm, 0, none⟩)) rfl rfl rfl (fun a w ⟨hg, _⟩ => hg) (fun a_ w hE ⟨(h20 : a_.tmps.getD 20 undef = .bool false), (h23 : a_.tmps.getD 23 undef = .pointer (some ⟨bm, 0, none⟩)), _⟩ => ?_) ?_
  · conv => lhs; simp [go_sem, h20, h23]
    try exact rfl
  refine RChain.on (.string a) rfl rfl rfl (fun a w ⟨hg, _⟩ => hg) (fun a_ w hE ⟨(h20 : a_.tmps.getD 20 undef = .bool false), (h24 : a_.tmps.getD 24 undef = .pointer (some ⟨bm, 0, none⟩)), _⟩ => ?_) ?_
  · conv => lhs; simp [go_sem, h20, h24, hE.cell c0]
    try exact rfl
  refine RChain.on (.bool true) rfl rfl rfl (fun a w ⟨hg, _⟩ => hg) (fun a_ w hE ⟨(h20 : a_.tmps.getD 20 undef = .bool false), (h25 : a_.tmps.getD 25 undef = .string a), _⟩ => ?_) ?_
  · conv => lhs; simp [go_sem, h20, h25, na]
    try exact rfl
  refine RChain.on (.bool true) rfl rfl rfl (fun a w ⟨hg, _⟩ => hg) (fun a_ w hE ⟨(h20 : a_.tmps.getD 20 undef = .bool false), (h26 : a_.tmps.getD 26 undef = .bool true), _⟩ => ?_) ?_
  · conv => lhs; simp [go_sem, h20, h26]
    try exact rfl
  refine RChain.on (.pointer (some ⟨bm, 0, none⟩)) rfl rfl rfl (fun a w ⟨hg, _⟩ => hg) (fun a_ w hE ⟨(h27 : a_.tmps.getD 27 undef = .bool true), (h0 : a_.tmps.getD 0 undef = .pointer (some ⟨bm, 0, none⟩)), _⟩ => ?_) ?_
  · conv => lhs; simp [go_sem, h27, h0]
    try exact rfl
  refine RChain.on (.pointer (some ⟨bm, 0, none⟩)) rfl rfl rfl (fun a w ⟨hg, _⟩ => hg) (fun a_ w hE ⟨(h27 : a_.tmps.getD 27 undef = .bool true), (h28 : a_.tmps.getD 28 undef = .pointer (some ⟨bm, 0, none⟩)), _⟩ => ?_) ?_
  · conv => lhs; simp [go_sem, h27, h28]
    try exact rfl
  refine RChain.on (.pointer (some ⟨bm, 0, none⟩)) rfl rfl rfl (fun a w ⟨hg, _⟩ => hg) (fun a_ w hE ⟨(h27 : a_.tmps.getD 27 undef = .bool true), (h29 : a_.tmps.getD 29 undef = .pointer (some ⟨bm, 0, none⟩)), _⟩ => ?_) ?_
  · conv => lhs; simp [go_sem, h27, h29]
    try exact rfl
  refine RChain.on (.pointer (some ⟨bm, 1, none⟩)) rfl rfl rfl (fun a w ⟨hg, _⟩ => hg) (fun a_ w hE ⟨(h27 : a_.tmps.getD 27 undef = .bool true), (h30 : a_.tmps.getD 30 undef = .pointer (some ⟨bm, 0, none⟩)), _⟩ => ?_) ?_
  · conv => lhs; simp [go_sem, h27, h30]
    try exact rfl
  refine RChain.on (.string b) rfl rfl rfl (fun a w ⟨hg, _⟩ => hg) (fun a_ w hE ⟨(h27 : a_.tmps.getD 27 undef = .bool true), (h31 : a_.tmps.getD 31 undef = .pointer (some ⟨bm, 1, none⟩)), _⟩ => ?_) ?_
  · conv => lhs; simp [go_sem, h27, h31, hE.cell c1]
    try exact rfl
  refine RChain.on (.bool true) rfl rfl rfl (fun a w ⟨hg, _⟩ => hg) (fun a_ w hE ⟨(h27 : a_.tmps.getD 27 undef = .bool true), (h32 : a_.tmps.getD 32 undef = .string b), _⟩ => ?_) ?_
  · conv => lhs; simp [go_sem, h27, h32, nb]
    try exact rfl
  refine RChain.on (.bool true) rfl rfl rfl (fun a w ⟨hg, _⟩ => hg) (fun a_ w hE ⟨(h20 : a_.tmps.getD 20 undef = .bool false), (h27 : a_.tmps.getD 27 undef = .bool true), (h33 : a_.tmps.getD 33 undef = .bool true), _⟩ => ?_) ?_
  · conv => lhs; simp [go_sem, h20, h27, h33]
    try exact rfl
  refine RChain.on (.bool true) rfl rfl rfl (fun a w ⟨hg, _⟩ => hg) (fun a_ w hE ⟨(h20 : a_.tmps.getD 20 undef = .bool false), (h34 : a_.tmps.getD 34 undef = .bool true), _⟩ => ?_) ?_
  · conv => lhs; simp [go_sem, h20, h34]
    try exact rfl
  refine RChain.on (.pointer (some ⟨bm, 0, none⟩)) rfl rfl rfl (fun a w ⟨hg, _⟩ => hg) (fun a_ w hE ⟨(h35 : a_.tmps.getD 35 undef = .bool true), (h0 : a_.tmps.getD 0 undef = .pointer (some ⟨bm, 0, none⟩)), _⟩ => ?_) ?_
  · conv => lhs; simp [go_sem, h35, h0]
    try exact rfl
  refine RChain.on (.pointer (some ⟨bm, 0, none⟩)) rfl rfl rfl (fun a w ⟨hg, _⟩ => hg) (fun a_ w hE ⟨(h35 : a_.tmps.getD 35 undef = .bool true), (h36 : a_.tmps.getD 36 undef = .pointer (some ⟨bm, 0, none⟩)), _⟩ => ?_) ?_
  · conv => lhs; simp [go_sem, h35, h36]
    try exact rfl
  refine RChain.on (.pointer (some ⟨bm, 0, none⟩)) rfl rfl rfl (fun a w ⟨hg, _⟩ => hg) (fun a_ w hE ⟨(h35 : a_.tmps.getD 35 undef = .bool true), (h37 : a_.tmps.getD 37 undef = .pointer (some ⟨bm, 0, none⟩)), _⟩ => ?_) ?_
  · conv => lhs; simp [go_sem, h35, h37]
    try exact rfl
  refine RChain.on (.pointer (some ⟨bm, 0, none⟩)) rfl rfl rfl (fun a w ⟨hg, _⟩ => hg) (fun a_ w hE ⟨(h35 : a_.tmps.getD 35 undef = .bool true), (h38 : a_.tmps.getD 38 undef = .pointer (some ⟨bm, 0, none⟩)), _⟩ => ?_) ?_
  · conv => lhs; simp [go_sem, h35, h38]
    try exact rfl
  refine RChain.on (.string a) rfl rfl rfl (fun a w ⟨hg, _⟩ => hg) (fun a_ w hE ⟨(h35 : a_.tmps.getD 35 undef = .bool true), (h39 : a_.tmps.getD 39 undef = .pointer (some ⟨bm, 0, none⟩)), _⟩ => ?_) ?_
  · conv => lhs; simp [go_sem, h35, h39, hE.cell c0]
    try exact rfl
  refine RChain.on (.pointer (some ⟨bm, 0, none⟩)) rfl rfl rfl (fun a w ⟨hg, _⟩ => hg) (fun a_ w hE ⟨(h35 : a_.tmps.getD 35 undef = .bool true), (h0 : a_.tmps.getD 0 undef = .pointer (some ⟨bm, 0, none⟩)), _⟩ => ?_) ?_
  · conv => lhs; simp [go_sem, h35, h0]
    try exact rfl
  refine RChain.on (.pointer (some ⟨bm, 0, none⟩)) rfl rfl rfl (fun a w ⟨hg, _⟩ => hg) (fun a_ w hE ⟨(h35 : a_.tmps.getD 35 undef = .bool true), (h41 : a_.tmps.getD 41 undef = .pointer (some ⟨bm, 0, none⟩)), _⟩ => ?_) ?_
  · conv => lhs; simp [go_sem, h35, h41]
    try exact rfl
  refine RChain.on (.pointer (some ⟨bm, 0, none⟩)) rfl rfl rfl (fun a w ⟨hg, _⟩ => hg) (fun a_ w hE ⟨(h35 : a_.tmps.getD 35 undef = .bool true), (h42 : a_.tmps.getD 42 undef = .pointer (some ⟨bm, 0, none⟩)), _⟩ => ?_) ?_
  · conv => lhs; simp [go_sem, h35, h42]
    try exact rfl
  refine RChain.on (.pointer (some ⟨bm, 1, none⟩)) rfl rfl rfl (fun a w ⟨hg, _⟩ => hg) (fun a_ w hE ⟨(h35 : a_.tmps.getD 35 undef = .bool true), (h43 : a_.tmps.getD 43 undef = .pointer (some ⟨bm, 0, none⟩)), _⟩ => ?_) ?_
  · conv => lhs; simp [go_sem, h35, h43]
    try exact rfl
  refine RChain.on (.string b) rfl rfl rfl (fun a w ⟨hg, _⟩ => hg) (fun a_ w hE ⟨(h35 : a_.tmps.getD 35 undef = .bool true), (h44 : a_.tmps.getD 44 undef = .pointer (some ⟨bm, 1, none⟩)), _⟩ => ?_) ?_
  · conv => lhs; simp [go_sem, h35, h44, hE.cell c1]
    try exact rfl
  refine RChain.stepG true (is (.bool false)) (stable_is _) rfl rfl rfl (fun a w ⟨hg, _⟩ => hg) (fun a_ w hE ⟨(h35 : a_.tmps.getD 35 undef = .bool true), (h40 : a_.tmps.getD 40 undef = .string a), (h45 : a_.tmps.getD 45 undef = .string b), _⟩ => ⟨fun _ => ?_, fun e => (e rfl).elim⟩) ?_
  · refine Steps1.call 15 #[.string a, .string b] ?_ ((less_calls a b w).mono fun e w' ⟨he, hx⟩ => ⟨_, by rw [he, HL], hx ▸ Ext.refl _, rfl⟩)
    conv => lhs; simp [go_sem, h35, h40, h45]
    try exact rfl
  refine RChain.on (.bool true) rfl rfl rfl (fun a w ⟨hg, _⟩ => hg) (fun a_ w hE ⟨(h35 : a_.tmps.getD 35 undef = .bool true), (h46 : a_.tmps.getD 46 undef = .bool false), _⟩ => ?_) ?_
  · conv => lhs; simp [go_sem, h35, h46]
    try exact rfl
  refine RChain.on (.bool true) rfl rfl rfl (fun a w ⟨hg, _⟩ => hg) (fun a_ w hE ⟨(h20 : a_.tmps.getD 20 undef = .bool false), (h35 : a_.tmps.getD 35 undef = .bool true), (h47 : a_.tmps.getD 47 undef = .bool true), _⟩ => ?_) ?_
  · conv => lhs; simp [go_sem, h20, h35, h47]
    try exact rfl
  refine RChain.quiet (.bool true) rfl (fun a_ w hE ⟨(h20 : a_.tmps.getD 20 undef = .bool false), (h48 : a_.tmps.getD 48 undef = .bool true), _⟩ => ?_) ?_
  · conv => lhs; simp [go_sem, h20, h48]
    try exact rfl
  refine RChain.nil (fun w1 hE1 => ?_)
  refine endAll_cons (fun v0 (hv : v0 = .pointer (some ⟨bm, 0, none⟩)) => ?_)
  subst hv
  refine endAll_cons (fun v1 (hv : v1 = .pointer (some ⟨bm, 0, none⟩)) => ?_)
  subst hv
  refine endAll_cons (fun v2 (hv : v2 = .pointer (some ⟨bm, 0, none⟩)) => ?_)
  subst hv
  refine endAll_cons (fun v3 (hv : v3 = .pointer (some ⟨bm, 0, none⟩)) => ?_)
  subst hv
  refine endAll_cons (fun v4 (hv : v4 = .string a) => ?_)
  subst hv
  refine endAll_cons (fun v5 (hv : v5 = .pointer (some ⟨bm, 0, none⟩)) => ?_)
  subst hv
  refine endAll_cons (fun v6 (hv : v6 = .pointer (some ⟨bm, 0, none⟩)) => ?_)
  subst hv
  refine endAll_cons (fun v7 (hv : v7 = .pointer (some ⟨bm, 0, none⟩)) => ?_)
  subst hv
  refine endAll_cons (fun v8 (hv : v8 = .pointer (some ⟨bm, 1, none⟩)) => ?_)
  subst hv
  refine endAll_cons (fun v9 (hv : v9 = .string b) => ?_)
  subst hv
  refine endAll_cons (fun v10 hv => ?_)
  obtain ⟨k, rfl, _, _⟩ := hv
  refine endAll_cons (fun v11 (hv : v11 = .bool true) => ?_)
  subst hv
  refine endAll_cons (fun v12 (hv : v12 = .bool false) => ?_)
  subst hv
  refine endAll_cons (fun v13 (hv : v13 = .bool false) => ?_)
  subst hv
  refine endAll_cons (fun v14 (hv : v14 = .pointer (some ⟨bm, 0, none⟩)) => ?_)
  subst hv
  refine endAll_cons (fun v15 (hv : v15 = .pointer (some ⟨bm, 0, none⟩)) => ?_)
  subst hv
  refine endAll_cons (fun v16 (hv : v16 = .pointer (some ⟨bm, 0, none⟩)) => ?_)
  subst hv
  refine endAll_cons (fun v17 (hv : v17 = .pointer (some ⟨bm, 0, none⟩)) => ?_)
  subst hv
  refine endAll_cons (fun v18 (hv : v18 = .string a) => ?_)
  subst hv
  refine endAll_cons (fun v19 (hv : v19 = .bool true) => ?_)
  subst hv
  refine endAll_cons (fun v20 (hv : v20 = .bool true) => ?_)
  subst hv
  refine endAll_cons (fun v21 (hv : v21 = .pointer (some ⟨bm, 0, none⟩)) => ?_)
  subst hv
  refine endAll_cons (fun v22 (hv : v22 = .pointer (some ⟨bm, 0, none⟩)) => ?_)
  subst hv
  refine endAll_cons (fun v23 (hv : v23 = .pointer (some ⟨bm, 0, none⟩)) => ?_)
  subst hv
  refine endAll_cons (fun v24 (hv : v24 = .pointer (some ⟨bm, 1, none⟩)) => ?_)
  subst hv
  refine endAll_cons (fun v25 (hv : v25 = .string b) => ?_)
  subst hv
  refine endAll_cons (fun v26 (hv : v26 = .bool true) => ?_)
  subst hv
  refine endAll_cons (fun v27 (hv : v27 = .bool true) => ?_)
  subst hv
  refine endAll_cons (fun v28 (hv : v28 = .bool true) => ?_)
  subst hv
  refine endAll_cons (fun v29 (hv : v29 = .pointer (some ⟨bm, 0, none⟩)) => ?_)
  subst hv
  refine endAll_cons (fun v30 (hv : v30 = .pointer (some ⟨bm, 0, none⟩)) => ?_)
  subst hv
  refine endAll_cons (fun v31 (hv : v31 = .pointer (some ⟨bm, 0, none⟩)) => ?_)
  subst hv
  refine endAll_cons (fun v32 (hv : v32 = .pointer (some ⟨bm, 0, none⟩)) => ?_)
  subst hv
  refine endAll_cons (fun v33 (hv : v33 = .string a) => ?_)
  subst hv
  refine endAll_cons (fun v34 (hv : v34 = .pointer (some ⟨bm, 0, none⟩)) => ?_)
  subst hv
  refine endAll_cons (fun v35 (hv : v35 = .pointer (some ⟨bm, 0, none⟩)) => ?_)
  subst hv
  refine endAll_cons (fun v36 (hv : v36 = .pointer (some ⟨bm, 0, none⟩)) => ?_)
  subst hv
  refine endAll_cons (fun v37 (hv : v37 = .pointer (some ⟨bm, 1, none⟩)) => ?_)
  subst hv
  refine endAll_cons (fun v38 (hv : v38 = .string b) => ?_)
  subst hv
  refine endAll_cons (fun v39 (hv : v39 = .bool false) => ?_)
  subst hv
  refine endAll_cons (fun v40 (hv : v40 = .bool true) => ?_)
  subst hv
  refine endAll_cons (fun v41 (hv : v41 = .bool true) => ?_)
  subst hv
  refine endAll_cons (fun v42 (hv : v42 = .bool true) => ?_)
  subst hv
  refine endAll_at { tmps := List.toArray (.pointer (some ⟨bm, 0, none⟩) :: undef :: .string { data := #[] } :: .nilIface :: undef :: undef :: undef :: .pointer (some ⟨bm, 0, none⟩) :: .pointer (some ⟨bm, 0, none⟩) :: .pointer (some ⟨bm, 0, none⟩) :: .pointer (some ⟨bm, 0, none⟩) :: .string a :: .pointer (some ⟨bm, 0, none⟩) :: .pointer (some ⟨bm, 0, none⟩) :: .pointer (some ⟨bm, 0, none⟩) :: .pointer (some ⟨bm, 1, none⟩) :: .string b :: .slice (some ⟨k, 0, none⟩) 2 2 :: .bool true :: .bool false :: .bool false :: .pointer (some ⟨bm, 0, none⟩) :: .pointer (some ⟨bm, 0, none⟩) :: .pointer (some ⟨bm, 0, none⟩) :: .pointer (some ⟨bm, 0, none⟩) :: .string a :: .bool true :: .bool true :: .pointer (some ⟨bm, 0, none⟩) :: .pointer (some ⟨bm, 0, none⟩) :: .pointer (some ⟨bm, 0, none⟩) :: .pointer (some ⟨bm, 1, none⟩) :: .string b :: .bool true :: .bool true :: .bool true :: .pointer (some ⟨bm, 0, none⟩) :: .pointer (some ⟨bm, 0, none⟩) :: .pointer (some ⟨bm, 0, none⟩) :: .pointer (some ⟨bm, 0, none⟩) :: .string a :: .pointer (some ⟨bm, 0, none⟩) :: .pointer (some ⟨bm, 0, none⟩) :: .pointer (some ⟨bm, 0, none⟩) :: .pointer (some ⟨bm, 1, none⟩) :: .string b :: .bool false :: .bool true :: .bool true :: .bool true :: undef :: undef :: undef :: undef :: undef :: undef :: undef :: undef :: undef :: undef :: undef :: undef :: undef :: undef :: undef :: undef :: undef :: undef :: undef :: undef :: undef :: undef :: undef :: undef :: undef :: undef :: undef :: undef :: undef :: []), defers := [] } (by kernel_rfl) ?_
  have hG : w1.cell? ⟨0, 0, none⟩ = some (.iface 79 (.pointer (some g))) := hE1.cell hg
  go_upto_region 2 with (fail)
  refine region_r T20_2 ?_ ?_ ?_ ?_ ?_
  · kernel_rfl
  · kernel_rfl
  · kernel_rfl
  · kernel_rfl
  refine RChain.quiet (.iface 79 (.pointer (some g))) rfl (fun a_ w hE _ => ?_) ?_
  · conv => lhs; simp [go_sem, hE.cell hG]
    try exact rfl
  refine RChain.quiet (.string { data := #[] }) rfl (fun a_ w hE _ => ?_) ?_
  · conv => lhs; simp [go_sem]
    try exact rfl
  refine RChain.quiet (.iface 79 (.pointer (some g))) rfl (fun a_ w hE ⟨(h50 : a_.tmps.getD 50 undef = .iface 79 (.pointer (some g))), _⟩ => ?_) ?_
  · conv => lhs; simp [go_sem, h50]
    try exact rfl
  refine RChain.nil (fun w2 hE2 => ?_)
  refine endAll_cons (fun v0 (hv : v0 = .iface 79 (.pointer (some g))) => ?_)
  subst hv
  refine endAll_cons (fun v1 (hv : v1 = .string { data := #[] }) => ?_)
  subst hv
  refine endAll_cons (fun v2 (hv : v2 = .iface 79 (.pointer (some g))) => ?_)
  subst hv
  refine endAll_at { tmps := List.toArray (.pointer (some ⟨bm, 0, none⟩) :: undef :: .string { data := #[] } :: .iface 79 (.pointer (some g)) :: undef :: undef :: undef :: .pointer (some ⟨bm, 0, none⟩) :: .pointer (some ⟨bm, 0, none⟩) :: .pointer (some ⟨bm, 0, none⟩) :: .pointer (some ⟨bm, 0, none⟩) :: .string a :: .pointer (some ⟨bm, 0, none⟩) :: .pointer (some ⟨bm, 0, none⟩) :: .pointer (some ⟨bm, 0, none⟩) :: .pointer (some ⟨bm, 1, none⟩) :: .string b :: .slice (some ⟨k, 0, none⟩) 2 2 :: .bool true :: .bool false :: .bool false :: .pointer (some ⟨bm, 0, none⟩) :: .pointer (some ⟨bm, 0, none⟩) :: .pointer (some ⟨bm, 0, none⟩) :: .pointer (some ⟨bm, 0, none⟩) :: .string a :: .bool true :: .bool true :: .pointer (some ⟨bm, 0, none⟩) :: .pointer (some ⟨bm, 0, none⟩) :: .pointer (some ⟨bm, 0, none⟩) :: .pointer (some ⟨bm, 1, none⟩) :: .string b :: .bool true :: .bool true :: .bool true :: .pointer (some ⟨bm, 0, none⟩) :: .pointer (some ⟨bm, 0, none⟩) :: .pointer (some ⟨bm, 0, none⟩) :: .pointer (some ⟨bm, 0, none⟩) :: .string a :: .pointer (some ⟨bm, 0, none⟩) :: .pointer (some ⟨bm, 0, none⟩) :: .pointer (some ⟨bm, 0, none⟩) :: .pointer (some ⟨bm, 1, none⟩) :: .string b :: .bool false :: .bool true :: .bool true :: .bool true :: .iface 79 (.pointer (some g)) :: undef :: undef :: undef :: undef :: undef :: undef :: undef :: undef :: undef :: undef :: undef :: undef :: undef :: undef :: undef :: undef :: undef :: undef :: undef :: undef :: undef :: undef :: undef :: undef :: undef :: undef :: undef :: undef :: []), defers := [] } (by kernel_rfl) ?_
  go_wp2
  go_ret2
  exact ⟨rfl, hE1.trans hE2⟩
theorem isl_of {s : ByteArray} (h : okB s = true) : Isl s := by
  intro i
  unfold lett
  split
  · rename_i hi
    have h0 : s.size ≠ 0 := by omega
    have h1 : rightB s = true := by simpa [okB, h0] using h
    simp only [rightB, Bool.and_eq_true] at h1
    have := letters_take.1 h1.1.2 i hi
    omega
  · omega
theorem size_of_ok {s : ByteArray} (h : okB s = true) : s.size ≤ 200 := by
  by_cases h0 : s.size = 0
  · omega
  · have h1 : rightB s = true := by simpa [okB, h0] using h
    simp only [rightB, Bool.and_eq_true, decide_eq_true_eq] at h1
    exact h1.1.1.2
/-- The key between, if there is one. -/
def nextK (a b : ByteArray) : Option ByteArray :=
  if (okB a && okB b) && (decide (a.size = 0) || decide (b.size = 0) || lessB a b) then
    let k := keyOf (digs a b 200 0 b.toList.isEmpty)
    if rightB k && lessB a k then some k else none
  else none
def NextP (bm : Nat) (a b : ByteArray) (x : Int) (g : Addr) (w : World) (r : Option ByteArray) (e : Ending) (w' : World) : Prop :=
  match r with
  | some k => e = .returned (.tuple #[.string k, .nilIface]) ∧ Changed bm w w' ∧ w'.heap[bm]? = some (.cells #[.string a, .string b, .int .i64 (x + 1)] 44 (0, 0))
  | none => e = .returned (.tuple #[.string { data := #[] }, .iface 79 (.pointer (some g))]) ∧ Ext w w'
theorem next_calls (bm : Nat) (a b : ByteArray) (x : Int) (g : Addr) (w : World) (hg : Gv g w) (hM : w.heap[bm]? = some (.cells #[.string a, .string b, .int .i64 x] 44 (0, 0))) (hx0 : 0 ≤ x) (hx1 : x ≤ 1000000) :
    Calls Tryd.prog 20 #[.pointer (some ⟨bm, 0, none⟩)] w (NextP bm a b x g w (nextK a b)) := by
  have c0 : w.cell? ⟨bm, 0, none⟩ = some (.string a) := by simp [World.cell?, hM]
  have c1 : w.cell? ⟨bm, 1, none⟩ = some (.string b) := by simp [World.cell?, hM]
  cases hok : okB a && okB b with
  | false =>
    have e1 : nextK a b = none := by simp only [nextK, hok]; rfl
    rw [e1]
    exact (next_bad bm a b g w hg c0 c1 hok).mono fun e w' h => h
  | true =>
    have hd : okB a = true ∧ okB b = true := by simpa using hok
    cases hl : (decide (a.size = 0) || decide (b.size = 0) || lessB a b) with
    | false =>
      have e1 : nextK a b = none := by simp only [nextK, hok, hl]; rfl
      rw [e1]
      simp only [Bool.or_eq_false_iff, decide_eq_false_iff_not] at hl
      exact (next_less bm a b g w hg c0 c1 hok hl.1.1 hl.1.2 hl.2).mono fun e w' h => h
    | true =>
      have ha := size_of_ok hd.1
      have hb := size_of_ok hd.2
      refine (next_good bm a b x g w hg hM hx0 hx1 (by omega) (by omega) (isl_of hd.1) (isl_of hd.2) hok (fun h1 h2 => by simpa [h1, h2] using hl)).mono fun e w' h => ?_
      unfold NextR at h
      have e1 : nextK a b = if rightB (keyOf (digs a b 200 0 b.toList.isEmpty)) && lessB a (keyOf (digs a b 200 0 b.toList.isEmpty)) then some (keyOf (digs a b 200 0 b.toList.isEmpty)) else none := by unfold nextK; rw [hok, hl]; rfl
      rw [e1]
      generalize keyOf (digs a b 200 0 b.toList.isEmpty) = K at h ⊢
      cases hc : rightB K && lessB a K with
      | true => rw [hc] at h; exact h
      | false => rw [hc] at h; exact h
end Go.Proofs.YtemiocaiimdblaaDoor.Hand
