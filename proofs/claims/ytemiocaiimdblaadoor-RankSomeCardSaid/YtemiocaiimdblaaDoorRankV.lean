/- rank: Texts at equal lists. -/
import Derived.Test.YtemiocaiimdblaaDoorRankU
set_option linter.unusedVariables false
set_option linter.unusedSimpArgs false
namespace Go.Proofs.YtemiocaiimdblaaDoor.Hand
open Go Go.RowKit Go.Shelf Go.Proofs.YtemiocaiimdblaaDoor.K
set_option maxRecDepth 100000
set_option maxHeartbeats 400000
def T19_6 : List (List (Tmp × Option Nat)) := [[(0, none)], [(5, none)], [(17, some 0), (18, some 1)], [(19, some 2)], [(1, none)], [(5, none)], [(21, some 4), (22, some 5)], [(23, some 6)], [(20, some 3), (24, some 7)]]
theorem texts_calls (p1 p2 : Option Addr) (c1 c2 : Nat) (ks : List ByteArray) (w : World) (hl : ks.length ≤ 1000000)
    (h1 : ∀ k, k < ks.length → ∃ b, p1 = some ⟨b, 0, none⟩ ∧ w.cell? ⟨b, k, none⟩ = some (.string (keyAt ks k))) (h2 : ∀ k, k < ks.length → ∃ b, p2 = some ⟨b, 0, none⟩ ∧ w.cell? ⟨b, k, none⟩ = some (.string (keyAt ks k))) :
    Calls Tryd.prog 19 #[.slice p1 ks.length c1, .slice p2 ks.length c2] w fun e w' => e = .returned (.bool true) ∧ Ext w w' := by
  have H1 := Lib.hid h1
  have H2 := Lib.hid h2
  clear h1 h2
  go_enter Tryd.func19, Tryd.ntmps19
  go_wp2
  go_loopw [5] (fun i wr => Ext w wr ∧ ∃ (k : Nat), k ≤ ks.length ∧ i = .int .i64 (k : Int)) (fun i _ => ks.length - (intOf i).toNat)
  case atStart => exact ⟨Ext.refl _, 0, by omega, rfl⟩
  case round =>
    obtain ⟨hX, k, hk, rfl⟩ := hrel
    by_cases hp : k < ks.length
    · have HP := Lib.hid hp
      obtain ⟨b1, hb1, g1⟩ := H1.out k hp
      obtain ⟨b2, hb2, g2⟩ := H2.out k hp
      subst hb1
      subst hb2
      have e1 := hX.cell g1
      have e2 := hX.cell g2
      go_upto_region 6 with (fail)
      refine region_r T19_6 ?_ ?_ ?_ ?_ ?_
      · kernel_rfl
      · kernel_rfl
      · kernel_rfl
      · kernel_rfl
      refine RChain.quiet (.slice (some ⟨b1, 0, none⟩) ks.length c1) rfl (fun a_ w hE ⟨(h0 : a_.tmps.getD 0 undef = .slice (some ⟨b1, 0, none⟩) ks.length c1), _⟩ => ?_) ?_
      · conv => lhs; simp [go_sem, h0]
        try exact rfl
      refine RChain.quiet (.int .i64 (k : Int)) rfl (fun a_ w hE ⟨(h5 : a_.tmps.getD 5 undef = .int .i64 (k : Int)), _⟩ => ?_) ?_
      · conv => lhs; simp [go_sem, h5]
        try exact rfl
      refine RChain.quiet (.pointer (some ⟨b1, k, none⟩)) rfl (fun a_ w hE ⟨(h17 : a_.tmps.getD 17 undef = .slice (some ⟨b1, 0, none⟩) ks.length c1), (h18 : a_.tmps.getD 18 undef = .int .i64 (k : Int)), _⟩ => ?_) ?_
      · conv => lhs; simp [go_sem, h17, h18, hp]
        try exact rfl
      refine RChain.quiet (.string (keyAt ks k)) rfl (fun a_ w hE ⟨(h19 : a_.tmps.getD 19 undef = .pointer (some ⟨b1, k, none⟩)), _⟩ => ?_) ?_
      · conv => lhs; simp [go_sem, h19, hE.cell e1]
        try exact rfl
      refine RChain.quiet (.slice (some ⟨b2, 0, none⟩) ks.length c2) rfl (fun a_ w hE ⟨(h1 : a_.tmps.getD 1 undef = .slice (some ⟨b2, 0, none⟩) ks.length c2), _⟩ => ?_) ?_
      · conv => lhs; simp [go_sem, h1]
        try exact rfl
      refine RChain.quiet (.int .i64 (k : Int)) rfl (fun a_ w hE ⟨(h5 : a_.tmps.getD 5 undef = .int .i64 (k : Int)), _⟩ => ?_) ?_
      · conv => lhs; simp [go_sem, h5]
        try exact rfl
      refine RChain.quiet (.pointer (some ⟨b2, k, none⟩)) rfl (fun a_ w hE ⟨(h21 : a_.tmps.getD 21 undef = .slice (some ⟨b2, 0, none⟩) ks.length c2), (h22 : a_.tmps.getD 22 undef = .int .i64 (k : Int)), _⟩ => ?_) ?_
      · conv => lhs; simp [go_sem, h21, h22, hp]
        try exact rfl
      refine RChain.quiet (.string (keyAt ks k)) rfl (fun a_ w hE ⟨(h23 : a_.tmps.getD 23 undef = .pointer (some ⟨b2, k, none⟩)), _⟩ => ?_) ?_
      · conv => lhs; simp [go_sem, h23, hE.cell e2]
        try exact rfl
      refine RChain.quiet (.bool false) rfl (fun a_ w hE ⟨(h20 : a_.tmps.getD 20 undef = .string (keyAt ks k)), (h24 : a_.tmps.getD 24 undef = .string (keyAt ks k)), _⟩ => ?_) ?_
      · conv => lhs; simp [go_sem, h20, h24]
        try exact rfl
      refine RChain.nil (fun w1 hE1 => ?_)
      refine endAll_cons (fun v0 (hv : v0 = .slice (some ⟨b1, 0, none⟩) ks.length c1) => ?_)
      subst hv
      refine endAll_cons (fun v1 (hv : v1 = .int .i64 (k : Int)) => ?_)
      subst hv
      refine endAll_cons (fun v2 (hv : v2 = .pointer (some ⟨b1, k, none⟩)) => ?_)
      subst hv
      refine endAll_cons (fun v3 (hv : v3 = .string (keyAt ks k)) => ?_)
      subst hv
      refine endAll_cons (fun v4 (hv : v4 = .slice (some ⟨b2, 0, none⟩) ks.length c2) => ?_)
      subst hv
      refine endAll_cons (fun v5 (hv : v5 = .int .i64 (k : Int)) => ?_)
      subst hv
      refine endAll_cons (fun v6 (hv : v6 = .pointer (some ⟨b2, k, none⟩)) => ?_)
      subst hv
      refine endAll_cons (fun v7 (hv : v7 = .string (keyAt ks k)) => ?_)
      subst hv
      refine endAll_cons (fun v8 (hv : v8 = .bool false) => ?_)
      subst hv
      refine endAll_nil ?_
      simp only [Act.put, List.setIfInBounds_toArray, List.set_cons_succ, List.set_cons_zero]
      go_wp2
      go_roundw
      case rel => exact ⟨hX.trans hE1, k + 1, by have := HP.out; omega, by go_num⟩
      case measure => have := HP.out; simp [intOf]; omega
    · go_wp2
      go_ret
      exact ⟨rfl, hX⟩
end Go.Proofs.YtemiocaiimdblaaDoor.Hand
