/- tree: slices.Delete over nodes. -/
import Derived.Test.YthknhhpcogakfaaDoorTreeJ
import Derived.Test.YthknhhpcogakfaaDoorKTail
import Derived.Lib.SliceRun
set_option linter.unusedVariables false
set_option linter.unusedSimpArgs false
namespace Go.Proofs.YthknhhpcogakfaaDoor.Hand
open Go Go.RowKit Go.Proofs.YthknhhpcogakfaaDoor.K Go.Proofs.YthknhhpcogakfaaDoor.PT Go.Proofs.YthknhhpcogakfaaDoorW.PrintWords Go.Proofs.YthknhhpcogakfaaDoorW.PrintLast Go.Proofs.YthknhhpcogakfaaDoorW.PrintMore
set_option maxRecDepth 100000
set_option maxHeartbeats 4000000
def T41_5 : List (List (Tmp × Option Nat)) := [[(0, none)], [(1, none)], [(20, some 0), (21, some 1)], [(0, none)], [(2, none)], [(23, some 3), (24, some 4)], [(22, some 2), (25, some 5)], [(26, some 6)]]
theorem cut_head (g n i : Nat) (h : i ≤ n) (w : World) : (Instr.slice 22 (.slice (some ⟨g, 0, none⟩) n n) none (some (.int .i64 (i : Int))) none).run Tryd.prog w = .ok (.slice (some ⟨g, 0, none⟩) i n) w := by
  obtain ⟨i0, hi, hs⟩ := Option.map_eq_some_iff.1 sizeN
  rw [run_slice_h (t := 22) (a := some ⟨g, 0, none⟩) (len := n) (cap := n) (ht := by kernel_rfl) (kh := .i64) (h := (i : Int)) (h0 := by omega) (h2 := by omega)]
  have he : Tryd.prog.elem 22 = 30 := by kernel_rfl
  rw [he]
  simp [sizeOf, typeInfo, hi, hs, Result.andThen, sliced, Addr.add]
def ajF (g n j : Nat) : Addr := if n = j then ⟨g, 0, none⟩ else ⟨g, j * 4, none⟩
theorem cut_from (g n j : Nat) (h : j ≤ n) (w : World) : (Instr.slice 22 (.slice (some ⟨g, 0, none⟩) n n) (some (.int .i64 (j : Int))) none none).run Tryd.prog w = .ok (.slice (some (ajF g n j)) (n - j) (n - j)) w := by
  obtain ⟨i0, hi, hs⟩ := Option.map_eq_some_iff.1 sizeN
  rw [run_slice_l (t := 22) (a := some ⟨g, 0, none⟩) (len := n) (cap := n) (ht := by kernel_rfl) (kl := .i64) (l := (j : Int)) (h0 := by omega) (h1 := by omega)]
  have he : Tryd.prog.elem 22 = 30 := by kernel_rfl
  rw [he]
  simp [sizeOf, typeInfo, hi, hs, Result.andThen, sliced, ajF]
  split
  · rfl
  · rename_i hne
    simp [Addr.add]
    intro h0; omega
theorem cut_test (g n i j : Nat) (h1 : i < j) (h : j ≤ n) : ∃ T : Option Addr, ∀ w : World, (Instr.slice 22 (.slice (some ⟨g, 0, none⟩) n n) (some (.int .i64 (i : Int))) (some (.int .i64 (j : Int))) (some (.int .i64 (n : Int)))).run Tryd.prog w = .ok (.slice T (j - i) (n - i)) w := by
  obtain ⟨i0, hi, hs⟩ := Option.map_eq_some_iff.1 sizeN
  refine ⟨some ((⟨g, 0, none⟩ : Addr).add (i * 4)), fun w => ?_⟩
  rw [run_slice_lhm (t := 22) (a := some ⟨g, 0, none⟩) (len := n) (cap := n) (ht := by kernel_rfl) (kl := .i64) (kh := .i64) (km := .i64) (l := (i : Int)) (h := (j : Int)) (m := (n : Int)) (h0 := by omega) (h1 := by omega) (h2 := by omega) (h3 := by omega)]
  have he : Tryd.prog.elem 22 = 30 := by kernel_rfl
  rw [he]
  simp [sizeOf, typeInfo, hi, hs, Result.andThen, sliced, show ¬ n = i by omega]
/-- clear, nodes of a row of the call's own. -/
theorem run_clearN (w : World) (ty : TypeId) (g o m c : Nat) (cur : Array Value) (hg : w.heap[g]? = some (.cells cur 30 (0, 0))) (hm : 0 < m) (hfit : o + m * 4 ≤ cur.size) :
    ∃ zs : List Value, zs.length = m * 4 ∧ (Builtin.clear_ #[22] ty #[.slice (some ⟨g, o, none⟩) m c]).run Tryd.prog w = .ok (.tuple #[]) (w.setRow g (cur.toList.take o ++ zs ++ cur.toList.drop (o + zs.length)).toArray) := by
  have hz : (zeroValue 30).run Tryd.prog w = .ok (.agg #[(.int .u64 0), (.int .i64 0), (.string ⟨#[]⟩), (.slice none 0 0)]) w := by kernel_rfl
  have hlen : ((Builtin.zeroCells (Value.agg #[(.int .u64 0), (.int .i64 0), (.string ⟨#[]⟩), (.slice none 0 0)]).cells m).toList).length = m * 4 := by simp [Builtin.zeroCells, Value.cells]
  have hone : ∀ v ∈ (Builtin.zeroCells (Value.agg #[(.int .u64 0), (.int .i64 0), (.string ⟨#[]⟩), (.slice none 0 0)]).cells m).toList, v.oneCell' = true := by
    intro v hv
    simp [Builtin.zeroCells, Value.cells] at hv
    obtain ⟨k, _, rfl⟩ := hv
    have : k % 4 < 4 := Nat.mod_lt _ (by decide)
    rcases h : k % 4 with _ | _ | _ | _ | q
    · rfl
    · rfl
    · rfl
    · rfl
    · omega
  have hst := run_storeCells_at Tryd.prog g o 30 _ 0 cur w hg (by rw [hlen]; omega) hone
  refine ⟨_, hlen, ?_⟩
  obtain ⟨q, rfl⟩ : ∃ q, m = q + 1 := ⟨m - 1, by omega⟩
  simp only [Nat.add_zero] at hst
  simp [Builtin.clear_, run_underlying Tryd.underlying22, hz, hst]
theorem own_block {w : World} {g n m : Nat} {xs : List Value} (h : w.ownsRow g 30 4 (.slice (some ⟨g, 0, none⟩) m n) m xs) : ∃ cur, w.heap[g]? = some (.cells cur 30 (0, 0)) ∧ cur.size = n * 4 ∧ cur.toList.take (m * 4) = xs := by
  rcases h.2 with ⟨he, _⟩ | ⟨g', cap, cur, he, _, hh, _, _, hsz, ht⟩
  · cases he
  · injection he with e1 _ e3
    injection e1 with e1
    injection e1 with e1
    subst e1; subst e3
    exact ⟨cur, hh, hsz, ht⟩
/-- Delete: the row's head is what stood ahead of i, and what stood from j on. -/
theorem delete_calls (g n i j : Nat) (w : World) (cur : Array Value) (hg : w.heap[g]? = some (.cells cur 30 (0, 0))) (hcur : cur.size = n * 4) (hone : ∀ v ∈ cur.toList, v.oneCell' = true) (hn : n ≤ 1000) (hij : i < j) (hj : j ≤ n) :
    Calls Tryd.prog 41 #[.slice (some ⟨g, 0, none⟩) n n, .int .i64 (i : Int), .int .i64 (j : Int)] w fun e w' => e = .returned (.slice (some ⟨g, 0, none⟩) (i + (n - j)) n) ∧
      w'.ownsRow g 30 4 (.slice (some ⟨g, 0, none⟩) (i + (n - j)) n) (i + (n - j)) (cur.toList.take (i * 4) ++ cur.toList.drop (j * 4)) ∧ w.grownBy w' (some g) := by
  obtain ⟨i0, hi, hz0, hz1, hz2⟩ := info_parts infoN
  obtain ⟨T13, hT⟩ := cut_test g n i j hij hj
  have HT := Lib.hid hT
  have HC1 := Lib.hid (cut_head g n i (by omega))
  obtain ⟨aj, haj⟩ : ∃ aj, ajF g n j = aj := ⟨_, rfl⟩
  have HC2 := Lib.hid (cut_from g n j hj)
  rw [haj] at HC2
  have hnews : ∀ W : World, W.heap[g]? = some (.cells cur 30 (0, 0)) → ∀ t u, (cur.toList.drop (j * 4))[t]? = some u → W.cell? (aj.add t) = some u := fun W hW t u hu => by
    rw [List.getElem?_drop] at hu
    have ht : j * 4 + t < cur.size := by have := (List.getElem?_eq_some_iff.1 hu).1; simpa using this
    rw [← haj, ajF, if_neg (by omega)]
    have ha : (⟨g, j * 4, none⟩ : Addr).add t = ⟨g, j * 4 + t, none⟩ := by unfold Addr.add; split <;> simp_all
    rw [ha]
    exact cell_at hW (by simpa using hu)
  have HN := Lib.hid hnews
  have hlen : (cur.toList.drop (j * 4)).length = (n - j) * 4 := by rw [List.length_drop, Array.length_toList, hcur, Nat.sub_mul]
  have HL := Lib.hid hlen
  have HO := Lib.hid (fun u (hu : u ∈ cur.toList.drop (j * 4)) => hone u (List.mem_of_mem_drop hu))
  have hown : w.ownsRow g 30 4 (.slice (some ⟨g, 0, none⟩) i n) i (cur.toList.take (i * 4)) :=
    ⟨by rw [List.length_take, Array.length_toList, hcur]; omega, .inr ⟨g, n, cur, rfl, Nat.le_refl _, hg, by omega, by unfold maxLen; omega, hcur, rfl⟩⟩
  have HG := Lib.hid hg
  have HW := Lib.hid hown
  clear hT haj hnews hlen hown hg hone
  go_enter Tryd.func41, Tryd.ntmps41
  go_upto_region 5 with (fail)
  refine region_tail 6 T41_5 ?_ ?_ ?_ ?_ ?_ ?_
  · kernel_rfl
  · kernel_rfl
  · kernel_rfl
  · kernel_rfl
  · kernel_rfl
  simp only [List.take_succ_cons, List.take_zero]
  refine RChain.quiet (.slice (some ⟨g, 0, none⟩) n n) rfl (fun a_ w hE ⟨(h0 : a_.tmps.getD 0 undef = .slice (some ⟨g, 0, none⟩) n n), _⟩ => ?_) ?_
  · conv => lhs; simp [go_sem, h0]
    try exact rfl
  refine RChain.quiet (.int .i64 (i : Int)) rfl (fun a_ w hE ⟨(h1 : a_.tmps.getD 1 undef = .int .i64 (i : Int)), _⟩ => ?_) ?_
  · conv => lhs; simp [go_sem, h1]
    try exact rfl
  refine RChain.quiet (.slice (some ⟨g, 0, none⟩) i n) rfl (fun a_ w hE ⟨(h20 : a_.tmps.getD 20 undef = .slice (some ⟨g, 0, none⟩) n n), (h21 : a_.tmps.getD 21 undef = .int .i64 (i : Int)), _⟩ => ?_) ?_
  · have hcut := HC1.out w
    conv => lhs; simp [go_sem, h20, h21, hcut]
    try exact rfl
  refine RChain.quiet (.slice (some ⟨g, 0, none⟩) n n) rfl (fun a_ w hE ⟨(h0 : a_.tmps.getD 0 undef = .slice (some ⟨g, 0, none⟩) n n), _⟩ => ?_) ?_
  · conv => lhs; simp [go_sem, h0]
    try exact rfl
  refine RChain.quiet (.int .i64 (j : Int)) rfl (fun a_ w hE ⟨(h2 : a_.tmps.getD 2 undef = .int .i64 (j : Int)), _⟩ => ?_) ?_
  · conv => lhs; simp [go_sem, h2]
    try exact rfl
  refine RChain.quiet (.slice (some aj) (n - j) (n - j)) rfl (fun a_ w hE ⟨(h23 : a_.tmps.getD 23 undef = .slice (some ⟨g, 0, none⟩) n n), (h24 : a_.tmps.getD 24 undef = .int .i64 (j : Int)), _⟩ => ?_) ?_
  · have hcut := HC2.out w
    conv => lhs; simp [go_sem, h23, h24, hcut]
    try exact rfl
  refine RChain.nil (fun w1 hE1 => ?_)
  refine endAll_cons (fun v0 (hv : v0 = .slice (some ⟨g, 0, none⟩) n n) => ?_)
  subst hv
  refine endAll_cons (fun v1 (hv : v1 = .int .i64 (i : Int)) => ?_)
  subst hv
  refine endAll_cons (fun v2 (hv : v2 = .slice (some ⟨g, 0, none⟩) i n) => ?_)
  subst hv
  refine endAll_cons (fun v3 (hv : v3 = .slice (some ⟨g, 0, none⟩) n n) => ?_)
  subst hv
  refine endAll_cons (fun v4 (hv : v4 = .int .i64 (j : Int)) => ?_)
  subst hv
  refine endAll_cons (fun v5 (hv : v5 = .slice (some aj) (n - j) (n - j)) => ?_)
  subst hv
  refine endAll_at { tmps := List.toArray (.slice (some ⟨g, 0, none⟩) n n :: .int .i64 (i : Int) :: .int .i64 (j : Int) :: undef :: undef :: undef :: .slice none 0 0 :: .int .i64 (n : Int) :: .slice (some ⟨g, 0, none⟩) n n :: .int .i64 (i : Int) :: .int .i64 (j : Int) :: .slice (some ⟨g, 0, none⟩) n n :: .int .i64 (n : Int) :: .slice (some ⟨g, i * 4, none⟩) (j - i) (n - i) :: .int .i64 (i : Int) :: .int .i64 (j : Int) :: .bool ((i : Int) == (j : Int)) :: undef :: .slice (some ⟨g, 0, none⟩) n n :: .int .i64 (n : Int) :: .slice (some ⟨g, 0, none⟩) n n :: .int .i64 (i : Int) :: .slice (some ⟨g, 0, none⟩) i n :: .slice (some ⟨g, 0, none⟩) n n :: .int .i64 (j : Int) :: .slice (some aj) (n - j) (n - j) :: undef :: undef :: undef :: undef :: undef :: undef :: undef :: []), defers := [] } (by kernel_rfl) ?_
  unfold TailQ
  simp only [List.drop_succ_cons, List.drop_zero]
  have hg1 := hE1.heap HG.out
  have hw1 := own_move HW.out (fun k hk => hE1.out.block k (own_lt HW.out k hk))
  go_wp2_with (at_builtin; refine wpList_append_fits _ rfl _ _ 22 rfl g 30 i0 4 Tryd.underlying22 hi hz1 g i n _ rfl hw1 aj (n - j) (n - j) (cur.toList.drop (j * 4)) rfl HL.out (HN.out _ hg1) HO.out (by omega) ?_; intro w2 hown2 hgrow2; obtain ⟨cur2, hg2, hc2, ht2⟩ := own_block hown2; obtain ⟨zs, hzl, hclr⟩ := run_clearN w2 0 g ((i + (n - j)) * 4) (n - (i + (n - j))) (n - (i + (n - j))) cur2 hg2 (by omega) (by omega); have HZ := Lib.hid hzl; have HO2 := Lib.hid hown2; have HT2 := Lib.hid ht2; clear hown2 ht2 hzl)
  go_ret
  have hzl := HZ.out
  refine ⟨rfl, ⟨HO2.out.1, .inr ⟨g, n, _, rfl, Nat.le_refl _, setRow_heap w2 g _ _ _ _ hg2, by omega, by unfold maxLen; omega, ?_, ?_⟩⟩, ?_⟩
  · simp only [List.size_toArray, List.length_append, List.length_take, List.length_drop, Array.length_toList]
    omega
  · rw [← HT2.out, List.toList_toArray, List.take_append_of_le_length (by rw [List.length_take, Array.length_toList]; omega), List.take_take, Nat.min_self]
  · have h1 : w.grownBy w1 (some g) := ⟨hE1.out.os, hE1.out.tape, hE1.out.output, hE1.out.size, fun k hk _ => hE1.out.block k hk⟩
    exact (h1.trans hgrow2).trans ⟨rfl, rfl, rfl, by simp [World.setRow], fun k _ hk => setRow_other w2 g k _ (fun e => hk (by rw [e]))⟩
end Go.Proofs.YthknhhpcogakfaaDoor.Hand
