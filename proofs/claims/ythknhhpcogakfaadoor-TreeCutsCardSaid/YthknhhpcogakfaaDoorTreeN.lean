/- tree: Branch and Cut, whatever the nodes are. -/
import Derived.Test.YthknhhpcogakfaaDoorTreeM
set_option linter.unusedVariables false
set_option linter.unusedSimpArgs false
namespace Go.Proofs.YthknhhpcogakfaaDoor.Hand
open Go Go.RowKit Go.Proofs.YthknhhpcogakfaaDoor.K Go.Proofs.YthknhhpcogakfaaDoor.PT Go.Proofs.YthknhhpcogakfaaDoorW.PrintWords Go.Proofs.YthknhhpcogakfaaDoorW.PrintLast Go.Proofs.YthknhhpcogakfaaDoorW.PrintMore
set_option maxRecDepth 100000
set_option maxHeartbeats 4000000
theorem rightL_nodes : ∀ (l : List S30) (d : Int) (ids : List Int), rightL d ids l = true → ∀ x ∈ l, ∃ d', nodeR d' x = true
  | [], _, _, _, x, hx => by simp at hx
  | y :: t, d, ids, h, x, hx => by
    rw [rightL, Bool.and_eq_true, Bool.and_eq_true] at h
    rcases List.mem_cons.1 hx with rfl | hx
    · exact ⟨d, h.1.2⟩
    · exact rightL_nodes t _ _ h.2 x hx
theorem right_sizes {l : List S30} (h : rightF l = true) : l.length ≤ 1000 ∧ ∀ x ∈ l, x.f3.length ≤ 1000 := by
  unfold rightF at h
  rw [Bool.and_eq_true, decide_eq_true_eq] at h
  refine ⟨by omega, fun x hx => ?_⟩
  obtain ⟨d, hd⟩ := rightL_nodes l _ _ h.1 x hx
  unfold nodeR at hd
  have ha : attrsR x.f3 = true := by
    cases ha : attrsR x.f3 with
    | true => rfl
    | false => rw [ha] at hd; simp at hd
  unfold attrsR at ha
  rw [Bool.and_eq_true, decide_eq_true_eq] at ha
  omega
theorem branch_bad (a b q : Addr) (code : Int) (A : Option Addr) (c : Nat) (l : List S30) (i : Int) (u : World) (hg : Gv a b u) (hr : Kd.C k30 u A l.length l) (hc : l.length ≤ c) (hid : IdsIn l) (hcv : checkV a b l i = .iface 92 (.pointer (some q)))
    (ht : ∀ W, Ext u W → Calls Tryd.prog 36 #[.iface 92 (.pointer (some q))] W fun e w' => e = .returned (.int .i64 code) ∧ W = w') :
    Calls Tryd.prog 15 #[.slice A l.length c, .int .i64 i] u fun e w' => ToldV u [] code e w' ∧ Ext u w' := by
  have hw0 : Ext u (u.alloc (.cells #[.slice A l.length c] 54)) := (Ext.refl u).alloc _
  have hb0 : (u.alloc (.cells #[.slice A l.length c] 54)).cell? ⟨u.heap.size, 0, none⟩ = some (.slice A l.length c) := cell_at (h_newN _ _ _ rfl) rfl
  have hck := checked_calls a b A c l i _ (hg.ext hw0) (Kd.C_below hr hw0.out) hc hid
  rw [hcv] at hck
  have HK := Lib.hid hck
  have HT := Lib.hid ht
  clear hck ht hcv
  go_enter Tryd.func15, Tryd.ntmps15
  go_wp2_with (first | (go_at_call 35; (with_reducible refine HK.out.mono ?_); rintro e w2 ⟨rfl, hq⟩) | (go_at_call 36; (with_reducible refine (HT.out _ (hw0.trans hq)).mono ?_); rintro e w3 ⟨rfl, rfl⟩))
  go_ret2
  exact ⟨⟨_, rfl, .inr ⟨rfl, rfl⟩⟩, hw0.trans hq⟩
theorem cut_bad (a b q : Addr) (code : Int) (A : Option Addr) (c : Nat) (l : List S30) (i : Int) (u : World) (hg : Gv a b u) (hr : Kd.C k30 u A l.length l) (hc : l.length ≤ c) (hid : IdsIn l) (hcv : checkV a b l i = .iface 92 (.pointer (some q)))
    (ht : ∀ W, Ext u W → Calls Tryd.prog 36 #[.iface 92 (.pointer (some q))] W fun e w' => e = .returned (.int .i64 code) ∧ W = w') :
    Calls Tryd.prog 18 #[.slice A l.length c, .int .i64 i] u fun e w' => ToldV u [] code e w' ∧ Ext u w' := by
  have hw0 : Ext u (u.alloc (.cells #[.slice A l.length c] 54)) := (Ext.refl u).alloc _
  have hb0 : (u.alloc (.cells #[.slice A l.length c] 54)).cell? ⟨u.heap.size, 0, none⟩ = some (.slice A l.length c) := cell_at (h_newN _ _ _ rfl) rfl
  have hck := checked_calls a b A c l i _ (hg.ext hw0) (Kd.C_below hr hw0.out) hc hid
  rw [hcv] at hck
  have HK := Lib.hid hck
  have HT := Lib.hid ht
  clear hck ht hcv
  go_enter Tryd.func18, Tryd.ntmps18
  go_wp2_with (first | (go_at_call 35; (with_reducible refine HK.out.mono ?_); rintro e w2 ⟨rfl, hq⟩) | (go_at_call 36; (with_reducible refine (HT.out _ (hw0.trans hq)).mono ?_); rintro e w3 ⟨rfl, rfl⟩))
  go_ret2
  exact ⟨⟨_, rfl, .inr ⟨rfl, rfl⟩⟩, hw0.trans hq⟩
def branchF (l : List S30) (i : Int) : List S30 × Int := if rightF l = true then (if placeB l i = true then (rowM l i.toNat ((endF l i.toNat).toNat - i.toNat), 0) else ([], 111)) else ([], 110)
def cutF (l : List S30) (i : Int) : List S30 × Int := if rightF l = true then (if placeB l i = true then (without (l.map (deepN 0)) i.toNat (endF l i.toNat).toNat, 0) else ([], 111)) else ([], 110)
theorem place_nat {l : List S30} {i : Int} (h : placeB l i = true) : ∃ k : Nat, i = (k : Int) ∧ k < l.length := by
  unfold placeB at h
  rw [Bool.and_eq_true, decide_eq_true_eq, decide_eq_true_eq] at h
  exact ⟨i.toNat, by omega, by omega⟩
theorem row_some {w : World} {A : Option Addr} {l : List S30} (hr : Kd.C k30 w A l.length l) (h : 0 < l.length) : ∃ ad, A = some ad := by
  obtain ⟨ad, e, _⟩ := hr.2.2 h
  exact ⟨ad, e⟩
theorem branch_calls (A : Option Addr) (c : Nat) (l : List S30) (i : Int) (u : World) (hG : Gs u) (hr : Kd.C k30 u A l.length l) (hc : l.length ≤ c) (hid : IdsIn l) :
    Calls Tryd.prog 15 #[.slice A l.length c, .int .i64 i] u fun e w' => ToldV u (branchF l i).1 (branchF l i).2 e w' ∧ Ext u w' := by
  obtain ⟨a, b, hg⟩ := hG
  unfold branchF
  by_cases h1 : rightF l = true
  · rw [if_pos h1]
    by_cases h2 : placeB l i = true
    · rw [if_pos h2]
      obtain ⟨k, rfl, hk⟩ := place_nat h2
      obtain ⟨ad, rfl⟩ := row_some hr (by omega)
      obtain ⟨hn, hatt⟩ := right_sizes h1
      refine (branch_good a b ad c l k u hg hr hc hk hid h1 hn hatt).mono ?_
      rintro e w' ⟨⟨v, rfl, hv⟩, hx⟩
      exact ⟨⟨v, rfl, hv.imp (fun h => h.row) id⟩, hx⟩
    · rw [if_neg h2]
      exact branch_bad a b b 111 A c l i u hg hr hc hid (by unfold checkV; rw [if_pos h1, if_neg h2]) (fun W hW => told_place (hg.ext hW))
  · rw [if_neg h1]
    exact branch_bad a b a 110 A c l i u hg hr hc hid (by unfold checkV; rw [if_neg h1]) (fun W hW => told_tree (hg.ext hW))
theorem cut_calls (A : Option Addr) (c : Nat) (l : List S30) (i : Int) (u : World) (hG : Gs u) (hr : Kd.C k30 u A l.length l) (hc : l.length ≤ c) (hid : IdsIn l) :
    Calls Tryd.prog 18 #[.slice A l.length c, .int .i64 i] u fun e w' => ToldV u (cutF l i).1 (cutF l i).2 e w' ∧ Ext u w' := by
  obtain ⟨a, b, hg⟩ := hG
  unfold cutF
  by_cases h1 : rightF l = true
  · rw [if_pos h1]
    by_cases h2 : placeB l i = true
    · rw [if_pos h2]
      obtain ⟨k, rfl, hk⟩ := place_nat h2
      obtain ⟨ad, rfl⟩ := row_some hr (by omega)
      obtain ⟨hn, hatt⟩ := right_sizes h1
      exact cut_good a b ad c l k u hg hr hc hk hid h1 hn hatt
    · rw [if_neg h2]
      exact cut_bad a b b 111 A c l i u hg hr hc hid (by unfold checkV; rw [if_pos h1, if_neg h2]) (fun W hW => told_place (hg.ext hW))
  · rw [if_neg h1]
    exact cut_bad a b a 110 A c l i u hg hr hc hid (by unfold checkV; rw [if_neg h1]) (fun W hW => told_tree (hg.ext hW))
/-- In the print's words: a row whose blocks are all the call's own. -/
theorem nodeAt_move {w W : World} {g j : Nat} {x : S30} (h : NodeAt w g j x) (hm : ∀ k, g ≤ k → k < w.heap.size → W.heap[k]? = w.heap[k]?) : NodeAt W g j x := by
  have hc : ∀ t v, w.cell? ⟨g, t, none⟩ = some v → W.cell? ⟨g, t, none⟩ = some v := fun t v hv => by
    rw [← hv]; exact World.cell?_of_block (w := w) (hm g (Nat.le_refl _) (World.block_lt_of_cell? w _ hv))
  obtain ⟨v, hv, ho⟩ := h.c3
  exact ⟨hc _ _ h.c0, hc _ _ h.c1, hc _ _ h.c2, v, hc _ _ hv, own_move ho (fun k hk => hm k (by have := own_base ho k hk; omega) (own_lt ho k hk))⟩
theorem RowV.told {w0 w : World} {r : List S30} {v : Value} (hn : r.length ≤ 9223372036854775807) (h : RowV w0 r v w) : Kd.V k30 30 w w0.heap.size (fun k => w0.heap.size ≤ k) v r := by
  obtain ⟨g, c, rfl, hc, hb, hR⟩ := h
  refine ⟨_, c, rfl, hc, fun W hW => ⟨rfl, hn, fun _ => ⟨_, rfl, fun j p hj => ?_⟩⟩⟩
  have hN := nodeAt_move (hR.at_ j p hj) (fun k hk hlt => hW k (Nat.le_trans hb hk) hlt)
  obtain ⟨v, hv, ho⟩ := hN.c3
  obtain ⟨A3, c3, rfl, hl3, hC3⟩ := ho.reads
  refine ⟨_, rfl, k30_mk W p hl3 hC3, fun i u hu => ?_⟩
  have ha : (⟨g, 0, none⟩ : Addr).add (j * 4 + i) = ⟨g, j * 4 + i, none⟩ := by unfold Addr.add; split <;> simp_all
  show W.cell? ((⟨g, 0, none⟩ : Addr).add (j * 4 + i)) = some u
  rw [ha]
  rcases i with _ | _ | _ | _ | i
  · obtain rfl : Value.int .u64 p.f0 = u := by simpa using hu
    exact hN.c0
  · obtain rfl : Value.int .i64 p.f1 = u := by simpa using hu
    exact hN.c1
  · obtain rfl : Value.string p.f2 = u := by simpa using hu
    exact hN.c2
  · obtain rfl : Value.slice A3 p.f3.length c3 = u := by simpa using hu
    exact hv
  · simp at hu
theorem ToldV.told {w0 w : World} {r : List S30} {code : Int} {e : Ending} (hn : r.length ≤ 9223372036854775807) (h : ToldV w0 r code e w) : ∃ v0_ : Value, e = .returned (.tuple #[v0_, .int .i64 code]) ∧ Kd.V k30 30 w w0.heap.size (fun k_ => w0.heap.size ≤ k_) v0_ r := by
  obtain ⟨v, rfl, h⟩ := h
  refine ⟨v, rfl, ?_⟩
  rcases h with h | ⟨rfl, rfl⟩
  · exact h.told hn
  · exact Kd.V_nil _ _ _ _ _
theorem branchF_len (l : List S30) (i : Int) : (branchF l i).1.length ≤ l.length := by
  unfold branchF
  split
  · split
    · simp [rowM, List.length_take, List.length_drop]; omega
    · simp
  · simp
theorem cutF_len2 (l : List S30) (i : Int) : (cutF l i).1.length ≤ l.length := by
  unfold cutF
  split
  · split
    · rename_i h
      obtain ⟨k, rfl, hk⟩ := place_nat h
      have h1 := (endL_bounds (l.getD k z30).f1 (l.drop (k + 1)) ((k : Int) + 1)).1
      have h2 : (endF l (k : Int).toNat).toNat ≥ k := by
        show (endF l k).toNat ≥ k
        unfold endF
        omega
      simp only [without, List.length_append, List.length_take, List.length_drop, List.length_map, Int.toNat_natCast] at h2 ⊢
      omega
    · simp
  · simp
end Go.Proofs.YthknhhpcogakfaaDoor.Hand
