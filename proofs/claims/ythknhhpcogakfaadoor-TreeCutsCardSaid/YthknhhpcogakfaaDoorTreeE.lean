/- tree: attributes cloned, nodes moved. -/
import Derived.Test.YthknhhpcogakfaaDoorTreeB
import Derived.Test.YthknhhpcogakfaaDoorTreeC
import Derived.OwnWalk
import Derived.Maps.AppendAt
import Derived.Laws.CopyRow
import Derived.Deep.OwnRows
import Derived.Lib.LazyBuf
set_option linter.unusedVariables false
set_option linter.unusedSimpArgs false
namespace Go.Proofs.YthknhhpcogakfaaDoor.Hand
open Go Go.RowKit Go.Proofs.YthknhhpcogakfaaDoor.K Go.Proofs.YthknhhpcogakfaaDoor.PT Go.Proofs.YthknhhpcogakfaaDoorW.PrintWords Go.Proofs.YthknhhpcogakfaaDoorW.PrintLast Go.Proofs.YthknhhpcogakfaaDoorW.PrintMore
set_option maxRecDepth 100000
set_option maxHeartbeats 2000000
/-- copy, elements of several cells. -/
theorem run_copyN {P : Program} (w : World) (dT sT ty elem : TypeId) (s g dLen dCap : Nat) (a : Addr) (sLen sCap : Nat) (cur : Array Value) (t : TypeId) (cs : List Value)
    (hu : P.underlying dT = some (.slice elem)) (hs : (P.info? elem).map (·.size) = some s)
    (hg : w.heap[g]? = some (.cells cur t (0, 0))) (hn : cs.length = Nat.min sLen dLen * s)
    (hsrc : ∀ j v, cs[j]? = some v → w.cell? (a.add j) = some v) (hfit : cs.length ≤ cur.size) (h1 : ∀ v ∈ cs, v.oneCell' = true) :
    (Builtin.copy_ #[dT, sT] ty #[.slice (some ⟨g, 0, none⟩) dLen dCap, .slice (some a) sLen sCap]).run P w =
      .ok (goInt (Nat.min sLen dLen)) (w.setRow g (cs ++ cur.toList.drop cs.length).toArray) := by
  have hl := run_loadCells_list (P := P) w a cs hsrc
  have hst := run_storeCells_at P g 0 t cs 0 cur w hg (by simpa using hfit) h1
  rw [hn] at hl
  cases hq : P.info? elem with
  | none => simp [hq] at hs
  | some i =>
    have hi : i.size = s := by simpa [hq] using hs
    simp at hst
    simp [Builtin.copy_, run_underlying hu, Builtin.lenOf, Builtin.firstCells, sizeOf, typeInfo, hq, hi, hl, hst]
/-- The cells of a row, laid end to end. -/
def flat {α : Type} (enc : α → List Value) (l : List α) : List Value := l.flatMap enc
theorem flat_len {α : Type} (enc : α → List Value) (s : Nat) (h : ∀ x, (enc x).length = s) (l : List α) : (flat enc l).length = l.length * s := by
  induction l with
  | nil => simp [flat]
  | cons x t ih => show (enc x ++ flat enc t).length = _; rw [List.length_append, h, ih, List.length_cons, Nat.add_mul]; omega
theorem flat_get {α : Type} (enc : α → List Value) (s : Nat) (h : ∀ x, (enc x).length = s) : ∀ (l : List α) (j i : Nat) (x : α), l[j]? = some x → i < s → (flat enc l)[j * s + i]? = (enc x)[i]?
  | [], j, i, x, hj, _ => by simp at hj
  | y :: t, 0, i, x, hj, hi => by
    obtain rfl : y = x := by simpa using hj
    show (enc y ++ flat enc t)[0 * s + i]? = _
    rw [Nat.zero_mul, Nat.zero_add, List.getElem?_append_left (by rw [h]; exact hi)]
  | y :: t, j + 1, i, x, hj, hi => by
    show (enc y ++ flat enc t)[(j + 1) * s + i]? = _
    rw [List.getElem?_append_right (by rw [h, Nat.add_mul]; omega), h, show (j + 1) * s + i - s = j * s + i by rw [Nat.add_mul]; omega]
    exact flat_get enc s h t j i x (by simpa using hj) hi
theorem flat_inv {α : Type} (enc : α → List Value) (s : Nat) (hs : 0 < s) (h : ∀ x, (enc x).length = s) (l : List α) (j : Nat) (u : Value) (hu : (flat enc l)[j]? = some u) : ∃ k i x, j = k * s + i ∧ i < s ∧ l[k]? = some x ∧ (enc x)[i]? = some u := by
  have hlt : j < l.length * s := by have := (List.getElem?_eq_some_iff.1 hu).1; rwa [flat_len enc s h] at this
  have hk : j / s < l.length := (Nat.div_lt_iff_lt_mul hs).2 hlt
  refine ⟨j / s, j % s, l[j / s], by rw [Nat.mul_comm]; exact (Nat.div_add_mod j s).symm, Nat.mod_lt _ hs, List.getElem?_eq_getElem hk, ?_⟩
  rw [← flat_get enc s h l (j / s) (j % s) _ (List.getElem?_eq_getElem hk) (Nat.mod_lt _ hs), show j / s * s + j % s = j by rw [Nat.mul_comm]; exact Nat.div_add_mod j s]
  exact hu
def encA (x : S44) : List Value := [.string x.f0, .string x.f1]
/-- A list of attributes of the call's own, from base on. -/
def OwnA (w : World) (base : Nat) (v : Value) (l : List S44) : Prop := w.ownsRow base 44 2 v l.length (flat encA l)
theorem OwnA.ext {w w' : World} {base : Nat} {v : Value} {l : List S44} (h : OwnA w base v l) (hx : Ext w w') : OwnA w' base v l :=
  own_move h (fun k hk => hx.out.block k (own_lt h k hk))
theorem OwnA.reads {w : World} {base : Nat} {v : Value} {l : List S44} (h : OwnA w base v l) : ∃ A c, v = .slice A l.length c ∧ l.length ≤ c ∧ k44.C w A l.length l := by
  have hR : Reps (k44.K w) 2 l (flat encA l) := ⟨flat_len encA 2 (fun _ => rfl) l, fun j p hp => by
    have hj := (List.getElem?_eq_some_iff.1 hp).1
    have : ((flat encA l).drop (j * 2)).take 2 = encA p := by
      apply List.ext_getElem?
      intro i
      rw [List.getElem?_take]
      split
      · rename_i hi
        rw [List.getElem?_drop]
        exact flat_get encA 2 (fun _ => rfl) l j i p hp hi
      · rename_i hi
        exact (List.getElem?_eq_none (by simp [encA]; omega)).symm
    rw [this]
    exact k44_mk w p⟩
  obtain ⟨A, c, rfl, hC⟩ := own_reads_row (size := 2) h hR rfl
  rcases h.2 with ⟨he, h0⟩ | ⟨g, cap, cur, he, _, _, hle, _⟩
  · exact ⟨A, c, rfl, by injection he; omega, hC⟩
  · exact ⟨A, c, rfl, by injection he with _ _ e; omega, hC⟩
theorem infoA : (Tryd.prog.info? 44).map (fun i => (i.zero, i.size, i.bytes)) = some (some (.agg #[(.string ⟨#[]⟩), (.string ⟨#[]⟩)]), 2, 32) := by kernel_rfl
theorem clone_calls (A : Option Addr) (c : Nat) (l : List S44) (w : World) (hr : Kd.C k44 w A l.length l) (hc : l.length ≤ c) (hn : l.length ≤ 1000) :
    Calls Tryd.prog 55 #[.slice A l.length c] w fun e w' => (∃ v, e = .returned v ∧ OwnA w' w.heap.size v l) ∧ Ext w w' := by
  obtain ⟨i0, hi, hz0, hz1, hz2⟩ := info_parts infoA
  have heq := fun (w : World) (a : Option Addr) (l c : Nat) => run_eql_slice_nil (P := Tryd.prog) w 28 44 a l c Tryd.underlying28
  cases A with
  | none =>
    have h0 : l = [] := by
      rcases Nat.eq_zero_or_pos l.length with h | h
      · exact List.eq_nil_of_length_eq_zero h
      · obtain ⟨ad, e, _⟩ := hr.2.2 h; cases e
    subst h0
    go_enter Tryd.func55, Tryd.ntmps55
    go_wp2
    go_ret
    exact ⟨⟨_, rfl, rfl, .inl ⟨rfl, rfl⟩⟩, Ext.refl _⟩
  | some ad =>
    have hcells : ∀ j u, (flat encA l)[j]? = some u → w.cell? (ad.add j) = some u := fun j u hu => by
      obtain ⟨k, i, x, rfl, hi2, hk, hv⟩ := flat_inv encA 2 (by decide) (fun _ => rfl) l j u hu
      obtain ⟨ad', e, d0, d1⟩ := at_attr hr k (List.getElem?_eq_some_iff.1 hk).1
      obtain rfl : ad = ad' := by injection e
      have hx : l.getD k z44 = x := by rw [List.getD_eq_getElem?_getD, hk]; rfl
      rw [hx] at d0 d1
      rcases i with _ | _ | i
      · obtain rfl : Value.string x.f0 = u := by simpa [encA] using hv
        exact d0
      · obtain rfl : Value.string x.f1 = u := by simpa [encA] using hv
        rw [add_field _ _ 1 (by omega)]; exact d1
      · omega
    have hone : ∀ u ∈ flat encA l, u.oneCell' = true := fun u hu => by
      obtain ⟨j, hj⟩ := List.getElem?_of_mem hu
      obtain ⟨k, i, x, rfl, hi2, hk, hv⟩ := flat_inv encA 2 (by decide) (fun _ => rfl) l j u hj
      rcases i with _ | _ | i
      · obtain rfl : Value.string x.f0 = u := by simpa [encA] using hv
        rfl
      · obtain rfl : Value.string x.f1 = u := by simpa [encA] using hv
        rfl
      · omega
    have hlen := flat_len encA 2 (fun _ => rfl) l
    have HR := Lib.hid hcells
    have hB : Ext w (w.alloc (.cells #[] 44)) := (Ext.refl w).alloc _
    go_enter Tryd.func55, Tryd.ntmps55
    go_wp2_with (at_builtin; go_loud (refine wpList_append_own_at _ rfl _ _ 28 rfl w.heap.size 44 i0 _ 2 32 Tryd.underlying28 hi hz0 hz1 hz2 rfl (by decide) (.slice (some ⟨w.heap.size, 0, none⟩) 0 0) 0 [] rfl (w.ownsRow_lit #[] 0 (Nat.le_refl _) (by decide) rfl) ad l.length c (flat encA l) rfl hlen (fun j u hu => hB.cell (HR.out j u hu)) hone (by unfold maxLen; omega) (by omega) (by simp) ?_); intro v1 w1 hown hgrow _ _)
    go_ret
    refine ⟨⟨_, rfl, ?_⟩, ?_⟩
    · simpa [OwnA] using hown
    · exact Ext.below (hB.out.grown hgrow (by simp) (fun j hj => by cases hj; exact Nat.le_refl _))
end Go.Proofs.YthknhhpcogakfaaDoor.Hand
