/- tree: nodes moved. -/
import Derived.Test.YthknhhpcogakfaaDoorTreeE
set_option linter.unusedVariables false
set_option linter.unusedSimpArgs false
namespace Go.Proofs.YthknhhpcogakfaaDoor.Hand
open Go Go.RowKit Go.Proofs.YthknhhpcogakfaaDoor.K Go.Proofs.YthknhhpcogakfaaDoor.PT Go.Proofs.YthknhhpcogakfaaDoorW.PrintWords Go.Proofs.YthknhhpcogakfaaDoorW.PrintLast Go.Proofs.YthknhhpcogakfaaDoorW.PrintMore
set_option maxRecDepth 100000
set_option maxHeartbeats 2000000
theorem infoN : (Tryd.prog.info? 30).map (fun i => (i.zero, i.size, i.bytes)) = some (some (.agg #[(.int .u64 0), (.int .i64 0), (.string ⟨#[]⟩), (.slice none 0 0)]), 4, 56) := by kernel_rfl
theorem sizeN : (Tryd.prog.info? 30).map (·.size) = some 4 := by kernel_rfl
/-- A node so much deeper. -/
def deepN (d : Int) (x : S30) : S30 := ⟨x.f0, wrap64 (x.f1 + d), x.f2, x.f3⟩
/-- The cells of a row of nodes. -/
theorem node_cells {w : World} {ad : Addr} {n : Nat} {l : List S30} (hr : Kd.C k30 w (some ad) n l) : ∃ cs : List Value, cs.length = n * 4 ∧ (∀ j v, cs[j]? = some v → w.cell? (ad.add j) = some v) ∧ (∀ v ∈ cs, v.oneCell' = true) ∧
    ∀ k, k < n → cs[k * 4]? = some (.int .u64 (l.getD k z30).f0) ∧ cs[k * 4 + 1]? = some (.int .i64 (l.getD k z30).f1) ∧ cs[k * 4 + 2]? = some (.string (l.getD k z30).f2) := by
  have key : ∀ i, i < n * 4 → ∃ v, w.cell? (ad.add i) = some v ∧ v.oneCell' = true := fun i hi => by
    obtain ⟨ad', A3, c3, e, d0, d1, d2, d3, _⟩ := at_node hr (i / 4) (by omega)
    obtain rfl : ad = ad' := by injection e
    have hi4 : i = i / 4 * 4 + i % 4 := by omega
    have hm : i % 4 < 4 := Nat.mod_lt _ (by decide)
    rcases h : i % 4 with _ | _ | _ | _ | m
    · rw [h] at hi4; rw [hi4]; exact ⟨_, d0, rfl⟩
    · rw [h] at hi4; rw [hi4, add_field _ _ 1 (by omega)]; exact ⟨_, d1, rfl⟩
    · rw [h] at hi4; rw [hi4, add_field _ _ 2 (by omega)]; exact ⟨_, d2, rfl⟩
    · rw [h] at hi4; rw [hi4, add_field _ _ 3 (by omega)]; exact ⟨_, d3, rfl⟩
    · omega
  have hget : ∀ i v, ((List.range (n * 4)).map fun i => (w.cell? (ad.add i)).getD undef)[i]? = some v → w.cell? (ad.add i) = some v ∧ v.oneCell' = true := fun i v hv => by
    have hi : i < n * 4 := by have := (List.getElem?_eq_some_iff.1 hv).1; simpa using this
    obtain ⟨u, hu, h1⟩ := key i hi
    rw [List.getElem?_map, List.getElem?_range hi, Option.map_some, hu, Option.getD_some] at hv
    obtain rfl : u = v := by injection hv
    exact ⟨hu, h1⟩
  refine ⟨(List.range (n * 4)).map fun i => (w.cell? (ad.add i)).getD undef, by simp, fun i v hv => (hget i v hv).1, fun v hv => ?_, fun k hk => ?_⟩
  · obtain ⟨i, hi⟩ := List.getElem?_of_mem hv
    exact (hget i v hi).2
  · obtain ⟨ad', A3, c3, e, d0, d1, d2, d3, _⟩ := at_node hr k hk
    obtain rfl : ad = ad' := by injection e
    have at_ : ∀ i v, i < n * 4 → w.cell? (ad.add i) = some v → ((List.range (n * 4)).map fun i => (w.cell? (ad.add i)).getD undef)[i]? = some v := fun i v hi hv => by
      rw [List.getElem?_map, List.getElem?_range hi, Option.map_some, hv, Option.getD_some]
    exact ⟨at_ _ _ (by omega) d0, at_ _ _ (by omega) (by rw [add_field _ _ 1 (by omega)]; exact d1), at_ _ _ (by omega) (by rw [add_field _ _ 2 (by omega)]; exact d2)⟩
/-- A node of a row of the call's own: block g, place j. -/
structure NodeAt (w : World) (g j : Nat) (x : S30) : Prop where
  c0 : w.cell? ⟨g, j * 4, none⟩ = some (.int .u64 x.f0)
  c1 : w.cell? ⟨g, j * 4 + 1, none⟩ = some (.int .i64 x.f1)
  c2 : w.cell? ⟨g, j * 4 + 2, none⟩ = some (.string x.f2)
  c3 : ∃ v, w.cell? ⟨g, j * 4 + 3, none⟩ = some v ∧ OwnA w (g + 1) v x.f3
theorem NodeAt.ext {w w' : World} {g j : Nat} {x : S30} (h : NodeAt w g j x) (hx : Ext w w') : NodeAt w' g j x :=
  ⟨hx.cell h.c0, hx.cell h.c1, hx.cell h.c2, by obtain ⟨v, hv, ho⟩ := h.c3; exact ⟨v, hx.cell hv, ho.ext hx⟩⟩
/-- A store into another place of the row. -/
theorem NodeAt.set {w : World} {g j i : Nat} {x : S30} (h : NodeAt w g j x) (u : Value) (hi : i < j * 4 ∨ j * 4 + 3 < i) : NodeAt (w.setCell ⟨g, i, none⟩ u) g j x := by
  have hc : ∀ k v, k ≠ i → w.cell? ⟨g, k, none⟩ = some v → (w.setCell ⟨g, i, none⟩ u).cell? ⟨g, k, none⟩ = some v := fun k v hk hv => by
    rw [← hv]; exact World.cell?_setCell_other w _ _ _ (by simp [hk])
  refine ⟨hc _ _ (by omega) h.c0, hc _ _ (by omega) h.c1, hc _ _ (by omega) h.c2, ?_⟩
  obtain ⟨v, hv, ho⟩ := h.c3
  refine ⟨v, hc _ _ (by omega) hv, ?_⟩
  refine own_setCell ho ?_ u
  intro he
  have := own_base ho g he.symm
  omega
theorem getD_at {α : Type} (d : α) (l : List α) (j : Nat) (p : α) (h : l[j]? = some p) : l.getD j d = p := by rw [List.getD_eq_getElem?_getD, h]; rfl
/-- What the loop has come to: k nodes are moved. -/
def MovedTo (w wr : World) (d : Int) (l : List S30) (k : Nat) : Prop :=
  (∃ f, wr.rowIs w.heap.size 30 (l.length * 4) f) ∧ (∀ j, j < k → NodeAt wr w.heap.size j (deepN d (l.getD j z30))) ∧
  ∀ j, k ≤ j → j < l.length → wr.cell? ⟨w.heap.size, j * 4, none⟩ = some (.int .u64 (l.getD j z30).f0) ∧ wr.cell? ⟨w.heap.size, j * 4 + 1, none⟩ = some (.int .i64 (l.getD j z30).f1) ∧ wr.cell? ⟨w.heap.size, j * 4 + 2, none⟩ = some (.string (l.getD j z30).f2)
theorem movedTo_step {w wr w2 : World} {d : Int} {l : List S30} {k : Nat} {v : Value} {x : S30} (h : MovedTo w wr d l k) (hk : k < l.length) (hx : l.getD k z30 = x)
    (hw2 : Ext (wr.setCell ⟨w.heap.size, k * 4 + 1, none⟩ (.int .i64 (wrap64 (x.f1 + d)))) w2) (hv : OwnA w2 (w.heap.size + 1) v x.f3) :
    MovedTo w (w2.setCell ⟨w.heap.size, k * 4 + 3, none⟩ v) d l (k + 1) := by
  obtain ⟨⟨f, hf⟩, hdone, hrest⟩ := h
  obtain ⟨r0, r1, r2⟩ := hrest k (Nat.le_refl _) hk
  rw [hx] at r0 r1 r2
  have hf1 := hf.set (k * 4 + 1) (.int .i64 (wrap64 (x.f1 + d)))
  have hf2 : w2.rowIs w.heap.size 30 (l.length * 4) _ := hf1.of_block (hw2.out.block _ hf1.lt)
  have hf3 := hf2.set (k * 4 + 3) v
  have c1 : ∀ j u, j ≠ k * 4 + 1 → wr.cell? ⟨w.heap.size, j, none⟩ = some u → w2.cell? ⟨w.heap.size, j, none⟩ = some u := fun j u hj hu => hw2.cell (by rw [← hu]; exact World.cell?_setCell_other wr _ _ _ (by simp [hj]))
  have c2 : ∀ j u, j ≠ k * 4 + 3 → w2.cell? ⟨w.heap.size, j, none⟩ = some u → (w2.setCell ⟨w.heap.size, k * 4 + 3, none⟩ v).cell? ⟨w.heap.size, j, none⟩ = some u := fun j u hj hu => by rw [← hu]; exact World.cell?_setCell_other w2 _ _ _ (by simp [hj])
  have hnew : (w2.setCell ⟨w.heap.size, k * 4 + 3, none⟩ v).cell? ⟨w.heap.size, k * 4 + 3, none⟩ = some v := by have := hf3.cell (i := k * 4 + 3) (by omega); simpa using this
  have hdep : w2.cell? ⟨w.heap.size, k * 4 + 1, none⟩ = some (.int .i64 (wrap64 (x.f1 + d))) := by have := hf2.cell (i := k * 4 + 1) (by omega); simpa using this
  refine ⟨⟨_, hf3⟩, fun j hj => ?_, fun j hj hjl => ?_⟩
  · by_cases he : j = k
    · subst he
      rw [hx]
      refine ⟨c2 _ _ (by omega) (c1 _ _ (by omega) r0), c2 _ _ (by omega) hdep, c2 _ _ (by omega) (c1 _ _ (by omega) r2), v, hnew, ?_⟩
      refine own_setCell hv ?_ v
      intro he
      have := own_base hv w.heap.size he.symm
      omega
    · exact (((hdone j (by omega)).set _ (by omega)).ext hw2).set _ (by omega)
  · obtain ⟨q0, q1, q2⟩ := hrest j (by omega) hjl
    exact ⟨c2 _ _ (by omega) (c1 _ _ (by omega) q0), c2 _ _ (by omega) (c1 _ _ (by omega) q1), c2 _ _ (by omega) (c1 _ _ (by omega) q2)⟩
end Go.Proofs.YthknhhpcogakfaaDoor.Hand
