/- tree: arguments, opened: nodes. -/
import Derived.Test.YthknhhpcogakfaaDoorTreeP
import Derived.Deep.Slices
import Derived.Deep.Fields
import Derived.ChangeSame
import Derived.OpenShut
import Derived.Carry
import Derived.Stop.LaidTwo
import Derived.LaidHandle
set_option linter.unusedVariables false
set_option linter.unusedSimpArgs false
namespace Go.Proofs.YthknhhpcogakfaaDoor.Hand
open Go Go.RowKit Go.Proofs.YthknhhpcogakfaaDoor.PT Go.Proofs.YthknhhpcogakfaaDoor.K Go.Proofs.YthknhhpcogakfaaDoorW.PrintWords Go.Proofs.YthknhhpcogakfaaDoorW.PrintLast Go.Proofs.YthknhhpcogakfaaDoorW.PrintMore Go.ChangeShapes Go.WideShapes Go.Deep
set_option maxRecDepth 100000
set_option maxHeartbeats 1000000
theorem list_of {α : Type} {p : Nat → α → Prop} : ∀ (n : Nat), (∀ i, i < n → ∃ x, p i x) → ∃ l : List α, l.length = n ∧ ∀ i x, l[i]? = some x → p i x
  | 0, _ => ⟨[], rfl, fun i x h => by simp at h⟩
  | n + 1, h => by
    obtain ⟨l, hl, hp⟩ := list_of n (fun i hi => h i (by omega))
    obtain ⟨x, hx⟩ := h n (by omega)
    refine ⟨l ++ [x], by simp [hl], fun i y hy => ?_⟩
    rcases Nat.lt_or_ge i n with h1 | h1
    · rw [List.getElem?_append_left (by omega)] at hy; exact hp i y hy
    · have h2 : i < n + 1 := by have := (List.getElem?_eq_some_iff.1 hy).1; simpa [hl] using this
      obtain rfl : i = n := by omega
      rw [List.getElem?_append_right (by omega)] at hy
      rw [hl, Nat.sub_self] at hy
      obtain rfl : x = y := by simpa using hy
      exact hx
section
variable {H : Type} {enc : TypeId × Value → H} {w : World} {base : Nat} {spare : Nat → Bool} {held : Bool}
theorem cells44 : Tryd.prog.cellsOf 44 = 2 := by kernel_rfl
theorem cells30 : Tryd.prog.cellsOf 30 = 4 := by kernel_rfl
theorem cellsS1 : Tryd.prog.cellsOf 9 = 1 := by kernel_rfl
theorem cellsI1 : Tryd.prog.cellsOf 3 = 1 := by kernel_rfl
theorem cellsU1 : Tryd.prog.cellsOf 27 = 1 := by kernel_rfl
theorem cellsA1 : Tryd.prog.cellsOf 28 = 1 := by kernel_rfl
theorem open_attrs {fuel : Nat} {cs : List Value} {x : DataW H × List MemPlace} (h : DataW.trod enc Tryd.prog w base spare held fuel 28 cs = some x) :
    ∃ (A : Option Addr) (c : Nat) (l : List S44), cs = [.slice A l.length c] ∧ l.length ≤ c ∧ Kd.C k44 w A l.length l := by
  rcases open_slice Tryd.underlying28 h with ⟨rfl, _⟩ | ⟨a, len, cap, m, n, D, Pl, rfl, _, hl, hm, hmm, _, hi⟩
  · exact ⟨none, 0, [], rfl, Nat.le_refl _, rfl, by decide, fun h => absurd h (by simp)⟩
  · have hle : len ≤ m := by rw [hmm]; split <;> omega
    obtain ⟨l, hlen, hp⟩ := list_of (α := S44) (p := fun i y => ∀ j u, ([.string y.f0, .string y.f1] : List Value)[j]? = some u → w.cell? (a.add (i * 2 + j)) = some u) len (fun i hilt => by
      obtain ⟨cs', hc, ht'⟩ := hi i (by omega)
      rw [cells44] at hc
      obtain ⟨ys, n', _, _, hlen, hyl, hf⟩ := DataW.trod_struct Tryd.underlying44 ht'
      obtain ⟨_, hcl, hat⟩ := World.cells?_some hc
      match cs', hcl with
      | [u0, u1], _ =>
        have h0 : DataW.trod enc Tryd.prog w base spare held n' 9 ((([u0, u1] : List Value).drop 0).take (Tryd.prog.cellsOf 9)) = ys[0]? := hf 0 _ rfl
        have h1 : DataW.trod enc Tryd.prog w base spare held n' 9 ((([u0, u1] : List Value).drop 1).take (Tryd.prog.cellsOf 9)) = ys[1]? := hf 1 _ rfl
        have e0 : (ys[0]?).isSome := by rw [List.getElem?_eq_getElem (by rw [hyl]; decide)]; rfl
        have e1 : (ys[1]?).isSome := by rw [List.getElem?_eq_getElem (by rw [hyl]; decide)]; rfl
        obtain ⟨y0, hy0⟩ := Option.isSome_iff_exists.1 e0
        obtain ⟨y1, hy1⟩ := Option.isSome_iff_exists.1 e1
        rw [hy0] at h0
        rw [hy1] at h1
        rw [cellsS1] at h0 h1
        simp only [List.drop_zero, List.take_succ_cons, List.take_zero, List.drop_succ_cons] at h0 h1
        obtain ⟨s0, hs0, _, _⟩ := DataW.trod_string Tryd.underlying9 h0
        obtain ⟨s1, hs1, _, _⟩ := DataW.trod_string Tryd.underlying9 h1
        obtain rfl : u0 = .string s0 := by simpa using hs0
        obtain rfl : u1 = .string s1 := by simpa using hs1
        refine ⟨⟨s0, s1⟩, fun j u hu => ?_⟩
        have hj : j < 2 := by have := (List.getElem?_eq_some_iff.1 hu).1; simpa using this
        rw [← Go.Deep.add_add]
        exact (hat j hj).trans hu)
    subst hlen
    exact ⟨some a, cap, l, rfl, hl, rfl, by unfold maxLen at hm; omega, fun _ => ⟨a, rfl, fun j p hj => ⟨_, rfl, k44_mk w p, fun i u hu => hp j p hj i u hu⟩⟩⟩
theorem open_nodes {fuel : Nat} {cs : List Value} {x : DataW H × List MemPlace} (h : DataW.trod enc Tryd.prog w base spare held fuel 22 cs = some x) :
    ∃ (A : Option Addr) (c : Nat) (l : List S30), cs = [.slice A l.length c] ∧ l.length ≤ c ∧ Kd.C k30 w A l.length l ∧ IdsIn l := by
  rcases open_slice Tryd.underlying22 h with ⟨rfl, _⟩ | ⟨a, len, cap, m, n, D, Pl, rfl, _, hl, hm, hmm, _, hi⟩
  · exact ⟨none, 0, [], rfl, Nat.le_refl _, ⟨rfl, by decide, fun h => absurd h (by simp)⟩, fun x hx => by simp at hx⟩
  · have hle : len ≤ m := by rw [hmm]; split <;> omega
    obtain ⟨l, hlen, hp⟩ := list_of (α := S30) (p := fun i y => (∃ A3 c3, y.f3.length ≤ c3 ∧ k44.C w A3 y.f3.length y.f3 ∧ ∀ j u, ([.int .u64 y.f0, .int .i64 y.f1, .string y.f2, .slice A3 y.f3.length c3] : List Value)[j]? = some u → w.cell? (a.add (i * 4 + j)) = some u) ∧ (Lit.int .u64 y.f0).wf = true) len (fun i hilt => by
      obtain ⟨cs', hc, ht'⟩ := hi i (by omega)
      rw [cells30] at hc
      obtain ⟨ys, n', _, _, hlen, hyl, hf⟩ := DataW.trod_struct Tryd.underlying30 ht'
      obtain ⟨_, hcl, hat⟩ := World.cells?_some hc
      match cs', hcl with
      | [u0, u1, u2, u3], _ =>
        have h0 : DataW.trod enc Tryd.prog w base spare held n' 27 ((([u0, u1, u2, u3] : List Value).drop 0).take (Tryd.prog.cellsOf 27)) = ys[0]? := hf 0 _ rfl
        have h1 : DataW.trod enc Tryd.prog w base spare held n' 3 ((([u0, u1, u2, u3] : List Value).drop 1).take (Tryd.prog.cellsOf 3)) = ys[1]? := hf 1 _ rfl
        have h2 : DataW.trod enc Tryd.prog w base spare held n' 9 ((([u0, u1, u2, u3] : List Value).drop 2).take (Tryd.prog.cellsOf 9)) = ys[2]? := hf 2 _ rfl
        have h3 : DataW.trod enc Tryd.prog w base spare held n' 28 ((([u0, u1, u2, u3] : List Value).drop 3).take (Tryd.prog.cellsOf 28)) = ys[3]? := hf 3 _ rfl
        obtain ⟨y0, hy0⟩ := Option.isSome_iff_exists.1 (show (ys[0]?).isSome by rw [List.getElem?_eq_getElem (by rw [hyl]; decide)]; rfl)
        obtain ⟨y1, hy1⟩ := Option.isSome_iff_exists.1 (show (ys[1]?).isSome by rw [List.getElem?_eq_getElem (by rw [hyl]; decide)]; rfl)
        obtain ⟨y2, hy2⟩ := Option.isSome_iff_exists.1 (show (ys[2]?).isSome by rw [List.getElem?_eq_getElem (by rw [hyl]; decide)]; rfl)
        obtain ⟨y3, hy3⟩ := Option.isSome_iff_exists.1 (show (ys[3]?).isSome by rw [List.getElem?_eq_getElem (by rw [hyl]; decide)]; rfl)
        rw [hy0] at h0
        rw [hy1] at h1
        rw [hy2] at h2
        rw [hy3] at h3
        rw [cellsU1] at h0
        rw [cellsI1] at h1
        rw [cellsS1] at h2
        rw [cellsA1] at h3
        simp only [List.drop_zero, List.take_succ_cons, List.take_zero, List.drop_succ_cons] at h0 h1 h2 h3
        obtain ⟨s0, hs0, _, hwf⟩ := DataW.trod_int Tryd.underlying27 h0
        obtain ⟨s1, hs1, _, _⟩ := DataW.trod_int Tryd.underlying3 h1
        obtain ⟨s2, hs2, _, _⟩ := DataW.trod_string Tryd.underlying9 h2
        obtain ⟨A3, c3, l3, hs3, hl3, hC3⟩ := open_attrs h3
        obtain rfl : u0 = .int .u64 s0 := by simpa using hs0
        obtain rfl : u1 = .int .i64 s1 := by simpa using hs1
        obtain rfl : u2 = .string s2 := by simpa using hs2
        obtain rfl : u3 = .slice A3 l3.length c3 := by simpa using hs3
        refine ⟨⟨s0, s1, s2, l3⟩, ⟨A3, c3, hl3, hC3, fun j u hu => ?_⟩, hwf⟩
        have hj : j < 4 := by have := (List.getElem?_eq_some_iff.1 hu).1; simpa using this
        rw [← Go.Deep.add_add]
        exact (hat j hj).trans hu)
    subst hlen
    refine ⟨some a, cap, l, rfl, hl, ⟨rfl, by unfold maxLen at hm; omega, fun _ => ⟨a, rfl, fun j p hj => ?_⟩⟩, fun x hx => ?_⟩
    · obtain ⟨⟨A3, c3, h1, h2, h3⟩, _⟩ := hp j p hj
      exact ⟨_, rfl, k30_mk w p h1 h2, fun i u hu => h3 i u hu⟩
    · obtain ⟨j, hj⟩ := List.getElem?_of_mem hx
      exact (hp j x hj).2
theorem open_arg {r : Reach} {b0 : Nat} {v : Value} {d : DataW H} {p : List MemPlace} (hv : Value.okWide Tryd.prog w r b0 22 v) (h : DataW.Trod enc Tryd.prog w base spare held 22 v d p) :
    ∃ (A : Option Addr) (c : Nat) (l : List S30), v = .slice A l.length c ∧ l.length ≤ c ∧ Kd.C k30 w A l.length l ∧ IdsIn l := by
  obtain ⟨a, n, c, rfl⟩ := okWide_slice Tryd.underlying22 hv
  obtain ⟨fuel, hf⟩ := h
  obtain ⟨A, c', l, he, h1, h2, h3⟩ := open_nodes hf
  have : Value.slice a n c = .slice A l.length c' := by simpa [Value.cells] using he
  exact ⟨A, c', l, this, h1, h2, h3⟩
end
end Go.Proofs.YthknhhpcogakfaaDoor.Hand
