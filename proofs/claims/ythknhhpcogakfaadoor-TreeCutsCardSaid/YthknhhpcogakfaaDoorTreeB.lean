/- tree: Find. -/
import Derived.Test.YthknhhpcogakfaaDoorTreeA
set_option linter.unusedVariables false
set_option linter.unusedSimpArgs false
namespace Go.Proofs.YthknhhpcogakfaaDoor.Hand
open Go Go.RowKit Go.Proofs.YthknhhpcogakfaaDoor.K Go.Proofs.YthknhhpcogakfaaDoor.PT Go.Proofs.YthknhhpcogakfaaDoorW.PrintWords Go.Proofs.YthknhhpcogakfaaDoorW.PrintLast Go.Proofs.YthknhhpcogakfaaDoorW.PrintMore
set_option maxRecDepth 100000
set_option maxHeartbeats 2000000
/-- The place of the first such one, from i on. -/
def idxF {α : Type} (p : α → Bool) : List α → Int → Int
  | [], _ => -1
  | x :: t, i => if p x then i else idxF p t (i + 1)
theorem idxF_drop {α : Type} (p : α → Bool) (d : α) (L : List α) (k : Nat) (hk : k < L.length) (i : Int) : idxF p (L.drop k) i = if p (L.getD k d) then i else idxF p (L.drop (k + 1)) (i + 1) := by
  rw [List.drop_eq_getElem_cons hk, idxF]
  simp [List.getD_eq_getElem?_getD, List.getElem?_eq_getElem hk]
def nodeV (x : S30) (v : Value) : Value := .agg #[.int .u64 x.f0, .int .i64 x.f1, .string x.f2, v]
theorem at_node {w : World} {A : Option Addr} {n : Nat} {xs : List S30} (h : Kd.C k30 w A n xs) (k : Nat) (hk : k < n) : ∃ (ad : Addr) (A3 : Option Addr) (c3 : Nat), A = some ad ∧ w.cell? (ad.add (k * 4)) = some (.int .u64 (xs.getD k z30).f0) ∧ w.cell? ⟨(ad.add (k * 4)).block, (ad.add (k * 4)).off + 1, none⟩ = some (.int .i64 (xs.getD k z30).f1) ∧ w.cell? ⟨(ad.add (k * 4)).block, (ad.add (k * 4)).off + 2, none⟩ = some (.string (xs.getD k z30).f2) ∧ w.cell? ⟨(ad.add (k * 4)).block, (ad.add (k * 4)).off + 3, none⟩ = some (.slice A3 (xs.getD k z30).f3.length c3) ∧ (xs.getD k z30).f3.length ≤ c3 ∧ k44.C w A3 (xs.getD k z30).f3.length (xs.getD k z30).f3 := by
  obtain ⟨ad, A3, c3, e, h0, h1, h2, h3, h4, h5⟩ := at_T30 h (k : Int) (by omega) (by omega)
  exact ⟨ad, A3, c3, e, h0, h1, h2, h3, h4, h5⟩
theorem isId_calls (x : S30) (v : Value) (id : Int) (p : Addr) (w : World) (hp : w.cell? p = some (.int .u64 id)) : Calls Tryd.prog 43 #[.agg #[.int .u64 x.f0, .int .i64 x.f1, .string x.f2, v], .pointer (some p)] w fun e w' => e = .returned (.bool (decide (x.f0 = id))) ∧ Ext w w' := by
  have hq := ((Ext.refl w).alloc (.cells #[.int .u64 x.f0, .int .i64 x.f1, .string x.f2, v] 30)).cell hp
  go_enter Tryd.func43, Tryd.ntmps43
  go_wp2
  go_ret
  exact ⟨rfl, (Ext.refl _).alloc _⟩
theorem indexNode_calls (id : Int) (p : Addr) (A : Option Addr) (c : Nat) (l : List S30) (w : World) (hr : Kd.C k30 w A l.length l) (hc : l.length ≤ c) (hp : w.cell? p = some (.int .u64 id)) :
    Calls Tryd.prog 42 #[.slice A l.length c, .func (.func 43) #[] #[.pointer (some p)]] w fun e w' => e = .returned (.int .i64 (idxF (fun x => decide (x.f0 = id)) l 0)) ∧ Ext w w' := by
  obtain ⟨R, hR⟩ : ∃ R, idxF (fun x => decide (x.f0 = id)) l 0 = R := ⟨_, rfl⟩
  rw [hR]
  have HR := Lib.hid hR
  have hm := hr.2.1
  have HC := Lib.hid hr
  have HP := Lib.hid hp
  clear hR hr hp
  go_enter Tryd.func42, Tryd.ntmps42
  go_wp2
  go_loopw [8] (fun i wr => ∃ (k : Nat), k ≤ l.length ∧ i = .int .i64 (k : Int) ∧ idxF (fun x => decide (x.f0 = id)) (l.drop k) k = R ∧ Ext w wr) (fun i _ => l.length - (intOf i).toNat)
  case atStart => exact ⟨0, Nat.zero_le _, rfl, HR.out, Ext.refl _⟩
  case round =>
    obtain ⟨k, hk, rfl, hA, hX⟩ := hrel
    have HA := Lib.hid hA
    clear hA
    by_cases hlt : k < l.length
    · obtain ⟨ad, A3, c3, hb, d0, d1, d2, d3, hc3, hn⟩ := at_node HC.out k hlt
      subst hb
      obtain ⟨X, hX0⟩ : ∃ X, l.getD k z30 = X := ⟨_, rfl⟩
      rw [hX0] at d0 d1 d2 d3
      have HX := Lib.hid hX0
      clear hX0 hn hc3
      replace d0 := hX.cell d0
      replace d1 := hX.cell d1
      replace d2 := hX.cell d2
      replace d3 := hX.cell d3
      have hpw := hX.cell HP.out
      cases hin : decide (X.f0 = id) with
      | true =>
        have HI := Lib.hid hin
        clear hin
        go_wp2_with (go_at_call 43; (with_reducible refine (isId_calls X _ id p _ hpw).mono ?_); rintro e w' ⟨rfl, hq⟩; rw [HI.out])
        go_ret
        refine ⟨?_, hX.trans hq⟩
        have h1 := HA.out
        rw [idxF_drop _ z30 l k hlt, HX.out, if_pos HI.out] at h1
        rw [← h1]; rfl
      | false =>
        have HI := Lib.hid hin
        clear hin
        go_wp2_with (go_at_call 43; (with_reducible refine (isId_calls X _ id p _ hpw).mono ?_); rintro e w' ⟨rfl, hq⟩; rw [HI.out])
        go_roundw
        case rel =>
          refine ⟨k + 1, by omega, by go_num, ?_, hX.trans hq⟩
          have h1 := HA.out
          rw [idxF_drop _ z30 l k hlt, HX.out, if_neg (by rw [HI.out]; exact Bool.false_ne_true)] at h1
          simpa using h1
        case measure => simp [intOf]; omega
    · go_wp2
      go_ret
      refine ⟨?_, hX⟩
      rw [← HA.out, List.drop_of_length_le (by omega)]; rfl
def findF (l : List S30) (id : Int) : Int := if id = 0 then -1 else idxF (fun x => decide (x.f0 = id)) l 0
theorem find_calls (id : Int) (A : Option Addr) (c : Nat) (l : List S30) (w : World) (hr : Kd.C k30 w A l.length l) (hc : l.length ≤ c) :
    Calls Tryd.prog 19 #[.slice A l.length c, .int .u64 id] w fun e w' => e = .returned (.int .i64 (findF l id)) ∧ Ext w w' := by
  have hb : Ext w (w.alloc (.cells #[.int .u64 id] 27)) := (Ext.refl w).alloc _
  have hr' : Kd.C k30 (w.alloc (.cells #[.int .u64 id] 27)) A l.length l := Kd.C_below hr hb.out
  have hi := fun p h => indexNode_calls id p A c l (w.alloc (.cells #[.int .u64 id] 27)) hr' hc h
  unfold findF
  obtain ⟨R, hR⟩ : ∃ R, idxF (fun x => decide (x.f0 = id)) l 0 = R := ⟨_, rfl⟩
  rw [hR] at hi ⊢
  clear hR
  have hcell : (w.alloc (.cells #[.int .u64 id] 27)).cell? ⟨w.heap.size, 0, none⟩ = some (.int .u64 id) := cell_at (h_newN _ _ _ rfl) rfl
  have HI := Lib.hid (hi _ hcell)
  clear hi hr hr'
  by_cases h0 : id = 0
  · rw [if_pos h0]
    go_enter Tryd.func19, Tryd.ntmps19
    go_wp2
    go_ret
    exact ⟨rfl, (Ext.refl w).alloc _⟩
  · rw [if_neg h0]
    go_enter Tryd.func19, Tryd.ntmps19
    go_wp2_with (go_at_call 42; (with_reducible refine HI.out.mono ?_); rintro e w' ⟨rfl, hq⟩)
    go_ret
    exact ⟨rfl, hb.trans hq⟩
end Go.Proofs.YthknhhpcogakfaaDoor.Hand
