/- utf: whether a number is in one of some spans. -/
import Derived.Test.YtjbapiogekjdnaaOnce
import Derived.Test.YtjbapiogekjdnaaKReg
import Derived.WalkSpells
import Derived.WalkLawsBesides
import Derived.Lib.Bytealg
import Derived.Deep.QuietTactic
import Derived.BigQuiet
import Derived.KernelRfl
import Derived.Lib.Hide
set_option linter.unusedVariables false
set_option linter.unusedSimpArgs false
namespace Go.Proofs.Ytjbapiogekjdnaa.Hand
open Go Go.RowKit Go.Proofs.Ytjbapiogekjdnaa.K
set_option maxRecDepth 100000
set_option maxHeartbeats 1000000
theorem isIn1_calls (lo hi r : Int) (p : Addr) (w : World) (h0 : 0 ≤ lo) (h1 : lo ≤ 2000000) (h2 : 0 ≤ hi) (h3 : hi ≤ 2000000) (hc : w.cell? p = some (.int .i64 r)) :
    Calls Try.prog 43 #[.agg #[.int .i32 lo, .int .i32 hi], .pointer (some p)] w fun e w' => e = .returned (.bool (decide (lo ≤ r) && decide (r ≤ hi))) ∧ Ext w w' := by
  have hc' : ∀ o, (w.alloc o).cell? p = some (.int .i64 r) := fun o => ((Ext.refl w).alloc o).cell hc
  by_cases a : lo ≤ r
  · have ha : decide (lo ≤ r) = true := by simpa using a
    by_cases b : r ≤ hi
    · have hb : decide (r ≤ hi) = true := by simpa using b
      rw [ha, hb]
      go_enter Try.func43, Try.ntmps43
      go_wp2
      go_ret
      exact ⟨rfl, (Ext.refl _).alloc _⟩
    · have hb : decide (r ≤ hi) = false := by simpa using b
      rw [ha, hb]
      go_enter Try.func43, Try.ntmps43
      go_wp2
      go_ret
      exact ⟨rfl, (Ext.refl _).alloc _⟩
  · have ha : decide (lo ≤ r) = false := by simpa using a
    rw [ha]
    go_enter Try.func43, Try.ntmps43
    go_wp2
    go_ret
    exact ⟨rfl, (Ext.refl _).alloc _⟩
/-- A row of spans, read. -/
def SpansAt (w : World) (b : Nat) (L : List (Int × Int)) : Prop :=
  (∀ j, j < L.length → w.cell? ⟨b, j * 2, none⟩ = some (.int .i32 (L.getD j (0, 0)).1) ∧ w.cell? ⟨b, j * 2 + 1, none⟩ = some (.int .i32 (L.getD j (0, 0)).2)) ∧ ∀ x ∈ L, 0 ≤ x.1 ∧ x.1 ≤ 2000000 ∧ 0 ≤ x.2 ∧ x.2 ≤ 2000000
theorem SpansAt.ext {w w' : World} {b : Nat} {L : List (Int × Int)} (h : SpansAt w b L) (hx : Ext w w') : SpansAt w' b L := ⟨fun j hj => ⟨hx.cell (h.1 j hj).1, hx.cell (h.1 j hj).2⟩, h.2⟩
def inB (r : Int) (x : Int × Int) : Bool := decide (x.1 ≤ r) && decide (r ≤ x.2)
theorem any_drop {α : Type} (p : α → Bool) (d : α) (L : List α) (k : Nat) (hk : k < L.length) : (L.drop k).any p = (p (L.getD k d) || (L.drop (k + 1)).any p) := by
  rw [List.drop_eq_getElem_cons hk, List.any_cons]
  simp [List.getD_eq_getElem?_getD, List.getElem?_eq_getElem hk]
def FoundAt (b : Bool) (e : Ending) : Prop := ∃ i : Int, -1 ≤ i ∧ i ≤ 9000000000000000000 ∧ decide (0 ≤ i) = b ∧ e = .returned (.int .i64 i)
theorem indexSpan_calls (r : Int) (b c : Nat) (L : List (Int × Int)) (p : Addr) (w : World) (hL : SpansAt w b L) (hn : L.length ≤ 100) (hc : w.cell? p = some (.int .i64 r)) :
    Calls Try.prog 48 #[.slice (some ⟨b, 0, none⟩) L.length c, .func (.func 43) #[] #[.pointer (some p)]] w fun e w' => FoundAt (L.any (inB r)) e ∧ Ext w w' := by
  obtain ⟨R, hR⟩ : ∃ R, L.any (inB r) = R := ⟨_, rfl⟩
  rw [hR]
  have HR := Lib.hid hR
  have HL := Lib.hid hL
  have HC := Lib.hid hc
  clear hR hL hc
  go_enter Try.func48, Try.ntmps48
  go_wp2
  go_loopw [8] (fun i wr => ∃ (k : Nat), k ≤ L.length ∧ i = .int .i64 (k : Int) ∧ (L.drop k).any (inB r) = R ∧ Ext w wr) (fun i _ => L.length - (intOf i).toNat)
  case atStart => exact ⟨0, Nat.zero_le _, rfl, HR.out, Ext.refl _⟩
  case round =>
    obtain ⟨k, hk, rfl, hA, hX⟩ := hrel
    have HA := Lib.hid hA
    clear hA
    by_cases hlt : k < L.length
    · obtain ⟨d0, d1⟩ := HL.out.1 k hlt
      have e0 := hX.cell d0
      have e1 := hX.cell d1
      obtain ⟨z0, z1, z2, z3⟩ := HL.out.2 (L.getD k (0, 0)) (by rw [List.getD_eq_getElem?_getD, List.getElem?_eq_getElem hlt]; exact List.getElem_mem hlt)
      obtain ⟨X, hX0⟩ : ∃ X, L.getD k (0, 0) = X := ⟨_, rfl⟩
      rw [hX0] at e0 e1 z0 z1 z2 z3
      have HX := Lib.hid hX0
      clear hX0 d0 d1
      have hcw := hX.cell HC.out
      cases hin : inB r X with
      | true =>
        have HI := Lib.hid hin
        clear hin
        go_wp2_with (go_at_call 43; (with_reducible refine (isIn1_calls _ _ r p _ z0 z1 z2 z3 hcw).mono ?_); rintro e w' ⟨rfl, hq⟩; rw [show (decide (X.1 ≤ r) && decide (r ≤ X.2)) = true from HI.out])
        go_ret
        refine ⟨⟨k, by omega, by omega, ?_, rfl⟩, hX.trans hq⟩
        have h1 := HA.out
        rw [any_drop (inB r) (0, 0) L k hlt, HX.out, HI.out] at h1
        rw [← h1]; simp
      | false =>
        have HI := Lib.hid hin
        clear hin
        go_wp2_with (go_at_call 43; (with_reducible refine (isIn1_calls _ _ r p _ z0 z1 z2 z3 hcw).mono ?_); rintro e w' ⟨rfl, hq⟩; rw [show (decide (X.1 ≤ r) && decide (r ≤ X.2)) = false from HI.out])
        go_roundw
        case rel =>
          refine ⟨k + 1, by omega, by go_num, ?_, hX.trans hq⟩
          have h1 := HA.out
          rw [any_drop (inB r) (0, 0) L k hlt, HX.out, HI.out] at h1
          simpa using h1
        case measure => simp [intOf]; omega
    · go_wp2
      go_ret
      refine ⟨⟨-1, by omega, by omega, ?_, rfl⟩, hX⟩
      rw [← HA.out, List.drop_of_length_le (by omega)]; rfl
theorem isIn_calls (r : Int) (b c : Nat) (L : List (Int × Int)) (w : World) (hL : SpansAt w b L) (hn : L.length ≤ 100) :
    Calls Try.prog 36 #[.int .i64 r, .slice (some ⟨b, 0, none⟩) L.length c] w fun e w' => e = .returned (.bool (L.any (inB r))) ∧ Ext w w' := by
  have hs := fun (W : World) (p : Addr) (h : SpansAt W b L) (h' : W.cell? p = some (.int .i64 r)) => indexSpan_calls r b c L p W h hn h'
  have hL' := hL.ext ((Ext.refl w).alloc (.cells #[.int .i64 r] 3))
  have HL := Lib.hid hL'
  clear hL hL'
  obtain ⟨R, hR⟩ : ∃ R, L.any (inB r) = R := ⟨_, rfl⟩
  rw [hR] at hs ⊢
  clear hR
  go_enter Try.func36, Try.ntmps36
  go_wp2_with (first | (go_at_call 48; (with_reducible refine (hs _ _ HL.out (by simp)).mono ?_); rintro e w' ⟨⟨i, i0, i1, hi, rfl⟩, hq⟩) | (go_at_call 42; go_in))
  go_ret
  exact ⟨rfl, ((Ext.refl w).alloc _).trans hq⟩
end Go.Proofs.Ytjbapiogekjdnaa.Hand
