/- tree: short texts. -/
import Derived.Test.YthknhhpcogakfaaDoorPT0
import Derived.Test.YthknhhpcogakfaaDoorKReg
import Derived.WalkSpells
import Derived.WalkLawsBesides
import Derived.Deep.QuietTactic
import Derived.BigQuiet
import Derived.KernelRfl
import Derived.Lib.Hide
import Derived.WalkMore
set_option linter.unusedVariables false
set_option linter.unusedSimpArgs false
namespace Go.Proofs.YthknhhpcogakfaaDoor.Hand
open Go Go.RowKit Go.Proofs.YthknhhpcogakfaaDoor.K Go.Proofs.YthknhhpcogakfaaDoor.PT Go.Proofs.YthknhhpcogakfaaDoorW.PrintWords Go.Proofs.YthknhhpcogakfaaDoorW.PrintLast Go.Proofs.YthknhhpcogakfaaDoorW.PrintMore
set_option maxRecDepth 100000
set_option maxHeartbeats 2000000
theorem any_drop {α : Type} (p : α → Bool) (d : α) (L : List α) (k : Nat) (hk : k < L.length) : (L.drop k).any p = (p (L.getD k d) || (L.drop (k + 1)).any p) := by
  rw [List.drop_eq_getElem_cons hk, List.any_cons]
  simp [List.getD_eq_getElem?_getD, List.getElem?_eq_getElem hk]
def FoundAt (b : Bool) (e : Ending) : Prop := ∃ i : Int, -1 ≤ i ∧ i ≤ 9223372036854775807 ∧ decide (0 ≤ i) = b ∧ e = .returned (.int .i64 i)
theorem h_newN (w : World) (o : Obj) (n : Nat) (h : n = w.heap.size) : (w.alloc o).heap[n]? = some o := by subst h; show (w.heap.push o)[w.heap.size]? = some o; exact Array.getElem?_push_size
theorem h_old (w : World) (o : Obj) (k : Nat) (h : k < w.heap.size) : (w.alloc o).heap[k]? = w.heap[k]? := Below.heap_alloc _ _ _ h
theorem cell_at {w : World} {b j : Nat} {cs : Array Value} {t : TypeId} {z : Nat × Nat} {v : Value} (h : w.heap[b]? = some (.cells cs t z)) (hv : cs[j]? = some v) : w.cell? ⟨b, j, none⟩ = some v := by simp [World.cell?, h, hv]
def longS (s : ByteArray) : Bool := decide (100 < (s.size : Int))
theorem at_str {w : World} {A : Option Addr} {n : Nat} {xs : List ByteArray} (h : Kd.C Kd.string w A n xs) (k : Nat) (hk : k < n) : ∃ ad : Addr, A = some ad ∧ w.cell? (ad.add k) = some (.string (xs.getD k ⟨#[]⟩)) := by
  obtain ⟨ad, c, e, _, hK, hc⟩ := Kd.C_get h (⟨#[]⟩ : ByteArray) (k : Int) (by omega) (by omega)
  obtain rfl : c = [.string (xs.getD k ⟨#[]⟩)] := hK
  have := hc 0 _ rfl
  refine ⟨ad, e, ?_⟩
  simpa [Kd.string, Kd.scalar] using this
theorem long_calls (s : ByteArray) (w : World) : Calls Tryd.prog 52 #[.string s] w fun e w' => e = .returned (.bool (longS s)) ∧ w = w' := by
  unfold longS
  go_enter Tryd.func52, Tryd.ntmps52
  go_wp2
  go_ret
  exact ⟨rfl, rfl⟩
theorem indexStr_calls (A : Option Addr) (c : Nat) (l : List ByteArray) (w : World) (hr : Kd.C Kd.string w A l.length l) (hc : l.length ≤ c) :
    Calls Tryd.prog 58 #[.slice A l.length c, .func (.func 52) #[] #[]] w fun e w' => FoundAt (l.any longS) e ∧ w = w' := by
  obtain ⟨R, hR⟩ : ∃ R, l.any longS = R := ⟨_, rfl⟩
  rw [hR]
  have HR := Lib.hid hR
  have hm := hr.2.1
  have HC := Lib.hid hr
  clear hR hr
  go_enter Tryd.func58, Tryd.ntmps58
  go_wp2
  go_loopw [8] (fun i wr => ∃ (k : Nat), k ≤ l.length ∧ i = .int .i64 (k : Int) ∧ (l.drop k).any longS = R ∧ w = wr) (fun i _ => l.length - (intOf i).toNat)
  case atStart => exact ⟨0, Nat.zero_le _, rfl, HR.out, rfl⟩
  case round =>
    obtain ⟨k, hk, rfl, hA, rfl⟩ := hrel
    have HA := Lib.hid hA
    clear hA
    by_cases hlt : k < l.length
    · obtain ⟨ad, hb, d0⟩ := at_str HC.out k hlt
      subst hb
      obtain ⟨X, hX0⟩ : ∃ X, l.getD k ⟨#[]⟩ = X := ⟨_, rfl⟩
      rw [hX0] at d0
      have HX := Lib.hid hX0
      clear hX0
      cases hin : longS X with
      | true =>
        have HI := Lib.hid hin
        clear hin
        go_wp2_with (go_at_call 52; (with_reducible refine (long_calls _ _).mono ?_); rintro e w' ⟨rfl, rfl⟩; rw [show longS X = true from HI.out])
        go_ret
        refine ⟨⟨k, by omega, by omega, ?_, rfl⟩, rfl⟩
        have h1 := HA.out
        rw [any_drop longS ⟨#[]⟩ l k hlt, HX.out, HI.out] at h1
        rw [← h1]; simp
      | false =>
        have HI := Lib.hid hin
        clear hin
        go_wp2_with (go_at_call 52; (with_reducible refine (long_calls _ _).mono ?_); rintro e w' ⟨rfl, rfl⟩; rw [show longS X = false from HI.out])
        go_roundw
        case rel =>
          refine ⟨k + 1, by omega, by go_num, ?_, trivial⟩
          have h1 := HA.out
          rw [any_drop longS ⟨#[]⟩ l k hlt, HX.out, HI.out] at h1
          simpa using h1
        case measure => simp [intOf]; omega
    · go_wp2
      go_ret
      refine ⟨⟨-1, by omega, by omega, ?_, rfl⟩, rfl⟩
      rw [← HA.out, List.drop_of_length_le (by omega)]; rfl
theorem containsStr_calls (A : Option Addr) (c : Nat) (l : List ByteArray) (w : World) (hr : Kd.C Kd.string w A l.length l) (hc : l.length ≤ c) :
    Calls Tryd.prog 53 #[.slice A l.length c, .func (.func 52) #[] #[]] w fun e w' => e = .returned (.bool (l.any longS)) ∧ w = w' := by
  have HI := Lib.hid (indexStr_calls A c l w hr hc)
  obtain ⟨R, hR⟩ : ∃ R, l.any longS = R := ⟨_, rfl⟩
  rw [hR] at HI ⊢
  clear hR
  go_enter Tryd.func53, Tryd.ntmps53
  go_wp2_with (go_at_call 58; (with_reducible refine HI.out.mono ?_); rintro e w' ⟨⟨i, i0, i1, hi, rfl⟩, rfl⟩; have HD := Lib.hid hi; clear hi)
  go_ret
  refine ⟨?_, rfl⟩
  rw [← HD.out]
  rfl
theorem short_calls (A : Option Addr) (c : Nat) (l : List ByteArray) (w : World) (hr : Kd.C Kd.string w A l.length l) (hc : l.length ≤ c) :
    Calls Tryd.prog 32 #[.slice A l.length c] w fun e w' => e = .returned (.bool !(l.any longS)) ∧ w = w' := by
  have HI := Lib.hid (containsStr_calls A c l w hr hc)
  obtain ⟨R, hR⟩ : ∃ R, l.any longS = R := ⟨_, rfl⟩
  rw [hR] at HI ⊢
  clear hR
  go_enter Tryd.func32, Tryd.ntmps32
  go_wp2_with (go_at_call 53; (with_reducible refine HI.out.mono ?_); rintro e w' ⟨rfl, rfl⟩)
  go_ret
  exact ⟨rfl, rfl⟩
end Go.Proofs.YthknhhpcogakfaaDoor.Hand
