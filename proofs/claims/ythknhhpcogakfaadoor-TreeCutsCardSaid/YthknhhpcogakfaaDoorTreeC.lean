/- tree: attributes that are right. -/
import Derived.Test.YthknhhpcogakfaaDoorTreeA
set_option linter.unusedVariables false
set_option linter.unusedSimpArgs false
namespace Go.Proofs.YthknhhpcogakfaaDoor.Hand
open Go Go.RowKit Go.Proofs.YthknhhpcogakfaaDoor.K Go.Proofs.YthknhhpcogakfaaDoor.PT Go.Proofs.YthknhhpcogakfaaDoorW.PrintWords Go.Proofs.YthknhhpcogakfaaDoorW.PrintLast Go.Proofs.YthknhhpcogakfaaDoorW.PrintMore
set_option maxRecDepth 100000
set_option maxHeartbeats 2000000
theorem at_attr {w : World} {A : Option Addr} {n : Nat} {xs : List S44} (h : Kd.C k44 w A n xs) (k : Nat) (hk : k < n) : ∃ (ad : Addr), A = some ad ∧ w.cell? (ad.add (k * 2)) = some (.string (xs.getD k z44).f0) ∧ w.cell? ⟨(ad.add (k * 2)).block, (ad.add (k * 2)).off + 1, none⟩ = some (.string (xs.getD k z44).f1) := at_T44 h (k : Int) (by omega) (by omega)
theorem row_two {w : World} {b : Nat} {a c : ByteArray} {t : TypeId} {z : Nat × Nat} (h : w.heap[b]? = some (.cells #[.string a, .string c] t z)) : Kd.C Kd.string w (some ⟨b, 0, none⟩) ([a, c] : List ByteArray).length [a, c] := by
  refine ⟨rfl, by simp, fun _ => ⟨_, rfl, fun j p hj => ⟨[.string p], rfl, rfl, fun i u hu => ?_⟩⟩⟩
  rcases i with _ | i
  · obtain rfl : Value.string p = u := by simpa using hu
    rcases j with _ | _ | j
    · obtain rfl : a = p := by simpa using hj
      exact cell_at h rfl
    · obtain rfl : c = p := by simpa using hj
      exact cell_at h rfl
    · simp at hj
  · simp at hu
theorem short2_calls (a c : ByteArray) (b : Nat) (t : TypeId) (z : Nat × Nat) (w : World) (h : w.heap[b]? = some (.cells #[.string a, .string c] t z)) :
    Calls Tryd.prog 32 #[.slice (some ⟨b, 0, none⟩) 2 2] w fun e w' => e = .returned (.bool (!(longS a || longS c))) ∧ w = w' :=
  (short_calls (some ⟨b, 0, none⟩) 2 [a, c] w (row_two h) (Nat.le_refl _)).mono fun e w' ⟨h1, h2⟩ => ⟨by rw [h1]; simp, h2⟩
theorem short1_calls (a : ByteArray) (b : Nat) (t : TypeId) (z : Nat × Nat) (w : World) (h : w.heap[b]? = some (.cells #[.string a] t z)) :
    Calls Tryd.prog 32 #[.slice (some ⟨b, 0, none⟩) 1 1] w fun e w' => e = .returned (.bool (!(longS a))) ∧ w = w' := by
  have hr : Kd.C Kd.string w (some ⟨b, 0, none⟩) ([a] : List ByteArray).length [a] := by
    refine ⟨rfl, by simp, fun _ => ⟨_, rfl, fun j p hj => ⟨[.string p], rfl, rfl, fun i u hu => ?_⟩⟩⟩
    rcases i with _ | i
    · obtain rfl : Value.string p = u := by simpa using hu
      rcases j with _ | j
      · obtain rfl : a = p := by simpa using hj
        exact cell_at h rfl
      · simp at hj
    · simp at hu
  exact (short_calls (some ⟨b, 0, none⟩) 1 [a] w hr (Nat.le_refl _)).mono fun e w' ⟨h1, h2⟩ => ⟨by rw [h1]; simp, h2⟩
/-- Attributes' names rise, and texts are short. -/
def leB (a b : ByteArray) : Bool := Op.bytesLess a.toList b.toList || a.toList == b.toList
def attrsL : ByteArray → List S44 → Bool
  | _, [] => true
  | p, x :: t => !leB x.f0 p && !(longS x.f0 || longS x.f1) && attrsL x.f0 t
def attrsR (l : List S44) : Bool := attrsL ⟨#[]⟩ l && decide ((l.length : Int) ≤ 20)
theorem attrsL_drop (p : ByteArray) (L : List S44) (k : Nat) (hk : k < L.length) : attrsL p (L.drop k) = (!leB (L.getD k z44).f0 p && !(longS (L.getD k z44).f0 || longS (L.getD k z44).f1) && attrsL (L.getD k z44).f0 (L.drop (k + 1))) := by
  rw [List.drop_eq_getElem_cons hk, attrsL]
  simp [List.getD_eq_getElem?_getD, List.getElem?_eq_getElem hk]
theorem attrs_calls (A : Option Addr) (c : Nat) (l : List S44) (w : World) (hr : Kd.C k44 w A l.length l) (hc : l.length ≤ c) :
    Calls Tryd.prog 33 #[.slice A l.length c] w fun e w' => e = .returned (.bool (attrsR l)) ∧ Ext w w' := by
  unfold attrsR
  obtain ⟨R, hR⟩ : ∃ R, attrsL ⟨#[]⟩ l = R := ⟨_, rfl⟩
  rw [hR]
  have HR := Lib.hid hR
  have hm := hr.2.1
  have HC := Lib.hid hr
  clear hR hr
  go_enter Tryd.func33, Tryd.ntmps33
  go_wp2
  go_loopw [3, 8] (fun p i wr => ∃ (k : Nat) (pa : ByteArray), k ≤ l.length ∧ p = .string pa ∧ i = .int .i64 (k : Int) ∧ attrsL pa (l.drop k) = R ∧ Ext w wr) (fun _ i _ => l.length - (intOf i).toNat)
  case atStart => exact ⟨0, _, Nat.zero_le _, rfl, rfl, HR.out, Ext.refl _⟩
  case round =>
    obtain ⟨k, pa, hk, rfl, rfl, hA, hX⟩ := hrel
    have HA := Lib.hid hA
    clear hA
    by_cases hlt : k < l.length
    · obtain ⟨ad, hb, d0, d1⟩ := at_attr HC.out k hlt
      subst hb
      obtain ⟨X, hX0⟩ : ∃ X, l.getD k z44 = X := ⟨_, rfl⟩
      rw [hX0] at d0 d1
      have HX := Lib.hid hX0
      clear hX0
      replace d0 := hX.cell d0
      replace d1 := hX.cell d1
      have ret : leB X.f0 pa = true → Ending.returned (.bool false) = Ending.returned (.bool (R && decide ((l.length : Int) ≤ 20))) := fun hin => by
        have h1 := HA.out
        rw [attrsL_drop _ l k hlt, HX.out, hin] at h1
        rw [← h1]; rfl
      cases hin : Op.bytesLess X.f0.toList pa.toList with
      | true =>
        go_wp2
        go_ret
        exact ⟨ret (by simp [leB, hin]), hX.alloc _⟩
      | false =>
       cases hin2 : X.f0.toList == pa.toList with
       | true =>
        go_wp2
        go_ret
        exact ⟨ret (by simp [leB, hin2]), hX.alloc _⟩
       | false =>
        have HI := Lib.hid (show leB X.f0 pa = false by simp only [leB, hin, hin2, Bool.or_false])
        cases hs : longS X.f0 || longS X.f1 with
        | true =>
          have HS := Lib.hid hs
          clear hs
          go_wp2_with (go_at_call 32; (with_reducible refine (short2_calls X.f0 X.f1 _ _ _ _ (h_newN _ _ _ (by simp))).mono ?_); rintro e w' ⟨rfl, rfl⟩; rw [HS.out])
          go_ret
          refine ⟨?_, (hX.alloc _).alloc _⟩
          have h1 := HA.out
          rw [attrsL_drop _ l k hlt, HX.out, HI.out, HS.out] at h1
          rw [← h1]; rfl
        | false =>
          have HS := Lib.hid hs
          clear hs
          go_wp2_with (go_at_call 32; (with_reducible refine (short2_calls X.f0 X.f1 _ _ _ _ (h_newN _ _ _ (by simp))).mono ?_); rintro e w' ⟨rfl, rfl⟩; rw [HS.out])
          go_roundw
          case rel =>
            refine ⟨k + 1, X.f0, by omega, rfl, by go_num, ?_, (hX.alloc _).alloc _⟩
            have h1 := HA.out
            rw [attrsL_drop _ l k hlt, HX.out, HI.out, HS.out] at h1
            simpa using h1
          case measure => simp [intOf]; omega
    · go_wp2
      go_ret
      refine ⟨?_, hX⟩
      rw [← HA.out, List.drop_of_length_le (by omega)]; rfl
end Go.Proofs.YthknhhpcogakfaaDoor.Hand
