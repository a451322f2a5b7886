/- rank: the law RankRising. -/
import Derived.Test.YtemiocaiimdblaaDoorRankL
set_option linter.unusedVariables false
set_option linter.unusedSimpArgs false
namespace Go.Proofs.YtemiocaiimdblaaDoor.Hand
open Go Go.RowKit Go.Shelf Go.Proofs.YtemiocaiimdblaaDoor.K
set_option maxRecDepth 100000
set_option maxHeartbeats 400000
def keyAt (ks : List ByteArray) (k : Nat) : ByteArray := ks.getD k ⟨#[]⟩
/-- The key ahead of number k. -/
def prevK (a : ByteArray) (ks : List ByteArray) : Nat → ByteArray
  | 0 => a
  | k + 1 => keyAt ks k
theorem some_spec {b : ByteArray} : ∀ {n : Nat} {a : ByteArray} {ks : List ByteArray}, someL b n a = some ks → ∀ k, k < ks.length →
    rightB (keyAt ks k) = true ∧ lessB (prevK a ks k) (keyAt ks k) = true ∧ (b.toList.isEmpty = false → lessB (keyAt ks k) b = true)
  | 0, a, ks, h, k, hk => by simp only [someL, Option.some.injEq] at h; subst h; simp at hk
  | n + 1, a, ks, h, k, hk => by
    rw [someL] at h
    cases hx : nextK a b with
    | none => rw [hx] at h; cases h
    | some x =>
      rw [hx] at h
      simp only [Option.map_eq_some_iff] at h
      obtain ⟨l, h1, rfl⟩ := h
      obtain ⟨p1, p2, p3, p4⟩ := next_some hx
      cases k with
      | zero => exact ⟨p1, p2, fun hb => p3 (by rw [empty_bool] at hb; have := of_decide_eq_false hb; omega)⟩
      | succ k =>
        have ih := some_spec h1 k (by simpa using hk)
        refine ⟨by simpa [keyAt] using ih.1, ?_, fun hb => by simpa [keyAt] using ih.2.2 hb⟩
        have h2 := ih.2.1
        cases k with
        | zero => simpa [prevK, keyAt] using h2
        | succ k => simpa [prevK, keyAt] using h2
theorem row_strings {w : World} {base : Nat} {v : Value} {ks : List ByteArray} (h : w.ownsRow base 9 1 v ks.length (ks.map Value.string)) :
    ∃ (c : Nat) (p : Option Addr), v = .slice p ks.length c ∧ ∀ k, k < ks.length → ∃ b, p = some ⟨b, 0, none⟩ ∧ w.cell? ⟨b, k, none⟩ = some (.string (keyAt ks k)) := by
  rcases h.2 with ⟨rfl, h0⟩ | ⟨g, cap, cur, rfl, _⟩
  · exact ⟨0, none, by rw [h0], fun k hk => by omega⟩
  · refine ⟨cap, _, rfl, fun k hk => ⟨g, rfl, ?_⟩⟩
    rw [h.cellAt k (by omega)]
    simp [keyAt, List.getD_eq_getElem?_getD, List.getElem?_eq_getElem hk]
theorem rankRising_calls (a0 b0 : ByteArray) (n : Int) (g : Addr) (w : World) (hg : Gv g w) (ha0 : a0.size ≤ maxLen) (hb0 : b0.size ≤ maxLen) (hn : -9223372036854775808 ≤ n) (hn2 : n ≤ 9223372036854775807) :
    Calls Tryd.prog 7 #[.string a0, .string b0, .int .i64 n] w fun e w' => e = .returned (.bool true) ∧ Ext w w' := by
  have hE : Ext w w := Ext.refl w
  by_cases h0 : n < 0
  · have H0 := Lib.hid h0
    have h1 : decide (n < 0) = true := by simp [h0]
    clear h0
    go_enter Tryd.func7, Tryd.ntmps7
    go_wp2_with (go_at_call 9; (with_reducible refine (shown_calls g _ (gvx hE hg)).mono ?_); rintro e w' ⟨rfl, hx⟩; replace hE := hE.trans hx; clear hx)
    go_ret
    exact ⟨rfl, hE⟩
  have h1 : decide (n < 0) = false := by simpa using h0
  by_cases h6 : 60 < n
  · have H6 := Lib.hid h6
    have h2 : decide (60 < n) = true := by simp [h6]
    clear h6 h0
    go_enter Tryd.func7, Tryd.ntmps7
    go_wp2_with (go_at_call 9; (with_reducible refine (shown_calls g _ (gvx hE hg)).mono ?_); rintro e w' ⟨rfl, hx⟩; replace hE := hE.trans hx; clear hx)
    go_ret
    exact ⟨rfl, hE⟩
  have h2 : decide (60 < n) = false := by simpa using h6
  obtain ⟨m, rfl⟩ : ∃ m : Nat, n = (m : Int) := ⟨n.toNat, by omega⟩
  have hm : m ≤ 60 := by omega
  have hca := cut_calls a0
  have hcb := cut_calls b0
  obtain ⟨a, e1⟩ : ∃ a, cutF 210 a0 = a := ⟨_, rfl⟩
  obtain ⟨b, e2⟩ : ∃ b, cutF 210 b0 = b := ⟨_, rfl⟩
  rw [e1] at hca
  rw [e2] at hcb
  clear e1 e2 h0 h6
  have hsc := some_calls a b (m : Int) g
  have hsf : someF a b (m : Int) = someL b m a := by unfold someF; rw [if_neg (by omega)]; rfl
  rw [hsf] at hsc
  clear hsf
  cases hs : someL b m a with
  | none =>
    rw [hs] at hsc
    clear hs
    go_enter Tryd.func7, Tryd.ntmps7
    go_wp2_with (first
      | (go_at_call 9; (with_reducible refine (shown_calls g _ (gvx hE hg)).mono ?_); rintro e w' ⟨rfl, hx⟩; replace hE := hE.trans hx; clear hx)
      | (go_at_call 10; first | (with_reducible refine (hca _ ha0).mono ?_) | (with_reducible refine (hcb _ hb0).mono ?_)
         rintro e w' ⟨rfl, rfl⟩)
      | (go_at_call 17; refine (hsc _ (gvx hE hg) hn hn2).mono ?_; rintro e w' ⟨rfl, hx⟩; replace hE := hE.trans hx; clear hx))
    go_ret
    exact ⟨rfl, hE⟩
  | some ks =>
    rw [hs] at hsc
    have hlen := some_len hs
    have HS := Lib.hid (some_spec hs)
    clear hs
    have Hlen := Lib.hid hlen
    clear hlen
    cases nb : b.toList.isEmpty with
    | true =>
      go_enter Tryd.func7, Tryd.ntmps7
      go_wp2_with (first
        | (go_at_call 9; (with_reducible refine (shown_calls g _ (gvx hE hg)).mono ?_); rintro e w' ⟨rfl, hx⟩; replace hE := hE.trans hx; clear hx)
        | (go_at_call 10; first | (with_reducible refine (hca _ ha0).mono ?_) | (with_reducible refine (hcb _ hb0).mono ?_)
           rintro e w' ⟨rfl, rfl⟩)
        | (go_at_call 17; refine (hsc _ (gvx hE hg) hn hn2).mono ?_; rintro e w1 ⟨v, rfl, hx, hrow⟩; replace hE := hE.trans hx; clear hx))
      obtain ⟨c_, A_, rfl, hcell⟩ := row_strings hrow
      go_loopw [10, 11] (fun l i wr => Ext w1 wr ∧ ∃ (k : Nat), k ≤ ks.length ∧ l = .string (prevK a ks k) ∧ i = .int .i64 (k : Int)) (fun _ i _ => ks.length - (intOf i).toNat)
      case atStart => exact ⟨Ext.refl _, 0, by omega, rfl, rfl⟩
      case round =>
        obtain ⟨hX, k, hk, rfl, rfl⟩ := hrel
        have hE2 := hE.trans hX
        by_cases hp : k < ks.length
        · have HP := Lib.hid hp
          have hk60 : k ≤ 60 := by have := Hlen.out; omega
          obtain ⟨b_, rfl, hcb_⟩ := hcell k hp
          have hcl := fun (W : World) (h : Ext wr W) => (hX.trans h).cell hcb_
          have hcl0 := hcl wr (Ext.refl _)
          have HR := Lib.hid (HS.out k hp).1
          have HL1 := Lib.hid (HS.out k hp).2.1
          have hnx : prevK a ks (k + 1) = keyAt ks k := rfl
          cases no : (prevK a ks k).toList.isEmpty with
          | true =>
            go_wp2_with (first
              | (go_at_call 13; (with_reducible refine (right_calls _ _).mono ?_); rintro e w' ⟨rfl, hx⟩; rw [HR.out]; have hcl1 := hcl _ hx)
              | (go_at_call 15; (with_reducible refine (less_calls _ _ _).mono ?_); rintro e w' ⟨rfl, rfl⟩; rw [HL1.out]))
            go_roundw
            case rel =>
              exact ⟨hX.trans hx, k + 1, by have := HP.out; omega, rfl, by go_num⟩
            case measure =>
              have := HP.out
              simp [intOf]; omega
          | false =>
            go_wp2_with (first
              | (go_at_call 13; (with_reducible refine (right_calls _ _).mono ?_); rintro e w' ⟨rfl, hx⟩; rw [HR.out]; have hcl1 := hcl _ hx)
              | (go_at_call 15; (with_reducible refine (less_calls _ _ _).mono ?_); rintro e w' ⟨rfl, rfl⟩; rw [HL1.out]))
            go_roundw
            case rel => exact ⟨hX.trans hx, k + 1, by have := HP.out; omega, rfl, by go_num⟩
            case measure =>
              have := HP.out
              simp [intOf]; omega
        · have Hlen2 := Hlen.out
          go_wp2
          go_ret
          exact ⟨rfl, hE2⟩
    | false =>
      go_enter Tryd.func7, Tryd.ntmps7
      go_wp2_with (first
        | (go_at_call 9; (with_reducible refine (shown_calls g _ (gvx hE hg)).mono ?_); rintro e w' ⟨rfl, hx⟩; replace hE := hE.trans hx; clear hx)
        | (go_at_call 10; first | (with_reducible refine (hca _ ha0).mono ?_) | (with_reducible refine (hcb _ hb0).mono ?_)
           rintro e w' ⟨rfl, rfl⟩)
        | (go_at_call 17; refine (hsc _ (gvx hE hg) hn hn2).mono ?_; rintro e w1 ⟨v, rfl, hx, hrow⟩; replace hE := hE.trans hx; clear hx))
      obtain ⟨c_, A_, rfl, hcell⟩ := row_strings hrow
      go_loopw [10, 11] (fun l i wr => Ext w1 wr ∧ ∃ (k : Nat), k ≤ ks.length ∧ l = .string (prevK a ks k) ∧ i = .int .i64 (k : Int)) (fun _ i _ => ks.length - (intOf i).toNat)
      case atStart => exact ⟨Ext.refl _, 0, by omega, rfl, rfl⟩
      case round =>
        obtain ⟨hX, k, hk, rfl, rfl⟩ := hrel
        have hE2 := hE.trans hX
        by_cases hp : k < ks.length
        · have HP := Lib.hid hp
          have hk60 : k ≤ 60 := by have := Hlen.out; omega
          obtain ⟨b_, rfl, hcb_⟩ := hcell k hp
          have hcl := fun (W : World) (h : Ext wr W) => (hX.trans h).cell hcb_
          have hcl0 := hcl wr (Ext.refl _)
          have HR := Lib.hid (HS.out k hp).1
          have HL1 := Lib.hid (HS.out k hp).2.1
          have HL2 := Lib.hid ((HS.out k hp).2.2 nb)
          have hnx : prevK a ks (k + 1) = keyAt ks k := rfl
          cases no : (prevK a ks k).toList.isEmpty with
          | true =>
            go_wp2_with (first
              | (go_at_call 13; (with_reducible refine (right_calls _ _).mono ?_); rintro e w' ⟨rfl, hx⟩; rw [HR.out]; have hcl1 := hcl _ hx)
              | (go_at_call 15; (with_reducible refine (less_calls _ _ _).mono ?_); rintro e w' ⟨rfl, rfl⟩; first | rw [HL1.out] | rw [HL2.out]))
            go_roundw
            case rel => exact ⟨hX.trans hx, k + 1, by have := HP.out; omega, rfl, by go_num⟩
            case measure =>
              have := HP.out
              simp [intOf]; omega
          | false =>
            go_wp2_with (first
              | (go_at_call 13; (with_reducible refine (right_calls _ _).mono ?_); rintro e w' ⟨rfl, hx⟩; rw [HR.out]; have hcl1 := hcl _ hx)
              | (go_at_call 15; (with_reducible refine (less_calls _ _ _).mono ?_); rintro e w' ⟨rfl, rfl⟩; first | rw [HL1.out] | rw [HL2.out]))
            go_roundw
            case rel => exact ⟨hX.trans hx, k + 1, by have := HP.out; omega, rfl, by go_num⟩
            case measure =>
              have := HP.out
              simp [intOf]; omega
        · have Hlen2 := Hlen.out
          go_wp2
          go_ret
          exact ⟨rfl, hE2⟩
end Go.Proofs.YtemiocaiimdblaaDoor.Hand
