/- utf: whether all of a text's runes are such; names, texts. -/
import Derived.Test.YtjbapiogekjdnaaUtfF
set_option linter.unusedVariables false
set_option linter.unusedSimpArgs false
namespace Go.Proofs.Ytjbapiogekjdnaa.Hand
open Go Go.RowKit Go.Proofs.Ytjbapiogekjdnaa.K Go.Proofs.YtjbapiogekjdnaaW.PrintWords
set_option maxRecDepth 100000
set_option maxHeartbeats 2000000
theorem indexInt_calls (is : Int → Bool) (A : Option Addr) (c : Nat) (l : List Int) (P : Addr) (w : World) (hn : l.length ≤ 1000000000001)
    (hcell : ∀ k, k < l.length → ∃ b, A = some ⟨b, 0, none⟩ ∧ w.cell? ⟨b, k, none⟩ = some (.int .i64 (l.getD k 0)))
    (hcl : ∀ r W, Ext w W → Calls Try.prog 45 #[.int .i64 r, .pointer (some P)] W fun e w' => e = .returned (.bool (!(is r))) ∧ Ext W w') :
    Calls Try.prog 51 #[.slice A l.length c, .func (.func 45) #[] #[.pointer (some P)]] w fun e w' => FoundAt (l.any fun r => !(is r)) e ∧ Ext w w' := by
  obtain ⟨R, hR⟩ : ∃ R, (l.any fun r => !(is r)) = R := ⟨_, rfl⟩
  rw [hR]
  have HR := Lib.hid hR
  have HC := Lib.hid hcell
  have HF := Lib.hid hcl
  clear hR hcell hcl
  go_enter Try.func51, Try.ntmps51
  go_wp2
  go_loopw [8] (fun i wr => ∃ (k : Nat), k ≤ l.length ∧ i = .int .i64 (k : Int) ∧ ((l.drop k).any fun r => !(is r)) = R ∧ Ext w wr) (fun i _ => l.length - (intOf i).toNat)
  case atStart => exact ⟨0, Nat.zero_le _, rfl, HR.out, Ext.refl _⟩
  case round =>
    obtain ⟨k, hk, rfl, hA, hX⟩ := hrel
    have HA := Lib.hid hA
    clear hA
    by_cases hlt : k < l.length
    · obtain ⟨b, hb, d0⟩ := HC.out k hlt
      subst hb
      have e0 := hX.cell d0
      obtain ⟨X, hX0⟩ : ∃ X, l.getD k 0 = X := ⟨_, rfl⟩
      rw [hX0] at e0
      have HX := Lib.hid hX0
      clear hX0 d0
      have hcw := HF.out X
      cases hin : is X with
      | false =>
        rw [hin] at hcw
        have HI := Lib.hid hin
        clear hin
        go_wp2_with (go_at_call 45; (with_reducible refine (hcw _ hX).mono ?_); rintro e w' ⟨rfl, hq⟩)
        go_ret
        refine ⟨⟨k, by omega, by omega, ?_, rfl⟩, hX.trans hq⟩
        have h1 := HA.out
        rw [any_drop _ 0 l k hlt, HX.out, HI.out] at h1
        rw [← h1]; simp
      | true =>
        rw [hin] at hcw
        have HI := Lib.hid hin
        clear hin
        go_wp2_with (go_at_call 45; (with_reducible refine (hcw _ hX).mono ?_); rintro e w' ⟨rfl, hq⟩)
        go_roundw
        case rel =>
          refine ⟨k + 1, by omega, by go_num, ?_, hX.trans hq⟩
          have h1 := HA.out
          rw [any_drop _ 0 l k hlt, HX.out, HI.out] at h1
          simpa using h1
        case measure => simp [intOf]; omega
    · go_wp2
      go_ret
      refine ⟨⟨-1, by omega, by omega, ?_, rfl⟩, hX⟩
      rw [← HA.out, List.drop_of_length_le (by omega)]; rfl
theorem row_cells {w : World} {base e : Nat} {v : Value} {l : List Int} (h : w.ownsRow base e 1 v l.length (l.map (Value.int .i64))) : ∃ A c, v = .slice A l.length c ∧ ∀ k, k < l.length → ∃ b, A = some ⟨b, 0, none⟩ ∧ w.cell? ⟨b, k, none⟩ = some (.int .i64 (l.getD k 0)) := by
  rcases h.2 with ⟨rfl, hk⟩ | ⟨g, cap, cur, rfl, _, hg, _⟩
  · have h0 : l.length = 0 := hk
    exact ⟨none, 0, by rw [h0], fun k hk' => by omega⟩
  · refine ⟨_, _, rfl, fun k hk => ⟨g, rfl, ?_⟩⟩
    rw [h.cellAt k (by simpa using hk)]
    simp [List.getElem?_eq_getElem hk, List.getD_eq_getElem?_getD]
theorem allS_len (s : ByteArray) (h : s.size ≤ 1000000000000) : (allS s).1.length ≤ 1000000000001 := by
  have : ∀ n s, (allF n s).1.length ≤ n := by
    intro n
    induction n with
    | zero => intro s; exact Nat.le_refl _
    | succ n ih =>
      intro s
      rw [allF]
      split
      · have := ih (s.extract (decF s).2.1.toNat s.size)
        simp only [List.length_cons]
        omega
      · simp
  have := this (s.size + 1) s
  unfold allS
  omega
def otherB (r : Int) : Bool := firstL.any (inB r) || moreL.any (inB r)
def charB (r : Int) : Bool := charL.any (inB r)
def areF (is : Int → Bool) (s : ByteArray) : Bool := decide ((allS s).2.size = 0) && (allS s).1.all is
theorem any_not (is : Int → Bool) (l : List Int) : (l.any fun r => !(is r)) = !(l.all is) := by
  induction l with
  | nil => rfl
  | cons a l ih => simp [ih, Bool.not_and]
theorem not_otherB_calls (r : Int) (p : Addr) (w : World) (hc : w.cell? p = some (.func (.func 20) #[] #[])) : Calls Try.prog 45 #[.int .i64 r, .pointer (some p)] w fun e w' => e = .returned (.bool (!(otherB r))) ∧ Ext w w' := by
  have hs : ∀ W : World, Calls Try.prog 20 #[.int .i64 r] W fun e w' => e = .returned (.bool (otherB r)) ∧ Ext W w' := fun W => isOther_calls r W
  obtain ⟨R, hR⟩ : ∃ R, otherB r = R := ⟨_, rfl⟩
  rw [hR] at hs ⊢
  clear hR
  cases R <;>
  (go_enter Try.func45, Try.ntmps45
   go_wp2_with (go_at_call 20; (with_reducible refine (hs _).mono ?_); rintro e w' ⟨rfl, hq⟩)
   go_ret
   exact ⟨rfl, hq⟩)
theorem areAll_otherB_calls (s : ByteArray) (w : World) (hs : s.size ≤ 1000000000000) : Calls Try.prog 39 #[.string s, .func (.func 20) #[] #[]] w fun e w' => e = .returned (.bool (areF otherB s)) ∧ Ext w w' := by
  have ha := fun W => all_calls s W hs
  have hlen : (allS s).1.length ≤ 1000000000001 := allS_len s hs
  unfold AllR at ha
  unfold areF
  obtain ⟨⟨l, t⟩, hL⟩ : ∃ L, allS s = L := ⟨_, rfl⟩
  rw [hL] at ha hlen ⊢
  simp only at ha hlen ⊢
  clear hL
  have hbox := Boxed.new w 31 (.func (.func 20) #[] #[])
  have hi : ∀ (A : Option Addr) (c : Nat) (W : World), Ext (w.alloc (.cells #[.func (.func 20) #[] #[]] 31)) W → (∀ k, k < l.length → ∃ b, A = some ⟨b, 0, none⟩ ∧ W.cell? ⟨b, k, none⟩ = some (.int .i64 (l.getD k 0))) →
      Calls Try.prog 51 #[.slice A l.length c, .func (.func 45) #[] #[.pointer (some ⟨w.heap.size, 0, none⟩)]] W fun e w' => FoundAt (!(l.all otherB)) e ∧ Ext W w' := fun A c W hX h => by
    have := indexInt_calls otherB A c l ⟨w.heap.size, 0, none⟩ W hlen h (fun r W' hX' => not_otherB_calls r _ W' ((hX.trans hX').cell hbox.cell))
    rw [any_not] at this
    exact this
  obtain ⟨R, hR⟩ : ∃ R, l.all otherB = R := ⟨_, rfl⟩
  rw [hR] at hi ⊢
  clear hR hlen hbox
  by_cases h0 : t.size = 0
  · have h0' : ((t.size : Int) == 0) = true := by rw [beq_iff_eq]; omega
    have h1 : decide (t.size = 0) = true := by simpa using h0
    rw [h1]
    have H0 := Lib.hid h0
    clear h0 h1
    cases R <;>
    (go_enter Try.func39, Try.ntmps39
     go_wp2_with (first | (go_at_call 40; (with_reducible refine (ha _).mono ?_); rintro e w' ⟨v, rfl, hrow, hq⟩; obtain ⟨A, c, rfl, hcs⟩ := row_cells hrow) | (go_at_call 51; (with_reducible refine (hi _ _ _ hq hcs).mono ?_); rintro e w2 ⟨⟨i, i0, i1, hii, rfl⟩, hq2⟩) | (go_at_call 46; go_in))
     go_ret
     exact ⟨rfl, (((Ext.refl w).alloc _).trans hq).trans hq2⟩)
  · have h0' : ((t.size : Int) == 0) = false := by rw [beq_eq_false_iff_ne]; omega
    have h1 : decide (t.size = 0) = false := by simpa using h0
    rw [h1]
    have H0 := Lib.hid h0
    clear h0 h1
    go_enter Try.func39, Try.ntmps39
    go_wp2_with (go_at_call 40; (with_reducible refine (ha _).mono ?_); rintro e w' ⟨v, rfl, hrow, hq⟩)
    go_ret
    exact ⟨rfl, ((Ext.refl w).alloc _).trans hq⟩
theorem not_charB_calls (r : Int) (p : Addr) (w : World) (hc : w.cell? p = some (.func (.func 16) #[] #[])) : Calls Try.prog 45 #[.int .i64 r, .pointer (some p)] w fun e w' => e = .returned (.bool (!(charB r))) ∧ Ext w w' := by
  have hs : ∀ W : World, Calls Try.prog 16 #[.int .i64 r] W fun e w' => e = .returned (.bool (charB r)) ∧ Ext W w' := fun W => isChar_calls r W
  obtain ⟨R, hR⟩ : ∃ R, charB r = R := ⟨_, rfl⟩
  rw [hR] at hs ⊢
  clear hR
  cases R <;>
  (go_enter Try.func45, Try.ntmps45
   go_wp2_with (go_at_call 16; (with_reducible refine (hs _).mono ?_); rintro e w' ⟨rfl, hq⟩)
   go_ret
   exact ⟨rfl, hq⟩)
theorem areAll_charB_calls (s : ByteArray) (w : World) (hs : s.size ≤ 1000000000000) : Calls Try.prog 39 #[.string s, .func (.func 16) #[] #[]] w fun e w' => e = .returned (.bool (areF charB s)) ∧ Ext w w' := by
  have ha := fun W => all_calls s W hs
  have hlen : (allS s).1.length ≤ 1000000000001 := allS_len s hs
  unfold AllR at ha
  unfold areF
  obtain ⟨⟨l, t⟩, hL⟩ : ∃ L, allS s = L := ⟨_, rfl⟩
  rw [hL] at ha hlen ⊢
  simp only at ha hlen ⊢
  clear hL
  have hbox := Boxed.new w 31 (.func (.func 16) #[] #[])
  have hi : ∀ (A : Option Addr) (c : Nat) (W : World), Ext (w.alloc (.cells #[.func (.func 16) #[] #[]] 31)) W → (∀ k, k < l.length → ∃ b, A = some ⟨b, 0, none⟩ ∧ W.cell? ⟨b, k, none⟩ = some (.int .i64 (l.getD k 0))) →
      Calls Try.prog 51 #[.slice A l.length c, .func (.func 45) #[] #[.pointer (some ⟨w.heap.size, 0, none⟩)]] W fun e w' => FoundAt (!(l.all charB)) e ∧ Ext W w' := fun A c W hX h => by
    have := indexInt_calls charB A c l ⟨w.heap.size, 0, none⟩ W hlen h (fun r W' hX' => not_charB_calls r _ W' ((hX.trans hX').cell hbox.cell))
    rw [any_not] at this
    exact this
  obtain ⟨R, hR⟩ : ∃ R, l.all charB = R := ⟨_, rfl⟩
  rw [hR] at hi ⊢
  clear hR hlen hbox
  by_cases h0 : t.size = 0
  · have h0' : ((t.size : Int) == 0) = true := by rw [beq_iff_eq]; omega
    have h1 : decide (t.size = 0) = true := by simpa using h0
    rw [h1]
    have H0 := Lib.hid h0
    clear h0 h1
    cases R <;>
    (go_enter Try.func39, Try.ntmps39
     go_wp2_with (first | (go_at_call 40; (with_reducible refine (ha _).mono ?_); rintro e w' ⟨v, rfl, hrow, hq⟩; obtain ⟨A, c, rfl, hcs⟩ := row_cells hrow) | (go_at_call 51; (with_reducible refine (hi _ _ _ hq hcs).mono ?_); rintro e w2 ⟨⟨i, i0, i1, hii, rfl⟩, hq2⟩) | (go_at_call 46; go_in))
     go_ret
     exact ⟨rfl, (((Ext.refl w).alloc _).trans hq).trans hq2⟩)
  · have h0' : ((t.size : Int) == 0) = false := by rw [beq_eq_false_iff_ne]; omega
    have h1 : decide (t.size = 0) = false := by simpa using h0
    rw [h1]
    have H0 := Lib.hid h0
    clear h0 h1
    go_enter Try.func39, Try.ntmps39
    go_wp2_with (go_at_call 40; (with_reducible refine (ha _).mono ?_); rintro e w' ⟨v, rfl, hrow, hq⟩)
    go_ret
    exact ⟨rfl, ((Ext.refl w).alloc _).trans hq⟩
theorem isText_calls (s : ByteArray) (w : World) (hs : s.size ≤ 1000000000000) : Calls Try.prog 25 #[.string s] w fun e w' => e = .returned (.bool (areF charB s)) ∧ Ext w w' := by
  have ha := fun W => areAll_charB_calls s W hs
  obtain ⟨R, hR⟩ : ∃ R, areF charB s = R := ⟨_, rfl⟩
  rw [hR] at ha ⊢
  clear hR
  go_enter Try.func25, Try.ntmps25
  go_wp2_with (go_at_call 39; (with_reducible refine (ha _).mono ?_); rintro e w' ⟨rfl, hq⟩)
  go_ret
  exact ⟨rfl, hq⟩
def nameF (s : ByteArray) : Bool := decide ((decF s).2.2 = 0) && firstL.any (inB (decF s).1) && areF otherB s
theorem isName_calls (s : ByteArray) (w : World) (hs : s.size ≤ 1000000000000) : Calls Try.prog 24 #[.string s] w fun e w' => e = .returned (.bool (nameF s)) ∧ Ext w w' := by
  have ha := fun W => areAll_otherB_calls s W hs
  have hd := fun W => dec_calls s W (by unfold maxLen; omega)
  unfold nameF
  obtain ⟨⟨r, n, e⟩, hx⟩ : ∃ x, decF s = x := ⟨_, rfl⟩
  rw [hx] at hd ⊢
  simp only at hd ⊢
  clear hx
  have hf := fun W => isFirst_calls r W
  obtain ⟨R, hR⟩ : ∃ R, areF otherB s = R := ⟨_, rfl⟩
  rw [hR] at ha ⊢
  obtain ⟨Q, hQ⟩ : ∃ Q, firstL.any (inB r) = Q := ⟨_, rfl⟩
  rw [hQ] at hf ⊢
  clear hR hQ
  by_cases h0 : e = 0
  · subst h0
    rw [show decide ((0 : Int) = 0) = true from rfl]
    cases Q with
    | false =>
      go_enter Try.func24, Try.ntmps24
      go_wp2_with (first | (go_at_call 13; (with_reducible refine (hd _).mono ?_); rintro e w1 ⟨rfl, hq1⟩) | (go_at_call 18; (with_reducible refine (hf _).mono ?_); rintro e w2 ⟨rfl, hq2⟩))
      go_ret
      exact ⟨rfl, hq1.trans hq2⟩
    | true =>
      go_enter Try.func24, Try.ntmps24
      go_wp2_with (first | (go_at_call 13; (with_reducible refine (hd _).mono ?_); rintro e w1 ⟨rfl, hq1⟩) | (go_at_call 18; (with_reducible refine (hf _).mono ?_); rintro e w2 ⟨rfl, hq2⟩) | (go_at_call 39; (with_reducible refine (ha _).mono ?_); rintro e w3 ⟨rfl, hq3⟩))
      go_ret
      exact ⟨rfl, (hq1.trans hq2).trans hq3⟩
  · have h1 : decide (e = 0) = false := by simpa using h0
    have h2 : (e == 0) = false := by simpa using h0
    rw [h1]
    have H0 := Lib.hid h0
    clear h0 h1
    go_enter Try.func24, Try.ntmps24
    go_wp2_with (go_at_call 13; (with_reducible refine (hd _).mono ?_); rintro e w1 ⟨rfl, hq1⟩)
    go_ret
    exact ⟨rfl, hq1⟩
end Go.Proofs.Ytjbapiogekjdnaa.Hand
