/- utf: the walk of UtfFirst. -/
import Derived.Test.YtjbapiogekjdnaaUtfT
set_option linter.unusedVariables false
set_option linter.unusedSimpArgs false
namespace Go.Proofs.Ytjbapiogekjdnaa.Hand
open Go Go.RowKit Go.Proofs.Ytjbapiogekjdnaa.K Go.Proofs.Ytjbapiogekjdnaa.PU Go.Proofs.YtjbapiogekjdnaaW.PrintWords Go.Proofs.YtjbapiogekjdnaaW.PrintLast Go.Proofs.YtjbapiogekjdnaaW.PrintMore
set_option maxRecDepth 100000
set_option maxHeartbeats 4000000
def blankB (r : Int) : Bool := decide (r = 32 ∨ r = 9 ∨ r = 13 ∨ r = 10)
theorem blankC (r : Int) (w : World) : Calls Try.prog 22 #[.int .i64 r] w fun e w' => e = .returned (.bool (blankB r)) ∧ Ext w w' := by
  by_cases h1 : r = 32
  · subst h1
    go_enter Try.func22, Try.ntmps22
    go_wp2
    go_ret
    exact ⟨rfl, Ext.refl _⟩
  · by_cases h2 : r = 9
    · subst h2
      go_enter Try.func22, Try.ntmps22
      go_wp2
      go_ret
      exact ⟨rfl, Ext.refl _⟩
    · by_cases h3 : r = 13
      · subst h3
        go_enter Try.func22, Try.ntmps22
        go_wp2
        go_ret
        exact ⟨rfl, Ext.refl _⟩
      · by_cases h4 : r = 10
        · subst h4
          go_enter Try.func22, Try.ntmps22
          go_wp2
          go_ret
          exact ⟨rfl, Ext.refl _⟩
        · have e : blankB r = false := by unfold blankB; simp [h1, h2, h3, h4]
          rw [e]
          have g1 : (r == 32) = false := by simpa using h1
          have g2 : (r == 9) = false := by simpa using h2
          have g3 : (r == 13) = false := by simpa using h3
          have g4 : (r == 10) = false := by simpa using h4
          clear h1 h2 h3 h4 e
          go_enter Try.func22, Try.ntmps22
          go_wp2
          go_ret
          exact ⟨rfl, Ext.refl _⟩
/-- The classes of one rune, and of its bytes. -/
theorem first_facts (r : Int) : (isRn r = false → firstL.any (inB r) = false ∧ otherB r = false ∧ charB r = false ∧ blankB r = false) ∧ (firstL.any (inB r) = true → otherB r = true) ∧ (otherB r = true → charB r = true ∧ blankB r = false) ∧ (blankB r = true → charB r = true) := by
  have hf : firstL.any (inB r) = true ↔ (58 ≤ r ∧ r ≤ 58) ∨ (65 ≤ r ∧ r ≤ 90) ∨ (95 ≤ r ∧ r ≤ 95) ∨ (97 ≤ r ∧ r ≤ 122) ∨ (192 ≤ r ∧ r ≤ 214) ∨ (216 ≤ r ∧ r ≤ 246) ∨ (248 ≤ r ∧ r ≤ 767) ∨ (880 ≤ r ∧ r ≤ 893) ∨ (895 ≤ r ∧ r ≤ 8191) ∨ (8204 ≤ r ∧ r ≤ 8205) ∨ (8304 ≤ r ∧ r ≤ 8591) ∨ (11264 ≤ r ∧ r ≤ 12271) ∨ (12289 ≤ r ∧ r ≤ 55295) ∨ (63744 ≤ r ∧ r ≤ 64975) ∨ (65008 ≤ r ∧ r ≤ 65533) ∨ (65536 ≤ r ∧ r ≤ 983039) := by
    simp only [firstL, inB, List.any_cons, List.any_nil, Bool.or_false, Bool.or_eq_true, Bool.and_eq_true, decide_eq_true_eq]
  have hm : moreL.any (inB r) = true ↔ (45 ≤ r ∧ r ≤ 46) ∨ (48 ≤ r ∧ r ≤ 57) ∨ (183 ≤ r ∧ r ≤ 183) ∨ (768 ≤ r ∧ r ≤ 879) ∨ (8255 ≤ r ∧ r ≤ 8256) := by
    simp only [moreL, inB, List.any_cons, List.any_nil, Bool.or_false, Bool.or_eq_true, Bool.and_eq_true, decide_eq_true_eq]
  have hc : charB r = true ↔ (9 ≤ r ∧ r ≤ 10) ∨ (13 ≤ r ∧ r ≤ 13) ∨ (32 ≤ r ∧ r ≤ 55295) ∨ (57344 ≤ r ∧ r ≤ 65533) ∨ (65536 ≤ r ∧ r ≤ 1114111) := by
    simp only [charB, charL, inB, List.any_cons, List.any_nil, Bool.or_false, Bool.or_eq_true, Bool.and_eq_true, decide_eq_true_eq]
  have ho : otherB r = true ↔ firstL.any (inB r) = true ∨ moreL.any (inB r) = true := by unfold otherB; rw [Bool.or_eq_true]
  have hb : blankB r = true ↔ r = 32 ∨ r = 9 ∨ r = 13 ∨ r = 10 := decide_eq_true_iff
  have fc : firstL.any (inB r) = true → charB r = true ∧ ¬ blankB r = true := fun h => by
    rw [hc, hb]
    rw [hf] at h
    rcases h with h | h | h | h | h | h | h | h | h | h | h | h | h | h | h | h <;> constructor <;> omega
  have mc : moreL.any (inB r) = true → charB r = true ∧ ¬ blankB r = true := fun h => by
    rw [hc, hb]
    rw [hm] at h
    rcases h with h | h | h | h | h <;> constructor <;> omega
  have cr : charB r = true → isRn r = true := fun h => by
    rw [isRn_iff]
    rw [hc] at h
    rcases h with h | h | h | h | h <;> omega
  have bc : blankB r = true → charB r = true := fun h => by
    rw [hc]
    rw [hb] at h
    rcases h with h | h | h | h <;> omega
  have nf : ∀ {b : Bool}, ¬ b = true → b = false := fun {b} h => by cases b <;> simp_all
  refine ⟨fun h => ?_, fun h => ho.2 (.inl h), fun h => ?_, bc⟩
  · have hn : ¬ isRn r = true := by rw [h]; decide
    have hcn : ¬ charB r = true := fun x => hn (cr x)
    exact ⟨nf fun x => hcn (fc x).1, nf fun x => (ho.1 x).elim (fun y => hcn (fc y).1) (fun y => hcn (mc y).1), nf hcn, nf fun x => hcn (bc x)⟩
  · rcases ho.1 h with y | y
    · exact ⟨(fc y).1, nf (fc y).2⟩
    · exact ⟨(mc y).1, nf (mc y).2⟩
theorem allS_enc (r : Int) (h : isRn r = true) : allS (strOfNums (encL r)) = ([r], ⟨#[]⟩) := by
  have hd := dec_of_enc r ⟨#[]⟩ h
  have ha : strOfNums (encL r) ++ (⟨#[]⟩ : ByteArray) = strOfNums (encL r) := ByteArray.ext (by rw [ByteArray.data_append]; exact Array.append_empty)
  rw [ha] at hd
  have hz : (strOfNums (encL r)).size = (encL r).length := strOfNums_size _
  rw [allS_ok _ (by rw [hd]), hd]
  simp only [Int.toNat_natCast]
  have he : (strOfNums (encL r)).extract (encL r).length (strOfNums (encL r)).size = ⟨#[]⟩ := by
    apply ByteArray.ext
    exact Array.eq_empty_of_size_eq_zero (show ((strOfNums (encL r)).extract (encL r).length (strOfNums (encL r)).size).size = 0 from by rw [ByteArray.size_extract]; omega)
  rw [he, allS_no ⟨#[]⟩ (by rw [decF_nil _ rfl]; decide)]
theorem name_enc (r : Int) (h : isRn r = true) : nameF (strOfNums (encL r)) = firstL.any (inB r) ∧ areF charB (strOfNums (encL r)) = charB r := by
  have hd := dec_of_enc r ⟨#[]⟩ h
  have ha : strOfNums (encL r) ++ (⟨#[]⟩ : ByteArray) = strOfNums (encL r) := ByteArray.ext (by rw [ByteArray.data_append]; exact Array.append_empty)
  rw [ha] at hd
  obtain ⟨f1, f2, f3, f4⟩ := first_facts r
  unfold nameF areF
  rw [hd, allS_enc r h]
  constructor
  · cases hb : firstL.any (inB r) with
    | false => rfl
    | true =>
      have := f2 hb
      simp [this]
      rfl
  · simp
    intro _
    rfl
theorem utfFirst_calls (r : Int) (w : World) : Calls Try.prog 7 #[.int .i64 r] w fun e w' => e = .returned (.bool true) ∧ Ext w w' := by
  obtain ⟨f1, f2, f3, f4⟩ := first_facts r
  have h1 := fun W => encC r W
  have h2 := fun W => isFirst_calls r W
  have h3 : ∀ W, Calls Try.prog 20 #[.int .i64 r] W fun e w' => e = .returned (.bool (otherB r)) ∧ Ext W w' := fun W => isOther_calls r W
  have h4 : ∀ W, Calls Try.prog 16 #[.int .i64 r] W fun e w' => e = .returned (.bool (charB r)) ∧ Ext W w' := fun W => isChar_calls r W
  have h5 := fun W => blankC r W
  have hE : Ext w w := Ext.refl w
  cases hr : isRn r with
  | false =>
    obtain ⟨a1, a2, a3, a4⟩ := f1 hr
    have e : encS r = (⟨#[]⟩, 20) := by unfold encS; rw [hr]; rfl
    rw [e] at h1
    rw [a1] at h2
    rw [a2] at h3
    rw [a3] at h4
    rw [a4] at h5
    simp only at h1
    clear f1 f2 f3 f4 hr a1 a2 a3 a4 e
    go_enter Try.func7, Try.ntmps7
    go_wp2_with (first
      | (go_at_call 10; (with_reducible refine (shownC _).mono ?_); rintro e w' ⟨rfl, hx⟩; replace hE := hE.trans hx; clear hx)
      | (go_at_call 11; (with_reducible refine (h1 _).mono ?_); rintro e w' ⟨rfl, hx⟩; replace hE := hE.trans hx; clear hx)
      | (go_at_call 18; (with_reducible refine (h2 _).mono ?_); rintro e w' ⟨rfl, hx⟩; replace hE := hE.trans hx; clear hx)
      | (go_at_call 20; (with_reducible refine (h3 _).mono ?_); rintro e w' ⟨rfl, hx⟩; replace hE := hE.trans hx; clear hx)
      | (go_at_call 16; (with_reducible refine (h4 _).mono ?_); rintro e w' ⟨rfl, hx⟩; replace hE := hE.trans hx; clear hx)
      | (go_at_call 22; (with_reducible refine (h5 _).mono ?_); rintro e w' ⟨rfl, hx⟩; replace hE := hE.trans hx; clear hx))
    go_ret
    exact ⟨rfl, hE⟩
  | true =>
    have e : encS r = (strOfNums (encL r), 0) := by unfold encS; rw [if_pos hr]
    have hz := encL_len r hr
    have hsz : (strOfNums (encL r)).size = (encL r).length := strOfNums_size _
    obtain ⟨n1, n2⟩ := name_enc r hr
    have h6 := fun W => isName_calls (strOfNums (encL r)) W (by omega)
    have h7 := fun W => isText_calls (strOfNums (encL r)) W (by omega)
    rw [e] at h1
    rw [n1] at h6
    rw [n2] at h7
    simp only at h1
    obtain ⟨a, ha⟩ : ∃ a, strOfNums (encL r) = a := ⟨_, rfl⟩
    rw [ha] at h1 h6 h7
    clear ha hsz n1 n2 e hr hz f1
    generalize firstL.any (inB r) = A at *
    generalize otherB r = B at *
    generalize charB r = C at *
    generalize blankB r = D at *
    cases A <;> cases B <;> cases C <;> cases D
    all_goals first
      | (exfalso; simp at f2; done)
      | (exfalso; simp at f3; done)
      | (exfalso; simp at f4; done)
      | (clear f2 f3 f4
         go_enter Try.func7, Try.ntmps7
         go_wp2_with (first
           | (go_at_call 10; (with_reducible refine (shownC _).mono ?_); rintro e w' ⟨rfl, hx⟩; replace hE := hE.trans hx; clear hx)
           | (go_at_call 11; (with_reducible refine (h1 _).mono ?_); rintro e w' ⟨rfl, hx⟩; replace hE := hE.trans hx; clear hx)
           | (go_at_call 18; (with_reducible refine (h2 _).mono ?_); rintro e w' ⟨rfl, hx⟩; replace hE := hE.trans hx; clear hx)
           | (go_at_call 20; (with_reducible refine (h3 _).mono ?_); rintro e w' ⟨rfl, hx⟩; replace hE := hE.trans hx; clear hx)
           | (go_at_call 16; (with_reducible refine (h4 _).mono ?_); rintro e w' ⟨rfl, hx⟩; replace hE := hE.trans hx; clear hx)
           | (go_at_call 22; (with_reducible refine (h5 _).mono ?_); rintro e w' ⟨rfl, hx⟩; replace hE := hE.trans hx; clear hx)
           | (go_at_call 24; (with_reducible refine (h6 _).mono ?_); rintro e w' ⟨rfl, hx⟩; replace hE := hE.trans hx; clear hx)
           | (go_at_call 25; (with_reducible refine (h7 _).mono ?_); rintro e w' ⟨rfl, hx⟩; replace hE := hE.trans hx; clear hx))
         go_ret
         exact ⟨rfl, hE⟩)
end Go.Proofs.Ytjbapiogekjdnaa.Hand
