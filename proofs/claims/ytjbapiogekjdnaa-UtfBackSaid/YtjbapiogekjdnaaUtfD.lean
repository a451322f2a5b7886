/- utf: what Decode tells. -/
import Derived.Test.YtjbapiogekjdnaaUtfE
import Derived.Lib.ConvBytes
set_option linter.unusedVariables false
set_option linter.unusedSimpArgs false
namespace Go.Proofs.Ytjbapiogekjdnaa.Hand
open Go Go.RowKit Go.Proofs.Ytjbapiogekjdnaa.K Go.Proofs.Ytjbapiogekjdnaa.PU Go.Proofs.YtjbapiogekjdnaaW.PrintWords Go.Proofs.YtjbapiogekjdnaaW.PrintLast Go.Proofs.YtjbapiogekjdnaaW.PrintMore
set_option maxRecDepth 100000
set_option maxHeartbeats 2000000
def headF (c : Int) : Int × Int := if 248 ≤ c then (-1, 0) else if 240 ≤ c then (3, c - 240) else if 224 ≤ c then (2, c - 224) else if 192 ≤ c then (1, c - 192) else if 128 ≤ c then (-1, 0) else (0, c)
theorem pair_ret {a b c d : Int} (h1 : a = c) (h2 : b = d) : Ending.returned (.tuple #[.int .i64 a, .int .i64 b]) = .returned (.tuple #[.int .i64 c, .int .i64 d]) := by rw [h1, h2]
theorem head_calls (c : Int) (w : World) (h0 : 0 ≤ c) (h1 : c < 256) : Calls Try.prog 34 #[.int .u8 c] w fun e w' => e = .returned (.tuple #[.int .i64 (headF c).1, .int .i64 (headF c).2]) ∧ w = w' := by
  unfold headF
  by_cases c1 : 248 ≤ c
  · rw [if_pos c1]
    go_enter Try.func34, Try.ntmps34
    go_wp2
    go_ret2
    exact ⟨pair_ret (by omega) (by omega), rfl⟩
  · rw [if_neg c1]
    by_cases c2 : 240 ≤ c
    · rw [if_pos c2]
      go_enter Try.func34, Try.ntmps34
      go_wp2
      go_ret2
      exact ⟨pair_ret (by omega) (by omega), rfl⟩
    · rw [if_neg c2]
      by_cases c3 : 224 ≤ c
      · rw [if_pos c3]
        go_enter Try.func34, Try.ntmps34
        go_wp2
        go_ret2
        exact ⟨pair_ret (by omega) (by omega), rfl⟩
      · rw [if_neg c3]
        by_cases c4 : 192 ≤ c
        · rw [if_pos c4]
          go_enter Try.func34, Try.ntmps34
          go_wp2
          go_ret2
          exact ⟨pair_ret (by omega) (by omega), rfl⟩
        · rw [if_neg c4]
          by_cases c5 : 128 ≤ c
          · rw [if_pos c5]
            go_enter Try.func34, Try.ntmps34
            go_wp2
            go_ret2
            exact ⟨pair_ret (by omega) (by omega), rfl⟩
          · rw [if_neg c5]
            go_enter Try.func34, Try.ntmps34
            go_wp2
            go_ret2
            exact ⟨pair_ret (by omega) (by omega), rfl⟩
/-- Bytes from place a on, n of them. -/
def restL (s : ByteArray) (a : Nat) : Nat → List Int
  | 0 => []
  | n + 1 => bt s (a : Int) :: restL s (a + 1) n
def foldR : Int → List Int → Option Int
  | r, [] => some r
  | r, c :: l => if c / 64 = 2 then foldR (r * 64 + c % 64) l else none
def decTail (m : Int) : Option Int → Int × Int × Int
  | none => (0, 0, 20)
  | some r => if isRn r = true ∧ ((encL r).length : Int) = m + 1 then (r, m + 1, 0) else (0, 0, 20)
/-- What Decode tells. -/
def decF (s : ByteArray) : Int × Int × Int :=
  if s.size = 0 then (0, 0, 10) else if (headF (bt s 0)).1 < 0 ∨ (s.size : Int) ≤ (headF (bt s 0)).1 then (0, 0, 20) else
  decTail (headF (bt s 0)).1 (foldR (headF (bt s 0)).2 (restL s 1 (headF (bt s 0)).1.toNat))
def bnd : Nat → Int
  | 0 => 128
  | 1 => 8192
  | 2 => 524288
  | _ => 33554432
theorem bt_lt (s : ByteArray) (i : Int) : 0 ≤ bt s i ∧ bt s i < 256 := by
  unfold bt
  split
  · have := (s[i.toNat]).toNat_lt
    have h2 : (s[i.toNat]).toNat < 256 := by simpa using this
    omega
  · omega
theorem headF_b (c : Int) (h0 : 0 ≤ c) (h1 : c < 256) : -1 ≤ (headF c).1 ∧ (headF c).1 ≤ 3 ∧ 0 ≤ (headF c).2 ∧ (headF c).2 < 128 := by
  unfold headF
  repeat' split
  all_goals omega
theorem andnot63 : ∀ c : Nat, c < 256 → bits .andNot .u8 (c : Int) 63 = ((c / 64 * 64 : Nat) : Int) := by decide +kernel
theorem bytes_ext (w : World) (e : TypeId) (s : ByteArray) : Ext w (Lib.bytesWorld w e s) :=
  Ext.below ⟨rfl, rfl, rfl, by rw [Lib.bytesWorld_size]; omega, fun k hk => Lib.bytesWorld_at_old w e s k hk⟩
theorem bt_data (s : ByteArray) (j : Nat) : (((s.data.toList.getD j 0).toNat : Nat) : Int) = bt s (j : Int) := by
  unfold bt
  by_cases h : j < s.size
  · rw [dif_pos (by simpa using h)]
    simp only [List.getD_eq_getElem?_getD, List.getElem?_eq_getElem (show j < s.data.toList.length by rw [Array.length_toList]; exact h), Option.getD_some, Array.getElem_toList, Int.toNat_natCast]
    rfl
  · rw [dif_neg (by simpa using h), List.getD_eq_getElem?_getD, List.getElem?_eq_none (by rw [Array.length_toList]; exact Nat.le_of_not_lt h)]
    rfl
theorem bt_extract (s : ByteArray) (a b j : Nat) (hb : b ≤ s.size) (hj : a + j < b) : bt (s.extract a b) (j : Int) = bt s ((a + j : Nat) : Int) := by
  have h1 : j < (s.extract a b).size := by rw [ByteArray.size_extract]; omega
  unfold bt
  rw [dif_pos (by simpa using h1), dif_pos (by simp; omega)]
  simp only [Int.toNat_natCast, ByteArray.getElem_extract]
theorem dec_calls (s : ByteArray) (w : World) (hs : s.size ≤ maxLen) : Calls Try.prog 13 #[.string s] w fun e w' => e = .returned (.tuple #[.int .i64 (decF s).1, .int .i64 (decF s).2.1, .int .i64 (decF s).2.2]) ∧ Ext w w' := by
  unfold maxLen at hs
  unfold decF
  by_cases h0 : s.size = 0
  · have e0 : s.toList = [] := by rw [ByteArray.toList_eq]; exact List.eq_nil_of_length_eq_zero (by rw [Array.length_toList]; exact h0)
    rw [if_pos h0]
    clear h0
    go_enter Try.func13, Try.ntmps13
    go_wp2
    go_ret3
    exact ⟨rfl, Ext.refl _⟩
  · rw [if_neg h0]
    have e0 : s.toList.isEmpty = false := by
      rw [ByteArray.toList_eq]
      cases h : s.data.toList with
      | nil => exact absurd (by have := congrArg List.length h; rw [Array.length_toList] at this; exact this) h0
      | cons a l => rfl
    have hp : 0 < s.size := by omega
    have hi : ((s[0]'hp).toNat : Int) = bt s 0 := bt_at s 0 hp
    obtain ⟨b0, b1⟩ := bt_lt s 0
    obtain ⟨c, hc⟩ : ∃ c, bt s 0 = c := ⟨_, rfl⟩
    rw [hc] at hi b0 b1 ⊢
    clear hc
    obtain ⟨m0, m1, m2, m3⟩ := headF_b c b0 b1
    have hh := fun w => head_calls c w b0 b1
    obtain ⟨⟨m, r0⟩, hm⟩ : ∃ x, headF c = x := ⟨_, rfl⟩
    rw [hm] at hh m0 m1 m2 m3 ⊢
    simp only at hh m0 m1 m2 m3 ⊢
    clear hm
    by_cases c1 : m < 0
    · rw [if_pos (.inl c1)]
      have c1' : decide (m < 0) = true := by simpa using c1
      clear c1
      go_enter Try.func13, Try.ntmps13
      go_wp2_with (go_at_call 34; (with_reducible refine (hh _).mono ?_); rintro e w' ⟨rfl, rfl⟩)
      go_ret3
      exact ⟨rfl, Ext.refl _⟩
    · by_cases c2 : (s.size : Int) ≤ m
      · rw [if_pos (.inr c2)]
        have c1' : decide (m < 0) = false := by simpa using c1
        have c2' : decide ((s.size : Int) ≤ m) = true := by simpa using c2
        clear c1 c2
        go_enter Try.func13, Try.ntmps13
        go_wp2_with (go_at_call 34; (with_reducible refine (hh _).mono ?_); rintro e w' ⟨rfl, rfl⟩)
        go_ret3
        exact ⟨rfl, Ext.refl _⟩
      · rw [if_neg (by omega)]
        have c1' : decide (m < 0) = false := by simpa using c1
        have c2' : decide ((s.size : Int) ≤ m) = false := by simpa using c2
        obtain ⟨q, rfl⟩ : ∃ q : Nat, m = (q : Int) := ⟨m.toNat, by omega⟩
        simp only [Int.toNat_natCast]
        have hq3 : q ≤ 3 := by omega
        have hqs : q < s.size := by omega
        have hcv := Lib.run_convert_string_bytes (P := Try.prog) w 9 38 5 (s.extract 1 (q + 1)) Try.underlying9 Try.underlying38 Try.underlying5
        have hsz : (s.extract 1 (q + 1)).size = q := by rw [ByteArray.size_extract]; omega
        have hX : Ext w (Lib.bytesWorld w 5 (s.extract 1 (q + 1))) := bytes_ext _ _ _
        have hcell : ∀ k, k < q → (Lib.bytesWorld w 5 (s.extract 1 (q + 1))).cell? ⟨w.heap.size, k, none⟩ = some (.int .u8 (bt s ((1 + k : Nat) : Int))) := fun k hk => by
          rw [Lib.bytesWorld_cell w 5 _ k (by rw [hsz]; exact hk), bt_data, bt_extract s 1 (q + 1) k (by omega) (by omega)]
        obtain ⟨W1, hW1⟩ : ∃ W1, Lib.bytesWorld w 5 (s.extract 1 (q + 1)) = W1 := ⟨_, rfl⟩
        obtain ⟨cp, hcp⟩ : ∃ cp, grownCap w (s.extract 1 (q + 1)).size 0 5 = cp := ⟨_, rfl⟩
        rw [hW1] at hcv hX hcell
        rw [hcp, hsz] at hcv
        have HC := Lib.hid hcell
        clear hW1 hcp hsz hcell c1 c2 hs
        obtain ⟨R, hR⟩ : ∃ R, foldR r0 (restL s 1 q) = R := ⟨_, rfl⟩
        rw [hR]
        have HR := Lib.hid hR
        clear hR
        go_enter Try.func13, Try.ntmps13
        go_wp2_with (go_at_call 34; (with_reducible refine (hh _).mono ?_); rintro e w' ⟨rfl, rfl⟩)
        go_loop [6, 33] (fun r i => ∃ (k : Nat) (acc : Int), k ≤ q ∧ i = .int .i64 (k : Int) ∧ r = .int .i64 acc ∧ 0 ≤ acc ∧ acc < bnd k ∧ foldR acc (restL s (1 + k) (q - k)) = R) (fun _ i => q - (intOf i).toNat)
        case atStart => exact ⟨0, r0, by omega, rfl, rfl, m2, m3, HR.out⟩
        case round =>
          obtain ⟨k, acc, hk, rfl, rfl, a0, a1, hA⟩ := hrel
          have HA := Lib.hid hA
          clear hA
          have hacc : acc < 33554433 := by
            have : k = 0 ∨ k = 1 ∨ k = 2 ∨ k = 3 := by omega
            rcases this with rfl | rfl | rfl | rfl <;> (simp only [bnd] at a1; omega)
          by_cases hlt : k < q
          · have hc0 := HC.out k hlt
            obtain ⟨d0, d1⟩ := bt_lt s ((1 + k : Nat) : Int)
            obtain ⟨d, hd⟩ : ∃ d, bt s ((1 + k : Nat) : Int) = d := ⟨_, rfl⟩
            rw [hd] at hc0 d0 d1
            have HS : Hid (restL s (1 + k) (q - k) = d :: restL s (1 + (k + 1)) (q - (k + 1))) := Lib.hid (by
              rw [show q - k = (q - (k + 1)) + 1 from by omega, restL, hd, Nat.add_assoc])
            clear hd
            obtain ⟨dn, rfl⟩ : ∃ dn : Nat, d = (dn : Int) := ⟨d.toNat, by omega⟩
            have hn := andnot63 dn (by omega)
            by_cases h2 : (dn : Int) / 64 = 2
            · have t1 : (bits .andNot .u8 (dn : Int) 63 != 128) = false := by
                rw [hn, bne_eq_false_iff_eq]; omega
              have hA' : bits .and .u8 (dn : Int) 63 = (dn : Int) % 64 := u8_and63 _ d0 (by omega)
              have hO : bits .or .i64 (acc * 64) ((dn : Int) % 64) = acc * 64 + (dn : Int) % 64 := i64_or 6 _ _ (by decide) (by omega) (by omega) (by omega) (by omega) (by omega) (by omega)
              have hb' : acc * 64 + (dn : Int) % 64 < bnd (k + 1) := by
                have : k = 0 ∨ k = 1 ∨ k = 2 := by omega
                rcases this with rfl | rfl | rfl <;> (simp only [bnd] at a1 ⊢; omega)
              have H2 := Lib.hid h2
              clear hn h2
              go_wp2
              go_round
              case rel =>
                refine ⟨k + 1, acc * 64 + (dn : Int) % 64, by omega, by go_num, rfl, by omega, hb', ?_⟩
                have h1 := HA.out
                rw [HS.out, foldR, if_pos H2.out] at h1
                exact h1
              case measure => simp [intOf]; omega
            · have t1 : (bits .andNot .u8 (dn : Int) 63 != 128) = true := by
                rw [hn, bne_iff_ne]; omega
              have hr : R = none := by
                have h1 := HA.out
                rw [HS.out, foldR, if_neg h2] at h1
                exact h1.symm
              have HR2 := Lib.hid hr
              clear hn h2 hr
              go_wp2
              go_ret3
              rw [HR2.out]
              exact ⟨rfl, hX⟩
          · have hr : R = some acc := by
              have h1 := HA.out
              rw [show q - k = 0 from by omega, restL, foldR] at h1
              exact h1.symm
            have hkq : k = q := by omega
            have HR2 := Lib.hid hr
            have HK := Lib.hid hkq
            clear hr hkq
            cases hrn : isRn acc with
            | false =>
              have hen := fun w => utf_Encode.calls 0 acc _ _ w (encode_none 0 acc hrn)
              have HN := Lib.hid hrn
              clear hrn
              go_wp2_with (go_at_call 11; (with_reducible refine (hen _).mono ?_); rintro e w' ⟨rfl, hB⟩)
              go_ret3
              rw [HR2.out]
              refine ⟨?_, hX.trans ⟨hB⟩⟩
              simp [decTail, HN.out]
            | true =>
              have hen := fun w => utf_Encode.calls 10 acc _ _ w (encode_some acc hrn)
              have HN := Lib.hid hrn
              clear hrn
              have hbz : (strOfNums (encL acc)).size = (encL acc).length := strOfNums_size _
              obtain ⟨b, hb⟩ : ∃ b, strOfNums (encL acc) = b := ⟨_, rfl⟩
              rw [hb] at hen hbz
              clear hb
              by_cases hl : b.size = q + 1
              · have hl' : ((b.size : Int) != (q : Int) + 1) = false := by rw [bne_eq_false_iff_eq]; omega
                have HL := Lib.hid hl
                have HZ := Lib.hid hbz
                clear hl hbz
                go_wp2_with (go_at_call 11; (with_reducible refine (hen _).mono ?_); rintro e w' ⟨rfl, hB⟩)
                go_ret3
                rw [HR2.out]
                refine ⟨?_, hX.trans ⟨hB⟩⟩
                have h1 : ((encL acc).length : Int) = (q : Int) + 1 := by have := HL.out; have := HZ.out; omega
                simp [decTail, HN.out, h1]
              · have hl' : ((b.size : Int) != (q : Int) + 1) = true := by rw [bne_iff_ne]; omega
                have HL := Lib.hid hl
                have HZ := Lib.hid hbz
                clear hl hbz
                go_wp2_with (go_at_call 11; (with_reducible refine (hen _).mono ?_); rintro e w' ⟨rfl, hB⟩)
                go_ret3
                rw [HR2.out]
                refine ⟨?_, hX.trans ⟨hB⟩⟩
                have h1 : ¬ ((encL acc).length : Int) = (q : Int) + 1 := by have := HL.out; have := HZ.out; omega
                simp [decTail, HN.out, h1]
end Go.Proofs.Ytjbapiogekjdnaa.Hand
