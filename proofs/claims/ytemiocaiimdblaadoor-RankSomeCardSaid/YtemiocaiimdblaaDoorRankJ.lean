/- rank: Some. -/
import Derived.Test.YtemiocaiimdblaaDoorRankI
import Derived.OwnWalk
import Derived.Maps.AppendAt
import Derived.Deep.Onto
set_option linter.unusedVariables false
set_option linter.unusedSimpArgs false
namespace Go.Proofs.YtemiocaiimdblaaDoor.Hand
open Go Go.RowKit Go.Shelf Go.Proofs.YtemiocaiimdblaaDoor.K
set_option maxRecDepth 100000
set_option maxHeartbeats 400000
/-- So many keys, one behind the other. -/
def someL (b : ByteArray) : Nat → ByteArray → Option (List ByteArray)
  | 0, _ => some []
  | n + 1, a => match nextK a b with | none => none | some k => (someL b n k).map (k :: ·)
def someF (a b : ByteArray) (n : Int) : Option (List ByteArray) := if n < 0 ∨ n > 300 then none else someL b n.toNat a
theorem info9 : (Tryd.prog.info? 9).map (fun i => (i.zero, i.size, i.bytes)) = some (some (.string ⟨#[]⟩), 1, 16) := by kernel_rfl
def madeOf (bm : Nat) (W : World) : Nat := match W.heap[bm]? with | some (.cells cs _ _) => (intOf (cs.getD 2 undef)).toNat | _ => 0
theorem i64_range {n : Int} (h : (Lit.int .i64 n).wf = true) : -9223372036854775808 ≤ n ∧ n ≤ 9223372036854775807 := by
  simp only [Lit.wf, Bool.and_eq_true, decide_eq_true_eq] at h
  exact h
/-- What Some hands back. -/
def SomeP (w : World) (r : Option (List ByteArray)) (e : Ending) (w' : World) : Prop :=
  match r with
  | some ks => ∃ v, e = .returned (.tuple #[v, .int .i64 0]) ∧ Ext w w' ∧ w'.ownsRow w.heap.size 9 1 v ks.length (ks.map Value.string)
  | none => e = .returned (.tuple #[.slice none 0 0, .int .i64 120]) ∧ Ext w w'
theorem row_changed {w w' : World} {bm base : Nat} {e : TypeId} {size n : Nat} {v : Value} {xs : List Value} (h : w.ownsRow base e size v n xs) (hc : Changed bm w w') (hb : bm < base) : w'.ownsRow base e size v n xs := by
  refine ⟨h.1, ?_⟩
  rcases h.2 with h1 | ⟨g, cap, cur, rfl, h2, h3, h4⟩
  · exact .inl h1
  · exact .inr ⟨g, cap, cur, rfl, h2, (hc.2.2.2.2 g (Array.getElem?_eq_some_iff.1 h3).1 (by omega)).trans h3, h4⟩
theorem row_ne {w : World} {bm base : Nat} {e : TypeId} {size n : Nat} {v : Value} {xs : List Value} (h : w.ownsRow base e size v n xs) (hb : bm < base) : some bm ≠ v.ownBlock := by
  rcases h.2 with ⟨rfl, _⟩ | ⟨g, cap, cur, rfl, h2, _⟩
  · simp [Value.ownBlock]
  · simp only [Value.ownBlock, ne_eq, Option.some.injEq]; omega
theorem some_calls (a b : ByteArray) (n : Int) (g : Addr) (w : World) (hg : Gv g w) (hn : -9223372036854775808 ≤ n) (hn2 : n ≤ 9223372036854775807) :
    Calls Tryd.prog 17 #[.string a, .string b, .int .i64 n] w (SomeP w (someF a b n)) := by
  obtain ⟨i0, hi, hz0, hz1, hz2⟩ := info_parts info9
  have hG : w.cell? ⟨0, 0, none⟩ = some (.iface 79 (.pointer (some g))) := hg
  by_cases h0 : n < 0
  · have e1 : someF a b n = none := by unfold someF; rw [if_pos (.inl h0)]
    rw [e1]
    go_enter Tryd.func17, Tryd.ntmps17
    go_wp2_with (go_at_call 21; refine (told_same g _ hg).mono ?_; rintro e w2 ⟨rfl, rfl⟩)
    go_ret2
    exact ⟨rfl, Ext.refl _⟩
  · by_cases h3 : n > 300
    · have e1 : someF a b n = none := by unfold someF; rw [if_pos (.inr h3)]
      rw [e1]
      go_enter Tryd.func17, Tryd.ntmps17
      go_wp2_with (go_at_call 21; refine (told_same g _ hg).mono ?_; rintro e w2 ⟨rfl, rfl⟩)
      go_ret2
      exact ⟨rfl, Ext.refl _⟩
    · have e1 : someF a b n = someL b n.toNat a := by unfold someF; rw [if_neg (by omega)]
      rw [e1]
      clear e1
      obtain ⟨m, rfl⟩ : ∃ m : Nat, n = (m : Int) := ⟨n.toNat, by omega⟩
      simp only [Int.toNat_natCast]
      have hM : (w.alloc (.cells #[.string a, .string b, .int .i64 0] 44)).heap[w.heap.size]? = some (.cells #[.string a, .string b, .int .i64 0] 44 (0, 0)) := World.alloc_heap_new w _
      have hE : Below w.heap.size w (w.alloc (.cells #[.string a, .string b, .int .i64 0] 44)) := (Below.refl _ w).alloc (Nat.le_refl _) _
      have H0 := Lib.hid h0
      have H3 := Lib.hid h3
      have hm1 : decide ((m : Int) < 0) = false := by simp
      have hm2 : decide (300 < (m : Int)) = false := by simp; omega
      clear hG
      obtain ⟨R, hR⟩ : ∃ R, someL b m a = R := ⟨_, rfl⟩
      rw [hR]
      go_enter Tryd.func17, Tryd.ntmps17
      go_wp2
      go_loopw [9] (fun v wr => ∃ (ks : List ByteArray) (ai : ByteArray), ks.length ≤ m ∧ wr.ownsRow (w.heap.size + 1) 9 1 v ks.length (ks.map Value.string) ∧ wr.heap[w.heap.size]? = some (.cells #[.string ai, .string b, .int .i64 (ks.length : Int)] 44 (0, 0)) ∧ Below w.heap.size w wr ∧ R = (someL b (m - ks.length) ai).map (ks ++ ·))
        (fun _ wr => m - madeOf w.heap.size wr)
      case atStart =>
        exact ⟨[], a, by simp, World.ownsRow_nil _ _ _ _, hM, hE, by simp [← hR]⟩
      case round =>
        obtain ⟨ks, ai, hk, hrow, hMi, hB, HS⟩ := hrel
        have hgi := hg.below hB hg.size
        have hld := fun x => load_calls w.heap.size x wr
        have hc2 : wr.cell? ⟨w.heap.size, 2, none⟩ = some (.int .i64 (ks.length : Int)) := by simp [World.cell?, hMi]
        have hEx : Ext w wr := Ext.below hB
        by_cases hlt : ks.length < m
        · have hlt1 : decide ((ks.length : Int) < (m : Int)) = true := by simp; omega
          have hlt2 : ((ks.length : Int) < (m : Int)) = True := by simp; omega
          obtain ⟨q, hq⟩ : ∃ q, m - ks.length = q + 1 := ⟨m - ks.length - 1, by omega⟩
          rw [hq, someL] at HS
          cases hnk : nextK ai b with
          | none =>
            rw [hnk] at HS
            have HR : Hid (R = none) := Lib.hid HS
            have Hk := Lib.hid hnk
            clear HS hnk
            go_wp2_with (first
              | (go_at_call 26; refine (load_calls _ _ _ hc2).mono ?_; rintro e w2 ⟨rfl, rfl⟩)
              | (go_at_call 20; refine (next_calls w.heap.size ai b ks.length g _ hgi hMi (by omega) (by omega)).mono ?_; rw [Hk.out]; rintro e w2 ⟨rfl, hC⟩)
              | (have hX := hEx.trans hC; go_at_call 21; refine (told_same g _ (hX.cell hg)).mono ?_; rintro e w3 ⟨rfl, rfl⟩))
            go_ret2
            rw [HR.out]
            exact ⟨rfl, hEx.trans hC⟩
          | some k =>
            rw [hnk] at HS
            have HR : Hid (R = (someL b q k).map ((ks ++ [k]) ++ ·)) := Lib.hid (by rw [HS]; cases hz : someL b q k <;> simp [hz])
            have Hk := Lib.hid hnk
            clear HS hnk
            go_wp2_with (first
              | (go_at_call 26; refine (load_calls _ _ _ hc2).mono ?_; rintro e w2 ⟨rfl, rfl⟩)
              | (go_at_call 20; refine (next_calls w.heap.size ai b ks.length g _ hgi hMi (by omega) (by omega)).mono ?_; rw [Hk.out]; rintro e w2 ⟨rfl, hC, hM2⟩; have hrow2 := row_changed hrow hC (Nat.lt_succ_self _))
              | (at_builtin; refine wpList_append_own _ rfl _ _ 29 rfl (w.heap.size + 1) 9 i0 (.string ⟨#[]⟩) 1 16 Tryd.underlying29 hi hz0 hz1 hz2 rfl (by decide) u9 ks.length _ rfl (hrow2.alloc _) ⟨w2.heap.size, 0, none⟩ 1 1 [.string k] rfl rfl (cell_one_new _ _ _) (by simp [Value.oneCell']) (by unfold maxLen; omega) (by omega) ?_ ?_; rotate_right))
            · intro v' w4 hown hgrow _
              obtain ⟨g', cap', rfl⟩ := ownsRow_succ hown
              have hbm2 : w.heap.size < w2.heap.size := (Array.getElem?_eq_some_iff.1 hM2).1
              have hM4 : w4.heap[w.heap.size]? = some (.cells #[.string ai, .string b, .int .i64 ((ks.length : Int) + 1)] 44 (0, 0)) := (hgrow.block _ (by simp; omega) (row_ne hrow2 (Nat.lt_succ_self _))).trans ((Below.heap_alloc w2 _ _ hbm2).trans hM2)
              have hB4 : Below w.heap.size w w4 := by
                have h1 : Below w.heap.size wr w2 := ⟨hC.1, hC.2.1, hC.2.2.1, hC.2.2.2.1, fun j hj => hC.2.2.2.2 j (by have := hB.size; omega) (by omega)⟩
                refine hB.trans (h1.trans (((Below.refl _ w2).alloc (by omega) _).grown hgrow (by simp; omega) fun j ej => ?_))
                have := row_ne (bm := j) hrow2
                exact Nat.le_of_not_lt fun hj => this (by omega) ej.symm
              have hc4 : w4.cell? ⟨w.heap.size, 0, none⟩ = some (.string ai) := by simp [World.cell?, hM4]
              have hf4 : w4.frozen? ⟨w.heap.size, 0, none⟩ = false := by simp [World.frozen?, hM4]
              go_wp2
              go_roundw
              case rel =>
                refine ⟨ks ++ [k], k, by simp; omega, ?_, ?_, hB4.setCell (p := ⟨w.heap.size, 0, none⟩) (Nat.le_refl _) _, ?_⟩
                · simpa using ownsRow_setCell_below hown (a := ⟨w.heap.size, 0, none⟩) (by simp) (Value.string k)
                · simp only [World.setCell, Array.getElem?_modify, hM4]
                  simp
                · rw [HR.out, show m - (ks ++ [k]).length = q from by simp; omega]
              case measure =>
                simp only [madeOf, World.setCell, Array.getElem?_modify, hM4, hMi]
                simp [intOf]
                omega
            · have : w.heap.size < w2.heap.size := (Array.getElem?_eq_some_iff.1 hM2).1
              simp; omega
        · have hlt1 : decide ((ks.length : Int) < (m : Int)) = false := by simp; omega
          have hme : m - ks.length = 0 := by omega
          rw [hme, someL] at HS
          have HR : Hid (R = some ks) := Lib.hid (by rw [HS]; simp)
          clear HS
          go_wp2_with (go_at_call 26; refine (load_calls _ _ _ hc2).mono ?_; rintro e w2 ⟨rfl, rfl⟩)
          go_ret2
          rw [HR.out]
          exact ⟨_, rfl, hEx, hrow.mono (by omega)⟩
end Go.Proofs.YtemiocaiimdblaaDoor.Hand
