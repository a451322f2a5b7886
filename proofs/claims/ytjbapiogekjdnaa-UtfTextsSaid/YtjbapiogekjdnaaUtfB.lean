/- utf: the classes, made once; whether a number is a rune, and of which class. -/
import Derived.Test.YtjbapiogekjdnaaUtfA
set_option linter.unusedVariables false
set_option linter.unusedSimpArgs false
namespace Go.Proofs.Ytjbapiogekjdnaa.Hand
open Go Go.RowKit Go.Proofs.Ytjbapiogekjdnaa.K
set_option maxRecDepth 100000
set_option maxHeartbeats 4000000
def charL : List (Int × Int) := [(9, 10), (13, 13), (32, 55295), (57344, 65533), (65536, 1114111)]
def firstL : List (Int × Int) := [(58, 58), (65, 90), (95, 95), (97, 122), (192, 214), (216, 246), (248, 767), (880, 893), (895, 8191), (8204, 8205), (8304, 8591), (11264, 12271), (12289, 55295), (63744, 64975), (65008, 65533), (65536, 983039)]
def moreL : List (Int × Int) := [(45, 46), (48, 57), (183, 183), (768, 879), (8255, 8256)]
def runeL : List (Int × Int) := [(0, 55295), (57344, 1114111)]
def cellsOf : List (Int × Int) → List Value
  | [] => []
  | x :: l => .int .i32 x.1 :: .int .i32 x.2 :: cellsOf l
theorem cellsOf_at : ∀ (L : List (Int × Int)) (j : Nat), j < L.length → (cellsOf L)[j * 2]? = some (.int .i32 (L.getD j (0, 0)).1) ∧ (cellsOf L)[j * 2 + 1]? = some (.int .i32 (L.getD j (0, 0)).2)
  | [], j, h => by simp at h
  | x :: l, 0, h => by simp [cellsOf]
  | x :: l, j + 1, h => by
    have := cellsOf_at l j (by simpa using h)
    rw [show (j + 1) * 2 = j * 2 + 1 + 1 from by omega]
    simpa [cellsOf] using this
theorem spansAt_of {w : World} {b : Nat} {t : TypeId} {L : List (Int × Int)} (h : w.heap[b]? = some (.cells (cellsOf L).toArray t (0, 0))) (hb : ∀ x ∈ L, 0 ≤ x.1 ∧ x.1 ≤ 2000000 ∧ 0 ≤ x.2 ∧ x.2 ≤ 2000000) : SpansAt w b L := by
  refine ⟨fun j hj => ?_, hb⟩
  obtain ⟨h1, h2⟩ := cellsOf_at L j hj
  simp only [World.cell?, h]
  exact ⟨by simpa using h1, by simpa using h2⟩
theorem h_newN (w : World) (o : Obj) (n : Nat) (h : n = w.heap.size) : (w.alloc o).heap[n]? = some o := by subst h; show (w.heap.push o)[w.heap.size]? = some o; exact Array.getElem?_push_size
theorem h_old (w : World) (o : Obj) (k : Nat) (h : k < w.heap.size) : (w.alloc o).heap[k]? = w.heap[k]? := Below.heap_alloc _ _ _ h
/-- Behind the closure: the classes' block, and the three rows. -/
structure Filled (w w' : World) : Prop where
  box : w'.heap[w.heap.size]? = some (.cells #[.int .u32 0, .int .i32 1, .int .u32 0, .slice (some ⟨w.heap.size + 2, 0, none⟩) 5 5, .slice (some ⟨w.heap.size + 3, 0, none⟩) 16 16, .slice (some ⟨w.heap.size + 4, 0, none⟩) 5 5] 58 (0, 0))
  ptr : w'.heap[w.heap.size + 1]? = some (.cells #[.pointer (some ⟨w.heap.size, 0, none⟩)] 59 (0, 0))
  r1 : w'.heap[w.heap.size + 2]? = some (.cells (cellsOf charL).toArray 67 (0, 0))
  r2 : w'.heap[w.heap.size + 3]? = some (.cells (cellsOf firstL).toArray 67 (0, 0))
  r3 : w'.heap[w.heap.size + 4]? = some (.cells (cellsOf moreL).toArray 67 (0, 0))
  ext : Ext w w'
theorem fill1_calls (w : World) :
    Calls Try.prog 50 #[.pointer (some ⟨w.heap.size + 1, 0, none⟩)] ((w.alloc (.cells #[.int .u32 0, .int .i32 1, .int .u32 0, .slice none 0 0, .slice none 0 0, .slice none 0 0] 58)).alloc (.cells #[.pointer (some ⟨w.heap.size, 0, none⟩)] 59)) fun e w' => e = .returned (.tuple #[]) ∧ Filled w w' := by
  go_enter Try.func50, Try.ntmps50
  go_wp2
  go_end0
  refine ⟨rfl, ?_, ?_, ?_, ?_, ?_, ?_⟩
  · rw [h_old _ _ _ (by simp <;> omega), h_old _ _ _ (by simp <;> omega), h_old _ _ _ (by simp <;> omega), h_old _ _ _ (by simp)]; exact h_newN _ _ _ rfl
  · rw [h_old _ _ _ (by simp <;> omega), h_old _ _ _ (by simp <;> omega), h_old _ _ _ (by simp)]; exact h_newN _ _ _ (by simp)
  · rw [h_old _ _ _ (by simp <;> omega), h_old _ _ _ (by simp)]; exact h_newN _ _ _ (by simp)
  · rw [h_old _ _ _ (by simp)]; exact h_newN _ _ _ (by simp)
  · exact h_newN _ _ _ (by simp)
  · exact (((((Ext.refl w).alloc _).alloc _).alloc _).alloc _).alloc _
/-- What the classes are, once made. -/
structure Known (w w' : World) : Prop where
  c3 : w'.cell? ⟨w.heap.size, 3, none⟩ = some (.slice (some ⟨w.heap.size + 2, 0, none⟩) 5 5)
  c4 : w'.cell? ⟨w.heap.size, 4, none⟩ = some (.slice (some ⟨w.heap.size + 3, 0, none⟩) 16 16)
  c5 : w'.cell? ⟨w.heap.size, 5, none⟩ = some (.slice (some ⟨w.heap.size + 4, 0, none⟩) 5 5)
  ptr : w'.cell? ⟨w.heap.size + 1, 0, none⟩ = some (.pointer (some ⟨w.heap.size, 0, none⟩))
  r1 : SpansAt w' (w.heap.size + 2) charL
  r2 : SpansAt w' (w.heap.size + 3) firstL
  r3 : SpansAt w' (w.heap.size + 4) moreL
  ext : Ext w w'
theorem known_of {w w1 : World} (h : Filled w w1) : Known w ((w1.drew.setCell ⟨w.heap.size, 0, none⟩ (.int .u32 1)).setCell ⟨w.heap.size, 0 + 1, none⟩ (.int .i32 0)) := by
  have hb := h.box
  have hk : ∀ k, k ≠ w.heap.size → ((w1.drew.setCell ⟨w.heap.size, 0, none⟩ (.int .u32 1)).setCell ⟨w.heap.size, 0 + 1, none⟩ (.int .i32 0)).heap[k]? = w1.heap[k]? := fun k hk => by
    rw [Below.heap_setCell _ _ _ k hk, Below.heap_setCell _ _ _ k hk]; rfl
  have h0 : ((w1.drew.setCell ⟨w.heap.size, 0, none⟩ (.int .u32 1)).setCell ⟨w.heap.size, 0 + 1, none⟩ (.int .i32 0)).heap[w.heap.size]? = some (.cells #[.int .u32 1, .int .i32 0, .int .u32 0, .slice (some ⟨w.heap.size + 2, 0, none⟩) 5 5, .slice (some ⟨w.heap.size + 3, 0, none⟩) 16 16, .slice (some ⟨w.heap.size + 4, 0, none⟩) 5 5] 58 (0, 0)) := by
    have e : w1.drew.heap[w.heap.size]? = w1.heap[w.heap.size]? := rfl
    simp only [World.setCell, Array.getElem?_modify, e, hb]
    rfl
  refine ⟨?_, ?_, ?_, ?_, ?_, ?_, ?_, ?_⟩
  · simp [World.cell?, h0]
  · simp [World.cell?, h0]
  · simp [World.cell?, h0]
  · simp only [World.cell?, hk (w.heap.size + 1) (by omega), h.ptr]; rfl
  · exact spansAt_of ((hk _ (by omega)).trans h.r1) (by decide)
  · exact spansAt_of ((hk _ (by omega)).trans h.r2) (by decide)
  · exact spansAt_of ((hk _ (by omega)).trans h.r3) (by decide)
  · exact ⟨((h.ext.drew.out.setCell (p := ⟨w.heap.size, 0, none⟩) (Nat.le_refl _) _).setCell (p := ⟨w.heap.size, 0 + 1, none⟩) (Nat.le_refl _) _)⟩
theorem fill_calls (w : World) :
    Calls Try.prog 44 #[.pointer (some ⟨w.heap.size, 0, none⟩)] (w.alloc (.cells #[.int .u32 0, .int .i32 0, .int .u32 0, .slice none 0 0, .slice none 0 0, .slice none 0 0] 58)) fun e w' => e = .returned (.pointer (some ⟨w.heap.size, 0, none⟩)) ∧ Known w w' := by
  have hmf : ∀ (fn : Fn) (first cap : Array Value) (w : World), (Instr.makeFunc fn first cap).run Try.prog w = .ok (.func fn first cap) w := fun _ _ _ _ => rfl
  have ho : Calls Try.prog 49 #[.pointer (some ⟨w.heap.size, 0, none⟩), .func (.func 50) #[] #[.pointer (some ⟨w.heap.size + 1, 0, none⟩)]] ((w.alloc (.cells #[.int .u32 0, .int .i32 0, .int .u32 0, .slice none 0 0, .slice none 0 0, .slice none 0 0] 58)).alloc (.cells #[.pointer (some ⟨w.heap.size, 0, none⟩)] 59)) fun e w' => e = .returned (.tuple #[]) ∧ Known w w' := by
    have h0 : ((w.alloc (.cells #[.int .u32 0, .int .i32 0, .int .u32 0, .slice none 0 0, .slice none 0 0, .slice none 0 0] 58)).alloc (.cells #[.pointer (some ⟨w.heap.size, 0, none⟩)] 59)).heap[w.heap.size]? = some (.cells #[.int .u32 0, .int .i32 0, .int .u32 0, .slice none 0 0, .slice none 0 0, .slice none 0 0] 58 (0, 0)) := by
      rw [h_old _ _ _ (by simp)]; exact h_newN _ _ _ rfl
    refine (once_50 w.heap.size 0 _ (Filled w) _ (by simp [World.cell?, h0]) (by simp [World.cell?, h0]) (by simp [World.frozen?, h0]) (by simp [World.frozen?, h0]) ?_ ?_).mono ?_
    · have : ((w.alloc (.cells #[.int .u32 0, .int .i32 0, .int .u32 0, .slice none 0 0, .slice none 0 0, .slice none 0 0] 58)).alloc (.cells #[.pointer (some ⟨w.heap.size, 0, none⟩)] 59)).setCell ⟨w.heap.size, 0 + 1, none⟩ (.int .i32 1) = ((w.alloc (.cells #[.int .u32 0, .int .i32 1, .int .u32 0, .slice none 0 0, .slice none 0 0, .slice none 0 0] 58)).alloc (.cells #[.pointer (some ⟨w.heap.size, 0, none⟩)] 59)) := by
        go_simp
      rw [this]
      exact fill1_calls w
    · intro w' hF
      refine ⟨?_, ?_, ?_, ?_⟩ <;> simp [World.cell?, World.frozen?, hF.box]
    · rintro e w' ⟨rfl, w1, hF, rfl⟩
      exact ⟨rfl, known_of hF⟩
  go_enter Try.func44, Try.ntmps44
  go_wp2_with (go_at_call 49; (with_reducible refine ho.mono ?_); rintro e w2 ⟨rfl, hK⟩; have hptr := hK.ptr)
  go_ret
  exact ⟨rfl, hK⟩
theorem known_calls (w : World) : Calls Try.prog 37 #[] w fun e w' => e = .returned (.pointer (some ⟨w.heap.size, 0, none⟩)) ∧ Known w w' := by
  go_enter Try.func37, Try.ntmps37
  go_wp2_with (go_at_call 44; (with_reducible refine (fill_calls w).mono ?_); rintro e w2 ⟨rfl, hK⟩)
  go_ret
  exact ⟨rfl, hK⟩
theorem isChar_calls (r : Int) (w : World) : Calls Try.prog 16 #[.int .i64 r] w fun e w' => e = .returned (.bool (charL.any (inB r))) ∧ Ext w w' := by
  have hs : ∀ (W : World) (b : Nat), SpansAt W b charL → Calls Try.prog 36 #[.int .i64 r, .slice (some ⟨b, 0, none⟩) 5 5] W fun e w' => e = .returned (.bool (charL.any (inB r))) ∧ Ext W w' := fun (W : World) (b : Nat) (h : SpansAt W b charL) => isIn_calls r b 5 charL W h (by decide)
  obtain ⟨R, hR⟩ : ∃ R, charL.any (inB r) = R := ⟨_, rfl⟩
  rw [hR] at hs ⊢
  clear hR
  go_enter Try.func16, Try.ntmps16
  go_wp2_with (first | (go_at_call 37; (with_reducible refine (known_calls w).mono ?_); rintro e w2 ⟨rfl, hK⟩; have hc := hK.c3) | (go_at_call 36; (with_reducible refine (hs _ _ hK.r1).mono ?_); rintro e w3 ⟨rfl, hq⟩))
  go_ret
  exact ⟨rfl, hK.ext.trans hq⟩
theorem isFirst_calls (r : Int) (w : World) : Calls Try.prog 18 #[.int .i64 r] w fun e w' => e = .returned (.bool (firstL.any (inB r))) ∧ Ext w w' := by
  have hs : ∀ (W : World) (b : Nat), SpansAt W b firstL → Calls Try.prog 36 #[.int .i64 r, .slice (some ⟨b, 0, none⟩) 16 16] W fun e w' => e = .returned (.bool (firstL.any (inB r))) ∧ Ext W w' := fun (W : World) (b : Nat) (h : SpansAt W b firstL) => isIn_calls r b 16 firstL W h (by decide)
  obtain ⟨R, hR⟩ : ∃ R, firstL.any (inB r) = R := ⟨_, rfl⟩
  rw [hR] at hs ⊢
  clear hR
  go_enter Try.func18, Try.ntmps18
  go_wp2_with (first | (go_at_call 37; (with_reducible refine (known_calls w).mono ?_); rintro e w2 ⟨rfl, hK⟩; have hc := hK.c4) | (go_at_call 36; (with_reducible refine (hs _ _ hK.r2).mono ?_); rintro e w3 ⟨rfl, hq⟩))
  go_ret
  exact ⟨rfl, hK.ext.trans hq⟩
theorem isOther_calls (r : Int) (w : World) : Calls Try.prog 20 #[.int .i64 r] w fun e w' => e = .returned (.bool (firstL.any (inB r) || moreL.any (inB r))) ∧ Ext w w' := by
  have hf := fun (W : World) => isFirst_calls r W
  have hs : ∀ (W : World) (b : Nat), SpansAt W b moreL → Calls Try.prog 36 #[.int .i64 r, .slice (some ⟨b, 0, none⟩) 5 5] W fun e w' => e = .returned (.bool (moreL.any (inB r))) ∧ Ext W w' := fun (W : World) (b : Nat) (h : SpansAt W b moreL) => isIn_calls r b 5 moreL W h (by decide)
  cases hR : firstL.any (inB r) with
  | true =>
    rw [hR] at hf
    clear hR hs
    go_enter Try.func20, Try.ntmps20
    go_wp2_with (go_at_call 18; (with_reducible refine (hf _).mono ?_); rintro e w2 ⟨rfl, hq⟩)
    go_ret
    exact ⟨rfl, hq⟩
  | false =>
    rw [hR] at hf
    clear hR
    obtain ⟨R, hR⟩ : ∃ R, moreL.any (inB r) = R := ⟨_, rfl⟩
    rw [hR] at hs ⊢
    clear hR
    go_enter Try.func20, Try.ntmps20
    go_wp2_with (first | (go_at_call 18; (with_reducible refine (hf _).mono ?_); rintro e w1 ⟨rfl, hq1⟩) | (go_at_call 37; (with_reducible refine (known_calls _).mono ?_); rintro e w2 ⟨rfl, hK⟩; have hc := hK.c5) | (go_at_call 36; (with_reducible refine (hs _ _ hK.r3).mono ?_); rintro e w3 ⟨rfl, hq⟩))
    go_ret
    exact ⟨rfl, (hq1.trans hK.ext).trans hq⟩
theorem isRune_calls (r : Int) (w : World) : Calls Try.prog 32 #[.int .i64 r] w fun e w' => e = .returned (.bool (runeL.any (inB r))) ∧ Ext w w' := by
  have hsp : SpansAt (w.alloc (.cells #[.int .i32 0, .int .i32 55295, .int .i32 57344, .int .i32 1114111] 67)) w.heap.size runeL := spansAt_of (t := 67) (h_newN _ _ _ rfl) (by decide)
  have hs : Calls Try.prog 36 #[.int .i64 r, .slice (some ⟨w.heap.size, 0, none⟩) 2 2] _ fun e w' => e = .returned (.bool (runeL.any (inB r))) ∧ Ext _ w' := isIn_calls r w.heap.size 2 runeL _ hsp (by decide)
  obtain ⟨R, hR⟩ : ∃ R, runeL.any (inB r) = R := ⟨_, rfl⟩
  rw [hR] at hs ⊢
  clear hR hsp
  go_enter Try.func32, Try.ntmps32
  go_wp2_with (go_at_call 36; (with_reducible refine hs.mono ?_); rintro e w3 ⟨rfl, hq⟩)
  go_ret
  exact ⟨rfl, ((Ext.refl w).alloc _).trans hq⟩
end Go.Proofs.Ytjbapiogekjdnaa.Hand
