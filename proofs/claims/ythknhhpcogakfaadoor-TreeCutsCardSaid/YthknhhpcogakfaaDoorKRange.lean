/- The loop over a function that keeps a state of its own in memory: what the iterator may turn (Ab) and what the body must keep (Kp) are named by the caller. -/
import Derived.RangeFuncNested
import Derived.RangeFuncBox
import Derived.Test.YthknhhpcogakfaaDoorKReg
set_option linter.unusedVariables false
namespace Go.Proofs.YthknhhpcogakfaaDoor.K
open Go Go.RowKit
variable {F : Fence} {n : Nat} {P : Program}
/-- The iterator's contract, at whatever caller's words J, Jx that its own steps Ab leave true. -/
def SeqSt {α : Type} (F : Fence) (n : Nat) (P : Program) (g : Nat) (lb : Array Value) (encs : α → Array Value) (Kp Ab : World → World → Prop) (St : World → Prop) (S Sp : List α → World → Prop) (N : Nat) : Prop :=
  ∀ (l : Nat) (J Jx : List α → World → Prop), (∀ s A B, J s A → Ab A B → J s B) → (∀ s A B, Jx s A → Ab A B → Jx s B) →
    (∀ pre x W1, J pre W1 → pre.length < N → YieldAt F (n - 1) P l (encs x) W1 fun e W' => (e = .returned (.bool true) ∧ J (pre ++ [x]) W' ∧ Kp W1 W') ∨ (e = .returned (.bool false) ∧ Jx (pre ++ [x]) W')) →
    ∀ W, St W → J [] W → CallsIn F n P g (#[.func (.yield l) #[] #[]] ++ lb) W fun e W' => (∃ v, e = .returned v) ∧ ((∃ xs, S xs W' ∧ J xs W') ∨ (∃ pre, Sp pre W' ∧ Jx pre W'))
/-- What the law itself lays and turns: the two blocks of a loop over a function. -/
structure Book (D : Nat) (rec : LoopState → Option Code → Loop) (st : LoopState) (pe : Option Code) (W : World) : Prop where
  rc : W.heap[D + 1]? = some (.loop (rec st pe))
  dq : W.heap[D]? = some (.deferred (some []))
theorem wpIn_rangeFunc_st {α : Type} {g : Operand} {ps : Array Tmp} {assign body : Code} {Q : Exit → Act → World → Prop} {a : Act} {w : World}
    (hro : F.round = none) (h1 : 1 ≤ n) {gf : Nat} {lb : Array Value} (hg : a.eval g = .func (.func gf) #[] lb) (hFg : F.fn gf) (eg : ∀ args w, (callFunc gf args).run P w = .ok (.enter gf args) w)
    {encs : α → Array Value} {Kp Ab : World → World → Prop} {St : World → Prop} {S Sp : List α → World → Prop} {N : Nat} (hseq : SeqSt F (n - 1) P gf lb encs Kp Ab St S Sp N)
    (hKt : ∀ {A B C : World}, Kp A B → Kp B C → Kp A C) (hKb : ∀ (W : World) (l : Nat) (o o' : Obj), w.heap.size ≤ l → W.heap[l]? = some o → o.isCells = false → o.isWalk = false → Kp W (W.putObj l o'))
    (hAb : ∀ (A B : World) (k : Nat) (o : Obj), Ab A B → w.heap.size ≤ k → A.heap[k]? = some o → o.isCells = false → B.heap[k]? = some o) (hSt : ∀ o o', St ((w.alloc o).alloc o')) (hps : ∀ x, (encs x).size = ps.size) (hS : OwnFrom w.heap.size S) (hSp : OwnFrom w.heap.size Sp)
    (I : List α → World → Prop) (Ix : Code → List α → World → Prop) (hI : OwnFrom w.heap.size I) (hIx : ∀ c, OwnFrom w.heap.size (Ix c)) (hIA : ∀ s A B, I s A → Ab A B → I s B) (hIxA : ∀ c s A B, Ix c s A → Ab A B → Ix c s B) (h0 : I [] w) (a₁ : α → Act)
    (hassign : ∀ (l : Nat) (x : α) (W : World) (K : Act → World → Prop), K (a₁ x) W →
      assign.wpIn (F.inRound l) (n - 1 - 1) P (Exit.then K (fun _ _ _ => False)) { tmps := (ps.zip (encs x)).foldl (fun t (p, v) => t.setIfInBounds p v) a.tmps, defers := [] } W)
    (hbody : ∀ (l : Nat) (pre : List α) (x : α) (W : World), I pre W → pre.length < N → body.wpIn (F.inRound l) (n - 1 - 1) P (ownPostG w.heap.size Kp I Ix (pre ++ [x]) W) (a₁ x) W)
    (hdone : ∀ (D : Nat) (xs : List α) (W : World), w.heap.size ≤ D → S xs W → I xs W → W.heap[D]? = some (.deferred (some [])) → Q .normal { a with defers := { target := .collected D, args := #[] } :: a.defers } W)
    (hstop : ∀ (D : Nat) (c : Code) (pre : List α) (W : World), w.heap.size ≤ D → Sp pre W → Ix c pre W → W.heap[D]? = some (.deferred (some [])) → c.wpIn F n P Q { a with defers := { target := .collected D, args := #[] } :: a.defers } W) :
    (Code.rangeFunc g ps assign body).wpIn F n P Q a w := by
  refine wpIn_rangeFunc ?_
  intro fn hfn
  rw [hro]
  obtain ⟨D, hD⟩ : ∃ D, w.heap.size = D := ⟨_, rfl⟩
  obtain ⟨rec, hrec⟩ : ∃ rec : LoopState → Option Code → Loop, rec = fun st pe => { state := st, pending := pe, fn, tmps := a.tmps, params := ps, assign, body, defers := D } := ⟨_, rfl⟩
  obtain ⟨W1, hW1⟩ : ∃ W1, (w.alloc (.deferred (some []))).alloc (.loop (rec .ready none)) = W1 := ⟨_, rfl⟩
  have hk1 : Book D rec .ready none W1 := by
    subst hD hW1
    exact ⟨by have := World.alloc_heap_new (w.alloc (.deferred (some []))) (.loop (rec .ready none)); rwa [World.size_alloc] at this, (Below.heap_alloc _ _ _ (by simp)).trans (World.alloc_heap_new w _)⟩
  have hI1 : I [] W1 := by rw [← hW1]; exact hI.alloc _ (hI.alloc _ h0)
  have hs1 : St W1 := by rw [← hW1]; exact hSt _ _
  rw [hD] at hI hIx hKb hAb hbody hdone hstop hS hSp
  have hbook : ∀ (A B : World) (st : LoopState) (pe : Option Code), Ab A B → Book D rec st pe A → Book D rec st pe B := fun A B st pe hab hb => ⟨hAb A B _ _ hab (by omega) hb.rc rfl, hAb A B _ _ hab (Nat.le_refl _) hb.dq rfl⟩
  have hturn : ∀ (W : World) (st st' : LoopState) (pe pe' : Option Code), Book D rec st pe W → Book D rec st' pe' (W.putObj (D + 1) (.loop (rec st' pe'))) := fun W st st' pe pe' hb =>
    ⟨World.putObj_heap_same (Array.getElem?_eq_some_iff.1 hb.rc).1, (World.putObj_heap_other (by omega)).trans hb.dq⟩
  refine ⟨D + 1, [{ target := .collected D, args := #[] }], W1, { target := .fn (.func gf) lb, args := #[.func (.yield (D + 1)) #[] #[]] }, W1, gf, #[.func (.yield (D + 1)) #[] #[]] ++ lb, W1, ?_, ?_, ?_, ?_, fun _ => h1, ?_⟩
  · rw [← hW1, hrec, ← hD]; exact run_enterLoop_outer _ _ _ _ _
  · simp only [resolve, hg]
    simp [go_sem]
  · intro f' hf'; simp [Target.leads] at hf'; subst hf'; exact hFg
  · simp [invoke, go_sem, eg]
  · refine (hseq (D + 1) (fun pre W => I pre W ∧ Book D rec .ready none W) (fun pre W => ∃ c, Ix c pre W ∧ Book D rec .done (some c) W)
      (fun s A B hs hab => ⟨hIA s A B hs.1 hab, hbook _ _ _ _ hab hs.2⟩) (fun s A B ⟨c, hc, hb⟩ hab => ⟨c, hIxA c s A B hc hab, hbook _ _ _ _ hab hb⟩) ?_ W1 hs1 ⟨hI1, hk1⟩).mono ?_
    · rintro pre x W ⟨hi, hb⟩ hlen
      have hy := run_yield (P := P) (args := encs x) hb.rc (by rw [hrec]; exact hps x)
      rw [hrec] at hy
      refine ⟨fn, _, assign, body, hy, roundIn_of_wpIn hfn (hassign _ x W _ ⟨_, run_beginRound hb.rc (by rw [hrec]), ?_⟩)⟩
      have e1 : ({ rec .ready none with state := .busy } : Loop) = rec .busy none := by rw [hrec]
      rw [e1]
      have hb2 := hturn W .ready .busy none none hb
      have hw2 : Kp W (W.putObj (D + 1) (.loop (rec .busy none))) := hKb _ _ _ _ (by omega) hb.rc rfl rfl
      refine wpIn_mono (hbody _ pre x _ (hI.putObj _ hi (by omega) hb.rc rfl) hlen) ?_
      have fin : ∀ (jump : Option Code) (W3 : World), KeepsFrom D (W.putObj (D + 1) (.loop (rec .busy none))) W3 → Book D rec .busy none W3 ∧
          (Instr.endRound (D + 1) jump).run P W3 = .ok (.bool jump.isNone) (W3.putObj (D + 1) (.loop (rec (if jump.isNone then .ready else .done) jump))) := fun jump W3 hk3 => by
        have hb3 : Book D rec .busy none W3 := ⟨hk3.same _ _ (by omega) hb2.rc rfl, hk3.same _ _ (Nat.le_refl _) hb2.dq rfl⟩
        have := run_endRound (P := P) jump hb3.rc
        rw [hrec] at this ⊢
        exact ⟨by rw [hrec] at hb3; exact hb3, this⟩
      rintro e a3 W3 hp
      cases e with
      | normal =>
        obtain ⟨hk3, hkp3, hi3⟩ := hp
        obtain ⟨hb3, hr⟩ := fin none W3 hk3
        exact ⟨_, _, hr, .inl ⟨rfl, ⟨hI.putObj _ hi3 (by omega) hb3.rc rfl, hturn _ _ _ _ _ hb3⟩, hKt (hKt hw2 hkp3) (hKb _ _ _ _ (by omega) hb3.rc rfl rfl)⟩⟩
      | ret =>
        obtain ⟨hk3, hi3⟩ := hp
        obtain ⟨hb3, hr⟩ := fin (some .ret) W3 hk3
        exact ⟨_, _, hr, .inr ⟨rfl, .ret, (hIx _).putObj _ hi3 (by omega) hb3.rc rfl, hturn _ _ _ _ _ hb3⟩⟩
      | exit id =>
        obtain ⟨hk3, hi3⟩ := hp
        obtain ⟨hb3, hr⟩ := fin (some (.exit id)) W3 hk3
        exact ⟨_, _, hr, .inr ⟨rfl, .exit id, (hIx _).putObj _ hi3 (by omega) hb3.rc rfl, hturn _ _ _ _ _ hb3⟩⟩
      | goto t =>
        obtain ⟨hk3, hi3⟩ := hp
        obtain ⟨hb3, hr⟩ := fin (some (.goto t)) W3 hk3
        exact ⟨_, _, hr, .inr ⟨rfl, .goto t, (hIx _).putObj _ hi3 (by omega) hb3.rc rfl, hturn _ _ _ _ _ hb3⟩⟩
      | panic ch => exact hp.elim
      | outgrown => exact hp.elim
    · rintro e W2 ⟨⟨v, rfl⟩, (⟨xs, hs, hi, hb⟩ | ⟨pre, hsp, c, hi, hb⟩)⟩
      · have := run_endLoop (P := P) hb.rc (by rw [hrec]; simp)
        rw [hrec] at this
        exact ⟨none, _, this, hdone _ xs _ (Nat.le_refl _) (hS.putObj _ hs (by omega) hb.rc rfl) (hI.putObj _ hi (by omega) hb.rc rfl) ((World.putObj_heap_other (by omega)).trans hb.dq)⟩
      · have := run_endLoop (P := P) hb.rc (by rw [hrec]; simp)
        rw [hrec] at this
        exact ⟨some c, _, this, hstop _ c pre _ (Nat.le_refl _) (hSp.putObj _ hsp (by omega) hb.rc rfl) ((hIx c).putObj _ hi (by omega) hb.rc rfl) ((World.putObj_heap_other (by omega)).trans hb.dq)⟩
/-- Whatever lay and is not p lies as it lay. -/
structure Chg (p : Nat → Prop) (w w' : World) : Prop where
  os : w'.os = w.os
  tape : w'.tape = w.tape
  output : w'.output = w.output
  size : w.heap.size ≤ w'.heap.size
  block : ∀ k, k < w.heap.size → ¬ p k → w'.heap[k]? = w.heap[k]?
theorem Chg.refl (p : Nat → Prop) (w : World) : Chg p w w := ⟨rfl, rfl, rfl, Nat.le_refl _, fun _ _ _ => rfl⟩
theorem Chg.trans {p : Nat → Prop} {a b c : World} (h : Chg p a b) (k : Chg p b c) : Chg p a c := ⟨k.os.trans h.os, k.tape.trans h.tape, k.output.trans h.output, Nat.le_trans h.size k.size, fun j hj hp => (k.block j (Nat.lt_of_lt_of_le hj h.size) hp).trans (h.block j hj hp)⟩
theorem Chg.mono {p q : Nat → Prop} {a b : World} (h : Chg p a b) (hq : ∀ k, p k → q k) : Chg q a b := ⟨h.os, h.tape, h.output, h.size, fun j hj hp => h.block j hj (fun e => hp (hq j e))⟩
theorem Chg.of_ext {p : Nat → Prop} {a b : World} (h : Ext a b) : Chg p a b := ⟨h.out.os, h.out.tape, h.out.output, h.out.size, fun j hj _ => h.out.block j hj⟩
theorem Chg.ext {p : Nat → Prop} {a b : World} (h : Chg p a b) (hp : ∀ k, k < a.heap.size → ¬ p k) : Ext a b := Ext.below ⟨h.os, h.tape, h.output, h.size, fun j hj => h.block j hj (hp j hj)⟩
theorem Chg.setCell {p : Nat → Prop} {a b : World} (h : Chg p a b) (q : Addr) (hq : q.block < a.heap.size → p q.block) (v : Value) : Chg p a (b.setCell q v) :=
  ⟨h.os, h.tape, h.output, by show _ ≤ (b.heap.modify _ _).size; rw [Array.size_modify]; exact h.size, fun j hj hp => (Below.heap_setCell b q v j (fun e => hp (by subst e; exact hq hj))).trans (h.block j hj hp)⟩
theorem Chg.grown {p : Nat → Prop} {a b c : World} (h : Chg p a b) {row : Option Nat} (hg : b.grownBy c row) (hr : ∀ k, row = some k → k < a.heap.size → p k) : Chg p a c :=
  ⟨hg.os.trans h.os, hg.tape.trans h.tape, hg.output.trans h.output, Nat.le_trans h.size hg.size, fun j hj hp => (hg.block j (Nat.lt_of_lt_of_le hj h.size) (fun e => hp (hr j e.symm hj))).trans (h.block j hj hp)⟩
theorem Chg.alloc {p : Nat → Prop} {a b : World} (h : Chg p a b) (o : Obj) : Chg p a (b.alloc o) := h.trans (Chg.of_ext ((Ext.refl _).alloc o))
end Go.Proofs.YthknhhpcogakfaaDoor.K
