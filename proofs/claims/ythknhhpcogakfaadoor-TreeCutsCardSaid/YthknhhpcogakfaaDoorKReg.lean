/- A region of open order, told once in the order of its text: each operation is shown alone, out of what the operations that it waits for have left; whatever order is drawn. -/
import Derived.Orders
import Derived.Below
import Derived.Deep.Draws
set_option linter.unusedVariables false
namespace Go.Proofs.YthknhhpcogakfaaDoor.K
open Go Go.RowKit
/-- The world has grown: all that lay lies as it lay. -/
structure Ext (w w' : World) : Prop where mk :: (out : Below w.heap.size w w')
theorem Ext.refl (w : World) : Ext w w := ⟨Below.refl _ _⟩
theorem Ext.trans {a b c : World} (h : Ext a b) (k : Ext b c) : Ext a c := ⟨h.out.trans (k.out.mono h.out.size)⟩
theorem Ext.alloc {w w' : World} (h : Ext w w') (o : Obj) : Ext w (w'.alloc o) := ⟨h.out.alloc h.out.size o⟩
theorem Ext.drew {w w' : World} (h : Ext w w') : Ext w w'.drew := ⟨h.out.drew⟩
theorem Ext.drewN {w w' : World} (h : Ext w w') (n : Nat) : Ext w (w'.drewN n) := ⟨⟨h.out.os, h.out.tape, h.out.output, h.out.size, h.out.block⟩⟩
theorem Ext.below {w w' : World} (h : Below w.heap.size w w') : Ext w w' := ⟨h⟩
theorem Ext.size {w w' : World} (h : Ext w w') : w.heap.size ≤ w'.heap.size := h.out.size
theorem Ext.block {w w' : World} (h : Ext w w') (k : Nat) (hk : k < w.heap.size) : w'.heap[k]? = w.heap[k]? := h.out.block k hk
theorem Ext.cell {w w' : World} (h : Ext w w') {p : Addr} {v : Value} (hc : w.cell? p = some v) : w'.cell? p = some v := (h.out.cell (World.block_lt_of_cell? w p hc)).trans hc
theorem Ext.frozen {w w' : World} (h : Ext w w') {p : Addr} {v : Value} (hc : w.cell? p = some v) : w'.frozen? p = w.frozen? p := h.out.frozen (World.block_lt_of_cell? w p hc)
theorem Ext.heap {w w' : World} (h : Ext w w') {k : Nat} {o : Obj} (hc : w.heap[k]? = some o) : w'.heap[k]? = some o := (h.out.block k (Array.getElem?_eq_some_iff.1 hc).1).trans hc

abbrev Phi := Value → World → Prop
/-- It is known exactly. -/
abbrev is (x : Value) : Phi := fun v _ => v = x
def Stable (φ : Phi) : Prop := ∀ v w w', φ v w → Ext w w' → φ v w'
theorem stable_is (x : Value) : Stable (is x) := fun _ _ _ h _ => h

/-- All that operation i waits for. -/
def anc (ops : Array Oper) : Nat → Nat → List Nat
  | 0, _ => []
  | f + 1, i => match ops[i]? with
    | none => []
    | some o => (o.after.toList.filter (Region.binds .any)).flatMap fun e => e.on :: anc ops f e.on
/-- Of each operation's slots: whose value stands there when it is carried out: operation j's (some j), or what stood there before the region (none). -/
def srcOk (ops : Array Oper) (anc : Nat → List Nat) (i : Nat) (t : Tmp) : Option Nat → Bool
  | some j => ((ops[j]?).bind (·.dst) == some t) && (anc i).contains j
  | none => (List.range ops.size).all fun j => !((ops[j]?).bind (·.dst) == some t) || j == i || (anc j).contains i
def noDup (ops : Array Oper) : Bool := (List.range ops.size).all fun i => (List.range ops.size).all fun j => i == j || ((ops[i]?).bind (·.dst)).isNone || !((ops[i]?).bind (·.dst) == (ops[j]?).bind (·.dst))
def chk (ops : Array Oper) (A : List (List Nat)) (T : List (List (Tmp × Option Nat))) : Bool :=
  noDup ops && decide (T.length = ops.size) && decide (A.length = ops.size) &&
  ((List.range ops.size).all fun i => match ops[i]? with
    | some o => (A.getD i []).all fun j => (o.after.toList.any fun e => Region.binds .any e && (e.on == j || (A.getD e.on []).contains j))
    | none => false) &&
  ((List.range ops.size).all fun i => match ops[i]? with | some o => o.after.toList.all (fun e => !Region.binds .any e || decide (e.on < i)) | none => false) &&
  ((List.range ops.size).all fun i => (T.getD i []).all fun ts => srcOk ops (fun k => A.getD k []) i ts.1 ts.2)

/-- What operation i finds in its slots. -/
def Finds (a0 : Act) (Φ : List Phi) (a : Act) (w : World) : List (Tmp × Option Nat) → Prop
  | [] => True
  | (t, none) :: r => a.tmps.getD t undef = a0.tmps.getD t undef ∧ Finds a0 Φ a w r
  | (t, some j) :: r => (match Φ[j]? with | some φ => φ (a.tmps.getD t undef) w | none => False) ∧ Finds a0 Φ a w r
def OpOK (P : Program) (ops : Array Oper) (Q : Exit → Act → World → Prop) (a0 : Act) (w0 : World) (Φ : List Phi) (Ti : List (Tmp × Option Nat)) (o : Oper) (φ : Phi) : Prop :=
  ∀ (a : Act) (w : World) (K : Act → World → Prop), Ext w0 w → a.defers = a0.defers → Finds a0 Φ a w Ti → (∀ v w', Ext w w' → φ v w' → K (a.put o.dst v) w') →
    if Region.wanted o (yielded ops a.tmps) then o.wp P a w K Q else K (a.put o.dst undef) w
/-- Behind the region. -/
def EndAll (Q : Exit → Act → World → Prop) (w : World) : List (Option Tmp × Phi) → Act → Prop
  | [], a => Q .normal a w
  | (d, φ) :: r, a => ∀ v, φ v w → EndAll Q w r (a.put d v)
inductive Chain (P : Program) (ops : Array Oper) (T : List (List (Tmp × Option Nat))) (Q : Exit → Act → World → Prop) (a0 : Act) (w0 : World) : List Oper → List Phi → Prop where
  | nil {Φ : List Phi} (h : ∀ w, Ext w0 w → EndAll Q w ((ops.toList.map (·.dst)).zip Φ) a0) : Chain P ops T Q a0 w0 [] Φ
  | cons {o : Oper} {r : List Oper} {Φ : List Phi} (φ : Phi) (hs : Stable φ) (h : OpOK P ops Q a0 w0 Φ (T.getD Φ.length []) o φ) (k : Chain P ops T Q a0 w0 r (Φ ++ [φ])) : Chain P ops T Q a0 w0 (o :: r) Φ

section
variable {P : Program} {ops : Array Oper} {A : List (List Nat)} {T : List (List (Tmp × Option Nat))} {Q : Exit → Act → World → Prop} {a0 : Act} {w0 : World}
theorem finds_mono {Φ Ψ : List Phi} (hp : ∀ (j : Nat) (φ : Phi), Φ[j]? = some φ → Ψ[j]? = some φ) {a : Act} {w : World} (hle : ∀ j, j < Φ.length ∨ Φ[j]? = none) : ∀ {l : List (Tmp × Option Nat)}, (∀ t j, (t, some j) ∈ l → j < Φ.length) → Finds a0 Ψ a w l → Finds a0 Φ a w l
  | [], _, h => h
  | (t, none) :: r, hl, h => ⟨h.1, finds_mono hp hle (fun t' j hm => hl t' j (List.mem_cons_of_mem _ hm)) h.2⟩
  | (t, some j) :: r, hl, h => by
    have hj := hl t j (List.mem_cons_self ..)
    have e : Φ[j]? = some Φ[j] := List.getElem?_eq_getElem hj
    have e2 := hp j _ e
    have h1 := h.1
    rw [e2] at h1
    exact ⟨by rw [e]; exact h1, finds_mono hp hle (fun t' j hm => hl t' j (List.mem_cons_of_mem _ hm)) h.2⟩
/-- Out of a chain: all facts at once. -/
theorem Chain.all {l : List Oper} {Φ : List Phi} (h : Chain P ops T Q a0 w0 l Φ) : ∀ (hl : ∀ j, l[j]? = ops[Φ.length + j]?), (∀ (i : Nat) (ti : List (Tmp × Option Nat)), T[i]? = some ti → ∀ t j, (t, some j) ∈ ti → j < i) →
    ∃ Ψ : List Phi, Ψ.length = Φ.length + l.length ∧ (∀ (j : Nat) (φ : Phi), Φ[j]? = some φ → Ψ[j]? = some φ) ∧
      (∀ w, Ext w0 w → EndAll Q w ((ops.toList.map (·.dst)).zip Ψ) a0) ∧
      (∀ i, Φ.length ≤ i → i < Ψ.length → ∃ o φ, ops[i]? = some o ∧ Ψ[i]? = some φ ∧ Stable φ ∧ OpOK P ops Q a0 w0 Ψ (T.getD i []) o φ) := by
  induction h with
  | nil h =>
    rename_i Φ
    intro hl hT
    exact ⟨Φ, by simp, fun _ _ e => e, h, fun i h1 h2 => by omega⟩
  | cons φ hs h k ih =>
    rename_i o r Φ
    intro hl hT
    obtain ⟨Ψ, hlen, hpre, hend, hops⟩ := ih (fun j => by
      have := hl (j + 1)
      simp only [List.getElem?_cons_succ] at this
      rw [this]; simp; congr 1; omega) hT
    refine ⟨Ψ, by rw [hlen]; simp; omega, fun j ψ e => hpre j ψ ?_, hend, fun i h1 h2 => ?_⟩
    · rw [List.getElem?_append_left (List.getElem?_eq_some_iff.1 e).1]; exact e
    · rcases Nat.eq_or_lt_of_le h1 with h3 | h3
      · subst h3
        have ho : ops[Φ.length]? = some o := by have := hl 0; simpa using this.symm
        have hφ : Ψ[Φ.length]? = some φ := hpre _ _ (by simp)
        refine ⟨o, φ, ho, hφ, hs, ?_⟩
        intro a w K he hd hf hk
        refine h a w K he hd (finds_mono (Ψ := Ψ) (fun j ψ e => hpre j ψ (by rw [List.getElem?_append_left (List.getElem?_eq_some_iff.1 e).1]; exact e)) (fun j => ?_) (fun t j hm => ?_) hf) hk
        · rcases Nat.lt_or_ge j Φ.length with h4 | h4
          · exact .inl h4
          · exact .inr (List.getElem?_eq_none h4)
        · cases hti : T[Φ.length]? with
          | none => simp [List.getD_eq_getElem?_getD, hti] at hm
          | some ti => exact hT _ ti hti t j (by simpa [List.getD_eq_getElem?_getD, hti] using hm)
      · exact hops i (by simp; omega) h2

end
def dstOk (ops : Array Oper) (n : Nat) : Bool := ops.all fun o => match o.dst with | some d => decide (d < n) | none => false

theorem getD_set (xs : Array Value) (i j : Nat) (v d : Value) : (xs.setIfInBounds i v).getD j d = if i = j ∧ i < xs.size then v else xs.getD j d := by
  simp only [Array.getD_eq_getD_getElem?, Array.getElem?_setIfInBounds]
  by_cases h : i = j
  · subst h
    by_cases h2 : i < xs.size <;> simp [h2]
  · simp [h]
theorem put_getD {a : Act} {d : Tmp} {v : Value} (t : Tmp) : (a.put (some d) v).tmps.getD t undef = if d = t ∧ d < a.tmps.size then v else a.tmps.getD t undef := getD_set _ _ _ _ _
theorem bget (l : Array Bool) (i j : Nat) (h : i < l.size) : (l.setIfInBounds i true).getD j false = if i = j then true else l.getD j false := by
  simp only [Array.getD_eq_getD_getElem?, Array.getElem?_setIfInBounds]
  by_cases e : i = j
  · subst e; simp [h]
  · simp [e]

/-- The relation between what is listed and the machine's state. -/
structure RInv (ops : Array Oper) (A : List (List Nat)) (Ψ : List Phi) (a0 : Act) (w0 : World) (listed : Array Bool) (a : Act) (w : World) : Prop where
  size : listed.size = ops.size
  closed : ∀ (i : Nat) (j : Nat), listed.getD i false = true → j ∈ A.getD i [] → listed.getD j false = true
  ext : Ext w0 w
  defers : a.defers = a0.defers
  tsize : a.tmps.size = a0.tmps.size
  old : ∀ t, (∀ j, listed.getD j false = true → (ops[j]?).bind (·.dst) ≠ some t) → a.tmps.getD t undef = a0.tmps.getD t undef
  new : ∀ (j : Nat) (t : Tmp), listed.getD j false = true → (ops[j]?).bind (·.dst) = some t → ∃ φ, Ψ[j]? = some φ ∧ φ (a.tmps.getD t undef) w

section
variable {P : Program} {ops : Array Oper} {A : List (List Nat)} {T : List (List (Tmp × Option Nat))} {Q : Exit → Act → World → Prop} {a0 : Act} {w0 : World}
structure Chk (ops : Array Oper) (A : List (List Nat)) (T : List (List (Tmp × Option Nat))) : Prop where
  nodup : ∀ (i j : Nat) (t : Tmp), (ops[i]?).bind (·.dst) = some t → (ops[j]?).bind (·.dst) = some t → i = j
  tlen : T.length = ops.size
  anc : ∀ (i : Nat) (o : Oper) (j : Nat), ops[i]? = some o → j ∈ A.getD i [] → ∃ e ∈ o.after.toList, Region.binds .any e = true ∧ (e.on = j ∨ j ∈ A.getD e.on [])
  fwd : ∀ (i : Nat) (o : Oper), ops[i]? = some o → ∀ e ∈ o.after.toList, Region.binds .any e = true → e.on < i
  src : ∀ i, i < ops.size → ∀ t s, (t, s) ∈ T.getD i [] → srcOk ops (fun k => A.getD k []) i t s = true
theorem chk_of (h : chk ops A T = true) : Chk ops A T := by
  simp only [chk, Bool.and_eq_true, decide_eq_true_eq] at h
  obtain ⟨⟨⟨⟨⟨h1, h2⟩, _⟩, h4⟩, h45⟩, h5⟩ := h
  have lt : ∀ (i : Nat) (t : Tmp), (ops[i]?).bind (·.dst) = some t → i < ops.size := fun i t e => by
    rcases Nat.lt_or_ge i ops.size with h | h
    · exact h
    · rw [Array.getElem?_eq_none h] at e; cases e
  refine ⟨fun i j t hi hj => ?_, h2, fun i o j ho hj => ?_, fun i o ho e he hb => ?_, fun i hi t s hm => ?_⟩
  · have a1 := List.all_eq_true.1 (List.all_eq_true.1 h1 i (List.mem_range.2 (lt i t hi))) j (List.mem_range.2 (lt j t hj))
    rw [hi, hj] at a1
    simpa using a1
  · have a1 := List.all_eq_true.1 h4 i (List.mem_range.2 (Array.getElem?_eq_some_iff.1 ho).1)
    rw [ho] at a1
    have a2 := List.all_eq_true.1 a1 j hj
    simp only [List.any_eq_true] at a2
    obtain ⟨e, he, h6⟩ := a2
    simp only [Bool.and_eq_true, Bool.or_eq_true, beq_iff_eq] at h6
    exact ⟨e, he, h6.1, h6.2.imp id (fun x => by simpa using x)⟩
  · have a1 := List.all_eq_true.1 h45 i (List.mem_range.2 (Array.getElem?_eq_some_iff.1 ho).1)
    rw [ho] at a1
    have a2 := List.all_eq_true.1 a1 e he
    simpa [hb] using a2
  · have a1 := List.all_eq_true.1 h5 i (List.mem_range.2 hi)
    exact List.all_eq_true.1 a1 (t, s) hm

theorem RInv.step {Ψ : List Phi} (hc : Chk ops A T) (hst : ∀ (j : Nat) (φ : Phi), Ψ[j]? = some φ → Stable φ) {listed : Array Bool} {a : Act} {w : World} {i : Nat} {o : Oper} {φ : Phi} {d : Tmp}
    (h : RInv ops A Ψ a0 w0 listed a w) (ho : ops[i]? = some o) (hd : o.dst = some d) (hdn : d < a0.tmps.size) (hi : listed.getD i true = false) (hr : ∀ e ∈ o.after.toList, Region.binds .any e = true → listed.getD e.on false = true)
    (hφ : Ψ[i]? = some φ) (v : Value) (w' : World) (he : Ext w w') (hv : φ v w') : RInv ops A Ψ a0 w0 (listed.setIfInBounds i true) (a.put o.dst v) w' := by
  have hil : i < listed.size := by rw [h.size]; exact (Array.getElem?_eq_some_iff.1 ho).1
  have hdi : (ops[i]?).bind (·.dst) = some d := by rw [ho]; exact hd
  rw [hd]
  refine ⟨by simpa using h.size, fun k j hk hj => ?_, h.ext.trans he, h.defers, by simp [Act.put, h.tsize], fun t ht => ?_, fun j t hj hjt => ?_⟩
  · rw [bget _ _ _ hil] at hk ⊢
    by_cases e : i = j
    · simp [e]
    · rw [if_neg e]
      by_cases e2 : i = k
      · subst e2
        obtain ⟨ed, hed, hb, h7⟩ := hc.anc i o j ho hj
        rcases h7 with h7 | h7
        · rw [← h7]; exact hr ed hed hb
        · exact h.closed _ _ (hr ed hed hb) h7
      · rw [if_neg e2] at hk
        exact h.closed _ _ hk hj
  · rw [put_getD]
    have hne : d ≠ t := fun e => ht i (by rw [bget _ _ _ hil]; simp) (by rw [hdi, e])
    rw [if_neg (fun x => hne x.1)]
    exact h.old t (fun j hj => ht j (by rw [bget _ _ _ hil]; split <;> simp [hj]))
  · rw [put_getD, h.tsize]
    by_cases e : i = j
    · subst e
      rw [hdi] at hjt
      obtain rfl := Option.some.inj hjt
      exact ⟨φ, hφ, by rw [if_pos ⟨rfl, hdn⟩]; exact hv⟩
    · rw [bget _ _ _ hil, if_neg e] at hj
      have hne : d ≠ t := fun x => e (hc.nodup i j t (by rw [hdi, x]) hjt)
      obtain ⟨ψ, h8, h9⟩ := h.new j t hj hjt
      exact ⟨ψ, h8, by rw [if_neg (fun x => hne x.1)]; exact hst _ _ h8 _ _ _ h9 he⟩

theorem RInv.finds {Ψ : List Phi} (hc : Chk ops A T) {listed : Array Bool} {a : Act} {w : World} {i : Nat} {o : Oper}
    (h : RInv ops A Ψ a0 w0 listed a w) (ho : ops[i]? = some o) (hi : listed.getD i true = false) (hr : ∀ e ∈ o.after.toList, Region.binds .any e = true → listed.getD e.on false = true) :
    Finds a0 Ψ a w (T.getD i []) := by
  have hilt := (Array.getElem?_eq_some_iff.1 ho).1
  have hif : listed.getD i false = false := by
    simp only [Array.getD_eq_getD_getElem?] at hi ⊢
    rw [Array.getElem?_eq_getElem (by rw [h.size]; exact hilt)] at hi ⊢
    exact hi
  have hlt : ∀ j ∈ A.getD i [], listed.getD j false = true := fun j hj => by
    obtain ⟨ed, hed, hb, h7⟩ := hc.anc i o j ho hj
    rcases h7 with h7 | h7
    · rw [← h7]; exact hr ed hed hb
    · exact h.closed _ _ (hr ed hed hb) h7
  have key : ∀ l : List (Tmp × Option Nat), (∀ t s, (t, s) ∈ l → srcOk ops (fun k => A.getD k []) i t s = true) → Finds a0 Ψ a w l := by
    intro l
    induction l with
    | nil => intro _; trivial
    | cons x r ih =>
      intro hl
      have hx := hl x.1 x.2 (List.mem_cons_self ..)
      have ih' := ih (fun t s hm => hl t s (List.mem_cons_of_mem _ hm))
      obtain ⟨t, s⟩ := x
      cases s with
      | none =>
        refine ⟨h.old t (fun j hj hjt => ?_), ih'⟩
        simp only [srcOk, List.all_eq_true, List.mem_range] at hx
        have hjl : j < ops.size := by
          rcases Nat.lt_or_ge j ops.size with h' | h'
          · exact h'
          · rw [Array.getElem?_eq_none h'] at hjt; cases hjt
        have h5 := hx j hjl
        simp only [hjt, BEq.rfl, Bool.not_true, Bool.false_or, Bool.or_eq_true, beq_iff_eq] at h5
        rcases h5 with rfl | h5
        · rw [hif] at hj; cases hj
        · rw [h.closed j i hj (by simpa using h5)] at hif; cases hif
      | some j =>
        simp only [srcOk, Bool.and_eq_true, beq_iff_eq] at hx
        obtain ⟨φ, h8, h9⟩ := h.new j t (hlt j (by simpa using hx.2)) hx.1
        exact ⟨by rw [h8]; exact h9, ih'⟩
  exact key _ (fun t s hm => hc.src i hilt t s hm)

theorem wpAny_inv (I : Array Bool → Act → World → Prop) (hsz : ∀ l a w, I l a w → l.size = ops.size)
    (step : ∀ l a w i, I l a w → i ∈ Region.ready .any ops l → ∀ K : Act → World → Prop, (∀ a' w', I (l.setIfInBounds i true) a' w' → K a' w') → wpOp P ops Q i K a w)
    (fin : ∀ l a w, I l a w → Region.ready .any ops l = [] → Q .normal a w) :
    ∀ (fuel : Nat) (l : Array Bool) (a : Act) (w : World), ((List.range ops.size).filter fun j => !l.getD j true).length ≤ fuel → I l a w → wpAny P .any ops Q fuel l a w := by
  intro fuel
  induction fuel with
  | zero =>
    intro l a w hf hI
    have h0 : Region.ready .any ops l = [] := by
      have h1 := List.eq_nil_of_length_eq_zero (Nat.le_zero.1 hf)
      unfold Region.ready
      rw [List.filter_eq_nil_iff] at h1 ⊢
      intro j hj h2
      rw [Bool.and_eq_true] at h2
      exact h1 j hj h2.1
    exact ⟨h0, fin l a w hI h0⟩
  | succ fuel ih =>
    intro l a w hf hI
    refine ⟨fin l a w hI, fun i hi => step l a w i hI hi _ fun a' w' hI' => ih _ _ _ ?_ hI'⟩
    have hi' := hi
    unfold Region.ready at hi'
    rw [List.mem_filter, Bool.and_eq_true] at hi'
    obtain ⟨hr, h1, _⟩ := hi'
    have hil : i < l.size := by rw [hsz l a w hI]; exact List.mem_range.1 hr
    have hlt : ((List.range ops.size).filter fun j => !(l.setIfInBounds i true).getD j true).length < ((List.range ops.size).filter fun j => !l.getD j true).length := by
      have e : ∀ j, (l.setIfInBounds i true).getD j true = if i = j then true else l.getD j true := fun j => by
        simp only [Array.getD_eq_getD_getElem?, Array.getElem?_setIfInBounds]
        by_cases e : i = j
        · subst e; simp [hil]
        · simp [e]
      have e3 : ((List.range ops.size).filter fun j => !(l.setIfInBounds i true).getD j true) = (((List.range ops.size).filter fun j => !l.getD j true).filter fun j => !(j == i)) := by
        rw [List.filter_filter]
        refine List.filter_congr fun j _ => ?_
        rw [e j]
        by_cases e4 : i = j
        · subst e4; simp
        · simp [e4, Ne.symm e4]
      rw [e3]
      refine List.length_filter_lt_length_iff_exists.2 ⟨i, List.mem_filter.2 ⟨hr, h1⟩, by simp⟩
    omega

def foldPut : Act → List (Option Tmp × Value) → Act
  | a, [] => a
  | a, (d, v) :: r => foldPut (a.put d v) r
theorem endAll_fold {w : World} : ∀ (L : List (Option Tmp × Phi)) (a : Act) (vs : List Value), EndAll Q w L a → vs.length = L.length → (∀ (j : Nat) (dφ : Option Tmp × Phi) (v : Value), L[j]? = some dφ → vs[j]? = some v → dφ.2 v w) → Q .normal (foldPut a ((L.map (·.1)).zip vs)) w
  | [], a, vs, h, hl, _ => by simpa [foldPut, EndAll] using h
  | (d, φ) :: L, a, [], h, hl, _ => by simp at hl
  | (d, φ) :: L, a, v :: vs, h, hl, hv => by
    have := endAll_fold L (a.put d v) vs (h v (hv 0 (d, φ) v rfl rfl)) (by simpa using hl) (fun j dφ u h1 h2 => hv (j + 1) dφ u (by simpa using h1) (by simpa using h2))
    simpa [foldPut] using this
theorem foldPut_defers : ∀ (L : List (Option Tmp × Value)) (a : Act), (foldPut a L).defers = a.defers ∧ (foldPut a L).tmps.size = a.tmps.size
  | [], a => ⟨rfl, rfl⟩
  | (d, v) :: L, a => by
    have := foldPut_defers L (a.put d v)
    cases d with
    | none => exact this
    | some d => exact ⟨this.1, this.2.trans (by simp [Act.put])⟩
theorem foldPut_getD (t : Tmp) : ∀ (L : List (Option Tmp × Value)) (a : Act), (∀ (i j : Nat) (x y : Option Tmp × Value), L[i]? = some x → L[j]? = some y → x.1 = some t → y.1 = some t → i = j) → t < a.tmps.size →
    (∀ (j : Nat) (x : Option Tmp × Value), L[j]? = some x → x.1 = some t → (foldPut a L).tmps.getD t undef = x.2) ∧ ((∀ (j : Nat) (x : Option Tmp × Value), L[j]? = some x → x.1 ≠ some t) → (foldPut a L).tmps.getD t undef = a.tmps.getD t undef)
  | [], a, _, _ => ⟨fun j x h => by simp at h, fun _ => rfl⟩
  | (d, v) :: L, a, hu, ht => by
    have ht' : t < (a.put d v).tmps.size := by cases d <;> simp [Act.put, ht]
    obtain ⟨h1, h2⟩ := foldPut_getD t L (a.put d v) (fun i j x y hx hy e1 e2 => by have := hu (i + 1) (j + 1) x y (by simpa using hx) (by simpa using hy) e1 e2; omega) ht'
    refine ⟨fun j x hx e => ?_, fun h => ?_⟩
    · cases j with
      | zero =>
        obtain rfl : (d, v) = x := by simpa using hx
        have e' : d = some t := e
        subst e'
        show (foldPut (a.put (some t) v) L).tmps.getD t undef = v
        rw [h2 (fun k y hy e3 => by have := hu 0 (k + 1) (some t, v) y rfl (by simpa using hy) rfl e3; omega), put_getD, if_pos ⟨rfl, ht⟩]
      | succ j => exact h1 j x (by simpa using hx) e
    · show (foldPut (a.put d v) L).tmps.getD t undef = _
      rw [h2 (fun k y hy => h (k + 1) y (by simpa using hy))]
      cases d with
      | none => rfl
      | some d => rw [put_getD, if_neg (fun x => h 0 (some d, v) rfl (by rw [x.1]))]
theorem act_ext {a b : Act} (h1 : a.defers = b.defers) (h2 : a.tmps.size = b.tmps.size) (h3 : ∀ t, t < a.tmps.size → a.tmps.getD t undef = b.tmps.getD t undef) : a = b := by
  obtain ⟨ta, da⟩ := a
  obtain ⟨tb, db⟩ := b
  simp only at h1 h2 h3
  subst h1
  congr 1
  refine Array.ext h2 fun i hi hj => ?_
  have := h3 i hi
  simpa [Array.getD_eq_getD_getElem?, Array.getElem?_eq_getElem hi, Array.getElem?_eq_getElem hj] using this

theorem RInv.end_ {Ψ : List Phi} (hc : Chk ops A T) (hd : dstOk ops a0.tmps.size = true) (hlen : Ψ.length = ops.size) {listed : Array Bool} {a : Act} {w : World} (h : RInv ops A Ψ a0 w0 listed a w) (hall : ∀ j, j < ops.size → listed.getD j false = true)
    (hend : EndAll Q w ((ops.toList.map (·.dst)).zip Ψ) a0) : Q .normal a w := by
  have hdst : ∀ (j : Nat) (o : Oper), ops[j]? = some o → ∃ d, o.dst = some d ∧ d < a0.tmps.size := fun j o ho => by
    unfold dstOk at hd
    rw [Array.all_eq_true] at hd
    obtain ⟨hj, e⟩ := Array.getElem?_eq_some_iff.1 ho
    have := hd j hj
    rw [e] at this
    cases hdo : o.dst with
    | none => simp [hdo] at this
    | some d => exact ⟨d, rfl, by simpa [hdo] using this⟩
  let vs := ops.toList.map fun o => match o.dst with | some d => a.tmps.getD d undef | none => undef
  have hvs : vs.length = ((ops.toList.map (·.dst)).zip Ψ).length := by simp [vs, hlen]
  have key := endAll_fold (Q := Q) _ a0 vs hend hvs (fun j dφ v h1 h2 => by
    rw [List.getElem?_zip_eq_some] at h1
    obtain ⟨h3, h4⟩ := h1
    simp only [vs, List.getElem?_map, Option.map_eq_some_iff] at h2 h3
    obtain ⟨o, ho, rfl⟩ := h2
    have ho' : ops[j]? = some o := by simpa using ho
    obtain ⟨d, hd1, hd2⟩ := hdst j o ho'
    have hj := (Array.getElem?_eq_some_iff.1 ho').1
    obtain ⟨φ, h8, h9⟩ := h.new j d (hall j hj) (by rw [ho']; exact hd1)
    rw [h4] at h8
    obtain rfl := Option.some.inj h8
    simpa [hd1] using h9)
  have e : foldPut a0 ((((ops.toList.map (·.dst)).zip Ψ).map (·.1)).zip vs) = a := by
    have e1 : ((ops.toList.map (·.dst)).zip Ψ).map (·.1) = ops.toList.map (·.dst) := by
      rw [List.map_fst_zip (by simp [hlen])]
    rw [e1]
    have hL : ∀ (j : Nat) (x : Option Tmp × Value), ((ops.toList.map (·.dst)).zip vs)[j]? = some x → ∃ o d, ops[j]? = some o ∧ o.dst = some d ∧ d < a0.tmps.size ∧ x = (some d, a.tmps.getD d undef) := fun j x hx => by
      rw [List.getElem?_zip_eq_some] at hx
      simp only [vs, List.getElem?_map, Option.map_eq_some_iff] at hx
      obtain ⟨⟨o, ho, h3⟩, ⟨o2, ho2, h4⟩⟩ := hx
      rw [ho] at ho2
      obtain rfl := Option.some.inj ho2
      obtain ⟨d, hd1, hd2⟩ := hdst j o (by simpa using ho)
      refine ⟨o, d, by simpa using ho, hd1, hd2, ?_⟩
      obtain ⟨x1, x2⟩ := x
      simp only at h3 h4
      rw [← h3, ← h4, hd1]
    obtain ⟨q1, q2⟩ := foldPut_defers ((ops.toList.map (·.dst)).zip vs) a0
    refine act_ext (by rw [q1, h.defers]) (by rw [q2, h.tsize]) fun t ht => ?_
    rw [q2] at ht
    obtain ⟨g1, g2⟩ := foldPut_getD t ((ops.toList.map (·.dst)).zip vs) a0 (fun i j x y hx hy e1 e2 => by
      obtain ⟨o, d, ho, hd1, _, rfl⟩ := hL i x hx
      obtain ⟨o2, d2, ho2, hd2, _, rfl⟩ := hL j y hy
      simp only [Option.some.injEq] at e1 e2
      subst e1; subst e2
      exact hc.nodup i j _ (by rw [ho]; exact hd1) (by rw [ho2]; exact hd2)) ht
    by_cases hx : ∃ (j : Nat) (x : Option Tmp × Value), ((ops.toList.map (·.dst)).zip vs)[j]? = some x ∧ x.1 = some t
    · obtain ⟨j, x, hx, e⟩ := hx
      rw [g1 j x hx e]
      obtain ⟨o, d, ho, hd1, _, rfl⟩ := hL j x hx
      simp only [Option.some.injEq] at e
      subst e
      rfl
    · rw [g2 (fun j x h1 h2 => hx ⟨j, x, h1, h2⟩)]
      refine (h.old t fun j hj hjt => ?_).symm
      cases ho : ops[j]? with
      | none => rw [ho] at hjt; cases hjt
      | some o =>
        rw [ho] at hjt
        refine hx ⟨j, (some t, a.tmps.getD t undef), ?_, rfl⟩
        rw [List.getElem?_zip_eq_some]
        have hjt' : o.dst = some t := hjt
        simp [vs, ho, hjt']
  rw [e] at key
  exact key

/-- **THE RULE.** -/
theorem region_any {id : Nat} (hm : P.follows .mixedOrders = true) (A : List (List Nat)) (T : List (List (Tmp × Option Nat))) (hc : chk ops A T = true) (hd : dstOk ops a0.tmps.size = true) 
    (hlt : ((List.range T.length).all fun i => (T.getD i []).all fun ts => match ts.2 with | some j => decide (j < i) | none => true) = true)
    (h : Chain P ops T Q a0 w0 ops.toList []) : (Code.region id ops true).wp P Q a0 w0 := by
  have hc' := chk_of hc
  obtain ⟨Ψ, hlen, _, hend, hops⟩ := h.all (fun j => by simp) (fun i ti hti t j hm => by
    have hi := (List.getElem?_eq_some_iff.1 hti).1
    have h1 := List.all_eq_true.1 hlt i (List.mem_range.2 hi)
    have h2 : T.getD i [] = ti := by simp [List.getD_eq_getElem?_getD, hti]
    rw [h2] at h1
    have := List.all_eq_true.1 h1 (t, some j) hm
    simpa using this)
  simp only [List.length_nil, Nat.zero_add, Array.length_toList] at hlen
  have hst : ∀ (j : Nat) (φ : Phi), Ψ[j]? = some φ → Stable φ := fun j φ e => by
    obtain ⟨o, φ', _, e2, s, _⟩ := hops j (by simp) (List.getElem?_eq_some_iff.1 e).1
    rw [e] at e2
    obtain rfl := Option.some.inj e2
    exact s
  refine wp_region_any hm (wpAny_inv (RInv ops A Ψ a0 w0) (fun l a w h => h.size) ?_ ?_ ops.size _ _ _ ?_ ?_)
  · intro l a w i hI hi K hK
    unfold Region.ready at hi
    rw [List.mem_filter, Bool.and_eq_true] at hi
    obtain ⟨hr, h1, h2⟩ := hi
    have hil := List.mem_range.1 hr
    obtain ⟨o, φ, ho, hφ, _, hok⟩ := hops i (by simp) (by rw [hlen]; exact hil)
    have hif : l.getD i true = false := by simpa using h1
    have hre : ∀ e ∈ o.after.toList, Region.binds .any e = true → l.getD e.on false = true := fun e he hb => by
      rw [ho] at h2
      simp only [Option.map_some, Option.getD_some] at h2
      rw [← Array.all_toList] at h2
      have := List.all_eq_true.1 h2 e he
      simpa [hb] using this
    obtain ⟨d, hd1, hd2⟩ : ∃ d, o.dst = some d ∧ d < a0.tmps.size := by
      unfold dstOk at hd
      rw [Array.all_eq_true] at hd
      obtain ⟨hj, e⟩ := Array.getElem?_eq_some_iff.1 ho
      have := hd i hj
      rw [e] at this
      cases hdo : o.dst with
      | none => simp [hdo] at this
      | some d => exact ⟨d, rfl, by simpa [hdo] using this⟩
    have hok' := hok a w K hI.ext hI.defers (hI.finds hc' ho hif hre) (fun v w' he hv => hK _ _ (hI.step hc' hst ho hd1 hd2 hif hre hφ v w' he hv))
    unfold wpOp
    rw [ho]
    simp only
    by_cases hw : Region.wanted o (yielded ops a.tmps) = true
    · rw [if_pos hw] at hok' ⊢
      exact .inl hok'
    · rw [if_neg hw] at hok' ⊢
      exact hok'
  · intro l a w hI hnil
    refine hI.end_ hc' hd (by rw [hlen]) ?_ (hend w hI.ext)
    -- all are listed: else the first one that is not could be taken
    intro j
    induction j using Nat.strongRecOn with
    | _ j ih =>
      intro hj
      cases hlj : l.getD j false with
      | true => rfl
      | false =>
        exfalso
        have hjr : j ∈ Region.ready .any ops l := by
          unfold Region.ready
          rw [List.mem_filter, Bool.and_eq_true]
          refine ⟨List.mem_range.2 hj, ?_, ?_⟩
          · have : l.getD j true = false := by
              simp only [Array.getD_eq_getD_getElem?] at hlj ⊢
              rw [Array.getElem?_eq_getElem (by rw [hI.size]; exact hj)] at hlj ⊢
              exact hlj
            simp [this]
          · rw [Array.getElem?_eq_getElem hj]
            simp only [Option.map_some, Option.getD_some]
            rw [← Array.all_toList, List.all_eq_true]
            intro e he
            cases hb : Region.binds .any e with
            | false => rfl
            | true => simp only [Bool.not_true, Bool.false_or]; exact ih e.on (hc'.fwd j ops[j] (Array.getElem?_eq_getElem hj) e he hb) (Nat.lt_trans (hc'.fwd j ops[j] (Array.getElem?_eq_getElem hj) e he hb) hj)
        rw [hnil] at hjr
        cases hjr
  · refine Nat.le_trans (List.length_filter_le _ _) (by simp)
  · have hf : ∀ j, (Array.replicate ops.size false).getD j false = false := fun j => by
      simp only [Array.getD_eq_getD_getElem?, Array.getElem?_replicate]
      split <;> rfl
    refine ⟨by simp, fun i j hi => (by rw [hf] at hi; cases hi), (Ext.refl _).drew, rfl, rfl, fun t _ => rfl, fun j t hj => (by rw [hf] at hj; cases hj)⟩
end
/-- All that each operation waits for, reckoned. -/
def ancTab (ops : Array Oper) : List (List Nat) :=
  ops.toList.foldl (fun A o => A ++ [((o.after.toList.filter (Region.binds .any)).flatMap fun e => e.on :: A.getD e.on []).eraseDups]) []
/-- What one operation comes to. -/
def Steps1 (P : Program) (w : World) (φ : Phi) : Result Next → Prop
  | .ok (.value v) w' => Ext w w' ∧ φ v w'
  | .ok (.enter f args) w' => Ext w w' ∧ Calls P f args w' fun e w'' => ∃ v, e = .returned v ∧ Ext w' w'' ∧ φ v w''
  | _ => False
section
variable {P : Program} {ops : Array Oper} {T : List (List (Tmp × Option Nat))} {Q : Exit → Act → World → Prop} {a0 : Act} {w0 : World} {o : Oper} {r : List Oper} {Φ : List Phi}
theorem steps1_wp {a : Act} {w : World} {K : Act → World → Prop} {φ : Phi} (h : Steps1 P w φ ((execOp a.eval o).run P w)) (hK : ∀ v w', Ext w w' → φ v w' → K (a.put o.dst v) w') : o.wp P a w K Q := by
  unfold Oper.wp
  generalize (execOp a.eval o).run P w = x at h
  cases x with
  | ok n w' =>
    cases n with
    | value v => exact hK v w' h.1 h.2
    | enter f args =>
      rw [Oper.upon_enter]
      refine h.2.mono fun e w'' he => ?_
      obtain ⟨v, rfl, h1, h2⟩ := he
      exact hK v w'' (h.1.trans h1) h2
    | _ => exact h.elim
  | halt x w' => exact h.elim
theorem getD_some {a : Act} {t : Tmp} {u : Bool} (h : a.tmps.getD t undef = .bool u) : a.tmps[t]? = some (.bool u) := by
  rw [Array.getD_eq_getD_getElem?] at h
  cases e : a.tmps[t]? with
  | none => rw [e] at h; cases h
  | some v => rw [e] at h; exact congrArg some h
theorem wanted_is {g : Nat} {u b : Bool} {og : Oper} {t : Tmp} {a : Act} (hg : o.guard = some (g, u)) (ho : ops[g]? = some og) (hd : og.dst = some t) (h : a.tmps.getD t undef = .bool b) : Region.wanted o (yielded ops a.tmps) = (b == u) := by
  have h' := getD_some h
  simp only [Region.wanted, hg, yielded, ho, Option.bind_some, hd, h']
  cases b <;> cases u <;> rfl
/-- An operation without a guard. -/
theorem Chain.step {Ti : List (Tmp × Option Nat)} (φ : Phi) (hs : Stable φ) (hg : o.guard = none) (hT : T.getD Φ.length [] = Ti)
    (h : ∀ (a : Act) (w : World), Ext w0 w → Finds a0 Φ a w Ti → Steps1 P w φ ((execOp a.eval o).run P w)) (k : Chain P ops T Q a0 w0 r (Φ ++ [φ])) : Chain P ops T Q a0 w0 (o :: r) Φ :=
  .cons φ hs (fun a w K hE hD hF hK => by
    have hw : Region.wanted o (yielded ops a.tmps) = true := by simp [Region.wanted, hg]
    rw [if_pos hw]
    exact steps1_wp (h a w hE (hT ▸ hF)) hK) k
/-- One that only looks. -/
theorem Chain.quiet {Ti : List (Tmp × Option Nat)} (x : Value) (hg : o.guard = none) (hT : T.getD Φ.length [] = Ti)
    (h : ∀ (a : Act) (w : World), Ext w0 w → Finds a0 Φ a w Ti → (execOp a.eval o).run P w = .ok (.value x) w) (k : Chain P ops T Q a0 w0 r (Φ ++ [is x])) : Chain P ops T Q a0 w0 (o :: r) Φ :=
  .step (is x) (stable_is x) hg hT (fun a w hE hF => by rw [h a w hE hF]; exact ⟨Ext.refl _, rfl⟩) k
/-- A guarded one whose guard's answer is known: b. -/
theorem Chain.stepG {Ti : List (Tmp × Option Nat)} (b : Bool) (φ : Phi) (hs : Stable φ) {g : Nat} {u : Bool} (hg : o.guard = some (g, u)) {og : Oper} (ho : ops[g]? = some og) {t : Tmp} (hd : og.dst = some t) (hT : T.getD Φ.length [] = Ti)
    (hb : ∀ (a : Act) (w : World), Finds a0 Φ a w Ti → a.tmps.getD t undef = .bool b)
    (h : ∀ (a : Act) (w : World), Ext w0 w → Finds a0 Φ a w Ti → (b = u → Steps1 P w φ ((execOp a.eval o).run P w)) ∧ (b ≠ u → φ undef w)) (k : Chain P ops T Q a0 w0 r (Φ ++ [φ])) : Chain P ops T Q a0 w0 (o :: r) Φ :=
  .cons φ hs (fun a w K hE hD hF hK => by
    subst hT
    have hw := wanted_is (ops := ops) hg ho hd (hb a w hF)
    by_cases e : b = u
    · rw [if_pos (by rw [hw, e]; simp)]
      exact steps1_wp ((h a w hE hF).1 e) hK
    · rw [if_neg (by rw [hw]; simpa using e)]
      exact hK undef w (Ext.refl _) ((h a w hE hF).2 e)) k
theorem Chain.on {Ti : List (Tmp × Option Nat)} (x : Value) {g : Nat} {u : Bool} (hg : o.guard = some (g, u)) {og : Oper} (ho : ops[g]? = some og) {t : Tmp} (hd : og.dst = some t) (hT : T.getD Φ.length [] = Ti)
    (hb : ∀ (a : Act) (w : World), Finds a0 Φ a w Ti → a.tmps.getD t undef = .bool u)
    (h : ∀ (a : Act) (w : World), Ext w0 w → Finds a0 Φ a w Ti → (execOp a.eval o).run P w = .ok (.value x) w) (k : Chain P ops T Q a0 w0 r (Φ ++ [is x])) : Chain P ops T Q a0 w0 (o :: r) Φ :=
  .stepG u (is x) (stable_is x) hg ho hd hT hb (fun a w hE hF => ⟨fun _ => by rw [h a w hE hF]; exact ⟨Ext.refl _, rfl⟩, fun e => (e rfl).elim⟩) k
theorem Chain.off {Ti : List (Tmp × Option Nat)} {g : Nat} {u : Bool} (hg : o.guard = some (g, u)) {og : Oper} (ho : ops[g]? = some og) {t : Tmp} (hd : og.dst = some t) (hT : T.getD Φ.length [] = Ti)
    (hb : ∀ (a : Act) (w : World), Finds a0 Φ a w Ti → a.tmps.getD t undef = .bool (!u)) (k : Chain P ops T Q a0 w0 r (Φ ++ [is undef])) : Chain P ops T Q a0 w0 (o :: r) Φ :=
  .stepG (!u) (is undef) (stable_is _) hg ho hd hT hb (fun a w hE hF => ⟨fun e => (by cases u <;> cases e), fun _ => rfl⟩) k
theorem wanted_undef {g : Nat} {u : Bool} {og : Oper} {t : Tmp} {a : Act} (hg : o.guard = some (g, u)) (ho : ops[g]? = some og) (hd : og.dst = some t) (h : a.tmps.getD t undef = undef) : Region.wanted o (yielded ops a.tmps) = false := by
  rw [Array.getD_eq_getD_getElem?] at h
  simp only [Region.wanted, hg, yielded, ho, Option.bind_some, hd]
  cases e : a.tmps[t]? with
  | none => rfl
  | some v => rw [e] at h; simp only [Option.getD_some] at h; subst h; rfl
/-- A guarded one whose guard was passed over itself. -/
theorem Chain.dead {Ti : List (Tmp × Option Nat)} {g : Nat} {u : Bool} (hg : o.guard = some (g, u)) {og : Oper} (ho : ops[g]? = some og) {t : Tmp} (hd : og.dst = some t) (hT : T.getD Φ.length [] = Ti)
    (hb : ∀ (a : Act) (w : World), Finds a0 Φ a w Ti → a.tmps.getD t undef = undef) (k : Chain P ops T Q a0 w0 r (Φ ++ [is undef])) : Chain P ops T Q a0 w0 (o :: r) Φ :=
  .cons (is undef) (stable_is _) (fun a w K hE hD hF hK => by
    subst hT
    rw [if_neg (by rw [wanted_undef (ops := ops) hg ho hd (hb a w hF)]; simp)]
    exact hK undef w (Ext.refl _) rfl) k
theorem endAll_cons {w : World} {d : Option Tmp} {φ : Phi} {r : List (Option Tmp × Phi)} {a : Act} (h : ∀ v, φ v w → EndAll Q w r (a.put d v)) : EndAll Q w ((d, φ) :: r) a := h
theorem endAll_nil {w : World} {a : Act} (h : Q .normal a w) : EndAll Q w [] a := h
theorem region_now {id : Nat} (T : List (List (Tmp × Option Nat))) (hm : P.follows .mixedOrders = true) (hc : chk ops (ancTab ops) T = true) (hd : dstOk ops a0.tmps.size = true)
    (hlt : ((List.range T.length).all fun i => (T.getD i []).all fun ts => match ts.2 with | some j => decide (j < i) | none => true) = true)
    (h : Chain P ops T Q a0 w0 ops.toList []) : (Code.region id ops true).wp P Q a0 w0 := region_any hm (ancTab ops) T hc hd hlt h
theorem Steps1.value {w : World} {φ : Phi} {x : Result Next} (v : Value) (w' : World) (h : x = .ok (.value v) w') (he : Ext w w') (hv : φ v w') : Steps1 P w φ x := by rw [h]; exact ⟨he, hv⟩
theorem Steps1.call {w : World} {φ : Phi} {x : Result Next} (f : Nat) (args : Array Value) (h : x = .ok (.enter f args) w) (hc : Calls P f args w fun e w'' => ∃ v, e = .returned v ∧ Ext w w'' ∧ φ v w'') : Steps1 P w φ x := by rw [h]; exact ⟨Ext.refl _, hc⟩
end
/-- What operation i finds in its slots, the facts held newest first. -/
def FindsR (a0 : Act) (Φ : List Phi) (a : Act) (w : World) : List (Tmp × Option Nat) → Prop
  | [] => True
  | (t, none) :: r => a.tmps.getD t undef = a0.tmps.getD t undef ∧ FindsR a0 Φ a w r
  | (t, some j) :: r => (match Φ[Φ.length - 1 - j]? with | some φ => φ (a.tmps.getD t undef) w | none => False) ∧ FindsR a0 Φ a w r
theorem Finds.rev {a0 : Act} {Φ : List Phi} {a : Act} {w : World} : ∀ {l : List (Tmp × Option Nat)}, Finds a0 Φ.reverse a w l → FindsR a0 Φ a w l
  | [], h => h
  | (t, none) :: r, h => ⟨h.1, Finds.rev h.2⟩
  | (t, some j) :: r, h => by
    refine ⟨?_, Finds.rev h.2⟩
    have h1 := h.1
    rcases Nat.lt_or_ge j Φ.length with hj | hj
    · rwa [List.getElem?_reverse hj] at h1
    · rw [List.getElem?_eq_none (by simpa using hj)] at h1; exact h1.elim
/-- The chain, the facts held newest first, the table used up as it goes. -/
def RChain (P : Program) (ops : Array Oper) (T : List (List (Tmp × Option Nat))) (Q : Exit → Act → World → Prop) (a0 : Act) (w0 : World) (l : List Oper) (Tr : List (List (Tmp × Option Nat))) (Φ : List Phi) : Prop :=
  T.drop Φ.length = Tr → Chain P ops T Q a0 w0 l Φ.reverse
section
variable {P : Program} {ops : Array Oper} {T Tr : List (List (Tmp × Option Nat))} {Q : Exit → Act → World → Prop} {a0 : Act} {w0 : World} {o : Oper} {r : List Oper} {Φ : List Phi} {Ti : List (Tmp × Option Nat)}
theorem drop_get (h : T.drop Φ.length = Ti :: Tr) : T.getD Φ.reverse.length [] = Ti ∧ T.drop (Φ.length + 1) = Tr := by
  constructor
  · rw [List.length_reverse, List.getD_eq_getElem?_getD, show T[Φ.length]? = some Ti from by rw [← List.head?_drop, h]; rfl]; rfl
  · rw [← List.drop_drop, h]; rfl
theorem RChain.nil (h : ∀ w, Ext w0 w → EndAll Q w ((ops.toList.map (·.dst)).zip Φ.reverse) a0) : RChain P ops T Q a0 w0 [] Tr Φ := fun _ => .nil h
theorem RChain.step (φ : Phi) (hs : Stable φ) (hg : o.guard = none)
    (h : ∀ (a : Act) (w : World), Ext w0 w → FindsR a0 Φ a w Ti → Steps1 P w φ ((execOp a.eval o).run P w)) (k : RChain P ops T Q a0 w0 r Tr (φ :: Φ)) : RChain P ops T Q a0 w0 (o :: r) (Ti :: Tr) Φ := fun hT =>
  .step φ hs hg (drop_get hT).1 (fun a w hE hF => h a w hE hF.rev) (by have := k (drop_get hT).2; rwa [List.reverse_cons] at this)
theorem RChain.quiet (x : Value) (hg : o.guard = none)
    (h : ∀ (a : Act) (w : World), Ext w0 w → FindsR a0 Φ a w Ti → (execOp a.eval o).run P w = .ok (.value x) w) (k : RChain P ops T Q a0 w0 r Tr (is x :: Φ)) : RChain P ops T Q a0 w0 (o :: r) (Ti :: Tr) Φ :=
  .step (is x) (stable_is x) hg (fun a w hE hF => by rw [h a w hE hF]; exact ⟨Ext.refl _, rfl⟩) k
theorem RChain.stepG (b : Bool) (φ : Phi) (hs : Stable φ) {g : Nat} {u : Bool} (hg : o.guard = some (g, u)) {og : Oper} (ho : ops[g]? = some og) {t : Tmp} (hd : og.dst = some t)
    (hb : ∀ (a : Act) (w : World), FindsR a0 Φ a w Ti → a.tmps.getD t undef = .bool b)
    (h : ∀ (a : Act) (w : World), Ext w0 w → FindsR a0 Φ a w Ti → (b = u → Steps1 P w φ ((execOp a.eval o).run P w)) ∧ (b ≠ u → φ undef w)) (k : RChain P ops T Q a0 w0 r Tr (φ :: Φ)) : RChain P ops T Q a0 w0 (o :: r) (Ti :: Tr) Φ := fun hT =>
  .stepG b φ hs hg ho hd (drop_get hT).1 (fun a w hF => hb a w hF.rev) (fun a w hE hF => h a w hE hF.rev) (by have := k (drop_get hT).2; rwa [List.reverse_cons] at this)
theorem RChain.on (x : Value) {g : Nat} {u : Bool} (hg : o.guard = some (g, u)) {og : Oper} (ho : ops[g]? = some og) {t : Tmp} (hd : og.dst = some t)
    (hb : ∀ (a : Act) (w : World), FindsR a0 Φ a w Ti → a.tmps.getD t undef = .bool u)
    (h : ∀ (a : Act) (w : World), Ext w0 w → FindsR a0 Φ a w Ti → (execOp a.eval o).run P w = .ok (.value x) w) (k : RChain P ops T Q a0 w0 r Tr (is x :: Φ)) : RChain P ops T Q a0 w0 (o :: r) (Ti :: Tr) Φ :=
  .stepG u (is x) (stable_is x) hg ho hd hb (fun a w hE hF => ⟨fun _ => by rw [h a w hE hF]; exact ⟨Ext.refl _, rfl⟩, fun e => (e rfl).elim⟩) k
theorem RChain.off {g : Nat} {u : Bool} (hg : o.guard = some (g, u)) {og : Oper} (ho : ops[g]? = some og) {t : Tmp} (hd : og.dst = some t)
    (hb : ∀ (a : Act) (w : World), FindsR a0 Φ a w Ti → a.tmps.getD t undef = .bool (!u)) (k : RChain P ops T Q a0 w0 r Tr (is undef :: Φ)) : RChain P ops T Q a0 w0 (o :: r) (Ti :: Tr) Φ :=
  .stepG (!u) (is undef) (stable_is _) hg ho hd hb (fun a w hE hF => ⟨fun e => (by cases u <;> cases e), fun _ => rfl⟩) k
theorem RChain.dead {g : Nat} {u : Bool} (hg : o.guard = some (g, u)) {og : Oper} (ho : ops[g]? = some og) {t : Tmp} (hd : og.dst = some t)
    (hb : ∀ (a : Act) (w : World), FindsR a0 Φ a w Ti → a.tmps.getD t undef = undef) (k : RChain P ops T Q a0 w0 r Tr (is undef :: Φ)) : RChain P ops T Q a0 w0 (o :: r) (Ti :: Tr) Φ := fun hT =>
  .dead hg ho hd (drop_get hT).1 (fun a w hF => hb a w hF.rev) (by have := k (drop_get hT).2; rwa [List.reverse_cons] at this)
theorem region_r {id : Nat} (T : List (List (Tmp × Option Nat))) (hm : P.follows .mixedOrders = true) (hc : chk ops (ancTab ops) T = true) (hd : dstOk ops a0.tmps.size = true)
    (hlt : ((List.range T.length).all fun i => (T.getD i []).all fun ts => match ts.2 with | some j => decide (j < i) | none => true) = true)
    (h : RChain P ops T Q a0 w0 ops.toList T []) : (Code.region id ops true).wp P Q a0 w0 := region_now T hm hc hd hlt (h rfl)
theorem endAll_at {w : World} {a : Act} (a' : Act) (e : a = a') (h : Q .normal a' w) : EndAll Q w [] a := by subst e; exact h
end
end Go.Proofs.YthknhhpcogakfaaDoor.K
