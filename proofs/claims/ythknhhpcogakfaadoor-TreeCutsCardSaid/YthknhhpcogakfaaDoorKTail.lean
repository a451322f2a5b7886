/- A region of open order whose last operations wait for all that stands ahead of them: the head by the rule of KReg, the tail told in its order, whatever it does to the memory. -/
import Derived.Test.YthknhhpcogakfaaDoorKReg
import Derived.Tactics
set_option linter.unusedVariables false
namespace Go.Proofs.YthknhhpcogakfaaDoor.K
open Go Go.RowKit
/-- From n on, each operation waits for all ahead of it. -/
def tailOk (ops : Array Oper) (A : List (List Nat)) (n : Nat) : Bool := decide (n < ops.size) && ((List.range ops.size).all fun i => decide (i < n) || (List.range i).all fun j => (A.getD i []).contains j)
section
variable {P : Program} {ops : Array Oper} {A : List (List Nat)} {T : List (List (Tmp × Option Nat))} {Q : Exit → Act → World → Prop} {a0 : Act} {w0 : World}
theorem RInv.head {Ψ : List Phi} {n : Nat} (hn : n ≤ ops.size) (hc : Chk ops A T) (hd : dstOk ops a0.tmps.size = true) (hlen : Ψ.length = n) {listed : Array Bool} {a : Act} {w : World} (h : RInv ops A Ψ a0 w0 listed a w) (hall : ∀ j, j < n → listed.getD j false = true) (hno : ∀ j, n ≤ j → listed.getD j false = false)
    (hend : EndAll Q w (((ops.toList.take n).map (·.dst)).zip Ψ) a0) : Q .normal a w := by
  have hdst : ∀ (j : Nat) (o : Oper), ops[j]? = some o → ∃ d, o.dst = some d ∧ d < a0.tmps.size := fun j o ho => by
    unfold dstOk at hd
    rw [Array.all_eq_true] at hd
    obtain ⟨hj, e⟩ := Array.getElem?_eq_some_iff.1 ho
    have := hd j hj
    rw [e] at this
    cases hdo : o.dst with
    | none => simp [hdo] at this
    | some d => exact ⟨d, rfl, by simpa [hdo] using this⟩
  have htk : ∀ (j : Nat) (o : Oper), (ops.toList.take n)[j]? = some o → j < n ∧ ops[j]? = some o := fun j o ho => by
    rw [List.getElem?_take] at ho
    split at ho
    · rename_i hj; exact ⟨hj, by simpa using ho⟩
    · cases ho
  have htl : (ops.toList.take n).length = n := by rw [List.length_take, Array.length_toList]; omega
  let vs := (ops.toList.take n).map fun o => match o.dst with | some d => a.tmps.getD d undef | none => undef
  have hvs : vs.length = (((ops.toList.take n).map (·.dst)).zip Ψ).length := by rw [List.length_zip, List.length_map, List.length_map, htl, hlen, Nat.min_self]
  have key := endAll_fold (Q := Q) _ a0 vs hend hvs (fun j dφ v h1 h2 => by
    rw [List.getElem?_zip_eq_some] at h1
    obtain ⟨h3, h4⟩ := h1
    simp only [vs, List.getElem?_map, Option.map_eq_some_iff] at h2 h3
    obtain ⟨o, ho, rfl⟩ := h2
    obtain ⟨hj, ho'⟩ := htk j o ho
    obtain ⟨d, hd1, hd2⟩ := hdst j o ho'
    obtain ⟨φ, h8, h9⟩ := h.new j d (hall j hj) (by rw [ho']; exact hd1)
    rw [h4] at h8
    obtain rfl := Option.some.inj h8
    simpa [hd1] using h9)
  have e : foldPut a0 (((((ops.toList.take n).map (·.dst)).zip Ψ).map (·.1)).zip vs) = a := by
    have e1 : (((ops.toList.take n).map (·.dst)).zip Ψ).map (·.1) = (ops.toList.take n).map (·.dst) := by
      rw [List.map_fst_zip (by rw [List.length_map, htl, hlen]; exact Nat.le_refl _)]
    rw [e1]
    have hL : ∀ (j : Nat) (x : Option Tmp × Value), (((ops.toList.take n).map (·.dst)).zip vs)[j]? = some x → ∃ o d, ops[j]? = some o ∧ o.dst = some d ∧ d < a0.tmps.size ∧ x = (some d, a.tmps.getD d undef) := fun j x hx => by
      rw [List.getElem?_zip_eq_some] at hx
      simp only [vs, List.getElem?_map, Option.map_eq_some_iff] at hx
      obtain ⟨⟨o, ho, h3⟩, ⟨o2, ho2, h4⟩⟩ := hx
      rw [ho] at ho2
      obtain rfl := Option.some.inj ho2
      obtain ⟨_, ho'⟩ := htk j o ho
      obtain ⟨d, hd1, hd2⟩ := hdst j o ho'
      refine ⟨o, d, ho', hd1, hd2, ?_⟩
      obtain ⟨x1, x2⟩ := x
      simp only at h3 h4
      rw [← h3, ← h4, hd1]
    obtain ⟨q1, q2⟩ := foldPut_defers (((ops.toList.take n).map (·.dst)).zip vs) a0
    refine act_ext (by rw [q1, h.defers]) (by rw [q2, h.tsize]) fun t ht => ?_
    rw [q2] at ht
    obtain ⟨g1, g2⟩ := foldPut_getD t (((ops.toList.take n).map (·.dst)).zip vs) a0 (fun i j x y hx hy e1 e2 => by
      obtain ⟨o, d, ho, hd1, _, rfl⟩ := hL i x hx
      obtain ⟨o2, d2, ho2, hd2, _, rfl⟩ := hL j y hy
      simp only [Option.some.injEq] at e1 e2
      subst e1; subst e2
      exact hc.nodup i j _ (by rw [ho]; exact hd1) (by rw [ho2]; exact hd2)) ht
    by_cases hx : ∃ (j : Nat) (x : Option Tmp × Value), (((ops.toList.take n).map (·.dst)).zip vs)[j]? = some x ∧ x.1 = some t
    · obtain ⟨j, x, hx, e⟩ := hx
      rw [g1 j x hx e]
      obtain ⟨o, d, ho, hd1, _, rfl⟩ := hL j x hx
      simp only [Option.some.injEq] at e
      subst e
      rfl
    · rw [g2 (fun j x h1 h2 => hx ⟨j, x, h1, h2⟩)]
      refine (h.old t fun j hj hjt => ?_).symm
      have hjn : j < n := by
        rcases Nat.lt_or_ge j n with h' | h'
        · exact h'
        · rw [hno j h'] at hj; cases hj
      cases ho : ops[j]? with
      | none => rw [ho] at hjt; cases hjt
      | some o =>
        rw [ho] at hjt
        refine hx ⟨j, (some t, a.tmps.getD t undef), ?_, rfl⟩
        have hjt' : o.dst = some t := hjt
        have ho2 : (ops.toList.take n)[j]? = some o := by rw [List.getElem?_take, if_pos hjn]; simpa using ho
        rw [List.getElem?_zip_eq_some]
        constructor
        · rw [List.getElem?_map, ho2]; simp [hjt']
        · simp only [vs, List.getElem?_map, ho2, Option.map_some, hjt']
  rw [e] at key
  exact key
/-- What an operation waits for stands ahead of it. -/
theorem anc_lt (hc : Chk ops A T) : ∀ i j, i < ops.size → j ∈ A.getD i [] → ¬ i < j := by
  intro i
  induction i using Nat.strongRecOn with
  | _ i ih =>
    intro j hi hj hlt
    obtain ⟨e, he, hb, h⟩ := hc.anc i _ j (Array.getElem?_eq_getElem hi) hj
    have h1 := hc.fwd i _ (Array.getElem?_eq_getElem hi) e he hb
    rcases h with h | h
    · omega
    · exact ih e.on h1 j (by omega) h (by omega)
theorem getD_tf {l : Array Bool} {i : Nat} (hi : i < l.size) : l.getD i true = l.getD i false := by simp [hi]
theorem region_tail_any {id : Nat} (n : Nat) (hm : P.follows .mixedOrders = true) (A : List (List Nat)) (T : List (List (Tmp × Option Nat))) (hc : chk ops A T = true) (hd : dstOk ops a0.tmps.size = true) (ht : tailOk ops A n = true)
    (hlt : ((List.range T.length).all fun i => (T.getD i []).all fun ts => match ts.2 with | some j => decide (j < i) | none => true) = true)
    (h : ∃ Ψ : List Phi, Ψ.length = n ∧ (∀ w, Ext w0 w → EndAll (fun _ a w => wpList P ops Q (ops.toList.drop n) a w) w (((ops.toList.take n).map (·.dst)).zip Ψ) a0) ∧
      (∀ i, i < n → ∃ o φ, ops[i]? = some o ∧ Ψ[i]? = some φ ∧ Stable φ ∧ OpOK P ops Q a0 w0 Ψ (T.getD i []) o φ)) : (Code.region id ops true).wp P Q a0 w0 := by
  have hc' := chk_of hc
  unfold tailOk at ht
  rw [Bool.and_eq_true, decide_eq_true_eq] at ht
  obtain ⟨hnlt, ht⟩ := ht
  have hT : ∀ i, n ≤ i → i < ops.size → ∀ j, j < i → j ∈ A.getD i [] := fun i h1 h2 j h3 => by
    have := List.all_eq_true.1 ht i (List.mem_range.2 h2)
    rw [Bool.or_eq_true, decide_eq_true_eq] at this
    rcases this with h' | h'
    · omega
    · simpa using List.all_eq_true.1 h' j (List.mem_range.2 h3)
  obtain ⟨Ψ, hlen, hend, hops⟩ := h
  have hst : ∀ (j : Nat) (φ : Phi), Ψ[j]? = some φ → Stable φ := fun j φ e => by
    obtain ⟨o, φ', _, e2, s, _⟩ := hops j (by have := (List.getElem?_eq_some_iff.1 e).1; omega)
    rw [e] at e2
    obtain rfl := Option.some.inj e2
    exact s
  let I : Array Bool → Act → World → Prop := fun l a w => l.size = ops.size ∧
    ((RInv ops A Ψ a0 w0 l a w ∧ ∀ t, n ≤ t → l.getD t false = false) ∨ ∃ i, n < i ∧ i ≤ ops.size ∧ (∀ j, j < i → l.getD j false = true) ∧ (∀ j, i ≤ j → l.getD j false = false) ∧ wpList P ops Q (ops.toList.drop i) a w)
  have hset : ∀ (l : Array Bool) (i : Nat), l.size = ops.size → i < ops.size → (∀ j, j < i → l.getD j false = true) → (∀ j, i ≤ j → l.getD j false = false) → (∀ j, j < i + 1 → (l.setIfInBounds i true).getD j false = true) ∧ (∀ j, i + 1 ≤ j → (l.setIfInBounds i true).getD j false = false) := fun l i hs hi h1 h2 => by
    refine ⟨fun j hj => ?_, fun j hj => ?_⟩
    · rw [bget _ _ _ (by omega)]
      split
      · rfl
      · exact h1 j (by omega)
    · rw [bget _ _ _ (by omega), if_neg (by omega)]
      exact h2 j (by omega)
  have htail : ∀ (l : Array Bool) (a : Act) (w : World) (i : Nat) (K : Act → World → Prop), i < ops.size → l.size = ops.size → n ≤ i → (∀ j, j < i → l.getD j false = true) → (∀ j, i ≤ j → l.getD j false = false) → wpList P ops Q (ops.toList.drop i) a w → (∀ a' w', I (l.setIfInBounds i true) a' w' → K a' w') → wpOp P ops Q i K a w := fun l a w i K hi hs hni h1 h2 hw hK => by
    obtain ⟨g1, g2⟩ := hset l i hs hi h1 h2
    have hK2 : ∀ a' w', wpList P ops Q (ops.toList.drop (i + 1)) a' w' → K a' w' := fun a' w' h' => hK a' w' ⟨by simpa using hs, .inr ⟨i + 1, by omega, by omega, g1, g2, h'⟩⟩
    have ho : ops[i]? = some ops[i] := Array.getElem?_eq_getElem hi
    have hdr : ops.toList.drop i = ops[i] :: ops.toList.drop (i + 1) := by
      rw [List.drop_eq_getElem_cons (by simpa using hi)]; simp
    rw [hdr] at hw
    unfold wpList at hw
    unfold wpOp
    rw [ho]
    simp only
    by_cases hwt : Region.wanted ops[i] (yielded ops a.tmps) = true
    · rw [if_pos hwt] at hw ⊢
      rcases hw with hw | hw
      · exact .inl (Oper.wp_mono hK2 hw)
      · exact .inr hw
    · rw [if_neg hwt] at hw ⊢
      exact hK2 _ _ hw
  refine wp_region_any hm (wpAny_inv I (fun l a w h => h.1) ?_ ?_ ops.size _ _ _ ?_ ?_)
  · intro l a w i hI hi K hK
    obtain ⟨hsz, hI⟩ := hI
    unfold Region.ready at hi
    rw [List.mem_filter, Bool.and_eq_true] at hi
    obtain ⟨hr, h1, h2⟩ := hi
    have hil := List.mem_range.1 hr
    have hif : l.getD i true = false := by simpa using h1
    have ho : ops[i]? = some ops[i] := Array.getElem?_eq_getElem hil
    have hre : ∀ e ∈ ops[i].after.toList, Region.binds .any e = true → l.getD e.on false = true := fun e he hb => by
      rw [ho] at h2
      simp only [Option.map_some, Option.getD_some] at h2
      rw [← Array.all_toList] at h2
      have := List.all_eq_true.1 h2 e he
      simpa [hb] using this
    have hif' : l.getD i false = false := by rw [← getD_tf (by omega)]; exact hif
    rcases hI with ⟨hR, hno⟩ | ⟨i0, q1, q2, q3, q4, q5⟩
    · have hanc : ∀ j ∈ A.getD i [], l.getD j false = true := fun j hj => by
        obtain ⟨ed, hed, hb, h7⟩ := hc'.anc i _ j ho hj
        rcases h7 with h7 | h7
        · rw [← h7]; exact hre ed hed hb
        · exact hR.closed _ _ (hre ed hed hb) h7
      rcases Nat.lt_or_ge i n with hin | hin
      · obtain ⟨o, φ, ho', hφ, _, hok⟩ := hops i hin
        rw [ho] at ho'
        obtain rfl := Option.some.inj ho'
        obtain ⟨d, hd1, hd2⟩ : ∃ d, ops[i].dst = some d ∧ d < a0.tmps.size := by
          have hd' := hd
          unfold dstOk at hd'
          rw [Array.all_eq_true] at hd'
          have := hd' i hil
          cases hdo : ops[i].dst with
          | none => simp [hdo] at this
          | some d => exact ⟨d, rfl, by simpa [hdo] using this⟩
        have hok' := hok a w K hR.ext hR.defers (hR.finds hc' ho hif hre) (fun v w' he hv => hK _ _ ⟨by simpa using hsz, .inl ⟨hR.step hc' hst ho hd1 hd2 hif hre hφ v w' he hv, fun t htn => by rw [bget _ _ _ (by omega), if_neg (by omega)]; exact hno t htn⟩⟩)
        unfold wpOp
        rw [ho]
        simp only
        by_cases hw : Region.wanted ops[i] (yielded ops a.tmps) = true
        · rw [if_pos hw] at hok' ⊢
          exact .inl hok'
        · rw [if_neg hw] at hok' ⊢
          exact hok'
      · have hall : ∀ j, j < i → l.getD j false = true := fun j hj => hanc j (hT i hin hil j hj)
        obtain rfl : i = n := by
          rcases Nat.eq_or_lt_of_le hin with h' | h'
          · exact h'.symm
          · have e1 := hall n h'
            rw [hno n (Nat.le_refl _)] at e1
            cases e1
        have hw := hR.head (Q := fun _ a w => wpList P ops Q (ops.toList.drop i) a w) (Nat.le_of_lt hnlt) hc' hd hlen hall hno (hend w hR.ext)
        exact htail l a w i K hil hsz (Nat.le_refl _) hall hno hw hK
    · have hge : i0 ≤ i := by
        rcases Nat.lt_or_ge i i0 with h' | h'
        · rw [q3 i h'] at hif'; cases hif'
        · exact h'
      have hle : i ≤ i0 := by
        rcases Nat.lt_or_ge i0 i with h' | h'
        · obtain ⟨ed, hed, hb, h7⟩ := hc'.anc i _ i0 ho (hT i (by omega) hil i0 h')
          have h8 := hre ed hed hb
          have h9 : ed.on < i0 := by
            rcases Nat.lt_or_ge ed.on i0 with h' | h'
            · exact h'
            · rw [q4 ed.on h'] at h8; cases h8
          rcases h7 with h7 | h7
          · omega
          · exfalso
            have hon : ed.on < ops.size := by omega
            exact anc_lt hc' ed.on i0 hon h7 h9
        · exact h'
      obtain rfl : i = i0 := by omega
      exact htail l a w i K hil hsz (by omega) q3 q4 q5 hK
  · intro l a w hI hnil
    obtain ⟨hsz, hI⟩ := hI
    have hall : ∀ j, j < ops.size → l.getD j false = true := by
      intro j
      induction j using Nat.strongRecOn with
      | _ j ih =>
        intro hj
        cases hlj : l.getD j false with
        | true => rfl
        | false =>
          exfalso
          have hjr : j ∈ Region.ready .any ops l := by
            unfold Region.ready
            rw [List.mem_filter, Bool.and_eq_true]
            refine ⟨List.mem_range.2 hj, ?_, ?_⟩
            · rw [getD_tf (by omega), hlj]; rfl
            · rw [Array.getElem?_eq_getElem hj]
              simp only [Option.map_some, Option.getD_some]
              rw [← Array.all_toList, List.all_eq_true]
              intro e he
              cases hb : Region.binds .any e with
              | false => rfl
              | true => simp only [Bool.not_true, Bool.false_or]; exact ih e.on (hc'.fwd j ops[j] (Array.getElem?_eq_getElem hj) e he hb) (Nat.lt_trans (hc'.fwd j ops[j] (Array.getElem?_eq_getElem hj) e he hb) hj)
          rw [hnil] at hjr
          cases hjr
    rcases hI with ⟨hR, hno⟩ | ⟨i0, q1, q2, q3, q4, q5⟩
    · have := hall n hnlt
      rw [hno n (Nat.le_refl _)] at this
      cases this
    · rcases Nat.eq_or_lt_of_le q2 with h' | h'
      · rw [h', List.drop_of_length_le (by simp)] at q5
        exact q5
      · have := hall i0 h'
        rw [q4 i0 (Nat.le_refl _)] at this
        cases this
  · refine Nat.le_trans (List.length_filter_le _ _) (by simp)
  · have hf : ∀ j, (Array.replicate ops.size false).getD j false = false := fun j => by
      simp only [Array.getD_eq_getD_getElem?, Array.getElem?_replicate]
      split <;> rfl
    exact ⟨by simp, .inl ⟨⟨by simp, fun i j hi => (by rw [hf] at hi; cases hi), (Ext.refl _).drew, rfl, rfl, fun t _ => rfl, fun j t hj => (by rw [hf] at hj; cases hj)⟩, fun t _ => hf t⟩⟩
/-- Out of a chain over the first operations: all facts at once. -/
theorem Chain.allP {l : List Oper} {Φ : List Phi} (h : Chain P ops T Q a0 w0 l Φ) : ∀ (hl : ∀ j, j < l.length → l[j]? = ops[Φ.length + j]?), (∀ (i : Nat) (ti : List (Tmp × Option Nat)), T[i]? = some ti → ∀ t j, (t, some j) ∈ ti → j < i) →
    ∃ Ψ : List Phi, Ψ.length = Φ.length + l.length ∧ (∀ (j : Nat) (φ : Phi), Φ[j]? = some φ → Ψ[j]? = some φ) ∧
      (∀ w, Ext w0 w → EndAll Q w ((ops.toList.map (·.dst)).zip Ψ) a0) ∧
      (∀ i, Φ.length ≤ i → i < Ψ.length → ∃ o φ, ops[i]? = some o ∧ Ψ[i]? = some φ ∧ Stable φ ∧ OpOK P ops Q a0 w0 Ψ (T.getD i []) o φ) := by
  induction h with
  | nil h =>
    rename_i Φ
    intro hl hT
    exact ⟨Φ, by simp, fun _ _ e => e, h, fun i h1 h2 => by omega⟩
  | cons φ hs h k ih =>
    rename_i o r Φ
    intro hl hT
    obtain ⟨Ψ, hlen, hpre, hend, hops⟩ := ih (fun j hj => by
      have := hl (j + 1) (by simp; omega)
      simp only [List.getElem?_cons_succ] at this
      rw [this]; simp; congr 1; omega) hT
    refine ⟨Ψ, by rw [hlen]; simp; omega, fun j ψ e => hpre j ψ ?_, hend, fun i h1 h2 => ?_⟩
    · rw [List.getElem?_append_left (List.getElem?_eq_some_iff.1 e).1]; exact e
    · rcases Nat.eq_or_lt_of_le h1 with h3 | h3
      · subst h3
        have ho : ops[Φ.length]? = some o := by have := hl 0 (by simp); simpa using this.symm
        have hφ : Ψ[Φ.length]? = some φ := hpre _ _ (by simp)
        refine ⟨o, φ, ho, hφ, hs, ?_⟩
        intro a w K he hd hf hk
        refine h a w K he hd (finds_mono (Ψ := Ψ) (fun j ψ e => hpre j ψ (by rw [List.getElem?_append_left (List.getElem?_eq_some_iff.1 e).1]; exact e)) (fun j => ?_) (fun t j hm => ?_) hf) hk
        · rcases Nat.lt_or_ge j Φ.length with h4 | h4
          · exact .inl h4
          · exact .inr (List.getElem?_eq_none h4)
        · cases hti : T[Φ.length]? with
          | none => simp [List.getD_eq_getElem?_getD, hti] at hm
          | some ti => exact hT _ ti hti t j (by simpa [List.getD_eq_getElem?_getD, hti] using hm)
      · exact hops i (by simp; omega) h2
/-- Behind the head the tail, in its order. -/
def TailQ (P : Program) (ops : Array Oper) (Q : Exit → Act → World → Prop) (n : Nat) : Exit → Act → World → Prop
  | .normal, a, w => wpList P ops Q (ops.toList.drop n) a w
  | e, a, w => Q e a w
theorem wp_tailQ {n : Nat} {o : Oper} {a : Act} {w : World} {K : Act → World → Prop} (h : o.wp P a w K (TailQ P ops Q n)) : o.wp P a w K Q := by
  unfold Oper.wp at *
  generalize (execOp a.eval o).run P w = r at *
  cases r with
  | ok m w' =>
    cases m <;> simp only [Oper.upon] at h ⊢ <;>
      first
        | exact h
        | exact Calls.mono h (fun e w'' he => by cases e <;> exact he)
  | halt x w' => cases x <;> simp only [Oper.upon] at h ⊢ <;> exact h
theorem endAll_imp {Q' : Exit → Act → World → Prop} {w : World} (hq : ∀ a, Q .normal a w → Q' .normal a w) : ∀ (L : List (Option Tmp × Phi)) (a : Act), EndAll Q w L a → EndAll Q' w L a
  | [], a, h => hq a h
  | (d, φ) :: L, a, h => fun v hv => endAll_imp hq L _ (h v hv)
theorem zip_take {α β : Type} : ∀ (l : List α) (m : List β), (l.take m.length).zip m = l.zip m
  | [], m => by simp
  | x :: l, [] => by simp
  | x :: l, y :: m => by simp [zip_take l m]
theorem region_tail {id : Nat} (n : Nat) (T : List (List (Tmp × Option Nat))) (hm : P.follows .mixedOrders = true) (hc : chk ops (ancTab ops) T = true) (hd : dstOk ops a0.tmps.size = true) (ht : tailOk ops (ancTab ops) n = true)
    (hlt : ((List.range T.length).all fun i => (T.getD i []).all fun ts => match ts.2 with | some j => decide (j < i) | none => true) = true)
    (h : RChain P ops T (TailQ P ops Q n) a0 w0 (ops.toList.take n) T []) : (Code.region id ops true).wp P Q a0 w0 := by
  have hn : n < ops.size := by
    unfold tailOk at ht
    rw [Bool.and_eq_true, decide_eq_true_eq] at ht
    exact ht.1
  have htl : (ops.toList.take n).length = n := by rw [List.length_take, Array.length_toList]; omega
  obtain ⟨Ψ, hlen, _, hend, hops⟩ := (h rfl).allP (fun j hj => by
    rw [htl] at hj
    rw [List.getElem?_take, if_pos hj]; simp) (fun i ti hti t j hm => by
    have hi := (List.getElem?_eq_some_iff.1 hti).1
    have h1 := List.all_eq_true.1 hlt i (List.mem_range.2 hi)
    have h2 : T.getD i [] = ti := by simp [List.getD_eq_getElem?_getD, hti]
    rw [h2] at h1
    have := List.all_eq_true.1 h1 (t, some j) hm
    simpa using this)
  simp only [List.reverse_nil, List.length_nil, Nat.zero_add, htl] at hlen
  refine region_tail_any n hm (ancTab ops) T hc hd ht hlt ⟨Ψ, hlen, fun w hE => ?_, fun i hi => ?_⟩
  · have h1 := hend w hE
    have h2 : ((ops.toList.take n).map (·.dst)).zip Ψ = (ops.toList.map (·.dst)).zip Ψ := by
      rw [← hlen, List.map_take]
      simpa using zip_take (ops.toList.map (·.dst)) Ψ
    rw [h2]
    exact endAll_imp (Q := TailQ P ops Q n) (Q' := fun _ a w => wpList P ops Q (ops.toList.drop n) a w) (fun a (h : TailQ P ops Q n .normal a w) => h) _ _ h1
  · obtain ⟨o, φ, h1, h2, h3, h4⟩ := hops i (by simp) (by omega)
    refine ⟨o, φ, h1, h2, h3, ?_⟩
    intro a w K he hdf hf hk
    have h5 := h4 a w K he hdf hf hk
    split
    · rename_i hw
      rw [if_pos hw] at h5
      exact wp_tailQ h5
    · rename_i hw
      rw [if_neg hw] at h5
      exact h5
end
end Go.Proofs.YthknhhpcogakfaaDoor.K
