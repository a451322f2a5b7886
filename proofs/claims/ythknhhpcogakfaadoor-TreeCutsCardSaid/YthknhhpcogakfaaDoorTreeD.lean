/- tree: which nodes are a tree. -/
import Derived.Test.YthknhhpcogakfaaDoorTreeB
import Derived.Test.YthknhhpcogakfaaDoorTreeC
import Derived.Maps.Own
import Derived.Maps.OwnOps
import Derived.Maps.Views
set_option linter.unusedVariables false
set_option linter.unusedSimpArgs false
namespace Go.Proofs.YthknhhpcogakfaaDoor.Hand
open Go Go.RowKit Go.Maps Go.Proofs.YthknhhpcogakfaaDoor.K Go.Proofs.YthknhhpcogakfaaDoor.PT Go.Proofs.YthknhhpcogakfaaDoorW.PrintWords Go.Proofs.YthknhhpcogakfaaDoorW.PrintLast Go.Proofs.YthknhhpcogakfaaDoorW.PrintMore
set_option maxRecDepth 100000
set_option maxHeartbeats 2000000
attribute [local go_sem] max2_int min2_int max_two min_two
theorem lawM : Keyed Tryd.prog 27 := int_keyed Tryd.underlying27
theorem zeroM (w : World) : (zeroValue 3).run Tryd.prog w = .ok (.int .i64 0) w := by kernel_rfl
abbrev DU := DataW Unit
/-- How often each Id has been met. -/
structure Met (w : World) (b n : Nat) (ids : List Int) (D : DU) : Prop where
  own : w.ownsMap Tryd.prog 27 (plainElem Tryd.prog 3) b n D
  isM : IsMap D
  cnt : ∀ id, D.atKey (.int .u64 id) (.lit (.int .i64 0)) = .lit (.int .i64 ((ids.count id : Nat) : Int))
theorem Met.put {w w' : World} {b n : Nat} {ids : List Int} {D : DU} (h : Met w b n ids D) (id : Int) (h' : w'.ownsMap Tryd.prog 27 (plainElem Tryd.prog 3) b (n + 1) (D.put (.int .u64 id) (.lit (.int .i64 ((ids.count id : Nat) + 1 : Int))))) : Met w' b (n + 1) (id :: ids) (D.put (.int .u64 id) (.lit (.int .i64 ((ids.count id : Nat) + 1 : Int)))) := by
  refine ⟨h', h.isM.put _ _, fun id' => ?_⟩
  by_cases he : id' = id
  · subst he
    rw [atKey_put_same h.isM (show WideAt.IsKeyLit (.int .u64 id') from trivial), List.count_cons_self]; simp
  · rw [atKey_put_other (by intro hh; exact he (by injection hh)), h.cnt, List.count_cons_of_ne (Ne.symm he)]
theorem Met.alloc {w : World} {b n : Nat} {ids : List Int} {D : DU} (h : Met w b n ids D) (o : Obj) : Met (w.alloc o) b n ids D := ⟨h.own.alloc o, h.isM, h.cnt⟩
theorem Met.ext {w w' : World} {b n : Nat} {ids : List Int} {D : DU} (h : Met w b n ids D) (hx : Ext w w') : Met w' b n ids D := by
  refine ⟨?_, h.isM, h.cnt⟩
  obtain ⟨es, clock, hb, F, hs, hD⟩ := h.own
  exact ⟨es, clock, (hx.out.block b ((Array.getElem?_eq_some_iff.1 hb).1)).trans hb, F, hs, hD⟩
/-- A node that may stand behind one of that depth. -/
def nodeR (deep : Int) (x : S30) : Bool := !(decide (x.f1 < 1) || decide (min (deep + 1) 25 < x.f1) || longS x.f2 || !attrsR x.f3)
def newR (ids : List Int) (x : S30) : Bool := decide (x.f0 = 0) || decide (ids.count x.f0 = 0)
def rightL : Int → List Int → List S30 → Bool
  | _, _, [] => true
  | deep, ids, x :: t => newR ids x && nodeR deep x && rightL x.f1 (x.f0 :: ids) t
def rightF (l : List S30) : Bool := rightL 0 [] l && decide ((l.length : Int) ≤ 300)
def IdsIn (l : List S30) : Prop := ∀ x ∈ l, (Lit.int .u64 x.f0).wf = true
theorem rightL_drop (deep : Int) (ids : List Int) (L : List S30) (k : Nat) (hk : k < L.length) : rightL deep ids (L.drop k) = (newR ids (L.getD k z30) && nodeR deep (L.getD k z30) && rightL (L.getD k z30).f1 ((L.getD k z30).f0 :: ids) (L.drop (k + 1))) := by
  rw [List.drop_eq_getElem_cons hk, rightL]
  simp [List.getD_eq_getElem?_getD, List.getElem?_eq_getElem hk]
theorem idsIn_at {l : List S30} (h : IdsIn l) (k : Nat) (hk : k < l.length) : (Lit.int .u64 (l.getD k z30).f0).wf = true := h _ (by rw [List.getD_eq_getElem?_getD, List.getElem?_eq_getElem hk]; exact List.getElem_mem hk)
theorem i64_wf (x : Int) (h0 : -9223372036854775808 ≤ x) (h1 : x ≤ 9223372036854775807) : (Lit.int .i64 x).wf = true := WalkArith.wf_i64 ⟨h0, h1⟩
/-- Behind a write to an elder block: the new one is as it was. -/
theorem behind {wr w1 : World} {b B : Nat} {c0 c1 c2 c3 : Value} {t : TypeId} (hg : (wr.alloc (.cells #[c0, c1, c2, c3] t)).grownBy w1 (some b)) (hs : B ≤ wr.heap.size) (hb : b < wr.heap.size) :
    w1.cell? ⟨wr.heap.size, 0, none⟩ = some c0 ∧ w1.cell? ⟨wr.heap.size, 1, none⟩ = some c1 ∧ w1.cell? ⟨wr.heap.size, 2, none⟩ = some c2 ∧ w1.cell? ⟨wr.heap.size, 3, none⟩ = some c3 := by
  have h : w1.heap[wr.heap.size]? = some (.cells #[c0, c1, c2, c3] t) := (hg.block _ (by simp) (by simp; omega)).trans (h_newN _ _ _ rfl)
  exact ⟨cell_at h rfl, cell_at h rfl, cell_at h rfl, cell_at h rfl⟩
theorem below1 {w wr w1 : World} {o : Obj} (hX : Below w.heap.size w wr) (hg : (wr.alloc o).grownBy w1 (some w.heap.size)) : Below w.heap.size w w1 :=
  (hX.alloc hX.size o).grown hg (by simp; have := hX.size; omega) (fun j hj => by cases hj; exact Nat.le_refl _)
theorem below_back {w w1 : World} (hX : Below w.heap.size w w1) (o : Obj) : Below w.heap.size w (w1.alloc o) := hX.alloc hX.size o
theorem below_all {w w1 w2 : World} (hX : Below w.heap.size w w1) (o : Obj) (hq : Ext (w1.alloc o) w2) : Below w.heap.size w w2 := ((Ext.below hX).alloc o |>.trans hq).out
set_option maxHeartbeats 20000000 in
theorem right_calls (A : Option Addr) (c : Nat) (l : List S30) (w : World) (hr : Kd.C k30 w A l.length l) (hc : l.length ≤ c) (hid : IdsIn l) :
    Calls Tryd.prog 13 #[.slice A l.length c] w fun e w' => e = .returned (.bool (rightF l)) ∧ Ext w w' := by
  unfold rightF
  obtain ⟨R, hR⟩ : ∃ R, rightL 0 [] l = R := ⟨_, rfl⟩
  rw [hR]
  have HR := Lib.hid hR
  have hm := hr.2.1
  have HC := Lib.hid hr
  have HI := Lib.hid hid
  clear hR hr hid
  have hmm := @run_makeMap Tryd.prog
  go_enter Tryd.func13, Tryd.ntmps13
  go_wp2
  go_loopw [4, 10] (fun d i wr => ∃ (k : Nat) (deep : Int) (ids : List Int) (D : DU), k ≤ l.length ∧ d = .int .i64 deep ∧ 0 ≤ deep ∧ deep ≤ 25 ∧ i = .int .i64 (k : Int) ∧ rightL deep ids (l.drop k) = R ∧ ids.length = k ∧ Met wr w.heap.size k ids D ∧ Below w.heap.size w wr) (fun _ i _ => l.length - (intOf i).toNat)
  case atStart => exact ⟨0, 0, [], .map [], Nat.zero_le _, rfl, by omega, by omega, rfl, HR.out, rfl, ⟨World.ownsMap_made _ _ _ _, isMap_empty, fun id => rfl⟩, (Below.refl _ _).alloc (Nat.le_refl _) _⟩
  case round =>
    obtain ⟨k, deep, ids, D, hk, rfl, hd0, hd1, rfl, hA, hlen, hM, hX⟩ := hrel
    have HA := Lib.hid hA
    clear hA
    by_cases hlt : k < l.length
    · obtain ⟨ad, A3, c3, hb, d0, d1, d2, d3, hc3, hn⟩ := at_node HC.out k hlt
      have hwf := idsIn_at HI.out k hlt
      subst hb
      obtain ⟨X, hX0⟩ : ∃ X, l.getD k z30 = X := ⟨_, rfl⟩
      rw [hX0] at d0 d1 d2 d3 hwf hn hc3
      have HX := Lib.hid hX0
      clear hX0
      replace d0 := (hX.cell (World.block_lt_of_cell? w _ d0)).trans d0
      replace d1 := (hX.cell (World.block_lt_of_cell? w _ d1)).trans d1
      replace d2 := (hX.cell (World.block_lt_of_cell? w _ d2)).trans d2
      replace d3 := (hX.cell (World.block_lt_of_cell? w _ d3)).trans d3
      have hM1 := hM.alloc (.cells #[.int .u64 X.f0, .int .i64 X.f1, .string X.f2, .slice A3 X.f3.length c3] 30)
      have hkey : keyOf Tryd.prog 27 (.int .u64 X.f0) = some (.int .u64 X.f0) := keyOf_int_mk Tryd.underlying27 hwf
      have hcl := List.count_le_length (a := X.f0) (l := ids)
      have ret : (newR ids X && nodeR deep X) = false → Ending.returned (.bool false) = Ending.returned (.bool (R && decide ((l.length : Int) ≤ 300))) := fun hin => by
        have h1 := HA.out
        rw [rightL_drop _ _ l k hlt, HX.out, hin] at h1
        rw [← h1]; rfl
      have step : newR ids X = true → nodeR deep X = true → rightL X.f1 (X.f0 :: ids) (l.drop (k + 1)) = R := fun h2 h3 => by
        have h1 := HA.out
        rw [rightL_drop _ _ l k hlt, HX.out, h2, h3] at h1
        simpa using h1
--ARMS
      by_cases z0 : X.f0 = 0
      · have HNEW := Lib.hid (show newR ids X = true by simp only [newR, decide_eq_true z0, Bool.true_or])
        have HZ0 := Lib.hid z0
        clear z0
        by_cases c1 : X.f1 < 1
        · have HC1 := Lib.hid (decide_eq_true c1)
          go_wp2_with (first
            | (at_lookup; refine wpList_lookup_own_int _ rfl _ _ 47 rfl 27 3 .i64 lawM Tryd.underlying47 Tryd.underlying3 (zeroM _) w.heap.size _ _ rfl hM1.own _ _ rfl hkey ?_; intro c hat hwc; have hq := hat.symm.trans (hM1.cnt X.f0); injection hq with hq; injection hq with _ hq; subst hq; clear hat hwc)
            | (at_lookup; refine gate_guard (by rfl) ?_; refine wpList_lookup_own_int _ rfl _ _ 47 rfl 27 3 .i64 lawM Tryd.underlying47 Tryd.underlying3 (zeroM _) w.heap.size _ _ rfl hM1.own _ _ rfl hkey ?_; intro c hat hwc; have hq := hat.symm.trans (hM1.cnt X.f0); injection hq with hq; injection hq with _ hq; subst hq; clear hat hwc)
            | (at_mapUpdate; refine wpList_mapUpdate_own _ rfl _ _ _ 47 rfl 27 3 lawM Tryd.underlying47 _ w.heap.size k _ rfl hM1.own (by unfold maxLen; omega) _ _ _ rfl rfl hkey _ [] (plainElem_int Tryd.underlying3 (i64_wf _ (by omega) (by omega))) ?_; intro w1 hown1 hgrow1; have hM2 := hM1.put X.f0 hown1; obtain ⟨e0, e1, e2, e3⟩ := behind hgrow1 hX.size hM.own.lt; have hX1 := below1 hX hgrow1; clear hM1 hgrow1 hown1; have hM1 := hM2; clear hM2; have z0 := HZ0.out))
          go_ret
          exact ⟨ret (by rw [show nodeR deep X = false by simp only [nodeR, HC1.out]; rfl, Bool.and_false]), Ext.below hX1⟩
        · have HC1 := Lib.hid (decide_eq_false c1)
          by_cases dd : deep + 1 ≤ 25
          · by_cases c2 : deep + 1 < X.f1
            · have HC2 := Lib.hid (show decide (min (deep + 1) 25 < X.f1) = true from decide_eq_true (by omega))
              go_wp2_with (first
                | (at_lookup; refine wpList_lookup_own_int _ rfl _ _ 47 rfl 27 3 .i64 lawM Tryd.underlying47 Tryd.underlying3 (zeroM _) w.heap.size _ _ rfl hM1.own _ _ rfl hkey ?_; intro c hat hwc; have hq := hat.symm.trans (hM1.cnt X.f0); injection hq with hq; injection hq with _ hq; subst hq; clear hat hwc)
                | (at_lookup; refine gate_guard (by rfl) ?_; refine wpList_lookup_own_int _ rfl _ _ 47 rfl 27 3 .i64 lawM Tryd.underlying47 Tryd.underlying3 (zeroM _) w.heap.size _ _ rfl hM1.own _ _ rfl hkey ?_; intro c hat hwc; have hq := hat.symm.trans (hM1.cnt X.f0); injection hq with hq; injection hq with _ hq; subst hq; clear hat hwc)
                | (at_mapUpdate; refine wpList_mapUpdate_own _ rfl _ _ _ 47 rfl 27 3 lawM Tryd.underlying47 _ w.heap.size k _ rfl hM1.own (by unfold maxLen; omega) _ _ _ rfl rfl hkey _ [] (plainElem_int Tryd.underlying3 (i64_wf _ (by omega) (by omega))) ?_; intro w1 hown1 hgrow1; have hM2 := hM1.put X.f0 hown1; obtain ⟨e0, e1, e2, e3⟩ := behind hgrow1 hX.size hM.own.lt; have hX1 := below1 hX hgrow1; clear hM1 hgrow1 hown1; have hM1 := hM2; clear hM2; have z0 := HZ0.out))
              go_ret
              exact ⟨ret (by rw [show nodeR deep X = false by simp only [nodeR, HC1.out, HC2.out]; rfl, Bool.and_false]), Ext.below hX1⟩
            · have HC2 := Lib.hid (show decide (min (deep + 1) 25 < X.f1) = false from decide_eq_false (by omega))
              cases hl : longS X.f2 with
              | true =>
                have HL := Lib.hid hl
                clear hl
                go_wp2_with (first
                  | (at_lookup; refine wpList_lookup_own_int _ rfl _ _ 47 rfl 27 3 .i64 lawM Tryd.underlying47 Tryd.underlying3 (zeroM _) w.heap.size _ _ rfl hM1.own _ _ rfl hkey ?_; intro c hat hwc; have hq := hat.symm.trans (hM1.cnt X.f0); injection hq with hq; injection hq with _ hq; subst hq; clear hat hwc)
                  | (at_lookup; refine gate_guard (by rfl) ?_; refine wpList_lookup_own_int _ rfl _ _ 47 rfl 27 3 .i64 lawM Tryd.underlying47 Tryd.underlying3 (zeroM _) w.heap.size _ _ rfl hM1.own _ _ rfl hkey ?_; intro c hat hwc; have hq := hat.symm.trans (hM1.cnt X.f0); injection hq with hq; injection hq with _ hq; subst hq; clear hat hwc)
                  | (at_mapUpdate; refine wpList_mapUpdate_own _ rfl _ _ _ 47 rfl 27 3 lawM Tryd.underlying47 _ w.heap.size k _ rfl hM1.own (by unfold maxLen; omega) _ _ _ rfl rfl hkey _ [] (plainElem_int Tryd.underlying3 (i64_wf _ (by omega) (by omega))) ?_; intro w1 hown1 hgrow1; have hM2 := hM1.put X.f0 hown1; obtain ⟨e0, e1, e2, e3⟩ := behind hgrow1 hX.size hM.own.lt; have hX1 := below1 hX hgrow1; clear hM1 hgrow1 hown1; have hM1 := hM2; clear hM2; have z0 := HZ0.out)
                  | (go_at_call 32; (with_reducible refine (short1_calls X.f2 _ _ _ _ (h_newN _ _ _ (by simp))).mono ?_); rintro e w' ⟨rfl, rfl⟩; rw [HL.out]; have e3b := ((Ext.refl w1).alloc (.cells #[.string X.f2] 9)).cell e3))
                go_ret
                exact ⟨ret (by rw [show nodeR deep X = false by simp only [nodeR, HC1.out, HC2.out, HL.out]; rfl, Bool.and_false]), (Ext.below hX1).alloc _⟩
              | false =>
                have HL := Lib.hid hl
                clear hl
                cases ht : attrsR X.f3 with
                | false =>
                  have HT := Lib.hid ht
                  clear ht
                  go_wp2_with (first
                    | (at_lookup; refine wpList_lookup_own_int _ rfl _ _ 47 rfl 27 3 .i64 lawM Tryd.underlying47 Tryd.underlying3 (zeroM _) w.heap.size _ _ rfl hM1.own _ _ rfl hkey ?_; intro c hat hwc; have hq := hat.symm.trans (hM1.cnt X.f0); injection hq with hq; injection hq with _ hq; subst hq; clear hat hwc)
                    | (at_lookup; refine gate_guard (by rfl) ?_; refine wpList_lookup_own_int _ rfl _ _ 47 rfl 27 3 .i64 lawM Tryd.underlying47 Tryd.underlying3 (zeroM _) w.heap.size _ _ rfl hM1.own _ _ rfl hkey ?_; intro c hat hwc; have hq := hat.symm.trans (hM1.cnt X.f0); injection hq with hq; injection hq with _ hq; subst hq; clear hat hwc)
                    | (at_mapUpdate; refine wpList_mapUpdate_own _ rfl _ _ _ 47 rfl 27 3 lawM Tryd.underlying47 _ w.heap.size k _ rfl hM1.own (by unfold maxLen; omega) _ _ _ rfl rfl hkey _ [] (plainElem_int Tryd.underlying3 (i64_wf _ (by omega) (by omega))) ?_; intro w1 hown1 hgrow1; have hM2 := hM1.put X.f0 hown1; obtain ⟨e0, e1, e2, e3⟩ := behind hgrow1 hX.size hM.own.lt; have hX1 := below1 hX hgrow1; clear hM1 hgrow1 hown1; have hM1 := hM2; clear hM2; have z0 := HZ0.out)
                    | (go_at_call 32; (with_reducible refine (short1_calls X.f2 _ _ _ _ (h_newN _ _ _ (by simp))).mono ?_); rintro e w' ⟨rfl, rfl⟩; rw [HL.out]; have e3b := ((Ext.refl w1).alloc (.cells #[.string X.f2] 9)).cell e3)
                    | (go_at_call 33; (with_reducible refine (attrs_calls A3 c3 X.f3 _ (Kd.C_below hn (below_back hX1 _)) hc3).mono ?_); rintro e w' ⟨rfl, hq⟩; rw [HT.out]; have e1b := (((Ext.refl w1).alloc (.cells #[.string X.f2] 9)).trans hq).cell e1))
                  go_ret
                  exact ⟨ret (by rw [show nodeR deep X = false by simp only [nodeR, HC1.out, HC2.out, HL.out, HT.out]; rfl, Bool.and_false]), ((Ext.below hX1).alloc _).trans hq⟩
                | true =>
                  have HT := Lib.hid ht
                  clear ht
                  go_wp2_with (first
                    | (at_lookup; refine wpList_lookup_own_int _ rfl _ _ 47 rfl 27 3 .i64 lawM Tryd.underlying47 Tryd.underlying3 (zeroM _) w.heap.size _ _ rfl hM1.own _ _ rfl hkey ?_; intro c hat hwc; have hq := hat.symm.trans (hM1.cnt X.f0); injection hq with hq; injection hq with _ hq; subst hq; clear hat hwc)
                    | (at_lookup; refine gate_guard (by rfl) ?_; refine wpList_lookup_own_int _ rfl _ _ 47 rfl 27 3 .i64 lawM Tryd.underlying47 Tryd.underlying3 (zeroM _) w.heap.size _ _ rfl hM1.own _ _ rfl hkey ?_; intro c hat hwc; have hq := hat.symm.trans (hM1.cnt X.f0); injection hq with hq; injection hq with _ hq; subst hq; clear hat hwc)
                    | (at_mapUpdate; refine wpList_mapUpdate_own _ rfl _ _ _ 47 rfl 27 3 lawM Tryd.underlying47 _ w.heap.size k _ rfl hM1.own (by unfold maxLen; omega) _ _ _ rfl rfl hkey _ [] (plainElem_int Tryd.underlying3 (i64_wf _ (by omega) (by omega))) ?_; intro w1 hown1 hgrow1; have hM2 := hM1.put X.f0 hown1; obtain ⟨e0, e1, e2, e3⟩ := behind hgrow1 hX.size hM.own.lt; have hX1 := below1 hX hgrow1; clear hM1 hgrow1 hown1; have hM1 := hM2; clear hM2; have z0 := HZ0.out)
                    | (go_at_call 32; (with_reducible refine (short1_calls X.f2 _ _ _ _ (h_newN _ _ _ (by simp))).mono ?_); rintro e w' ⟨rfl, rfl⟩; rw [HL.out]; have e3b := ((Ext.refl w1).alloc (.cells #[.string X.f2] 9)).cell e3)
                    | (go_at_call 33; (with_reducible refine (attrs_calls A3 c3 X.f3 _ (Kd.C_below hn (below_back hX1 _)) hc3).mono ?_); rintro e w' ⟨rfl, hq⟩; rw [HT.out]; have e1b := (((Ext.refl w1).alloc (.cells #[.string X.f2] 9)).trans hq).cell e1))
                  go_roundw
                  case rel => exact ⟨k + 1, X.f1, X.f0 :: ids, _, by omega, rfl, by omega, by omega, by go_num, step HNEW.out (by simp only [nodeR, HC1.out, HC2.out, HL.out, HT.out]; rfl), by simp [hlen], (hM1.alloc _).ext hq, below_all hX1 _ hq⟩
                  case measure => simp [intOf]; omega
          · by_cases c2 : 25 < X.f1
            · have HC2 := Lib.hid (show decide (min (deep + 1) 25 < X.f1) = true from decide_eq_true (by omega))
              go_wp2_with (first
                | (at_lookup; refine wpList_lookup_own_int _ rfl _ _ 47 rfl 27 3 .i64 lawM Tryd.underlying47 Tryd.underlying3 (zeroM _) w.heap.size _ _ rfl hM1.own _ _ rfl hkey ?_; intro c hat hwc; have hq := hat.symm.trans (hM1.cnt X.f0); injection hq with hq; injection hq with _ hq; subst hq; clear hat hwc)
                | (at_lookup; refine gate_guard (by rfl) ?_; refine wpList_lookup_own_int _ rfl _ _ 47 rfl 27 3 .i64 lawM Tryd.underlying47 Tryd.underlying3 (zeroM _) w.heap.size _ _ rfl hM1.own _ _ rfl hkey ?_; intro c hat hwc; have hq := hat.symm.trans (hM1.cnt X.f0); injection hq with hq; injection hq with _ hq; subst hq; clear hat hwc)
                | (at_mapUpdate; refine wpList_mapUpdate_own _ rfl _ _ _ 47 rfl 27 3 lawM Tryd.underlying47 _ w.heap.size k _ rfl hM1.own (by unfold maxLen; omega) _ _ _ rfl rfl hkey _ [] (plainElem_int Tryd.underlying3 (i64_wf _ (by omega) (by omega))) ?_; intro w1 hown1 hgrow1; have hM2 := hM1.put X.f0 hown1; obtain ⟨e0, e1, e2, e3⟩ := behind hgrow1 hX.size hM.own.lt; have hX1 := below1 hX hgrow1; clear hM1 hgrow1 hown1; have hM1 := hM2; clear hM2; have z0 := HZ0.out))
              go_ret
              exact ⟨ret (by rw [show nodeR deep X = false by simp only [nodeR, HC1.out, HC2.out]; rfl, Bool.and_false]), Ext.below hX1⟩
            · have HC2 := Lib.hid (show decide (min (deep + 1) 25 < X.f1) = false from decide_eq_false (by omega))
              cases hl : longS X.f2 with
              | true =>
                have HL := Lib.hid hl
                clear hl
                go_wp2_with (first
                  | (at_lookup; refine wpList_lookup_own_int _ rfl _ _ 47 rfl 27 3 .i64 lawM Tryd.underlying47 Tryd.underlying3 (zeroM _) w.heap.size _ _ rfl hM1.own _ _ rfl hkey ?_; intro c hat hwc; have hq := hat.symm.trans (hM1.cnt X.f0); injection hq with hq; injection hq with _ hq; subst hq; clear hat hwc)
                  | (at_lookup; refine gate_guard (by rfl) ?_; refine wpList_lookup_own_int _ rfl _ _ 47 rfl 27 3 .i64 lawM Tryd.underlying47 Tryd.underlying3 (zeroM _) w.heap.size _ _ rfl hM1.own _ _ rfl hkey ?_; intro c hat hwc; have hq := hat.symm.trans (hM1.cnt X.f0); injection hq with hq; injection hq with _ hq; subst hq; clear hat hwc)
                  | (at_mapUpdate; refine wpList_mapUpdate_own _ rfl _ _ _ 47 rfl 27 3 lawM Tryd.underlying47 _ w.heap.size k _ rfl hM1.own (by unfold maxLen; omega) _ _ _ rfl rfl hkey _ [] (plainElem_int Tryd.underlying3 (i64_wf _ (by omega) (by omega))) ?_; intro w1 hown1 hgrow1; have hM2 := hM1.put X.f0 hown1; obtain ⟨e0, e1, e2, e3⟩ := behind hgrow1 hX.size hM.own.lt; have hX1 := below1 hX hgrow1; clear hM1 hgrow1 hown1; have hM1 := hM2; clear hM2; have z0 := HZ0.out)
                  | (go_at_call 32; (with_reducible refine (short1_calls X.f2 _ _ _ _ (h_newN _ _ _ (by simp))).mono ?_); rintro e w' ⟨rfl, rfl⟩; rw [HL.out]; have e3b := ((Ext.refl w1).alloc (.cells #[.string X.f2] 9)).cell e3))
                go_ret
                exact ⟨ret (by rw [show nodeR deep X = false by simp only [nodeR, HC1.out, HC2.out, HL.out]; rfl, Bool.and_false]), (Ext.below hX1).alloc _⟩
              | false =>
                have HL := Lib.hid hl
                clear hl
                cases ht : attrsR X.f3 with
                | false =>
                  have HT := Lib.hid ht
                  clear ht
                  go_wp2_with (first
                    | (at_lookup; refine wpList_lookup_own_int _ rfl _ _ 47 rfl 27 3 .i64 lawM Tryd.underlying47 Tryd.underlying3 (zeroM _) w.heap.size _ _ rfl hM1.own _ _ rfl hkey ?_; intro c hat hwc; have hq := hat.symm.trans (hM1.cnt X.f0); injection hq with hq; injection hq with _ hq; subst hq; clear hat hwc)
                    | (at_lookup; refine gate_guard (by rfl) ?_; refine wpList_lookup_own_int _ rfl _ _ 47 rfl 27 3 .i64 lawM Tryd.underlying47 Tryd.underlying3 (zeroM _) w.heap.size _ _ rfl hM1.own _ _ rfl hkey ?_; intro c hat hwc; have hq := hat.symm.trans (hM1.cnt X.f0); injection hq with hq; injection hq with _ hq; subst hq; clear hat hwc)
                    | (at_mapUpdate; refine wpList_mapUpdate_own _ rfl _ _ _ 47 rfl 27 3 lawM Tryd.underlying47 _ w.heap.size k _ rfl hM1.own (by unfold maxLen; omega) _ _ _ rfl rfl hkey _ [] (plainElem_int Tryd.underlying3 (i64_wf _ (by omega) (by omega))) ?_; intro w1 hown1 hgrow1; have hM2 := hM1.put X.f0 hown1; obtain ⟨e0, e1, e2, e3⟩ := behind hgrow1 hX.size hM.own.lt; have hX1 := below1 hX hgrow1; clear hM1 hgrow1 hown1; have hM1 := hM2; clear hM2; have z0 := HZ0.out)
                    | (go_at_call 32; (with_reducible refine (short1_calls X.f2 _ _ _ _ (h_newN _ _ _ (by simp))).mono ?_); rintro e w' ⟨rfl, rfl⟩; rw [HL.out]; have e3b := ((Ext.refl w1).alloc (.cells #[.string X.f2] 9)).cell e3)
                    | (go_at_call 33; (with_reducible refine (attrs_calls A3 c3 X.f3 _ (Kd.C_below hn (below_back hX1 _)) hc3).mono ?_); rintro e w' ⟨rfl, hq⟩; rw [HT.out]; have e1b := (((Ext.refl w1).alloc (.cells #[.string X.f2] 9)).trans hq).cell e1))
                  go_ret
                  exact ⟨ret (by rw [show nodeR deep X = false by simp only [nodeR, HC1.out, HC2.out, HL.out, HT.out]; rfl, Bool.and_false]), ((Ext.below hX1).alloc _).trans hq⟩
                | true =>
                  have HT := Lib.hid ht
                  clear ht
                  go_wp2_with (first
                    | (at_lookup; refine wpList_lookup_own_int _ rfl _ _ 47 rfl 27 3 .i64 lawM Tryd.underlying47 Tryd.underlying3 (zeroM _) w.heap.size _ _ rfl hM1.own _ _ rfl hkey ?_; intro c hat hwc; have hq := hat.symm.trans (hM1.cnt X.f0); injection hq with hq; injection hq with _ hq; subst hq; clear hat hwc)
                    | (at_lookup; refine gate_guard (by rfl) ?_; refine wpList_lookup_own_int _ rfl _ _ 47 rfl 27 3 .i64 lawM Tryd.underlying47 Tryd.underlying3 (zeroM _) w.heap.size _ _ rfl hM1.own _ _ rfl hkey ?_; intro c hat hwc; have hq := hat.symm.trans (hM1.cnt X.f0); injection hq with hq; injection hq with _ hq; subst hq; clear hat hwc)
                    | (at_mapUpdate; refine wpList_mapUpdate_own _ rfl _ _ _ 47 rfl 27 3 lawM Tryd.underlying47 _ w.heap.size k _ rfl hM1.own (by unfold maxLen; omega) _ _ _ rfl rfl hkey _ [] (plainElem_int Tryd.underlying3 (i64_wf _ (by omega) (by omega))) ?_; intro w1 hown1 hgrow1; have hM2 := hM1.put X.f0 hown1; obtain ⟨e0, e1, e2, e3⟩ := behind hgrow1 hX.size hM.own.lt; have hX1 := below1 hX hgrow1; clear hM1 hgrow1 hown1; have hM1 := hM2; clear hM2; have z0 := HZ0.out)
                    | (go_at_call 32; (with_reducible refine (short1_calls X.f2 _ _ _ _ (h_newN _ _ _ (by simp))).mono ?_); rintro e w' ⟨rfl, rfl⟩; rw [HL.out]; have e3b := ((Ext.refl w1).alloc (.cells #[.string X.f2] 9)).cell e3)
                    | (go_at_call 33; (with_reducible refine (attrs_calls A3 c3 X.f3 _ (Kd.C_below hn (below_back hX1 _)) hc3).mono ?_); rintro e w' ⟨rfl, hq⟩; rw [HT.out]; have e1b := (((Ext.refl w1).alloc (.cells #[.string X.f2] 9)).trans hq).cell e1))
                  go_roundw
                  case rel => exact ⟨k + 1, X.f1, X.f0 :: ids, _, by omega, rfl, by omega, by omega, by go_num, step HNEW.out (by simp only [nodeR, HC1.out, HC2.out, HL.out, HT.out]; rfl), by simp [hlen], (hM1.alloc _).ext hq, below_all hX1 _ hq⟩
                  case measure => simp [intOf]; omega
      · have HZ := Lib.hid (decide_eq_false z0)
        have z0b : (X.f0 != 0) = true := by simpa using z0
        by_cases n0 : ids.count X.f0 = 0
        · have HNEW := Lib.hid (show newR ids X = true by simp only [newR, decide_eq_true n0, Bool.or_true])
          have HN0 := Lib.hid n0
          clear n0
          by_cases c1 : X.f1 < 1
          · have HC1 := Lib.hid (decide_eq_true c1)
            go_wp2_with (first
              | (at_lookup; refine wpList_lookup_own_int _ rfl _ _ 47 rfl 27 3 .i64 lawM Tryd.underlying47 Tryd.underlying3 (zeroM _) w.heap.size _ _ rfl hM1.own _ _ rfl hkey ?_; intro c hat hwc; have hq := hat.symm.trans (hM1.cnt X.f0); injection hq with hq; injection hq with _ hq; subst hq; clear hat hwc)
              | (at_lookup; refine gate_guard (by rfl) ?_; refine wpList_lookup_own_int _ rfl _ _ 47 rfl 27 3 .i64 lawM Tryd.underlying47 Tryd.underlying3 (zeroM _) w.heap.size _ _ rfl hM1.own _ _ rfl hkey ?_; intro c hat hwc; have hq := hat.symm.trans (hM1.cnt X.f0); injection hq with hq; injection hq with _ hq; subst hq; clear hat hwc)
              | (at_mapUpdate; refine wpList_mapUpdate_own _ rfl _ _ _ 47 rfl 27 3 lawM Tryd.underlying47 _ w.heap.size k _ rfl hM1.own (by unfold maxLen; omega) _ _ _ rfl rfl hkey _ [] (plainElem_int Tryd.underlying3 (i64_wf _ (by omega) (by omega))) ?_; intro w1 hown1 hgrow1; have hM2 := hM1.put X.f0 hown1; obtain ⟨e0, e1, e2, e3⟩ := behind hgrow1 hX.size hM.own.lt; have hX1 := below1 hX hgrow1; clear hM1 hgrow1 hown1; have hM1 := hM2; clear hM2; have n0 := HN0.out; have hcc : (X.f0 :: ids).count X.f0 = ids.count X.f0 + 1 := List.count_cons_self))
            go_ret
            exact ⟨ret (by rw [show nodeR deep X = false by simp only [nodeR, HC1.out]; rfl, Bool.and_false]), Ext.below hX1⟩
          · have HC1 := Lib.hid (decide_eq_false c1)
            by_cases dd : deep + 1 ≤ 25
            · by_cases c2 : deep + 1 < X.f1
              · have HC2 := Lib.hid (show decide (min (deep + 1) 25 < X.f1) = true from decide_eq_true (by omega))
                go_wp2_with (first
                  | (at_lookup; refine wpList_lookup_own_int _ rfl _ _ 47 rfl 27 3 .i64 lawM Tryd.underlying47 Tryd.underlying3 (zeroM _) w.heap.size _ _ rfl hM1.own _ _ rfl hkey ?_; intro c hat hwc; have hq := hat.symm.trans (hM1.cnt X.f0); injection hq with hq; injection hq with _ hq; subst hq; clear hat hwc)
                  | (at_lookup; refine gate_guard (by rfl) ?_; refine wpList_lookup_own_int _ rfl _ _ 47 rfl 27 3 .i64 lawM Tryd.underlying47 Tryd.underlying3 (zeroM _) w.heap.size _ _ rfl hM1.own _ _ rfl hkey ?_; intro c hat hwc; have hq := hat.symm.trans (hM1.cnt X.f0); injection hq with hq; injection hq with _ hq; subst hq; clear hat hwc)
                  | (at_mapUpdate; refine wpList_mapUpdate_own _ rfl _ _ _ 47 rfl 27 3 lawM Tryd.underlying47 _ w.heap.size k _ rfl hM1.own (by unfold maxLen; omega) _ _ _ rfl rfl hkey _ [] (plainElem_int Tryd.underlying3 (i64_wf _ (by omega) (by omega))) ?_; intro w1 hown1 hgrow1; have hM2 := hM1.put X.f0 hown1; obtain ⟨e0, e1, e2, e3⟩ := behind hgrow1 hX.size hM.own.lt; have hX1 := below1 hX hgrow1; clear hM1 hgrow1 hown1; have hM1 := hM2; clear hM2; have n0 := HN0.out; have hcc : (X.f0 :: ids).count X.f0 = ids.count X.f0 + 1 := List.count_cons_self))
                go_ret
                exact ⟨ret (by rw [show nodeR deep X = false by simp only [nodeR, HC1.out, HC2.out]; rfl, Bool.and_false]), Ext.below hX1⟩
              · have HC2 := Lib.hid (show decide (min (deep + 1) 25 < X.f1) = false from decide_eq_false (by omega))
                cases hl : longS X.f2 with
                | true =>
                  have HL := Lib.hid hl
                  clear hl
                  go_wp2_with (first
                    | (at_lookup; refine wpList_lookup_own_int _ rfl _ _ 47 rfl 27 3 .i64 lawM Tryd.underlying47 Tryd.underlying3 (zeroM _) w.heap.size _ _ rfl hM1.own _ _ rfl hkey ?_; intro c hat hwc; have hq := hat.symm.trans (hM1.cnt X.f0); injection hq with hq; injection hq with _ hq; subst hq; clear hat hwc)
                    | (at_lookup; refine gate_guard (by rfl) ?_; refine wpList_lookup_own_int _ rfl _ _ 47 rfl 27 3 .i64 lawM Tryd.underlying47 Tryd.underlying3 (zeroM _) w.heap.size _ _ rfl hM1.own _ _ rfl hkey ?_; intro c hat hwc; have hq := hat.symm.trans (hM1.cnt X.f0); injection hq with hq; injection hq with _ hq; subst hq; clear hat hwc)
                    | (at_mapUpdate; refine wpList_mapUpdate_own _ rfl _ _ _ 47 rfl 27 3 lawM Tryd.underlying47 _ w.heap.size k _ rfl hM1.own (by unfold maxLen; omega) _ _ _ rfl rfl hkey _ [] (plainElem_int Tryd.underlying3 (i64_wf _ (by omega) (by omega))) ?_; intro w1 hown1 hgrow1; have hM2 := hM1.put X.f0 hown1; obtain ⟨e0, e1, e2, e3⟩ := behind hgrow1 hX.size hM.own.lt; have hX1 := below1 hX hgrow1; clear hM1 hgrow1 hown1; have hM1 := hM2; clear hM2; have n0 := HN0.out; have hcc : (X.f0 :: ids).count X.f0 = ids.count X.f0 + 1 := List.count_cons_self)
                    | (go_at_call 32; (with_reducible refine (short1_calls X.f2 _ _ _ _ (h_newN _ _ _ (by simp))).mono ?_); rintro e w' ⟨rfl, rfl⟩; rw [HL.out]; have e3b := ((Ext.refl w1).alloc (.cells #[.string X.f2] 9)).cell e3))
                  go_ret
                  exact ⟨ret (by rw [show nodeR deep X = false by simp only [nodeR, HC1.out, HC2.out, HL.out]; rfl, Bool.and_false]), (Ext.below hX1).alloc _⟩
                | false =>
                  have HL := Lib.hid hl
                  clear hl
                  cases ht : attrsR X.f3 with
                  | false =>
                    have HT := Lib.hid ht
                    clear ht
                    go_wp2_with (first
                      | (at_lookup; refine wpList_lookup_own_int _ rfl _ _ 47 rfl 27 3 .i64 lawM Tryd.underlying47 Tryd.underlying3 (zeroM _) w.heap.size _ _ rfl hM1.own _ _ rfl hkey ?_; intro c hat hwc; have hq := hat.symm.trans (hM1.cnt X.f0); injection hq with hq; injection hq with _ hq; subst hq; clear hat hwc)
                      | (at_lookup; refine gate_guard (by rfl) ?_; refine wpList_lookup_own_int _ rfl _ _ 47 rfl 27 3 .i64 lawM Tryd.underlying47 Tryd.underlying3 (zeroM _) w.heap.size _ _ rfl hM1.own _ _ rfl hkey ?_; intro c hat hwc; have hq := hat.symm.trans (hM1.cnt X.f0); injection hq with hq; injection hq with _ hq; subst hq; clear hat hwc)
                      | (at_mapUpdate; refine wpList_mapUpdate_own _ rfl _ _ _ 47 rfl 27 3 lawM Tryd.underlying47 _ w.heap.size k _ rfl hM1.own (by unfold maxLen; omega) _ _ _ rfl rfl hkey _ [] (plainElem_int Tryd.underlying3 (i64_wf _ (by omega) (by omega))) ?_; intro w1 hown1 hgrow1; have hM2 := hM1.put X.f0 hown1; obtain ⟨e0, e1, e2, e3⟩ := behind hgrow1 hX.size hM.own.lt; have hX1 := below1 hX hgrow1; clear hM1 hgrow1 hown1; have hM1 := hM2; clear hM2; have n0 := HN0.out; have hcc : (X.f0 :: ids).count X.f0 = ids.count X.f0 + 1 := List.count_cons_self)
                      | (go_at_call 32; (with_reducible refine (short1_calls X.f2 _ _ _ _ (h_newN _ _ _ (by simp))).mono ?_); rintro e w' ⟨rfl, rfl⟩; rw [HL.out]; have e3b := ((Ext.refl w1).alloc (.cells #[.string X.f2] 9)).cell e3)
                      | (go_at_call 33; (with_reducible refine (attrs_calls A3 c3 X.f3 _ (Kd.C_below hn (below_back hX1 _)) hc3).mono ?_); rintro e w' ⟨rfl, hq⟩; rw [HT.out]; have e1b := (((Ext.refl w1).alloc (.cells #[.string X.f2] 9)).trans hq).cell e1))
                    go_ret
                    exact ⟨ret (by rw [show nodeR deep X = false by simp only [nodeR, HC1.out, HC2.out, HL.out, HT.out]; rfl, Bool.and_false]), ((Ext.below hX1).alloc _).trans hq⟩
                  | true =>
                    have HT := Lib.hid ht
                    clear ht
                    go_wp2_with (first
                      | (at_lookup; refine wpList_lookup_own_int _ rfl _ _ 47 rfl 27 3 .i64 lawM Tryd.underlying47 Tryd.underlying3 (zeroM _) w.heap.size _ _ rfl hM1.own _ _ rfl hkey ?_; intro c hat hwc; have hq := hat.symm.trans (hM1.cnt X.f0); injection hq with hq; injection hq with _ hq; subst hq; clear hat hwc)
                      | (at_lookup; refine gate_guard (by rfl) ?_; refine wpList_lookup_own_int _ rfl _ _ 47 rfl 27 3 .i64 lawM Tryd.underlying47 Tryd.underlying3 (zeroM _) w.heap.size _ _ rfl hM1.own _ _ rfl hkey ?_; intro c hat hwc; have hq := hat.symm.trans (hM1.cnt X.f0); injection hq with hq; injection hq with _ hq; subst hq; clear hat hwc)
                      | (at_mapUpdate; refine wpList_mapUpdate_own _ rfl _ _ _ 47 rfl 27 3 lawM Tryd.underlying47 _ w.heap.size k _ rfl hM1.own (by unfold maxLen; omega) _ _ _ rfl rfl hkey _ [] (plainElem_int Tryd.underlying3 (i64_wf _ (by omega) (by omega))) ?_; intro w1 hown1 hgrow1; have hM2 := hM1.put X.f0 hown1; obtain ⟨e0, e1, e2, e3⟩ := behind hgrow1 hX.size hM.own.lt; have hX1 := below1 hX hgrow1; clear hM1 hgrow1 hown1; have hM1 := hM2; clear hM2; have n0 := HN0.out; have hcc : (X.f0 :: ids).count X.f0 = ids.count X.f0 + 1 := List.count_cons_self)
                      | (go_at_call 32; (with_reducible refine (short1_calls X.f2 _ _ _ _ (h_newN _ _ _ (by simp))).mono ?_); rintro e w' ⟨rfl, rfl⟩; rw [HL.out]; have e3b := ((Ext.refl w1).alloc (.cells #[.string X.f2] 9)).cell e3)
                      | (go_at_call 33; (with_reducible refine (attrs_calls A3 c3 X.f3 _ (Kd.C_below hn (below_back hX1 _)) hc3).mono ?_); rintro e w' ⟨rfl, hq⟩; rw [HT.out]; have e1b := (((Ext.refl w1).alloc (.cells #[.string X.f2] 9)).trans hq).cell e1))
                    go_roundw
                    case rel => exact ⟨k + 1, X.f1, X.f0 :: ids, _, by omega, rfl, by omega, by omega, by go_num, step HNEW.out (by simp only [nodeR, HC1.out, HC2.out, HL.out, HT.out]; rfl), by simp [hlen], (hM1.alloc _).ext hq, below_all hX1 _ hq⟩
                    case measure => simp [intOf]; omega
            · by_cases c2 : 25 < X.f1
              · have HC2 := Lib.hid (show decide (min (deep + 1) 25 < X.f1) = true from decide_eq_true (by omega))
                go_wp2_with (first
                  | (at_lookup; refine wpList_lookup_own_int _ rfl _ _ 47 rfl 27 3 .i64 lawM Tryd.underlying47 Tryd.underlying3 (zeroM _) w.heap.size _ _ rfl hM1.own _ _ rfl hkey ?_; intro c hat hwc; have hq := hat.symm.trans (hM1.cnt X.f0); injection hq with hq; injection hq with _ hq; subst hq; clear hat hwc)
                  | (at_lookup; refine gate_guard (by rfl) ?_; refine wpList_lookup_own_int _ rfl _ _ 47 rfl 27 3 .i64 lawM Tryd.underlying47 Tryd.underlying3 (zeroM _) w.heap.size _ _ rfl hM1.own _ _ rfl hkey ?_; intro c hat hwc; have hq := hat.symm.trans (hM1.cnt X.f0); injection hq with hq; injection hq with _ hq; subst hq; clear hat hwc)
                  | (at_mapUpdate; refine wpList_mapUpdate_own _ rfl _ _ _ 47 rfl 27 3 lawM Tryd.underlying47 _ w.heap.size k _ rfl hM1.own (by unfold maxLen; omega) _ _ _ rfl rfl hkey _ [] (plainElem_int Tryd.underlying3 (i64_wf _ (by omega) (by omega))) ?_; intro w1 hown1 hgrow1; have hM2 := hM1.put X.f0 hown1; obtain ⟨e0, e1, e2, e3⟩ := behind hgrow1 hX.size hM.own.lt; have hX1 := below1 hX hgrow1; clear hM1 hgrow1 hown1; have hM1 := hM2; clear hM2; have n0 := HN0.out; have hcc : (X.f0 :: ids).count X.f0 = ids.count X.f0 + 1 := List.count_cons_self))
                go_ret
                exact ⟨ret (by rw [show nodeR deep X = false by simp only [nodeR, HC1.out, HC2.out]; rfl, Bool.and_false]), Ext.below hX1⟩
              · have HC2 := Lib.hid (show decide (min (deep + 1) 25 < X.f1) = false from decide_eq_false (by omega))
                cases hl : longS X.f2 with
                | true =>
                  have HL := Lib.hid hl
                  clear hl
                  go_wp2_with (first
                    | (at_lookup; refine wpList_lookup_own_int _ rfl _ _ 47 rfl 27 3 .i64 lawM Tryd.underlying47 Tryd.underlying3 (zeroM _) w.heap.size _ _ rfl hM1.own _ _ rfl hkey ?_; intro c hat hwc; have hq := hat.symm.trans (hM1.cnt X.f0); injection hq with hq; injection hq with _ hq; subst hq; clear hat hwc)
                    | (at_lookup; refine gate_guard (by rfl) ?_; refine wpList_lookup_own_int _ rfl _ _ 47 rfl 27 3 .i64 lawM Tryd.underlying47 Tryd.underlying3 (zeroM _) w.heap.size _ _ rfl hM1.own _ _ rfl hkey ?_; intro c hat hwc; have hq := hat.symm.trans (hM1.cnt X.f0); injection hq with hq; injection hq with _ hq; subst hq; clear hat hwc)
                    | (at_mapUpdate; refine wpList_mapUpdate_own _ rfl _ _ _ 47 rfl 27 3 lawM Tryd.underlying47 _ w.heap.size k _ rfl hM1.own (by unfold maxLen; omega) _ _ _ rfl rfl hkey _ [] (plainElem_int Tryd.underlying3 (i64_wf _ (by omega) (by omega))) ?_; intro w1 hown1 hgrow1; have hM2 := hM1.put X.f0 hown1; obtain ⟨e0, e1, e2, e3⟩ := behind hgrow1 hX.size hM.own.lt; have hX1 := below1 hX hgrow1; clear hM1 hgrow1 hown1; have hM1 := hM2; clear hM2; have n0 := HN0.out; have hcc : (X.f0 :: ids).count X.f0 = ids.count X.f0 + 1 := List.count_cons_self)
                    | (go_at_call 32; (with_reducible refine (short1_calls X.f2 _ _ _ _ (h_newN _ _ _ (by simp))).mono ?_); rintro e w' ⟨rfl, rfl⟩; rw [HL.out]; have e3b := ((Ext.refl w1).alloc (.cells #[.string X.f2] 9)).cell e3))
                  go_ret
                  exact ⟨ret (by rw [show nodeR deep X = false by simp only [nodeR, HC1.out, HC2.out, HL.out]; rfl, Bool.and_false]), (Ext.below hX1).alloc _⟩
                | false =>
                  have HL := Lib.hid hl
                  clear hl
                  cases ht : attrsR X.f3 with
                  | false =>
                    have HT := Lib.hid ht
                    clear ht
                    go_wp2_with (first
                      | (at_lookup; refine wpList_lookup_own_int _ rfl _ _ 47 rfl 27 3 .i64 lawM Tryd.underlying47 Tryd.underlying3 (zeroM _) w.heap.size _ _ rfl hM1.own _ _ rfl hkey ?_; intro c hat hwc; have hq := hat.symm.trans (hM1.cnt X.f0); injection hq with hq; injection hq with _ hq; subst hq; clear hat hwc)
                      | (at_lookup; refine gate_guard (by rfl) ?_; refine wpList_lookup_own_int _ rfl _ _ 47 rfl 27 3 .i64 lawM Tryd.underlying47 Tryd.underlying3 (zeroM _) w.heap.size _ _ rfl hM1.own _ _ rfl hkey ?_; intro c hat hwc; have hq := hat.symm.trans (hM1.cnt X.f0); injection hq with hq; injection hq with _ hq; subst hq; clear hat hwc)
                      | (at_mapUpdate; refine wpList_mapUpdate_own _ rfl _ _ _ 47 rfl 27 3 lawM Tryd.underlying47 _ w.heap.size k _ rfl hM1.own (by unfold maxLen; omega) _ _ _ rfl rfl hkey _ [] (plainElem_int Tryd.underlying3 (i64_wf _ (by omega) (by omega))) ?_; intro w1 hown1 hgrow1; have hM2 := hM1.put X.f0 hown1; obtain ⟨e0, e1, e2, e3⟩ := behind hgrow1 hX.size hM.own.lt; have hX1 := below1 hX hgrow1; clear hM1 hgrow1 hown1; have hM1 := hM2; clear hM2; have n0 := HN0.out; have hcc : (X.f0 :: ids).count X.f0 = ids.count X.f0 + 1 := List.count_cons_self)
                      | (go_at_call 32; (with_reducible refine (short1_calls X.f2 _ _ _ _ (h_newN _ _ _ (by simp))).mono ?_); rintro e w' ⟨rfl, rfl⟩; rw [HL.out]; have e3b := ((Ext.refl w1).alloc (.cells #[.string X.f2] 9)).cell e3)
                      | (go_at_call 33; (with_reducible refine (attrs_calls A3 c3 X.f3 _ (Kd.C_below hn (below_back hX1 _)) hc3).mono ?_); rintro e w' ⟨rfl, hq⟩; rw [HT.out]; have e1b := (((Ext.refl w1).alloc (.cells #[.string X.f2] 9)).trans hq).cell e1))
                    go_ret
                    exact ⟨ret (by rw [show nodeR deep X = false by simp only [nodeR, HC1.out, HC2.out, HL.out, HT.out]; rfl, Bool.and_false]), ((Ext.below hX1).alloc _).trans hq⟩
                  | true =>
                    have HT := Lib.hid ht
                    clear ht
                    go_wp2_with (first
                      | (at_lookup; refine wpList_lookup_own_int _ rfl _ _ 47 rfl 27 3 .i64 lawM Tryd.underlying47 Tryd.underlying3 (zeroM _) w.heap.size _ _ rfl hM1.own _ _ rfl hkey ?_; intro c hat hwc; have hq := hat.symm.trans (hM1.cnt X.f0); injection hq with hq; injection hq with _ hq; subst hq; clear hat hwc)
                      | (at_lookup; refine gate_guard (by rfl) ?_; refine wpList_lookup_own_int _ rfl _ _ 47 rfl 27 3 .i64 lawM Tryd.underlying47 Tryd.underlying3 (zeroM _) w.heap.size _ _ rfl hM1.own _ _ rfl hkey ?_; intro c hat hwc; have hq := hat.symm.trans (hM1.cnt X.f0); injection hq with hq; injection hq with _ hq; subst hq; clear hat hwc)
                      | (at_mapUpdate; refine wpList_mapUpdate_own _ rfl _ _ _ 47 rfl 27 3 lawM Tryd.underlying47 _ w.heap.size k _ rfl hM1.own (by unfold maxLen; omega) _ _ _ rfl rfl hkey _ [] (plainElem_int Tryd.underlying3 (i64_wf _ (by omega) (by omega))) ?_; intro w1 hown1 hgrow1; have hM2 := hM1.put X.f0 hown1; obtain ⟨e0, e1, e2, e3⟩ := behind hgrow1 hX.size hM.own.lt; have hX1 := below1 hX hgrow1; clear hM1 hgrow1 hown1; have hM1 := hM2; clear hM2; have n0 := HN0.out; have hcc : (X.f0 :: ids).count X.f0 = ids.count X.f0 + 1 := List.count_cons_self)
                      | (go_at_call 32; (with_reducible refine (short1_calls X.f2 _ _ _ _ (h_newN _ _ _ (by simp))).mono ?_); rintro e w' ⟨rfl, rfl⟩; rw [HL.out]; have e3b := ((Ext.refl w1).alloc (.cells #[.string X.f2] 9)).cell e3)
                      | (go_at_call 33; (with_reducible refine (attrs_calls A3 c3 X.f3 _ (Kd.C_below hn (below_back hX1 _)) hc3).mono ?_); rintro e w' ⟨rfl, hq⟩; rw [HT.out]; have e1b := (((Ext.refl w1).alloc (.cells #[.string X.f2] 9)).trans hq).cell e1))
                    go_roundw
                    case rel => exact ⟨k + 1, X.f1, X.f0 :: ids, _, by omega, rfl, by omega, by omega, by go_num, step HNEW.out (by simp only [nodeR, HC1.out, HC2.out, HL.out, HT.out]; rfl), by simp [hlen], (hM1.alloc _).ext hq, below_all hX1 _ hq⟩
                    case measure => simp [intOf]; omega
        · have HN := Lib.hid (decide_eq_false n0)
          go_wp2_with (first
            | (at_lookup; refine wpList_lookup_own_int _ rfl _ _ 47 rfl 27 3 .i64 lawM Tryd.underlying47 Tryd.underlying3 (zeroM _) w.heap.size _ _ rfl hM1.own _ _ rfl hkey ?_; intro c hat hwc; have hq := hat.symm.trans (hM1.cnt X.f0); injection hq with hq; injection hq with _ hq; subst hq; clear hat hwc)
            | (at_lookup; refine gate_guard (by rfl) ?_; refine wpList_lookup_own_int _ rfl _ _ 47 rfl 27 3 .i64 lawM Tryd.underlying47 Tryd.underlying3 (zeroM _) w.heap.size _ _ rfl hM1.own _ _ rfl hkey ?_; intro c hat hwc; have hq := hat.symm.trans (hM1.cnt X.f0); injection hq with hq; injection hq with _ hq; subst hq; clear hat hwc)
            | (at_mapUpdate; refine wpList_mapUpdate_own _ rfl _ _ _ 47 rfl 27 3 lawM Tryd.underlying47 _ w.heap.size k _ rfl hM1.own (by unfold maxLen; omega) _ _ _ rfl rfl hkey _ [] (plainElem_int Tryd.underlying3 (i64_wf _ (by omega) (by omega))) ?_; intro w1 hown1 hgrow1; have hM2 := hM1.put X.f0 hown1; obtain ⟨e0, e1, e2, e3⟩ := behind hgrow1 hX.size hM.own.lt; have hX1 := below1 hX hgrow1; clear hM1 hgrow1 hown1; have hM1 := hM2; clear hM2; have hcc : (X.f0 :: ids).count X.f0 = ids.count X.f0 + 1 := List.count_cons_self))
          go_ret
          exact ⟨ret (by simp only [newR, HZ.out, HN.out]; rfl), Ext.below hX1⟩
    · go_wp2
      go_ret
      refine ⟨?_, ?_⟩
      · rw [← HA.out, List.drop_of_length_le (by omega)]; rfl
      · exact Ext.below hX
end Go.Proofs.YthknhhpcogakfaaDoor.Hand
