/- tree: Kids. -/
import Derived.Test.YthknhhpcogakfaaDoorTreeS
set_option linter.unusedVariables false
set_option linter.unusedSimpArgs false
namespace Go.Proofs.YthknhhpcogakfaaDoor.Hand
open Go Go.RowKit Go.Shelf Go.Proofs.YthknhhpcogakfaaDoor.K Go.Proofs.YthknhhpcogakfaaDoor.PT Go.Proofs.YthknhhpcogakfaaDoorW.PrintWords Go.Proofs.YthknhhpcogakfaaDoorW.PrintLast Go.Proofs.YthknhhpcogakfaaDoorW.PrintMore
attribute [local go_sem] Oper.semAt_some
set_option maxRecDepth 100000
set_option maxHeartbeats 4000000
theorem maker_calls (A : Option Addr) (n c : Nat) (i : Int) (w : World) : Calls Tryd.prog 39 #[.agg #[.slice A n c], .int .i64 i] w fun e w' => e = .returned (.func (.func 56) #[] #[.pointer (some ⟨w.heap.size, 0, none⟩), .pointer (some ⟨w.heap.size + 1, 0, none⟩)]) ∧ w' = (w.alloc (.cells #[.slice A n c] 51)).alloc (.cells #[.int .i64 i] 3) := by
  go_enter Tryd.func39, Tryd.ntmps39
  go_wp2
  go_ret
  refine ⟨?_, rfl⟩
  simp
theorem kids1_seq (m bw bi : Nat) (A : Option Addr) (c : Nat) (l : List S30) (at_ : Int) (w0 : World) (hr : Kd.C k30 w0 A l.length l) (hc : l.length ≤ c) (hn : l.length ≤ 1000) (ha0 : -1 ≤ at_) (ha1 : at_ < (l.length : Int)) :
    SeqSt Fence.wide m Tryd.prog 56 #[.pointer (some ⟨bw, 0, none⟩), .pointer (some ⟨bi, 0, none⟩)] (fun x : Int => #[.int .i64 x]) (KpK bw bi w0.heap.size) Ext (fun W => Boxed W bw 51 (.slice A l.length c) ∧ Boxed W bi 3 (.int .i64 at_) ∧ Below w0.heap.size w0 W) (fun xs W => xs = kidsOf l at_) (fun _ _ => True) 1001 := by
  intro ly J Jx hJ hJx hY W ⟨hb, hi, hB⟩ h0
  exact kids1_in m ly bw bi A c l at_ w0 hr hc hn ha0 ha1 J Jx (Lib.hid hJ) (Lib.hid hY) W hb hi hB h0
def kidsF (l : List S30) (i : Int) : List Int := if rightF l = true ∧ (i = -1 ∨ placeB l i = true) then kidsOf l i else []
def KidsR (L : List Int) (w : World) (e : Ending) (w' : World) : Prop := ∃ v : Value, e = .returned v ∧ w'.ownsRow w.heap.size 3 1 v L.length (L.map (Value.int .i64)) ∧ Ext w w'
theorem info3 : (Tryd.prog.info? 3).map (fun i => (i.zero, i.size, i.bytes)) = some (some (.int .i64 0), 1, 8) := by kernel_rfl
theorem kids_good (A : Option Addr) (c : Nat) (l : List S30) (i : Int) (w : World) (hr : Kd.C k30 w A l.length l) (hc : l.length ≤ c) (hid : IdsIn l) (hR : rightF l = true) (hi' : i = -1 ∨ placeB l i = true) (hn : l.length ≤ 1000) :
    Calls Tryd.prog 16 #[.slice A l.length c, .int .i64 i] w (KidsR (kidsOf l i) w) := by
  obtain ⟨i0, hi, hz0, hz1, hz2⟩ := info_parts info3
  have ha : -1 ≤ i ∧ i < (l.length : Int) := by
    rcases hi' with rfl | h
    · omega
    · obtain ⟨k, rfl, hk⟩ := place_nat h; omega
  have hw0 : Ext w (w.alloc (.cells #[.slice A l.length c] 51)) := (Ext.refl w).alloc _
  have hb0 : Boxed (w.alloc (.cells #[.slice A l.length c] 51)) w.heap.size 51 (.slice A l.length c) := Boxed.new w 51 _
  have hR1 := right_calls A c l _ (Kd.C_below hr hw0.out) hc hid
  rw [hR] at hR1
  have HR := Lib.hid hR1
  have hcl := hb0.cell
  unfold KidsR
  obtain ⟨L, hL⟩ : ∃ L, kidsOf l i = L := ⟨_, rfl⟩
  have hseq := fun m bw bi => kids1_seq m bw bi A c l i w hr hc hn ha.1 ha.2
  rw [hL] at hseq ⊢
  clear hL
  rcases (by omega : i = -1 ∨ ¬ i = -1) with he | he
  · subst he
    refine (callsIn_wide (n := 9)).1 ?_
    refine callsIn_of_wp_marks Tryd.func16 rfl trivial ?_ rfl
    simp only [Tryd.ntmps16, List.size_toArray, List.length_cons, List.length_nil, Nat.reduceAdd, Nat.reduceSub, Array.replicate_succ, Array.replicate_zero, List.push_toArray, List.append_toArray, List.nil_append, List.cons_append]
    refine wpIn_wide.2 ?_
    go_wp2_with (first | (go_at_call 13; (with_reducible refine HR.out.mono ?_); rintro e w1 ⟨rfl, hq⟩; have hcq := hq.cell hcl; have hcr := ((Ext.refl w1).alloc (.cells #[.slice none 0 0] 34)).cell hcq) | (go_at_call 39; (with_reducible refine (maker_calls _ _ _ _ _).mono ?_); rintro e w' ⟨rfl, rfl⟩))
    obtain ⟨s, hs⟩ : ∃ s, w1.heap.size = s := ⟨_, rfl⟩
    rw [hs]
    obtain ⟨W0, hW0⟩ : ∃ W0, ((w1.alloc (.cells #[.slice none 0 0] 34)).alloc (.cells #[.slice A l.length c] 51)).alloc (.cells #[.int .i64 (-1)] 3) = W0 := ⟨_, rfl⟩
    have hXX : Ext w w1 := hw0.trans hq
    have hB0 : Below w.heap.size w W0 := hW0 ▸ (((hXX.alloc _).alloc _).alloc _).out
    have hws : w.heap.size ≤ s := hs ▸ hXX.size
    have hsz : W0.heap.size = s + 3 := by rw [← hW0, ← hs]; simp
    have bO : Boxed W0 s 34 (.slice none 0 0) := by
      have := ((Boxed.new w1 34 (.slice none 0 0)).alloc (.cells #[.slice A l.length c] 51)).alloc (.cells #[.int .i64 (-1)] 3)
      rw [hs, hW0] at this
      exact this
    have bW : Boxed W0 (s + 1) 51 (.slice A l.length c) := by
      have := (Boxed.new (w1.alloc (.cells #[.slice none 0 0] 34)) 51 (.slice A l.length c)).alloc (.cells #[.int .i64 (-1)] 3)
      rw [World.size_alloc, hs, hW0] at this
      exact this
    have bI : Boxed W0 (s + 1 + 1) 3 (.int .i64 (-1)) := by
      have := Boxed.new ((w1.alloc (.cells #[.slice none 0 0] 34)).alloc (.cells #[.slice A l.length c] 51)) 3 (.int .i64 (-1))
      rw [World.size_alloc, World.size_alloc, hs, hW0] at this
      exact this
    rw [hW0]
    clear hW0
    refine (wpIn_wide (n := 9)).1 ?_
    refine wpIn_rangeFunc_st rfl (by omega) (gf := 56) (lb := #[.pointer (some ⟨s + 1, 0, none⟩), .pointer (some ⟨s + 1 + 1, 0, none⟩)]) rfl trivial (enters_of Tryd.func56 (by kernel_rfl) rfl) (hseq 8 (s + 1) (s + 1 + 1)) (fun h k => ⟨k.hw.trans h.hw, k.hi.trans h.hi, h.hb.trans k.hb⟩)
      (fun W l o o' hl ho h1 h2 => ⟨World.putObj_heap_other (by omega), World.putObj_heap_other (by omega), belowK_b (w := W0) (by omega) W l o o' (by omega) ho h1 h2⟩) (fun A B k o hab hk ho _ => hab.heap ho)
      (fun o o' => ⟨(bW.alloc _).alloc _, (bI.alloc _).alloc _, (hB0.alloc (by omega) _).alloc (by simp; omega) _⟩) (fun _ => rfl)
      (fun xs A B row hs hg hr => hs) (fun _ _ _ _ _ _ _ => trivial)
      (fun (pre : List Int) W => (((∃ v, Boxed W s 34 v ∧ W.ownsRow (s + 3) 3 1 v pre.length (pre.map (Value.int .i64)) ∧ (v = .slice none 0 0 ↔ pre = [])) ∧ Boxed W (s + 1) 51 (.slice A l.length c)) ∧ Boxed W (s + 1 + 1) 3 (.int .i64 (-1))) ∧ Below w.heap.size w W)
      (fun _ _ _ => False)
      (OwnFrom.and (OwnFrom.and (OwnFrom.and (Own.from (holdsRow_own (β := List Int) (s + 3) s 34 3 1 (fun pre => pre.length) (fun pre => pre.map (Value.int .i64)) (fun pre v => v = .slice none 0 0 ↔ pre = [])) _) (Own.from (boxed_own _ _ _) _)) (Own.from (boxed_own _ _ _) _)) (ownFrom_below (Nat.le_refl _) (by omega)))
      (fun _ _ _ _ _ hs _ _ => hs) ?iA (fun _ _ _ _ hs _ => hs)
      ⟨⟨⟨⟨_, bO, World.ownsRow_nil _ _ _ _, by simp⟩, bW⟩, bI⟩, hB0⟩
      (fun x => { tmps := #[.slice A l.length c, .int .i64 (-1), undef, undef, .slice none 0 0, .pointer (some ⟨w.heap.size, 0, none⟩), .pointer (some ⟨s, 0, none⟩), .int .i64 x, .slice A l.length c, .agg #[.slice A l.length c], .slice A l.length c, .bool true, .bool false, .bool false, .int .i64 (-1), .bool false, .bool false, undef, undef, undef, undef, .bool false, .bool false, .agg #[.slice A l.length c], .int .i64 (-1), .func (.func 56) #[] #[.pointer (some ⟨s + 1, 0, none⟩), .pointer (some ⟨s + 1 + 1, 0, none⟩)], .int .i64 x, undef, undef, undef, undef, undef], defers := [] }) ?assign ?body ?done ?stop
    case iA =>
      rintro pre A B ⟨⟨⟨⟨v, hv, hrow, hnil⟩, hx⟩, hy⟩, hB⟩ hab
      exact ⟨⟨⟨⟨v, hab.heap hv, own_move hrow (fun k hk => hab.out.block k (own_lt hrow k hk)), hnil⟩, hab.heap hx⟩, hab.heap hy⟩, hB.trans (hab.out.mono hB.size)⟩
    case assign =>
      intro l x W K hK
      gi_wp2
      exact hK
    case body =>
      rintro ly pre x W ⟨⟨⟨⟨v, hv, hrow, hnil⟩, hbw⟩, hbi⟩, hB⟩ hlt
      have hc := hv.cell
      have hvs := hv.lt
      have hbis := hbi.lt
      gi_wp2_with (gi_at_builtin; refine wpListIn_append_own _ rfl _ _ 34 rfl (s + 3) 3 i0 (.int .i64 0) 1 8 Tryd.underlying34 hi hz0 hz1 hz2 rfl (by decide) v pre.length _ rfl (hrow.alloc _) ⟨W.heap.size, 0, none⟩ 1 1 [.int .i64 x] rfl rfl (cell_one_new _ _ _) (by simp [Value.oneCell']) (by unfold maxLen; omega) (by omega) (by simp; omega) ?_)
      intro v' w3 hown' hgrow _
      obtain ⟨g', cap', rfl⟩ := ownsRow_succ hown'
      obtain ⟨hv1, hv2, hr2, hk2, hb2⟩ := hv.appended (by decide) (own_weaken hrow (show s ≤ s + 3 by omega)) (Nat.le_of_lt hvs) (Nat.le_refl _) (own_weaken hown' (show s ≤ s + 3 by omega)) hgrow
      have hc1 := hv1.cell
      have hf1 := hv1.frozen
      gi_wp2
      have hbw1 : Boxed w3 (s + 1) 51 (.slice A l.length c) := (hbw.alloc _).kept hgrow (hbw.not_row (by decide) hrow)
      have hbw2 := (Below.heap_setCell w3 ⟨s, 0, none⟩ (Value.slice (some ⟨g', 0, none⟩) (pre.length + 1) cap') (s + 1) (show s + 1 ≠ s by omega)).trans hbw1
      have hbi1 : Boxed w3 (s + 1 + 1) 3 (.int .i64 (-1)) := (hbi.alloc _).kept hgrow (fun e => by have := own_base hrow (s + 1 + 1) e.symm; omega)
      have hbi2 := (Below.heap_setCell w3 ⟨s, 0, none⟩ (Value.slice (some ⟨g', 0, none⟩) (pre.length + 1) cap') (s + 1 + 1) (show s + 1 + 1 ≠ s by omega)).trans hbi1
      have hrow2 := own_setCell (p := ⟨s, 0, none⟩) hown' (fun e => by have := own_base hown' s e.symm; omega) (Value.slice (some ⟨g', 0, none⟩) (pre.length + 1) cap')
      exact ⟨hk2.from _, ⟨hbw2.trans hbw.symm, hbi2.trans hbi.symm, hb2.mono (by omega)⟩, ⟨⟨⟨_, hv2, by simpa using hrow2, by simp⟩, hbw2⟩, hbi2⟩, hB.trans (hb2.mono (by omega))⟩
    case done =>
      rintro D ys W hD hys ⟨⟨⟨⟨v, hv, hrow, hnil⟩, hbw⟩, hbi⟩, hB⟩ hK2
      have hc := hv.cell
      obtain rfl := hys
      go_wp2
      refine ⟨by simp, .inl ⟨_, _, rfl, run_takeDeferred hK2, ?_⟩⟩
      refine ⟨_, results_tmp rfl _ _ _, ?_⟩
      refine ⟨v, rfl, ownsRow_putObj (o := .deferred (some [])) (own_weaken hrow (by omega)) _ hK2 rfl, Ext.below ?_⟩
      exact hB.trans (belowK_b (w := w) (Nat.le_refl _) W D _ _ (by omega) hK2 rfl rfl)
    case stop =>
      rintro D c pre W _ _ h _
      exact h.elim
  · have HP : placeB l i = true := hi'.resolve_left he
    have HP' := Lib.hid HP
    have hne : (i != -1) = true := by simpa using he
    clear hi' HP
    refine (callsIn_wide (n := 9)).1 ?_
    refine callsIn_of_wp_marks Tryd.func16 rfl trivial ?_ rfl
    simp only [Tryd.ntmps16, List.size_toArray, List.length_cons, List.length_nil, Nat.reduceAdd, Nat.reduceSub, Array.replicate_succ, Array.replicate_zero, List.push_toArray, List.append_toArray, List.nil_append, List.cons_append]
    refine wpIn_wide.2 ?_
    go_wp2_with (first | (go_at_call 13; (with_reducible refine HR.out.mono ?_); rintro e w1 ⟨rfl, hq⟩; have hcq := hq.cell hcl) | (go_at_call 34; (with_reducible refine (isPlace_calls A c l i _).mono ?_); rintro e w2 ⟨rfl, hq2⟩; rw [HP'.out]; have hcq2 := hq2.cell hcq; have hcr := ((Ext.refl w2).alloc (.cells #[.slice none 0 0] 34)).cell hcq2) | (go_at_call 39; (with_reducible refine (maker_calls _ _ _ _ _).mono ?_); rintro e w' ⟨rfl, rfl⟩))
    obtain ⟨s, hs⟩ : ∃ s, w2.heap.size = s := ⟨_, rfl⟩
    rw [hs]
    obtain ⟨W0, hW0⟩ : ∃ W0, ((w2.alloc (.cells #[.slice none 0 0] 34)).alloc (.cells #[.slice A l.length c] 51)).alloc (.cells #[.int .i64 i] 3) = W0 := ⟨_, rfl⟩
    have hXX : Ext w w2 := (hw0.trans hq).trans hq2
    have hB0 : Below w.heap.size w W0 := hW0 ▸ (((hXX.alloc _).alloc _).alloc _).out
    have hws : w.heap.size ≤ s := hs ▸ hXX.size
    have hsz : W0.heap.size = s + 3 := by rw [← hW0, ← hs]; simp
    have bO : Boxed W0 s 34 (.slice none 0 0) := by
      have := ((Boxed.new w2 34 (.slice none 0 0)).alloc (.cells #[.slice A l.length c] 51)).alloc (.cells #[.int .i64 i] 3)
      rw [hs, hW0] at this
      exact this
    have bW : Boxed W0 (s + 1) 51 (.slice A l.length c) := by
      have := (Boxed.new (w2.alloc (.cells #[.slice none 0 0] 34)) 51 (.slice A l.length c)).alloc (.cells #[.int .i64 i] 3)
      rw [World.size_alloc, hs, hW0] at this
      exact this
    have bI : Boxed W0 (s + 1 + 1) 3 (.int .i64 i) := by
      have := Boxed.new ((w2.alloc (.cells #[.slice none 0 0] 34)).alloc (.cells #[.slice A l.length c] 51)) 3 (.int .i64 i)
      rw [World.size_alloc, World.size_alloc, hs, hW0] at this
      exact this
    rw [hW0]
    clear hW0
    refine (wpIn_wide (n := 9)).1 ?_
    refine wpIn_rangeFunc_st rfl (by omega) (gf := 56) (lb := #[.pointer (some ⟨s + 1, 0, none⟩), .pointer (some ⟨s + 1 + 1, 0, none⟩)]) rfl trivial (enters_of Tryd.func56 (by kernel_rfl) rfl) (hseq 8 (s + 1) (s + 1 + 1)) (fun h k => ⟨k.hw.trans h.hw, k.hi.trans h.hi, h.hb.trans k.hb⟩)
      (fun W l o o' hl ho h1 h2 => ⟨World.putObj_heap_other (by omega), World.putObj_heap_other (by omega), belowK_b (w := W0) (by omega) W l o o' (by omega) ho h1 h2⟩) (fun A B k o hab hk ho _ => hab.heap ho)
      (fun o o' => ⟨(bW.alloc _).alloc _, (bI.alloc _).alloc _, (hB0.alloc (by omega) _).alloc (by simp; omega) _⟩) (fun _ => rfl)
      (fun xs A B row hs hg hr => hs) (fun _ _ _ _ _ _ _ => trivial)
      (fun (pre : List Int) W => (((∃ v, Boxed W s 34 v ∧ W.ownsRow (s + 3) 3 1 v pre.length (pre.map (Value.int .i64)) ∧ (v = .slice none 0 0 ↔ pre = [])) ∧ Boxed W (s + 1) 51 (.slice A l.length c)) ∧ Boxed W (s + 1 + 1) 3 (.int .i64 i)) ∧ Below w.heap.size w W)
      (fun _ _ _ => False)
      (OwnFrom.and (OwnFrom.and (OwnFrom.and (Own.from (holdsRow_own (β := List Int) (s + 3) s 34 3 1 (fun pre => pre.length) (fun pre => pre.map (Value.int .i64)) (fun pre v => v = .slice none 0 0 ↔ pre = [])) _) (Own.from (boxed_own _ _ _) _)) (Own.from (boxed_own _ _ _) _)) (ownFrom_below (Nat.le_refl _) (by omega)))
      (fun _ _ _ _ _ hs _ _ => hs) ?iA (fun _ _ _ _ hs _ => hs)
      ⟨⟨⟨⟨_, bO, World.ownsRow_nil _ _ _ _, by simp⟩, bW⟩, bI⟩, hB0⟩
      (fun x => { tmps := #[.slice A l.length c, .int .i64 i, undef, undef, .slice none 0 0, .pointer (some ⟨w.heap.size, 0, none⟩), .pointer (some ⟨s, 0, none⟩), .int .i64 x, .slice A l.length c, .agg #[.slice A l.length c], .slice A l.length c, .bool true, .bool false, .bool false, .int .i64 i, .bool true, .bool true, .agg #[.slice A l.length c], .int .i64 i, .bool true, .bool false, .bool false, .bool false, .agg #[.slice A l.length c], .int .i64 i, .func (.func 56) #[] #[.pointer (some ⟨s + 1, 0, none⟩), .pointer (some ⟨s + 1 + 1, 0, none⟩)], .int .i64 x, undef, undef, undef, undef, undef], defers := [] }) ?assign ?body ?done ?stop
    case iA =>
      rintro pre A B ⟨⟨⟨⟨v, hv, hrow, hnil⟩, hx⟩, hy⟩, hB⟩ hab
      exact ⟨⟨⟨⟨v, hab.heap hv, own_move hrow (fun k hk => hab.out.block k (own_lt hrow k hk)), hnil⟩, hab.heap hx⟩, hab.heap hy⟩, hB.trans (hab.out.mono hB.size)⟩
    case assign =>
      intro l x W K hK
      gi_wp2
      exact hK
    case body =>
      rintro ly pre x W ⟨⟨⟨⟨v, hv, hrow, hnil⟩, hbw⟩, hbi⟩, hB⟩ hlt
      have hc := hv.cell
      have hvs := hv.lt
      have hbis := hbi.lt
      gi_wp2_with (gi_at_builtin; refine wpListIn_append_own _ rfl _ _ 34 rfl (s + 3) 3 i0 (.int .i64 0) 1 8 Tryd.underlying34 hi hz0 hz1 hz2 rfl (by decide) v pre.length _ rfl (hrow.alloc _) ⟨W.heap.size, 0, none⟩ 1 1 [.int .i64 x] rfl rfl (cell_one_new _ _ _) (by simp [Value.oneCell']) (by unfold maxLen; omega) (by omega) (by simp; omega) ?_)
      intro v' w3 hown' hgrow _
      obtain ⟨g', cap', rfl⟩ := ownsRow_succ hown'
      obtain ⟨hv1, hv2, hr2, hk2, hb2⟩ := hv.appended (by decide) (own_weaken hrow (show s ≤ s + 3 by omega)) (Nat.le_of_lt hvs) (Nat.le_refl _) (own_weaken hown' (show s ≤ s + 3 by omega)) hgrow
      have hc1 := hv1.cell
      have hf1 := hv1.frozen
      gi_wp2
      have hbw1 : Boxed w3 (s + 1) 51 (.slice A l.length c) := (hbw.alloc _).kept hgrow (hbw.not_row (by decide) hrow)
      have hbw2 := (Below.heap_setCell w3 ⟨s, 0, none⟩ (Value.slice (some ⟨g', 0, none⟩) (pre.length + 1) cap') (s + 1) (show s + 1 ≠ s by omega)).trans hbw1
      have hbi1 : Boxed w3 (s + 1 + 1) 3 (.int .i64 i) := (hbi.alloc _).kept hgrow (fun e => by have := own_base hrow (s + 1 + 1) e.symm; omega)
      have hbi2 := (Below.heap_setCell w3 ⟨s, 0, none⟩ (Value.slice (some ⟨g', 0, none⟩) (pre.length + 1) cap') (s + 1 + 1) (show s + 1 + 1 ≠ s by omega)).trans hbi1
      have hrow2 := own_setCell (p := ⟨s, 0, none⟩) hown' (fun e => by have := own_base hown' s e.symm; omega) (Value.slice (some ⟨g', 0, none⟩) (pre.length + 1) cap')
      exact ⟨hk2.from _, ⟨hbw2.trans hbw.symm, hbi2.trans hbi.symm, hb2.mono (by omega)⟩, ⟨⟨⟨_, hv2, by simpa using hrow2, by simp⟩, hbw2⟩, hbi2⟩, hB.trans (hb2.mono (by omega))⟩
    case done =>
      rintro D ys W hD hys ⟨⟨⟨⟨v, hv, hrow, hnil⟩, hbw⟩, hbi⟩, hB⟩ hK2
      have hc := hv.cell
      obtain rfl := hys
      go_wp2
      refine ⟨by simp, .inl ⟨_, _, rfl, run_takeDeferred hK2, ?_⟩⟩
      refine ⟨_, results_tmp rfl _ _ _, ?_⟩
      refine ⟨v, rfl, ownsRow_putObj (o := .deferred (some [])) (own_weaken hrow (by omega)) _ hK2 rfl, Ext.below ?_⟩
      exact hB.trans (belowK_b (w := w) (Nat.le_refl _) W D _ _ (by omega) hK2 rfl rfl)
    case stop =>
      rintro D c pre W _ _ h _
      exact h.elim
theorem kids_bad (A : Option Addr) (c : Nat) (l : List S30) (i : Int) (w : World) (hr : Kd.C k30 w A l.length l) (hc : l.length ≤ c) (hid : IdsIn l) (hb : ¬ (rightF l = true ∧ (i = -1 ∨ placeB l i = true))) :
    Calls Tryd.prog 16 #[.slice A l.length c, .int .i64 i] w (KidsR [] w) := by
  have hw0 : Ext w (w.alloc (.cells #[.slice A l.length c] 51)) := (Ext.refl w).alloc _
  have hb0 : Boxed (w.alloc (.cells #[.slice A l.length c] 51)) w.heap.size 51 (.slice A l.length c) := Boxed.new w 51 _
  have hR1 := right_calls A c l _ (Kd.C_below hr hw0.out) hc hid
  have hcl := hb0.cell
  unfold KidsR
  cases h1 : rightF l with
  | false =>
    rw [h1] at hR1
    have HR := Lib.hid hR1
    clear hb h1
    go_enter Tryd.func16, Tryd.ntmps16
    go_wp2_with (go_at_call 13; (with_reducible refine HR.out.mono ?_); rintro e w1 ⟨rfl, hq⟩)
    go_ret
    exact ⟨_, rfl, World.ownsRow_nil _ _ _ _, hw0.trans hq⟩
  | true =>
    rw [h1] at hR1
    have HR := Lib.hid hR1
    have he : ¬ i = -1 := fun h => hb ⟨h1, .inl h⟩
    have hp : placeB l i = false := by
      cases hp : placeB l i with
      | false => rfl
      | true => exact absurd ⟨h1, .inr hp⟩ hb
    have HP' := Lib.hid hp
    have hne : (i != -1) = true := by simpa using he
    clear hb h1 hp
    go_enter Tryd.func16, Tryd.ntmps16
    go_wp2_with (first | (go_at_call 13; (with_reducible refine HR.out.mono ?_); rintro e w1 ⟨rfl, hq⟩; have hcq := hq.cell hcl) | (go_at_call 34; (with_reducible refine (isPlace_calls A c l i _).mono ?_); rintro e w2 ⟨rfl, hq2⟩; rw [HP'.out]))
    go_ret
    exact ⟨_, rfl, World.ownsRow_nil _ _ _ _, (hw0.trans hq).trans hq2⟩
theorem kids_calls (A : Option Addr) (c : Nat) (l : List S30) (i : Int) (w : World) (hr : Kd.C k30 w A l.length l) (hc : l.length ≤ c) (hid : IdsIn l) :
    Calls Tryd.prog 16 #[.slice A l.length c, .int .i64 i] w (KidsR (kidsF l i) w) := by
  unfold kidsF
  by_cases h : rightF l = true ∧ (i = -1 ∨ placeB l i = true)
  · rw [if_pos h]
    exact kids_good A c l i w hr hc hid h.1 h.2 (right_sizes h.1).1
  · rw [if_neg h]
    exact kids_bad A c l i w hr hc hid h
end Go.Proofs.YthknhhpcogakfaaDoor.Hand
