/- rank: the maker's next key. -/
import Derived.Test.YtemiocaiimdblaaDoorRankD
import Derived.Test.YtemiocaiimdblaaDoorRankE
import Derived.Test.YtemiocaiimdblaaDoorRankF
import Derived.RangeFuncBox
import Derived.Maps.AppendAt
import Derived.Laws.BytesArg
import Derived.WalkKit
set_option linter.unusedVariables false
set_option linter.unusedSimpArgs false
namespace Go.Proofs.YtemiocaiimdblaaDoor.Hand
open Go Go.RowKit Go.Shelf Go.Proofs.YtemiocaiimdblaaDoor.K
attribute [local go_sem] Oper.semAt_some
set_option maxRecDepth 100000
set_option maxHeartbeats 4000000

theorem info5 : (Tryd.prog.info? 5).map (fun i => (i.zero, i.size, i.bytes)) = some (some (.int .u8 0), 1, 1) := by kernel_rfl
/-- The key that the letters spell. -/
def keyOf (L : List Int) : ByteArray := strOfNums (L.map (97 + ·))
theorem conv_row {n₀ : Nat} {W : World} {v : Value} {k : Nat} {xs : List Int} (h : W.ownsRow n₀ 5 1 v k (xs.map (Value.int .u8))) : (convert 51 9 v).run Tryd.prog W = .ok (.string (strOfNums xs)) W := by
  have hl : xs.length = k := by simpa using h.1
  rcases h.2 with ⟨rfl, hk⟩ | ⟨g, cap, cur, rfl, _, hg, _⟩
  · subst hk
    rw [run_convert_bytes_nil W 51 5 Tryd.underlying51 Tryd.underlying5 0 0 9 Tryd.underlying9]
    rw [List.length_eq_zero_iff.1 hl]; rfl
  · refine run_convert_bytes_arg W 51 5 Tryd.underlying51 Tryd.underlying5 g 0 k cap xs hl (fun i hi => ?_) 9 Tryd.underlying9
    rw [Nat.zero_add, h.cellAt i (by omega)]
    simp [List.getElem?_eq_getElem (show i < xs.length by omega)]
def Changed (bm : Nat) (w w' : World) : Prop := w'.os = w.os ∧ w'.tape = w.tape ∧ w'.output = w.output ∧ w.heap.size ≤ w'.heap.size ∧ ∀ k, k < w.heap.size → k ≠ bm → w'.heap[k]? = w.heap[k]?
def NextR (bm : Nat) (a b : ByteArray) (x : Int) (g : Addr) (Ky : ByteArray) (w : World) (e : Ending) (w' : World) : Prop :=
  if rightB Ky && lessB a Ky then e = .returned (.tuple #[.string Ky, .nilIface]) ∧ Changed bm w w' ∧ w'.heap[bm]? = some (.cells #[.string a, .string b, .int .i64 (x + 1)] 44 (0, 0))
  else e = .returned (.tuple #[.string { data := #[] }, .iface 79 (.pointer (some g))]) ∧ Ext w w'
theorem nextR_no {bm : Nat} {a b : ByteArray} {x : Int} {g : Addr} {Ky : ByteArray} {w w' : World} (h : (rightB Ky && lessB a Ky) = false) (he : Ext w w') : NextR bm a b x g Ky w (.returned (.tuple #[.string { data := #[] }, .iface 79 (.pointer (some g))])) w' := by
  unfold NextR; rw [h]; exact ⟨rfl, he⟩
theorem nextR_ok {bm : Nat} {a b : ByteArray} {x : Int} {g : Addr} {Ky : ByteArray} {w w' : World} (h : (rightB Ky && lessB a Ky) = true) (hc : Changed bm w w') (hm : w'.heap[bm]? = some (.cells #[.string a, .string b, .int .i64 (x + 1)] 44 (0, 0))) : NextR bm a b x g Ky w (.returned (.tuple #[.string Ky, .nilIface])) w' := by
  unfold NextR; rw [h]; exact ⟨rfl, hc, hm⟩
theorem next_good (bm : Nat) (a b : ByteArray) (x : Int) (g : Addr) (w : World) (hg : Gv g w) (hM : w.heap[bm]? = some (.cells #[.string a, .string b, .int .i64 x] 44 (0, 0))) (hx0 : 0 ≤ x) (hx1 : x ≤ 1000000) (ha : a.size ≤ 1000000) (hb : b.size ≤ 1000000) (hla : Isl a) (hlb : Isl b) (HOK : (okB a && okB b) = true) (HL : a.size ≠ 0 → b.size ≠ 0 → lessB a b = true) :
    Calls Tryd.prog 20 #[.pointer (some ⟨bm, 0, none⟩)] w (NextR bm a b x g (keyOf (digs a b 200 0 b.toList.isEmpty)) w) := by
  obtain ⟨i0, hi, hz0, hz1, hz2⟩ := info_parts info5
  obtain ⟨L, hL⟩ : ∃ L, digs a b 200 0 b.toList.isEmpty = L := ⟨_, rfl⟩
  rw [hL]
  have HLL := Lib.hid hL
  clear hL
  obtain ⟨Ky, hKy⟩ : ∃ Ky, keyOf L = Ky := ⟨_, rfl⟩
  rw [hKy]
  have HK := Lib.hid hKy
  clear hKy
  have c0 : w.cell? ⟨bm, 0, none⟩ = some (.string a) := by simp [World.cell?, hM]
  have c1 : w.cell? ⟨bm, 1, none⟩ = some (.string b) := by simp [World.cell?, hM]
  have c2 : w.cell? ⟨bm, 2, none⟩ = some (.int .i64 x) := by simp [World.cell?, hM]
  refine (callsIn_wide (n := 9)).1 ?_
  refine callsIn_of_wp_marks Tryd.func20 rfl trivial ?_ rfl
  simp only [Tryd.ntmps20, List.size_toArray, List.length_cons, List.length_nil, Nat.reduceAdd, Nat.reduceSub, Array.replicate_succ, Array.replicate_zero, List.push_toArray, List.append_toArray, List.nil_append, List.cons_append]
  refine wpIn_wide.2 ?_
  go_upto_region 1 with (fail)
  rename_i K1 hK1 K hK
  have tail : ∀ (w1 : World) (u1 u4 u5 u6 u7 u8 u9 u10 u11 u12 u13 u14 u15 u16 u17 u18 u19 u20 u21 u22 u23 u24 u25 u26 u27 u28 u29 u30 u31 u32 u33 u34 u35 u36 u37 u38 u39 u40 u41 u42 u43 u44 u45 u46 u47 u48 u49 u50 u51 u52 u53 u54 u55 u56 u57 u58 u59 u60 u61 u62 u63 u64 u65 u66 u67 u68 u69 u70 u71 u72 u73 u74 u75 u76 u77 u78 : Value) , Ext w w1 → K1 { tmps := List.toArray (.pointer (some ⟨bm, 0, none⟩) :: u1 :: .string { data := #[] } :: .nilIface :: u4 :: u5 :: u6 :: u7 :: u8 :: u9 :: u10 :: u11 :: u12 :: u13 :: u14 :: u15 :: u16 :: u17 :: u18 :: u19 :: u20 :: u21 :: u22 :: u23 :: u24 :: u25 :: u26 :: u27 :: u28 :: u29 :: u30 :: u31 :: u32 :: u33 :: u34 :: u35 :: u36 :: u37 :: u38 :: u39 :: u40 :: u41 :: u42 :: u43 :: u44 :: u45 :: u46 :: u47 :: u48 :: u49 :: u50 :: u51 :: u52 :: u53 :: u54 :: u55 :: u56 :: u57 :: u58 :: u59 :: u60 :: u61 :: u62 :: u63 :: u64 :: u65 :: u66 :: u67 :: u68 :: u69 :: u70 :: u71 :: u72 :: u73 :: u74 :: u75 :: u76 :: u77 :: u78 :: []), defers := [] } w1 := by
    intro w1 u1 u4 u5 u6 u7 u8 u9 u10 u11 u12 u13 u14 u15 u16 u17 u18 u19 u20 u21 u22 u23 u24 u25 u26 u27 u28 u29 u30 u31 u32 u33 u34 u35 u36 u37 u38 u39 u40 u41 u42 u43 u44 u45 u46 u47 u48 u49 u50 u51 u52 u53 u54 u55 u56 u57 u58 u59 u60 u61 u62 u63 u64 u65 u66 u67 u68 u69 u70 u71 u72 u73 u74 u75 u76 u77 u78 hE1
    have d0 := hE1.cell c0
    refine hK1 _ _ ?_
    go_wp2_with (go_at_call 28; refine (digits_calls _ _).mono ?_; rintro e w' ⟨rfl, rfl⟩)
    obtain ⟨W0, hW0⟩ : ∃ W0, (w1.alloc (.cells #[.slice none 0 0] 51)).alloc (.cells #[.pointer (some ⟨bm, 0, none⟩)] 35) = W0 := ⟨_, rfl⟩
    have bO : Boxed W0 w1.heap.size 51 (.slice none 0 0) := hW0 ▸ (Boxed.new w1 51 _).alloc _
    have bN : Boxed W0 (w1.heap.size + 1) 35 (.pointer (some ⟨bm, 0, none⟩)) := by
      have := Boxed.new (w1.alloc (.cells #[.slice none 0 0] 51)) 35 (.pointer (some ⟨bm, 0, none⟩))
      rw [World.size_alloc, hW0] at this
      exact this
    have hB0 : Below w1.heap.size w1 W0 := hW0 ▸ ((Below.refl _ w1).alloc (Nat.le_refl _) _).alloc (by simp) _
    have hsz : W0.heap.size = w1.heap.size + 2 := by rw [← hW0]; simp
    have hbm : bm < w.heap.size := (Array.getElem?_eq_some_iff.1 hM).1
    have hbm1 : bm < w1.heap.size := Nat.lt_of_lt_of_le hbm hE1.size
    have d1 := hE1.cell c1
    rw [hW0]
    refine (wpIn_wide (n := 9)).1 ?_
    refine wpIn_rangeFunc_ownF rfl (by omega) (gf := 34) (lb := #[.pointer (some ⟨w1.heap.size + 1, 0, none⟩)]) rfl trivial (enters_of Tryd.func34 (by kernel_rfl) rfl)
      (digits1_stops 8 (w1.heap.size + 1) bm w1.heap.size a b ha hb hla hlb W0 (by omega) hbm1 (by omega) bN.cell ((hB0.cell (p := ⟨bm, 0, none⟩) hbm1).trans d0) ((hB0.cell (p := ⟨bm, 1, none⟩) hbm1).trans d1))
      (fun h k => Kpd.trans h k) (fun W l o o' hl ho h1 h2 => ⟨belowK_b (w := W0) (by omega) W l o o' (by omega) ho h1 h2, by rw [World.putObj_heap_other (by omega)]⟩) (Below.refl _ _) (fun _ => rfl)
      (fun (pre : List Letter) W => (∃ v, Boxed W w1.heap.size 51 v ∧ W.ownsRow w1.heap.size 5 1 v pre.length (pre.map fun y => Value.int .u8 (97 + y.1)) ∧ (v = .slice none 0 0 ↔ pre = [])) ∧ Below w1.heap.size w1 W ∧ W.heap[w1.heap.size + 1]? = W0.heap[w1.heap.size + 1]?)
      (fun _ _ _ => False)
      (OwnFrom.and (Own.from (holdsRow_own (β := List Letter) w1.heap.size w1.heap.size 51 5 1 (fun pre => pre.length) (fun pre => pre.map fun y => Value.int .u8 (97 + y.1)) (fun pre v => v = .slice none 0 0 ↔ pre = [])) _) (OwnFrom.and (ownFrom_below (Nat.le_refl _) (by omega)) ?keepBox))
      (fun _ _ _ _ _ hs _ _ => hs)
      ⟨⟨_, bO, World.ownsRow_nil _ _ _ _, by simp⟩, hB0, rfl⟩
      (fun x => { tmps := List.toArray (.pointer (some ⟨bm, 0, none⟩) :: u1 :: .string { data := #[] } :: .nilIface :: .pointer (some ⟨w1.heap.size, 0, none⟩) :: .int .i64 x.1 :: u6 :: u7 :: u8 :: u9 :: u10 :: u11 :: u12 :: u13 :: u14 :: u15 :: u16 :: u17 :: u18 :: u19 :: u20 :: u21 :: u22 :: u23 :: u24 :: u25 :: u26 :: u27 :: u28 :: u29 :: u30 :: u31 :: u32 :: u33 :: u34 :: u35 :: u36 :: u37 :: u38 :: u39 :: u40 :: u41 :: u42 :: u43 :: u44 :: u45 :: u46 :: u47 :: u48 :: u49 :: u50 :: .pointer (some ⟨bm, 0, none⟩) :: .func (.func 34) #[] #[.pointer (some ⟨w1.heap.size + 1, 0, none⟩)] :: .int .i64 x.1 :: u54 :: u55 :: u56 :: u57 :: u58 :: u59 :: u60 :: u61 :: u62 :: u63 :: u64 :: u65 :: u66 :: u67 :: u68 :: u69 :: u70 :: u71 :: u72 :: u73 :: u74 :: u75 :: u76 :: u77 :: u78 :: []), defers := [] }) ?assign ?body ?done ?stop
    case keepBox =>
      intro s A B row hs hg hr
      rw [hg.block _ (Array.getElem?_eq_some_iff.1 (hs.trans bN)).1 (fun e => by have := (hr _ e.symm).1; omega)]
      exact hs
    case assign =>
      intro l x W K hK
      gi_wp2
      exact hK
    case body =>
      rintro l pre ⟨x, hx0, hx1⟩ W ⟨⟨v, hv, hrow, hnil⟩, hB, hbox⟩ hlt
      have hc := hv.cell
      gi_wp2_with (gi_at_builtin; refine wpListIn_append_own _ rfl _ _ 51 rfl w1.heap.size 5 i0 (.int .u8 0) 1 1 Tryd.underlying51 hi hz0 hz1 hz2 rfl (by decide) v pre.length _ rfl (hrow.alloc _) ⟨W.heap.size, 0, none⟩ 1 1 [.int .u8 (97 + x)] rfl rfl (cell_one_new _ _ _) (by simp [Value.oneCell']) (by unfold maxLen; omega) (by omega) (by have := hB.size; simp; omega) ?_)
      intro v' w2 hown' hgrow _
      obtain ⟨g', cap', rfl⟩ := ownsRow_succ hown'
      obtain ⟨hv1, hv2, hr2, hk2, hb2⟩ := hv.appended (by decide) hrow hB.size (Nat.le_refl _) hown' hgrow
      have hc1 := hv1.cell
      have hf1 := hv1.frozen
      gi_wp2
      have hbn : Boxed W (w1.heap.size + 1) 35 (.pointer (some ⟨bm, 0, none⟩)) := hbox.trans bN
      have hbn1 : Boxed w2 (w1.heap.size + 1) 35 (.pointer (some ⟨bm, 0, none⟩)) := (hbn.alloc _).kept hgrow (hbn.not_row (by decide) hrow)
      have hbn2 := (Below.heap_setCell w2 ⟨w1.heap.size, 0, none⟩ (Value.slice (some ⟨g', 0, none⟩) (pre.length + 1) cap') (w1.heap.size + 1) (by simp)).trans hbn1
      exact ⟨hk2, ⟨hb2, hbn2.trans hbn.symm⟩, ⟨_, hv2, by simpa using hr2, by simp⟩, hB.trans hb2, hbn2.trans bN.symm⟩
    case done =>
      rintro D ys W hD hys ⟨⟨v, hv, hrow, hnil⟩, hB, hbox⟩ hK2
      rw [HLL.out] at hys
      have hcv : (convert 51 9 v).run Tryd.prog W = .ok (.string Ky) W := by
        have h1 := conv_row (W := W) (n₀ := w1.heap.size) (v := v) (k := ys.length) (xs := (ys.map (·.1)).map (97 + ·)) (by simpa [List.map_map, Function.comp_def] using hrow)
        rw [hys] at h1
        rw [h1, ← HK.out, keyOf]
      have hc := hv.cell
      have Wm : W.heap[bm]? = some (.cells #[.string a, .string b, .int .i64 x] 44 (0, 0)) := (hB.block bm hbm1).trans ((hE1.block bm hbm).trans hM)
      have e0 : W.cell? ⟨bm, 0, none⟩ = some (.string a) := by simp [World.cell?, Wm]
      have hG : W.cell? ⟨0, 0, none⟩ = some (.iface 79 (.pointer (some g))) := (hB.cell (p := ⟨0, 0, none⟩) (Nat.lt_of_le_of_lt (Nat.zero_le _) hbm1)).trans (hE1.cell hg)
      have hsz1 := hE1.size
      have hX : Below w.heap.size w W := hE1.out.trans (hB.mono hE1.size)
      clear hys hrow hnil hbox hv
      cases hR : rightB Ky with
      | true =>
        have HR := Lib.hid hR
        cases hS : lessB a Ky with
        | true =>
          have HS := Lib.hid hS
          clear hR hS
          go_wp2_with (first
            | (go_at_call 13; refine (right_calls _ _).mono ?_; rintro e w2 ⟨rfl, hq⟩; rw [HR.out]; have e0' := hq.cell e0; have Wm2 := hq.heap Wm)
            | (go_at_call 15; refine (less_calls _ _ _).mono ?_; rintro e w3 ⟨rfl, rfl⟩; rw [HS.out])
            | (go_at_call 29; refine (add_calls _ x _ (by simp [World.cell?, Wm2]) (by simp [World.frozen?, Wm2]) hx0 hx1).mono ?_; rintro e w3 ⟨rfl, rfl⟩))
          refine ⟨by simp, .inl ⟨_, _, rfl, run_takeDeferred ((Below.heap_setCell _ _ _ D (by show D ≠ bm; omega)).trans (hq.heap hK2)), ?_⟩⟩
          refine ⟨_, results_tmp2 rfl _ _ _, ?_⟩
          have hY : Below w.heap.size w w2 := hX.trans (hq.out.mono hX.size)
          refine nextR_ok (by rw [HR.out, HS.out]; rfl) ⟨hY.os, hY.tape, hY.output, by simp; exact hY.size, fun k hk hne => ?_⟩ ?_
          · rw [World.putObj_heap_other (by omega), Below.heap_setCell _ _ _ _ hne]; exact hY.block k hk
          · rw [World.putObj_heap_other (by omega)]
            simp only [World.setCell, Array.getElem?_modify, Wm2]
            rfl
        | false =>
          have HS := Lib.hid hS
          clear hR hS
          go_upto_region 11 with (first
            | (go_at_call 13; refine (right_calls _ _).mono ?_; rintro e w2 ⟨rfl, hq⟩; rw [HR.out]; have e0' := hq.cell e0; have Wm2 := hq.heap Wm)
            | (go_at_call 15; refine (less_calls _ _ _).mono ?_; rintro e w3 ⟨rfl, rfl⟩; rw [HS.out]))
          have hG2 := hq.cell hG
          refine region_r T20_11 ?_ ?_ ?_ ?_ ?_
          · kernel_rfl
          · kernel_rfl
          · kernel_rfl
          · kernel_rfl
          refine RChain.quiet (.iface 79 (.pointer (some g))) rfl (fun a_ w hE _ => ?_) ?_
          · conv => lhs; simp [go_sem, hE.cell hG2]
            try exact rfl
          refine RChain.quiet (.string { data := #[] }) rfl (fun a_ w hE _ => ?_) ?_
          · conv => lhs; simp [go_sem]
            try exact rfl
          refine RChain.quiet (.iface 79 (.pointer (some g))) rfl (fun a_ w hE ⟨(h78 : a_.tmps.getD 78 undef = .iface 79 (.pointer (some g))), _⟩ => ?_) ?_
          · conv => lhs; simp [go_sem, h78]
            try exact rfl
          refine RChain.nil (fun w4 hE3 => ?_)
          refine endAll_cons (fun v0 (hv : v0 = .iface 79 (.pointer (some g))) => ?_)
          subst hv
          refine endAll_cons (fun v1 (hv : v1 = .string { data := #[] }) => ?_)
          subst hv
          refine endAll_cons (fun v2 (hv : v2 = .iface 79 (.pointer (some g))) => ?_)
          subst hv
          refine endAll_nil ?_
          go_wp2
          simp only [Act.put, List.setIfInBounds_toArray, List.set_cons_succ, List.set_cons_zero]
          refine ⟨by simp, .inl ⟨_, _, rfl, run_takeDeferred (hE3.heap (hq.heap hK2)), ?_⟩⟩
          refine ⟨_, results_tmp2 rfl _ _ _, ?_⟩
          have hY : Below w.heap.size w w4 := hX.trans ((hq.trans hE3).out.mono hX.size)
          exact nextR_no (by simp [HR.out, HS.out]) (Ext.below (hY.trans (belowK_b (w := w) (Nat.le_refl _) w4 D _ _ (by omega) (hE3.heap (hq.heap hK2)) rfl rfl)))
      | false =>
        have HR := Lib.hid hR
        clear hR
        go_upto_region 11 with (go_at_call 13; refine (right_calls _ _).mono ?_; rintro e w2 ⟨rfl, hq⟩; rw [HR.out]; have e0' := hq.cell e0; have Wm2 := hq.heap Wm)
        have hG2 := hq.cell hG
        refine region_r T20_11 ?_ ?_ ?_ ?_ ?_
        · kernel_rfl
        · kernel_rfl
        · kernel_rfl
        · kernel_rfl
        refine RChain.quiet (.iface 79 (.pointer (some g))) rfl (fun a_ w hE _ => ?_) ?_
        · conv => lhs; simp [go_sem, hE.cell hG2]
          try exact rfl
        refine RChain.quiet (.string { data := #[] }) rfl (fun a_ w hE _ => ?_) ?_
        · conv => lhs; simp [go_sem]
          try exact rfl
        refine RChain.quiet (.iface 79 (.pointer (some g))) rfl (fun a_ w hE ⟨(h78 : a_.tmps.getD 78 undef = .iface 79 (.pointer (some g))), _⟩ => ?_) ?_
        · conv => lhs; simp [go_sem, h78]
          try exact rfl
        refine RChain.nil (fun w4 hE3 => ?_)
        refine endAll_cons (fun v0 (hv : v0 = .iface 79 (.pointer (some g))) => ?_)
        subst hv
        refine endAll_cons (fun v1 (hv : v1 = .string { data := #[] }) => ?_)
        subst hv
        refine endAll_cons (fun v2 (hv : v2 = .iface 79 (.pointer (some g))) => ?_)
        subst hv
        refine endAll_nil ?_
        go_wp2
        simp only [Act.put, List.setIfInBounds_toArray, List.set_cons_succ, List.set_cons_zero]
        refine ⟨by simp, .inl ⟨_, _, rfl, run_takeDeferred (hE3.heap (hq.heap hK2)), ?_⟩⟩
        refine ⟨_, results_tmp2 rfl _ _ _, ?_⟩
        have hY : Below w.heap.size w w4 := hX.trans ((hq.trans hE3).out.mono hX.size)
        exact nextR_no (by simp [HR.out]) (Ext.below (hY.trans (belowK_b (w := w) (Nat.le_refl _) w4 D _ _ (by omega) (hE3.heap (hq.heap hK2)) rfl rfl)))
    case stop =>
      rintro D c pre W _ _ h _
      exact h.elim
  have okd : okB a = true ∧ okB b = true := by simpa using HOK
  by_cases ea : a.size = 0
  · have na : a.toList.isEmpty = true := (nil_iff a).2 ea
    refine region_r T20_1 ?_ ?_ ?_ ?_ ?_
    · kernel_rfl
    · kernel_rfl
    · kernel_rfl
    · kernel_rfl
    refine RChain.quiet (.pointer (some ⟨bm, 0, none⟩)) rfl (fun a_ w hE ⟨(h0 : a_.tmps.getD 0 undef = .pointer (some ⟨bm, 0, none⟩)), _⟩ => ?_) ?_
    · conv => lhs; simp [go_sem, h0]
      try exact rfl
    refine RChain.quiet (.pointer (some ⟨bm, 0, none⟩)) rfl (fun a_ w hE ⟨(h7 : a_.tmps.getD 7 undef = .pointer (some ⟨bm, 0, none⟩)), _⟩ => ?_) ?_
    · conv => lhs; simp [go_sem, h7]
      try exact rfl
    refine RChain.quiet (.pointer (some ⟨bm, 0, none⟩)) rfl (fun a_ w hE ⟨(h8 : a_.tmps.getD 8 undef = .pointer (some ⟨bm, 0, none⟩)), _⟩ => ?_) ?_
    · conv => lhs; simp [go_sem, h8]
      try exact rfl
    refine RChain.quiet (.pointer (some ⟨bm, 0, none⟩)) rfl (fun a_ w hE ⟨(h9 : a_.tmps.getD 9 undef = .pointer (some ⟨bm, 0, none⟩)), _⟩ => ?_) ?_
    · conv => lhs; simp [go_sem, h9]
      try exact rfl
    refine RChain.quiet (.string a) rfl (fun a_ w hE ⟨(h10 : a_.tmps.getD 10 undef = .pointer (some ⟨bm, 0, none⟩)), _⟩ => ?_) ?_
    · conv => lhs; simp [go_sem, h10, hE.cell c0]
      try exact rfl
    refine RChain.quiet (.pointer (some ⟨bm, 0, none⟩)) rfl (fun a_ w hE ⟨(h0 : a_.tmps.getD 0 undef = .pointer (some ⟨bm, 0, none⟩)), _⟩ => ?_) ?_
    · conv => lhs; simp [go_sem, h0]
      try exact rfl
    refine RChain.quiet (.pointer (some ⟨bm, 0, none⟩)) rfl (fun a_ w hE ⟨(h12 : a_.tmps.getD 12 undef = .pointer (some ⟨bm, 0, none⟩)), _⟩ => ?_) ?_
    · conv => lhs; simp [go_sem, h12]
      try exact rfl
    refine RChain.quiet (.pointer (some ⟨bm, 0, none⟩)) rfl (fun a_ w hE ⟨(h13 : a_.tmps.getD 13 undef = .pointer (some ⟨bm, 0, none⟩)), _⟩ => ?_) ?_
    · conv => lhs; simp [go_sem, h13]
      try exact rfl
    refine RChain.quiet (.pointer (some ⟨bm, 1, none⟩)) rfl (fun a_ w hE ⟨(h14 : a_.tmps.getD 14 undef = .pointer (some ⟨bm, 0, none⟩)), _⟩ => ?_) ?_
    · conv => lhs; simp [go_sem, h14]
      try exact rfl
    refine RChain.quiet (.string b) rfl (fun a_ w hE ⟨(h15 : a_.tmps.getD 15 undef = .pointer (some ⟨bm, 1, none⟩)), _⟩ => ?_) ?_
    · conv => lhs; simp [go_sem, h15, hE.cell c1]
      try exact rfl
    refine RChain.step (fun v w => ∃ k, v = .slice (some ⟨k, 0, none⟩) 2 2 ∧ w.cell? ⟨k, 0, none⟩ = some (.string a) ∧ w.cell? ⟨k, 1, none⟩ = some (.string b)) (fun v w w' ⟨k, e, x, y⟩ hx => ⟨k, e, hx.cell x, hx.cell y⟩) rfl (fun a_ w hE ⟨(h11 : a_.tmps.getD 11 undef = .string a), (h16 : a_.tmps.getD 16 undef = .string b), _⟩ => ?_) ?_
    · refine Steps1.value (.slice (some ⟨w.heap.size, 0, none⟩) 2 2) (w.alloc (.cells #[.string a, .string b] 9)) ?_ ((Ext.refl _).alloc _) ⟨_, rfl, by simp, by simp⟩
      have h11' := h11; have h16' := h16; rw [Array.getD_eq_getD_getElem?] at h11' h16'
      conv => lhs; simp [go_sem, h11, h16, h11', h16']
      try exact rfl
    refine RChain.step (is (.bool true)) (stable_is _) rfl (fun a_ w hE ⟨⟨k, (hk : a_.tmps.getD 17 undef = _), k0, k1⟩, _⟩ => ?_) ?_
    · refine Steps1.call 27 #[.slice (some ⟨k, 0, none⟩) 2 2] ?_ ((areRight_calls k 2 a b w k0 k1).mono fun e w' ⟨he, hx⟩ => ⟨_, by rw [he, HOK], hx, rfl⟩)
      conv => lhs; simp [go_sem, hk]
      try exact rfl
    refine RChain.quiet (.bool false) rfl (fun a_ w hE ⟨(h18 : a_.tmps.getD 18 undef = .bool true), _⟩ => ?_) ?_
    · conv => lhs; simp [go_sem, h18]
      try exact rfl
    refine RChain.quiet (.bool false) rfl (fun a_ w hE ⟨(h19 : a_.tmps.getD 19 undef = .bool false), _⟩ => ?_) ?_
    · conv => lhs; simp [go_sem, h19]
      try exact rfl
    refine RChain.on (.pointer (some ⟨bm, 0, none⟩)) rfl rfl rfl (fun a w ⟨hg, _⟩ => hg) (fun a_ w hE ⟨(h20 : a_.tmps.getD 20 undef = .bool false), (h0 : a_.tmps.getD 0 undef = .pointer (some ⟨bm, 0, none⟩)), _⟩ => ?_) ?_
    · conv => lhs; simp [go_sem, h20, h0]
      try exact rfl
    refine RChain.on (.pointer (some ⟨bm, 0, none⟩)) rfl rfl rfl (fun a w ⟨hg, _⟩ => hg) (fun a_ w hE ⟨(h20 : a_.tmps.getD 20 undef = .bool false), (h21 : a_.tmps.getD 21 undef = .pointer (some ⟨bm, 0, none⟩)), _⟩ => ?_) ?_
    · conv => lhs; simp [go_sem, h20, h21]
      try exact rfl
    refine RChain.on (.pointer (some ⟨bm, 0, none⟩)) rfl rfl rfl (fun a w ⟨hg, _⟩ => hg) (fun a_ w hE ⟨(h20 : a_.tmps.getD 20 undef = .bool false), (h22 : a_.tmps.getD 22 undef = .pointer (some ⟨bm, 0, none⟩)), _⟩ => ?_) ?_
    · conv => lhs; simp [go_sem, h20, h22]
      try exact rfl
    refine RChain.on (.pointer (some ⟨bm, 0, none⟩)) rfl rfl rfl (fun a w ⟨hg, _⟩ => hg) (fun a_ w hE ⟨(h20 : a_.tmps.getD 20 undef = .bool false), (h23 : a_.tmps.getD 23 undef = .pointer (some ⟨bm, 0, none⟩)), _⟩ => ?_) ?_
    · conv => lhs; simp [go_sem, h20, h23]
      try exact rfl
    refine RChain.on (.string a) rfl rfl rfl (fun a w ⟨hg, _⟩ => hg) (fun a_ w hE ⟨(h20 : a_.tmps.getD 20 undef = .bool false), (h24 : a_.tmps.getD 24 undef = .pointer (some ⟨bm, 0, none⟩)), _⟩ => ?_) ?_
    · conv => lhs; simp [go_sem, h20, h24, hE.cell c0]
      try exact rfl
    refine RChain.on (.bool false) rfl rfl rfl (fun a w ⟨hg, _⟩ => hg) (fun a_ w hE ⟨(h20 : a_.tmps.getD 20 undef = .bool false), (h25 : a_.tmps.getD 25 undef = .string a), _⟩ => ?_) ?_
    · conv => lhs; simp [go_sem, h20, h25, na]
      try exact rfl
    refine RChain.on (.bool false) rfl rfl rfl (fun a w ⟨hg, _⟩ => hg) (fun a_ w hE ⟨(h20 : a_.tmps.getD 20 undef = .bool false), (h26 : a_.tmps.getD 26 undef = .bool false), _⟩ => ?_) ?_
    · conv => lhs; simp [go_sem, h20, h26]
      try exact rfl
    refine RChain.off rfl rfl rfl (fun a w ⟨hg, _⟩ => hg) ?_
    refine RChain.off rfl rfl rfl (fun a w ⟨hg, _⟩ => hg) ?_
    refine RChain.off rfl rfl rfl (fun a w ⟨hg, _⟩ => hg) ?_
    refine RChain.off rfl rfl rfl (fun a w ⟨hg, _⟩ => hg) ?_
    refine RChain.off rfl rfl rfl (fun a w ⟨hg, _⟩ => hg) ?_
    refine RChain.off rfl rfl rfl (fun a w ⟨hg, _⟩ => hg) ?_
    refine RChain.on (.bool false) rfl rfl rfl (fun a w ⟨hg, _⟩ => hg) (fun a_ w hE ⟨(h20 : a_.tmps.getD 20 undef = .bool false), (h27 : a_.tmps.getD 27 undef = .bool false), (h33 : a_.tmps.getD 33 undef = undef), _⟩ => ?_) ?_
    · conv => lhs; simp [go_sem, h20, h27, h33]
      try exact rfl
    refine RChain.on (.bool false) rfl rfl rfl (fun a w ⟨hg, _⟩ => hg) (fun a_ w hE ⟨(h20 : a_.tmps.getD 20 undef = .bool false), (h34 : a_.tmps.getD 34 undef = .bool false), _⟩ => ?_) ?_
    · conv => lhs; simp [go_sem, h20, h34]
      try exact rfl
    refine RChain.off rfl rfl rfl (fun a w ⟨hg, _⟩ => hg) ?_
    refine RChain.off rfl rfl rfl (fun a w ⟨hg, _⟩ => hg) ?_
    refine RChain.off rfl rfl rfl (fun a w ⟨hg, _⟩ => hg) ?_
    refine RChain.off rfl rfl rfl (fun a w ⟨hg, _⟩ => hg) ?_
    refine RChain.off rfl rfl rfl (fun a w ⟨hg, _⟩ => hg) ?_
    refine RChain.off rfl rfl rfl (fun a w ⟨hg, _⟩ => hg) ?_
    refine RChain.off rfl rfl rfl (fun a w ⟨hg, _⟩ => hg) ?_
    refine RChain.off rfl rfl rfl (fun a w ⟨hg, _⟩ => hg) ?_
    refine RChain.off rfl rfl rfl (fun a w ⟨hg, _⟩ => hg) ?_
    refine RChain.off rfl rfl rfl (fun a w ⟨hg, _⟩ => hg) ?_
    refine RChain.off rfl rfl rfl (fun a w ⟨hg, _⟩ => hg) ?_
    refine RChain.off rfl rfl rfl (fun a w ⟨hg, _⟩ => hg) ?_
    refine RChain.on (.bool false) rfl rfl rfl (fun a w ⟨hg, _⟩ => hg) (fun a_ w hE ⟨(h20 : a_.tmps.getD 20 undef = .bool false), (h35 : a_.tmps.getD 35 undef = .bool false), (h47 : a_.tmps.getD 47 undef = undef), _⟩ => ?_) ?_
    · conv => lhs; simp [go_sem, h20, h35, h47]
      try exact rfl
    refine RChain.quiet (.bool false) rfl (fun a_ w hE ⟨(h20 : a_.tmps.getD 20 undef = .bool false), (h48 : a_.tmps.getD 48 undef = .bool false), _⟩ => ?_) ?_
    · conv => lhs; simp [go_sem, h20, h48]
      try exact rfl
    refine RChain.nil (fun w1 hE1 => ?_)
    refine endAll_cons (fun v0 (hv : v0 = .pointer (some ⟨bm, 0, none⟩)) => ?_)
    subst hv
    refine endAll_cons (fun v1 (hv : v1 = .pointer (some ⟨bm, 0, none⟩)) => ?_)
    subst hv
    refine endAll_cons (fun v2 (hv : v2 = .pointer (some ⟨bm, 0, none⟩)) => ?_)
    subst hv
    refine endAll_cons (fun v3 (hv : v3 = .pointer (some ⟨bm, 0, none⟩)) => ?_)
    subst hv
    refine endAll_cons (fun v4 (hv : v4 = .string a) => ?_)
    subst hv
    refine endAll_cons (fun v5 (hv : v5 = .pointer (some ⟨bm, 0, none⟩)) => ?_)
    subst hv
    refine endAll_cons (fun v6 (hv : v6 = .pointer (some ⟨bm, 0, none⟩)) => ?_)
    subst hv
    refine endAll_cons (fun v7 (hv : v7 = .pointer (some ⟨bm, 0, none⟩)) => ?_)
    subst hv
    refine endAll_cons (fun v8 (hv : v8 = .pointer (some ⟨bm, 1, none⟩)) => ?_)
    subst hv
    refine endAll_cons (fun v9 (hv : v9 = .string b) => ?_)
    subst hv
    refine endAll_cons (fun v10 hv => ?_)
    obtain ⟨k, rfl, _, _⟩ := hv
    refine endAll_cons (fun v11 (hv : v11 = .bool true) => ?_)
    subst hv
    refine endAll_cons (fun v12 (hv : v12 = .bool false) => ?_)
    subst hv
    refine endAll_cons (fun v13 (hv : v13 = .bool false) => ?_)
    subst hv
    refine endAll_cons (fun v14 (hv : v14 = .pointer (some ⟨bm, 0, none⟩)) => ?_)
    subst hv
    refine endAll_cons (fun v15 (hv : v15 = .pointer (some ⟨bm, 0, none⟩)) => ?_)
    subst hv
    refine endAll_cons (fun v16 (hv : v16 = .pointer (some ⟨bm, 0, none⟩)) => ?_)
    subst hv
    refine endAll_cons (fun v17 (hv : v17 = .pointer (some ⟨bm, 0, none⟩)) => ?_)
    subst hv
    refine endAll_cons (fun v18 (hv : v18 = .string a) => ?_)
    subst hv
    refine endAll_cons (fun v19 (hv : v19 = .bool false) => ?_)
    subst hv
    refine endAll_cons (fun v20 (hv : v20 = .bool false) => ?_)
    subst hv
    refine endAll_cons (fun v21 (hv : v21 = undef) => ?_)
    subst hv
    refine endAll_cons (fun v22 (hv : v22 = undef) => ?_)
    subst hv
    refine endAll_cons (fun v23 (hv : v23 = undef) => ?_)
    subst hv
    refine endAll_cons (fun v24 (hv : v24 = undef) => ?_)
    subst hv
    refine endAll_cons (fun v25 (hv : v25 = undef) => ?_)
    subst hv
    refine endAll_cons (fun v26 (hv : v26 = undef) => ?_)
    subst hv
    refine endAll_cons (fun v27 (hv : v27 = .bool false) => ?_)
    subst hv
    refine endAll_cons (fun v28 (hv : v28 = .bool false) => ?_)
    subst hv
    refine endAll_cons (fun v29 (hv : v29 = undef) => ?_)
    subst hv
    refine endAll_cons (fun v30 (hv : v30 = undef) => ?_)
    subst hv
    refine endAll_cons (fun v31 (hv : v31 = undef) => ?_)
    subst hv
    refine endAll_cons (fun v32 (hv : v32 = undef) => ?_)
    subst hv
    refine endAll_cons (fun v33 (hv : v33 = undef) => ?_)
    subst hv
    refine endAll_cons (fun v34 (hv : v34 = undef) => ?_)
    subst hv
    refine endAll_cons (fun v35 (hv : v35 = undef) => ?_)
    subst hv
    refine endAll_cons (fun v36 (hv : v36 = undef) => ?_)
    subst hv
    refine endAll_cons (fun v37 (hv : v37 = undef) => ?_)
    subst hv
    refine endAll_cons (fun v38 (hv : v38 = undef) => ?_)
    subst hv
    refine endAll_cons (fun v39 (hv : v39 = undef) => ?_)
    subst hv
    refine endAll_cons (fun v40 (hv : v40 = undef) => ?_)
    subst hv
    refine endAll_cons (fun v41 (hv : v41 = .bool false) => ?_)
    subst hv
    refine endAll_cons (fun v42 (hv : v42 = .bool false) => ?_)
    subst hv
    refine endAll_at { tmps := List.toArray (.pointer (some ⟨bm, 0, none⟩) :: undef :: .string { data := #[] } :: .nilIface :: undef :: undef :: undef :: .pointer (some ⟨bm, 0, none⟩) :: .pointer (some ⟨bm, 0, none⟩) :: .pointer (some ⟨bm, 0, none⟩) :: .pointer (some ⟨bm, 0, none⟩) :: .string a :: .pointer (some ⟨bm, 0, none⟩) :: .pointer (some ⟨bm, 0, none⟩) :: .pointer (some ⟨bm, 0, none⟩) :: .pointer (some ⟨bm, 1, none⟩) :: .string b :: .slice (some ⟨k, 0, none⟩) 2 2 :: .bool true :: .bool false :: .bool false :: .pointer (some ⟨bm, 0, none⟩) :: .pointer (some ⟨bm, 0, none⟩) :: .pointer (some ⟨bm, 0, none⟩) :: .pointer (some ⟨bm, 0, none⟩) :: .string a :: .bool false :: .bool false :: undef :: undef :: undef :: undef :: undef :: undef :: .bool false :: .bool false :: undef :: undef :: undef :: undef :: undef :: undef :: undef :: undef :: undef :: undef :: undef :: undef :: .bool false :: .bool false :: undef :: undef :: undef :: undef :: undef :: undef :: undef :: undef :: undef :: undef :: undef :: undef :: undef :: undef :: undef :: undef :: undef :: undef :: undef :: undef :: undef :: undef :: undef :: undef :: undef :: undef :: undef :: undef :: undef :: []), defers := [] } (by kernel_rfl) ?_
    refine hK _ _ ?_
    refine wp_cond_false rfl ?_
    refine wp_skip ?_
    exact tail _ undef undef undef undef (.pointer (some ⟨bm, 0, none⟩)) (.pointer (some ⟨bm, 0, none⟩)) (.pointer (some ⟨bm, 0, none⟩)) (.pointer (some ⟨bm, 0, none⟩)) (.string a) (.pointer (some ⟨bm, 0, none⟩)) (.pointer (some ⟨bm, 0, none⟩)) (.pointer (some ⟨bm, 0, none⟩)) (.pointer (some ⟨bm, 1, none⟩)) (.string b) (.slice (some ⟨k, 0, none⟩) 2 2) (.bool true) (.bool false) (.bool false) (.pointer (some ⟨bm, 0, none⟩)) (.pointer (some ⟨bm, 0, none⟩)) (.pointer (some ⟨bm, 0, none⟩)) (.pointer (some ⟨bm, 0, none⟩)) (.string a) (.bool false) (.bool false) undef undef undef undef undef undef (.bool false) (.bool false) undef undef undef undef undef undef undef undef undef undef undef undef (.bool false) (.bool false) undef undef undef undef undef undef undef undef undef undef undef undef undef undef undef undef undef undef undef undef undef undef undef undef undef undef undef undef undef hE1
  · by_cases eb : b.size = 0
    · have na := empty_false ea
      have nb : b.toList.isEmpty = true := (nil_iff b).2 eb
      refine region_r T20_1 ?_ ?_ ?_ ?_ ?_
      · kernel_rfl
      · kernel_rfl
      · kernel_rfl
      · kernel_rfl
      refine RChain.quiet (.pointer (some ⟨bm, 0, none⟩)) rfl (fun a_ w hE ⟨(h0 : a_.tmps.getD 0 undef = .pointer (some ⟨bm, 0, none⟩)), _⟩ => ?_) ?_
      · conv => lhs; simp [go_sem, h0]
        try exact rfl
      refine RChain.quiet (.pointer (some ⟨bm, 0, none⟩)) rfl (fun a_ w hE ⟨(h7 : a_.tmps.getD 7 undef = .pointer (some ⟨bm, 0, none⟩)), _⟩ => ?_) ?_
      · conv => lhs; simp [go_sem, h7]
        try exact rfl
      refine RChain.quiet (.pointer (some ⟨bm, 0, none⟩)) rfl (fun a_ w hE ⟨(h8 : a_.tmps.getD 8 undef = .pointer (some ⟨bm, 0, none⟩)), _⟩ => ?_) ?_
      · conv => lhs; simp [go_sem, h8]
        try exact rfl
      refine RChain.quiet (.pointer (some ⟨bm, 0, none⟩)) rfl (fun a_ w hE ⟨(h9 : a_.tmps.getD 9 undef = .pointer (some ⟨bm, 0, none⟩)), _⟩ => ?_) ?_
      · conv => lhs; simp [go_sem, h9]
        try exact rfl
      refine RChain.quiet (.string a) rfl (fun a_ w hE ⟨(h10 : a_.tmps.getD 10 undef = .pointer (some ⟨bm, 0, none⟩)), _⟩ => ?_) ?_
      · conv => lhs; simp [go_sem, h10, hE.cell c0]
        try exact rfl
      refine RChain.quiet (.pointer (some ⟨bm, 0, none⟩)) rfl (fun a_ w hE ⟨(h0 : a_.tmps.getD 0 undef = .pointer (some ⟨bm, 0, none⟩)), _⟩ => ?_) ?_
      · conv => lhs; simp [go_sem, h0]
        try exact rfl
      refine RChain.quiet (.pointer (some ⟨bm, 0, none⟩)) rfl (fun a_ w hE ⟨(h12 : a_.tmps.getD 12 undef = .pointer (some ⟨bm, 0, none⟩)), _⟩ => ?_) ?_
      · conv => lhs; simp [go_sem, h12]
        try exact rfl
      refine RChain.quiet (.pointer (some ⟨bm, 0, none⟩)) rfl (fun a_ w hE ⟨(h13 : a_.tmps.getD 13 undef = .pointer (some ⟨bm, 0, none⟩)), _⟩ => ?_) ?_
      · conv => lhs; simp [go_sem, h13]
        try exact rfl
      refine RChain.quiet (.pointer (some ⟨bm, 1, none⟩)) rfl (fun a_ w hE ⟨(h14 : a_.tmps.getD 14 undef = .pointer (some ⟨bm, 0, none⟩)), _⟩ => ?_) ?_
      · conv => lhs; simp [go_sem, h14]
        try exact rfl
      refine RChain.quiet (.string b) rfl (fun a_ w hE ⟨(h15 : a_.tmps.getD 15 undef = .pointer (some ⟨bm, 1, none⟩)), _⟩ => ?_) ?_
      · conv => lhs; simp [go_sem, h15, hE.cell c1]
        try exact rfl
      refine RChain.step (fun v w => ∃ k, v = .slice (some ⟨k, 0, none⟩) 2 2 ∧ w.cell? ⟨k, 0, none⟩ = some (.string a) ∧ w.cell? ⟨k, 1, none⟩ = some (.string b)) (fun v w w' ⟨k, e, x, y⟩ hx => ⟨k, e, hx.cell x, hx.cell y⟩) rfl (fun a_ w hE ⟨(h11 : a_.tmps.getD 11 undef = .string a), (h16 : a_.tmps.getD 16 undef = .string b), _⟩ => ?_) ?_
      · refine Steps1.value (.slice (some ⟨w.heap.size, 0, none⟩) 2 2) (w.alloc (.cells #[.string a, .string b] 9)) ?_ ((Ext.refl _).alloc _) ⟨_, rfl, by simp, by simp⟩
        have h11' := h11; have h16' := h16; rw [Array.getD_eq_getD_getElem?] at h11' h16'
        conv => lhs; simp [go_sem, h11, h16, h11', h16']
        try exact rfl
      refine RChain.step (is (.bool true)) (stable_is _) rfl (fun a_ w hE ⟨⟨k, (hk : a_.tmps.getD 17 undef = _), k0, k1⟩, _⟩ => ?_) ?_
      · refine Steps1.call 27 #[.slice (some ⟨k, 0, none⟩) 2 2] ?_ ((areRight_calls k 2 a b w k0 k1).mono fun e w' ⟨he, hx⟩ => ⟨_, by rw [he, HOK], hx, rfl⟩)
        conv => lhs; simp [go_sem, hk]
        try exact rfl
      refine RChain.quiet (.bool false) rfl (fun a_ w hE ⟨(h18 : a_.tmps.getD 18 undef = .bool true), _⟩ => ?_) ?_
      · conv => lhs; simp [go_sem, h18]
        try exact rfl
      refine RChain.quiet (.bool false) rfl (fun a_ w hE ⟨(h19 : a_.tmps.getD 19 undef = .bool false), _⟩ => ?_) ?_
      · conv => lhs; simp [go_sem, h19]
        try exact rfl
      refine RChain.on (.pointer (some ⟨bm, 0, none⟩)) rfl rfl rfl (fun a w ⟨hg, _⟩ => hg) (fun a_ w hE ⟨(h20 : a_.tmps.getD 20 undef = .bool false), (h0 : a_.tmps.getD 0 undef = .pointer (some ⟨bm, 0, none⟩)), _⟩ => ?_) ?_
      · conv => lhs; simp [go_sem, h20, h0]
        try exact rfl
      refine RChain.on (.pointer (some ⟨bm, 0, none⟩)) rfl rfl rfl (fun a w ⟨hg, _⟩ => hg) (fun a_ w hE ⟨(h20 : a_.tmps.getD 20 undef = .bool false), (h21 : a_.tmps.getD 21 undef = .pointer (some ⟨bm, 0, none⟩)), _⟩ => ?_) ?_
      · conv => lhs; simp [go_sem, h20, h21]
        try exact rfl
      refine RChain.on (.pointer (some ⟨bm, 0, none⟩)) rfl rfl rfl (fun a w ⟨hg, _⟩ => hg) (fun a_ w hE ⟨(h20 : a_.tmps.getD 20 undef = .bool false), (h22 : a_.tmps.getD 22 undef = .pointer (some ⟨bm, 0, none⟩)), _⟩ => ?_) ?_
      · conv => lhs; simp [go_sem, h20, h22]
        try exact rfl
      refine RChain.on (.pointer (some ⟨bm, 0, none⟩)) rfl rfl rfl (fun a w ⟨hg, _⟩ => hg) (fun a_ w hE ⟨(h20 : a_.tmps.getD 20 undef = .bool false), (h23 : a_.tmps.getD 23 undef = .pointer (some ⟨bm, 0, none⟩)), _⟩ => ?_) ?_
      · conv => lhs; simp [go_sem, h20, h23]
        try exact rfl
      refine RChain.on (.string a) rfl rfl rfl (fun a w ⟨hg, _⟩ => hg) (fun a_ w hE ⟨(h20 : a_.tmps.getD 20 undef = .bool false), (h24 : a_.tmps.getD 24 undef = .pointer (some ⟨bm, 0, none⟩)), _⟩ => ?_) ?_
      · conv => lhs; simp [go_sem, h20, h24, hE.cell c0]
        try exact rfl
      refine RChain.on (.bool true) rfl rfl rfl (fun a w ⟨hg, _⟩ => hg) (fun a_ w hE ⟨(h20 : a_.tmps.getD 20 undef = .bool false), (h25 : a_.tmps.getD 25 undef = .string a), _⟩ => ?_) ?_
      · conv => lhs; simp [go_sem, h20, h25, na]
        try exact rfl
      refine RChain.on (.bool true) rfl rfl rfl (fun a w ⟨hg, _⟩ => hg) (fun a_ w hE ⟨(h20 : a_.tmps.getD 20 undef = .bool false), (h26 : a_.tmps.getD 26 undef = .bool true), _⟩ => ?_) ?_
      · conv => lhs; simp [go_sem, h20, h26]
        try exact rfl
      refine RChain.on (.pointer (some ⟨bm, 0, none⟩)) rfl rfl rfl (fun a w ⟨hg, _⟩ => hg) (fun a_ w hE ⟨(h27 : a_.tmps.getD 27 undef = .bool true), (h0 : a_.tmps.getD 0 undef = .pointer (some ⟨bm, 0, none⟩)), _⟩ => ?_) ?_
      · conv => lhs; simp [go_sem, h27, h0]
        try exact rfl
      refine RChain.on (.pointer (some ⟨bm, 0, none⟩)) rfl rfl rfl (fun a w ⟨hg, _⟩ => hg) (fun a_ w hE ⟨(h27 : a_.tmps.getD 27 undef = .bool true), (h28 : a_.tmps.getD 28 undef = .pointer (some ⟨bm, 0, none⟩)), _⟩ => ?_) ?_
      · conv => lhs; simp [go_sem, h27, h28]
        try exact rfl
      refine RChain.on (.pointer (some ⟨bm, 0, none⟩)) rfl rfl rfl (fun a w ⟨hg, _⟩ => hg) (fun a_ w hE ⟨(h27 : a_.tmps.getD 27 undef = .bool true), (h29 : a_.tmps.getD 29 undef = .pointer (some ⟨bm, 0, none⟩)), _⟩ => ?_) ?_
      · conv => lhs; simp [go_sem, h27, h29]
        try exact rfl
      refine RChain.on (.pointer (some ⟨bm, 1, none⟩)) rfl rfl rfl (fun a w ⟨hg, _⟩ => hg) (fun a_ w hE ⟨(h27 : a_.tmps.getD 27 undef = .bool true), (h30 : a_.tmps.getD 30 undef = .pointer (some ⟨bm, 0, none⟩)), _⟩ => ?_) ?_
      · conv => lhs; simp [go_sem, h27, h30]
        try exact rfl
      refine RChain.on (.string b) rfl rfl rfl (fun a w ⟨hg, _⟩ => hg) (fun a_ w hE ⟨(h27 : a_.tmps.getD 27 undef = .bool true), (h31 : a_.tmps.getD 31 undef = .pointer (some ⟨bm, 1, none⟩)), _⟩ => ?_) ?_
      · conv => lhs; simp [go_sem, h27, h31, hE.cell c1]
        try exact rfl
      refine RChain.on (.bool false) rfl rfl rfl (fun a w ⟨hg, _⟩ => hg) (fun a_ w hE ⟨(h27 : a_.tmps.getD 27 undef = .bool true), (h32 : a_.tmps.getD 32 undef = .string b), _⟩ => ?_) ?_
      · conv => lhs; simp [go_sem, h27, h32, nb]
        try exact rfl
      refine RChain.on (.bool false) rfl rfl rfl (fun a w ⟨hg, _⟩ => hg) (fun a_ w hE ⟨(h20 : a_.tmps.getD 20 undef = .bool false), (h27 : a_.tmps.getD 27 undef = .bool true), (h33 : a_.tmps.getD 33 undef = .bool false), _⟩ => ?_) ?_
      · conv => lhs; simp [go_sem, h20, h27, h33]
        try exact rfl
      refine RChain.on (.bool false) rfl rfl rfl (fun a w ⟨hg, _⟩ => hg) (fun a_ w hE ⟨(h20 : a_.tmps.getD 20 undef = .bool false), (h34 : a_.tmps.getD 34 undef = .bool false), _⟩ => ?_) ?_
      · conv => lhs; simp [go_sem, h20, h34]
        try exact rfl
      refine RChain.off rfl rfl rfl (fun a w ⟨hg, _⟩ => hg) ?_
      refine RChain.off rfl rfl rfl (fun a w ⟨hg, _⟩ => hg) ?_
      refine RChain.off rfl rfl rfl (fun a w ⟨hg, _⟩ => hg) ?_
      refine RChain.off rfl rfl rfl (fun a w ⟨hg, _⟩ => hg) ?_
      refine RChain.off rfl rfl rfl (fun a w ⟨hg, _⟩ => hg) ?_
      refine RChain.off rfl rfl rfl (fun a w ⟨hg, _⟩ => hg) ?_
      refine RChain.off rfl rfl rfl (fun a w ⟨hg, _⟩ => hg) ?_
      refine RChain.off rfl rfl rfl (fun a w ⟨hg, _⟩ => hg) ?_
      refine RChain.off rfl rfl rfl (fun a w ⟨hg, _⟩ => hg) ?_
      refine RChain.off rfl rfl rfl (fun a w ⟨hg, _⟩ => hg) ?_
      refine RChain.off rfl rfl rfl (fun a w ⟨hg, _⟩ => hg) ?_
      refine RChain.off rfl rfl rfl (fun a w ⟨hg, _⟩ => hg) ?_
      refine RChain.on (.bool false) rfl rfl rfl (fun a w ⟨hg, _⟩ => hg) (fun a_ w hE ⟨(h20 : a_.tmps.getD 20 undef = .bool false), (h35 : a_.tmps.getD 35 undef = .bool false), (h47 : a_.tmps.getD 47 undef = undef), _⟩ => ?_) ?_
      · conv => lhs; simp [go_sem, h20, h35, h47]
        try exact rfl
      refine RChain.quiet (.bool false) rfl (fun a_ w hE ⟨(h20 : a_.tmps.getD 20 undef = .bool false), (h48 : a_.tmps.getD 48 undef = .bool false), _⟩ => ?_) ?_
      · conv => lhs; simp [go_sem, h20, h48]
        try exact rfl
      refine RChain.nil (fun w1 hE1 => ?_)
      refine endAll_cons (fun v0 (hv : v0 = .pointer (some ⟨bm, 0, none⟩)) => ?_)
      subst hv
      refine endAll_cons (fun v1 (hv : v1 = .pointer (some ⟨bm, 0, none⟩)) => ?_)
      subst hv
      refine endAll_cons (fun v2 (hv : v2 = .pointer (some ⟨bm, 0, none⟩)) => ?_)
      subst hv
      refine endAll_cons (fun v3 (hv : v3 = .pointer (some ⟨bm, 0, none⟩)) => ?_)
      subst hv
      refine endAll_cons (fun v4 (hv : v4 = .string a) => ?_)
      subst hv
      refine endAll_cons (fun v5 (hv : v5 = .pointer (some ⟨bm, 0, none⟩)) => ?_)
      subst hv
      refine endAll_cons (fun v6 (hv : v6 = .pointer (some ⟨bm, 0, none⟩)) => ?_)
      subst hv
      refine endAll_cons (fun v7 (hv : v7 = .pointer (some ⟨bm, 0, none⟩)) => ?_)
      subst hv
      refine endAll_cons (fun v8 (hv : v8 = .pointer (some ⟨bm, 1, none⟩)) => ?_)
      subst hv
      refine endAll_cons (fun v9 (hv : v9 = .string b) => ?_)
      subst hv
      refine endAll_cons (fun v10 hv => ?_)
      obtain ⟨k, rfl, _, _⟩ := hv
      refine endAll_cons (fun v11 (hv : v11 = .bool true) => ?_)
      subst hv
      refine endAll_cons (fun v12 (hv : v12 = .bool false) => ?_)
      subst hv
      refine endAll_cons (fun v13 (hv : v13 = .bool false) => ?_)
      subst hv
      refine endAll_cons (fun v14 (hv : v14 = .pointer (some ⟨bm, 0, none⟩)) => ?_)
      subst hv
      refine endAll_cons (fun v15 (hv : v15 = .pointer (some ⟨bm, 0, none⟩)) => ?_)
      subst hv
      refine endAll_cons (fun v16 (hv : v16 = .pointer (some ⟨bm, 0, none⟩)) => ?_)
      subst hv
      refine endAll_cons (fun v17 (hv : v17 = .pointer (some ⟨bm, 0, none⟩)) => ?_)
      subst hv
      refine endAll_cons (fun v18 (hv : v18 = .string a) => ?_)
      subst hv
      refine endAll_cons (fun v19 (hv : v19 = .bool true) => ?_)
      subst hv
      refine endAll_cons (fun v20 (hv : v20 = .bool true) => ?_)
      subst hv
      refine endAll_cons (fun v21 (hv : v21 = .pointer (some ⟨bm, 0, none⟩)) => ?_)
      subst hv
      refine endAll_cons (fun v22 (hv : v22 = .pointer (some ⟨bm, 0, none⟩)) => ?_)
      subst hv
      refine endAll_cons (fun v23 (hv : v23 = .pointer (some ⟨bm, 0, none⟩)) => ?_)
      subst hv
      refine endAll_cons (fun v24 (hv : v24 = .pointer (some ⟨bm, 1, none⟩)) => ?_)
      subst hv
      refine endAll_cons (fun v25 (hv : v25 = .string b) => ?_)
      subst hv
      refine endAll_cons (fun v26 (hv : v26 = .bool false) => ?_)
      subst hv
      refine endAll_cons (fun v27 (hv : v27 = .bool false) => ?_)
      subst hv
      refine endAll_cons (fun v28 (hv : v28 = .bool false) => ?_)
      subst hv
      refine endAll_cons (fun v29 (hv : v29 = undef) => ?_)
      subst hv
      refine endAll_cons (fun v30 (hv : v30 = undef) => ?_)
      subst hv
      refine endAll_cons (fun v31 (hv : v31 = undef) => ?_)
      subst hv
      refine endAll_cons (fun v32 (hv : v32 = undef) => ?_)
      subst hv
      refine endAll_cons (fun v33 (hv : v33 = undef) => ?_)
      subst hv
      refine endAll_cons (fun v34 (hv : v34 = undef) => ?_)
      subst hv
      refine endAll_cons (fun v35 (hv : v35 = undef) => ?_)
      subst hv
      refine endAll_cons (fun v36 (hv : v36 = undef) => ?_)
      subst hv
      refine endAll_cons (fun v37 (hv : v37 = undef) => ?_)
      subst hv
      refine endAll_cons (fun v38 (hv : v38 = undef) => ?_)
      subst hv
      refine endAll_cons (fun v39 (hv : v39 = undef) => ?_)
      subst hv
      refine endAll_cons (fun v40 (hv : v40 = undef) => ?_)
      subst hv
      refine endAll_cons (fun v41 (hv : v41 = .bool false) => ?_)
      subst hv
      refine endAll_cons (fun v42 (hv : v42 = .bool false) => ?_)
      subst hv
      refine endAll_at { tmps := List.toArray (.pointer (some ⟨bm, 0, none⟩) :: undef :: .string { data := #[] } :: .nilIface :: undef :: undef :: undef :: .pointer (some ⟨bm, 0, none⟩) :: .pointer (some ⟨bm, 0, none⟩) :: .pointer (some ⟨bm, 0, none⟩) :: .pointer (some ⟨bm, 0, none⟩) :: .string a :: .pointer (some ⟨bm, 0, none⟩) :: .pointer (some ⟨bm, 0, none⟩) :: .pointer (some ⟨bm, 0, none⟩) :: .pointer (some ⟨bm, 1, none⟩) :: .string b :: .slice (some ⟨k, 0, none⟩) 2 2 :: .bool true :: .bool false :: .bool false :: .pointer (some ⟨bm, 0, none⟩) :: .pointer (some ⟨bm, 0, none⟩) :: .pointer (some ⟨bm, 0, none⟩) :: .pointer (some ⟨bm, 0, none⟩) :: .string a :: .bool true :: .bool true :: .pointer (some ⟨bm, 0, none⟩) :: .pointer (some ⟨bm, 0, none⟩) :: .pointer (some ⟨bm, 0, none⟩) :: .pointer (some ⟨bm, 1, none⟩) :: .string b :: .bool false :: .bool false :: .bool false :: undef :: undef :: undef :: undef :: undef :: undef :: undef :: undef :: undef :: undef :: undef :: undef :: .bool false :: .bool false :: undef :: undef :: undef :: undef :: undef :: undef :: undef :: undef :: undef :: undef :: undef :: undef :: undef :: undef :: undef :: undef :: undef :: undef :: undef :: undef :: undef :: undef :: undef :: undef :: undef :: undef :: undef :: undef :: undef :: []), defers := [] } (by kernel_rfl) ?_
      refine hK _ _ ?_
      refine wp_cond_false rfl ?_
      refine wp_skip ?_
      exact tail _ undef undef undef undef (.pointer (some ⟨bm, 0, none⟩)) (.pointer (some ⟨bm, 0, none⟩)) (.pointer (some ⟨bm, 0, none⟩)) (.pointer (some ⟨bm, 0, none⟩)) (.string a) (.pointer (some ⟨bm, 0, none⟩)) (.pointer (some ⟨bm, 0, none⟩)) (.pointer (some ⟨bm, 0, none⟩)) (.pointer (some ⟨bm, 1, none⟩)) (.string b) (.slice (some ⟨k, 0, none⟩) 2 2) (.bool true) (.bool false) (.bool false) (.pointer (some ⟨bm, 0, none⟩)) (.pointer (some ⟨bm, 0, none⟩)) (.pointer (some ⟨bm, 0, none⟩)) (.pointer (some ⟨bm, 0, none⟩)) (.string a) (.bool true) (.bool true) (.pointer (some ⟨bm, 0, none⟩)) (.pointer (some ⟨bm, 0, none⟩)) (.pointer (some ⟨bm, 0, none⟩)) (.pointer (some ⟨bm, 1, none⟩)) (.string b) (.bool false) (.bool false) (.bool false) undef undef undef undef undef undef undef undef undef undef undef undef (.bool false) (.bool false) undef undef undef undef undef undef undef undef undef undef undef undef undef undef undef undef undef undef undef undef undef undef undef undef undef undef undef undef undef hE1
    · have HL := HL ea eb
      have na := empty_false ea
      have nb := empty_false eb
      refine region_r T20_1 ?_ ?_ ?_ ?_ ?_
      · kernel_rfl
      · kernel_rfl
      · kernel_rfl
      · kernel_rfl
      refine RChain.quiet (.pointer (some ⟨bm, 0, none⟩)) rfl (fun a_ w hE ⟨(h0 : a_.tmps.getD 0 undef = .pointer (some ⟨bm, 0, none⟩)), _⟩ => ?_) ?_
      · conv => lhs; simp [go_sem, h0]
        try exact rfl
      refine RChain.quiet (.pointer (some ⟨bm, 0, none⟩)) rfl (fun a_ w hE ⟨(h7 : a_.tmps.getD 7 undef = .pointer (some ⟨bm, 0, none⟩)), _⟩ => ?_) ?_
      · conv => lhs; simp [go_sem, h7]
        try exact rfl
      refine RChain.quiet (.pointer (some ⟨bm, 0, none⟩)) rfl (fun a_ w hE ⟨(h8 : a_.tmps.getD 8 undef = .pointer (some ⟨bm, 0, none⟩)), _⟩ => ?_) ?_
      · conv => lhs; simp [go_sem, h8]
        try exact rfl
      refine RChain.quiet (.pointer (some ⟨bm, 0, none⟩)) rfl (fun a_ w hE ⟨(h9 : a_.tmps.getD 9 undef = .pointer (some ⟨bm, 0, none⟩)), _⟩ => ?_) ?_
      · conv => lhs; simp [go_sem, h9]
        try exact rfl
      refine RChain.quiet (.string a) rfl (fun a_ w hE ⟨(h10 : a_.tmps.getD 10 undef = .pointer (some ⟨bm, 0, none⟩)), _⟩ => ?_) ?_
      · conv => lhs; simp [go_sem, h10, hE.cell c0]
        try exact rfl
      refine RChain.quiet (.pointer (some ⟨bm, 0, none⟩)) rfl (fun a_ w hE ⟨(h0 : a_.tmps.getD 0 undef = .pointer (some ⟨bm, 0, none⟩)), _⟩ => ?_) ?_
      · conv => lhs; simp [go_sem, h0]
        try exact rfl
      refine RChain.quiet (.pointer (some ⟨bm, 0, none⟩)) rfl (fun a_ w hE ⟨(h12 : a_.tmps.getD 12 undef = .pointer (some ⟨bm, 0, none⟩)), _⟩ => ?_) ?_
      · conv => lhs; simp [go_sem, h12]
        try exact rfl
      refine RChain.quiet (.pointer (some ⟨bm, 0, none⟩)) rfl (fun a_ w hE ⟨(h13 : a_.tmps.getD 13 undef = .pointer (some ⟨bm, 0, none⟩)), _⟩ => ?_) ?_
      · conv => lhs; simp [go_sem, h13]
        try exact rfl
      refine RChain.quiet (.pointer (some ⟨bm, 1, none⟩)) rfl (fun a_ w hE ⟨(h14 : a_.tmps.getD 14 undef = .pointer (some ⟨bm, 0, none⟩)), _⟩ => ?_) ?_
      · conv => lhs; simp [go_sem, h14]
        try exact rfl
      refine RChain.quiet (.string b) rfl (fun a_ w hE ⟨(h15 : a_.tmps.getD 15 undef = .pointer (some ⟨bm, 1, none⟩)), _⟩ => ?_) ?_
      · conv => lhs; simp [go_sem, h15, hE.cell c1]
        try exact rfl
      refine RChain.step (fun v w => ∃ k, v = .slice (some ⟨k, 0, none⟩) 2 2 ∧ w.cell? ⟨k, 0, none⟩ = some (.string a) ∧ w.cell? ⟨k, 1, none⟩ = some (.string b)) (fun v w w' ⟨k, e, x, y⟩ hx => ⟨k, e, hx.cell x, hx.cell y⟩) rfl (fun a_ w hE ⟨(h11 : a_.tmps.getD 11 undef = .string a), (h16 : a_.tmps.getD 16 undef = .string b), _⟩ => ?_) ?_
      · refine Steps1.value (.slice (some ⟨w.heap.size, 0, none⟩) 2 2) (w.alloc (.cells #[.string a, .string b] 9)) ?_ ((Ext.refl _).alloc _) ⟨_, rfl, by simp, by simp⟩
        have h11' := h11; have h16' := h16; rw [Array.getD_eq_getD_getElem?] at h11' h16'
        conv => lhs; simp [go_sem, h11, h16, h11', h16']
        try exact rfl
      refine RChain.step (is (.bool true)) (stable_is _) rfl (fun a_ w hE ⟨⟨k, (hk : a_.tmps.getD 17 undef = _), k0, k1⟩, _⟩ => ?_) ?_
      · refine Steps1.call 27 #[.slice (some ⟨k, 0, none⟩) 2 2] ?_ ((areRight_calls k 2 a b w k0 k1).mono fun e w' ⟨he, hx⟩ => ⟨_, by rw [he, HOK], hx, rfl⟩)
        conv => lhs; simp [go_sem, hk]
        try exact rfl
      refine RChain.quiet (.bool false) rfl (fun a_ w hE ⟨(h18 : a_.tmps.getD 18 undef = .bool true), _⟩ => ?_) ?_
      · conv => lhs; simp [go_sem, h18]
        try exact rfl
      refine RChain.quiet (.bool false) rfl (fun a_ w hE ⟨(h19 : a_.tmps.getD 19 undef = .bool false), _⟩ => ?_) ?_
      · conv => lhs; simp [go_sem, h19]
        try exact rfl
      refine RChain.on (.pointer (some ⟨bm, 0, none⟩)) rfl rfl rfl (fun a w ⟨hg, _⟩ => hg) (fun a_ w hE ⟨(h20 : a_.tmps.getD 20 undef = .bool false), (h0 : a_.tmps.getD 0 undef = .pointer (some ⟨bm, 0, none⟩)), _⟩ => ?_) ?_
      · conv => lhs; simp [go_sem, h20, h0]
        try exact rfl
      refine RChain.on (.pointer (some ⟨bm, 0, none⟩)) rfl rfl rfl (fun a w ⟨hg, _⟩ => hg) (fun a_ w hE ⟨(h20 : a_.tmps.getD 20 undef = .bool false), (h21 : a_.tmps.getD 21 undef = .pointer (some ⟨bm, 0, none⟩)), _⟩ => ?_) ?_
      · conv => lhs; simp [go_sem, h20, h21]
        try exact rfl
      refine RChain.on (.pointer (some ⟨bm, 0, none⟩)) rfl rfl rfl (fun a w ⟨hg, _⟩ => hg) (fun a_ w hE ⟨(h20 : a_.tmps.getD 20 undef = .bool false), (h22 : a_.tmps.getD 22 undef = .pointer (some ⟨bm, 0, none⟩)), _⟩ => ?_) ?_
      · conv => lhs; simp [go_sem, h20, h22]
        try exact rfl
      refine RChain.on (.pointer (some ⟨bm, 0, none⟩)) rfl rfl rfl (fun a w ⟨hg, _⟩ => hg) (fun a_ w hE ⟨(h20 : a_.tmps.getD 20 undef = .bool false), (h23 : a_.tmps.getD 23 undef = .pointer (some ⟨bm, 0, none⟩)), _⟩ => ?_) ?_
      · conv => lhs; simp [go_sem, h20, h23]
        try exact rfl
      refine RChain.on (.string a) rfl rfl rfl (fun a w ⟨hg, _⟩ => hg) (fun a_ w hE ⟨(h20 : a_.tmps.getD 20 undef = .bool false), (h24 : a_.tmps.getD 24 undef = .pointer (some ⟨bm, 0, none⟩)), _⟩ => ?_) ?_
      · conv => lhs; simp [go_sem, h20, h24, hE.cell c0]
        try exact rfl
      refine RChain.on (.bool true) rfl rfl rfl (fun a w ⟨hg, _⟩ => hg) (fun a_ w hE ⟨(h20 : a_.tmps.getD 20 undef = .bool false), (h25 : a_.tmps.getD 25 undef = .string a), _⟩ => ?_) ?_
      · conv => lhs; simp [go_sem, h20, h25, na]
        try exact rfl
      refine RChain.on (.bool true) rfl rfl rfl (fun a w ⟨hg, _⟩ => hg) (fun a_ w hE ⟨(h20 : a_.tmps.getD 20 undef = .bool false), (h26 : a_.tmps.getD 26 undef = .bool true), _⟩ => ?_) ?_
      · conv => lhs; simp [go_sem, h20, h26]
        try exact rfl
      refine RChain.on (.pointer (some ⟨bm, 0, none⟩)) rfl rfl rfl (fun a w ⟨hg, _⟩ => hg) (fun a_ w hE ⟨(h27 : a_.tmps.getD 27 undef = .bool true), (h0 : a_.tmps.getD 0 undef = .pointer (some ⟨bm, 0, none⟩)), _⟩ => ?_) ?_
      · conv => lhs; simp [go_sem, h27, h0]
        try exact rfl
      refine RChain.on (.pointer (some ⟨bm, 0, none⟩)) rfl rfl rfl (fun a w ⟨hg, _⟩ => hg) (fun a_ w hE ⟨(h27 : a_.tmps.getD 27 undef = .bool true), (h28 : a_.tmps.getD 28 undef = .pointer (some ⟨bm, 0, none⟩)), _⟩ => ?_) ?_
      · conv => lhs; simp [go_sem, h27, h28]
        try exact rfl
      refine RChain.on (.pointer (some ⟨bm, 0, none⟩)) rfl rfl rfl (fun a w ⟨hg, _⟩ => hg) (fun a_ w hE ⟨(h27 : a_.tmps.getD 27 undef = .bool true), (h29 : a_.tmps.getD 29 undef = .pointer (some ⟨bm, 0, none⟩)), _⟩ => ?_) ?_
      · conv => lhs; simp [go_sem, h27, h29]
        try exact rfl
      refine RChain.on (.pointer (some ⟨bm, 1, none⟩)) rfl rfl rfl (fun a w ⟨hg, _⟩ => hg) (fun a_ w hE ⟨(h27 : a_.tmps.getD 27 undef = .bool true), (h30 : a_.tmps.getD 30 undef = .pointer (some ⟨bm, 0, none⟩)), _⟩ => ?_) ?_
      · conv => lhs; simp [go_sem, h27, h30]
        try exact rfl
      refine RChain.on (.string b) rfl rfl rfl (fun a w ⟨hg, _⟩ => hg) (fun a_ w hE ⟨(h27 : a_.tmps.getD 27 undef = .bool true), (h31 : a_.tmps.getD 31 undef = .pointer (some ⟨bm, 1, none⟩)), _⟩ => ?_) ?_
      · conv => lhs; simp [go_sem, h27, h31, hE.cell c1]
        try exact rfl
      refine RChain.on (.bool true) rfl rfl rfl (fun a w ⟨hg, _⟩ => hg) (fun a_ w hE ⟨(h27 : a_.tmps.getD 27 undef = .bool true), (h32 : a_.tmps.getD 32 undef = .string b), _⟩ => ?_) ?_
      · conv => lhs; simp [go_sem, h27, h32, nb]
        try exact rfl
      refine RChain.on (.bool true) rfl rfl rfl (fun a w ⟨hg, _⟩ => hg) (fun a_ w hE ⟨(h20 : a_.tmps.getD 20 undef = .bool false), (h27 : a_.tmps.getD 27 undef = .bool true), (h33 : a_.tmps.getD 33 undef = .bool true), _⟩ => ?_) ?_
      · conv => lhs; simp [go_sem, h20, h27, h33]
        try exact rfl
      refine RChain.on (.bool true) rfl rfl rfl (fun a w ⟨hg, _⟩ => hg) (fun a_ w hE ⟨(h20 : a_.tmps.getD 20 undef = .bool false), (h34 : a_.tmps.getD 34 undef = .bool true), _⟩ => ?_) ?_
      · conv => lhs; simp [go_sem, h20, h34]
        try exact rfl
      refine RChain.on (.pointer (some ⟨bm, 0, none⟩)) rfl rfl rfl (fun a w ⟨hg, _⟩ => hg) (fun a_ w hE ⟨(h35 : a_.tmps.getD 35 undef = .bool true), (h0 : a_.tmps.getD 0 undef = .pointer (some ⟨bm, 0, none⟩)), _⟩ => ?_) ?_
      · conv => lhs; simp [go_sem, h35, h0]
        try exact rfl
      refine RChain.on (.pointer (some ⟨bm, 0, none⟩)) rfl rfl rfl (fun a w ⟨hg, _⟩ => hg) (fun a_ w hE ⟨(h35 : a_.tmps.getD 35 undef = .bool true), (h36 : a_.tmps.getD 36 undef = .pointer (some ⟨bm, 0, none⟩)), _⟩ => ?_) ?_
      · conv => lhs; simp [go_sem, h35, h36]
        try exact rfl
      refine RChain.on (.pointer (some ⟨bm, 0, none⟩)) rfl rfl rfl (fun a w ⟨hg, _⟩ => hg) (fun a_ w hE ⟨(h35 : a_.tmps.getD 35 undef = .bool true), (h37 : a_.tmps.getD 37 undef = .pointer (some ⟨bm, 0, none⟩)), _⟩ => ?_) ?_
      · conv => lhs; simp [go_sem, h35, h37]
        try exact rfl
      refine RChain.on (.pointer (some ⟨bm, 0, none⟩)) rfl rfl rfl (fun a w ⟨hg, _⟩ => hg) (fun a_ w hE ⟨(h35 : a_.tmps.getD 35 undef = .bool true), (h38 : a_.tmps.getD 38 undef = .pointer (some ⟨bm, 0, none⟩)), _⟩ => ?_) ?_
      · conv => lhs; simp [go_sem, h35, h38]
        try exact rfl
      refine RChain.on (.string a) rfl rfl rfl (fun a w ⟨hg, _⟩ => hg) (fun a_ w hE ⟨(h35 : a_.tmps.getD 35 undef = .bool true), (h39 : a_.tmps.getD 39 undef = .pointer (some ⟨bm, 0, none⟩)), _⟩ => ?_) ?_
      · conv => lhs; simp [go_sem, h35, h39, hE.cell c0]
        try exact rfl
      refine RChain.on (.pointer (some ⟨bm, 0, none⟩)) rfl rfl rfl (fun a w ⟨hg, _⟩ => hg) (fun a_ w hE ⟨(h35 : a_.tmps.getD 35 undef = .bool true), (h0 : a_.tmps.getD 0 undef = .pointer (some ⟨bm, 0, none⟩)), _⟩ => ?_) ?_
      · conv => lhs; simp [go_sem, h35, h0]
        try exact rfl
      refine RChain.on (.pointer (some ⟨bm, 0, none⟩)) rfl rfl rfl (fun a w ⟨hg, _⟩ => hg) (fun a_ w hE ⟨(h35 : a_.tmps.getD 35 undef = .bool true), (h41 : a_.tmps.getD 41 undef = .pointer (some ⟨bm, 0, none⟩)), _⟩ => ?_) ?_
      · conv => lhs; simp [go_sem, h35, h41]
        try exact rfl
      refine RChain.on (.pointer (some ⟨bm, 0, none⟩)) rfl rfl rfl (fun a w ⟨hg, _⟩ => hg) (fun a_ w hE ⟨(h35 : a_.tmps.getD 35 undef = .bool true), (h42 : a_.tmps.getD 42 undef = .pointer (some ⟨bm, 0, none⟩)), _⟩ => ?_) ?_
      · conv => lhs; simp [go_sem, h35, h42]
        try exact rfl
      refine RChain.on (.pointer (some ⟨bm, 1, none⟩)) rfl rfl rfl (fun a w ⟨hg, _⟩ => hg) (fun a_ w hE ⟨(h35 : a_.tmps.getD 35 undef = .bool true), (h43 : a_.tmps.getD 43 undef = .pointer (some ⟨bm, 0, none⟩)), _⟩ => ?_) ?_
      · conv => lhs; simp [go_sem, h35, h43]
        try exact rfl
      refine RChain.on (.string b) rfl rfl rfl (fun a w ⟨hg, _⟩ => hg) (fun a_ w hE ⟨(h35 : a_.tmps.getD 35 undef = .bool true), (h44 : a_.tmps.getD 44 undef = .pointer (some ⟨bm, 1, none⟩)), _⟩ => ?_) ?_
      · conv => lhs; simp [go_sem, h35, h44, hE.cell c1]
        try exact rfl
      refine RChain.stepG true (is (.bool true)) (stable_is _) rfl rfl rfl (fun a w ⟨hg, _⟩ => hg) (fun a_ w hE ⟨(h35 : a_.tmps.getD 35 undef = .bool true), (h40 : a_.tmps.getD 40 undef = .string a), (h45 : a_.tmps.getD 45 undef = .string b), _⟩ => ⟨fun _ => ?_, fun e => (e rfl).elim⟩) ?_
      · refine Steps1.call 15 #[.string a, .string b] ?_ ((less_calls a b w).mono fun e w' ⟨he, hx⟩ => ⟨_, by rw [he, HL], hx ▸ Ext.refl _, rfl⟩)
        conv => lhs; simp [go_sem, h35, h40, h45]
        try exact rfl
      refine RChain.on (.bool false) rfl rfl rfl (fun a w ⟨hg, _⟩ => hg) (fun a_ w hE ⟨(h35 : a_.tmps.getD 35 undef = .bool true), (h46 : a_.tmps.getD 46 undef = .bool true), _⟩ => ?_) ?_
      · conv => lhs; simp [go_sem, h35, h46]
        try exact rfl
      refine RChain.on (.bool false) rfl rfl rfl (fun a w ⟨hg, _⟩ => hg) (fun a_ w hE ⟨(h20 : a_.tmps.getD 20 undef = .bool false), (h35 : a_.tmps.getD 35 undef = .bool true), (h47 : a_.tmps.getD 47 undef = .bool false), _⟩ => ?_) ?_
      · conv => lhs; simp [go_sem, h20, h35, h47]
        try exact rfl
      refine RChain.quiet (.bool false) rfl (fun a_ w hE ⟨(h20 : a_.tmps.getD 20 undef = .bool false), (h48 : a_.tmps.getD 48 undef = .bool false), _⟩ => ?_) ?_
      · conv => lhs; simp [go_sem, h20, h48]
        try exact rfl
      refine RChain.nil (fun w1 hE1 => ?_)
      refine endAll_cons (fun v0 (hv : v0 = .pointer (some ⟨bm, 0, none⟩)) => ?_)
      subst hv
      refine endAll_cons (fun v1 (hv : v1 = .pointer (some ⟨bm, 0, none⟩)) => ?_)
      subst hv
      refine endAll_cons (fun v2 (hv : v2 = .pointer (some ⟨bm, 0, none⟩)) => ?_)
      subst hv
      refine endAll_cons (fun v3 (hv : v3 = .pointer (some ⟨bm, 0, none⟩)) => ?_)
      subst hv
      refine endAll_cons (fun v4 (hv : v4 = .string a) => ?_)
      subst hv
      refine endAll_cons (fun v5 (hv : v5 = .pointer (some ⟨bm, 0, none⟩)) => ?_)
      subst hv
      refine endAll_cons (fun v6 (hv : v6 = .pointer (some ⟨bm, 0, none⟩)) => ?_)
      subst hv
      refine endAll_cons (fun v7 (hv : v7 = .pointer (some ⟨bm, 0, none⟩)) => ?_)
      subst hv
      refine endAll_cons (fun v8 (hv : v8 = .pointer (some ⟨bm, 1, none⟩)) => ?_)
      subst hv
      refine endAll_cons (fun v9 (hv : v9 = .string b) => ?_)
      subst hv
      refine endAll_cons (fun v10 hv => ?_)
      obtain ⟨k, rfl, _, _⟩ := hv
      refine endAll_cons (fun v11 (hv : v11 = .bool true) => ?_)
      subst hv
      refine endAll_cons (fun v12 (hv : v12 = .bool false) => ?_)
      subst hv
      refine endAll_cons (fun v13 (hv : v13 = .bool false) => ?_)
      subst hv
      refine endAll_cons (fun v14 (hv : v14 = .pointer (some ⟨bm, 0, none⟩)) => ?_)
      subst hv
      refine endAll_cons (fun v15 (hv : v15 = .pointer (some ⟨bm, 0, none⟩)) => ?_)
      subst hv
      refine endAll_cons (fun v16 (hv : v16 = .pointer (some ⟨bm, 0, none⟩)) => ?_)
      subst hv
      refine endAll_cons (fun v17 (hv : v17 = .pointer (some ⟨bm, 0, none⟩)) => ?_)
      subst hv
      refine endAll_cons (fun v18 (hv : v18 = .string a) => ?_)
      subst hv
      refine endAll_cons (fun v19 (hv : v19 = .bool true) => ?_)
      subst hv
      refine endAll_cons (fun v20 (hv : v20 = .bool true) => ?_)
      subst hv
      refine endAll_cons (fun v21 (hv : v21 = .pointer (some ⟨bm, 0, none⟩)) => ?_)
      subst hv
      refine endAll_cons (fun v22 (hv : v22 = .pointer (some ⟨bm, 0, none⟩)) => ?_)
      subst hv
      refine endAll_cons (fun v23 (hv : v23 = .pointer (some ⟨bm, 0, none⟩)) => ?_)
      subst hv
      refine endAll_cons (fun v24 (hv : v24 = .pointer (some ⟨bm, 1, none⟩)) => ?_)
      subst hv
      refine endAll_cons (fun v25 (hv : v25 = .string b) => ?_)
      subst hv
      refine endAll_cons (fun v26 (hv : v26 = .bool true) => ?_)
      subst hv
      refine endAll_cons (fun v27 (hv : v27 = .bool true) => ?_)
      subst hv
      refine endAll_cons (fun v28 (hv : v28 = .bool true) => ?_)
      subst hv
      refine endAll_cons (fun v29 (hv : v29 = .pointer (some ⟨bm, 0, none⟩)) => ?_)
      subst hv
      refine endAll_cons (fun v30 (hv : v30 = .pointer (some ⟨bm, 0, none⟩)) => ?_)
      subst hv
      refine endAll_cons (fun v31 (hv : v31 = .pointer (some ⟨bm, 0, none⟩)) => ?_)
      subst hv
      refine endAll_cons (fun v32 (hv : v32 = .pointer (some ⟨bm, 0, none⟩)) => ?_)
      subst hv
      refine endAll_cons (fun v33 (hv : v33 = .string a) => ?_)
      subst hv
      refine endAll_cons (fun v34 (hv : v34 = .pointer (some ⟨bm, 0, none⟩)) => ?_)
      subst hv
      refine endAll_cons (fun v35 (hv : v35 = .pointer (some ⟨bm, 0, none⟩)) => ?_)
      subst hv
      refine endAll_cons (fun v36 (hv : v36 = .pointer (some ⟨bm, 0, none⟩)) => ?_)
      subst hv
      refine endAll_cons (fun v37 (hv : v37 = .pointer (some ⟨bm, 1, none⟩)) => ?_)
      subst hv
      refine endAll_cons (fun v38 (hv : v38 = .string b) => ?_)
      subst hv
      refine endAll_cons (fun v39 (hv : v39 = .bool true) => ?_)
      subst hv
      refine endAll_cons (fun v40 (hv : v40 = .bool false) => ?_)
      subst hv
      refine endAll_cons (fun v41 (hv : v41 = .bool false) => ?_)
      subst hv
      refine endAll_cons (fun v42 (hv : v42 = .bool false) => ?_)
      subst hv
      refine endAll_at { tmps := List.toArray (.pointer (some ⟨bm, 0, none⟩) :: undef :: .string { data := #[] } :: .nilIface :: undef :: undef :: undef :: .pointer (some ⟨bm, 0, none⟩) :: .pointer (some ⟨bm, 0, none⟩) :: .pointer (some ⟨bm, 0, none⟩) :: .pointer (some ⟨bm, 0, none⟩) :: .string a :: .pointer (some ⟨bm, 0, none⟩) :: .pointer (some ⟨bm, 0, none⟩) :: .pointer (some ⟨bm, 0, none⟩) :: .pointer (some ⟨bm, 1, none⟩) :: .string b :: .slice (some ⟨k, 0, none⟩) 2 2 :: .bool true :: .bool false :: .bool false :: .pointer (some ⟨bm, 0, none⟩) :: .pointer (some ⟨bm, 0, none⟩) :: .pointer (some ⟨bm, 0, none⟩) :: .pointer (some ⟨bm, 0, none⟩) :: .string a :: .bool true :: .bool true :: .pointer (some ⟨bm, 0, none⟩) :: .pointer (some ⟨bm, 0, none⟩) :: .pointer (some ⟨bm, 0, none⟩) :: .pointer (some ⟨bm, 1, none⟩) :: .string b :: .bool true :: .bool true :: .bool true :: .pointer (some ⟨bm, 0, none⟩) :: .pointer (some ⟨bm, 0, none⟩) :: .pointer (some ⟨bm, 0, none⟩) :: .pointer (some ⟨bm, 0, none⟩) :: .string a :: .pointer (some ⟨bm, 0, none⟩) :: .pointer (some ⟨bm, 0, none⟩) :: .pointer (some ⟨bm, 0, none⟩) :: .pointer (some ⟨bm, 1, none⟩) :: .string b :: .bool true :: .bool false :: .bool false :: .bool false :: undef :: undef :: undef :: undef :: undef :: undef :: undef :: undef :: undef :: undef :: undef :: undef :: undef :: undef :: undef :: undef :: undef :: undef :: undef :: undef :: undef :: undef :: undef :: undef :: undef :: undef :: undef :: undef :: undef :: []), defers := [] } (by kernel_rfl) ?_
      refine hK _ _ ?_
      refine wp_cond_false rfl ?_
      refine wp_skip ?_
      exact tail _ undef undef undef undef (.pointer (some ⟨bm, 0, none⟩)) (.pointer (some ⟨bm, 0, none⟩)) (.pointer (some ⟨bm, 0, none⟩)) (.pointer (some ⟨bm, 0, none⟩)) (.string a) (.pointer (some ⟨bm, 0, none⟩)) (.pointer (some ⟨bm, 0, none⟩)) (.pointer (some ⟨bm, 0, none⟩)) (.pointer (some ⟨bm, 1, none⟩)) (.string b) (.slice (some ⟨k, 0, none⟩) 2 2) (.bool true) (.bool false) (.bool false) (.pointer (some ⟨bm, 0, none⟩)) (.pointer (some ⟨bm, 0, none⟩)) (.pointer (some ⟨bm, 0, none⟩)) (.pointer (some ⟨bm, 0, none⟩)) (.string a) (.bool true) (.bool true) (.pointer (some ⟨bm, 0, none⟩)) (.pointer (some ⟨bm, 0, none⟩)) (.pointer (some ⟨bm, 0, none⟩)) (.pointer (some ⟨bm, 1, none⟩)) (.string b) (.bool true) (.bool true) (.bool true) (.pointer (some ⟨bm, 0, none⟩)) (.pointer (some ⟨bm, 0, none⟩)) (.pointer (some ⟨bm, 0, none⟩)) (.pointer (some ⟨bm, 0, none⟩)) (.string a) (.pointer (some ⟨bm, 0, none⟩)) (.pointer (some ⟨bm, 0, none⟩)) (.pointer (some ⟨bm, 0, none⟩)) (.pointer (some ⟨bm, 1, none⟩)) (.string b) (.bool true) (.bool false) (.bool false) (.bool false) undef undef undef undef undef undef undef undef undef undef undef undef undef undef undef undef undef undef undef undef undef undef undef undef undef undef undef undef undef hE1
end Go.Proofs.YtemiocaiimdblaaDoor.Hand
