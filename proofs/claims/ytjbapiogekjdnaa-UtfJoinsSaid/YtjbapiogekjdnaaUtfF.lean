/- utf: all of a text's runes. -/
import Derived.Test.YtjbapiogekjdnaaUtfD
import Derived.Test.YtjbapiogekjdnaaKRange
import Derived.RangeFuncNested
import Derived.RangeFuncBound
import Derived.RangeFuncCalls
import Derived.RangeFuncLeaves
import Derived.RangeFuncBox
import Derived.Maps.AppendAt
import Derived.Laws.BytesArg
import Derived.Shelf.Abstract
import Derived.Shelf.RegionOpen
import Derived.OwnWalkIn
import Derived.TacticsInMore
import Derived.LoopNIn
import Derived.LoopIn
import Derived.WalkMore
import Derived.Deep.Cut
set_option linter.unusedVariables false
set_option linter.unusedSimpArgs false
namespace Go.Proofs.Ytjbapiogekjdnaa.Hand
open Go Go.RowKit Go.Shelf Go.Proofs.Ytjbapiogekjdnaa.K Go.Proofs.Ytjbapiogekjdnaa.PU Go.Proofs.YtjbapiogekjdnaaW.PrintWords Go.Proofs.YtjbapiogekjdnaaW.PrintLast Go.Proofs.YtjbapiogekjdnaaW.PrintMore
attribute [local go_sem] Oper.semAt_some
set_option maxRecDepth 100000
set_option maxHeartbeats 2000000
theorem decF_ok (s : ByteArray) (h : (decF s).2.2 = 0) : 1 ≤ (decF s).2.1 ∧ (decF s).2.1 ≤ s.size := by
  obtain ⟨b0, b1⟩ := bt_lt s 0
  obtain ⟨m0, m1, m2, m3⟩ := headF_b (bt s 0) b0 b1
  unfold decF at h ⊢
  by_cases h0 : s.size = 0
  · rw [if_pos h0] at h; simp at h
  · rw [if_neg h0] at h ⊢
    by_cases h1 : (headF (bt s 0)).1 < 0 ∨ (s.size : Int) ≤ (headF (bt s 0)).1
    · rw [if_pos h1] at h; simp at h
    · rw [if_neg h1] at h ⊢
      cases hf : foldR (headF (bt s 0)).2 (restL s 1 (headF (bt s 0)).1.toNat) with
      | none => rw [hf] at h; simp [decTail] at h
      | some r =>
        rw [hf] at h
        simp only [decTail] at h ⊢
        split at h
        · rename_i hc
          rw [if_pos hc]
          simp only
          omega
        · simp at h
/-- The runes that a text begins with, and what is left. -/
def allF : Nat → ByteArray → List Int × ByteArray
  | 0, s => ([], s)
  | n + 1, s => if (decF s).2.2 = 0 then ((decF s).1 :: (allF n (s.extract (decF s).2.1.toNat s.size)).1, (allF n (s.extract (decF s).2.1.toNat s.size)).2) else ([], s)
theorem allF_size (n : Nat) : ∀ s : ByteArray, (allF n s).2.size ≤ s.size := by
  induction n with
  | zero => intro s; exact Nat.le_refl _
  | succ n ih =>
    intro s
    rw [allF]
    split
    · have := ih (s.extract (decF s).2.1.toNat s.size)
      rw [ByteArray.size_extract] at this
      simp only
      omega
    · exact Nat.le_refl _
theorem allF_fuel : ∀ (n m : Nat) (s : ByteArray), s.size < n → s.size < m → allF n s = allF m s := by
  intro n
  induction n with
  | zero => intro m s h; omega
  | succ n ih =>
    intro m s h1 h2
    obtain ⟨m, rfl⟩ : ∃ k, m = k + 1 := ⟨m - 1, by omega⟩
    rw [allF, allF]
    by_cases h : (decF s).2.2 = 0
    · obtain ⟨a, b⟩ := decF_ok s h
      have hz : (s.extract (decF s).2.1.toNat s.size).size < s.size := by rw [ByteArray.size_extract]; omega
      rw [if_pos h, if_pos h, ih m _ (by omega) (by omega)]
    · rw [if_neg h, if_neg h]
def allS (s : ByteArray) : List Int × ByteArray := allF (s.size + 1) s
theorem allS_no (s : ByteArray) (h : ¬ (decF s).2.2 = 0) : allS s = ([], s) := by unfold allS; rw [allF, if_neg h]
theorem allS_ok (s : ByteArray) (h : (decF s).2.2 = 0) : allS s = ((decF s).1 :: (allS (s.extract (decF s).2.1.toNat s.size)).1, (allS (s.extract (decF s).2.1.toNat s.size)).2) := by
  obtain ⟨a, b⟩ := decF_ok s h
  have hz : (s.extract (decF s).2.1.toNat s.size).size < s.size := by rw [ByteArray.size_extract]; omega
  unfold allS
  rw [allF, if_pos h, allF_fuel s.size _ _ hz (Nat.lt_succ_self _)]
def strAt (W : World) (b : Nat) : Nat := match W.cell? ⟨b, 0, none⟩ with | some (.string s) => s.size | _ => 0
def KpR (bx bm : Nat) (W W' : World) : Prop := W'.heap[bx]? = W.heap[bx]? ∧ W'.heap[bm]? = W.heap[bm]?
def RdAt (bm : Nat) (s : ByteArray) (W : World) : Prop := W.heap[bm]? = some (.cells #[.string s] 75 (0, 0))
theorem runes1_in (m l bx bm : Nat) (s : ByteArray) (hne : ¬ bx = bm) (hs : s.size ≤ maxLen) (J Jx : List Int → World → Prop)
    (hJ : Hid (∀ s A B, J s A → Chg (· = bm) A B → J s B))
    (hY : Hid (∀ pre x W1, J pre W1 → pre.length < s.size + 1 → YieldAt Fence.wide (m - 1) Try.prog l #[.int .i64 x] W1 fun e W' => (e = .returned (.bool true) ∧ J (pre ++ [x]) W' ∧ KpR bx bm W1 W') ∨ (e = .returned (.bool false) ∧ Jx (pre ++ [x]) W')))
    (W : World) (hb : Boxed W bx 71 (.pointer (some ⟨bm, 0, none⟩))) (hr : RdAt bm s W) (h0 : J [] W) :
    CallsIn Fence.wide m Try.prog 52 #[.func (.yield l) #[] #[], .pointer (some ⟨bx, 0, none⟩)] W fun e W' => (∃ v, e = .returned v) ∧ ((∃ xs, (xs = (allS s).1 ∧ RdAt bm (allS s).2 W') ∧ J xs W') ∨ (∃ pre, True ∧ Jx pre W')) := by
  obtain ⟨L, hL⟩ : ∃ L, allS s = L := ⟨_, rfl⟩
  rw [hL]
  have HL := Lib.hid hL
  clear hL
  refine callsIn_wide.2 ?_
  go_enter Try.func52, Try.ntmps52
  go_wp2
  go_step3
  go_wp2
  go_step3
  go_wp2
  go_loopw [3] (fun _ wr => ∃ (pre : List Int) (t : ByteArray), J pre wr ∧ Boxed wr bx 71 (.pointer (some ⟨bm, 0, none⟩)) ∧ RdAt bm t wr ∧ t.size + pre.length ≤ s.size ∧ pre ++ (allS t).1 = L.1 ∧ (allS t).2 = L.2) (fun _ wr => strAt wr bm)
  case atStart => exact ⟨[], s, h0, hb, hr, by simp, by rw [HL.out]; rfl, by rw [HL.out]⟩
  case round =>
    obtain ⟨pre, t, hj, hbx, hrd, hlen, e1, e2⟩ := hrel
    have E1 := Lib.hid e1
    have E2 := Lib.hid e2
    clear e1 e2 hb hr
    have hc1 := hbx.cell
    have hc2 : wr.cell? ⟨bm, 0, none⟩ = some (.string t) := by unfold RdAt at hrd; simp [World.cell?, hrd]
    have HD := fun w => dec_calls t w (by omega)
    by_cases ok : (decF t).2.2 = 0
    · obtain ⟨n1, n2⟩ := decF_ok t ok
      have hst := allS_ok t ok
      obtain ⟨⟨r, n, e⟩, hd⟩ : ∃ x, decF t = x := ⟨_, rfl⟩
      rw [hd] at HD ok hst n1 n2
      simp only at HD ok hst n1 n2
      subst ok
      have HN := Lib.hid hst
      clear hd hst
      go_wp2_with (go_at_call 13; (with_reducible refine (HD _).mono ?_); rintro e_ w' ⟨rfl, hq⟩; have d1 := hq.cell hc1; have d2 := hq.cell hc2; have f2 : w'.frozen? ⟨bm, 0, none⟩ = false := by unfold RdAt at hrd; simp [World.frozen?, hq.heap hrd])
      go_region
      rename_i K3 hK3
      refine hK3 _ _ ?_
      clear hK3
      have hch : Chg (· = bm) wr ((w'.setCell ⟨bm, 0, none⟩ (.string (t.extract n.toNat t.size))).drew) := ((Chg.setCell (p := (· = bm)) (Chg.of_ext hq) ⟨bm, 0, none⟩ (fun _ => rfl) _).trans (Chg.of_ext ((Ext.refl _).drew)))
      have hj3 := hJ.out _ _ _ hj hch
      have hb3 : Boxed ((w'.setCell ⟨bm, 0, none⟩ (.string (t.extract n.toNat t.size))).drew) bx 71 (.pointer (some ⟨bm, 0, none⟩)) := (hch.block bx hbx.lt hne).trans hbx
      have hr3 : RdAt bm (t.extract n.toNat t.size) ((w'.setCell ⟨bm, 0, none⟩ (.string (t.extract n.toNat t.size))).drew) := by
        have hrw : RdAt bm t w' := hq.heap hrd
        exact Boxed.set (t := 75) _ hrw
      have hz : (t.extract n.toNat t.size).size < t.size := by rw [ByteArray.size_extract]; omega
      obtain ⟨W3, hW3⟩ : ∃ W3, (w'.setCell ⟨bm, 0, none⟩ (.string (t.extract n.toNat t.size))).drew = W3 := ⟨_, rfl⟩
      obtain ⟨t3, ht3⟩ : ∃ t3, t.extract n.toNat t.size = t3 := ⟨_, rfl⟩
      rw [hW3] at hj3 hb3 hr3 ⊢
      rw [ht3] at hr3 hz
      have HT := Lib.hid ht3
      clear hch hW3 ht3 d1 d2 f2
      obtain ⟨fn, tmps, assign, body, hy, hR⟩ := hY.out pre r W3 hj3 (by omega)
      refine (wpIn_wide (n := m)).1 ?_
      gi_wp2
      refine ⟨fun h => absurd h (by decide), ?_⟩
      refine hR.mono ?_
      rintro e_ W4 (⟨rfl, hj4, hk1, hk2⟩ | ⟨rfl, hj4⟩)
      · gi_wp2
        go_wp2
        go_roundw
        case rel =>
          have h1 := E1.out
          have h2 := E2.out
          rw [HN.out, HT.out] at h1 h2
          exact ⟨pre ++ [r], t3, hj4, hk1.trans hb3, hk2.trans hr3, by simp; omega, by simpa using h1, by simpa using h2⟩
        case measure =>
          have h4 : W4.cell? ⟨bm, 0, none⟩ = some (.string t3) := by have := hk2.trans hr3; simp [World.cell?, this]
          simp only [strAt, h4, hc2]
          exact hz
      · gi_wp2
        go_wp2
        rw [Exit.noGoto_normal]
        refine bodyPost_end (results_none rfl _ _ _) rfl ?_
        exact ⟨⟨_, rfl⟩, .inr ⟨_, trivial, hj4⟩⟩
    · obtain ⟨⟨r, n, e⟩, hd⟩ : ∃ x, decF t = x := ⟨_, rfl⟩
      have hno := allS_no t ok
      rw [hd] at HD ok
      simp only at HD ok
      have hx : (e != 0) = true := by simpa using ok
      have HN := Lib.hid hno
      clear hd ok hno
      go_wp2_with (go_at_call 13; (with_reducible refine (HD _).mono ?_); rintro e_ w' ⟨rfl, hq⟩)
      rw [Exit.noGoto_normal]
      refine bodyPost_end (results_none rfl _ _ _) rfl ?_
      have h1 := E1.out
      have h2 := E2.out
      rw [HN.out] at h1 h2
      refine ⟨⟨_, rfl⟩, .inl ⟨pre, ⟨by simpa using h1, ?_⟩, hJ.out _ _ _ hj (Chg.of_ext hq)⟩⟩
      rw [← h2]
      exact hq.heap hrd
theorem runes1_seq (m bx bm : Nat) (s : ByteArray) (hne : ¬ bx = bm) (hs : s.size ≤ maxLen) :
    SeqSt Fence.wide m Try.prog 52 #[.pointer (some ⟨bx, 0, none⟩)] (fun x : Int => #[.int .i64 x]) (KpR bx bm) (Chg (· = bm)) (fun W => Boxed W bx 71 (.pointer (some ⟨bm, 0, none⟩)) ∧ RdAt bm s W) (fun xs W => xs = (allS s).1 ∧ RdAt bm (allS s).2 W) (fun _ _ => True) (s.size + 1) := by
  intro l J Jx hJ hJx hY W ⟨hb, hr⟩ h0
  exact runes1_in m l bx bm s hne hs J Jx (Lib.hid hJ) (Lib.hid hY) W hb hr h0
theorem runes_calls (p : Option Addr) (w : World) : Calls Try.prog 47 #[.pointer p] w fun e w' => e = .returned (.func (.func 52) #[] #[.pointer (some ⟨w.heap.size, 0, none⟩)]) ∧ w' = w.alloc (.cells #[.pointer p] 71) := by
  go_enter Try.func47, Try.ntmps47
  go_wp2
  go_ret
  exact ⟨rfl, rfl⟩
theorem info3 : (Try.prog.info? 3).map (fun i => (i.zero, i.size, i.bytes)) = some (some (.int .i64 0), 1, 8) := by kernel_rfl
def AllR (s : ByteArray) (w : World) (e : Ending) (w' : World) : Prop := ∃ v : Value, e = .returned (.tuple #[v, .int .i64 ((allS s).2.size : Int)]) ∧ w'.ownsRow w.heap.size 3 1 v (allS s).1.length ((allS s).1.map (Value.int .i64)) ∧ Ext w w'
theorem all_calls (s : ByteArray) (w : World) (hs : s.size ≤ 1000000000000) : Calls Try.prog 40 #[.string s] w (AllR s w) := by
  obtain ⟨i0, hi, hz0, hz1, hz2⟩ := info_parts info3
  obtain ⟨L, hL⟩ : ∃ L, allS s = L := ⟨_, rfl⟩
  have hseq := fun m bx bm (hne : ¬ bx = bm) => runes1_seq m bx bm s hne (by unfold maxLen; omega)
  unfold AllR
  rw [hL] at hseq ⊢
  clear hL
  refine (callsIn_wide (n := 9)).1 ?_
  refine callsIn_of_wp_marks Try.func40 rfl trivial ?_ rfl
  simp only [Try.ntmps40, List.size_toArray, List.length_cons, List.length_nil, Nat.reduceAdd, Nat.reduceSub, Array.replicate_succ, Array.replicate_zero, List.push_toArray, List.append_toArray, List.nil_append, List.cons_append]
  refine wpIn_wide.2 ?_
  go_wp2_with (go_at_call 47; refine (runes_calls _ _).mono ?_; rintro e w' ⟨rfl, rfl⟩)
  obtain ⟨W0, hW0⟩ : ∃ W0, ((w.alloc (.cells #[.string s] 75)).alloc (.cells #[.slice none 0 0] 63)).alloc (.cells #[.pointer (some ⟨w.heap.size, 0, none⟩)] 71) = W0 := ⟨_, rfl⟩
  have hB0 : Below w.heap.size w W0 := hW0 ▸ (((Ext.refl w).alloc _).alloc _).alloc _ |>.out
  have hsz : W0.heap.size = w.heap.size + 3 := by rw [← hW0]; simp
  have bM : RdAt w.heap.size s W0 := hW0 ▸ (((Boxed.new w 75 (.string s)).alloc _).alloc _ : Boxed _ _ _ _)
  have bO : Boxed W0 (w.heap.size + 1) 63 (.slice none 0 0) := by
    have := (Boxed.new (w.alloc (.cells #[.string s] 75)) 63 (.slice none 0 0)).alloc (.cells #[.pointer (some ⟨w.heap.size, 0, none⟩)] 71)
    rw [World.size_alloc, hW0] at this
    exact this
  have bX : Boxed W0 (w.heap.size + 1 + 1) 71 (.pointer (some ⟨w.heap.size, 0, none⟩)) := by
    have := Boxed.new ((w.alloc (.cells #[.string s] 75)).alloc (.cells #[.slice none 0 0] 63)) 71 (.pointer (some ⟨w.heap.size, 0, none⟩))
    rw [World.size_alloc, World.size_alloc, hW0] at this
    exact this
  rw [hW0]
  clear hW0
  refine (wpIn_wide (n := 9)).1 ?_
  refine wpIn_rangeFunc_st rfl (by omega) (gf := 52) (lb := #[.pointer (some ⟨w.heap.size + 1 + 1, 0, none⟩)]) rfl trivial (enters_of Try.func52 (by kernel_rfl) rfl) (hseq 8 (w.heap.size + 1 + 1) w.heap.size (by omega)) (fun h k => ⟨k.1.trans h.1, k.2.trans h.2⟩)
    (fun W l o o' hl ho h1 h2 => ⟨World.putObj_heap_other (by omega), World.putObj_heap_other (by omega)⟩) (fun A B k o hab hk ho _ => (hab.block k (Array.getElem?_eq_some_iff.1 ho).1 (by omega)).trans ho)
    (fun o o' => ⟨(bX.alloc _).alloc _, ((show Boxed W0 w.heap.size 75 (.string s) from bM).alloc _).alloc _⟩) (fun _ => rfl)
    (fun xs A B row hs hg hr => ⟨hs.1, (hg.block _ (Array.getElem?_eq_some_iff.1 hs.2).1 (fun e => by have := (hr _ e.symm).1; omega)).trans hs.2⟩) (fun _ _ _ _ _ _ _ => trivial)
    (fun (pre : List Int) W => ((∃ v, Boxed W (w.heap.size + 1) 63 v ∧ W.ownsRow (w.heap.size + 1) 3 1 v pre.length (pre.map (Value.int .i64)) ∧ (v = .slice none 0 0 ↔ pre = [])) ∧ Boxed W (w.heap.size + 1 + 1) 71 (.pointer (some ⟨w.heap.size, 0, none⟩))) ∧ Below w.heap.size w W)
    (fun _ _ _ => False)
    (OwnFrom.and (OwnFrom.and (Own.from (holdsRow_own (β := List Int) (w.heap.size + 1) (w.heap.size + 1) 63 3 1 (fun pre => pre.length) (fun pre => pre.map (Value.int .i64)) (fun pre v => v = .slice none 0 0 ↔ pre = [])) _) (Own.from (boxed_own _ _ _) _)) (ownFrom_below (Nat.le_refl _) (by omega)))
    (fun _ _ _ _ _ hs _ _ => hs) ?iA (fun _ _ _ _ hs _ => hs)
    ⟨⟨⟨_, bO, World.ownsRow_nil _ _ _ _, by simp⟩, bX⟩, hB0⟩
    (fun x => { tmps := #[.string s, undef, .slice none 0 0, .int .i64 0, .pointer (some ⟨w.heap.size, 0, none⟩), .pointer (some ⟨w.heap.size + 1, 0, none⟩), .int .i64 x, .string s, .agg #[.string s], .agg #[.string s], .pointer (some ⟨w.heap.size, 0, none⟩), .pointer (some ⟨w.heap.size, 0, none⟩), .func (.func 52) #[] #[.pointer (some ⟨w.heap.size + 1 + 1, 0, none⟩)], .int .i64 x, undef, undef, undef, undef, undef, undef, undef, undef, undef, undef, undef], defers := [] }) ?assign ?body ?done ?stop
  case iA =>
    rintro pre A B ⟨⟨⟨v, hv, hrow, hnil⟩, hx⟩, hB⟩ hab
    refine ⟨⟨⟨v, (hab.block _ hv.lt (by omega)).trans hv, own_move hrow (fun k hk => hab.block k (own_lt hrow k hk) (by have := own_base hrow k hk; omega)), hnil⟩, (hab.block _ hx.lt (by omega)).trans hx⟩, ?_⟩
    exact ⟨hab.os.trans hB.os, hab.tape.trans hB.tape, hab.output.trans hB.output, Nat.le_trans hB.size hab.size, fun k hk => (hab.block k (Nat.lt_of_lt_of_le hk hB.size) (by omega)).trans (hB.block k hk)⟩
  case assign =>
    intro l x W K hK
    gi_wp2
    exact hK
  case body =>
    rintro l pre x W ⟨⟨⟨v, hv, hrow, hnil⟩, hbx⟩, hB⟩ hlt
    have hc := hv.cell
    have hvs := hv.lt
    gi_wp2_with (gi_at_builtin; refine wpListIn_append_own _ rfl _ _ 63 rfl (w.heap.size + 1) 3 i0 (.int .i64 0) 1 8 Try.underlying63 hi hz0 hz1 hz2 rfl (by decide) v pre.length _ rfl (hrow.alloc _) ⟨W.heap.size, 0, none⟩ 1 1 [.int .i64 x] rfl rfl (cell_one_new _ _ _) (by simp [Value.oneCell']) (by unfold maxLen; omega) (by omega) (by simp; omega) ?_)
    intro v' w1 hown' hgrow _
    obtain ⟨g', cap', rfl⟩ := ownsRow_succ hown'
    obtain ⟨hv1, hv2, hr2, hk2, hb2⟩ := hv.appended (by decide) hrow (Nat.le_of_lt hvs) (Nat.le_refl _) hown' hgrow
    have hc1 := hv1.cell
    have hf1 := hv1.frozen
    gi_wp2
    have hbn1 : Boxed w1 (w.heap.size + 1 + 1) 71 (.pointer (some ⟨w.heap.size, 0, none⟩)) := (hbx.alloc _).kept hgrow (hbx.not_row (by decide) hrow)
    have hbn2 := (Below.heap_setCell w1 ⟨w.heap.size + 1, 0, none⟩ (Value.slice (some ⟨g', 0, none⟩) (pre.length + 1) cap') (w.heap.size + 1 + 1) (by simp)).trans hbn1
    exact ⟨hk2.from _, ⟨hbn2.trans hbx.symm, hb2.block _ (by omega)⟩, ⟨⟨_, hv2, by simpa using hr2, by simp⟩, hbn2⟩, hB.trans (hb2.mono (by omega))⟩
  case done =>
    rintro D ys W hD ⟨hys, hrd⟩ ⟨⟨⟨v, hv, hrow, hnil⟩, hbx⟩, hB⟩ hK2
    have hc := hv.cell
    have hc2 : W.cell? ⟨w.heap.size, 0, none⟩ = some (.string L.2) := by unfold RdAt at hrd; simp [World.cell?, hrd]
    obtain rfl := hys
    go_wp2
    go_region
    rename_i K3 hK3
    refine hK3 _ _ ?_
    clear hK3
    go_wp2
    refine ⟨by simp, .inl ⟨_, _, rfl, run_takeDeferred ((Ext.refl W).drew.heap hK2), ?_⟩⟩
    refine ⟨_, results_tmp2 rfl _ _ _, ?_⟩
    have hD2 := (Ext.refl W).drew
    refine ⟨v, rfl, ownsRow_putObj (o := .deferred (some [])) (own_move (own_weaken hrow (by omega)) fun k hk => hD2.block k (own_lt hrow k hk)) _ (hD2.heap hK2) rfl, Ext.below ?_⟩
    exact hB.trans ((hD2.out.mono hB.size).trans (belowK_b (w := w) (Nat.le_refl _) W.drew D _ _ (by omega) (hD2.heap hK2) rfl rfl))
  case stop =>
    rintro D c pre W _ _ h _
    exact h.elim
end Go.Proofs.Ytjbapiogekjdnaa.Hand
