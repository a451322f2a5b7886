/- utf: the plain law: Decode and Encode one to one; texts put together; the order of bytes; names and texts by the reference; each function's contract at what it tells. -/
import Derived.Test.YtjbapiogekjdnaaUtfP
set_option linter.unusedVariables false
set_option linter.unusedSimpArgs false
namespace Go.Proofs.Ytjbapiogekjdnaa.Hand
open Go Go.RowKit Go.Proofs.Ytjbapiogekjdnaa.K Go.Proofs.Ytjbapiogekjdnaa.PU Go.Proofs.YtjbapiogekjdnaaW.PrintWords Go.Proofs.YtjbapiogekjdnaaW.PrintLast Go.Proofs.YtjbapiogekjdnaaW.PrintMore
set_option maxRecDepth 100000
set_option maxHeartbeats 1000000
theorem dec_core (s : ByteArray) (q : Nat) (hq : (headF (bt s 0)).1 = (q : Int)) (hql : q < s.size) : refEnd s (q + 1) (refR (headF (bt s 0)).2 (restL s 1 q)) = some (decTail (q : Int) (foldR (headF (bt s 0)).2 (restL s 1 q))) := by
  obtain ⟨b0, b1⟩ := bt_lt s 0
  obtain ⟨c, hc⟩ : ∃ c, bt s 0 = c := ⟨_, rfl⟩
  have hc' : bt s ((0 : Nat) : Int) = c := hc
  rw [hc] at b0 b1 hq ⊢
  obtain ⟨m0, m1, m2, m3⟩ := headF_b c b0 b1
  have hr0 : (headF c).2 = if q = 0 then c else if q = 1 then c - 192 else if q = 2 then c - 224 else c - 240 := by
    unfold headF at hq ⊢
    repeat' split at hq
    all_goals (dsimp only at hq ⊢)
    all_goals (repeat' split)
    all_goals omega
  have hcq : (q = 0 → c < 128) ∧ (q = 1 → 192 ≤ c ∧ c < 224) ∧ (q = 2 → 224 ≤ c ∧ c < 240) ∧ (q = 3 → 240 ≤ c ∧ c < 248) := by
    unfold headF at hq
    repeat' split at hq
    all_goals (dsimp only at hq; omega)
  have hq4 : q = 0 ∨ q = 1 ∨ q = 2 ∨ q = 3 := by omega
  rcases hq4 with rfl | rfl | rfl | rfl
  · rw [if_pos rfl] at hr0
    rw [hr0]
    refine end_eq s 0 _ _ hql (fun x h => by simpa [restL, foldR, refR] using h.symm) (fun hr => ?_)
    have h1 : encL c = [c] := by unfold encL; rw [if_pos (hcq.1 rfl)]
    simp [restL, foldR, refR, h1, hc]
  · rw [if_neg (by decide), if_pos rfl] at hr0
    rw [hr0]
    obtain ⟨d0, d1⟩ := bt_lt s ((1 : Nat) : Int)
    obtain ⟨d, hd'⟩ : ∃ d, bt s ((1 : Nat) : Int) = d := ⟨_, rfl⟩
    rw [hd'] at d0 d1
    have hn := num1 (c - 192) d (by have := (hcq.2.1 rfl); omega) (by have := (hcq.2.1 rfl); omega) d0 d1
    rw [show 192 + (c - 192) = c from by omega] at hn
    simp only [restL, refR, foldR, hd', hc', Nat.zero_add, Nat.reduceAdd] at hn ⊢
    by_cases h2 : d / 64 = 2
    · rw [if_pos h2, show (c - 192) * 64 + d % 64 = 64 * (c - 192) + d % 64 from by omega]
      refine end_eq s 1 _ _ hql (fun x h => (Option.some.inj h).symm) (fun hr => ?_)
      simp only [restL, hd', hc', Nat.zero_add, Nat.reduceAdd]
      rw [hn]
      simp [h2]
      omega
    · rw [if_neg h2]
      refine end_eq s 1 _ _ hql (fun x h => by cases h) (fun hr => ?_)
      simp only [restL, hd', hc', Nat.zero_add, Nat.reduceAdd]
      rw [hn]
      simp [h2]
  · rw [if_neg (by decide), if_neg (by decide), if_pos rfl] at hr0
    rw [hr0]
    obtain ⟨d0, d1⟩ := bt_lt s ((1 : Nat) : Int)
    obtain ⟨d, hd'⟩ : ∃ d, bt s ((1 : Nat) : Int) = d := ⟨_, rfl⟩
    rw [hd'] at d0 d1
    obtain ⟨e0, e1⟩ := bt_lt s ((2 : Nat) : Int)
    obtain ⟨e, he'⟩ : ∃ d, bt s ((2 : Nat) : Int) = d := ⟨_, rfl⟩
    rw [he'] at e0 e1
    have hn := num2 (c - 224) d e (by have := (hcq.2.2.1 rfl); omega) (by have := (hcq.2.2.1 rfl); omega) d0 d1 e0 e1
    rw [show 224 + (c - 224) = c from by omega] at hn
    simp only [restL, refR, foldR, hd', he', hc', Nat.zero_add, Nat.reduceAdd] at hn ⊢
    by_cases h2 : d / 64 = 2
    · rw [if_pos h2]
      by_cases h3 : e / 64 = 2
      · rw [if_pos h3, show ((c - 224) * 64 + d % 64) * 64 + e % 64 = 64 * (64 * (c - 224) + d % 64) + e % 64 from by omega]
        refine end_eq s 2 _ _ hql (fun x h => (Option.some.inj h).symm) (fun hr => ?_)
        simp only [restL, hd', he', hc', Nat.zero_add, Nat.reduceAdd]
        rw [hn]
        simp [h2, h3]
        omega
      · rw [if_neg h3]
        refine end_eq s 2 _ _ hql (fun x h => by cases h) (fun hr => ?_)
        simp only [restL, hd', he', hc', Nat.zero_add, Nat.reduceAdd]
        rw [hn]
        simp [h3]
    · rw [if_neg h2]
      refine end_eq s 2 _ _ hql (fun x h => by cases h) (fun hr => ?_)
      simp only [restL, hd', he', hc', Nat.zero_add, Nat.reduceAdd]
      rw [hn]
      simp [h2]
  · rw [if_neg (by decide), if_neg (by decide), if_neg (by decide)] at hr0
    rw [hr0]
    obtain ⟨d0, d1⟩ := bt_lt s ((1 : Nat) : Int)
    obtain ⟨d, hd'⟩ : ∃ d, bt s ((1 : Nat) : Int) = d := ⟨_, rfl⟩
    rw [hd'] at d0 d1
    obtain ⟨e0, e1⟩ := bt_lt s ((2 : Nat) : Int)
    obtain ⟨e, he'⟩ : ∃ d, bt s ((2 : Nat) : Int) = d := ⟨_, rfl⟩
    rw [he'] at e0 e1
    obtain ⟨f0, f1⟩ := bt_lt s ((3 : Nat) : Int)
    obtain ⟨f, hf'⟩ : ∃ d, bt s ((3 : Nat) : Int) = d := ⟨_, rfl⟩
    rw [hf'] at f0 f1
    have hn := num3 (c - 240) d e f (by have := (hcq.2.2.2 rfl); omega) (by have := (hcq.2.2.2 rfl); omega) d0 d1 e0 e1 f0 f1
    rw [show 240 + (c - 240) = c from by omega] at hn
    simp only [restL, refR, foldR, hd', he', hf', hc', Nat.zero_add, Nat.reduceAdd] at hn ⊢
    by_cases h2 : d / 64 = 2
    · rw [if_pos h2]
      by_cases h3 : e / 64 = 2
      · rw [if_pos h3]
        by_cases h4 : f / 64 = 2
        · rw [if_pos h4, show (((c - 240) * 64 + d % 64) * 64 + e % 64) * 64 + f % 64 = 64 * (64 * (64 * (c - 240) + d % 64) + e % 64) + f % 64 from by omega]
          refine end_eq s 3 _ _ hql (fun x h => (Option.some.inj h).symm) (fun hr => ?_)
          simp only [restL, hd', he', hf', hc', Nat.zero_add, Nat.reduceAdd]
          rw [hn]
          simp [h2, h3, h4]
          omega
        · rw [if_neg h4]
          refine end_eq s 3 _ _ hql (fun x h => by cases h) (fun hr => ?_)
          simp only [restL, hd', he', hf', hc', Nat.zero_add, Nat.reduceAdd]
          rw [hn]
          simp [h4]
      · rw [if_neg h3]
        refine end_eq s 3 _ _ hql (fun x h => by cases h) (fun hr => ?_)
        simp only [restL, hd', he', hf', hc', Nat.zero_add, Nat.reduceAdd]
        rw [hn]
        simp [h3]
    · rw [if_neg h2]
      refine end_eq s 3 _ _ hql (fun x h => by cases h) (fun hr => ?_)
      simp only [restL, hd', he', hf', hc', Nat.zero_add, Nat.reduceAdd]
      rw [hn]
      simp [h2]
/-- What Decode has read are its rune's bytes. -/
theorem dec_enc (s : ByteArray) (h : (decF s).2.2 = 0) : isRn (decF s).1 = true ∧ encL (decF s).1 = restL s 0 (decF s).2.1.toNat ∧ (decF s).2.1 = ((encL (decF s).1).length : Int) ∧ (decF s).2.1 ≤ s.size := by
  have hok := decF_ok s h
  obtain ⟨b0, b1⟩ := bt_lt s 0
  obtain ⟨m0, m1, m2, m3⟩ := headF_b (bt s 0) b0 b1
  by_cases h0 : s.size = 0
  · rw [decF_nil s h0] at h; simp at h
  · by_cases h1 : (headF (bt s 0)).1 < 0 ∨ (s.size : Int) ≤ (headF (bt s 0)).1
    · unfold decF at h; rw [if_neg h0, if_pos h1] at h; simp at h
    · obtain ⟨q, hq⟩ : ∃ q : Nat, (headF (bt s 0)).1 = (q : Int) := ⟨(headF (bt s 0)).1.toNat, by omega⟩
      have hd : decF s = decTail (q : Int) (foldR (headF (bt s 0)).2 (restL s 1 q)) := by
        unfold decF; rw [if_neg h0, if_neg h1, hq, Int.toNat_natCast]
      have hc := dec_core s q hq (by omega)
      rw [← hd] at hc
      unfold refEnd encS at hc
      cases hr : isRn (refR (headF (bt s 0)).2 (restL s 1 q)) with
      | false => rw [hr] at hc; simp at hc; rw [← hc] at h; simp at h
      | true =>
        rw [hr] at hc
        simp only [if_true] at hc
        by_cases he : (strOfNums (encL (refR (headF (bt s 0)).2 (restL s 1 q)))).toList = (s.extract 0 (q + 1)).toList
        · rw [if_pos he] at hc
          have hc := (Option.some.inj hc).symm
          rw [hc] at hok ⊢
          have h2 := (enc_eq s (q + 1) _ hr (by omega)).1 he
          refine ⟨hr, by simpa using h2, ?_, hok.2⟩
          rw [h2, restL_len]
        · rw [if_neg he] at hc
          have hc := (Option.some.inj hc).symm
          rw [hc] at h; simp at h
theorem bt_append (a b : ByteArray) (i : Nat) (h : i < a.size) : bt (a ++ b) (i : Int) = bt a (i : Int) := by
  have h1 : i < (a ++ b).size := by rw [ByteArray.size_append]; omega
  unfold bt
  rw [dif_pos (by simpa using h1), dif_pos (by simpa using h)]
  simp only [Int.toNat_natCast]
  rw [ByteArray.getElem_append_left h]
theorem bt_nums (L : List Int) (hL : ∀ x ∈ L, 0 ≤ x ∧ x < 256) (i : Nat) (h : i < L.length) : bt (strOfNums L) (i : Int) = L[i] := by
  obtain ⟨h0, h1⟩ := hL L[i] (List.getElem_mem h)
  rw [← bt_data, strOfNums_data, List.getD_eq_getElem?_getD, List.getElem?_map, List.getElem?_eq_getElem h]
  simp only [Option.map_some, Option.getD_some]
  rw [UInt8.toNat_ofNat_of_lt' (by show L[i].toNat < 256; omega)]
  omega
theorem encL_len (r : Int) (h : isRn r = true) : 1 ≤ (encL r).length ∧ (encL r).length ≤ 4 := by
  unfold encL
  repeat' split
  all_goals simp
/-- A rune's bytes, whatever stands behind, are decoded to it. -/
theorem dec_of_enc (r : Int) (t : ByteArray) (h : isRn r = true) : decF (strOfNums (encL r) ++ t) = (r, ((encL r).length : Int), 0) := by
  have hb := isRn_iff.1 h
  have hz : (strOfNums (encL r)).size = (encL r).length := strOfNums_size _
  have hl := encL_len r h
  have hB : ∀ i (hi : i < (encL r).length), bt (strOfNums (encL r) ++ t) (i : Int) = (encL r)[i] := fun i hi => by
    rw [bt_append _ _ i (by omega), bt_nums _ (encL_byte r h) i hi]
  have hs : (strOfNums (encL r) ++ t).size = (encL r).length + t.size := by rw [ByteArray.size_append, hz]
  obtain ⟨s, hS⟩ : ∃ s, strOfNums (encL r) ++ t = s := ⟨_, rfl⟩
  rw [hS] at hB hs ⊢
  unfold decF
  rw [if_neg (by omega)]
  by_cases c1 : r < 128
  · have e : encL r = [r] := by unfold encL; rw [if_pos c1]
    rw [e] at hB hs
    have g0 : bt s 0 = r := hB 0 (by simp)
    have hh : headF r = (0, r) := by unfold headF; rw [if_neg (by omega), if_neg (by omega), if_neg (by omega), if_neg (by omega), if_neg (by omega)]
    simp only [List.length_cons, List.length_nil] at hs
    rw [g0, hh, if_neg (by intro hx; rcases hx with hx | hx <;> (dsimp only at hx; omega))]
    simp [restL, foldR, decTail, h, e]
  · by_cases c2 : r < 2048
    · have e : encL r = [192 + r / 64, 128 + r % 64] := by unfold encL; rw [if_neg c1, if_pos c2]
      rw [e] at hB hs
      have g0 : bt s 0 = 192 + r / 64 := hB 0 (by simp)
      have g1 : bt s ((1 : Nat) : Int) = 128 + r % 64 := hB 1 (by simp)
      have hh : headF (192 + r / 64) = (1, r / 64) := by unfold headF; rw [if_neg (by omega), if_neg (by omega), if_neg (by omega), if_pos (by omega)]; simp; omega
      simp only [List.length_cons, List.length_nil] at hs
      rw [g0, hh, if_neg (by intro hx; rcases hx with hx | hx <;> (dsimp only at hx; omega))]
      have f : foldR (r / 64) (restL s 1 1) = some r := by
        simp only [restL, g1, foldR]
        rw [if_pos (by omega)]
        congr 1; omega
      simp only [show (1 : Int).toNat = 1 from rfl, f, decTail]
      rw [if_pos ⟨h, by rw [e]; rfl⟩, e]; rfl
    · by_cases c3 : r < 65536
      · have e : encL r = [224 + r / 4096, 128 + r / 64 % 64, 128 + r % 64] := by unfold encL; rw [if_neg c1, if_neg c2, if_pos c3]
        rw [e] at hB hs
        have g0 : bt s 0 = 224 + r / 4096 := hB 0 (by simp)
        have g1 : bt s ((1 : Nat) : Int) = 128 + r / 64 % 64 := hB 1 (by simp)
        have g2 : bt s ((2 : Nat) : Int) = 128 + r % 64 := hB 2 (by simp)
        have hh : headF (224 + r / 4096) = (2, r / 4096) := by unfold headF; rw [if_neg (by omega), if_neg (by omega), if_pos (by omega)]; simp; omega
        simp only [List.length_cons, List.length_nil] at hs
        rw [g0, hh, if_neg (by intro hx; rcases hx with hx | hx <;> (dsimp only at hx; omega))]
        have f : foldR (r / 4096) (restL s 1 2) = some r := by
          simp only [restL, g1, g2, foldR, Nat.reduceAdd]
          rw [if_pos (by omega), if_pos (by omega)]
          congr 1; omega
        simp only [show (2 : Int).toNat = 2 from rfl, f, decTail]
        rw [if_pos ⟨h, by rw [e]; rfl⟩, e]; rfl
      · have e : encL r = [240 + r / 262144, 128 + r / 4096 % 64, 128 + r / 64 % 64, 128 + r % 64] := by unfold encL; rw [if_neg c1, if_neg c2, if_neg c3]
        rw [e] at hB hs
        have g0 : bt s 0 = 240 + r / 262144 := hB 0 (by simp)
        have g1 : bt s ((1 : Nat) : Int) = 128 + r / 4096 % 64 := hB 1 (by simp)
        have g2 : bt s ((2 : Nat) : Int) = 128 + r / 64 % 64 := hB 2 (by simp)
        have g3 : bt s ((3 : Nat) : Int) = 128 + r % 64 := hB 3 (by simp)
        have hh : headF (240 + r / 262144) = (3, r / 262144) := by unfold headF; rw [if_neg (by omega), if_pos (by omega)]; simp; omega
        simp only [List.length_cons, List.length_nil] at hs
        rw [g0, hh, if_neg (by intro hx; rcases hx with hx | hx <;> (dsimp only at hx; omega))]
        have f : foldR (r / 262144) (restL s 1 3) = some r := by
          simp only [restL, g1, g2, g3, foldR, Nat.reduceAdd]
          rw [if_pos (by omega), if_pos (by omega), if_pos (by omega)]
          congr 1; omega
        simp only [show (3 : Int).toNat = 3 from rfl, f, decTail]
        rw [if_pos ⟨h, by rw [e]; rfl⟩, e]; rfl
theorem ba_ext {a b : ByteArray} (h : a.toList = b.toList) : a = b := by
  rw [ByteArray.toList_eq, ByteArray.toList_eq] at h
  exact ByteArray.ext (Array.toList_inj.1 h)
theorem ba_cut (s : ByteArray) (n : Nat) (h : n ≤ s.size) : s.extract 0 n ++ s.extract n s.size = s := by
  apply ByteArray.ext
  rw [ByteArray.data_append, ByteArray.data_extract, ByteArray.data_extract, Array.extract_append_extract]
  rw [show min 0 n = 0 from by omega, show max n s.size = s.size from by omega]
  exact Array.extract_size
theorem dec_parts (s : ByteArray) (h : (decF s).2.2 = 0) : s.extract 0 (decF s).2.1.toNat = strOfNums (encL (decF s).1) := by
  obtain ⟨h1, h2, h3, h4⟩ := dec_enc s h
  obtain ⟨n, hn⟩ : ∃ n : Nat, (decF s).2.1 = (n : Int) := ⟨(decF s).2.1.toNat, by omega⟩
  rw [hn] at h2 h3 h4 ⊢
  rw [Int.toNat_natCast] at h2 ⊢
  exact (ba_ext ((enc_eq s n _ h1 (by omega)).2 h2)).symm
theorem dec_app (s t : ByteArray) (h : (decF s).2.2 = 0) : decF (s ++ t) = decF s := by
  obtain ⟨h1, h2, h3, h4⟩ := dec_enc s h
  have hp := dec_parts s h
  have hc := ba_cut s (decF s).2.1.toNat (by omega)
  rw [hp] at hc
  have e : s ++ t = strOfNums (encL (decF s).1) ++ (s.extract (decF s).2.1.toNat s.size ++ t) := by rw [← ByteArray.append_assoc, hc]
  rw [e, dec_of_enc _ _ h1]
  refine Prod.ext rfl (Prod.ext h3.symm h.symm)
theorem allS_app (t : ByteArray) : ∀ (n : Nat) (s : ByteArray), s.size ≤ n → ((allS s).2.size = 0 → allS (s ++ t) = ((allS s).1 ++ (allS t).1, (allS t).2)) ∧ (allS (s ++ t)).2.size ≤ (allS s).2.size + t.size := by
  intro n
  induction n with
  | zero =>
    intro s hs
    have e : s = ByteArray.empty := by
      apply ByteArray.ext
      exact Array.eq_empty_of_size_eq_zero (show s.size = 0 from by omega)
    subst e
    rw [ByteArray.empty_append, allS_no ByteArray.empty (by rw [decF_nil _ (by rfl)]; decide)]
    exact ⟨fun _ => rfl, by have := allS_sizes t; simp; omega⟩
  | succ n ih =>
    intro s hs
    by_cases ok : (decF s).2.2 = 0
    · obtain ⟨n1, n2⟩ := decF_ok s ok
      have ha := dec_app s t ok
      have ok2 : (decF (s ++ t)).2.2 = 0 := by rw [ha]; exact ok
      have hz : (s.extract (decF s).2.1.toNat s.size).size = s.size - (decF s).2.1.toNat := by rw [ByteArray.size_extract]; omega
      have hx : (s ++ t).extract (decF s).2.1.toNat (s ++ t).size = s.extract (decF s).2.1.toNat s.size ++ t := by
        apply ByteArray.ext
        have e1 : s.data.size = s.size := rfl
        have e2 : t.data.size = t.size := rfl
        rw [ByteArray.data_append, ByteArray.data_extract, ByteArray.data_extract, ByteArray.data_append, ByteArray.size_append, Array.extract_append]
        rw [show s.size + t.size - s.data.size = t.data.size from by omega, show (decF s).2.1.toNat - s.data.size = 0 from by omega, Array.extract_size]
        congr 1
        rw [show s.size + t.size = s.data.size + t.size from by omega, show s.size = s.data.size from rfl]
        apply Array.ext
        · rw [Array.size_extract, Array.size_extract]; omega
        · intro i h1 h2
          rw [Array.getElem_extract, Array.getElem_extract]
      rw [allS_ok s ok, allS_ok (s ++ t) ok2, ha, hx]
      obtain ⟨i1, i2⟩ := ih (s.extract (decF s).2.1.toNat s.size) (by omega)
      refine ⟨fun h0 => ?_, i2⟩
      rw [i1 h0]
      rfl
    · rw [allS_no s ok]
      by_cases h0 : s.size = 0
      · have e : s = ByteArray.empty := by
          apply ByteArray.ext
          exact Array.eq_empty_of_size_eq_zero h0
        subst e
        rw [ByteArray.empty_append]
        exact ⟨fun _ => rfl, by have := allS_sizes t; simp; omega⟩
      · refine ⟨fun h => absurd h h0, ?_⟩
        have := allS_sizes (s ++ t)
        rw [ByteArray.size_append] at this
        exact this
def ltI : List Int → List Int → Bool
  | _, [] => false
  | [], _ :: _ => true
  | a :: x, b :: y => decide (a < b) || (decide (a = b) && ltI x y)
theorem bl_nums : ∀ (L M : List Int), (∀ x ∈ L, 0 ≤ x ∧ x < 256) → (∀ x ∈ M, 0 ≤ x ∧ x < 256) → Op.bytesLess (L.map fun n => UInt8.ofNat n.toNat) (M.map fun n => UInt8.ofNat n.toNat) = ltI L M
  | [], [], _, _ => rfl
  | _ :: _, [], _, _ => rfl
  | [], _ :: _, _, _ => rfl
  | a :: x, b :: y, hL, hM => by
    obtain ⟨a0, a1⟩ := hL a (by simp)
    obtain ⟨b0, b1⟩ := hM b (by simp)
    have ih := bl_nums x y (fun z hz => hL z (by simp [hz])) (fun z hz => hM z (by simp [hz]))
    have ea : (UInt8.ofNat a.toNat).toNat = a.toNat := UInt8.toNat_ofNat_of_lt' (by show a.toNat < 256; omega)
    have eb : (UInt8.ofNat b.toNat).toNat = b.toNat := UInt8.toNat_ofNat_of_lt' (by show b.toNat < 256; omega)
    simp only [List.map_cons, Op.bytesLess, ltI, ih]
    congr 1
    · rw [Bool.eq_iff_iff, decide_eq_true_iff, decide_eq_true_iff, UInt8.lt_iff_toNat_lt, ea, eb]; omega
    · congr 1
      rw [Bool.eq_iff_iff, beq_iff_eq, decide_eq_true_iff, ← UInt8.toNat_inj, ea, eb]; omega
theorem bl_enc (a b : Int) (ha : isRn a = true) (hb : isRn b = true) : Op.bytesLess (strOfNums (encL a)).toList (strOfNums (encL b)).toList = ltI (encL a) (encL b) := by
  rw [ByteArray.toList_eq, ByteArray.toList_eq, strOfNums_data, strOfNums_data]
  exact bl_nums _ _ (encL_byte a ha) (encL_byte b hb)
theorem enc_order (a b : Int) (ha : isRn a = true) (hb : isRn b = true) (h : a < b) : (encL a).length ≤ (encL b).length ∧ ltI (encL a) (encL b) = true := by
  have h1 := isRn_iff.1 ha
  have h2 := isRn_iff.1 hb
  unfold encL
  repeat' split
  all_goals (simp [ltI]; try omega)
theorem ltI_self : ∀ L : List Int, ltI L L = false
  | [] => rfl
  | a :: x => by simp [ltI, ltI_self x]
theorem rd_nat (l : List Int) (i : Nat) : rd l (i : Int) = l.getD i 0 := by unfold rd; rw [Int.toNat_natCast]
theorem all_drop (p : Int → Bool) (L : List Int) (k : Nat) (hk : k < L.length) : (L.drop k).all p = (p (L.getD k 0) && (L.drop (k + 1)).all p) := by
  rw [List.drop_eq_getElem_cons hk, List.all_cons]
  simp [List.getD_eq_getElem?_getD, List.getElem?_eq_getElem hk]
theorem rNameFrom (s : ByteArray) (l : List Int) (n : Int) (hl : l.length ≤ 1000000) : ∀ (d k i : Nat), 1 ≤ i → i + d = l.length → d + 1 ≤ k →
    pleacherref02_IsName.l0 k s l n i = some ((l.drop i).all otherB && decide (n = (s.size : Int)) && decide (0 < l.length)) := by
  intro d
  induction d with
  | zero =>
    intro k i h1 h2 hk
    obtain ⟨k, rfl⟩ : ∃ j, k = j + 1 := ⟨k - 1, by omega⟩
    simp only [pleacherref02_IsName.l0]
    rw [if_neg (by omega), List.drop_of_length_le (by omega)]
    by_cases h : n = (s.size : Int)
    · rw [if_pos h]; simp [h]
    · rw [if_neg h]; simp [h]
  | succ d ih =>
    intro k i h1 h2 hk
    obtain ⟨k, rfl⟩ : ∃ j, k = j + 1 := ⟨k - 1, by omega⟩
    simp only [pleacherref02_IsName.l0]
    rw [if_pos (by omega), if_pos (by omega), rOther, rd_nat, all_drop otherB l i (by omega)]
    simp only [Option.bind_some]
    cases h : otherB (l.getD i 0) with
    | false => simp
    | true =>
      rw [if_pos rfl, if_neg (by omega), show wrap64 ((i : Int) + 1) = ((i + 1 : Nat) : Int) from by rw [wraps_64 _ (by omega) (by omega)]; omega, ih k (i + 1) (by omega) (by omega) (by omega)]
      simp
theorem rTextFrom (s : ByteArray) (l : List Int) (n : Int) (hl : l.length ≤ 1000000) : ∀ (d k i : Nat), i + d = l.length → d + 1 ≤ k →
    pleacherref02_IsText.l0 k s l n i = some ((l.drop i).all charB && decide (n = (s.size : Int))) := by
  intro d
  induction d with
  | zero =>
    intro k i h2 hk
    obtain ⟨k, rfl⟩ : ∃ j, k = j + 1 := ⟨k - 1, by omega⟩
    simp only [pleacherref02_IsText.l0]
    rw [if_neg (by omega), List.drop_of_length_le (by omega)]
    refine congrArg some ?_
    rw [Bool.eq_iff_iff]; simp
  | succ d ih =>
    intro k i h2 hk
    obtain ⟨k, rfl⟩ : ∃ j, k = j + 1 := ⟨k - 1, by omega⟩
    simp only [pleacherref02_IsText.l0]
    rw [if_pos (by omega), if_pos (by omega), rChar, rd_nat, all_drop charB l i (by omega)]
    simp only [Option.bind_some]
    cases h : charB (l.getD i 0) with
    | false => simp
    | true =>
      rw [if_pos rfl, show wrap64 ((i : Int) + 1) = ((i + 1 : Nat) : Int) from by rw [wraps_64 _ (by omega) (by omega)]; omega, ih k (i + 1) (by omega) (by omega)]
      simp
theorem allF_len : ∀ (n : Nat) (s : ByteArray), (allF n s).1.length ≤ n
  | 0, s => Nat.le_refl _
  | n + 1, s => by
    rw [allF]
    split
    · have := allF_len n (s.extract (decF s).2.1.toNat s.size)
      simp only [List.length_cons]; omega
    · simp
theorem rText (s : ByteArray) (hs : s.size ≤ 100000) (K : Nat) (hK : 300000 ≤ K) : pleacherref02_IsText.f K s = some (areF charB s) := by
  unfold pleacherref02_IsText.f areF
  rw [rRunes s hs K (by omega)]
  simp only [Option.bind_some]
  have hl := allF_len (s.size + 1) s
  have := rTextFrom s (allS s).1 ((s.size : Int) - ((allS s).2.size : Int)) (by unfold allS; omega) (allS s).1.length K 0 (by omega) (by unfold allS; omega)
  rw [show ((0 : Nat) : Int) = 0 from rfl] at this
  rw [this, List.drop_zero, Bool.and_comm]
  refine congrArg some (congrArg (· && _) ?_)
  exact decide_eq_decide.2 ⟨fun h => by omega, fun h => by omega⟩
theorem rName (s : ByteArray) (hs : s.size ≤ 100000) (K : Nat) (hK : 300000 ≤ K) : pleacherref02_IsName.f K s = some (nameF s) := by
  unfold pleacherref02_IsName.f nameF areF
  rw [rRunes s hs K (by omega)]
  simp only [Option.bind_some]
  have hl := allF_len (s.size + 1) s
  have hd : decide ((s.size : Int) - ((allS s).2.size : Int) = (s.size : Int)) = decide ((allS s).2.size = 0) := decide_eq_decide.2 ⟨fun h => by omega, fun h => by omega⟩
  by_cases ok : (decF s).2.2 = 0
  · have he := allS_ok s ok
    obtain ⟨r, hr⟩ : ∃ r, (decF s).1 = r := ⟨_, rfl⟩
    obtain ⟨l, hL⟩ : ∃ l, (allS (s.extract (decF s).2.1.toNat s.size)).1 = l := ⟨_, rfl⟩
    rw [hr, hL] at he
    have h1 : (allS s).1 = r :: l := by rw [he]
    have hlen : (r :: l).length ≤ 1000000 := by rw [← h1]; unfold allS; omega
    have hlen2 : (r :: l).length ≤ 100001 := by rw [← h1]; unfold allS; omega
    rw [h1, hr]
    obtain ⟨k, rfl⟩ : ∃ k, K = k + 1 := ⟨K - 1, by omega⟩
    have hf := rNameFrom s (r :: l) ((s.size : Int) - ((allS s).2.size : Int)) hlen l.length k 1 (by omega) (by simp; omega) (by simp at hlen2; omega)
    simp only [pleacherref02_IsName.l0]
    rw [if_pos (by simp <;> omega), if_pos (by decide), rOther, rFirst]
    have hrd : rd (r :: l) 0 = r := rfl
    rw [hrd]
    have e0 : decide ((decF s).2.2 = 0) = true := by simpa using ok
    have e1 : (r :: l).all otherB = (otherB r && l.all otherB) := rfl
    have e2 : decide (0 < (r :: l).length) = true := by simp
    rw [show wrap64 (0 + 1) = ((1 : Nat) : Int) from by unfold wrap64; rfl, hf, hd, e0, e1, e2]
    rw [show List.drop 1 (r :: l) = l from rfl]
    generalize otherB r = A
    generalize firstL.any (inB r) = B
    generalize l.all otherB = C
    generalize decide ((allS s).2.size = 0) = D
    cases A <;> cases B <;> cases C <;> cases D <;> rfl
  · have he := allS_no s ok
    have e0 : decide ((decF s).2.2 = 0) = false := by simpa using ok
    rw [he, e0, Bool.false_and, Bool.false_and]
    obtain ⟨k, rfl⟩ : ∃ k, K = k + 1 := ⟨K - 1, by omega⟩
    simp only [pleacherref02_IsName.l0]
    rw [if_neg (by simp)]
    by_cases h : (s.size : Int) - (s.size : Int) = (s.size : Int)
    · rw [if_pos h]; rfl
    · rw [if_neg h]
theorem big : ∃ K : Nat, 300000 ≤ K := ⟨300000, Nat.le_refl _⟩
theorem shownC (w : World) : Calls Try.prog 10 #[] w fun e w' => e = .returned (.bool true) ∧ Ext w w' := (pleacherlaw02_shown.calls 10 true w (shown_ev 10 (by decide))).mono fun e w' h => ⟨h.1, ⟨h.2⟩⟩
theorem cutC (s : ByteArray) (w : World) : Calls Try.prog 14 #[.string s] w fun e w' => e = .returned (.string (cutS s)) ∧ Ext w w' := (pleacherlaw02_cut.calls s _ w (cut_ev s)).mono fun e w' h => ⟨h.1, ⟨h.2⟩⟩
theorem encC (r : Int) (w : World) : Calls Try.prog 11 #[.int .i64 r] w fun e w' => e = .returned (.tuple #[.string (encS r).1, .int .i64 (encS r).2]) ∧ Ext w w' := (utf_Encode.calls 10 r _ _ w (enc_ev r 10 (by decide))).mono fun e w' h => ⟨h.1, ⟨h.2⟩⟩
theorem decC (s : ByteArray) (h : s.size ≤ 100000) (w : World) : Calls Try.prog 13 #[.string s] w fun e w' => e = .returned (.tuple #[.int .i64 (decF s).1, .int .i64 (decF s).2.1, .int .i64 (decF s).2.2]) ∧ Ext w w' := dec_calls s w (by unfold maxLen; omega)
def validF (s : ByteArray) : Int × Bool := ((s.size : Int) - ((allS s).2.size : Int), decide ((allS s).2.size = 0))
def countF (s : ByteArray) : Int × Int := if (allS s).2.size = 0 then (((allS s).1.length : Int), 0) else (0, 20)
theorem validC (s : ByteArray) (h : s.size ≤ 100000) (w : World) : Calls Try.prog 27 #[.string s] w fun e w' => e = .returned (.tuple #[.int .i64 (validF s).1, .bool (validF s).2]) ∧ Ext w w' := by
  refine (utf_Valid.calls s (validF s).1 (validF s).2 w ?_).mono fun e w' h => ⟨h.1, ⟨h.2⟩⟩
  unfold utf_Valid.f validF
  rw [all_ev s h]
  have := allS_sizes s
  simp only [Option.bind_some]
  rw [wraps_64 _ (by omega) (by omega)]
  congr 2
  rw [Bool.eq_iff_iff, beq_iff_eq, decide_eq_true_iff]
  exact ⟨fun h => by omega, fun h => by omega⟩
theorem rvalidC (s : ByteArray) (h : s.size ≤ 100000) (w : World) : Calls Try.prog 28 #[.string s] w fun e w' => e = .returned (.tuple #[.int .i64 (validF s).1, .bool (validF s).2]) ∧ Ext w w' := by
  obtain ⟨K, hK⟩ := big
  refine (pleacherref02_Valid.calls K s (validF s).1 (validF s).2 w ?_).mono fun e w' h => ⟨h.1, ⟨h.2⟩⟩
  unfold pleacherref02_Valid.f validF
  rw [rRunes s h K (by omega)]
  simp only [Option.bind_some]
  congr 2
  rw [Bool.eq_iff_iff, beq_iff_eq, decide_eq_true_iff]
  exact ⟨fun h => by omega, fun h => by omega⟩
theorem countC (s : ByteArray) (h : s.size ≤ 100000) (w : World) : Calls Try.prog 26 #[.string s] w fun e w' => e = .returned (.tuple #[.int .i64 (countF s).1, .int .i64 (countF s).2]) ∧ Ext w w' := by
  refine (utf_Count.calls s (countF s).1 (countF s).2 w ?_).mono fun e w' h => ⟨h.1, ⟨h.2⟩⟩
  unfold utf_Count.f countF
  rw [all_ev s h]
  simp only [Option.bind_some]
  by_cases h0 : (allS s).2.size = 0
  · rw [if_neg (by omega), if_pos h0]
  · rw [if_pos (by omega), if_neg h0]
theorem rcountC (s : ByteArray) (h : s.size ≤ 100000) (w : World) : Calls Try.prog 29 #[.string s] w fun e w' => e = .returned (.tuple #[.int .i64 (countF s).1, .int .i64 (countF s).2]) ∧ Ext w w' := by
  obtain ⟨K, hK⟩ := big
  refine (pleacherref02_Count.calls K s (countF s).1 (countF s).2 w ?_).mono fun e w' h => ⟨h.1, ⟨h.2⟩⟩
  unfold pleacherref02_Count.f countF
  rw [rRunes s h K (by omega)]
  simp only [Option.bind_some]
  have := allS_sizes s
  by_cases h0 : (allS s).2.size = 0
  · rw [if_neg (by omega), if_pos h0]
  · rw [if_pos (by omega), if_neg h0]
theorem rnameC (s : ByteArray) (h : s.size ≤ 100000) (w : World) : Calls Try.prog 30 #[.string s] w fun e w' => e = .returned (.bool (nameF s)) ∧ Ext w w' := by
  obtain ⟨K, hK⟩ := big
  exact (pleacherref02_IsName.calls K s _ w (rName s h K hK)).mono fun e w' h => ⟨h.1, ⟨h.2⟩⟩
theorem rtextC (s : ByteArray) (h : s.size ≤ 100000) (w : World) : Calls Try.prog 31 #[.string s] w fun e w' => e = .returned (.bool (areF charB s)) ∧ Ext w w' := by
  obtain ⟨K, hK⟩ := big
  exact (pleacherref02_IsText.calls K s _ w (rText s h K hK)).mono fun e w' h => ⟨h.1, ⟨h.2⟩⟩
end Go.Proofs.Ytjbapiogekjdnaa.Hand
