/- rank: three hundred keys, one behind the other. -/
import Derived.Test.YtemiocaiimdblaaDoorRankJ
set_option linter.unusedVariables false
set_option linter.unusedSimpArgs false
namespace Go.Proofs.YtemiocaiimdblaaDoor.Hand
open Go Go.RowKit Go.Shelf Go.Proofs.YtemiocaiimdblaaDoor.K
set_option maxRecDepth 100000
set_option maxHeartbeats 400000
theorem some_len {b : ByteArray} : ∀ {n : Nat} {a : ByteArray} {ks : List ByteArray}, someL b n a = some ks → ks.length = n
  | 0, a, ks, h => by simp only [someL, Option.some.injEq] at h; subst h; rfl
  | n + 1, a, ks, h => by
    rw [someL] at h
    cases hk : nextK a b with
    | none => rw [hk] at h; cases h
    | some k =>
      rw [hk] at h
      simp only [Option.map_eq_some_iff] at h
      obtain ⟨l, h1, rfl⟩ := h
      rw [List.length_cons, some_len h1]
theorem some_mono {b : ByteArray} (n : Nat) : ∀ {m : Nat} {a : ByteArray}, (someL b (m + n) a).isSome = true → (someL b m a).isSome = true
  | 0, a, h => rfl
  | m + 1, a, h => by
    rw [show m + 1 + n = m + n + 1 from by omega, someL] at h
    rw [someL]
    cases hk : nextK a b with
    | none => rw [hk] at h; cases h
    | some k =>
      rw [hk] at h
      simp only [Option.isSome_map] at h ⊢
      exact some_mono n h
theorem many : (someL ⟨#[]⟩ 300 ⟨#[]⟩).isSome = true := by kernel_rfl
theorem many_le {n : Nat} (h : n ≤ 300) : ∃ ks, someL ⟨#[]⟩ n ⟨#[]⟩ = some ks ∧ ks.length = n := by
  have h1 : (someL ⟨#[]⟩ n ⟨#[]⟩).isSome = true := some_mono (300 - n) (by rw [show n + (300 - n) = 300 from by omega]; exact many)
  obtain ⟨ks, h2⟩ := Option.isSome_iff_exists.1 h1
  exact ⟨ks, h2, some_len h2⟩
end Go.Proofs.YtemiocaiimdblaaDoor.Hand
