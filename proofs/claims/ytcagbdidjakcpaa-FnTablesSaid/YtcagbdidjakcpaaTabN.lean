/- The weight of what is kept of a table, and how far its marks go. Nothing here speaks of the program. -/
import Derived.Test.YtcagbdidjakcpaaTabR
namespace Go.Proofs.Ytcagbdidjakcpaa
theorem twS (n : Nat) (xs : List (List ByteArray × Int)) : tw n xs = n + (xs.map fun e => wt e.1).sum := by unfold tw twP; rw [List.take_length]
theorem sum_filter (f : List ByteArray × Int → Bool) : ∀ xs : List (List ByteArray × Int), ((xs.filter f).map fun e => wt e.1).sum ≤ (xs.map fun e => wt e.1).sum
  | [] => by simp
  | e :: r => by
    have ih := sum_filter f r
    by_cases h : f e = true
    · rw [List.filter_cons_of_pos h]; simp only [List.map_cons, List.sum_cons]; omega
    · rw [List.filter_cons_of_neg h]; simp only [List.map_cons, List.sum_cons]; omega
theorem tw_filter (f : List ByteArray × Int → Bool) {n : Nat} (xs : List (List ByteArray × Int)) (h : xs.length = n) : tw (xs.filter f).length (xs.filter f) ≤ tw n xs := by
  rw [twS, twS]
  have h1 := List.length_filter_le f xs
  have h2 := sum_filter f xs
  omega
theorem kP_bd (k0 : Nat) {n : Nat} (xs : List (List ByteArray × Int)) (h : xs.length = n) : k0 ≤ kP k0 xs n ∧ kP k0 xs n ≤ k0 + tw n xs := by
  subst h
  have h1 := kP_le k0 xs xs.length (Nat.le_refl _)
  have h2 := twP_le xs.length xs xs.length
  exact ⟨by unfold kP; omega, by omega⟩
end Go.Proofs.Ytcagbdidjakcpaa
