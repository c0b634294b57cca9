/- Plain law of ParseInt: the numeral of a number parses to it. -/
import Derived.Test.YtmabcdnjojjgeaaDoorPi
set_option linter.unusedVariables false
namespace Go.Proofs.YtmabcdnjojjgeaaDoor
open Go.RowKit
theorem decFrom_append : ∀ (l r : List UInt8) (a n : Nat), Lib.decFrom a l = some n → Lib.decFrom a (l ++ r) = Lib.decFrom n r
  | [], r, a, n, h => by simp only [Lib.decFrom, Option.some.injEq] at h; subst h; rfl
  | b :: l, r, a, n, h => by
    simp only [Lib.decFrom, List.cons_append] at h ⊢
    cases hd : Lib.digitVal b with
    | none => rw [hd] at h; cases h
    | some d => rw [hd] at h; exact decFrom_append l r _ n h
theorem digit_of (d : Nat) (h : d < 10) : Lib.digitVal (UInt8.ofNat (48 + d)) = some d := by
  have : ∀ e : Fin 10, Lib.digitVal (UInt8.ofNat (48 + e.val)) = some e.val := by decide
  exact this ⟨d, h⟩
theorem decFrom_digits (u : Nat) : Lib.decFrom 0 (Lib.decDigits u) = some u := by
  induction u using Nat.strongRecOn with
  | _ u ih =>
    by_cases h : u < 10
    · rw [Lib.decDigits_one h, Lib.decFrom, digit_of u h]; simp [Lib.decFrom]
    · rw [Lib.decDigits, dif_neg h, decFrom_append _ _ _ _ (ih (u / 10) (by omega)), Lib.decFrom, digit_of _ (Nat.mod_lt _ (by omega))]
      simp only [Lib.decFrom]
      congr 1; omega
theorem decNat_digits (u : Nat) : Lib.decNat (Lib.decDigits u) = some u := by
  obtain ⟨c, r, hd, _, _⟩ := digit_head u
  have := decFrom_digits u
  rw [hd] at this ⊢
  rw [Lib.decNat, if_neg (by simp)]; exact this
theorem itoa_nat (u : Nat) : Lib.itoa (u : Int) = Lib.decDigits u := by rw [Lib.itoa, if_neg (by omega)]; simp
theorem itoa_size {u : Nat} (h : u ≤ 1000000000000) : (dst (Lib.itoa u)).size ≤ 13 := by
  rw [dst_size, itoa_nat, Lib.decDigits_length]
  have h1 : ∀ k v, v < 10 ^ (k + 1) → Lib.nDigits v ≤ k + 1 := by
    intro k
    induction k with
    | zero => intro v hv; rw [Lib.nDigits_small (by omega)]; omega
    | succ k ih =>
      intro v hv
      by_cases hs : v < 10
      · rw [Lib.nDigits_small hs]; omega
      · rw [Lib.nDigits_big hs]
        have := ih (v / 10) (by rw [Nat.pow_succ] at hv; omega)
        omega
  exact h1 12 u (by rw [show (10 : Nat) ^ (12 + 1) = 10000000000000 by decide]; omega)
theorem pr_itoa {u : Nat} (h : u ≤ 1000000000000) : pr (dst (Lib.itoa u)) = some u :=
  pr_of (itoa_size h) (by rw [dst_toList, itoa_nat]; exact decNat_digits u) h rfl
theorem pr_itoa_big {u : Nat} (h : ¬ u ≤ 1000000000000) : pr (dst (Lib.itoa u)) = none :=
  pr_big (by rw [dst_toList, itoa_nat]; exact decNat_digits u) h
theorem pr_itoa_neg {n : Int} (h : n < 0) : pr (dst (Lib.itoa n)) = none := by
  apply pr_none
  rw [dst_toList, Lib.itoa, if_pos h, Lib.decNat, if_neg (by simp), Lib.decFrom]
  rfl
theorem pr_back {s : ByteArray} {m : Nat} (h : pr s = some m) : m ≤ 1000000000000 ∧ dst (Lib.itoa m) = s := by
  rw [pr] at h
  split at h
  · split at h
    · cases h
    · split at h
      · rename_i hc; cases h; exact hc
      · cases h
  · cases h
end Go.Proofs.YtmabcdnjojjgeaaDoor
