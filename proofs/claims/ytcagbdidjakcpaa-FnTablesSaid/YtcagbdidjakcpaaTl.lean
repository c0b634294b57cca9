/- Laws of tables in plain lists: what is put is found, what is removed is not; the longest prefix is one, and none is longer. Nothing here speaks of the program's code. -/
import Derived.Test.YtcagbdidjakcpaaTabU
import Derived.Test.YtcagbdidjakcpaaTabP
import Derived.Test.YtcagbdidjakcpaaTabR
set_option linter.unusedVariables false
namespace Go.Proofs.Ytcagbdidjakcpaa
open Go.RowKit
theorem ti_absent : ∀ (xs : List (List ByteArray × Int)) (key : List ByteArray) (q : Int), (∀ e ∈ xs, e.1 ≠ key) → ti xs key q = -1
  | [], _, _, _ => by rw [ti]
  | e :: r, key, q, h => by
    rw [ti, if_neg (h e (List.mem_cons_self ..))]
    exact ti_absent r key (q + 1) fun x hx => h x (List.mem_cons_of_mem _ hx)
theorem ti_app : ∀ (l r : List (List ByteArray × Int)) (key : List ByteArray) (v q : Int), (∀ e ∈ l, e.1 ≠ key) → ti (l ++ (key, v) :: r) key q = q + l.length
  | [], r, key, v, q, _ => by rw [List.nil_append, ti, if_pos rfl]; simp
  | e :: l, r, key, v, q, h => by
    rw [List.cons_append, ti, if_neg (h e (List.mem_cons_self ..)), ti_app l r key v (q + 1) fun x hx => h x (List.mem_cons_of_mem _ hx)]
    simp only [List.length_cons]
    omega
theorem ti_ge : ∀ (xs : List (List ByteArray × Int)) (key : List ByteArray) (q : Int), ti xs key q = -1 ∨ q ≤ ti xs key q
  | [], _, _ => .inl (by rw [ti])
  | e :: r, key, q => by
    rw [ti]
    split
    · exact .inr (Int.le_refl _)
    · rcases ti_ge r key (q + 1) with h | h
      · exact .inl h
      · exact .inr (by omega)
theorem ti_before : ∀ (xs : List (List ByteArray × Int)) (key : List ByteArray) (q : Int) (j : Nat), 0 ≤ q → ti xs key q = q + (j : Int) → ∀ e ∈ xs.take j, e.1 ≠ key
  | [], _, q, j, hq, h => by simp
  | x :: r, key, q, 0, hq, h => by simp
  | x :: r, key, q, j + 1, hq, h => by
    rw [ti] at h
    split at h
    · omega
    · rename_i hne
      have ih := ti_before r key (q + 1) j (by omega) (by rw [h]; omega)
      intro e he
      rw [List.take_succ_cons] at he
      rcases List.mem_cons.1 he with rfl | he
      · exact hne
      · exact ih e he
theorem lk_put {l r : List (List ByteArray × Int)} {key : List ByteArray} {v : Int} (h : ∀ e ∈ l, e.1 ≠ key) : lk (l ++ (key, v) :: r) key = (v, true) := by
  have e := ti_app l r key v 0 h
  rw [Int.zero_add] at e
  have hl : l.length < (l ++ (key, v) :: r).length := by simp
  rw [lk_at e hl]
  simp
theorem lk_peY (xs : List (List ByteArray × Int)) (key : List ByteArray) (v : Int) : lk (peY xs key v) key = (v, true) := by
  unfold peY
  split
  · rename_i h
    exact lk_put fun e he => ti_none xs key 0 (Int.le_refl _) h e (List.mem_of_mem_take he)
  · rename_i h
    have hg := (ti_ge xs key 0).resolve_left h
    obtain ⟨j, hj⟩ := Int.eq_ofNat_of_zero_le hg
    obtain ⟨hl, _⟩ := ti_at xs key 0 j (by rw [hj]; omega) (Int.le_refl _)
    rw [hj, Int.toNat_natCast, List.set_eq_take_append_cons_drop, if_pos hl]
    exact lk_put (ti_before xs key 0 j (Int.le_refl _) (by rw [hj]; omega))
theorem lk_removed (xs : List (List ByteArray × Int)) (key : List ByteArray) : lk (xs.filter (rmF key)) key = (0, false) := by
  refine lk_no (ti_absent _ _ _ fun e he => ?_)
  have h := (List.mem_filter.1 he).2
  unfold rmF at h
  intro e2
  rw [decide_eq_true e2] at h
  cases h
/-- The longest prefix: it is one, and none of the first k is longer. -/
theorem lp_law (xs : List (List ByteArray × Int)) (key : List ByteArray) : ∀ k, k ≤ xs.length → (∀ j, (hj : j < xs.length) → lpP xs key k = (j : Int) → hp key xs[j].1 = true) ∧ (∀ j, (hj : j < xs.length) → j < k → hp key xs[j].1 = true → 0 ≤ lpP xs key k ∧ xs[j].1.length ≤ llen xs (lpP xs key k))
  | 0, _ => ⟨fun j _ h => by rw [lpP] at h; omega, fun j _ h => absurd h (by omega)⟩
  | k + 1, hk => by
    obtain ⟨i1, i2⟩ := lp_law xs key k (by omega)
    have hkl : k < xs.length := by omega
    have hb := lp_bd xs key k
    rw [lp_step hkl]
    by_cases hc : hp key xs[k].1 = true ∧ (lpP xs key k < 0 ∨ llen xs (lpP xs key k) < xs[k].1.length)
    · rw [if_pos hc]
      refine ⟨fun j hj h => ?_, fun j hj hjk h => ⟨by omega, ?_⟩⟩
      · have : j = k := by omega
        subst this
        exact hc.1
      · rw [llen_at hkl]
        by_cases e : j = k
        · subst e; exact Nat.le_refl _
        · obtain ⟨g1, g2⟩ := i2 j hj (by omega) h
          rcases hc.2 with h3 | h3 <;> omega
    · rw [if_neg hc]
      refine ⟨i1, fun j hj hjk h => ?_⟩
      by_cases e : j = k
      · subst e
        have h3 : ¬ (lpP xs key j < 0 ∨ llen xs (lpP xs key j) < xs[j].1.length) := fun h3 => hc ⟨h, h3⟩
        exact ⟨by omega, by omega⟩
      · exact i2 j hj (by omega) h
end Go.Proofs.Ytcagbdidjakcpaa
