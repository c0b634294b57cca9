/- An entry put into a table, in plain lists; a table that a call owns with an entry more in the middle. Nothing here speaks of the program. -/
import Derived.Test.YtcagbdidjakcpaaTabM
import Derived.Test.YtcagbdidjakcpaaTabL
import Derived.Test.YtcagbdidjakcpaaTabV
import Derived.Test.YtcagbdidjakcpaaTabN
set_option linter.unusedVariables false
namespace Go.Proofs.Ytcagbdidjakcpaa
open Go.RowKit
/-- How many entries lie ahead of the name. -/
def pls : List (List ByteArray × Int) → List ByteArray → Nat
  | [], _ => 0
  | e :: r, key => if cn e.1 key < 0 then pls r key + 1 else 0
theorem pls_le : ∀ (xs : List (List ByteArray × Int)) (key : List ByteArray), pls xs key ≤ xs.length
  | [], _ => by simp [pls]
  | e :: r, key => by
    have := pls_le r key
    unfold pls
    split
    · simp only [List.length_cons]; omega
    · omega
theorem pls_step {xs : List (List ByteArray × Int)} {key : List ByteArray} {k : Nat} (h : k < xs.length) (hc : cn xs[k].1 key < 0) : pls (xs.drop k) key = pls (xs.drop (k + 1)) key + 1 := by
  rw [List.drop_eq_getElem_cons h, pls, if_pos hc]
theorem pls_stop {xs : List (List ByteArray × Int)} {key : List ByteArray} {k : Nat} (h : k < xs.length) (hc : ¬ cn xs[k].1 key < 0) : pls (xs.drop k) key = 0 := by
  rw [List.drop_eq_getElem_cons h, pls, if_neg hc]
theorem pls_end {xs : List (List ByteArray × Int)} {key : List ByteArray} {k : Nat} (h : xs.length ≤ k) : pls (xs.drop k) key = 0 := by
  rw [List.drop_eq_nil_of_le h, pls]
/-- The place of the first entry whose name is greater; -1 if none is. -/
def gi : List (List ByteArray × Int) → List ByteArray → Int → Int
  | [], _, _ => -1
  | e :: r, key, k => if 0 < cn e.1 key then k else gi r key (k + 1)
theorem gi_step {xs : List (List ByteArray × Int)} {key : List ByteArray} {k : Nat} (h : k < xs.length) : gi (xs.drop k) key k = if 0 < cn xs[k].1 key then (k : Int) else gi (xs.drop (k + 1)) key ((k + 1 : Nat) : Int) := by
  rw [List.drop_eq_getElem_cons h, gi]; rfl
theorem gi_end {xs : List (List ByteArray × Int)} {key : List ByteArray} {k : Nat} (h : xs.length ≤ k) : gi (xs.drop k) key k = -1 := by
  rw [List.drop_eq_nil_of_le h, gi]
theorem gi_pls : ∀ (xs : List (List ByteArray × Int)) (key : List ByteArray) (k : Int), (∀ e ∈ xs, e.1 ≠ key) → gi xs key k = if pls xs key = xs.length then -1 else k + (pls xs key : Int)
  | [], _, _, _ => by simp [gi, pls]
  | e :: r, key, k, h => by
    have ih := gi_pls r key (k + 1) (fun x hx => h x (List.mem_cons_of_mem _ hx))
    have he : cn e.1 key ≠ 0 := fun h0 => h e (List.mem_cons_self ..) ((cn_zero _ _).1 h0)
    have hl := pls_le r key
    rw [gi, pls]
    by_cases hp : 0 < cn e.1 key
    · rw [if_pos hp, if_neg (show ¬ cn e.1 key < 0 by omega), if_neg (by simp only [List.length_cons]; omega)]
      simp
    · rw [if_neg hp, if_pos (show cn e.1 key < 0 by omega), ih]
      simp only [List.length_cons]
      by_cases hq : pls r key = r.length
      · rw [if_pos hq, if_pos (by omega)]
      · rw [if_neg hq, if_neg (by omega)]
        omega
theorem ti_none : ∀ (xs : List (List ByteArray × Int)) (key : List ByteArray) (k : Int), 0 ≤ k → ti xs key k = -1 → ∀ e ∈ xs, e.1 ≠ key
  | [], _, _, _, _ => fun e he => by cases he
  | x :: r, key, k, hk, h => by
    rw [ti] at h
    split at h
    · omega
    · rename_i hne
      have ih := ti_none r key (k + 1) (by omega) h
      intro e he
      rcases List.mem_cons.1 he with rfl | he
      · exact hne
      · exact ih e he
theorem ti_at : ∀ (xs : List (List ByteArray × Int)) (key : List ByteArray) (k : Int) (j : Nat), ti xs key k = k + (j : Int) → 0 ≤ k → ∃ h : j < xs.length, xs[j].1 = key
  | [], _, k, j, h, hk => by rw [ti] at h; omega
  | x :: r, key, k, j, h, hk => by
    rw [ti] at h
    split at h
    · rename_i he
      have hj : j = 0 := by omega
      subst hj
      exact ⟨by simp, he⟩
    · cases j with
      | zero =>
        exfalso
        have hb : ∀ (l : List (List ByteArray × Int)) (q : Int), ti l key q = -1 ∨ q ≤ ti l key q := by
          intro l
          induction l with
          | nil => intro q; exact .inl (by rw [ti])
          | cons y l ih =>
            intro q
            rw [ti]
            split
            · exact .inr (Int.le_refl _)
            · rcases ih (q + 1) with h1 | h1
              · exact .inl h1
              · exact .inr (by omega)
        rcases hb r (k + 1) with h1 | h1 <;> omega
      | succ j =>
        obtain ⟨h1, h2⟩ := ti_at r key (k + 1) j (by rw [h]; omega) (by omega)
        exact ⟨by simp only [List.length_cons]; omega, by simpa using h2⟩
def peY (xs : List (List ByteArray × Int)) (key : List ByteArray) (v : Int) : List (List ByteArray × Int) :=
  if ti xs key 0 = -1 then xs.take (pls xs key) ++ (key, v) :: xs.drop (pls xs key) else xs.set (ti xs key 0).toNat (key, v)
def pe (xs : List (List ByteArray × Int)) (key : List ByteArray) (v : Int) : List (List ByteArray × Int) × Bool := if vt (peY xs key v) = true then (peY xs key v, true) else (xs, false)
theorem pe_yes {xs : List (List ByteArray × Int)} {key : List ByteArray} {v : Int} (h : vt (peY xs key v) = true) : pe xs key v = (peY xs key v, true) := by unfold pe; rw [if_pos h]
theorem pe_no {xs : List (List ByteArray × Int)} {key : List ByteArray} {v : Int} (h : vt (peY xs key v) = false) : pe xs key v = (xs, false) := by unfold pe; rw [if_neg (by rw [h]; decide)]
theorem peY_ins {xs : List (List ByteArray × Int)} {key : List ByteArray} {v : Int} {k : Nat} (h : ti xs key 0 = -1) (hk : pls xs key = k) : peY xs key v = xs.take k ++ (key, v) :: xs.drop k := by unfold peY; rw [if_pos h, hk]
theorem peY_set {xs : List (List ByteArray × Int)} {key : List ByteArray} {v : Int} {j : Nat} (h : ti xs key 0 = (j : Int)) : peY xs key v = xs.set j (key, v) := by unfold peY; rw [if_neg (by omega), h, Int.toNat_natCast]
theorem ins_len {α : Type} (xs : List α) (k : Nat) (x : α) (hk : k ≤ xs.length) : (xs.take k ++ x :: xs.drop k).length = xs.length + 1 := by simp; omega
theorem peY_len (xs : List (List ByteArray × Int)) (key : List ByteArray) (v : Int) : (peY xs key v).length ≤ xs.length + 1 := by
  unfold peY
  split
  · rw [ins_len _ _ _ (pls_le xs key)]; omega
  · rw [List.length_set]; omega
theorem sum_ins (f : (List ByteArray × Int) → Nat) (xs : List (List ByteArray × Int)) (k : Nat) (x : (List ByteArray × Int)) : ((xs.take k ++ x :: xs.drop k).map f).sum = (xs.map f).sum + f x := by
  have e := congrArg (fun l : List (List ByteArray × Int) => (l.map f).sum) (List.take_append_drop k xs)
  simp only [List.map_append, List.sum_append, List.map_cons, List.sum_cons] at e ⊢
  omega
theorem sum_set (f : (List ByteArray × Int) → Nat) : ∀ (xs : List (List ByteArray × Int)) (j : Nat) (x : (List ByteArray × Int)), ((xs.set j x).map f).sum ≤ (xs.map f).sum + f x
  | [], _, _ => by simp
  | y :: r, 0, x => by simp only [List.set_cons_zero, List.map_cons, List.sum_cons]; omega
  | y :: r, j + 1, x => by
    have := sum_set f r j x
    simp only [List.set_cons_succ, List.map_cons, List.sum_cons]
    omega
theorem tw_peY (xs : List (List ByteArray × Int)) (key : List ByteArray) (v : Int) : tw (peY xs key v).length (peY xs key v) ≤ tw xs.length xs + wt key + 1 := by
  rw [twS, twS]
  have h1 := peY_len xs key v
  unfold peY at h1 ⊢
  split
  · rw [if_pos (by assumption)] at h1
    rw [sum_ins]
    simp only
    omega
  · rw [if_neg (by assumption)] at h1
    have h2 : ((xs.set (ti xs key 0).toNat (key, v)).map fun e => wt e.1).sum ≤ (xs.map fun e => wt e.1).sum + wt key := sum_set (fun e => wt e.1) xs (ti xs key 0).toNat (key, v)
    omega
theorem tw_pe (xs : List (List ByteArray × Int)) (key : List ByteArray) (v : Int) : tw (pe xs key v).1.length (pe xs key v).1 ≤ tw xs.length xs + wt key + 1 := by
  unfold pe
  split
  · exact tw_peY xs key v
  · simp only; omega
theorem pe_size {xs : List (List ByteArray × Int)} {key : List ByteArray} {v : Int} (h : ∀ e ∈ xs, ∀ s ∈ e.1, s.size ≤ 9223372036854775807) (hk : ∀ s ∈ key, s.size ≤ 9223372036854775807) : ∀ e ∈ peY xs key v, ∀ s ∈ e.1, s.size ≤ 9223372036854775807 := by
  intro e he
  unfold peY at he
  split at he
  · rcases List.mem_append.1 he with he | he
    · exact h e (List.mem_of_mem_take he)
    · rcases List.mem_cons.1 he with rfl | he
      · exact hk
      · exact h e (List.mem_of_mem_drop he)
  · rcases List.mem_or_eq_of_mem_set he with he | rfl
    · exact h e he
    · exact hk
/-! ### A table with an entry more in the middle -/
theorem ins_get {α : Type} (xs : List α) (k : Nat) (x : α) (hk : k ≤ xs.length) (j : Nat) : (xs.take k ++ x :: xs.drop k)[j]? = if j < k then xs[j]? else if j = k then some x else xs[j - 1]? := by
  by_cases h1 : j < k
  · rw [if_pos h1, List.getElem?_append_left (by rw [List.length_take]; omega), List.getElem?_take, if_pos h1]
  · rw [if_neg h1, List.getElem?_append_right (by rw [List.length_take]; omega), List.length_take, show min k xs.length = k by omega]
    by_cases h2 : j = k
    · subst h2; rw [if_pos rfl]; simp
    · rw [if_neg h2, show j - k = (j - 1 - k) + 1 by omega, List.getElem?_cons_succ, List.getElem?_drop]
      congr 1
      omega
theorem ins_get2 (cs : List Value) (k : Nat) (a b : Value) (hk : k * 2 ≤ cs.length) (i : Nat) : (cs.take (k * 2) ++ [a, b] ++ cs.drop (k * 2))[i]? = if i < k * 2 then cs[i]? else if i = k * 2 then some a else if i = k * 2 + 1 then some b else cs[i - 2]? := by
  rw [List.append_assoc]
  by_cases h1 : i < k * 2
  · rw [if_pos h1, List.getElem?_append_left (by rw [List.length_take]; omega), List.getElem?_take, if_pos h1]
  · rw [if_neg h1, List.getElem?_append_right (by rw [List.length_take]; omega), List.length_take, show min (k * 2) cs.length = k * 2 by omega]
    by_cases h2 : i = k * 2
    · subst h2; rw [if_pos rfl]; simp
    · rw [if_neg h2]
      by_cases h3 : i = k * 2 + 1
      · subst h3; rw [if_pos rfl]; simp
      · rw [if_neg h3, show i - k * 2 = (i - 2 - k * 2) + 1 + 1 by omega]
        simp only [List.cons_append, List.nil_append, List.getElem?_cons_succ, List.getElem?_drop]
        congr 1
        omega
def pIns (p : Nat → Nat × Nat) (k : Nat) (q : Nat × Nat) (j : Nat) : Nat × Nat := if j < k then p j else if j = k then q else p (j - 1)
theorem Apart.symm {p q : Nat × Nat} (h : Apart p q) : Apart q p := by unfold Apart at h ⊢; omega
theorem Inn.ins {w : World} {lo hi n k q r : Nat} {cs : List Value} {p : Nat → Nat × Nat} {xs : List (List ByteArray × Int)} {s : Value} {ss : List ByteArray} {i : Int} (hin : Inn w lo hi cs p xs n) (hx : xs.length = n) (hcs : cs.length = n * 2) (hk : k ≤ n)
    (hs : Own w q r 9 1 s ss.length (ss.map sv)) (hq : hi ≤ q) (hlo : lo ≤ q) (hqr : q ≤ r) :
    Inn w lo r (cs.take (k * 2) ++ [s, .int .i64 i] ++ cs.drop (k * 2)) (pIns p k (q, r)) (xs.take k ++ (ss, i) :: xs.drop k) (n + 1) := by
  have hap : ∀ a b, a < n → b < n → a ≠ b → Apart (p a) (p b) := by
    intro a b ha hb hab
    rcases Nat.lt_or_ge a b with h | h
    · exact (hin b _ hb (List.getElem?_eq_getElem (by omega))).choose_spec.2.2.2.2.2 a h
    · exact ((hin a _ ha (List.getElem?_eq_getElem (by omega))).choose_spec.2.2.2.2.2 b (by omega)).symm
  have hhi : ∀ a, a < n → (p a).2 ≤ hi := fun a ha => (hin a _ ha (List.getElem?_eq_getElem (by omega))).choose_spec.2.2.2.2.1
  intro j e hj he
  rw [ins_get xs k _ (by omega)] at he
  have hA : ∀ i', i' < j → Apart (pIns p k (q, r) i') (pIns p k (q, r) j) := by
    intro i' hi'
    unfold pIns
    by_cases h1 : j < k
    · rw [if_pos h1, if_pos (by omega)]; exact hap _ _ (by omega) (by omega) (by omega)
    · rw [if_neg h1]
      by_cases h2 : j = k
      · rw [if_pos h2, if_pos (by omega)]; exact .inl (Nat.le_trans (hhi i' (by omega)) hq)
      · rw [if_neg h2]
        by_cases h3 : i' < k
        · rw [if_pos h3]; exact hap _ _ (by omega) (by omega) (by omega)
        · rw [if_neg h3]
          by_cases h4 : i' = k
          · rw [if_pos h4]; exact .inr (Nat.le_trans (hhi (j - 1) (by omega)) hq)
          · rw [if_neg h4]; exact hap _ _ (by omega) (by omega) (by omega)
  by_cases h1 : j < k
  · rw [if_pos h1] at he
    obtain ⟨s', c1, c2, o', g1, g2, _⟩ := hin j e (by omega) he
    refine ⟨s', ?_, ?_, ?_, ?_, ?_, hA⟩
    · rw [ins_get2 _ _ _ _ (by omega), if_pos (by omega)]; exact c1
    · rw [ins_get2 _ _ _ _ (by omega), if_pos (by omega)]; exact c2
    all_goals (unfold pIns; rw [if_pos h1])
    · exact o'
    · exact g1
    · omega
  · rw [if_neg h1] at he
    by_cases h2 : j = k
    · subst h2
      rw [if_pos rfl] at he
      injection he with he
      subst he
      refine ⟨s, ?_, ?_, ?_, ?_, ?_, hA⟩
      · rw [ins_get2 _ _ _ _ (by omega), if_neg (by omega), if_pos rfl]
      · rw [ins_get2 _ _ _ _ (by omega), if_neg (by omega), if_neg (by omega), if_pos rfl]
      all_goals (unfold pIns; rw [if_neg (by omega), if_pos rfl])
      · exact hs
      · exact hlo
      · exact Nat.le_refl _
    · rw [if_neg h2] at he
      obtain ⟨s', c1, c2, o', g1, g2, _⟩ := hin (j - 1) e (by omega) he
      refine ⟨s', ?_, ?_, ?_, ?_, ?_, hA⟩
      · rw [ins_get2 _ _ _ _ (by omega), if_neg (by omega), if_neg (by omega), if_neg (by omega), show j * 2 - 2 = (j - 1) * 2 by omega]; exact c1
      · rw [ins_get2 _ _ _ _ (by omega), if_neg (by omega), if_neg (by omega), if_neg (by omega), show j * 2 + 1 - 2 = (j - 1) * 2 + 1 by omega]; exact c2
      all_goals (unfold pIns; rw [if_neg h1, if_neg h2])
      · exact o'
      · exact g1
      · omega
end Go.Proofs.Ytcagbdidjakcpaa
