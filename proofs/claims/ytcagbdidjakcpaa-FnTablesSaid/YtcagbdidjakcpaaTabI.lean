/- slices.Insert of one entry into a table that the call owns, with all names. Conditions: the entry's name and block are new memory; bounds. -/
import Derived.Test.YtcagbdidjakcpaaIns
import Derived.Test.YtcagbdidjakcpaaTabC
set_option linter.unusedVariables false
namespace Go.Proofs.Ytcagbdidjakcpaa
open Go.RowKit
theorem insert_c {w : World} {lo hi ub n k : Nat} {v : Value} {xs : List Value} {a b : Value} (h : Own w lo hi 80 2 v n xs) (hu : w.heap[ub]? = some (.cells #[a, b] 80 (0, 0))) (hub : ub < lo ∨ hi ≤ ub) (h1 : ∀ u ∈ [a, b], u.oneCell' = true) (h1x : ∀ u ∈ xs, u.oneCell' = true) (hk : k ≤ n) (hn : n ≤ 1099511627776) :
    Calls Try.prog 105 #[v, .int .i64 k, .slice (some ⟨ub, 0, none⟩) 1 1] w fun e w' => ∃ r o, e = .returned r ∧ (o = (lo, hi) ∨ o = (w.heap.size, w'.heap.size)) ∧ Own w' o.1 o.2 80 2 r (n + 1) (xs.take (k * 2) ++ [a, b] ++ xs.drop (k * 2)) ∧ Mut lo hi w w' := by
  rcases Nat.eq_or_lt_of_le hk with rfl | hlt
  · have hl := h.1
    rw [List.take_of_length_le (by omega), List.drop_eq_nil_of_le (by omega), List.append_nil]
    exact ins_end h hu h1 hn
  · obtain ⟨_, ⟨h0, _⟩ | ⟨g, cap, cur, rfl, hlo, hhi, hg, hnc, hcm, hcs, hx⟩⟩ := h
    · omega
    · by_cases hr : n + 1 ≤ cap
      · exact ins_room hg hlo hhi hcm hcs hx hr hlt hu hub h1 h1x
      · refine (ins_grow (lo := lo) (hi := hi) hg hcs hx hnc (by omega) hlt hn hu h1 h1x).mono ?_
        rintro e w' ⟨r, rfl, ho, hb⟩
        exact ⟨r, _, rfl, .inr rfl, ho, Mut.of_ext hb⟩
theorem Inn.one {w : World} {lo hi n : Nat} {cs : List Value} {p : Nat → Nat × Nat} {xs : List (List ByteArray × Int)} (hin : Inn w lo hi cs p xs n) (hx : xs.length = n) (hcs : cs.length = n * 2) : ∀ u ∈ cs, u.oneCell' = true := by
  intro u hu
  obtain ⟨i, hi, rfl⟩ := List.getElem_of_mem hu
  have hj : i / 2 < n := by omega
  obtain ⟨s, c1, c2, o, _⟩ := hin (i / 2) _ hj (List.getElem?_eq_getElem (by omega))
  obtain ⟨a, c, rfl, _⟩ := o.rd.form
  rcases Nat.mod_two_eq_zero_or_one i with h | h
  · rw [show i / 2 * 2 = i by omega, List.getElem?_eq_getElem hi] at c1
    injection c1 with c1
    rw [c1]; rfl
  · rw [show i / 2 * 2 + 1 = i by omega, List.getElem?_eq_getElem hi] at c2
    injection c2 with c2
    rw [c2]; rfl
theorem insertT_c {w : World} {lo hi ub n k q r : Nat} {v s : Value} {xs : List (List ByteArray × Int)} {ss : List ByteArray} {i : Int} (h : OwnT w lo hi v n xs) (hs : Own w q r 9 1 s ss.length (ss.map sv)) (hq : hi ≤ q) (hlo : lo ≤ q) (hqr : q ≤ r) (hu : w.heap[ub]? = some (.cells #[s, .int .i64 i] 80 (0, 0))) (hub : r ≤ ub) (hk : k ≤ n) (hn : n ≤ 1099511627776) :
    Calls Try.prog 105 #[v, .int .i64 k, .slice (some ⟨ub, 0, none⟩) 1 1] w fun e w' => ∃ v', e = .returned v' ∧ OwnT w' lo w'.heap.size v' (n + 1) (xs.take k ++ (ss, i) :: xs.drop k) ∧ Mut lo hi w w' := by
  obtain ⟨hx, cs, o, p, ho, h1, h2, hin, hap⟩ := h
  have huw := (Array.getElem?_eq_some_iff.1 hu).1
  have hcs : cs.length = n * 2 := ho.1
  have hone := hin.one hx hcs
  have hpj : ∀ j, j < n → (p j).2 ≤ hi := fun j hj => (hin j _ hj (List.getElem?_eq_getElem (by omega))).choose_spec.2.2.2.2.1
  have hins := hin.ins (i := i) hx hcs hk hs hq hlo hqr
  have hs1 : ∀ u ∈ [s, .int .i64 i], u.oneCell' = true := by
    obtain ⟨a, c, rfl, _⟩ := hs.rd.form
    intro u hu
    rcases List.mem_cons.1 hu with rfl | hu
    · rfl
    · rcases List.mem_cons.1 hu with rfl | hu
      · rfl
      · cases hu
  refine (insert_c ho hu (.inr (by omega)) hs1 hone hk hn).mono ?_
  rintro e w' ⟨v', o', rfl, hc, hown, hm⟩
  have hA : ∀ j, j < n + 1 → Apart o (pIns p k (q, r) j) := by
    intro j hj
    unfold pIns
    by_cases g1 : j < k
    · rw [if_pos g1]; exact hap j (by omega)
    · rw [if_neg g1]
      by_cases g2 : j = k
      · rw [if_pos g2]; exact .inl (by simp only; omega)
      · rw [if_neg g2]; exact hap _ (by omega)
  refine ⟨v', rfl, ⟨by rw [ins_len _ _ _ (by omega), hx], _, o', _, hown, ?_, ?_, ((hins.apart hm hA).mono (Nat.le_refl _) (by have := hm.size; omega)), ?_⟩, hm.mono h1 h2⟩
  · rcases hc with rfl | rfl
    · exact h1
    · simp only; omega
  · rcases hc with rfl | rfl
    · have := hm.size; simp only; omega
    · exact Nat.le_refl _
  · rcases hc with rfl | rfl
    · exact hA
    · intro j hj
      unfold pIns
      by_cases g1 : j < k
      · rw [if_pos g1]; exact .inr (by have := hpj j (by omega); simp only; omega)
      · rw [if_neg g1]
        by_cases g2 : j = k
        · rw [if_pos g2]; exact .inr (by simp only; omega)
        · rw [if_neg g2]; exact .inr (by have := hpj (j - 1) (by omega); simp only; omega)
end Go.Proofs.Ytcagbdidjakcpaa
