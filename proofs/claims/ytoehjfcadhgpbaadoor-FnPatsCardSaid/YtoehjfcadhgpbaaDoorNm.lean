/- Laws of names in plain lists: what is written is read again; the order is total; a name is not behind its prefixes. Nothing here speaks of the program's code. -/
import Derived.Test.YtoehjfcadhgpbaaDoorPz
import Derived.Test.YtoehjfcadhgpbaaDoorCmp
import Derived.Test.YtoehjfcadhgpbaaDoorHp
import Derived.Test.YtoehjfcadhgpbaaDoorTr
set_option linter.unusedVariables false
namespace Go.Proofs.YtoehjfcadhgpbaaDoor
open Go.RowKit
theorem vp_noSlash {s : ByteArray} (h : vp s = true) : ∀ c ∈ s.data.toList, c ≠ 47 := by
  intro c hc e
  subst e
  unfold vp at h
  rw [Bool.and_eq_true] at h
  have := List.all_eq_true.1 h.2 _ hc
  exact absurd this (by decide)
theorem vp_pos {s : ByteArray} (h : vp s = true) : 1 ≤ s.size := by
  unfold vp at h
  rw [Bool.and_eq_true] at h
  exact (of_decide_eq_true h.1).1
theorem spl_parts : ∀ (p : List UInt8) (rest : List (List UInt8)), (∀ q ∈ p :: rest, ∀ c ∈ q, c ≠ 47) → spl (p ++ rest.flatMap fun s => 47 :: s) = p :: rest
  | p, [], h => by
    rw [List.flatMap_nil, List.append_nil]
    exact spl_end p (h p (List.mem_cons_self ..))
  | p, q :: rest, h => by
    rw [List.flatMap_cons, List.cons_append, spl_cut p _ (h p (List.mem_cons_self ..)), spl_parts q rest fun x hx => h x (List.mem_cons_of_mem _ hx)]
theorem pn_fmt {n : List ByteArray} (h : vn n = true) : pnm vn (fmt n) = (n, true) := by
  cases n with
  | nil => exact pnm_slash fmt_nil
  | cons p r =>
    have hv := h
    unfold vn at h
    rw [Bool.and_eq_true] at h
    have ha : ∀ s ∈ p :: r, vp s = true := fun s hs => List.all_eq_true.1 h.1 s hs
    have e : fmt (p :: r) = bs (47 :: (p.data.toList ++ (r.map fun s => s.data.toList).flatMap fun s => 47 :: s)) := by
      rw [fmt_pos (by simp), fm, List.take_length, List.flatMap_cons, List.cons_append, List.flatMap_map]
    have hps : ps (fmt (p :: r)) = p :: r := by
      rw [e, ps, bs_list, List.drop_succ_cons, List.drop_zero, spl_parts _ _ (by
        intro q hq
        rcases List.mem_cons.1 hq with rfl | hq
        · exact vp_noSlash (ha p (List.mem_cons_self ..))
        · obtain ⟨s, hs, rfl⟩ := List.mem_map.1 hq
          exact vp_noSlash (ha s (List.mem_cons_of_mem _ hs)))]
      rw [List.map_cons, List.map_map]
      congr 1
      conv => rhs; rw [← List.map_id r]
      exact List.map_congr_left fun s _ => bs_back s
    have h1 : ¬ fmt (p :: r) = bs [47] := by
      intro h2
      have h3 := congrArg (fun s : ByteArray => s.data.toList) (e.symm.trans h2)
      simp only [bs_list] at h3
      injection h3 with _ h3
      have h4 := congrArg List.length h3
      have h5 := vp_pos (ha p (List.mem_cons_self ..))
      have h6 : p.data.toList.length = p.size := by simp
      rw [List.length_append, List.length_nil, h6] at h4
      omega
    rw [pnm_yes h1 (by rw [e, bs_list]; rfl) (by rw [hps]; exact hv), hps]
theorem pn_back {V : List ByteArray → Bool} (hV : V [] = true) {s : ByteArray} (h : (pnm V s).2 = true) : fmt (pnm V s).1 = s := by
  have e := pn_impl hV s
  by_cases hc : V (pI s) = true ∧ fmt (pI s) = s
  · rw [if_pos hc] at e; rw [e]; exact hc.2
  · rw [if_neg hc] at e; rw [e] at h; cases h
theorem less_cases : ∀ l m : List UInt8, l = m ∨ (Op.bytesLess l m = true ∧ Op.bytesLess m l = false) ∨ (Op.bytesLess l m = false ∧ Op.bytesLess m l = true)
  | [], [] => .inl rfl
  | [], b :: m => .inr (.inl ⟨rfl, rfl⟩)
  | a :: l, [] => .inr (.inr ⟨rfl, rfl⟩)
  | a :: l, b :: m => by
    have ih := less_cases l m
    by_cases h1 : a < b
    · have h2 : ¬ b < a := fun h => absurd (UInt8.lt_iff_toNat_lt.1 h) (by have := UInt8.lt_iff_toNat_lt.1 h1; omega)
      right; left
      constructor
      · simp [Op.bytesLess, h1]
      · have : b ≠ a := by rintro rfl; exact h2 h1
        simp [Op.bytesLess, h2, this]
    · by_cases h2 : b < a
      · have : a ≠ b := by rintro rfl; exact h1 h2
        right; right
        constructor
        · simp [Op.bytesLess, h1, this]
        · simp [Op.bytesLess, h2]
      · have : a = b := UInt8.toNat_inj.1 (by
          have u1 : ¬ a.toNat < b.toNat := fun h => h1 (UInt8.lt_iff_toNat_lt.2 h)
          have u2 : ¬ b.toNat < a.toNat := fun h => h2 (UInt8.lt_iff_toNat_lt.2 h)
          omega)
        subst this
        rcases ih with rfl | ⟨i1, i2⟩ | ⟨i1, i2⟩
        · exact .inl rfl
        · right; left; simp [Op.bytesLess, h1, i1, i2]
        · right; right; simp [Op.bytesLess, h1, i1, i2]
theorem sc_anti (a b : ByteArray) : sc a b = -sc b a := by
  rcases less_cases a.toList b.toList with h | ⟨h1, h2⟩ | ⟨h1, h2⟩
  · have := (str_eq a b).1 h
    subst this
    rw [(sc_zero a a).2 rfl]; rfl
  · have hn : ¬ (b.toList == a.toList) = true := by
      intro e; rw [beq_iff_eq.1 e, less_self] at h1; cases h1
    unfold sc
    rw [if_pos h1, if_neg (by rw [h2]; decide), if_neg hn]
  · have hn : ¬ (a.toList == b.toList) = true := by
      intro e; rw [beq_iff_eq.1 e, less_self] at h2; cases h2
    unfold sc
    rw [if_neg (by rw [h1]; decide), if_neg hn, if_pos h2]
    rfl
theorem cn_anti : ∀ xs ys : List ByteArray, cn xs ys = -cn ys xs
  | [], [] => rfl
  | [], _ :: _ => rfl
  | _ :: _, [] => rfl
  | x :: xs, y :: ys => by
    have h := sc_anti x y
    rw [cn, cn]
    by_cases e : sc x y = 0
    · rw [if_pos e, if_pos (by omega), cn_anti xs ys]
    · rw [if_neg e, if_neg (by omega), h]
theorem hp_take (xs : List ByteArray) (k : Nat) : hp xs (xs.take k) = true := by
  unfold hp
  refine decide_eq_true ?_
  rw [List.length_take]
  by_cases h : k ≤ xs.length
  · rw [show min k xs.length = k by omega]
  · rw [show min k xs.length = xs.length by omega, List.take_length, List.take_of_length_le (by omega)]
theorem cn_pre : ∀ b a : List ByteArray, a.take b.length = b → cn b a ≤ 0
  | [], [], _ => by simp [cn]
  | [], _ :: _, _ => by simp [cn]
  | y :: b, [], h => by simp at h
  | y :: b, x :: a, h => by
    rw [List.length_cons, List.take_succ_cons] at h
    injection h with h1 h2
    subst h1
    rw [cn, if_pos ((sc_zero x x).2 rfl)]
    exact cn_pre b a h2
theorem hp_cn {a b : List ByteArray} (h : hp a b = true) : cn b a ≤ 0 := cn_pre b a (of_decide_eq_true h)
end Go.Proofs.YtoehjfcadhgpbaaDoor
