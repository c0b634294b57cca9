/- Truncate: the head of a slice reads as the head of its cells. (The contracts of Truncate of both sides are to follow here.) -/
import Derived.Test.YtoehjfcadhgpbaaDoorName
set_option linter.unusedVariables false
namespace Go.Proofs.YtoehjfcadhgpbaaDoor
open Go.RowKit
theorem Rd.take {w : World} {lo hi n k cap : Nat} {a : Option Addr} {xs : List Value} (h : Rd w lo hi 1 (.slice a n cap) n xs) (hk : k ≤ n) : Rd w lo hi 1 (.slice a k cap) k (xs.take k) := by
  obtain ⟨h1, a', cap', e, h2, h3, h4⟩ := h
  injection e with e1 e2 e3
  subst e1 e3
  refine ⟨by rw [List.length_take]; omega, _, _, rfl, by omega, h3, fun hn => ?_⟩
  obtain ⟨b, off, rfl, hl, hh, hb, hc⟩ := h4 (by omega)
  refine ⟨b, off, rfl, hl, hh, hb, fun j u hu => hc j u ?_⟩
  rw [List.getElem?_take] at hu
  split at hu
  · exact hu
  · cases hu
/-- How many parts are left. -/
def trn (k : Int) (n : Nat) : Nat := (max 0 (min k (n : Int))).toNat
theorem trn_le (k : Int) (n : Nat) : trn k n ≤ n := by unfold trn; omega
set_option maxRecDepth 100000 in
set_option maxHeartbeats 1000000 in
theorem implTruncate_c {w : World} {lo hi n : Nat} {v : Value} {xs : List ByteArray} {k : Int} (h : RdN w lo hi v n (xs.map sv)) (hn : n ≤ 8796093022208) :
    Calls Tryd.prog 47 #[v, .int .i64 k] w (Gives w fun r w' => OwnN w' w.heap.size w'.heap.size r (trn k n) ((xs.take (trn k n)).map sv)) := by
  obtain ⟨s, rfl, h⟩ := h
  obtain ⟨a, cap, rfl, hc, hm⟩ := h.form'
  by_cases hn0 : n = 0
  · subst hn0
    have x0 : Below w.heap.size w ((w.alloc (.cells #[.slice a 0 cap] 30)).alloc (.cells #[.slice none 0 0] 30)) := ext_alloc (ext_alloc (ext_refl w) _) _
    have T := (h.ext x0).take (trn_le k 0)
    rw [← List.map_take] at T
    have C := hid (cloneString_c T (by have := trn_le k 0; omega))
    have hT : trn k 0 = 0 := by have := trn_le k 0; omega
    rw [hT] at C ⊢
    clear h T hT
    have h3 : k < 0 ∨ k = 0 ∨ 0 < k := by omega
    rcases h3 with h3 | rfl | h3
    all_goals
      have i1 : (0 : Int) ≤ (cap : Int) := by omega
      try have i2 : decide (k < 0) = false := decide_eq_false (by omega)
      try have i3 : decide (0 < k) = false := decide_eq_false (by omega)
      go_enter Tryd.func47, Tryd.ntmps47
      go_wp2_with fail
      refine C.out.mono ?_
      rintro e w1 ⟨v1, rfl, o1, y1⟩
      have s1 := y1.size
      simp at s1
      have x1 := ext_trans x0 y1
      obtain ⟨cB, fB⟩ := (Cell1.new (w.alloc (.cells #[.slice a 0 cap] 30)) (.slice none 0 0) 30).ext y1
      rw [show (w.alloc (.cells #[.slice a 0 cap] 30)).heap.size = w.heap.size + 1 by simp] at cB fB
      obtain ⟨a1, c1, rfl, _⟩ := o1.rd.form
      clear C y1 x0
      go_wp2
      rw [show ((w.alloc (.cells #[.slice a 0 cap] 30)).alloc (.cells #[.slice none 0 0] 30)).heap.size = w.heap.size + 2 by simp] at o1
      have M : ∀ u, Mut w.heap.size (w.heap.size + 2) w1 (w1.setCell ⟨w.heap.size + 1, 0, none⟩ u) := fun u => Mut.setCell w1 (by simp only; omega) (by simp only; omega) _
      exact bodyPost_ret (v := .agg #[_]) (by simp [results, Tryd.results47, go_sem, cB]) rfl (gives_of _ ⟨_, rfl, (o1.mut (M _) (Or.inr (Nat.le_refl _))).mono (by omega) ((M _).size)⟩ ((M _).ext x1 (Nat.le_refl _)))
  have x0 : Below w.heap.size w ((w.alloc (.cells #[.slice a n cap] 30)).alloc (.cells #[.slice none 0 0] 30)) := ext_alloc (ext_alloc (ext_refl w) _) _
  have T := (h.ext x0).take (trn_le k n)
  rw [← List.map_take] at T
  have C := hid (cloneString_c T (by have := trn_le k n; omega))
  have hT : ((trn k n : Nat) : Int) = max 0 (min k (n : Int)) := by unfold trn; omega
  have hT1 := trn_le k n
  clear h T
  generalize trn k n = t at *
  have h3 : (t = 0 ∧ k < 0) ∨ (t = 0 ∧ k = 0) ∨ (k = (t : Int) ∧ 0 < t ∧ t < n) ∨ (n = t ∧ (n : Int) < k ∧ 0 < n) ∨ (n = t ∧ k = (n : Int) ∧ 0 < n) := by omega
  clear hT
  rcases h3 with ⟨rfl, h3⟩ | ⟨rfl, rfl⟩ | ⟨rfl, h4, h3⟩ | ⟨rfl, h3, h4⟩ | ⟨rfl, rfl, h4⟩
  all_goals
    have i0 : (0 : Int) ≤ (n : Int) := by omega
    have i1 : (n : Int) ≤ (cap : Int) := by omega
    try have i2 : (t : Int) ≤ (n : Int) := by omega
    try have i3 : (0 : Int) ≤ (t : Int) := by omega
    try have i4 : (t : Int) ≤ (cap : Int) := by omega
    try have i5 : k < (n : Int) := by omega
    try have i7 : (t : Int) < (n : Int) := by omega
    try have i6 : (0 : Int) ≤ k := by omega
    go_enter Tryd.func47, Tryd.ntmps47
    go_wp2_with fail
    refine C.out.mono ?_
    rintro e w1 ⟨v1, rfl, o1, y1⟩
    have s1 := y1.size
    simp at s1
    have x1 := ext_trans x0 y1
    obtain ⟨cB, fB⟩ := (Cell1.new (w.alloc (.cells #[.slice a n cap] 30)) (.slice none 0 0) 30).ext y1
    rw [show (w.alloc (.cells #[.slice a n cap] 30)).heap.size = w.heap.size + 1 by simp] at cB fB
    obtain ⟨a1, c1, rfl, _⟩ := o1.rd.form
    clear C y1 x0
    go_wp2
    rw [show ((w.alloc (.cells #[.slice a n cap] 30)).alloc (.cells #[.slice none 0 0] 30)).heap.size = w.heap.size + 2 by simp] at o1
    have M : ∀ u, Mut w.heap.size (w.heap.size + 2) w1 (w1.setCell ⟨w.heap.size + 1, 0, none⟩ u) := fun u => Mut.setCell w1 (by simp only; omega) (by simp only; omega) _
    exact bodyPost_ret (v := .agg #[_]) (by simp [results, Tryd.results47, go_sem, cB]) rfl (gives_of _ ⟨_, rfl, (o1.mut (M _) (Or.inr (Nat.le_refl _))).mono (by omega) ((M _).size)⟩ ((M _).ext x1 (Nat.le_refl _)))
theorem specMax_c {w : World} {a b c : Int} (h : c = max a b) : Calls Tryd.prog 80 #[.int .i64 a, .int .i64 b] w fun e w' => e = .returned (.int .i64 c) ∧ w' = w := by
  have H := hid h
  clear h
  by_cases g : a < b
  · have HV := hid (show c = b by rw [H.out]; omega)
    clear H
    go_enter Tryd.func80, Tryd.ntmps80
    go_wp2
    go_ret
    exact ⟨by rw [HV.out]; rfl, rfl⟩
  · have g1 : decide (a < b) = false := decide_eq_false g
    have HV := hid (show c = a by rw [H.out]; omega)
    clear H
    go_enter Tryd.func80, Tryd.ntmps80
    go_wp2
    go_ret
    exact ⟨by rw [HV.out]; rfl, rfl⟩
theorem specMin_c {w : World} {a b c : Int} (h : c = min a b) : Calls Tryd.prog 81 #[.int .i64 a, .int .i64 b] w fun e w' => e = .returned (.int .i64 c) ∧ w' = w := by
  have H := hid h
  clear h
  by_cases g : b < a
  · have HV := hid (show c = b by rw [H.out]; omega)
    clear H
    go_enter Tryd.func81, Tryd.ntmps81
    go_wp2
    go_ret
    exact ⟨by rw [HV.out]; rfl, rfl⟩
  · have g1 : decide (b < a) = false := decide_eq_false g
    have HV := hid (show c = a by rw [H.out]; omega)
    clear H
    go_enter Tryd.func81, Tryd.ntmps81
    go_wp2
    go_ret
    exact ⟨by rw [HV.out]; rfl, rfl⟩
set_option maxHeartbeats 1000000 in
theorem l4Copy_c {w : World} {lo hi n : Nat} {v : Value} {xs : List ByteArray} (h : RdN w lo hi v n (xs.map sv)) (hn : n ≤ 8796093022207) :
    Calls Tryd.prog 107 #[v] w (Gives w fun r w' => OwnN w' w.heap.size w'.heap.size r n (xs.map sv)) := by
  obtain ⟨s, rfl, h⟩ := h
  obtain ⟨i0, hi0, hz0, hz1, hz2⟩ := info_parts info_string
  obtain ⟨W2, hW2⟩ : ∃ W, W = (w.alloc (.cells #[s] 30)).alloc (.cells #[.slice none 0 0] 30) := ⟨_, rfl⟩
  have x0 : Below w.heap.size w W2 := by rw [hW2]; exact ext_alloc (ext_alloc (ext_refl w) _) _
  have hs2 : W2.heap.size = w.heap.size + 2 := by rw [hW2]; simp
  have cB : Cell1 W2 ⟨w.heap.size + 1, 0, none⟩ (.slice none 0 0) := by
    have := Cell1.new (w.alloc (.cells #[s] 30)) (.slice none 0 0) 30
    rw [← hW2] at this
    simpa using this
  have h1 := (h.ext x0).ext (ext_alloc (ext_refl W2) (.cells #[] 9))
  have o0 := Own.new W2 #[] 9 1 0 (by decide) rfl
  have HW2 := hid hW2
  have cA : W2.cell? ⟨w.heap.size, 0, none⟩ = some s := by rw [hW2]; simp
  have HS2 := hid hs2
  rw [hs2] at o0
  clear hs2 h
  go_enter Tryd.func107, Tryd.ntmps107
  rw [hW2] at o0 h1
  clear hW2
  go_wp2_with (at_builtin; refine wpList_append_Own rfl _ _ 22 rfl 9 i0 (.string ByteArray.empty) 1 16 Tryd.underlying22 hi0 hz0 hz1 hz2 rfl (by decide) rfl o0 rfl h1 (sv_one xs) (by omega) (by omega) (by simp) ?_)
  intro v1 w1 ho hmu
  rw [← HW2.out] at hmu
  have y1 := Mut.ext (ext_alloc (ext_refl W2) (.cells #[] 9)) hmu (by rw [HS2.out]; omega)
  have s1 := y1.size
  rw [HS2.out] at s1
  have x1 := ext_trans x0 y1
  obtain ⟨cB1, fB1⟩ := cB.ext y1
  have o1 : Own w1 (w.heap.size + 2) w1.heap.size 9 1 v1 n (xs.map sv) := by simpa using ho
  obtain ⟨a1, c1, rfl, _⟩ := o1.rd.form
  clear y1 hmu ho o0 h1 cA x0 hi0 hz0 hz1 hz2
  go_wp2
  have M : ∀ u, Mut w.heap.size (w.heap.size + 2) w1 (w1.setCell ⟨w.heap.size + 1, 0, none⟩ u) := fun u => Mut.setCell w1 (by simp only; omega) (by simp only; omega) _
  exact bodyPost_ret (v := .agg #[_]) (by simp [results, Tryd.results107, go_sem, cB1]) rfl (gives_of _ ⟨_, rfl, (o1.mut (M _) (Or.inr (Nat.le_refl _))).mono (by omega) ((M _).size)⟩ ((M _).ext x1 (Nat.le_refl _)))
set_option maxHeartbeats 1000000 in
theorem specTruncate_c {w : World} {lo hi n : Nat} {v : Value} {xs : List ByteArray} {k : Int} (h : RdN w lo hi v n (xs.map sv)) (hn : n ≤ 8796093022207) :
    Calls Tryd.prog 48 #[v, .int .i64 k] w (Gives w fun r w' => OwnN w' w.heap.size w'.heap.size r (trn k n) ((xs.take (trn k n)).map sv)) := by
  obtain ⟨s, rfl, h⟩ := h
  obtain ⟨i0, hi0, hz0, hz1, hz2⟩ := info_parts info_string
  obtain ⟨a, cap, rfl, hc, hm⟩ := h.form'
  obtain ⟨W2, hW2⟩ : ∃ W, W = (w.alloc (.cells #[.slice a n cap] 30)).alloc (.cells #[.slice none 0 0] 30) := ⟨_, rfl⟩
  have x0 : Below w.heap.size w W2 := by rw [hW2]; exact ext_alloc (ext_alloc (ext_refl w) _) _
  have hs2 : W2.heap.size = w.heap.size + 2 := by rw [hW2]; simp
  have cB : Cell1 W2 ⟨w.heap.size + 1, 0, none⟩ (.slice none 0 0) := by
    have := Cell1.new (w.alloc (.cells #[.slice a n cap] 30)) (.slice none 0 0) 30
    rw [← hW2] at this
    simpa using this
  have T := (h.ext x0).take (trn_le k n)
  rw [← List.map_take] at T
  have h1 := T.ext (ext_alloc (ext_refl W2) (.cells #[] 9))
  have o0 := Own.new W2 #[] 9 1 0 (by decide) rfl
  have HW2 := hid hW2
  have HS2 := hid hs2
  rw [hs2] at o0
  have hT : ((trn k n : Nat) : Int) = max 0 (min k (n : Int)) := by unfold trn; omega
  obtain ⟨q, hq⟩ : ∃ q, q = min k (n : Int) := ⟨_, rfl⟩
  rw [← hq] at hT
  have HT := hid hT
  have HQ := hid hq
  have ht := trn_le k n
  clear hs2 h T hT hq
  generalize trn k n = t at *
  rw [hW2] at o0 h1
  clear hW2
  have i0' : (0 : Int) ≤ (t : Int) := by omega
  have i1 : (t : Int) ≤ (n : Int) := by omega
  have i2 : (t : Int) ≤ (cap : Int) := by omega
  go_enter Tryd.func48, Tryd.ntmps48
  go_wp2_with fail
  refine (specMin_c HQ.out).mono ?_
  rintro e w' ⟨rfl, rfl⟩
  go_wp2_with fail
  refine (specMax_c HT.out).mono ?_
  rintro e w' ⟨rfl, rfl⟩
  go_wp2_with (at_builtin; refine wpList_append_Own rfl _ _ 22 rfl 9 i0 (.string ByteArray.empty) 1 16 Tryd.underlying22 hi0 hz0 hz1 hz2 rfl (by decide) rfl o0 rfl h1 (sv_one _) (by omega) (by omega) (by simp) ?_)
  intro v1 w1 ho hmu
  rw [← HW2.out] at hmu
  have y1 := Mut.ext (ext_alloc (ext_refl W2) (.cells #[] 9)) hmu (by rw [HS2.out]; omega)
  have s1 := y1.size
  rw [HS2.out] at s1
  have x1 := ext_trans x0 y1
  obtain ⟨cB1, fB1⟩ := cB.ext y1
  have o1 : Own w1 (w.heap.size + 2) w1.heap.size 9 1 v1 t ((xs.take t).map sv) := by simpa using ho
  obtain ⟨a1, c1, rfl, _⟩ := o1.rd.form
  clear y1 hmu ho o0 h1 x0 hi0 hz0 hz1 hz2
  go_wp2
  have M : ∀ u, Mut w.heap.size (w.heap.size + 2) w1 (w1.setCell ⟨w.heap.size + 1, 0, none⟩ u) := fun u => Mut.setCell w1 (by simp only; omega) (by simp only; omega) _
  exact bodyPost_ret (v := .agg #[_]) (by simp [results, Tryd.results48, go_sem, cB1]) rfl (gives_of _ ⟨_, rfl, (o1.mut (M _) (Or.inr (Nat.le_refl _))).mono (by omega) ((M _).size)⟩ ((M _).ext x1 (Nat.le_refl _)))
end Go.Proofs.YtoehjfcadhgpbaaDoor
