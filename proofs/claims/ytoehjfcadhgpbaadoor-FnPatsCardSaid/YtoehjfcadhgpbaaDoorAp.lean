/- AppendPart of both sides: a part is put behind a name, and the result is checked. Condition: the values read as strings of a size that fits. -/
import Derived.Test.YtoehjfcadhgpbaaDoorTr
import Derived.Test.YtoehjfcadhgpbaaDoorVn
set_option linter.unusedVariables false
namespace Go.Proofs.YtoehjfcadhgpbaaDoor
open Go.RowKit
/-- The name with the part behind it, if that is valid; else the name. -/
def ap (xs : List ByteArray) (s : ByteArray) : List ByteArray × Bool := if vn (xs ++ [s]) = true then (xs ++ [s], true) else (xs, false)
theorem ap_yes {xs : List ByteArray} {s : ByteArray} (h : vn (xs ++ [s]) = true) : ap xs s = (xs ++ [s], true) := by unfold ap; rw [if_pos h]
theorem ap_no {xs : List ByteArray} {s : ByteArray} (h : vn (xs ++ [s]) = false) : ap xs s = (xs, false) := by unfold ap; rw [if_neg (by rw [h]; decide)]
theorem ap_len (xs : List ByteArray) (s : ByteArray) : (ap xs s).1.length ≤ xs.length + 1 := by unfold ap; split <;> simp
def ApPost (base : Nat) (R : List ByteArray × Bool) (r : Value) (w' : World) : Prop := ∃ v, r = .tuple #[v, .bool R.2] ∧ OwnN w' base w'.heap.size v R.1.length (R.1.map sv)
theorem apPost_mk {base n : Nat} {w' : World} {R : List ByteArray × Bool} {xs : List ByteArray} {b : Bool} {v : Value} (h : R = (xs, b)) (hn : xs.length = n) (ho : OwnN w' base w'.heap.size v n (xs.map sv)) : ApPost base R (.tuple #[v, .bool b]) w' := by
  subst h; subst hn; exact ⟨v, rfl, ho⟩
set_option maxRecDepth 100000 in
set_option maxHeartbeats 1000000 in
theorem specAppendPart_c {w : World} {lo hi n : Nat} {v : Value} {xs : List ByteArray} {s : ByteArray} (h : RdN w lo hi v n (xs.map sv)) (hn : n ≤ 8796093022206) (hx : ∀ s ∈ xs, s.size ≤ 9223372036854775807) (hs : s.size ≤ 9223372036854775807) :
    Calls Tryd.prog 100 #[v, .string s] w (Gives w (ApPost w.heap.size (ap xs s))) := by
  obtain ⟨p, rfl, h⟩ := h
  obtain ⟨i0, hi0, hz0, hz1, hz2⟩ := info_parts info_string
  have hlx : xs.length = n := by have := h.1; simpa using this
  have HLX := hid hlx
  have HXS : Hid (∀ t ∈ xs ++ [s], t.size ≤ 9223372036854775807) := by
    intro t ht
    rcases List.mem_append.1 ht with h1 | h1
    · exact hx t h1
    · rw [List.mem_singleton.1 h1]; exact hs
  obtain ⟨a, cap, rfl, hc, hm⟩ := h.form'
  obtain ⟨W2, hW2⟩ : ∃ W, W = (w.alloc (.cells #[.slice a n cap] 30)).alloc (.cells #[.slice none 0 0] 30) := ⟨_, rfl⟩
  have x0 : Below w.heap.size w W2 := by rw [hW2]; exact ext_alloc (ext_alloc (ext_refl w) _) _
  have hs2 : W2.heap.size = w.heap.size + 2 := by rw [hW2]; simp
  have cB : Cell1 W2 ⟨w.heap.size + 1, 0, none⟩ (.slice none 0 0) := by
    have := Cell1.new (w.alloc (.cells #[.slice a n cap] 30)) (.slice none 0 0) 30
    rw [← hW2] at this
    simpa using this
  have cP : W2.cell? ⟨w.heap.size, 0, none⟩ = some (.slice a n cap) := by rw [hW2]; simp
  have h0 := h.ext x0
  have HW2 := hid hW2
  have HS2 := hid hs2
  have h1 := h0.ext (ext_alloc (ext_refl W2) (.cells #[] 9))
  have o0 := Own.new W2 #[] 9 1 0 (by decide) rfl
  rw [hs2] at o0
  rw [hW2] at o0 h1
  clear hs2 h hW2 hlx hx hs
  go_enter Tryd.func100, Tryd.ntmps100
  go_wp2_with (at_builtin; refine wpList_append_Own rfl _ _ 22 rfl 9 i0 (.string ByteArray.empty) 1 16 Tryd.underlying22 hi0 hz0 hz1 hz2 rfl (by decide) rfl o0 rfl h1 (sv_one xs) (by omega) (by omega) (by simp) ?_)
  intro v1 w1 ho hmu
  rw [← HW2.out] at hmu
  have y1 := Mut.ext (ext_alloc (ext_refl W2) (.cells #[] 9)) hmu (by rw [HS2.out]; omega)
  have s1 := y1.size
  rw [HS2.out] at s1
  have o1 : Own w1 (w.heap.size + 2) w1.heap.size 9 1 v1 n (xs.map sv) := by simpa using ho
  clear hmu ho o0 h1
  go_wp2_with (at_builtin; refine wpList_append_Own rfl _ _ 22 rfl 9 i0 (.string ByteArray.empty) 1 16 Tryd.underlying22 hi0 hz0 hz1 hz2 rfl (by decide) rfl (o1.ext (ext_alloc (ext_refl _) _)) rfl (Rd.new _ [.string s] 9 1 1 (by decide) rfl) (by simp; rfl) (by omega) (by omega) (by simp; omega) ?_)
  intro v2 w2 ho2 hmu2
  have y2 := Mut.ext (ext_alloc y1 _) hmu2 (by rw [HS2.out]; omega)
  have s2 := y2.size
  rw [HS2.out] at s2
  have o2 : Own w2 (w.heap.size + 2) w2.heap.size 9 1 v2 (n + 1) ((xs ++ [s]).map sv) := by rw [List.map_append]; exact ho2
  obtain ⟨a2, c2, rfl, _⟩ := o2.rd.form
  have y3 := ext_alloc y2 (.cells #[.slice a2 (n + 1) c2] 30)
  have q3 := ext_alloc (ext_refl w2) (.cells #[.slice a2 (n + 1) c2] 30)
  have o3 := o2.ext q3
  have cO : (w2.alloc (.cells #[.slice a2 (n + 1) c2] 30)).cell? ⟨w2.heap.size, 0, none⟩ = some (.slice a2 (n + 1) c2) := by simp
  have s3 : (w2.alloc (.cells #[.slice a2 (n + 1) c2] 30)).heap.size = w2.heap.size + 1 := by simp
  clear ho2 hmu2 y2 y1 o1 o2 q3 hi0 hz0 hz1 hz2
  go_wp2_with fail
  generalize w2.alloc (.cells #[.slice a2 (n + 1) c2] 30) = w3 at *
  refine (specValidName_c ⟨_, rfl, o3.rd⟩ HXS.out).mono ?_
  rintro e w4 ⟨_, rfl, rfl, y4⟩
  have x4 := ext_trans x0 (ext_trans y3 y4)
  have s4 := y4.size
  have o4 := o3.ext y4
  have cO4 := cell_ext cO y4
  have h4 := h0.ext (ext_trans y3 y4)
  have cP4 := cell_ext cP (ext_trans y3 y4)
  obtain ⟨cB4, fB4⟩ := cB.ext (ext_trans y3 y4)
  clear x0 h0 cP cB y3 y4 o3 cO
  cases hv : vn (xs ++ [s])
  · have HA := hid (ap_no hv)
    clear hv o4 cO4
    go_wp2_with fail
    refine (l4Copy_c ⟨_, rfl, h4⟩ (by omega)).mono ?_
    rintro e w5 ⟨_, rfl, ⟨u5, rfl, o5⟩, y5⟩
    have s5 := y5.size
    have x5 := ext_trans x4 y5
    obtain ⟨cB5, fB5⟩ := Cell1.ext ⟨cB4, fB4⟩ y5
    obtain ⟨a5, c5, rfl, _⟩ := o5.rd.form
    clear h4 cP4 x4 cB4 fB4 y5
    go_wp2
    have M : ∀ u, Mut w.heap.size (w.heap.size + 2) w5 (w5.setCell ⟨w.heap.size + 1, 0, none⟩ u) := fun u => Mut.setCell w5 (by simp only; omega) (by simp only; omega) _
    exact bodyPost_ret (v := .tuple #[.agg #[_], .bool false]) (by simp [results, Tryd.results100, go_sem, cB5]) rfl (gives_of _ (apPost_mk HA.out HLX.out ⟨_, rfl, (o5.mut (M _) (Or.inr (by omega))).mono (by omega) ((M _).size)⟩) ((M _).ext x5 (Nat.le_refl _)))
  · have HA := hid (ap_yes hv)
    have HL : Hid ((xs ++ [s]).length = n + 1) := by rw [Hid, List.length_append, HLX.out]; rfl
    clear hv h4 cP4
    go_wp2
    have M : ∀ u, Mut w.heap.size (w.heap.size + 2) w4 (w4.setCell ⟨w.heap.size + 1, 0, none⟩ u) := fun u => Mut.setCell w4 (by simp only; omega) (by simp only; omega) _
    exact bodyPost_ret (v := .tuple #[.agg #[_], .bool true]) (by simp [results, Tryd.results100, go_sem, cB4]) rfl (gives_of _ (apPost_mk HA.out HL.out ⟨_, rfl, (o4.mut (M _) (Or.inr (by omega))).mono (by omega) (Nat.le_trans (by omega) ((M _).size))⟩) ((M _).ext x4 (Nat.le_refl _)))
end Go.Proofs.YtoehjfcadhgpbaaDoor
