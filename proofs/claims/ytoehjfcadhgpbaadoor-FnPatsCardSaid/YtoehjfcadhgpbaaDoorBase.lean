/- The words for memory that all contracts of this seat use: a slice that reads as a list of cells, a slice that a call owns, and what a call leaves unturned. Nothing here speaks of the program. -/
import Derived.WalkKit
import Derived.Maps.AppendAt
import Derived.Deep.AppendLies
import Derived.Deep.Draws
namespace Go.Proofs.YtoehjfcadhgpbaaDoor
open Go.RowKit

theorem hid {p : Prop} (h : p) : Hid p := h

theorem str_eq (a b : ByteArray) : a.toList = b.toList ↔ a = b := by
  rw [ByteArray.toList_eq, ByteArray.toList_eq]
  exact ⟨fun h => by cases a; cases b; congr 1; exact Array.toList_inj.1 h, fun h => by rw [h]⟩

/-! ### Lists -/
theorem take_step {α : Type} {xs ys : List α} {k : Nat} (h : xs.take k = ys.take k) (hx : k < xs.length) (hy : k < ys.length) (e : xs[k] = ys[k]) : xs.take (k + 1) = ys.take (k + 1) := by
  rw [List.take_succ_eq_append_getElem hx, List.take_succ_eq_append_getElem hy, h, e]
theorem take_ne {α : Type} {xs ys : List α} {k : Nat} (hx : k < xs.length) (hy : k < ys.length) (e : xs[k] ≠ ys[k]) : ¬ xs = ys := by
  rintro rfl; exact e rfl
theorem take_all {α : Type} {xs ys : List α} {k : Nat} (h : xs.take k = ys.take k) (hx : xs.length ≤ k) (hy : ys.length ≤ k) : xs = ys := by
  rwa [List.take_of_length_le hx, List.take_of_length_le hy] at h
/-- A copy under way: the first k of n cells are laid. -/
def mix (us zs : List Value) (k : Nat) : List Value := us.take k ++ zs.drop k
theorem mix_zero (us zs : List Value) : mix us zs 0 = zs := by simp [mix]
theorem mix_all (us zs : List Value) (k : Nat) (h : us.length ≤ k) (h' : zs.length ≤ k) : mix us zs k = us := by simp [mix, List.take_of_length_le h, List.drop_eq_nil_of_le h']
theorem mix_set (us zs : List Value) (k : Nat) (h : zs.length = us.length) (u : Value) (hu : us[k]? = some u) : (mix us zs k).set k u = mix us zs (k + 1) := by
  obtain ⟨hk, e⟩ := List.getElem?_eq_some_iff.1 hu
  have hkz : k < zs.length := by omega
  unfold mix
  rw [List.take_succ_eq_append_getElem hk, e, List.set_append_right _ _ (by rw [List.length_take]; omega), List.drop_eq_getElem_cons hkz]
  rw [show k - (us.take k).length = 0 by rw [List.length_take]; omega]
  simp only [List.set_cons_zero, List.append_assoc, List.cons_append, List.nil_append]
theorem mix_get (us zs : List Value) (k : Nat) (hk : k < us.length) : (mix us zs k)[k]? = zs[k]? := by
  unfold mix
  rw [List.getElem?_append_right (by rw [List.length_take]; omega), List.length_take, List.getElem?_drop]
  congr 1
  omega

/-! ### What a call leaves -/

/-- The call returns a value of which Q holds, and all that lay in w lies unturned. -/
def Gives (w : World) (Q : Value → World → Prop) (e : Ending) (w' : World) : Prop := ∃ v, e = .returned v ∧ Q v w' ∧ Below w.heap.size w w'

theorem gives_of {w w' : World} {Q : Value → World → Prop} (v : Value) (h : Q v w') (x : Below w.heap.size w w') : Gives w Q (.returned v) w' := ⟨v, rfl, h, x⟩
theorem gives_bool {w w' : World} {b b' : Bool} (h : b' = b) (x : Below w.heap.size w w') : Gives w (fun r _ => r = .bool b) (.returned (.bool b')) w' := ⟨_, rfl, by rw [h], x⟩
theorem gives_int {w w' : World} {k : IntKind} {b b' : Int} (h : b' = b) (x : Below w.heap.size w w') : Gives w (fun r _ => r = .int k b) (.returned (.int k b')) w' := ⟨_, rfl, by rw [h], x⟩
theorem gives_string {w w' : World} {b b' : ByteArray} (h : b' = b) (x : Below w.heap.size w w') : Gives w (fun r _ => r = .string b) (.returned (.string b')) w' := ⟨_, rfl, by rw [h], x⟩

theorem ext_refl (w : World) : Below w.heap.size w w := Below.refl _ _
theorem ext_trans {a b c : World} (h : Below a.heap.size a b) (k : Below b.heap.size b c) : Below a.heap.size a c := h.trans (k.mono h.size)
theorem ext_drewN (w : World) (q : Nat) : Below w.heap.size w (w.drewN q) := ⟨rfl, rfl, rfl, Nat.le_refl _, fun _ _ => rfl⟩
theorem ext_alloc {a w : World} (h : Below a.heap.size a w) (o : Obj) : Below a.heap.size a (w.alloc o) := h.alloc h.size o

/-- Only blocks from lo to below hi may have turned, and new ones have come. -/
structure Mut (lo hi : Nat) (w w' : World) : Prop where
  os : w'.os = w.os
  tape : w'.tape = w.tape
  output : w'.output = w.output
  size : w.heap.size ≤ w'.heap.size
  block : ∀ k, k < w.heap.size → (k < lo ∨ hi ≤ k) → w'.heap[k]? = w.heap[k]?

theorem Mut.refl (lo hi : Nat) (w : World) : Mut lo hi w w := ⟨rfl, rfl, rfl, Nat.le_refl _, fun _ _ _ => rfl⟩
theorem Mut.of_ext {lo hi : Nat} {w w' : World} (h : Below w.heap.size w w') : Mut lo hi w w' := ⟨h.os, h.tape, h.output, h.size, fun k hk _ => h.block k hk⟩
theorem Mut.trans {lo hi : Nat} {a b c : World} (h : Mut lo hi a b) (k : Mut lo hi b c) : Mut lo hi a c :=
  ⟨k.os.trans h.os, k.tape.trans h.tape, k.output.trans h.output, Nat.le_trans h.size k.size, fun i hi' hn => (k.block i (Nat.lt_of_lt_of_le hi' h.size) hn).trans (h.block i hi' hn)⟩
theorem Mut.mono {lo hi lo' hi' : Nat} {w w' : World} (h : Mut lo hi w w') (h1 : lo' ≤ lo) (h2 : hi ≤ hi') : Mut lo' hi' w w' :=
  ⟨h.os, h.tape, h.output, h.size, fun k hk hn => h.block k hk (by omega)⟩
theorem Mut.below {lo hi B : Nat} {a w w' : World} (h : Below B a w) (m : Mut lo hi w w') (hB : B ≤ lo) (hs : B ≤ w.heap.size) : Below B a w' :=
  h.trans ⟨m.os, m.tape, m.output, m.size, fun k hk => m.block k (by omega) (by omega)⟩
theorem Mut.ext {lo hi : Nat} {a w w' : World} (h : Below a.heap.size a w) (m : Mut lo hi w w') (hB : a.heap.size ≤ lo) : Below a.heap.size a w' := Mut.below h m hB h.size
theorem Mut.grown {lo hi : Nat} {w w' : World} {row : Option Nat} (hg : w.grownBy w' row) (hr : ∀ k, row = some k → lo ≤ k ∧ k < hi) : Mut lo hi w w' :=
  ⟨hg.os, hg.tape, hg.output, hg.size, fun k hk hn => hg.block k hk (fun e => by have := hr k e.symm; omega)⟩
theorem Mut.setCell (w : World) {lo hi : Nat} {p : Addr} (h1 : lo ≤ p.block) (h2 : p.block < hi) (u : Value) : Mut lo hi w (w.setCell p u) :=
  ⟨rfl, rfl, rfl, by simp [World.setCell], fun k hk hn => Below.heap_setCell _ _ _ _ (by omega)⟩

/-! ### A slice that reads as cells -/

/-- The slice value v, of n elements of 'size' cells each, reads as the cells xs; its block lies from lo to below hi. -/
def Rd (w : World) (lo hi size : Nat) (v : Value) (n : Nat) (xs : List Value) : Prop :=
  xs.length = n * size ∧ ∃ a cap, v = .slice a n cap ∧ n ≤ cap ∧ cap ≤ 9223372036854775807 ∧
    (0 < n → ∃ b off, a = some ⟨b, off, none⟩ ∧ lo ≤ b ∧ b < hi ∧ b < w.heap.size ∧ ∀ j u, xs[j]? = some u → w.cell? ⟨b, off + j, none⟩ = some u)

section
variable {w w' : World} {lo hi lo' hi' size n : Nat} {v : Value} {xs : List Value}
theorem Rd.same (h : Rd w lo hi size v n xs) (hs : w.heap.size ≤ w'.heap.size) (hk : ∀ k, lo ≤ k → k < hi → k < w.heap.size → w'.heap[k]? = w.heap[k]?) : Rd w' lo hi size v n xs := by
  obtain ⟨h1, a, cap, rfl, h2, h3, h4⟩ := h
  refine ⟨h1, a, cap, rfl, h2, h3, fun hn => ?_⟩
  obtain ⟨b, off, rfl, hl, hh, hb, hc⟩ := h4 hn
  exact ⟨b, off, rfl, hl, hh, by omega, fun j u hu => (World.cell?_of_block (w := w) (hk b hl hh hb)).trans (hc j u hu)⟩
theorem Rd.ext (h : Rd w lo hi size v n xs) (e : Below w.heap.size w w') : Rd w' lo hi size v n xs := h.same e.size fun k _ _ hk => e.block k hk
theorem Rd.mut (h : Rd w lo hi size v n xs) (m : Mut lo' hi' w w') (hd : hi ≤ lo' ∨ hi' ≤ lo) : Rd w' lo hi size v n xs := h.same m.size fun k h1 h2 hk => m.block k hk (by omega)
theorem Rd.mono (h : Rd w lo hi size v n xs) (h1 : lo' ≤ lo) (h2 : hi ≤ hi') : Rd w lo' hi' size v n xs := by
  obtain ⟨h0, a, cap, rfl, h3, h4, h5⟩ := h
  refine ⟨h0, a, cap, rfl, h3, h4, fun hn => ?_⟩
  obtain ⟨b, off, rfl, hl, hh, hb, hc⟩ := h5 hn
  exact ⟨b, off, rfl, by omega, by omega, hb, hc⟩
theorem Rd.form (h : Rd w lo hi size v n xs) : ∃ a cap, v = .slice a n cap ∧ n ≤ 9223372036854775807 := by
  obtain ⟨_, a, cap, rfl, h1, h2, _⟩ := h
  exact ⟨a, cap, rfl, by omega⟩
theorem Rd.form' (h : Rd w lo hi size v n xs) : ∃ a cap, v = .slice a n cap ∧ n ≤ cap ∧ cap ≤ 9223372036854775807 := by
  obtain ⟨_, a, cap, rfl, h1, h2, _⟩ := h
  exact ⟨a, cap, rfl, h1, h2⟩
theorem Rd.nil (w : World) (lo hi size : Nat) : Rd w lo hi size (.slice none 0 0) 0 [] := ⟨by simp, none, 0, rfl, by omega, by omega, fun h => absurd h (by omega)⟩
theorem Rd.none_ (w : World) (lo hi size : Nat) (a : Option Addr) {cap : Nat} (hc : cap ≤ 9223372036854775807) : Rd w lo hi size (.slice a 0 cap) 0 [] := ⟨by simp, a, cap, rfl, by omega, hc, fun h => absurd h (by omega)⟩
end

/-! ### One cell -/
/-- The cell holds v and may be written. -/
def Cell1 (w : World) (p : Addr) (v : Value) : Prop := w.cell? p = some v ∧ w.frozen? p = false
theorem Cell1.new (w : World) (v : Value) (t : TypeId) : Cell1 (w.alloc (.cells #[v] t)) ⟨w.heap.size, 0, none⟩ v := by
  have h : (w.alloc (.cells #[v] t)).heap[w.heap.size]? = some (.cells #[v] t (0, 0)) := heap_alloc_new w _
  exact ⟨cell_of_row _ w.heap.size 0 #[v] t (0, 0) h, frozen_of_row _ w.heap.size 0 #[v] t h⟩
theorem Cell1.ext {w w' : World} {p : Addr} {v : Value} (h : Cell1 w p v) (e : Below w.heap.size w w') : Cell1 w' p v :=
  ⟨(e.cell (World.block_lt_of_cell? w p h.1)).trans h.1, (e.frozen (World.block_lt_of_cell? w p h.1)).trans h.2⟩
theorem cell_ext {w w' : World} {p : Addr} {v : Value} (h : w.cell? p = some v) (e : Below w.heap.size w w') : w'.cell? p = some v := (e.cell (World.block_lt_of_cell? w p h)).trans h
theorem cell_mut {w w' : World} {lo hi : Nat} {p : Addr} {v : Value} (h : w.cell? p = some v) (m : Mut lo hi w w') (hp : p.block < lo ∨ hi ≤ p.block) : w'.cell? p = some v :=
  (World.cell?_of_block (w := w) (m.block p.block (World.block_lt_of_cell? w p h) hp)).trans h
/-- A new block of several cells: each of them. -/
theorem Cell1.newAt (w : World) (cs : Array Value) (t : TypeId) (j : Nat) (v : Value) (h : cs[j]? = some v) : Cell1 (w.alloc (.cells cs t)) ⟨w.heap.size, j, none⟩ v := by
  have h1 : (w.alloc (.cells cs t)).heap[w.heap.size]? = some (.cells cs t (0, 0)) := heap_alloc_new w _
  exact ⟨(cell_of_row _ w.heap.size j cs t (0, 0) h1).trans h, frozen_of_row _ w.heap.size j cs t h1⟩

/-! ### A slice that the call owns -/

/-- The slice value v, of n elements of type e and 'size' cells each, holds the cells xs and may be written: it is empty without room; or it begins at the head of a block from lo to below hi of which no cell is frozen. -/
def Own (w : World) (lo hi : Nat) (e : TypeId) (size : Nat) (v : Value) (n : Nat) (xs : List Value) : Prop :=
  xs.length = n * size ∧ ((n = 0 ∧ ∃ a, v = .slice a 0 0) ∨
    ∃ g cap cur, v = .slice (some ⟨g, 0, none⟩) n cap ∧ lo ≤ g ∧ g < hi ∧ w.heap[g]? = some (.cells cur e (0, 0)) ∧ n ≤ cap ∧ cap ≤ maxLen ∧ cur.size = cap * size ∧ cur.toList.take (n * size) = xs)

section
variable {w w' : World} {lo hi lo' hi' size n : Nat} {e : TypeId} {v : Value} {xs : List Value}
theorem Own.same (h : Own w lo hi e size v n xs) (hk : ∀ k, lo ≤ k → k < hi → k < w.heap.size → w'.heap[k]? = w.heap[k]?) : Own w' lo hi e size v n xs := by
  obtain ⟨h1, h2 | ⟨g, cap, cur, rfl, hl, hh, hg, h3⟩⟩ := h
  · exact ⟨h1, .inl h2⟩
  · exact ⟨h1, .inr ⟨g, cap, cur, rfl, hl, hh, (hk g hl hh (Array.getElem?_eq_some_iff.1 hg).1).trans hg, h3⟩⟩
theorem Own.ext (h : Own w lo hi e size v n xs) (x : Below w.heap.size w w') : Own w' lo hi e size v n xs := h.same fun k _ _ hk => x.block k hk
theorem Own.mut (h : Own w lo hi e size v n xs) (m : Mut lo' hi' w w') (hd : hi ≤ lo' ∨ hi' ≤ lo) : Own w' lo hi e size v n xs := h.same fun k h1 h2 hk => m.block k hk (by omega)
theorem Own.mono (h : Own w lo hi e size v n xs) (h1 : lo' ≤ lo) (h2 : hi ≤ hi') : Own w lo' hi' e size v n xs := by
  obtain ⟨h0, h3 | ⟨g, cap, cur, rfl, hl, hh, hg, h4⟩⟩ := h
  · exact ⟨h0, .inl h3⟩
  · exact ⟨h0, .inr ⟨g, cap, cur, rfl, by omega, by omega, hg, h4⟩⟩
theorem Own.rd (h : Own w lo hi e size v n xs) : Rd w lo hi size v n xs := by
  obtain ⟨h0, ⟨rfl, a, rfl⟩ | ⟨g, cap, cur, rfl, hl, hh, hg, h3, h4, h5, h6⟩⟩ := h
  · exact ⟨h0, a, 0, rfl, by omega, by omega, fun h => absurd h (by omega)⟩
  · refine ⟨h0, _, cap, rfl, h3, by unfold maxLen at h4; omega, fun _ => ⟨g, 0, rfl, hl, hh, (Array.getElem?_eq_some_iff.1 hg).1, fun j u hu => ?_⟩⟩
    rw [Nat.zero_add, cell_of_row w g j cur e (0, 0) hg]
    rw [← h6, List.getElem?_take] at hu
    split at hu
    · simpa using hu
    · cases hu
theorem Own.of_row (h : w.ownsRow lo e size v n xs) : Own w lo w.heap.size e size v n xs := by
  obtain ⟨h0, ⟨rfl, rfl⟩ | ⟨g, cap, cur, rfl, hl, hg, h3⟩⟩ := h
  · exact ⟨h0, .inl ⟨rfl, none, rfl⟩⟩
  · exact ⟨h0, .inr ⟨g, cap, cur, rfl, hl, (Array.getElem?_eq_some_iff.1 hg).1, hg, h3⟩⟩
theorem Own.row (h : Own w lo hi e size v n xs) : (n = 0 ∧ xs = [] ∧ ∃ a, v = .slice a 0 0) ∨ (w.ownsRow lo e size v n xs ∧ ∀ k, v.ownBlock = some k → lo ≤ k ∧ k < hi) := by
  obtain ⟨h0, ⟨rfl, a, rfl⟩ | ⟨g, cap, cur, rfl, hl, hh, hg, h3⟩⟩ := h
  · exact .inl ⟨rfl, List.eq_nil_of_length_eq_zero (by simpa using h0), a, rfl⟩
  · exact .inr ⟨⟨h0, .inr ⟨g, cap, cur, rfl, hl, hg, h3⟩⟩, fun k hk => by simp [Value.ownBlock] at hk; omega⟩
theorem Own.none_ (w : World) (lo hi : Nat) (e : TypeId) (size : Nat) (a : Option Addr) : Own w lo hi e size (.slice a 0 0) 0 [] := ⟨by simp, .inl ⟨rfl, a, rfl⟩⟩
/-- A new block of n elements. -/
theorem Own.new (w : World) (cs : Array Value) (e : TypeId) (size n : Nat) (hm : n ≤ maxLen) (hs : cs.size = n * size) :
    Own (w.alloc (.cells cs e)) w.heap.size (w.heap.size + 1) e size (.slice (some ⟨w.heap.size, 0, none⟩) n n) n cs.toList :=
  ⟨by simpa using hs, .inr ⟨w.heap.size, n, cs, rfl, Nat.le_refl _, by omega, heap_alloc_new w _, Nat.le_refl _, hm, hs, List.take_of_length_le (by rw [Array.length_toList, hs]; exact Nat.le_refl _)⟩⟩
/-- What a store into the slice needs and leaves. -/
theorem Own.at_ (h : Own w lo hi e size v n xs) (hn : 0 < n) : ∃ g cap, v = .slice (some ⟨g, 0, none⟩) n cap ∧ n ≤ cap ∧ cap ≤ 9223372036854775807 ∧ lo ≤ g ∧ g < hi ∧ g < w.heap.size ∧
    (∀ j, w.frozen? ⟨g, j, none⟩ = false) ∧ (∀ j u, xs[j]? = some u → w.cell? ⟨g, j, none⟩ = some u) ∧
    ∀ j u, Own (w.setCell ⟨g, j, none⟩ u) lo hi e size v n (xs.set j u) ∧ Mut lo hi w (w.setCell ⟨g, j, none⟩ u) := by
  obtain ⟨h0, ⟨rfl, _⟩ | ⟨g, cap, cur, rfl, hl, hh, hg, h3, h4, h5, h6⟩⟩ := h
  · omega
  · have hrow : w.ownsRow lo e size (.slice (some ⟨g, 0, none⟩) n cap) n xs := ⟨h0, .inr ⟨g, cap, cur, rfl, hl, hg, h3, h4, h5, h6⟩⟩
    refine ⟨g, cap, rfl, h3, by unfold maxLen at h4; omega, hl, hh, (Array.getElem?_eq_some_iff.1 hg).1, fun j => hrow.frozenAt j, fun j u hu => ?_, fun j u => ⟨?_, Mut.setCell w hl hh u⟩⟩
    · have hj : j < n * size := by have := (List.getElem?_eq_some_iff.1 hu).1; omega
      rw [hrow.cellAt j hj, hu]
    · refine ⟨by simpa using h0, .inr ⟨g, cap, cur.setIfInBounds j u, rfl, hl, hh, heap_setCell_same w g j cur e u hg, h3, h4, by simpa using h5, ?_⟩⟩
      rw [Array.toList_setIfInBounds, ← h6, List.take_set]
end
end Go.Proofs.YtoehjfcadhgpbaaDoor
