/- How the cursor of the draws fares when memory turns. Nothing here speaks of the program. -/
import Derived.Test.YtoehjfcadhgpbaaDoorDr
set_option linter.unusedVariables false
namespace Go.Proofs.YtoehjfcadhgpbaaDoor
open Go.RowKit
theorem CurAt.ext {w w' : World} {c n : Nat} {cv : Value} (h : CurAt w c cv n) (e : Below w.heap.size w w') : CurAt w' c cv n := by
  obtain ⟨i, q, c0, c1, c2, f1, f2, r⟩ := h
  exact ⟨i, q, cell_ext c0 e, cell_ext c1 e, cell_ext c2 e, (Cell1.ext ⟨c1, f1⟩ e).2, (Cell1.ext ⟨c2, f2⟩ e).2, r⟩
theorem Cell1.mut {w w' : World} {lo hi : Nat} {p : Addr} {v : Value} (h : Cell1 w p v) (m : Mut lo hi w w') (hp : p.block < lo ∨ hi ≤ p.block) : Cell1 w' p v := by
  refine ⟨cell_mut h.1 m hp, ?_⟩
  have hb := m.block p.block (World.block_lt_of_cell? w p h.1) hp
  have h2 := h.2
  unfold World.frozen? at h2 ⊢
  rw [hb]
  exact h2
theorem Cell1.set {w : World} {p : Addr} {v : Value} (h : Cell1 w p v) (u : Value) : Cell1 (w.setCell p u) p u := ⟨World.cell?_setCell_same w p u h.1, by rw [World.frozen?_setCell]; exact h.2⟩
theorem CurAt.mut {w w' : World} {c n lo hi : Nat} {cv : Value} (h : CurAt w c cv n) (m : Mut lo hi w w') (hp : c < lo ∨ hi ≤ c) : CurAt w' c cv n := by
  obtain ⟨i, q, c0, c1, c2, f1, f2, r⟩ := h
  exact ⟨i, q, cell_mut c0 m hp, cell_mut c1 m hp, cell_mut c2 m hp, (Cell1.mut ⟨c1, f1⟩ m hp).2, (Cell1.mut ⟨c2, f2⟩ m hp).2, r⟩
/-- A store into a block that is new to w. -/
theorem Mut.newer {lo hi : Nat} {w w' : World} (m : Mut lo hi w w') {p : Addr} (hp : w.heap.size ≤ p.block) (u : Value) : Mut lo hi w (w'.setCell p u) :=
  ⟨m.os, m.tape, m.output, by have := m.size; simpa [World.setCell] using this, fun k hk hn => (Below.heap_setCell _ _ _ _ (by omega)).trans (m.block k hk hn)⟩
/-- What turns only in blocks that are new to w. -/
theorem Mut.after {lo hi a b : Nat} {w w' w'' : World} (m : Mut lo hi w w') (k : Mut a b w' w'') (h : w.heap.size ≤ a) : Mut lo hi w w'' :=
  ⟨k.os.trans m.os, k.tape.trans m.tape, k.output.trans m.output, Nat.le_trans m.size k.size, fun j hj hn => (k.block j (by have := m.size; omega) (.inl (by omega))).trans (m.block j hj hn)⟩
end Go.Proofs.YtoehjfcadhgpbaaDoor
