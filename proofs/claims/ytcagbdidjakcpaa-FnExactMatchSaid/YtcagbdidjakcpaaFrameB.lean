/- How an argument that is a slice of bindings (structs of two strings) is opened. Condition: it reads as data in the world W. -/
import Derived.Test.YtcagbdidjakcpaaFrameN
import Derived.Test.YtcagbdidjakcpaaBind
import Derived.Deep.SlicePairs
set_option maxRecDepth 100000
namespace Go.Proofs.Ytcagbdidjakcpaa
open Go.ChangeShapes Go.WideShapes Go.ChangeAt Go.RowKit Go.Deep
section
variable {H : Type} {enc : TypeId × Value → H} {W : World} {base : Nat} {v : Value} {d : DataW H} {p : List MemPlace}
theorem rd_binds {t e : TypeId} {f0 f1 : Field} (ht : Try.prog.underlying t = some (.slice e)) (he : Try.prog.underlying e = some (.struct #[f0, f1])) (ce : Try.prog.cellsOf e = 2)
    (hone : oneCellFields Try.prog #[f0, f1] = true) (h0 : Try.prog.underlying f0.type = some .string) (h1 : Try.prog.underlying f1.type = some .string)
    (hv : Value.okWide Try.prog W .any base t v) (h : DataW.Trod enc Try.prog W 0 (fun _ => true) true t v d p) :
    ∃ (n : Nat) (ss : List ByteArray), Rd W 0 W.heap.size 2 v n (ss.map sv) ∧ ∀ s ∈ ss, s.size ≤ 9223372036854775807 := by
  obtain ⟨a, len, cap, rfl⟩ := okWide_slice ht hv
  obtain ⟨fuel, hf⟩ := h
  obtain ⟨o0, k0⟩ := hone_of hone 0 f0 rfl
  obtain ⟨o1, k1⟩ := hone_of hone 1 f1 rfl
  rcases open_slice_pairs ht he ce o0 o1 k0 k1 hf with ⟨hcs, _⟩ | ⟨x, l, c, m, n, V0, V1, D0, D1, P0, P1, hcs, _, hl, hm, hmm, _, hall⟩
  · simp [Value.cells] at hcs
    obtain ⟨rfl, rfl, rfl⟩ := hcs
    exact ⟨0, [], Rd.nil _ _ _ _, by simp⟩
  · simp [Value.cells] at hcs
    obtain ⟨rfl, rfl, rfl⟩ := hcs
    simp only [if_true] at hmm
    have each : ∀ i, i < len → ∃ q : ByteArray × ByteArray, W.cell? (x.add (i * 2)) = some (.string q.1) ∧ W.cell? (x.add (i * 2 + 1)) = some (.string q.2) ∧ q.1.size ≤ 9223372036854775807 ∧ q.2.size ≤ 9223372036854775807 := by
      intro i hi
      obtain ⟨c0, c1, t0, t1⟩ := hall i (by omega)
      obtain ⟨s, e0, _, z0⟩ := DataW.trod_string h0 t0
      obtain ⟨s', e1, _, z1⟩ := DataW.trod_string h1 t1
      simp at e0 e1
      exact ⟨(s, s'), by rw [c0, e0], by rw [c1, e1], by unfold maxLen at z0; omega, by unfold maxLen at z1; omega⟩
    obtain ⟨q, hq⟩ := choose_lt each
    refine ⟨len, (List.range (len * 2)).map fun j => if j % 2 = 0 then (q (j / 2)).1 else (q (j / 2)).2, ⟨by simp, _, cap, rfl, hl, by unfold maxLen at hm; omega, fun hn => ?_⟩, fun s hs => ?_⟩
    · obtain ⟨b, off, spot⟩ := x
      have g0 := (hq 0 (by omega)).1
      have hsp : spot = none := by simpa [Addr.add] using World.cell?_spot g0
      subst hsp
      have hb : b < W.heap.size := by simpa [Addr.add] using World.block_lt_of_cell? W _ g0
      refine ⟨b, off, rfl, Nat.zero_le _, hb, hb, fun j u hu => ?_⟩
      obtain ⟨hj, rfl⟩ := List.getElem?_eq_some_iff.1 hu
      simp only [List.length_map, List.length_range] at hj
      have hj2 : j / 2 < len := by omega
      obtain ⟨g1, g2, _, _⟩ := hq (j / 2) hj2
      rw [Addr.add_lit] at g1 g2
      simp only [List.getElem_map, List.getElem_range, sv]
      by_cases hm2 : j % 2 = 0
      · rw [if_pos hm2, show off + j = off + j / 2 * 2 by omega]
        exact g1
      · rw [if_neg hm2, show off + j = off + (j / 2 * 2 + 1) by omega]
        exact g2
    · obtain ⟨j, hj, rfl⟩ := List.mem_map.1 hs
      have hj' : j < len * 2 := List.mem_range.1 hj
      obtain ⟨_, _, g1, g2⟩ := hq (j / 2) (by omega)
      split
      · exact g1
      · exact g2
end
end Go.Proofs.Ytcagbdidjakcpaa
