/- How an argument that is a table (a slice of structs of a name and an int) is opened. Condition: it reads as data in the world W. -/
import Derived.Test.YtcagbdidjakcpaaFrameN
import Derived.Test.YtcagbdidjakcpaaTab
import Derived.Deep.SlicePairs
set_option maxRecDepth 100000
namespace Go.Proofs.Ytcagbdidjakcpaa
open Go.ChangeShapes Go.WideShapes Go.ChangeAt Go.RowKit Go.Deep
def I64 (a : Int) : Prop := -9223372036854775808 ≤ a ∧ a ≤ 9223372036854775807
section
variable {H : Type} {enc : TypeId × Value → H} {W : World} {base : Nat} {v : Value} {d : DataW H} {p : List MemPlace}
theorem rd_tab {t e e' : TypeId} {f0 f1 g : Field} (ht : Try.prog.underlying t = some (.slice e)) (he : Try.prog.underlying e = some (.struct #[f0, f1])) (ce : Try.prog.cellsOf e = 2)
    (hone : oneCellFields Try.prog #[f0, f1] = true) (hn : Try.prog.underlying f0.type = some (.struct #[g])) (hone' : oneCellFields Try.prog #[g] = true)
    (hs : Try.prog.underlying g.type = some (.slice e')) (hs' : Try.prog.underlying e' = some .string) (hc : Try.prog.cellsOf e' = 1) (h1 : Try.prog.underlying f1.type = some (.int .i64))
    (hv : Value.okWide Try.prog W .any base t v) (h : DataW.Trod enc Try.prog W 0 (fun _ => true) true t v d p) :
    ∃ (n : Nat) (xs : List (List ByteArray × Int)), RdT W 0 W.heap.size v n xs ∧ (∀ e ∈ xs, ∀ s ∈ e.1, s.size ≤ 9223372036854775807) ∧ ∀ e ∈ xs, I64 e.2 := by
  obtain ⟨a, len, cap, rfl⟩ := okWide_slice ht hv
  obtain ⟨fuel, hf⟩ := h
  obtain ⟨o0, k0⟩ := hone_of hone 0 f0 rfl
  obtain ⟨o1, k1⟩ := hone_of hone 1 f1 rfl
  obtain ⟨og, kg⟩ := hone_of hone' 0 g rfl
  rcases open_slice_pairs ht he ce o0 o1 k0 k1 hf with ⟨hcs, _⟩ | ⟨x, l, c, m, n, V0, V1, D0, D1, P0, P1, hcs, _, hl, hm, hmm, _, hall⟩
  · simp [Value.cells] at hcs
    obtain ⟨rfl, rfl, rfl⟩ := hcs
    exact ⟨0, [], ⟨rfl, none, 0, rfl, by omega, by omega, fun h => absurd h (by omega)⟩, by simp, by simp⟩
  · simp [Value.cells] at hcs
    obtain ⟨rfl, rfl, rfl⟩ := hcs
    simp only [if_true] at hmm
    have each : ∀ i, i < len → ∃ q : List ByteArray × Int, (∃ s, W.cell? (x.add (i * 2)) = some s ∧ W.cell? (x.add (i * 2 + 1)) = some (.int .i64 q.2) ∧ Rd W 0 W.heap.size 1 s q.1.length (q.1.map sv)) ∧ (∀ s ∈ q.1, s.size ≤ 9223372036854775807) ∧ I64 q.2 := by
      intro i hi
      obtain ⟨c0, c1, t0, t1⟩ := hall i (by omega)
      obtain ⟨j, e1, _, z1⟩ := DataW.trod_int h1 t1
      obtain ⟨ys, n', _, hx, _, hlen, hg⟩ := DataW.trod_struct hn t0
      match ys, hlen with
      | [y0], _ =>
        have g0 : DataW.trod enc Try.prog W 0 (fun _ => true) true n' g.type [V0 i] = some y0 := by simpa [og, kg] using hg 0 g rfl
        obtain ⟨ss, hr, hw⟩ := rd_strs hs hs' hc g0
        simp at e1
        exact ⟨(ss, j), ⟨V0 i, c0, by rw [c1, e1], hr⟩, hw, bounds_i64 z1⟩
    obtain ⟨q, hq⟩ := choose_lt each
    have hmem : ∀ e ∈ (List.range len).map q, ∃ i, i < len ∧ q i = e := by
      intro e he
      obtain ⟨i, hi, rfl⟩ := List.mem_map.1 he
      exact ⟨i, List.mem_range.1 hi, rfl⟩
    refine ⟨len, (List.range len).map q, ⟨by simp, _, cap, rfl, hl, by unfold maxLen at hm; omega, fun hn => ?_⟩, fun e he => ?_, fun e he => ?_⟩
    · obtain ⟨b, off, spot⟩ := x
      obtain ⟨s0, g0, _, _⟩ := (hq 0 (by omega)).1
      have hsp : spot = none := by simpa [Addr.add] using World.cell?_spot g0
      subst hsp
      have hb : b < W.heap.size := by simpa [Addr.add] using World.block_lt_of_cell? W _ g0
      refine ⟨b, off, rfl, Nat.zero_le _, hb, hb, fun k u hu => ?_⟩
      obtain ⟨hj, rfl⟩ := List.getElem?_eq_some_iff.1 hu
      simp only [List.length_map, List.length_range] at hj
      obtain ⟨s, g1, g2, g3⟩ := (hq k hj).1
      rw [Addr.add_lit] at g1 g2
      simp only [List.getElem_map, List.getElem_range]
      exact ⟨s, g1, by rw [Nat.add_assoc]; exact g2, g3⟩
    · obtain ⟨i, hi, rfl⟩ := hmem e he
      exact (hq i hi).2.1
    · obtain ⟨i, hi, rfl⟩ := hmem e he
      exact (hq i hi).2.2
end
end Go.Proofs.Ytcagbdidjakcpaa
