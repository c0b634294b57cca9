/- How an argument that is a name, a pattern, a list of strings is opened. Condition: it reads as data in the world W. -/
import Derived.Test.YtcagbdidjakcpaaFrame
import Derived.Test.YtcagbdidjakcpaaName
import Derived.SliceStrings
import Derived.Lib.SmallJoins
set_option maxRecDepth 100000
namespace Go.Proofs.Ytcagbdidjakcpaa
open Go.ChangeShapes Go.WideShapes Go.ChangeAt Go.RowKit Go.Joins Go.Deep
section
variable {H : Type} {enc : TypeId × Value → H} {W : World} {base : Nat} {v : Value} {d : DataW H} {p : List MemPlace}
theorem rd_strs {t e : TypeId} {fuel : Nat} {c0 : Value} {y : DataW H × List MemPlace} (ht : Try.prog.underlying t = some (.slice e)) (he : Try.prog.underlying e = some .string) (hc : Try.prog.cellsOf e = 1)
    (h : DataW.trod enc Try.prog W 0 (fun _ => true) true fuel t [c0] = some y) :
    ∃ ss : List ByteArray, Rd W 0 W.heap.size 1 c0 ss.length (ss.map sv) ∧ ∀ s ∈ ss, s.size ≤ 9223372036854775807 := by
  rcases open_strings ht he hc h with ⟨hcs, _⟩ | ⟨x, l, c, ss, hcs, _, hl, hm, hz, _, hcell, hws⟩
  · simp at hcs
    subst hcs
    exact ⟨[], Rd.nil _ _ _ _, by simp⟩
  · simp at hcs
    subst hcs
    simp only [if_true] at hz
    refine ⟨ss.take l, ⟨by simp, _, c, by rw [List.length_take, Nat.min_eq_left (by omega)], by rw [List.length_take]; omega, by unfold maxLen at hm; omega, fun hn => ?_⟩, fun s hs => by have := hws s (List.mem_of_mem_take hs); unfold maxLen at this; omega⟩
    rw [List.length_take] at hn
    obtain ⟨b, off, spot⟩ := x
    have h0 := hcell 0 (by omega)
    have hsp : spot = none := by simpa [Addr.add] using World.cell?_spot h0
    subst hsp
    have hb : b < W.heap.size := by simpa [Addr.add] using World.block_lt_of_cell? W _ h0
    refine ⟨b, off, rfl, Nat.zero_le _, hb, hb, fun j u hu => ?_⟩
    obtain ⟨hj, rfl⟩ := List.getElem?_eq_some_iff.1 hu
    have hj' : j < l ∧ j < ss.length := by simp at hj; omega
    have := hcell j hj'.2
    rw [Addr.add_lit] at this
    rw [this]
    simp [hj'.2, sv]
theorem rd_name {t e : TypeId} {f : Field} (hs : Try.prog.underlying t = some (.struct #[f])) (hone : oneCellFields Try.prog #[f] = true) (hC : Try.prog.cellsOf t = 1)
    (ht : Try.prog.underlying f.type = some (.slice e)) (he : Try.prog.underlying e = some .string) (hc : Try.prog.cellsOf e = 1)
    (hv : Value.okWide Try.prog W .any base t v) (h : DataW.Trod enc Try.prog W 0 (fun _ => true) true t v d p) :
    ∃ ss : List ByteArray, RdN W 0 W.heap.size v ss.length (ss.map sv) ∧ ∀ s ∈ ss, s.size ≤ 9223372036854775807 := by
  obtain ⟨cs, rfl, hsz⟩ := okWide_struct hs hv
  obtain ⟨l⟩ := cs
  match l, hsz.trans hC with
  | [c0], _ =>
    obtain ⟨fuel, hf⟩ := h
    obtain ⟨xs, n, _, hx, _, hlen, hg⟩ := DataW.trod_struct hs hf
    obtain ⟨o0, k0⟩ := hone_of hone 0 f rfl
    match xs, hlen with
    | [y0], _ =>
      have h0 : DataW.trod enc Try.prog W 0 (fun _ => true) true n f.type [c0] = some y0 := by simpa [Value.cells, o0, k0] using hg 0 f rfl
      obtain ⟨ss, hr, hw⟩ := rd_strs ht he hc h0
      exact ⟨ss, ⟨c0, rfl, hr⟩, hw⟩
end
end Go.Proofs.Ytcagbdidjakcpaa
