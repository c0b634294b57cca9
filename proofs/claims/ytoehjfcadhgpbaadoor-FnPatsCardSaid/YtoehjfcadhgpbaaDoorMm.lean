/- Matches by the program and the reference. Condition: the values read as strings of a size that fits; they are not too many. -/
import Derived.Test.YtoehjfcadhgpbaaDoorMi
set_option linter.unusedVariables false
namespace Go.Proofs.YtoehjfcadhgpbaaDoor
open Go.RowKit
set_option maxHeartbeats 1000000 in
theorem specMatches_c {w : World} {lo hi lo' hi' : Nat} {v v' : Value} {ps ns : List ByteArray} (h : RdN w lo hi v ps.length (ps.map sv)) (h' : RdN w lo' hi' v' ns.length (ns.map sv))
    (hs : ∀ s ∈ ps, s.size ≤ 9223372036854775807) (hs' : ∀ s ∈ ns, s.size ≤ 9223372036854775807) (hpl : ps.length ≤ 1099511627776) :
    Calls Tryd.prog 29 #[v, v'] w (Gives w fun r _ => r = .bool (mR ps ns []).2) := by
  obtain ⟨s, rfl, h⟩ := h
  obtain ⟨s', rfl, h'⟩ := h'
  obtain ⟨W, hW⟩ : ∃ W, W = ((w.alloc (.cells #[s] 24)).alloc (.cells #[s'] 30)).alloc (.cells #[] 74) := ⟨_, rfl⟩
  have x0 : Below w.heap.size w W := by rw [hW]; exact ext_alloc (ext_alloc (ext_alloc (ext_refl w) _) _) _
  have C := hid (specMatch_c (u := .slice (some ⟨w.heap.size + 2, 0, none⟩) 0 0) (m := 0) (ls := []) ⟨s, rfl, h.ext x0⟩ ⟨s', rfl, h'.ext x0⟩ (Rd.none_ W 0 0 2 _ (by omega)) hs hs' (by omega) hpl)
  clear h h' hs hs'
  go_enter Tryd.func29, Tryd.ntmps29
  go_wp2_with fail
  rw [← hW]
  clear hW
  refine C.out.mono ?_
  rintro e w1 ⟨_, rfl, ⟨u1, n1, rfl, o1⟩, y1⟩
  have x := ext_trans x0 y1
  clear C y1 x0 o1
  generalize hB : (mR ps ns []).2 = b
  have HB := hid hB
  clear hB
  go_wp2
  go_ret
  exact gives_bool HB.out.symm x
set_option maxHeartbeats 1000000 in
theorem implMatches_c {w : World} {lo hi lo' hi' : Nat} {v v' : Value} {ps ns : List ByteArray} (h : RdN w lo hi v ps.length (ps.map sv)) (h' : RdN w lo' hi' v' ns.length (ns.map sv))
    (hs : ∀ s ∈ ps, s.size ≤ 9223372036854775807) (hs' : ∀ s ∈ ns, s.size ≤ 9223372036854775807) (hpl : ps.length ≤ 1099511627776) :
    Calls Tryd.prog 28 #[v, v'] w (Gives w fun r _ => r = .bool (mR ps ns []).2) := by
  obtain ⟨s, rfl, h⟩ := h
  obtain ⟨s', rfl, h'⟩ := h'
  obtain ⟨W, hW⟩ : ∃ W, W = (w.alloc (.cells #[s] 24)).alloc (.cells #[s'] 30) := ⟨_, rfl⟩
  have x0 : Below w.heap.size w W := by rw [hW]; exact ext_alloc (ext_alloc (ext_refl w) _) _
  have C := hid (implMatch_c (u := .slice none 0 0) (m := 0) (ls := []) ⟨s, rfl, h.ext x0⟩ ⟨s', rfl, h'.ext x0⟩ (Rd.none_ W 0 0 2 _ (by omega)) hs hs' (by omega) hpl)
  clear h h' hs hs'
  go_enter Tryd.func28, Tryd.ntmps28
  go_wp2_with fail
  rw [← hW]
  clear hW
  refine C.out.mono ?_
  rintro e w1 ⟨_, rfl, ⟨u1, n1, rfl, o1⟩, y1⟩
  have x := ext_trans x0 y1
  clear C y1 x0 o1
  generalize hB : (mR ps ns []).2 = b
  have HB := hid hB
  clear hB
  go_wp2
  go_ret
  exact gives_bool HB.out.symm x
end Go.Proofs.YtoehjfcadhgpbaaDoor
