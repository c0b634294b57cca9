/- []byte(s) of a string. Condition: the string is of at most 2^40 bytes. -/
import Derived.Test.YtbachbanjcabhaaBytesS
namespace Go.Proofs.Ytbachbanjcabhaa
open Go.RowKit
theorem conv_bytes {P : Program} (w : World) (s : ByteArray) (src dst e : TypeId) (hs : P.underlying src = some .string) (hd : P.underlying dst = some (.slice e)) (he : P.underlying e = some (.int .u8)) (hm : s.size ≤ 1099511627776) :
    ∃ g W, (convert src dst (.string s)).run P w = .ok (.slice (some ⟨w.heap.size, 0, none⟩) s.size g) W ∧ Rd W w.heap.size W.heap.size 1 (.slice (some ⟨w.heap.size, 0, none⟩) s.size g) s.size (s.data.toList.map bv) ∧ Below w.heap.size w W := by
  refine ⟨_, _, run_bytes_of_string w src dst e s hs hd he, ?_, (Below.drew (Below.refl _ _)).alloc (Nat.le_refl _) _⟩
  have hge := grownCap_ge w s.size 0 e
  have hle := grownCap_le_maxLen w s.size 0 e (by unfold maxLen; omega)
  refine ⟨by simp, _, _, rfl, hge, by unfold maxLen at hle; omega, fun _ => ⟨w.heap.size, 0, rfl, Nat.le_refl _, by simp, by simp, fun j u hu => ?_⟩⟩
  obtain ⟨hj, rfl⟩ := List.getElem?_eq_some_iff.1 hu
  have hj' : j < s.data.size := by simpa using hj
  rw [Nat.zero_add]
  have e1 := World.cell?_alloc_mark w.drew (bytesRow s (grownCap w s.size 0 e)) e ((bytesRow s (grownCap w s.size 0 e)).size, (bytesRow s (grownCap w s.size 0 e)).size + 1) j
  rw [show w.drew.heap.size = w.heap.size from rfl] at e1
  rw [e1, bytesRow_at s _ j hj']
  simp [bv]
end Go.Proofs.Ytbachbanjcabhaa
