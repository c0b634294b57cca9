/- []byte(s) of a string; DeriveSecret of the program and of the reference. Condition: the string is of at most 2^31 bytes. -/
import Derived.Test.YtiikpkkpacjamaaMac
namespace Go.Proofs.Ytiikpkkpacjamaa
open Go.RowKit
theorem conv_bytes {P : Program} (w : World) (s : ByteArray) (src dst e : TypeId) (hs : P.underlying src = some .string) (hd : P.underlying dst = some (.slice e)) (he : P.underlying e = some (.int .u8)) (hm : s.size ≤ 1099511627776) :
    ∃ g W, (convert src dst (.string s)).run P w = .ok (.slice (some ⟨w.heap.size, 0, none⟩) s.size g) W ∧ Rd W w.heap.size W.heap.size 1 (.slice (some ⟨w.heap.size, 0, none⟩) s.size g) s.size (s.data.toList.map bv) ∧ Below w.heap.size w W := by
  refine ⟨_, _, run_bytes_of_string w src dst e s hs hd he, ?_, (Below.drew (Below.refl _ _)).alloc (Nat.le_refl _) _⟩
  have hge := grownCap_ge w s.size 0 e
  have hle := grownCap_le_maxLen w s.size 0 e (by unfold maxLen; omega)
  refine ⟨by simp, _, _, rfl, hge, by unfold maxLen at hle; omega, fun _ => ⟨w.heap.size, 0, rfl, Nat.le_refl _, by simp, by simp, fun j u hu => ?_⟩⟩
  obtain ⟨hj, rfl⟩ := List.getElem?_eq_some_iff.1 hu
  have hj' : j < s.data.size := by simpa using hj
  rw [Nat.zero_add]
  have e1 := World.cell?_alloc_mark w.drew (bytesRow s (grownCap w s.size 0 e)) e ((bytesRow s (grownCap w s.size 0 e)).size, (bytesRow s (grownCap w s.size 0 e)).size + 1) j
  rw [show w.drew.heap.size = w.heap.size from rfl] at e1
  rw [e1, bytesRow_at s _ j hj']
  simp [bv]
def ds (s : Int) (t : ByteArray) : Int := if mac s (bti t.data.toList) = 0 then 1 else mac s (bti t.data.toList)
theorem specDeriveSecret_c {w : World} {s : Int} {t : ByteArray} (hm : t.size ≤ 2147483648) :
    Calls Try.prog 50 #[.int .i64 s, .string t] w (Gives w fun r _ => r = .int .i64 (ds s t)) := by
  obtain ⟨g, W, hr, r1, x1⟩ := conv_bytes (P := Try.prog) w t 9 22 5 Try.underlying9 Try.underlying22 Try.underlying5 (by omega)
  have HB := hid (mac_bd s (bti t.data.toList))
  have HD : Hid (ds s t = if mac s (bti t.data.toList) = 0 then 1 else mac s (bti t.data.toList)) := rfl
  go_enter Try.func50, Try.ntmps50
  go_wp2_with fail
  refine (specBytesToInts_c r1 (by omega)).mono ?_
  rintro e w2 ⟨v2, rfl, o2, x2⟩
  clear hr r1
  go_wp2_with fail
  refine (specComputeMAC_c o2.rd (by omega)).mono ?_
  rintro e w3 ⟨_, rfl, rfl, x3⟩
  have x := ext_trans (ext_trans x1 x2) x3
  clear x1 x2 x3 o2
  generalize mac s (bti t.data.toList) = m at HB HD
  obtain ⟨b1, b2⟩ := HB.out
  by_cases h0 : m ≤ 1
  · have d1 : decide (1 < m) = false := by simp; exact h0
    go_wp2
    go_ret
    exact gives_int (by rw [HD.out]; split <;> omega) x
  · have d1 : (1 : Int) < m := by omega
    go_wp2
    go_ret
    exact gives_int (by rw [HD.out, if_neg (by omega)]) x
theorem implDeriveSecret_c {w : World} {s : Int} {t : ByteArray} (hm : t.size ≤ 2147483648) :
    Calls Try.prog 49 #[.int .i64 s, .string t] w (Gives w fun r _ => r = .int .i64 (ds s t)) := by
  obtain ⟨g, W, hr, r1, x1⟩ := conv_bytes (P := Try.prog) w t 9 22 5 Try.underlying9 Try.underlying22 Try.underlying5 (by omega)
  have HD : Hid (ds s t = if mac s (bti t.data.toList) = 0 then 1 else mac s (bti t.data.toList)) := rfl
  go_enter Try.func49, Try.ntmps49
  go_wp2_with fail
  refine (implBytesToInts_c r1 (by omega)).mono ?_
  rintro e w2 ⟨v2, rfl, o2, x2⟩
  clear hr r1
  go_wp2_with fail
  refine (implComputeMAC_c o2.rd (by omega)).mono ?_
  rintro e w3 ⟨_, rfl, rfl, x3⟩
  have x := ext_trans (ext_trans x1 x2) x3
  clear x1 x2 x3 o2
  generalize mac s (bti t.data.toList) = m at HD
  by_cases h0 : m = 0
  · have hz1 : (m == 0) = true := by simp; exact h0
    have HZ := hid h0
    clear h0
    go_wp2
    go_ret
    exact gives_int (by rw [HD.out, if_pos HZ.out]) x
  · have hz1 : (m == 0) = false := by simp; exact h0
    go_wp2
    go_ret
    exact gives_int (by rw [HD.out, if_neg h0]) x
end Go.Proofs.Ytiikpkkpacjamaa
