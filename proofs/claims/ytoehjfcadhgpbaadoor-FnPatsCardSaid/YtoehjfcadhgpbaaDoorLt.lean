/- The letter of a pattern: what the program and the reference take for one. Condition: none. -/
import Derived.Test.YtoehjfcadhgpbaaDoorPart
set_option linter.unusedVariables false
namespace Go.Proofs.YtoehjfcadhgpbaaDoor
open Go.RowKit
/-- A question mark and a small letter. -/
def lt (s : ByteArray) : Bool := if h : s.size = 2 then (decide (s[0].toNat = 63) && decide (97 ≤ s[1].toNat) && decide (s[1].toNat ≤ 122)) else false
theorem lt_no {s : ByteArray} (h : ¬ s.size = 2) : lt s = false := by unfold lt; rw [dif_neg h]
theorem lt_two {s : ByteArray} (h : s.size = 2) : lt s = (decide (s[0].toNat = 63) && decide (97 ≤ s[1].toNat) && decide (s[1].toNat ≤ 122)) := by unfold lt; rw [dif_pos h]
theorem lt_cases (s : ByteArray) : (¬ s.size = 2 ∧ ((s.size : Int) == 2) = false ∧ lt s = false) ∨ (∃ h : s.size = 2, ((s.size : Int) == 2) = true ∧
    ((((s[0].toNat : Int) == 63) = false ∧ lt s = false) ∨
     (((s[0].toNat : Int) == 63) = true ∧ ¬ 97 ≤ (s[1].toNat : Int) ∧ decide (97 ≤ (s[1].toNat : Int)) = false ∧ lt s = false) ∨
     (((s[0].toNat : Int) == 63) = true ∧ 97 ≤ (s[1].toNat : Int) ∧ decide (97 ≤ (s[1].toNat : Int)) = true ∧ ¬ (s[1].toNat : Int) ≤ 122 ∧ decide ((s[1].toNat : Int) ≤ 122) = false ∧ lt s = false) ∨
     (((s[0].toNat : Int) == 63) = true ∧ 97 ≤ (s[1].toNat : Int) ∧ decide (97 ≤ (s[1].toNat : Int)) = true ∧ (s[1].toNat : Int) ≤ 122 ∧ decide ((s[1].toNat : Int) ≤ 122) = true ∧ lt s = true))) := by
  by_cases h : s.size = 2
  · refine .inr ⟨h, by simp; omega, ?_⟩
    rw [lt_two h]
    generalize s[0].toNat = a
    generalize s[1].toNat = b
    by_cases ha : a = 63
    · have e : ((a : Int) == 63) = true := by simp; omega
      refine .inr ?_
      by_cases hb : 97 ≤ b
      · refine .inr ?_
        by_cases hc : b ≤ 122
        · exact .inr ⟨e, by omega, decide_eq_true (by omega), by omega, decide_eq_true (by omega), by simp [ha, hb, hc]⟩
        · exact .inl ⟨e, by omega, decide_eq_true (by omega), by omega, decide_eq_false (by omega), by simp [ha, hb, hc]⟩
      · exact .inl ⟨e, by omega, decide_eq_false (by omega), by simp [ha, hb]⟩
    · exact .inl ⟨by simp; omega, by simp [ha]⟩
  · exact .inl ⟨h, by simp; omega, lt_no h⟩
set_option maxHeartbeats 1000000 in
theorem l5Letter_c {w : World} (s : ByteArray) : Calls Tryd.prog 68 #[.string s] w (Gives w fun r _ => r = .bool (lt s)) := by
  rcases lt_cases s with ⟨h, h1, hl⟩ | ⟨h, h1, ⟨h2, hl⟩ | ⟨h2, h3, h4, hl⟩ | ⟨h2, h3, h4, h5, h6, hl⟩ | ⟨h2, h3, h4, h5, h6, hl⟩⟩
  all_goals
    have g0 : 0 ≤ s.size := Nat.zero_le _
    try have g1 : 0 < s.size := by omega
    try have g2 : 1 < s.size := by omega
    try have u0 : (0 : Int) ≤ (s[1].toNat : Int) := by omega
    try have u1 : (s[1].toNat : Int) ≤ 255 := by have := UInt8.toNat_lt s[1]; omega
    have HL := hid hl
    clear hl
    go_enter Tryd.func68, Tryd.ntmps68
    go_wp2
    go_ret
    exact gives_bool HL.out.symm (ext_refl _)
set_option maxHeartbeats 1000000 in
theorem isVariable_c {w : World} (s : ByteArray) : Calls Tryd.prog 67 #[.string s] w (Gives w fun r _ => r = .bool (lt s)) := by
  rcases lt_cases s with ⟨h, h1, hl⟩ | ⟨h, h1, ⟨h2, hl⟩ | ⟨h2, h3, h4, hl⟩ | ⟨h2, h3, h4, h5, h6, hl⟩ | ⟨h2, h3, h4, h5, h6, hl⟩⟩
  all_goals
    have g0 : 0 ≤ s.size := Nat.zero_le _
    try have g1 : 0 < s.size := by omega
    try have g2 : 1 < s.size := by omega
    try have u0 : (0 : Int) ≤ (s[1].toNat : Int) := by omega
    try have u1 : (s[1].toNat : Int) ≤ 255 := by have := UInt8.toNat_lt s[1]; omega
    have HL := hid hl
    clear hl
    go_enter Tryd.func67, Tryd.ntmps67
    go_wp2
    go_ret
    exact gives_bool HL.out.symm (ext_refl _)
end Go.Proofs.YtoehjfcadhgpbaaDoor
