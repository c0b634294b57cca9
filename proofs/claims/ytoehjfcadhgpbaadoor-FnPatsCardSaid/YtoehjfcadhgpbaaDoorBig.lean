/- The laws' guard on the length of their code. -/
import Derived.Test.YtoehjfcadhgpbaaDoorBytesS
set_option linter.unusedVariables false
namespace Go.Proofs.YtoehjfcadhgpbaaDoor
open Go.RowKit
theorem big_c {w : World} {lo hi n : Nat} {v : Value} {xs : List Value} (h : Rd w lo hi 1 v n xs) {b : Bool} (hb : decide (1048576 < n) = b) :
    Calls Tryd.prog 17 #[v] w (Gives w fun r _ => r = .bool b) := by
  obtain ⟨a, cap, rfl, hn⟩ := h.form
  have HB := hid hb
  clear hb h
  go_enter Tryd.func17, Tryd.ntmps17
  go_wp2
  go_ret
  exact gives_bool (by rw [← HB.out]; exact decide_eq_decide.2 (by omega)) (ext_refl _)
end Go.Proofs.YtoehjfcadhgpbaaDoor
