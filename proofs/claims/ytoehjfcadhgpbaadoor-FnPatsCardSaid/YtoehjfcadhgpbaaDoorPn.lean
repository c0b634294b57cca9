/- What a text spells as a name, and the text that a name is written as. Nothing here speaks of the program's code. -/
import Derived.Test.YtoehjfcadhgpbaaDoorJn
import Derived.Test.YtoehjfcadhgpbaaDoorPq
set_option linter.unusedVariables false
namespace Go.Proofs.YtoehjfcadhgpbaaDoor
open Go.RowKit
theorem fm_ps (s : ByteArray) : fm (ps s) (ps s).length = 47 :: s.data.toList.drop 1 := by
  rw [fm, List.take_length, ps, List.flatMap_map]
  simp only [bs_list]
  exact spl_join _
theorem fmt_ps (s : ByteArray) : fmt (ps s) = bs (47 :: s.data.toList.drop 1) := by rw [fmt_pos (ps_pos s), fm_ps]
theorem fmt_head {s : ByteArray} (h : s.data.toList.head? = some 47) : fmt (ps s) = s := by
  rw [fmt_ps]
  cases e : s.data.toList with
  | nil => rw [e] at h; cases h
  | cons c r =>
    rw [e] at h
    injection h with h
    subst h
    rw [List.drop_succ_cons, List.drop_zero, ← e]
    exact bs_data s
theorem fmt_other {s : ByteArray} (h : ¬ s.data.toList.head? = some 47) : ¬ fmt (ps s) = s := by
  rw [fmt_ps]
  intro e
  apply h
  rw [← e, bs_list]
  rfl
theorem fmt_nil : fmt [] = bs [47] := fmt_zero rfl
end Go.Proofs.YtoehjfcadhgpbaaDoor
