/- What the row's closed cells ask of the program's own words: reckoned once for all laws of the seat (it takes the kernel some 90 s). No condition. -/
import Derived.Test.YtcagbdidjakcpaaFrame
namespace Go.Proofs.Ytcagbdidjakcpaa
theorem joinedBig : (Try.pinned.checked.prog.mayEnter && (Rows.fnWithsRow.lifted == Try.pinned.checked.prog.liftsFinal) && (Try.pinned.checked.prog.make == some Rows.fnWithsRow.make)) = true := by kernel_rfl
theorem joined1 : Try.pinned.checked.prog.mayEnter = true := (Bool.and_eq_true_iff.1 (Bool.and_eq_true_iff.1 joinedBig).1).1
theorem joined2 : (Rows.fnWithsRow.lifted == Try.pinned.checked.prog.liftsFinal) = true := (Bool.and_eq_true_iff.1 (Bool.and_eq_true_iff.1 joinedBig).1).2
theorem joined3 : (Try.pinned.checked.prog.make == some Rows.fnWithsRow.make) = true := (Bool.and_eq_true_iff.1 joinedBig).2
end Go.Proofs.Ytcagbdidjakcpaa
