/- FnExactValidTable holds: impl.ValidTable and spec.ValidTable agree at every table. No condition. -/
import Derived.Test.YtdfaddajlkbioaaFrame
import Derived.Test.YtdfaddajlkbioaaFrameT
import Derived.Test.YtdfaddajlkbioaaTabE
import Derived.Test.YtdfaddajlkbioaaTabV
import Derived.Test.YtdfaddajlkbioaaJoined
import Derived.Deep.RegionHeld3
set_option linter.unusedVariables false
namespace Go.Proofs.Ytdfaddajlkbioaa
set_option maxHeartbeats 1000000
namespace fnExactValidTable
open Go.ChangeShapes Go.WideShapes Go.ChangeAt Go.RowKit
open Go.ChangeMaps (open_string shut_string)
/-- The call returns true and leaves all that was there unturned. -/
theorem walk (w : World) (v0 : Value) (n0 : Nat) (x0 : List (List ByteArray × Int)) (r0 : RdT w 0 w.heap.size v0 n0 x0) (w0 : ∀ e ∈ x0, ∀ s ∈ e.1, s.size ≤ 9223372036854775807) (g0 : ∀ e ∈ x0, I64 e.2) :
    Calls Try.prog 7 #[v0] w fun e w' => e = .returned (.bool true) ∧ Below w.heap.size w w' := by
  have l0 := tw_len n0 x0
  go_enter Try.func7, Try.ntmps7
  have X := ext_refl w
  go_wp2_with fail
  refine (szTableEntryS_c r0 w0 (by omega) (by omega)).mono ?_
  rintro e W1 ⟨_, rfl, rfl, y1⟩
  have q1 := y1.size
  replace X := ext_trans X y1
  replace r0 := r0.ext y1
  clear y1
  by_cases h0 : ¬ ((tw n0 x0 : Nat) : Int) ≤ 1048576
  · rw [szS_no h0]
    go_wp2
    go_ret
    exact ⟨rfl, X⟩
  rw [szS_ok (show ((tw n0 x0 : Nat) : Int) ≤ 1048576 by omega)]
  go_wp2_with fail
  refine (toTableEntryS_c r0 (by omega) (by omega)).mono ?_
  rintro e W2 ⟨u1, rfl, o1, y2⟩
  have q2 := y2.size
  replace X := ext_trans X y2
  replace r0 := r0.ext y2
  clear y2
  go_wp2_with fail
  refine (specValidTable_c o1.rd w0).mono ?_
  rintro e W3 ⟨_, rfl, rfl, y3⟩
  have q3 := y3.size
  replace X := ext_trans X y3
  replace r0 := r0.ext y3
  replace o1 := o1.ext y3
  clear y3
  clear o1
  go_wp2_with fail
  refine (toTableEntryS_c r0 (by omega) (by omega)).mono ?_
  rintro e W4 ⟨u2, rfl, o2, y4⟩
  have q4 := y4.size
  replace X := ext_trans X y4
  replace r0 := r0.ext y4
  clear y4
  go_wp2_with fail
  refine (implValidTable_c o2.rd w0).mono ?_
  rintro e W5 ⟨_, rfl, rfl, y5⟩
  have q5 := y5.size
  replace X := ext_trans X y5
  replace r0 := r0.ext y5
  replace o2 := o2.ext y5
  clear y5
  go_wp2_with fail
  refine (toTableEntryS_c r0 (by omega) (by omega)).mono ?_
  rintro e W6 ⟨u3, rfl, o3, y6⟩
  have q6 := y6.size
  replace X := ext_trans X y6
  replace r0 := r0.ext y6
  replace o2 := o2.ext y6
  clear y6
  go_wp2_with fail
  refine (eqTableEntryS_c o2.rd o3.rd).mono ?_
  rintro e W7 ⟨_, rfl, rfl, y7⟩
  have q7 := y7.size
  replace X := ext_trans X y7
  replace r0 := r0.ext y7
  replace o2 := o2.ext y7
  replace o3 := o3.ext y7
  clear y7
  clear o3
  go_wp2_with fail
  go_ret
  exact ⟨rfl, X⟩
set_option maxRecDepth 100000 in
theorem lifted (os : Os) (started : os.Started) (H : Type) (enc : TypeId × Value → H) :
    ReturnsInHanded {} Try.checked os 7 .any (Rows.fnExactValidTableSpec.pre6 enc Try.prog Try.f7 Rows.fnExactValidTableRow.domain false) (Rows.fnExactValidTableSpec.post enc Try.prog Try.f7 false true false false) := by
  refine returnsInHanded_of_change (C := Try.checked) own started (by kernel_rfl) Try.func7
    (ChangeSpec.witness6 (enc := enc) (C := Try.checked) false ⟨#[], #[.slice none 0 0], []⟩ 8 (by kernel_rfl) (by kernel_rfl) (by kernel_rfl) (by kernel_rfl)) ?_
  intro W base args ds gs before hval0 hW hcnd _
  have hval : ∀ (j : Nat) t v, Try.f7.params[j]? = some t → args[j]? = some v → Value.okWide Try.prog W .any base t v := hval0
  have hW' := hW
  obtain ⟨p, q, hA0, hV, rfl, hfz, hnd⟩ := hW
  have hA : DataW.TrodAll enc Try.prog W 0 (fun _ => true) true Try.f7.params.toList args.toList ds p := hA0
  rw [Try.params7] at hA hval
  obtain ⟨v0, vs0, d0, ds0, p0, q0, hargs, rfl, rfl, h0, tr0⟩ := trodAll_cons hA
  obtain ⟨rfl, rfl, rfl⟩ := trodAll_nil tr0
  obtain rfl : args = #[v0] := by cases args; simp_all
  obtain ⟨rfl, rfl⟩ := trodVars_none hV
  have k0 := h0
  have lt0 : ∀ x ∈ p0, x.block < W.heap.size := by obtain ⟨m, hm⟩ := k0; exact DataW.trod_lt m _ _ _ hm
  obtain ⟨n0, x0, r0, w0, g0⟩ := rd_tab Try.underlying22 Try.underlying59 (by kernel_rfl) (by kernel_rfl) Try.underlying30 (by kernel_rfl) Try.underlying28 Try.underlying9 (by kernel_rfl) Try.underlying3 (hval 0 22 v0 rfl rfl) h0
  clear hA0 hval0
  try simp only [List.append_nil] at hW'
  refine (walk W v0 n0 x0 r0 w0 g0).mono fun e W' ⟨he, bel⟩ => ?_
  subst he
  exact ⟨_, rfl, _, _, _, [], _, [], hW', trodAll_mk1 (shut_bool Try.underlying4 _), (trodAll_cons_mk (Below.trod laidOut (by kernel_rfl) (of_decide_eq_true (by kernel_rfl)) k0 bel lt0) trodAll_mk0), rfl, bel.frame _, fun h => by cases h⟩

theorem closed : joinedFacts Try.pinned.checked.prog 7 Try.f7 Rows.fnExactValidTableSpec Rows.fnExactValidTableRow = true := by
  unfold joinedFacts
  rw [show Try.pinned.checked.prog.mayEnter = true from joined1, show (Rows.fnExactValidTableRow.lifted == Try.pinned.checked.prog.liftsFinal) = true from joined2, show (Try.pinned.checked.prog.make == some Rows.fnExactValidTableRow.make) = true from joined3]
  kernel_rfl
theorem over : Rows.fnExactValidTableRow.holds Try.pinned (OpenSpec.ofChange Rows.fnExactValidTableSpec) :=
  OpenClaim.holds_of_wide 7 Try.f7 rfl rfl rfl rfl rfl rfl rfl ⟨rfl, rfl, rfl, rfl, rfl⟩ rfl rfl rfl rfl rfl (by kernel_rfl) Try.func7 closed
    (of_decide_eq_true (by kernel_rfl)) (by unfold Func.isWrapper; first | (rw [if_pos (by decide +kernel)]; kernel_rfl) | (rw [if_neg (by decide +kernel)]; exact ⟨rfl, rfl⟩))
    (fun os started H enc _ => lifted os started H enc)
/-- The statement. -/
theorem proved : Rows.FnExactValidTableSaid := over
end fnExactValidTable
end Go.Proofs.Ytdfaddajlkbioaa
