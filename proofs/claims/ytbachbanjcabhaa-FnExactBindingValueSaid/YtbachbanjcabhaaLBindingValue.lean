/- FnExactBindingValue holds: impl.BindingValue and spec.BindingValue agree at every slice of bindings and every string. No condition. -/
import Derived.Test.YtbachbanjcabhaaFrame
import Derived.Test.YtbachbanjcabhaaFrameB
import Derived.Test.YtbachbanjcabhaaJoined
set_option linter.unusedVariables false
namespace Go.Proofs.Ytbachbanjcabhaa
set_option maxHeartbeats 1000000
namespace fnExactBindingValue
open Go.ChangeShapes Go.WideShapes Go.ChangeAt Go.RowKit
open Go.ChangeMaps (open_string shut_string)
/-- The call returns true and leaves all that was there unturned. -/
theorem walk (w : World) (v0 : Value) (n0 : Nat) (x0 : List ByteArray) (r0 : Rd w 0 w.heap.size 2 v0 n0 (x0.map sv)) (w0 : ∀ s ∈ x0, s.size ≤ 9223372036854775807) (s1 : ByteArray) (w1 : s1.size ≤ maxLen) :
    Calls Try.prog 3 #[v0, .string s1] w fun e w' => e = .returned (.bool true) ∧ Below w.heap.size w w' := by
  obtain ⟨b0, c0, rfl, hn0⟩ := r0.form
  unfold maxLen at w1
  by_cases h1 : (s1.size : Int) ≤ 1048576
  · skip
    have l0 := bw_len n0 x0
    go_enter Try.func3, Try.ntmps3
    have X := ext_refl w
    go_wp2_with fail
    refine (szBindingS_c r0 w0 (by omega) (by omega)).mono ?_
    rintro e W1 ⟨_, rfl, rfl, y1⟩
    have q1 := y1.size
    replace X := ext_trans X y1
    replace r0 := r0.ext y1
    clear y1
    by_cases h0 : ¬ ((bw n0 x0 : Nat) : Int) ≤ 1048576
    · rw [szS_no h0]
      go_wp2
      go_ret
      exact ⟨rfl, X⟩
    rw [szS_ok (show ((bw n0 x0 : Nat) : Int) ≤ 1048576 by omega)]
    go_wp2_with fail
    refine (toBindingS_c r0 (by omega)).mono ?_
    rintro e W2 ⟨u1, rfl, o1, y2⟩
    have q2 := y2.size
    replace X := ext_trans X y2
    replace r0 := r0.ext y2
    clear y2
    go_wp2_with fail
    refine (specBindingValue_c o1.rd).mono ?_
    rintro e W3 ⟨_, rfl, rfl, y3⟩
    have q3 := y3.size
    replace X := ext_trans X y3
    replace r0 := r0.ext y3
    replace o1 := o1.ext y3
    clear y3
    clear o1
    go_wp2_with fail
    refine (toBindingS_c r0 (by omega)).mono ?_
    rintro e W4 ⟨u2, rfl, o2, y4⟩
    have q4 := y4.size
    replace X := ext_trans X y4
    replace r0 := r0.ext y4
    clear y4
    go_wp2_with fail
    refine (implBindingValue_c o2.rd).mono ?_
    rintro e W5 ⟨_, rfl, rfl, y5⟩
    have q5 := y5.size
    replace X := ext_trans X y5
    replace r0 := r0.ext y5
    replace o2 := o2.ext y5
    clear y5
    go_wp2_with fail
    refine (toBindingS_c r0 (by omega)).mono ?_
    rintro e W6 ⟨u3, rfl, o3, y6⟩
    have q6 := y6.size
    replace X := ext_trans X y6
    replace r0 := r0.ext y6
    replace o2 := o2.ext y6
    clear y6
    go_wp2_with fail
    refine (eqBindingS_c o2.rd o3.rd).mono ?_
    rintro e W7 ⟨_, rfl, rfl, y7⟩
    have q7 := y7.size
    replace X := ext_trans X y7
    replace r0 := r0.ext y7
    replace o2 := o2.ext y7
    replace o3 := o3.ext y7
    clear y7
    go_wp2_with fail
    go_ret
    exact ⟨rfl, X⟩
  · go_enter Try.func3, Try.ntmps3
    go_wp2
    go_ret
    exact ⟨rfl, ext_refl _⟩
set_option maxRecDepth 100000 in
theorem lifted (os : Os) (started : os.Started) (H : Type) (enc : TypeId × Value → H) :
    ReturnsInHanded {} Try.checked os 3 .any (Rows.fnExactBindingValueSpec.pre6 enc Try.prog Try.f3 Rows.fnExactBindingValueRow.domain false) (Rows.fnExactBindingValueSpec.post enc Try.prog Try.f3 false true false false) := by
  refine returnsInHanded_of_change (C := Try.checked) own started (by kernel_rfl) Try.func3
    (ChangeSpec.witness6 (enc := enc) (C := Try.checked) false ⟨#[], #[.slice none 0 0, .string ByteArray.empty], []⟩ 8 (by kernel_rfl) (by kernel_rfl) (by kernel_rfl) (by kernel_rfl)) ?_
  intro W base args ds gs before hval0 hW hcnd _
  have hval : ∀ (j : Nat) t v, Try.f3.params[j]? = some t → args[j]? = some v → Value.okWide Try.prog W .any base t v := hval0
  have hW' := hW
  obtain ⟨p, q, hA0, hV, rfl, hfz, hnd⟩ := hW
  have hA : DataW.TrodAll enc Try.prog W 0 (fun _ => true) true Try.f3.params.toList args.toList ds p := hA0
  rw [Try.params3] at hA hval
  obtain ⟨v0, vs0, d0, ds0, p0, q0, hargs, rfl, rfl, h0, tr0⟩ := trodAll_cons hA
  obtain ⟨v1, vs1, d1, ds1, p1, q1, rfl, rfl, rfl, h1, tr1⟩ := trodAll_cons tr0
  obtain ⟨rfl, rfl, rfl⟩ := trodAll_nil tr1
  obtain rfl : args = #[v0, v1] := by cases args; simp_all
  obtain ⟨rfl, rfl⟩ := trodVars_none hV
  have k0 := h0
  have lt0 : ∀ x ∈ p0, x.block < W.heap.size := by obtain ⟨m, hm⟩ := k0; exact DataW.trod_lt m _ _ _ hm
  obtain ⟨n0, x0, r0, w0⟩ := rd_binds Try.underlying22 Try.underlying81 (by kernel_rfl) (by kernel_rfl) Try.underlying9 Try.underlying9 (hval 0 22 v0 rfl rfl) h0
  obtain ⟨s1, rfl, rfl, rfl, w1⟩ := open_string Try.underlying9 (hval 1 9 v1 rfl rfl) h1
  clear hA0 hval0
  try simp only [List.append_nil] at hW'
  refine (walk W v0 n0 x0 r0 w0 s1 w1).mono fun e W' ⟨he, bel⟩ => ?_
  subst he
  exact ⟨_, rfl, _, _, _, [], _, [], hW', trodAll_mk1 (shut_bool Try.underlying4 _), (trodAll_cons_mk (Below.trod laidOut (by kernel_rfl) (of_decide_eq_true (by kernel_rfl)) k0 bel lt0) (trodAll_cons_mk (shut_string Try.underlying9 w1) trodAll_mk0)), rfl, bel.frame _, fun h => by cases h⟩

theorem closed : joinedFacts Try.pinned.checked.prog 3 Try.f3 Rows.fnExactBindingValueSpec Rows.fnExactBindingValueRow = true := by
  unfold joinedFacts
  rw [show Try.pinned.checked.prog.mayEnter = true from joined1, show (Rows.fnExactBindingValueRow.lifted == Try.pinned.checked.prog.liftsFinal) = true from joined2, show (Try.pinned.checked.prog.make == some Rows.fnExactBindingValueRow.make) = true from joined3]
  kernel_rfl
theorem over : Rows.fnExactBindingValueRow.holds Try.pinned (OpenSpec.ofChange Rows.fnExactBindingValueSpec) :=
  OpenClaim.holds_of_wide 3 Try.f3 rfl rfl rfl rfl rfl rfl rfl ⟨rfl, rfl, rfl, rfl, rfl⟩ rfl rfl rfl rfl rfl (by kernel_rfl) Try.func3 closed
    (of_decide_eq_true (by kernel_rfl)) (by unfold Func.isWrapper; first | (rw [if_pos (by decide +kernel)]; kernel_rfl) | (rw [if_neg (by decide +kernel)]; exact ⟨rfl, rfl⟩))
    (fun os started H enc _ => lifted os started H enc)
/-- The statement. -/
theorem proved : Rows.FnExactBindingValueSaid := over
end fnExactBindingValue
end Go.Proofs.Ytbachbanjcabhaa
