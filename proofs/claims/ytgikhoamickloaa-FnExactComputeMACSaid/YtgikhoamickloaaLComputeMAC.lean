/- FnExactComputeMAC holds: impl.ComputeMAC and spec.ComputeMAC agree at every int and every slice of ints. No condition. -/
import Derived.Test.YtgikhoamickloaaFrame
import Derived.Test.YtgikhoamickloaaMac
set_option linter.unusedVariables false
namespace Go.Proofs.Ytgikhoamickloaa
set_option maxHeartbeats 1000000
namespace fnExactComputeMAC
open Go.ChangeShapes Go.WideShapes Go.ChangeAt Go.RowKit
open Go.ChangeMaps (open_string shut_string)
/-- The call returns true and leaves all that was there unturned. -/
theorem walk (w : World) (a0 : Int) (w0 : (Lit.int .i64 a0).wf = true) (v1 : Value) (n1 : Nat) (x1 : List Int) (r1 : Rd w 0 w.heap.size 1 v1 n1 (x1.map iv)) (w1 : ∀ z ∈ x1, -9223372036854775808 ≤ z ∧ z ≤ 9223372036854775807) :
    Calls Try.prog 6 #[.int .i64 a0, v1] w fun e w' => e = .returned (.bool true) ∧ Below w.heap.size w w' := by
  obtain ⟨b1, c1, rfl, hn1⟩ := r1.form
  by_cases h1 : n1 ≤ 1048576
  · skip
    go_enter Try.func6, Try.ntmps6
    have X := ext_refl w
    go_wp2_with fail
    refine (toIntS_c r1 (by omega)).mono ?_
    rintro e w1 ⟨u1, rfl, o1, y1⟩
    have s1 := y1.size
    replace X := ext_trans X y1
    replace r1 := r1.ext y1
    clear y1
    go_wp2_with fail
    refine (specComputeMAC_c o1.rd (by omega)).mono ?_
    rintro e w2 ⟨_, rfl, rfl, y2⟩
    have s2 := y2.size
    replace X := ext_trans X y2
    replace r1 := r1.ext y2
    replace o1 := o1.ext y2
    clear y2
    clear o1
    go_wp2_with fail
    refine (toIntS_c r1 (by omega)).mono ?_
    rintro e w3 ⟨u2, rfl, o2, y3⟩
    have s3 := y3.size
    replace X := ext_trans X y3
    replace r1 := r1.ext y3
    clear y3
    go_wp2_with fail
    refine (implComputeMAC_c o2.rd (by omega)).mono ?_
    rintro e w4 ⟨_, rfl, rfl, y4⟩
    have s4 := y4.size
    replace X := ext_trans X y4
    replace r1 := r1.ext y4
    replace o2 := o2.ext y4
    clear y4
    go_wp2_with fail
    refine (toIntS_c r1 (by omega)).mono ?_
    rintro e w5 ⟨u3, rfl, o3, y5⟩
    have s5 := y5.size
    replace X := ext_trans X y5
    replace r1 := r1.ext y5
    replace o2 := o2.ext y5
    clear y5
    go_wp2_with fail
    refine (eqIntS_c o2.rd o3.rd).mono ?_
    rintro e w6 ⟨_, rfl, rfl, y6⟩
    have s6 := y6.size
    replace X := ext_trans X y6
    replace r1 := r1.ext y6
    replace o2 := o2.ext y6
    replace o3 := o3.ext y6
    clear y6
    clear o3
    go_wp2_with fail
    go_ret
    exact ⟨rfl, X⟩
  · go_enter Try.func6, Try.ntmps6
    go_wp2
    go_ret
    exact ⟨rfl, ext_refl _⟩
set_option maxRecDepth 100000 in
theorem lifted (os : Os) (started : os.Started) (H : Type) (enc : TypeId × Value → H) :
    ReturnsInHanded {} Try.checked os 6 .any (Rows.fnExactComputeMACSpec.pre6 enc Try.prog Try.f6 Rows.fnExactComputeMACRow.domain false) (Rows.fnExactComputeMACSpec.post enc Try.prog Try.f6 false true false false) := by
  refine returnsInHanded_of_change (C := Try.checked) own started (by kernel_rfl) Try.func6
    (ChangeSpec.witness6 (enc := enc) (C := Try.checked) false ⟨#[], #[.int .i64 0, .slice none 0 0], []⟩ 8 (by kernel_rfl) (by kernel_rfl) (by kernel_rfl) (by kernel_rfl)) ?_
  intro W base args ds gs before hval0 hW hcnd _
  have hval : ∀ (j : Nat) t v, Try.f6.params[j]? = some t → args[j]? = some v → Value.okWide Try.prog W .any base t v := hval0
  have hW' := hW
  obtain ⟨p, q, hA0, hV, rfl, hfz, hnd⟩ := hW
  have hA : DataW.TrodAll enc Try.prog W 0 (fun _ => true) true Try.f6.params.toList args.toList ds p := hA0
  rw [Try.params6] at hA hval
  obtain ⟨v0, vs0, d0, ds0, p0, q0, hargs, rfl, rfl, h0, tr0⟩ := trodAll_cons hA
  obtain ⟨v1, vs1, d1, ds1, p1, q1, rfl, rfl, rfl, h1, tr1⟩ := trodAll_cons tr0
  obtain ⟨rfl, rfl, rfl⟩ := trodAll_nil tr1
  obtain rfl : args = #[v0, v1] := by cases args; simp_all
  obtain ⟨rfl, rfl⟩ := trodVars_none hV
  obtain ⟨a0, rfl, rfl, rfl, w0⟩ := open_int Try.underlying3 (hval 0 3 v0 rfl rfl) h0
  have k1 := h1
  have lt1 : ∀ x ∈ p1, x.block < W.heap.size := by obtain ⟨m, hm⟩ := k1; exact DataW.trod_lt m _ _ _ hm
  obtain ⟨n1, x1, r1, w1⟩ := rd_ints Try.underlying23 Try.underlying3 (by kernel_rfl) (hval 1 23 v1 rfl rfl) h1
  clear hA0 hval0
  try simp only [List.append_nil] at hW'
  refine (walk W a0 w0 v1 n1 x1 r1 w1).mono fun e W' ⟨he, bel⟩ => ?_
  subst he
  exact ⟨_, rfl, _, _, _, [], _, [], hW', trodAll_mk1 (shut_bool Try.underlying4 _), (trodAll_cons_mk (shut_int Try.underlying3 w0) (trodAll_cons_mk (Below.trod laidOut (by kernel_rfl) (of_decide_eq_true (by kernel_rfl)) k1 bel lt1) trodAll_mk0)), rfl, bel.frame _, fun h => by cases h⟩

theorem over : Rows.fnExactComputeMACRow.holds Try.pinned (OpenSpec.ofChange Rows.fnExactComputeMACSpec) :=
  OpenClaim.holds_of_wide 6 Try.f6 rfl rfl rfl rfl rfl rfl rfl ⟨rfl, rfl, rfl, rfl, rfl⟩ rfl rfl rfl rfl rfl (by kernel_rfl) Try.func6 (by kernel_rfl)
    (of_decide_eq_true (by kernel_rfl)) (by unfold Func.isWrapper; first | (rw [if_pos (by decide +kernel)]; kernel_rfl) | (rw [if_neg (by decide +kernel)]; exact ⟨rfl, rfl⟩))
    (fun os started H enc _ => lifted os started H enc)
/-- The statement. -/
theorem proved : Rows.FnExactComputeMACSaid := over
end fnExactComputeMAC
end Go.Proofs.Ytgikhoamickloaa
