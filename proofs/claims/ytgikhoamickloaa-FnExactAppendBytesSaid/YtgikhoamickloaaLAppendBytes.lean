/- FnExactAppendBytes holds: impl.AppendBytes and spec.AppendBytes agree at every two slices of bytes, and what is made is new memory. No condition. -/
import Derived.Test.YtgikhoamickloaaFrame
import Derived.Test.YtgikhoamickloaaRb
set_option linter.unusedVariables false
namespace Go.Proofs.Ytgikhoamickloaa
set_option maxHeartbeats 1000000
namespace fnExactAppendBytes
open Go.ChangeShapes Go.WideShapes Go.ChangeAt Go.RowKit
open Go.ChangeMaps (open_string shut_string)
/-- The call returns true and leaves all that was there unturned. -/
theorem walk (w : World) (v0 : Value) (n0 : Nat) (x0 : List UInt8) (r0 : Rd w 0 w.heap.size 1 v0 n0 (x0.map bv)) (v1 : Value) (n1 : Nat) (x1 : List UInt8) (r1 : Rd w 0 w.heap.size 1 v1 n1 (x1.map bv)) :
    Calls Try.prog 5 #[v0, v1] w fun e w' => e = .returned (.bool true) ∧ Below w.heap.size w w' := by
  obtain ⟨b0, c0, rfl, hn0⟩ := r0.form
  obtain ⟨b1, c1, rfl, hn1⟩ := r1.form
  by_cases h0 : n0 ≤ 1048576
  · skip
    by_cases h1 : n1 ≤ 1048576
    · skip
      have hl := av_len x0 (n1 : Int)
      have hx : x0.length = n0 := by have := r0.1; simpa using this
      rw [hx] at hl
      clear hx
      go_enter Try.func5, Try.ntmps5
      have X := ext_refl w
      go_wp2_with fail
      refine (toByteS_c r0 (by omega)).mono ?_
      rintro e w1 ⟨u1, rfl, o1, y1⟩
      have s1 := y1.size
      replace X := ext_trans X y1
      replace r0 := r0.ext y1
      replace r1 := r1.ext y1
      clear y1
      go_wp2_with fail
      refine (toByteS_c r1 (by omega)).mono ?_
      rintro e w2 ⟨u2, rfl, o2, y2⟩
      have s2 := y2.size
      replace X := ext_trans X y2
      replace r0 := r0.ext y2
      replace r1 := r1.ext y2
      replace o1 := o1.ext y2
      clear y2
      go_wp2_with fail
      refine (specAppendBytes_c o1.rd o2.rd (by omega) (by omega)).mono ?_
      rintro e w3 ⟨u3, rfl, o3, y3⟩
      have s3 := y3.size
      replace X := ext_trans X y3
      replace r0 := r0.ext y3
      replace r1 := r1.ext y3
      replace o1 := o1.ext y3
      replace o2 := o2.ext y3
      clear y3
      clear o1 o2
      go_wp2_with fail
      refine (toByteS_c r0 (by omega)).mono ?_
      rintro e w4 ⟨u4, rfl, o4, y4⟩
      have s4 := y4.size
      replace X := ext_trans X y4
      replace r0 := r0.ext y4
      replace r1 := r1.ext y4
      replace o3 := o3.ext y4
      clear y4
      go_wp2_with fail
      refine (toByteS_c r1 (by omega)).mono ?_
      rintro e w5 ⟨u5, rfl, o5, y5⟩
      have s5 := y5.size
      replace X := ext_trans X y5
      replace r0 := r0.ext y5
      replace r1 := r1.ext y5
      replace o3 := o3.ext y5
      replace o4 := o4.ext y5
      clear y5
      go_wp2_with fail
      refine (implAppendBytes_c o4.rd o5.rd (by omega) (by omega)).mono ?_
      rintro e w6 ⟨u6, rfl, o6, y6⟩
      have s6 := y6.size
      replace X := ext_trans X y6
      replace r0 := r0.ext y6
      replace r1 := r1.ext y6
      replace o3 := o3.ext y6
      replace o4 := o4.ext y6
      replace o5 := o5.ext y6
      clear y6
      go_wp2_with fail
      refine (eqByteS_c o6.rd o3.rd).mono ?_
      rintro e w7 ⟨_, rfl, rfl, y7⟩
      have s7 := y7.size
      replace X := ext_trans X y7
      replace r0 := r0.ext y7
      replace r1 := r1.ext y7
      replace o3 := o3.ext y7
      replace o4 := o4.ext y7
      replace o5 := o5.ext y7
      replace o6 := o6.ext y7
      clear y7
      go_wp2_with fail
      refine (toByteS_c r0 (by omega)).mono ?_
      rintro e w8 ⟨u7, rfl, o7, y8⟩
      have s8 := y8.size
      replace X := ext_trans X y8
      replace r0 := r0.ext y8
      replace r1 := r1.ext y8
      replace o3 := o3.ext y8
      replace o4 := o4.ext y8
      replace o5 := o5.ext y8
      replace o6 := o6.ext y8
      clear y8
      go_wp2_with fail
      refine (eqByteS_c o4.rd o7.rd).mono ?_
      rintro e w9 ⟨_, rfl, rfl, y9⟩
      have s9 := y9.size
      replace X := ext_trans X y9
      replace r0 := r0.ext y9
      replace r1 := r1.ext y9
      replace o3 := o3.ext y9
      replace o4 := o4.ext y9
      replace o5 := o5.ext y9
      replace o6 := o6.ext y9
      replace o7 := o7.ext y9
      clear y9
      clear o7
      go_wp2_with fail
      refine (toByteS_c r1 (by omega)).mono ?_
      rintro e w10 ⟨u8, rfl, o8, y10⟩
      have s10 := y10.size
      replace X := ext_trans X y10
      replace r0 := r0.ext y10
      replace r1 := r1.ext y10
      replace o3 := o3.ext y10
      replace o4 := o4.ext y10
      replace o5 := o5.ext y10
      replace o6 := o6.ext y10
      clear y10
      go_wp2_with fail
      refine (eqByteS_c o5.rd o8.rd).mono ?_
      rintro e w11 ⟨_, rfl, rfl, y11⟩
      have s11 := y11.size
      replace X := ext_trans X y11
      replace r0 := r0.ext y11
      replace r1 := r1.ext y11
      replace o3 := o3.ext y11
      replace o4 := o4.ext y11
      replace o5 := o5.ext y11
      replace o6 := o6.ext y11
      replace o8 := o8.ext y11
      clear y11
      clear o8
      go_wp2_with fail
      refine (markByteS_c o4 (by omega) (by omega) (by omega)).mono ?_
      clear o4
      rintro e w12 ⟨rfl, o4, y12⟩
      have s12 := y12.size
      replace X := y12.ext X (by omega)
      replace r0 := r0.mut y12 (by omega)
      replace r1 := r1.mut y12 (by omega)
      replace o3 := o3.mut y12 (by omega)
      replace o5 := o5.mut y12 (by omega)
      replace o6 := o6.mut y12 (by omega)
      clear y12
      go_wp2_with fail
      refine (markByteS_c o5 (by omega) (by omega) (by omega)).mono ?_
      clear o5
      rintro e w13 ⟨rfl, o5, y13⟩
      have s13 := y13.size
      replace X := y13.ext X (by omega)
      replace r0 := r0.mut y13 (by omega)
      replace r1 := r1.mut y13 (by omega)
      replace o3 := o3.mut y13 (by omega)
      replace o4 := o4.mut y13 (by omega)
      replace o6 := o6.mut y13 (by omega)
      clear y13
      go_wp2_with fail
      refine (eqByteS_c o6.rd o3.rd).mono ?_
      rintro e w14 ⟨_, rfl, rfl, y14⟩
      have s14 := y14.size
      replace X := ext_trans X y14
      replace r0 := r0.ext y14
      replace r1 := r1.ext y14
      replace o3 := o3.ext y14
      replace o4 := o4.ext y14
      replace o5 := o5.ext y14
      replace o6 := o6.ext y14
      clear y14
      go_wp2_with fail
      refine (markByteS_c o6 (by omega) (by omega) (by omega)).mono ?_
      clear o6
      rintro e w15 ⟨rfl, o6, y15⟩
      have s15 := y15.size
      replace X := y15.ext X (by omega)
      replace r0 := r0.mut y15 (by omega)
      replace r1 := r1.mut y15 (by omega)
      replace o3 := o3.mut y15 (by omega)
      replace o4 := o4.mut y15 (by omega)
      replace o5 := o5.mut y15 (by omega)
      clear y15
      go_wp2_with fail
      refine (heldByteS_c o6.rd (by omega) (by omega) (by omega)).mono ?_
      rintro e w16 ⟨_, rfl, rfl, y16⟩
      have s16 := y16.size
      replace X := ext_trans X y16
      replace r0 := r0.ext y16
      replace r1 := r1.ext y16
      replace o3 := o3.ext y16
      replace o4 := o4.ext y16
      replace o5 := o5.ext y16
      replace o6 := o6.ext y16
      clear y16
      go_wp2_with fail
      refine (toByteS_c r0 (by omega)).mono ?_
      rintro e w17 ⟨u9, rfl, o9, y17⟩
      have s17 := y17.size
      replace X := ext_trans X y17
      replace r0 := r0.ext y17
      replace r1 := r1.ext y17
      replace o3 := o3.ext y17
      replace o4 := o4.ext y17
      replace o5 := o5.ext y17
      replace o6 := o6.ext y17
      clear y17
      go_wp2_with fail
      refine (toByteS_c r1 (by omega)).mono ?_
      rintro e w18 ⟨u10, rfl, o10, y18⟩
      have s18 := y18.size
      replace X := ext_trans X y18
      replace r0 := r0.ext y18
      replace r1 := r1.ext y18
      replace o3 := o3.ext y18
      replace o4 := o4.ext y18
      replace o5 := o5.ext y18
      replace o6 := o6.ext y18
      replace o9 := o9.ext y18
      clear y18
      go_wp2_with fail
      refine (implAppendBytes_c o9.rd o10.rd (by omega) (by omega)).mono ?_
      rintro e w19 ⟨u11, rfl, o11, y19⟩
      have s19 := y19.size
      replace X := ext_trans X y19
      replace r0 := r0.ext y19
      replace r1 := r1.ext y19
      replace o3 := o3.ext y19
      replace o4 := o4.ext y19
      replace o5 := o5.ext y19
      replace o6 := o6.ext y19
      replace o9 := o9.ext y19
      replace o10 := o10.ext y19
      clear y19
      go_wp2_with fail
      refine (eqByteS_c o11.rd o3.rd).mono ?_
      rintro e w20 ⟨_, rfl, rfl, y20⟩
      have s20 := y20.size
      replace X := ext_trans X y20
      replace r0 := r0.ext y20
      replace r1 := r1.ext y20
      replace o3 := o3.ext y20
      replace o4 := o4.ext y20
      replace o5 := o5.ext y20
      replace o6 := o6.ext y20
      replace o9 := o9.ext y20
      replace o10 := o10.ext y20
      replace o11 := o11.ext y20
      clear y20
      go_wp2_with fail
      refine (heldByteS_c o6.rd (by omega) (by omega) (by omega)).mono ?_
      rintro e w21 ⟨_, rfl, rfl, y21⟩
      have s21 := y21.size
      replace X := ext_trans X y21
      replace r0 := r0.ext y21
      replace r1 := r1.ext y21
      replace o3 := o3.ext y21
      replace o4 := o4.ext y21
      replace o5 := o5.ext y21
      replace o6 := o6.ext y21
      replace o9 := o9.ext y21
      replace o10 := o10.ext y21
      replace o11 := o11.ext y21
      clear y21
      go_wp2_with fail
      go_ret
      exact ⟨rfl, X⟩
    · go_enter Try.func5, Try.ntmps5
      go_wp2
      go_ret
      exact ⟨rfl, ext_refl _⟩
  · go_enter Try.func5, Try.ntmps5
    go_wp2
    go_ret
    exact ⟨rfl, ext_refl _⟩
set_option maxRecDepth 100000 in
theorem lifted (os : Os) (started : os.Started) (H : Type) (enc : TypeId × Value → H) :
    ReturnsInHanded {} Try.checked os 5 .any (Rows.fnExactAppendBytesSpec.pre6 enc Try.prog Try.f5 Rows.fnExactAppendBytesRow.domain false) (Rows.fnExactAppendBytesSpec.post enc Try.prog Try.f5 false true false false) := by
  refine returnsInHanded_of_change (C := Try.checked) own started (by kernel_rfl) Try.func5
    (ChangeSpec.witness6 (enc := enc) (C := Try.checked) false ⟨#[], #[.slice none 0 0, .slice none 0 0], []⟩ 8 (by kernel_rfl) (by kernel_rfl) (by kernel_rfl) (by kernel_rfl)) ?_
  intro W base args ds gs before hval0 hW hcnd _
  have hval : ∀ (j : Nat) t v, Try.f5.params[j]? = some t → args[j]? = some v → Value.okWide Try.prog W .any base t v := hval0
  have hW' := hW
  obtain ⟨p, q, hA0, hV, rfl, hfz, hnd⟩ := hW
  have hA : DataW.TrodAll enc Try.prog W 0 (fun _ => true) true Try.f5.params.toList args.toList ds p := hA0
  rw [Try.params5] at hA hval
  obtain ⟨v0, vs0, d0, ds0, p0, q0, hargs, rfl, rfl, h0, tr0⟩ := trodAll_cons hA
  obtain ⟨v1, vs1, d1, ds1, p1, q1, rfl, rfl, rfl, h1, tr1⟩ := trodAll_cons tr0
  obtain ⟨rfl, rfl, rfl⟩ := trodAll_nil tr1
  obtain rfl : args = #[v0, v1] := by cases args; simp_all
  obtain ⟨rfl, rfl⟩ := trodVars_none hV
  have k0 := h0
  have lt0 : ∀ x ∈ p0, x.block < W.heap.size := by obtain ⟨m, hm⟩ := k0; exact DataW.trod_lt m _ _ _ hm
  obtain ⟨n0, x0, r0⟩ := rd_bytes Try.underlying22 Try.underlying5 (by kernel_rfl) (hval 0 22 v0 rfl rfl) h0
  have k1 := h1
  have lt1 : ∀ x ∈ p1, x.block < W.heap.size := by obtain ⟨m, hm⟩ := k1; exact DataW.trod_lt m _ _ _ hm
  obtain ⟨n1, x1, r1⟩ := rd_bytes Try.underlying22 Try.underlying5 (by kernel_rfl) (hval 1 22 v1 rfl rfl) h1
  clear hA0 hval0
  try simp only [List.append_nil] at hW'
  refine (walk W v0 n0 x0 r0 v1 n1 x1 r1).mono fun e W' ⟨he, bel⟩ => ?_
  subst he
  exact ⟨_, rfl, _, _, _, [], _, [], hW', trodAll_mk1 (shut_bool Try.underlying4 _), (trodAll_cons_mk (Below.trod laidOut (by kernel_rfl) (of_decide_eq_true (by kernel_rfl)) k0 bel lt0) (trodAll_cons_mk (Below.trod laidOut (by kernel_rfl) (of_decide_eq_true (by kernel_rfl)) k1 bel lt1) trodAll_mk0)), rfl, bel.frame _, fun h => by cases h⟩

theorem over : Rows.fnExactAppendBytesRow.holds Try.pinned (OpenSpec.ofChange Rows.fnExactAppendBytesSpec) :=
  OpenClaim.holds_of_wide 5 Try.f5 rfl rfl rfl rfl rfl rfl rfl ⟨rfl, rfl, rfl, rfl, rfl⟩ rfl rfl rfl rfl rfl (by kernel_rfl) Try.func5 (by kernel_rfl)
    (of_decide_eq_true (by kernel_rfl)) (by unfold Func.isWrapper; first | (rw [if_pos (by decide +kernel)]; kernel_rfl) | (rw [if_neg (by decide +kernel)]; exact ⟨rfl, rfl⟩))
    (fun os started H enc _ => lifted os started H enc)
/-- The statement. -/
theorem proved : Rows.FnExactAppendBytesSaid := over
end fnExactAppendBytes
end Go.Proofs.Ytgikhoamickloaa
