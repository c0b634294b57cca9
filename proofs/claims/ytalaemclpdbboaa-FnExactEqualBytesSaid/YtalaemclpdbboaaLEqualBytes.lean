/- FnExactEqualBytes holds: impl.EqualBytes and spec.EqualBytes agree at every two slices of bytes. No condition. -/
import Derived.Test.YtalaemclpdbboaaFrame
import Derived.Test.YtalaemclpdbboaaConv
set_option linter.unusedVariables false
namespace Go.Proofs.Ytalaemclpdbboaa
theorem implEqualBytes_c {w : World} {lo hi lo' hi' n m : Nat} {v v' : Value} {xs ys : List UInt8} (h : Rd w lo hi 1 v n (xs.map bv)) (h' : Rd w lo' hi' 1 v' m (ys.map bv)) :
    Calls Try.prog 31 #[v, v'] w (Gives w fun r _ => r = .bool (decide (xs = ys))) := by
  go_enter Try.func31, Try.ntmps31
  go_wp2_with fail
  refine (slicesEqualByte_c h h').mono ?_
  rintro e w1 ⟨_, rfl, rfl, x1⟩
  go_wp2
  go_ret
  exact gives_bool rfl x1
namespace fnExactEqualBytes
open Go.ChangeShapes Go.WideShapes Go.ChangeAt Go.RowKit
open Go.ChangeMaps (open_string shut_string)
/-- The call returns true and leaves all that was there unturned. -/
theorem walk (w : World) (v0 : Value) (n0 : Nat) (x0 : List UInt8) (r0 : Rd w 0 w.heap.size 1 v0 n0 (x0.map bv)) (v1 : Value) (n1 : Nat) (x1 : List UInt8) (r1 : Rd w 0 w.heap.size 1 v1 n1 (x1.map bv)) :
    Calls Try.prog 11 #[v0, v1] w fun e w' => e = .returned (.bool true) ∧ Below w.heap.size w w' := by
  obtain ⟨b0, c0, rfl, hn0⟩ := r0.form
  obtain ⟨b1, c1, rfl, hn1⟩ := r1.form
  by_cases h0 : n0 ≤ 1048576
  · by_cases h1 : n1 ≤ 1048576
    · skip
      go_enter Try.func11, Try.ntmps11
      have X := ext_refl w
      go_wp2_with fail
      refine (toByteS_c r0 (by omega)).mono ?_
      rintro e w1 ⟨u1, rfl, o1, y1⟩
      have s1 := y1.size
      replace X := ext_trans X y1
      replace r0 := r0.ext y1
      replace r1 := r1.ext y1
      clear y1
      go_wp2_with fail
      refine (toByteS_c r1 (by omega)).mono ?_
      rintro e w2 ⟨u2, rfl, o2, y2⟩
      have s2 := y2.size
      replace X := ext_trans X y2
      replace r0 := r0.ext y2
      replace r1 := r1.ext y2
      replace o1 := o1.ext y2
      clear y2
      go_wp2_with fail
      refine (specEqualBytes_c o1.rd o2.rd).mono ?_
      rintro e w3 ⟨_, rfl, rfl, y3⟩
      have s3 := y3.size
      replace X := ext_trans X y3
      replace r0 := r0.ext y3
      replace r1 := r1.ext y3
      replace o1 := o1.ext y3
      replace o2 := o2.ext y3
      clear y3
      clear o1 o2
      go_wp2_with fail
      refine (toByteS_c r0 (by omega)).mono ?_
      rintro e w4 ⟨u4, rfl, o4, y4⟩
      have s4 := y4.size
      replace X := ext_trans X y4
      replace r0 := r0.ext y4
      replace r1 := r1.ext y4
      clear y4
      go_wp2_with fail
      refine (toByteS_c r1 (by omega)).mono ?_
      rintro e w5 ⟨u5, rfl, o5, y5⟩
      have s5 := y5.size
      replace X := ext_trans X y5
      replace r0 := r0.ext y5
      replace r1 := r1.ext y5
      replace o4 := o4.ext y5
      clear y5
      go_wp2_with fail
      refine (implEqualBytes_c o4.rd o5.rd).mono ?_
      rintro e w6 ⟨_, rfl, rfl, y6⟩
      have s6 := y6.size
      replace X := ext_trans X y6
      replace r0 := r0.ext y6
      replace r1 := r1.ext y6
      replace o4 := o4.ext y6
      replace o5 := o5.ext y6
      clear y6
      go_wp2_with fail
      refine (toByteS_c r0 (by omega)).mono ?_
      rintro e w7 ⟨u7, rfl, o7, y7⟩
      have s7 := y7.size
      replace X := ext_trans X y7
      replace r0 := r0.ext y7
      replace r1 := r1.ext y7
      replace o4 := o4.ext y7
      replace o5 := o5.ext y7
      clear y7
      go_wp2_with fail
      refine (eqByteS_c o4.rd o7.rd).mono ?_
      rintro e w8 ⟨_, rfl, rfl, y8⟩
      have s8 := y8.size
      replace X := ext_trans X y8
      replace r0 := r0.ext y8
      replace r1 := r1.ext y8
      replace o4 := o4.ext y8
      replace o5 := o5.ext y8
      replace o7 := o7.ext y8
      clear y8
      go_wp2_with fail
      refine (toByteS_c r1 (by omega)).mono ?_
      rintro e w9 ⟨u8, rfl, o8, y9⟩
      have s9 := y9.size
      replace X := ext_trans X y9
      replace r0 := r0.ext y9
      replace r1 := r1.ext y9
      replace o4 := o4.ext y9
      replace o5 := o5.ext y9
      replace o7 := o7.ext y9
      clear y9
      go_wp2_with fail
      refine (eqByteS_c o5.rd o8.rd).mono ?_
      rintro e w10 ⟨_, rfl, rfl, y10⟩
      have s10 := y10.size
      replace X := ext_trans X y10
      replace r0 := r0.ext y10
      replace r1 := r1.ext y10
      replace o4 := o4.ext y10
      replace o5 := o5.ext y10
      replace o7 := o7.ext y10
      replace o8 := o8.ext y10
      clear y10
      go_wp2_with fail
      go_ret
      exact ⟨rfl, X⟩
    · go_enter Try.func11, Try.ntmps11
      go_wp2
      go_ret
      exact ⟨rfl, ext_refl _⟩
  · go_enter Try.func11, Try.ntmps11
    go_wp2
    go_ret
    exact ⟨rfl, ext_refl _⟩
set_option maxRecDepth 100000 in
theorem lifted (os : Os) (started : os.Started) (H : Type) (enc : TypeId × Value → H) :
    ReturnsInHanded {} Try.checked os 11 .any (Rows.fnExactEqualBytesSpec.pre6 enc Try.prog Try.f11 Rows.fnExactEqualBytesRow.domain false) (Rows.fnExactEqualBytesSpec.post enc Try.prog Try.f11 false true false false) := by
  refine returnsInHanded_of_change (C := Try.checked) own started (by kernel_rfl) Try.func11
    (ChangeSpec.witness6 (enc := enc) (C := Try.checked) false ⟨#[], #[.slice none 0 0, .slice none 0 0], []⟩ 8 (by kernel_rfl) (by kernel_rfl) (by kernel_rfl) (by kernel_rfl)) ?_
  intro W base args ds gs before hval0 hW hcnd _
  have hval : ∀ (j : Nat) t v, Try.f11.params[j]? = some t → args[j]? = some v → Value.okWide Try.prog W .any base t v := hval0
  have hW' := hW
  obtain ⟨p, q, hA0, hV, rfl, hfz, hnd⟩ := hW
  have hA : DataW.TrodAll enc Try.prog W 0 (fun _ => true) true Try.f11.params.toList args.toList ds p := hA0
  rw [Try.params11] at hA hval
  obtain ⟨v0, vs0, d0, ds0, p0, q0, hargs, rfl, rfl, h0, r0⟩ := trodAll_cons hA
  obtain ⟨v1, vs1, d1, ds1, p1, q1, rfl, rfl, rfl, h1, r1⟩ := trodAll_cons r0
  obtain ⟨rfl, rfl, rfl⟩ := trodAll_nil r1
  obtain rfl : args = #[v0, v1] := by cases args; simp_all
  obtain ⟨rfl, rfl⟩ := trodVars_none hV
  have k0 := h0
  have lt0 : ∀ x ∈ p0, x.block < W.heap.size := by obtain ⟨m, hm⟩ := k0; exact DataW.trod_lt m _ _ _ hm
  obtain ⟨n0, x0, r0⟩ := rd_bytes Try.underlying28 Try.underlying5 (by kernel_rfl) (hval 0 28 v0 rfl rfl) h0
  have k1 := h1
  have lt1 : ∀ x ∈ p1, x.block < W.heap.size := by obtain ⟨m, hm⟩ := k1; exact DataW.trod_lt m _ _ _ hm
  obtain ⟨n1, x1, r1⟩ := rd_bytes Try.underlying28 Try.underlying5 (by kernel_rfl) (hval 1 28 v1 rfl rfl) h1
  clear hA0 hval0
  try simp only [List.append_nil] at hW'
  refine (walk W v0 n0 x0 r0 v1 n1 x1 r1).mono fun e W' ⟨he, bel⟩ => ?_
  subst he
  exact ⟨_, rfl, _, _, _, [], _, [], hW', trodAll_mk1 (shut_bool Try.underlying4 _), (trodAll_cons_mk (Below.trod laidOut (by kernel_rfl) (of_decide_eq_true (by kernel_rfl)) k0 bel lt0) (trodAll_cons_mk (Below.trod laidOut (by kernel_rfl) (of_decide_eq_true (by kernel_rfl)) k1 bel lt1) trodAll_mk0)), rfl, bel.frame _, fun h => by cases h⟩

theorem over : Rows.fnExactEqualBytesRow.holds Try.pinned (OpenSpec.ofChange Rows.fnExactEqualBytesSpec) :=
  OpenClaim.holds_of_wide 11 Try.f11 rfl rfl rfl rfl rfl rfl rfl ⟨rfl, rfl, rfl, rfl, rfl⟩ rfl rfl rfl rfl rfl (by kernel_rfl) Try.func11 (by kernel_rfl)
    (of_decide_eq_true (by kernel_rfl)) (by unfold Func.isWrapper; first | (rw [if_pos (by decide +kernel)]; kernel_rfl) | (rw [if_neg (by decide +kernel)]; exact ⟨rfl, rfl⟩))
    (fun os started H enc _ => lifted os started H enc)
/-- The statement. -/
theorem proved : Rows.FnExactEqualBytesSaid := over
end fnExactEqualBytes
end Go.Proofs.Ytalaemclpdbboaa
