/- FnExactDecodeInts holds: impl.DecodeInts and spec.DecodeInts agree at every slice of bytes and every two ints, and what is made is new memory. No condition. -/
import Derived.Test.YtgikhoamickloaaFrame
import Derived.Test.YtgikhoamickloaaEi
set_option linter.unusedVariables false
namespace Go.Proofs.Ytgikhoamickloaa
set_option maxHeartbeats 1000000
namespace fnExactDecodeInts
open Go.ChangeShapes Go.WideShapes Go.ChangeAt Go.RowKit
open Go.ChangeMaps (open_string shut_string)
/-- The call returns true and leaves all that was there unturned. -/
theorem walk (w : World) (v0 : Value) (n0 : Nat) (x0 : List UInt8) (r0 : Rd w 0 w.heap.size 1 v0 n0 (x0.map bv)) (a1 : Int) (w1 : (Lit.int .i64 a1).wf = true) (a2 : Int) (w2 : (Lit.int .i64 a2).wf = true) :
    Calls Try.prog 10 #[v0, .int .i64 a1, .int .i64 a2] w fun e w' => e = .returned (.bool true) ∧ Below w.heap.size w w' := by
  obtain ⟨b0, c0, rfl, hn0⟩ := r0.form
  by_cases h0 : n0 ≤ 1048576
  · skip
    have hl := diR_len x0 a1 a2
    go_enter Try.func10, Try.ntmps10
    have X := ext_refl w
    go_wp2_with fail
    refine (toByteS_c r0 (by omega)).mono ?_
    rintro e w1 ⟨u1, rfl, o1, y1⟩
    have s1 := y1.size
    replace X := ext_trans X y1
    replace r0 := r0.ext y1
    clear y1
    go_wp2_with fail
    refine (specDecodeInts_c o1.rd).mono ?_
    rintro e w2 ⟨_, rfl, ⟨u2, rfl, o2⟩, y2⟩
    have s2 := y2.size
    replace X := ext_trans X y2
    replace r0 := r0.ext y2
    replace o1 := o1.ext y2
    clear y2
    clear o1
    go_wp2_with fail
    refine (toByteS_c r0 (by omega)).mono ?_
    rintro e w3 ⟨u3, rfl, o3, y3⟩
    have s3 := y3.size
    replace X := ext_trans X y3
    replace r0 := r0.ext y3
    replace o2 := o2.ext y3
    clear y3
    go_wp2_with fail
    refine (implDecodeInts_c o3.rd).mono ?_
    rintro e w4 ⟨_, rfl, ⟨u4, rfl, o4⟩, y4⟩
    have s4 := y4.size
    replace X := ext_trans X y4
    replace r0 := r0.ext y4
    replace o2 := o2.ext y4
    replace o3 := o3.ext y4
    clear y4
    go_wp2_with fail
    refine (eqIntS_c o4.rd o2.rd).mono ?_
    rintro e w5 ⟨_, rfl, rfl, y5⟩
    have s5 := y5.size
    replace X := ext_trans X y5
    replace r0 := r0.ext y5
    replace o2 := o2.ext y5
    replace o3 := o3.ext y5
    replace o4 := o4.ext y5
    clear y5
    go_wp2_with fail
    refine (toByteS_c r0 (by omega)).mono ?_
    rintro e w6 ⟨u5, rfl, o5, y6⟩
    have s6 := y6.size
    replace X := ext_trans X y6
    replace r0 := r0.ext y6
    replace o2 := o2.ext y6
    replace o3 := o3.ext y6
    replace o4 := o4.ext y6
    clear y6
    go_wp2_with fail
    refine (eqByteS_c o3.rd o5.rd).mono ?_
    rintro e w7 ⟨_, rfl, rfl, y7⟩
    have s7 := y7.size
    replace X := ext_trans X y7
    replace r0 := r0.ext y7
    replace o2 := o2.ext y7
    replace o3 := o3.ext y7
    replace o4 := o4.ext y7
    replace o5 := o5.ext y7
    clear y7
    clear o5
    go_wp2_with fail
    refine (markByteS_c o3 (by omega) (by omega) (by omega)).mono ?_
    clear o3
    rintro e w8 ⟨rfl, o3, y8⟩
    have s8 := y8.size
    replace X := y8.ext X (by omega)
    replace r0 := r0.mut y8 (by omega)
    replace o2 := o2.mut y8 (by omega)
    replace o4 := o4.mut y8 (by omega)
    clear y8
    go_wp2_with fail
    refine (eqIntS_c o4.rd o2.rd).mono ?_
    rintro e w9 ⟨_, rfl, rfl, y9⟩
    have s9 := y9.size
    replace X := ext_trans X y9
    replace r0 := r0.ext y9
    replace o2 := o2.ext y9
    replace o3 := o3.ext y9
    replace o4 := o4.ext y9
    clear y9
    go_wp2_with fail
    refine (markIntS_c o4 (by omega) (by omega) (by omega)).mono ?_
    clear o4
    rintro e w10 ⟨rfl, o4, y10⟩
    have s10 := y10.size
    replace X := y10.ext X (by omega)
    replace r0 := r0.mut y10 (by omega)
    replace o2 := o2.mut y10 (by omega)
    replace o3 := o3.mut y10 (by omega)
    clear y10
    go_wp2_with fail
    refine (heldIntS_c o4.rd (by omega) (by omega) (by omega)).mono ?_
    rintro e w11 ⟨_, rfl, rfl, y11⟩
    have s11 := y11.size
    replace X := ext_trans X y11
    replace r0 := r0.ext y11
    replace o2 := o2.ext y11
    replace o3 := o3.ext y11
    replace o4 := o4.ext y11
    clear y11
    go_wp2_with fail
    refine (toByteS_c r0 (by omega)).mono ?_
    rintro e w12 ⟨u6, rfl, o6, y12⟩
    have s12 := y12.size
    replace X := ext_trans X y12
    replace r0 := r0.ext y12
    replace o2 := o2.ext y12
    replace o3 := o3.ext y12
    replace o4 := o4.ext y12
    clear y12
    go_wp2_with fail
    refine (implDecodeInts_c o6.rd).mono ?_
    rintro e w13 ⟨_, rfl, ⟨u7, rfl, o7⟩, y13⟩
    have s13 := y13.size
    replace X := ext_trans X y13
    replace r0 := r0.ext y13
    replace o2 := o2.ext y13
    replace o3 := o3.ext y13
    replace o4 := o4.ext y13
    replace o6 := o6.ext y13
    clear y13
    go_wp2_with fail
    refine (eqIntS_c o7.rd o2.rd).mono ?_
    rintro e w14 ⟨_, rfl, rfl, y14⟩
    have s14 := y14.size
    replace X := ext_trans X y14
    replace r0 := r0.ext y14
    replace o2 := o2.ext y14
    replace o3 := o3.ext y14
    replace o4 := o4.ext y14
    replace o6 := o6.ext y14
    replace o7 := o7.ext y14
    clear y14
    go_wp2_with fail
    refine (heldIntS_c o4.rd (by omega) (by omega) (by omega)).mono ?_
    rintro e w15 ⟨_, rfl, rfl, y15⟩
    have s15 := y15.size
    replace X := ext_trans X y15
    replace r0 := r0.ext y15
    replace o2 := o2.ext y15
    replace o3 := o3.ext y15
    replace o4 := o4.ext y15
    replace o6 := o6.ext y15
    replace o7 := o7.ext y15
    clear y15
    go_wp2_with fail
    go_ret
    exact ⟨rfl, X⟩
  · go_enter Try.func10, Try.ntmps10
    go_wp2
    go_ret
    exact ⟨rfl, ext_refl _⟩
set_option maxRecDepth 100000 in
theorem lifted (os : Os) (started : os.Started) (H : Type) (enc : TypeId × Value → H) :
    ReturnsInHanded {} Try.checked os 10 .any (Rows.fnExactDecodeIntsSpec.pre6 enc Try.prog Try.f10 Rows.fnExactDecodeIntsRow.domain false) (Rows.fnExactDecodeIntsSpec.post enc Try.prog Try.f10 false true false false) := by
  refine returnsInHanded_of_change (C := Try.checked) own started (by kernel_rfl) Try.func10
    (ChangeSpec.witness6 (enc := enc) (C := Try.checked) false ⟨#[], #[.slice none 0 0, .int .i64 0, .int .i64 0], []⟩ 8 (by kernel_rfl) (by kernel_rfl) (by kernel_rfl) (by kernel_rfl)) ?_
  intro W base args ds gs before hval0 hW hcnd _
  have hval : ∀ (j : Nat) t v, Try.f10.params[j]? = some t → args[j]? = some v → Value.okWide Try.prog W .any base t v := hval0
  have hW' := hW
  obtain ⟨p, q, hA0, hV, rfl, hfz, hnd⟩ := hW
  have hA : DataW.TrodAll enc Try.prog W 0 (fun _ => true) true Try.f10.params.toList args.toList ds p := hA0
  rw [Try.params10] at hA hval
  obtain ⟨v0, vs0, d0, ds0, p0, q0, hargs, rfl, rfl, h0, tr0⟩ := trodAll_cons hA
  obtain ⟨v1, vs1, d1, ds1, p1, q1, rfl, rfl, rfl, h1, tr1⟩ := trodAll_cons tr0
  obtain ⟨v2, vs2, d2, ds2, p2, q2, rfl, rfl, rfl, h2, tr2⟩ := trodAll_cons tr1
  obtain ⟨rfl, rfl, rfl⟩ := trodAll_nil tr2
  obtain rfl : args = #[v0, v1, v2] := by cases args; simp_all
  obtain ⟨rfl, rfl⟩ := trodVars_none hV
  have k0 := h0
  have lt0 : ∀ x ∈ p0, x.block < W.heap.size := by obtain ⟨m, hm⟩ := k0; exact DataW.trod_lt m _ _ _ hm
  obtain ⟨n0, x0, r0⟩ := rd_bytes Try.underlying22 Try.underlying5 (by kernel_rfl) (hval 0 22 v0 rfl rfl) h0
  obtain ⟨a1, rfl, rfl, rfl, w1⟩ := open_int Try.underlying3 (hval 1 3 v1 rfl rfl) h1
  obtain ⟨a2, rfl, rfl, rfl, w2⟩ := open_int Try.underlying3 (hval 2 3 v2 rfl rfl) h2
  clear hA0 hval0
  try simp only [List.append_nil] at hW'
  refine (walk W v0 n0 x0 r0 a1 w1 a2 w2).mono fun e W' ⟨he, bel⟩ => ?_
  subst he
  exact ⟨_, rfl, _, _, _, [], _, [], hW', trodAll_mk1 (shut_bool Try.underlying4 _), (trodAll_cons_mk (Below.trod laidOut (by kernel_rfl) (of_decide_eq_true (by kernel_rfl)) k0 bel lt0) (trodAll_cons_mk (shut_int Try.underlying3 w1) (trodAll_cons_mk (shut_int Try.underlying3 w2) trodAll_mk0))), rfl, bel.frame _, fun h => by cases h⟩

theorem over : Rows.fnExactDecodeIntsRow.holds Try.pinned (OpenSpec.ofChange Rows.fnExactDecodeIntsSpec) :=
  OpenClaim.holds_of_wide 10 Try.f10 rfl rfl rfl rfl rfl rfl rfl ⟨rfl, rfl, rfl, rfl, rfl⟩ rfl rfl rfl rfl rfl (by kernel_rfl) Try.func10 (by kernel_rfl)
    (of_decide_eq_true (by kernel_rfl)) (by unfold Func.isWrapper; first | (rw [if_pos (by decide +kernel)]; kernel_rfl) | (rw [if_neg (by decide +kernel)]; exact ⟨rfl, rfl⟩))
    (fun os started H enc _ => lifted os started H enc)
/-- The statement. -/
theorem proved : Rows.FnExactDecodeIntsSaid := over
end fnExactDecodeInts
end Go.Proofs.Ytgikhoamickloaa
