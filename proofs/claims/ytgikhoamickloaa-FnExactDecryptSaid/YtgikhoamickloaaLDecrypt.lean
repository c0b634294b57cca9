/- FnExactDecrypt holds: impl.Decrypt and spec.Decrypt agree at every int and every slice of bytes, and what is made is new memory. No condition. -/
import Derived.Test.YtgikhoamickloaaFrame
import Derived.Test.YtgikhoamickloaaEnc
set_option linter.unusedVariables false
namespace Go.Proofs.Ytgikhoamickloaa
set_option maxHeartbeats 1000000
namespace fnExactDecrypt
open Go.ChangeShapes Go.WideShapes Go.ChangeAt Go.RowKit
open Go.ChangeMaps (open_string shut_string)
/-- The call returns true and leaves all that was there unturned. -/
theorem walk (w : World) (a0 : Int) (w0 : (Lit.int .i64 a0).wf = true) (v1 : Value) (n1 : Nat) (x1 : List UInt8) (r1 : Rd w 0 w.heap.size 1 v1 n1 (x1.map bv)) :
    Calls Try.prog 12 #[.int .i64 a0, v1] w fun e w' => e = .returned (.bool true) ∧ Below w.heap.size w w' := by
  obtain ⟨b1, c1, rfl, hn1⟩ := r1.form
  by_cases h1 : n1 ≤ 1048576
  · skip
    go_enter Try.func12, Try.ntmps12
    have X := ext_refl w
    go_wp2_with fail
    refine (toByteS_c r1 (by omega)).mono ?_
    rintro e w1 ⟨u1, rfl, o1, y1⟩
    have s1 := y1.size
    replace X := ext_trans X y1
    replace r1 := r1.ext y1
    clear y1
    go_wp2_with fail
    refine (specDecrypt_c o1.rd (by omega)).mono ?_
    rintro e w2 ⟨u2, rfl, o2, y2⟩
    have s2 := y2.size
    replace X := ext_trans X y2
    replace r1 := r1.ext y2
    replace o1 := o1.ext y2
    clear y2
    clear o1
    go_wp2_with fail
    refine (toByteS_c r1 (by omega)).mono ?_
    rintro e w3 ⟨u3, rfl, o3, y3⟩
    have s3 := y3.size
    replace X := ext_trans X y3
    replace r1 := r1.ext y3
    replace o2 := o2.ext y3
    clear y3
    go_wp2_with fail
    refine (implDecrypt_c o3.rd (by omega)).mono ?_
    rintro e w4 ⟨u4, rfl, o4, y4⟩
    have s4 := y4.size
    replace X := ext_trans X y4
    replace r1 := r1.ext y4
    replace o2 := o2.ext y4
    replace o3 := o3.ext y4
    clear y4
    go_wp2_with fail
    refine (eqByteS_c o4.rd o2.rd).mono ?_
    rintro e w5 ⟨_, rfl, rfl, y5⟩
    have s5 := y5.size
    replace X := ext_trans X y5
    replace r1 := r1.ext y5
    replace o2 := o2.ext y5
    replace o3 := o3.ext y5
    replace o4 := o4.ext y5
    clear y5
    go_wp2_with fail
    refine (toByteS_c r1 (by omega)).mono ?_
    rintro e w6 ⟨u5, rfl, o5, y6⟩
    have s6 := y6.size
    replace X := ext_trans X y6
    replace r1 := r1.ext y6
    replace o2 := o2.ext y6
    replace o3 := o3.ext y6
    replace o4 := o4.ext y6
    clear y6
    go_wp2_with fail
    refine (eqByteS_c o3.rd o5.rd).mono ?_
    rintro e w7 ⟨_, rfl, rfl, y7⟩
    have s7 := y7.size
    replace X := ext_trans X y7
    replace r1 := r1.ext y7
    replace o2 := o2.ext y7
    replace o3 := o3.ext y7
    replace o4 := o4.ext y7
    replace o5 := o5.ext y7
    clear y7
    clear o5
    go_wp2_with fail
    refine (markByteS_c o3 (by omega) (by omega) (by omega)).mono ?_
    clear o3
    rintro e w8 ⟨rfl, o3, y8⟩
    have s8 := y8.size
    replace X := y8.ext X (by omega)
    replace r1 := r1.mut y8 (by omega)
    replace o2 := o2.mut y8 (by omega)
    replace o4 := o4.mut y8 (by omega)
    clear y8
    go_wp2_with fail
    refine (eqByteS_c o4.rd o2.rd).mono ?_
    rintro e w9 ⟨_, rfl, rfl, y9⟩
    have s9 := y9.size
    replace X := ext_trans X y9
    replace r1 := r1.ext y9
    replace o2 := o2.ext y9
    replace o3 := o3.ext y9
    replace o4 := o4.ext y9
    clear y9
    go_wp2_with fail
    refine (markByteS_c o4 (by omega) (by omega) (by omega)).mono ?_
    clear o4
    rintro e w10 ⟨rfl, o4, y10⟩
    have s10 := y10.size
    replace X := y10.ext X (by omega)
    replace r1 := r1.mut y10 (by omega)
    replace o2 := o2.mut y10 (by omega)
    replace o3 := o3.mut y10 (by omega)
    clear y10
    go_wp2_with fail
    refine (heldByteS_c o4.rd (by omega) (by omega) (by omega)).mono ?_
    rintro e w11 ⟨_, rfl, rfl, y11⟩
    have s11 := y11.size
    replace X := ext_trans X y11
    replace r1 := r1.ext y11
    replace o2 := o2.ext y11
    replace o3 := o3.ext y11
    replace o4 := o4.ext y11
    clear y11
    go_wp2_with fail
    refine (toByteS_c r1 (by omega)).mono ?_
    rintro e w12 ⟨u6, rfl, o6, y12⟩
    have s12 := y12.size
    replace X := ext_trans X y12
    replace r1 := r1.ext y12
    replace o2 := o2.ext y12
    replace o3 := o3.ext y12
    replace o4 := o4.ext y12
    clear y12
    go_wp2_with fail
    refine (implDecrypt_c o6.rd (by omega)).mono ?_
    rintro e w13 ⟨u7, rfl, o7, y13⟩
    have s13 := y13.size
    replace X := ext_trans X y13
    replace r1 := r1.ext y13
    replace o2 := o2.ext y13
    replace o3 := o3.ext y13
    replace o4 := o4.ext y13
    replace o6 := o6.ext y13
    clear y13
    go_wp2_with fail
    refine (eqByteS_c o7.rd o2.rd).mono ?_
    rintro e w14 ⟨_, rfl, rfl, y14⟩
    have s14 := y14.size
    replace X := ext_trans X y14
    replace r1 := r1.ext y14
    replace o2 := o2.ext y14
    replace o3 := o3.ext y14
    replace o4 := o4.ext y14
    replace o6 := o6.ext y14
    replace o7 := o7.ext y14
    clear y14
    go_wp2_with fail
    refine (heldByteS_c o4.rd (by omega) (by omega) (by omega)).mono ?_
    rintro e w15 ⟨_, rfl, rfl, y15⟩
    have s15 := y15.size
    replace X := ext_trans X y15
    replace r1 := r1.ext y15
    replace o2 := o2.ext y15
    replace o3 := o3.ext y15
    replace o4 := o4.ext y15
    replace o6 := o6.ext y15
    replace o7 := o7.ext y15
    clear y15
    go_wp2_with fail
    go_ret
    exact ⟨rfl, X⟩
  · go_enter Try.func12, Try.ntmps12
    go_wp2
    go_ret
    exact ⟨rfl, ext_refl _⟩
set_option maxRecDepth 100000 in
theorem lifted (os : Os) (started : os.Started) (H : Type) (enc : TypeId × Value → H) :
    ReturnsInHanded {} Try.checked os 12 .any (Rows.fnExactDecryptSpec.pre6 enc Try.prog Try.f12 Rows.fnExactDecryptRow.domain false) (Rows.fnExactDecryptSpec.post enc Try.prog Try.f12 false true false false) := by
  refine returnsInHanded_of_change (C := Try.checked) own started (by kernel_rfl) Try.func12
    (ChangeSpec.witness6 (enc := enc) (C := Try.checked) false ⟨#[], #[.int .i64 0, .slice none 0 0], []⟩ 8 (by kernel_rfl) (by kernel_rfl) (by kernel_rfl) (by kernel_rfl)) ?_
  intro W base args ds gs before hval0 hW hcnd _
  have hval : ∀ (j : Nat) t v, Try.f12.params[j]? = some t → args[j]? = some v → Value.okWide Try.prog W .any base t v := hval0
  have hW' := hW
  obtain ⟨p, q, hA0, hV, rfl, hfz, hnd⟩ := hW
  have hA : DataW.TrodAll enc Try.prog W 0 (fun _ => true) true Try.f12.params.toList args.toList ds p := hA0
  rw [Try.params12] at hA hval
  obtain ⟨v0, vs0, d0, ds0, p0, q0, hargs, rfl, rfl, h0, tr0⟩ := trodAll_cons hA
  obtain ⟨v1, vs1, d1, ds1, p1, q1, rfl, rfl, rfl, h1, tr1⟩ := trodAll_cons tr0
  obtain ⟨rfl, rfl, rfl⟩ := trodAll_nil tr1
  obtain rfl : args = #[v0, v1] := by cases args; simp_all
  obtain ⟨rfl, rfl⟩ := trodVars_none hV
  obtain ⟨a0, rfl, rfl, rfl, w0⟩ := open_int Try.underlying3 (hval 0 3 v0 rfl rfl) h0
  have k1 := h1
  have lt1 : ∀ x ∈ p1, x.block < W.heap.size := by obtain ⟨m, hm⟩ := k1; exact DataW.trod_lt m _ _ _ hm
  obtain ⟨n1, x1, r1⟩ := rd_bytes Try.underlying22 Try.underlying5 (by kernel_rfl) (hval 1 22 v1 rfl rfl) h1
  clear hA0 hval0
  try simp only [List.append_nil] at hW'
  refine (walk W a0 w0 v1 n1 x1 r1).mono fun e W' ⟨he, bel⟩ => ?_
  subst he
  exact ⟨_, rfl, _, _, _, [], _, [], hW', trodAll_mk1 (shut_bool Try.underlying4 _), (trodAll_cons_mk (shut_int Try.underlying3 w0) (trodAll_cons_mk (Below.trod laidOut (by kernel_rfl) (of_decide_eq_true (by kernel_rfl)) k1 bel lt1) trodAll_mk0)), rfl, bel.frame _, fun h => by cases h⟩

theorem over : Rows.fnExactDecryptRow.holds Try.pinned (OpenSpec.ofChange Rows.fnExactDecryptSpec) :=
  OpenClaim.holds_of_wide 12 Try.f12 rfl rfl rfl rfl rfl rfl rfl ⟨rfl, rfl, rfl, rfl, rfl⟩ rfl rfl rfl rfl rfl (by kernel_rfl) Try.func12 (by kernel_rfl)
    (of_decide_eq_true (by kernel_rfl)) (by unfold Func.isWrapper; first | (rw [if_pos (by decide +kernel)]; kernel_rfl) | (rw [if_neg (by decide +kernel)]; exact ⟨rfl, rfl⟩))
    (fun os started H enc _ => lifted os started H enc)
/-- The statement. -/
theorem proved : Rows.FnExactDecryptSaid := over
end fnExactDecrypt
end Go.Proofs.Ytgikhoamickloaa
