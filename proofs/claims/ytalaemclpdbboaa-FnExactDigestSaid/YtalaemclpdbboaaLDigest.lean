/- FnExactDigest holds: impl.Digest and spec.Digest agree at every slice of ints. No condition. -/
import Derived.Test.YtalaemclpdbboaaFrame
import Derived.Test.YtalaemclpdbboaaIntsS
set_option linter.unusedVariables false
namespace Go.Proofs.Ytalaemclpdbboaa
namespace fnExactDigest
open Go.ChangeShapes Go.WideShapes Go.ChangeAt Go.RowKit
open Go.ChangeMaps (open_string shut_string)
/-- The call returns true and leaves all that was there unturned. -/
theorem walk (w : World) (v0 : Value) (n0 : Nat) (x0 : List Int) (r0 : Rd w 0 w.heap.size 1 v0 n0 (x0.map iv)) (w0 : ∀ z ∈ x0, -9223372036854775808 ≤ z ∧ z ≤ 9223372036854775807) :
    Calls Try.prog 13 #[v0] w fun e w' => e = .returned (.bool true) ∧ Below w.heap.size w w' := by
  obtain ⟨b0, c0, rfl, hn0⟩ := r0.form
  by_cases h0 : n0 ≤ 1048576
  · skip
    go_enter Try.func13, Try.ntmps13
    have X := ext_refl w
    go_wp2_with fail
    refine (toIntS_c r0 (by omega)).mono ?_
    rintro e w1 ⟨u1, rfl, o1, y1⟩
    have s1 := y1.size
    replace X := ext_trans X y1
    replace r0 := r0.ext y1
    clear y1
    go_wp2_with fail
    refine (specDigest_c o1.rd).mono ?_
    rintro e w2 ⟨_, rfl, rfl, y2⟩
    have s2 := y2.size
    replace X := ext_trans X y2
    replace r0 := r0.ext y2
    replace o1 := o1.ext y2
    clear y2
    clear o1
    go_wp2_with fail
    refine (toIntS_c r0 (by omega)).mono ?_
    rintro e w3 ⟨u4, rfl, o4, y3⟩
    have s3 := y3.size
    replace X := ext_trans X y3
    replace r0 := r0.ext y3
    clear y3
    go_wp2_with fail
    refine (implDigest_c o4.rd).mono ?_
    rintro e w4 ⟨_, rfl, rfl, y4⟩
    have s4 := y4.size
    replace X := ext_trans X y4
    replace r0 := r0.ext y4
    replace o4 := o4.ext y4
    clear y4
    go_wp2_with fail
    refine (toIntS_c r0 (by omega)).mono ?_
    rintro e w5 ⟨u7, rfl, o7, y5⟩
    have s5 := y5.size
    replace X := ext_trans X y5
    replace r0 := r0.ext y5
    replace o4 := o4.ext y5
    clear y5
    go_wp2_with fail
    refine (eqIntS_c o4.rd o7.rd).mono ?_
    rintro e w6 ⟨_, rfl, rfl, y6⟩
    have s6 := y6.size
    replace X := ext_trans X y6
    replace r0 := r0.ext y6
    replace o4 := o4.ext y6
    replace o7 := o7.ext y6
    clear y6
    go_wp2_with fail
    go_ret
    exact ⟨rfl, X⟩
  · go_enter Try.func13, Try.ntmps13
    go_wp2
    go_ret
    exact ⟨rfl, ext_refl _⟩
set_option maxRecDepth 100000 in
theorem lifted (os : Os) (started : os.Started) (H : Type) (enc : TypeId × Value → H) :
    ReturnsInHanded {} Try.checked os 13 .any (Rows.fnExactDigestSpec.pre6 enc Try.prog Try.f13 Rows.fnExactDigestRow.domain false) (Rows.fnExactDigestSpec.post enc Try.prog Try.f13 false true false false) := by
  refine returnsInHanded_of_change (C := Try.checked) own started (by kernel_rfl) Try.func13
    (ChangeSpec.witness6 (enc := enc) (C := Try.checked) false ⟨#[], #[.slice none 0 0], []⟩ 8 (by kernel_rfl) (by kernel_rfl) (by kernel_rfl) (by kernel_rfl)) ?_
  intro W base args ds gs before hval0 hW hcnd _
  have hval : ∀ (j : Nat) t v, Try.f13.params[j]? = some t → args[j]? = some v → Value.okWide Try.prog W .any base t v := hval0
  have hW' := hW
  obtain ⟨p, q, hA0, hV, rfl, hfz, hnd⟩ := hW
  have hA : DataW.TrodAll enc Try.prog W 0 (fun _ => true) true Try.f13.params.toList args.toList ds p := hA0
  rw [Try.params13] at hA hval
  obtain ⟨v0, vs0, d0, ds0, p0, q0, hargs, rfl, rfl, h0, r0⟩ := trodAll_cons hA
  obtain ⟨rfl, rfl, rfl⟩ := trodAll_nil r0
  obtain rfl : args = #[v0] := by cases args; simp_all
  obtain ⟨rfl, rfl⟩ := trodVars_none hV
  have k0 := h0
  have lt0 : ∀ x ∈ p0, x.block < W.heap.size := by obtain ⟨m, hm⟩ := k0; exact DataW.trod_lt m _ _ _ hm
  obtain ⟨n0, x0, r0, w0⟩ := rd_ints Try.underlying31 Try.underlying3 (by kernel_rfl) (hval 0 31 v0 rfl rfl) h0
  clear hA0 hval0
  try simp only [List.append_nil] at hW'
  refine (walk W v0 n0 x0 r0 w0).mono fun e W' ⟨he, bel⟩ => ?_
  subst he
  exact ⟨_, rfl, _, _, _, [], _, [], hW', trodAll_mk1 (shut_bool Try.underlying4 _), (trodAll_cons_mk (Below.trod laidOut (by kernel_rfl) (of_decide_eq_true (by kernel_rfl)) k0 bel lt0) trodAll_mk0), rfl, bel.frame _, fun h => by cases h⟩

theorem over : Rows.fnExactDigestRow.holds Try.pinned (OpenSpec.ofChange Rows.fnExactDigestSpec) :=
  OpenClaim.holds_of_wide 13 Try.f13 rfl rfl rfl rfl rfl rfl rfl ⟨rfl, rfl, rfl, rfl, rfl⟩ rfl rfl rfl rfl rfl (by kernel_rfl) Try.func13 (by kernel_rfl)
    (of_decide_eq_true (by kernel_rfl)) (by unfold Func.isWrapper; first | (rw [if_pos (by decide +kernel)]; kernel_rfl) | (rw [if_neg (by decide +kernel)]; exact ⟨rfl, rfl⟩))
    (fun os started H enc _ => lifted os started H enc)
/-- The statement. -/
theorem proved : Rows.FnExactDigestSaid := over
end fnExactDigest
end Go.Proofs.Ytalaemclpdbboaa
