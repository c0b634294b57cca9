/- FnExactReadVarint holds: impl.ReadVarint and spec.ReadVarint agree at every slice of bytes and every place. No condition. -/
import Derived.Test.YtalaemclpdbboaaFrame
import Derived.Test.YtalaemclpdbboaaVarint
set_option linter.unusedVariables false
namespace Go.Proofs.Ytalaemclpdbboaa
theorem rvVal_form (q : Int) (o : Option (Nat × Nat)) : ∃ a b c, rvVal q o = .tuple #[.int .i64 a, .int .i64 b, .bool c] := by
  rcases o with _ | ⟨n, c⟩
  · exact ⟨_, _, _, rfl⟩
  · exact ⟨_, _, _, rfl⟩
namespace fnExactReadVarint
open Go.ChangeShapes Go.WideShapes Go.ChangeAt Go.RowKit
open Go.ChangeMaps (open_string shut_string)
/-- The call returns true and leaves all that was there unturned. -/
theorem walk (w : World) (v0 : Value) (n0 : Nat) (x0 : List UInt8) (r0 : Rd w 0 w.heap.size 1 v0 n0 (x0.map bv)) (a1 : Int) (w1 : (Lit.int .i64 a1).wf = true) :
    Calls Try.prog 14 #[v0, .int .i64 a1] w fun e w' => e = .returned (.bool true) ∧ Below w.heap.size w w' := by
  obtain ⟨b0, c0, rfl, hn0⟩ := r0.form
  by_cases h0 : n0 ≤ 1048576
  · obtain ⟨p1, p2, p3, hp⟩ := rvVal_form a1 (rv x0 a1)
    have HP := hid hp
    clear hp
    go_enter Try.func14, Try.ntmps14
    have X := ext_refl w
    go_wp2_with fail
    refine (toByteS_c r0 (by omega)).mono ?_
    rintro e w1 ⟨u1, rfl, o1, y1⟩
    have s1 := y1.size
    replace X := ext_trans X y1
    replace r0 := r0.ext y1
    clear y1
    go_wp2_with fail
    refine (specReadVarint_c o1.rd).mono ?_
    rintro e w2 ⟨_, rfl, rfl, y2⟩
    have s2 := y2.size
    replace X := ext_trans X y2
    replace r0 := r0.ext y2
    replace o1 := o1.ext y2
    clear y2
    rw [HP.out]
    clear o1
    go_wp2_with fail
    refine (toByteS_c r0 (by omega)).mono ?_
    rintro e w3 ⟨u4, rfl, o4, y3⟩
    have s3 := y3.size
    replace X := ext_trans X y3
    replace r0 := r0.ext y3
    clear y3
    go_wp2_with fail
    refine (implReadVarint_c o4.rd).mono ?_
    rintro e w4 ⟨_, rfl, rfl, y4⟩
    have s4 := y4.size
    replace X := ext_trans X y4
    replace r0 := r0.ext y4
    replace o4 := o4.ext y4
    clear y4
    rw [HP.out]
    clear HP
    go_wp2_with fail
    refine (toByteS_c r0 (by omega)).mono ?_
    rintro e w5 ⟨u7, rfl, o7, y5⟩
    have s5 := y5.size
    replace X := ext_trans X y5
    replace r0 := r0.ext y5
    replace o4 := o4.ext y5
    clear y5
    go_wp2_with fail
    refine (eqByteS_c o4.rd o7.rd).mono ?_
    rintro e w6 ⟨_, rfl, rfl, y6⟩
    have s6 := y6.size
    replace X := ext_trans X y6
    replace r0 := r0.ext y6
    replace o4 := o4.ext y6
    replace o7 := o7.ext y6
    clear y6
    go_wp2_with fail
    go_ret
    exact ⟨rfl, X⟩
  · go_enter Try.func14, Try.ntmps14
    go_wp2
    go_ret
    exact ⟨rfl, ext_refl _⟩
set_option maxRecDepth 100000 in
theorem lifted (os : Os) (started : os.Started) (H : Type) (enc : TypeId × Value → H) :
    ReturnsInHanded {} Try.checked os 14 .any (Rows.fnExactReadVarintSpec.pre6 enc Try.prog Try.f14 Rows.fnExactReadVarintRow.domain false) (Rows.fnExactReadVarintSpec.post enc Try.prog Try.f14 false true false false) := by
  refine returnsInHanded_of_change (C := Try.checked) own started (by kernel_rfl) Try.func14
    (ChangeSpec.witness6 (enc := enc) (C := Try.checked) false ⟨#[], #[.slice none 0 0, .int .i64 0], []⟩ 8 (by kernel_rfl) (by kernel_rfl) (by kernel_rfl) (by kernel_rfl)) ?_
  intro W base args ds gs before hval0 hW hcnd _
  have hval : ∀ (j : Nat) t v, Try.f14.params[j]? = some t → args[j]? = some v → Value.okWide Try.prog W .any base t v := hval0
  have hW' := hW
  obtain ⟨p, q, hA0, hV, rfl, hfz, hnd⟩ := hW
  have hA : DataW.TrodAll enc Try.prog W 0 (fun _ => true) true Try.f14.params.toList args.toList ds p := hA0
  rw [Try.params14] at hA hval
  obtain ⟨v0, vs0, d0, ds0, p0, q0, hargs, rfl, rfl, h0, tr0⟩ := trodAll_cons hA
  obtain ⟨v1, vs1, d1, ds1, p1, q1, rfl, rfl, rfl, h1, tr1⟩ := trodAll_cons tr0
  obtain ⟨rfl, rfl, rfl⟩ := trodAll_nil tr1
  obtain rfl : args = #[v0, v1] := by cases args; simp_all
  obtain ⟨rfl, rfl⟩ := trodVars_none hV
  have k0 := h0
  have lt0 : ∀ x ∈ p0, x.block < W.heap.size := by obtain ⟨m, hm⟩ := k0; exact DataW.trod_lt m _ _ _ hm
  obtain ⟨n0, x0, r0⟩ := rd_bytes Try.underlying28 Try.underlying5 (by kernel_rfl) (hval 0 28 v0 rfl rfl) h0
  obtain ⟨a1, rfl, rfl, rfl, w1⟩ := open_int Try.underlying3 (hval 1 3 v1 rfl rfl) h1
  clear hA0 hval0
  try simp only [List.append_nil] at hW'
  refine (walk W v0 n0 x0 r0 a1 w1).mono fun e W' ⟨he, bel⟩ => ?_
  subst he
  exact ⟨_, rfl, _, _, _, [], _, [], hW', trodAll_mk1 (shut_bool Try.underlying4 _), (trodAll_cons_mk (Below.trod laidOut (by kernel_rfl) (of_decide_eq_true (by kernel_rfl)) k0 bel lt0) (trodAll_cons_mk (shut_int Try.underlying3 w1) trodAll_mk0)), rfl, bel.frame _, fun h => by cases h⟩

theorem over : Rows.fnExactReadVarintRow.holds Try.pinned (OpenSpec.ofChange Rows.fnExactReadVarintSpec) :=
  OpenClaim.holds_of_wide 14 Try.f14 rfl rfl rfl rfl rfl rfl rfl ⟨rfl, rfl, rfl, rfl, rfl⟩ rfl rfl rfl rfl rfl (by kernel_rfl) Try.func14 (by kernel_rfl)
    (of_decide_eq_true (by kernel_rfl)) (by unfold Func.isWrapper; first | (rw [if_pos (by decide +kernel)]; kernel_rfl) | (rw [if_neg (by decide +kernel)]; exact ⟨rfl, rfl⟩))
    (fun os started H enc _ => lifted os started H enc)
/-- The statement. -/
theorem proved : Rows.FnExactReadVarintSaid := over
end fnExactReadVarint
end Go.Proofs.Ytalaemclpdbboaa
