/- FnExactAppendName holds: impl.AppendName and spec.AppendName agree at every slice of bytes and every name, and what is made is new memory. No condition. -/
import Derived.Test.YtbachbanjcabhaaFrame
import Derived.Test.YtbachbanjcabhaaFrameN
import Derived.Test.YtbachbanjcabhaaAn
import Derived.Test.YtbachbanjcabhaaJoined
import Derived.Deep.RegionHeld3
set_option linter.unusedVariables false
namespace Go.Proofs.Ytbachbanjcabhaa
set_option maxHeartbeats 1000000
namespace fnExactAppendName
open Go.ChangeShapes Go.WideShapes Go.ChangeAt Go.RowKit
open Go.ChangeMaps (open_string shut_string)
/-- The call returns true and leaves all that was there unturned. -/
theorem walk (w : World) (v0 : Value) (n0 : Nat) (x0 : List UInt8) (r0 : Rd w 0 w.heap.size 1 v0 n0 (x0.map bv)) (v1 : Value) (x1 : List ByteArray) (r1 : RdN w 0 w.heap.size v1 x1.length (x1.map sv)) (w1 : ∀ s ∈ x1, s.size ≤ 9223372036854775807) :
    Calls Try.prog 16 #[v0, v1] w fun e w' => e = .returned (.bool true) ∧ Below w.heap.size w w' := by
  obtain ⟨s1, e1, _⟩ := id r1
  subst e1
  have l1 := wt_len x1
  obtain ⟨b0, c0, rfl, hn0⟩ := r0.form
  by_cases h0 : n0 ≤ 1048576
  · skip
    have X : Below w.heap.size w (w.alloc (.cells #[s1] 31)) := (ext_alloc (ext_refl w) (.cells #[s1] 31))
    have qw : (w.alloc (.cells #[s1] 31)).heap.size = w.heap.size + 1 := by simp
    have k1 : (w.alloc (.cells #[s1] 31)).cell? ⟨w.heap.size, 0, none⟩ = some s1 := by simp
    replace r0 := r0.ext X
    replace r1 := r1.ext X
    have hl := an_len x0 x1
    have hx : x0.length = n0 := by have := r0.1; simpa using this
    rw [hx] at hl
    clear hx
    go_enter Try.func16, Try.ntmps16
    skip
    go_wp2_with fail
    refine (szName_c r1 w1 (by omega) (by omega)).mono ?_
    rintro e W1 ⟨_, rfl, rfl, y1⟩
    have q1 := y1.size
    replace X := ext_trans X y1
    replace r0 := r0.ext y1
    replace r1 := r1.ext y1
    replace k1 := cell_ext k1 y1
    clear y1
    by_cases h1 : ¬ ((wt x1 : Nat) : Int) ≤ 1048576
    · rw [szS_no h1]
      go_wp2
      go_ret
      exact ⟨rfl, X⟩
    rw [szS_ok (show ((wt x1 : Nat) : Int) ≤ 1048576 by omega)]
    go_wp2_with fail
    have y1 := Below.drew (ext_refl W1)
    have qd1 := y1.size
    replace X := ext_trans X y1
    replace r0 := r0.ext y1
    replace r1 := r1.ext y1
    replace k1 := cell_ext k1 y1
    clear y1
    go_region_held3 (fun w' => w'.cell? ⟨w.heap.size, 0, none⟩ = some s1)
      (first | exact k1)
      (first
        | (go_at_call 61; have C := toByteS_c r0 (by omega); (with_reducible refine C.mono ?_); clear C; rintro e W2 ⟨u1, rfl, o1, y2⟩; have q2 := y2.size; replace X := ext_trans X y2; replace r0 := r0.ext y2; replace r1 := r1.ext y2; replace k1 := cell_ext k1 y2; clear y2)
        | (go_at_call 25; have C := toName_c r1 (by omega); (with_reducible refine C.mono ?_); clear C; rintro e W3 ⟨u2, rfl, o2, y3⟩; have q3 := y3.size; replace X := ext_trans X y3; replace r0 := r0.ext y3; replace r1 := r1.ext y3; replace k1 := cell_ext k1 y3; replace o1 := o1.ext y3; clear y3)
        | (go_at_call 60; have C := specAppendName_c o1.rd o2.rd (by omega) w1; (with_reducible refine C.mono ?_); clear C; rintro e W4 ⟨u3, rfl, o3, y4⟩; have q4 := y4.size; replace X := ext_trans X y4; replace r0 := r0.ext y4; replace r1 := r1.ext y4; replace k1 := cell_ext k1 y4; replace o1 := o1.ext y4; replace o2 := o2.ext y4; clear y4))
    clear o1 o2
    go_wp2_with fail
    refine (toByteS_c r0 (by omega)).mono ?_
    rintro e W5 ⟨u4, rfl, o4, y5⟩
    have q5 := y5.size
    replace X := ext_trans X y5
    replace r0 := r0.ext y5
    replace r1 := r1.ext y5
    replace k1 := cell_ext k1 y5
    replace o3 := o3.ext y5
    clear y5
    go_wp2_with fail
    refine (toName_c r1 (by omega)).mono ?_
    rintro e W6 ⟨u5, rfl, o5, y6⟩
    have q6 := y6.size
    replace X := ext_trans X y6
    replace r0 := r0.ext y6
    replace r1 := r1.ext y6
    replace k1 := cell_ext k1 y6
    replace o3 := o3.ext y6
    replace o4 := o4.ext y6
    clear y6
    obtain ⟨z7, rfl, g7⟩ := id o5
    obtain ⟨a7', c7', rfl, _⟩ := g7.rd.form
    clear g7
    have y7 := ext_alloc (ext_refl W6) (.cells #[.slice a7' (x1.length) c7'] 34)
    have q7 := y7.size
    have p7 : W6.heap.size + 1 = (W6.alloc (.cells #[.slice a7' (x1.length) c7'] 34)).heap.size := by simp
    have k31 : (W6.alloc (.cells #[.slice a7' (x1.length) c7'] 34)).cell? ⟨W6.heap.size, 0, none⟩ = some (.slice a7' (x1.length) c7') := by simp
    replace X := ext_trans X y7
    replace r0 := r0.ext y7
    replace r1 := r1.ext y7
    replace k1 := cell_ext k1 y7
    replace o3 := o3.ext y7
    replace o4 := o4.ext y7
    replace o5 := o5.ext y7
    clear y7
    go_wp2_with fail
    generalize W6.alloc (.cells #[.slice a7' (x1.length) c7'] 34) = W7 at *
    go_wp2_with fail
    refine (implAppendName_c o4.rd o5.rd (by omega) w1).mono ?_
    rintro e W8 ⟨u6, rfl, o6, y8⟩
    have q8 := y8.size
    replace X := ext_trans X y8
    replace r0 := r0.ext y8
    replace r1 := r1.ext y8
    replace k1 := cell_ext k1 y8
    replace o3 := o3.ext y8
    replace o4 := o4.ext y8
    replace o5 := o5.ext y8
    replace k31 := cell_ext k31 y8
    clear y8
    go_wp2_with fail
    refine (eqByteS_c o6.rd o3.rd).mono ?_
    rintro e W9 ⟨_, rfl, rfl, y9⟩
    have q9 := y9.size
    replace X := ext_trans X y9
    replace r0 := r0.ext y9
    replace r1 := r1.ext y9
    replace k1 := cell_ext k1 y9
    replace o3 := o3.ext y9
    replace o4 := o4.ext y9
    replace o5 := o5.ext y9
    replace k31 := cell_ext k31 y9
    replace o6 := o6.ext y9
    clear y9
    go_wp2_with fail
    refine (toByteS_c r0 (by omega)).mono ?_
    rintro e W10 ⟨u7, rfl, o7, y10⟩
    have q10 := y10.size
    replace X := ext_trans X y10
    replace r0 := r0.ext y10
    replace r1 := r1.ext y10
    replace k1 := cell_ext k1 y10
    replace o3 := o3.ext y10
    replace o4 := o4.ext y10
    replace o5 := o5.ext y10
    replace k31 := cell_ext k31 y10
    replace o6 := o6.ext y10
    clear y10
    go_wp2_with fail
    refine (eqByteS_c o4.rd o7.rd).mono ?_
    rintro e W11 ⟨_, rfl, rfl, y11⟩
    have q11 := y11.size
    replace X := ext_trans X y11
    replace r0 := r0.ext y11
    replace r1 := r1.ext y11
    replace k1 := cell_ext k1 y11
    replace o3 := o3.ext y11
    replace o4 := o4.ext y11
    replace o5 := o5.ext y11
    replace k31 := cell_ext k31 y11
    replace o6 := o6.ext y11
    replace o7 := o7.ext y11
    clear y11
    clear o7
    go_wp2_with fail
    have y11 := Below.drew (ext_refl W11)
    have qd11 := y11.size
    replace X := ext_trans X y11
    replace r0 := r0.ext y11
    replace r1 := r1.ext y11
    replace k1 := cell_ext k1 y11
    replace o3 := o3.ext y11
    replace o4 := o4.ext y11
    replace o5 := o5.ext y11
    replace k31 := cell_ext k31 y11
    replace o6 := o6.ext y11
    clear y11
    go_region_held3 (fun w' => w'.cell? ⟨W6.heap.size, 0, none⟩ = some (.slice a7' (x1.length) c7') ∧ w'.cell? ⟨w.heap.size, 0, none⟩ = some s1)
      (first | exact ⟨k31, k1⟩)
      (first
        | (go_at_call 25; have C := toName_c r1 (by omega); (with_reducible refine C.mono ?_); clear C; rintro e W12 ⟨u8, rfl, o8, y12⟩; have q12 := y12.size; replace X := ext_trans X y12; replace r0 := r0.ext y12; replace r1 := r1.ext y12; replace k1 := cell_ext k1 y12; replace o3 := o3.ext y12; replace o4 := o4.ext y12; replace o5 := o5.ext y12; replace k31 := cell_ext k31 y12; replace o6 := o6.ext y12; clear y12)
        | (go_at_call 27; have C := eqName_c o5.rd o8.rd; (with_reducible refine C.mono ?_); clear C; rintro e W13 ⟨_, rfl, rfl, y13⟩; have q13 := y13.size; replace X := ext_trans X y13; replace r0 := r0.ext y13; replace r1 := r1.ext y13; replace k1 := cell_ext k1 y13; replace o3 := o3.ext y13; replace o4 := o4.ext y13; replace o5 := o5.ext y13; replace k31 := cell_ext k31 y13; replace o6 := o6.ext y13; replace o8 := o8.ext y13; clear y13))
    clear o8
    go_wp2_with fail
    refine (markByteS_c o4 (by omega) (by omega) (by omega)).mono ?_
    clear o4
    rintro e W14 ⟨rfl, o4, y14⟩
    have q14 := y14.size
    replace X := y14.ext X (by omega)
    replace r0 := r0.mut y14 (by omega)
    replace r1 := r1.mut y14 (by omega)
    replace k1 := cell_mut k1 y14 (by simp only; omega)
    replace o3 := o3.mut y14 (by omega)
    replace o5 := o5.mut y14 (by omega)
    replace k31 := cell_mut k31 y14 (by simp only; omega)
    replace o6 := o6.mut y14 (by omega)
    clear y14
    go_wp2_with fail
    refine (markName_c o5 (k0 := (1 + n0)) (by omega) (by omega) (by omega)).mono ?_
    clear o5
    rintro e W15 ⟨rfl, o5, y15⟩
    have q15 := y15.size
    replace X := y15.ext X (by omega)
    replace r0 := r0.mut y15 (by omega)
    replace r1 := r1.mut y15 (by omega)
    replace k1 := cell_mut k1 y15 (by simp only; omega)
    replace o3 := o3.mut y15 (by omega)
    replace o4 := o4.mut y15 (by omega)
    replace k31 := cell_mut k31 y15 (by simp only; omega)
    replace o6 := o6.mut y15 (by omega)
    clear y15
    go_wp2_with fail
    refine (eqByteS_c o6.rd o3.rd).mono ?_
    rintro e W16 ⟨_, rfl, rfl, y16⟩
    have q16 := y16.size
    replace X := ext_trans X y16
    replace r0 := r0.ext y16
    replace r1 := r1.ext y16
    replace k1 := cell_ext k1 y16
    replace o3 := o3.ext y16
    replace o4 := o4.ext y16
    replace o5 := o5.ext y16
    replace k31 := cell_ext k31 y16
    replace o6 := o6.ext y16
    clear y16
    go_wp2_with fail
    refine (markByteS_c o6 (by omega) (by omega) (by omega)).mono ?_
    clear o6
    rintro e W17 ⟨rfl, o6, y17⟩
    have q17 := y17.size
    replace X := y17.ext X (by omega)
    replace r0 := r0.mut y17 (by omega)
    replace r1 := r1.mut y17 (by omega)
    replace k1 := cell_mut k1 y17 (by simp only; omega)
    replace o3 := o3.mut y17 (by omega)
    replace o4 := o4.mut y17 (by omega)
    replace o5 := o5.mut y17 (by omega)
    replace k31 := cell_mut k31 y17 (by simp only; omega)
    clear y17
    go_wp2_with fail
    refine (heldByteS_c o6.rd (by omega) (by omega) (by omega)).mono ?_
    rintro e W18 ⟨_, rfl, rfl, y18⟩
    have q18 := y18.size
    replace X := ext_trans X y18
    replace r0 := r0.ext y18
    replace r1 := r1.ext y18
    replace k1 := cell_ext k1 y18
    replace o3 := o3.ext y18
    replace o4 := o4.ext y18
    replace o5 := o5.ext y18
    replace k31 := cell_ext k31 y18
    replace o6 := o6.ext y18
    clear y18
    go_wp2_with fail
    have y18 := Below.drew (ext_refl W18)
    have qd18 := y18.size
    replace X := ext_trans X y18
    replace r0 := r0.ext y18
    replace r1 := r1.ext y18
    replace k1 := cell_ext k1 y18
    replace o3 := o3.ext y18
    replace o4 := o4.ext y18
    replace o5 := o5.ext y18
    replace k31 := cell_ext k31 y18
    replace o6 := o6.ext y18
    clear y18
    go_region_held3 (fun w' => w'.cell? ⟨w.heap.size, 0, none⟩ = some s1)
      (first | exact k1)
      (first
        | (go_at_call 61; have C := toByteS_c r0 (by omega); (with_reducible refine C.mono ?_); clear C; rintro e W19 ⟨u9, rfl, o9, y19⟩; have q19 := y19.size; replace X := ext_trans X y19; replace r0 := r0.ext y19; replace r1 := r1.ext y19; replace k1 := cell_ext k1 y19; replace o3 := o3.ext y19; replace o4 := o4.ext y19; replace o5 := o5.ext y19; replace k31 := cell_ext k31 y19; replace o6 := o6.ext y19; clear y19)
        | (go_at_call 25; have C := toName_c r1 (by omega); (with_reducible refine C.mono ?_); clear C; rintro e W20 ⟨u10, rfl, o10, y20⟩; have q20 := y20.size; replace X := ext_trans X y20; replace r0 := r0.ext y20; replace r1 := r1.ext y20; replace k1 := cell_ext k1 y20; replace o3 := o3.ext y20; replace o4 := o4.ext y20; replace o5 := o5.ext y20; replace k31 := cell_ext k31 y20; replace o6 := o6.ext y20; replace o9 := o9.ext y20; clear y20)
        | (go_at_call 62; have C := implAppendName_c o9.rd o10.rd (by omega) w1; (with_reducible refine C.mono ?_); clear C; rintro e W21 ⟨u11, rfl, o11, y21⟩; have q21 := y21.size; replace X := ext_trans X y21; replace r0 := r0.ext y21; replace r1 := r1.ext y21; replace k1 := cell_ext k1 y21; replace o3 := o3.ext y21; replace o4 := o4.ext y21; replace o5 := o5.ext y21; replace k31 := cell_ext k31 y21; replace o6 := o6.ext y21; replace o9 := o9.ext y21; replace o10 := o10.ext y21; clear y21))
    go_wp2_with fail
    refine (eqByteS_c o11.rd o3.rd).mono ?_
    rintro e W22 ⟨_, rfl, rfl, y22⟩
    have q22 := y22.size
    replace X := ext_trans X y22
    replace r0 := r0.ext y22
    replace r1 := r1.ext y22
    replace k1 := cell_ext k1 y22
    replace o3 := o3.ext y22
    replace o4 := o4.ext y22
    replace o5 := o5.ext y22
    replace k31 := cell_ext k31 y22
    replace o6 := o6.ext y22
    replace o9 := o9.ext y22
    replace o10 := o10.ext y22
    replace o11 := o11.ext y22
    clear y22
    go_wp2_with fail
    refine (heldByteS_c o6.rd (by omega) (by omega) (by omega)).mono ?_
    rintro e W23 ⟨_, rfl, rfl, y23⟩
    have q23 := y23.size
    replace X := ext_trans X y23
    replace r0 := r0.ext y23
    replace r1 := r1.ext y23
    replace k1 := cell_ext k1 y23
    replace o3 := o3.ext y23
    replace o4 := o4.ext y23
    replace o5 := o5.ext y23
    replace k31 := cell_ext k31 y23
    replace o6 := o6.ext y23
    replace o9 := o9.ext y23
    replace o10 := o10.ext y23
    replace o11 := o11.ext y23
    clear y23
    go_wp2_with fail
    go_ret
    exact ⟨rfl, X⟩
  · go_enter Try.func16, Try.ntmps16
    go_wp2
    go_ret
    exact ⟨rfl, ext_alloc (ext_refl _) _⟩
set_option maxRecDepth 100000 in
theorem lifted (os : Os) (started : os.Started) (H : Type) (enc : TypeId × Value → H) :
    ReturnsInHanded {} Try.checked os 16 .any (Rows.fnExactAppendNameSpec.pre6 enc Try.prog Try.f16 Rows.fnExactAppendNameRow.domain false) (Rows.fnExactAppendNameSpec.post enc Try.prog Try.f16 false true false false) := by
  refine returnsInHanded_of_change (C := Try.checked) own started (by kernel_rfl) Try.func16
    (ChangeSpec.witness6 (enc := enc) (C := Try.checked) false ⟨#[], #[.slice none 0 0, .agg #[.slice none 0 0]], []⟩ 8 (by kernel_rfl) (by kernel_rfl) (by kernel_rfl) (by kernel_rfl)) ?_
  intro W base args ds gs before hval0 hW hcnd _
  have hval : ∀ (j : Nat) t v, Try.f16.params[j]? = some t → args[j]? = some v → Value.okWide Try.prog W .any base t v := hval0
  have hW' := hW
  obtain ⟨p, q, hA0, hV, rfl, hfz, hnd⟩ := hW
  have hA : DataW.TrodAll enc Try.prog W 0 (fun _ => true) true Try.f16.params.toList args.toList ds p := hA0
  rw [Try.params16] at hA hval
  obtain ⟨v0, vs0, d0, ds0, p0, q0, hargs, rfl, rfl, h0, tr0⟩ := trodAll_cons hA
  obtain ⟨v1, vs1, d1, ds1, p1, q1, rfl, rfl, rfl, h1, tr1⟩ := trodAll_cons tr0
  obtain ⟨rfl, rfl, rfl⟩ := trodAll_nil tr1
  obtain rfl : args = #[v0, v1] := by cases args; simp_all
  obtain ⟨rfl, rfl⟩ := trodVars_none hV
  have k0 := h0
  have lt0 : ∀ x ∈ p0, x.block < W.heap.size := by obtain ⟨m, hm⟩ := k0; exact DataW.trod_lt m _ _ _ hm
  obtain ⟨n0, x0, r0⟩ := rd_bytes Try.underlying68 Try.underlying5 (by kernel_rfl) (hval 0 68 v0 rfl rfl) h0
  have k1 := h1
  have lt1 : ∀ x ∈ p1, x.block < W.heap.size := by obtain ⟨m, hm⟩ := k1; exact DataW.trod_lt m _ _ _ hm
  obtain ⟨x1, r1, w1⟩ := rd_name Try.underlying31 (by kernel_rfl) (by kernel_rfl) Try.underlying29 Try.underlying9 (by kernel_rfl) (hval 1 31 v1 rfl rfl) h1
  clear hA0 hval0
  try simp only [List.append_nil] at hW'
  refine (walk W v0 n0 x0 r0 v1 x1 r1 w1).mono fun e W' ⟨he, bel⟩ => ?_
  subst he
  exact ⟨_, rfl, _, _, _, [], _, [], hW', trodAll_mk1 (shut_bool Try.underlying4 _), (trodAll_cons_mk (Below.trod laidOut (by kernel_rfl) (of_decide_eq_true (by kernel_rfl)) k0 bel lt0) (trodAll_cons_mk (Below.trod laidOut (by kernel_rfl) (of_decide_eq_true (by kernel_rfl)) k1 bel lt1) trodAll_mk0)), rfl, bel.frame _, fun h => by cases h⟩

theorem closed : joinedFacts Try.pinned.checked.prog 16 Try.f16 Rows.fnExactAppendNameSpec Rows.fnExactAppendNameRow = true := by
  unfold joinedFacts
  rw [show Try.pinned.checked.prog.mayEnter = true from joined1, show (Rows.fnExactAppendNameRow.lifted == Try.pinned.checked.prog.liftsFinal) = true from joined2, show (Try.pinned.checked.prog.make == some Rows.fnExactAppendNameRow.make) = true from joined3]
  kernel_rfl
theorem over : Rows.fnExactAppendNameRow.holds Try.pinned (OpenSpec.ofChange Rows.fnExactAppendNameSpec) :=
  OpenClaim.holds_of_wide 16 Try.f16 rfl rfl rfl rfl rfl rfl rfl ⟨rfl, rfl, rfl, rfl, rfl⟩ rfl rfl rfl rfl rfl (by kernel_rfl) Try.func16 closed
    (of_decide_eq_true (by kernel_rfl)) (by unfold Func.isWrapper; first | (rw [if_pos (by decide +kernel)]; kernel_rfl) | (rw [if_neg (by decide +kernel)]; exact ⟨rfl, rfl⟩))
    (fun os started H enc _ => lifted os started H enc)
/-- The statement. -/
theorem proved : Rows.FnExactAppendNameSaid := over
end fnExactAppendName
end Go.Proofs.Ytbachbanjcabhaa
