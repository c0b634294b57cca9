/- FnExactMatches holds: impl.Matches and spec.Matches agree at every pattern and every name. No condition. -/
import Derived.Test.YtcagbdidjakcpaaFrame
import Derived.Test.YtcagbdidjakcpaaFrameN
import Derived.Test.YtcagbdidjakcpaaMm
import Derived.Test.YtcagbdidjakcpaaJoined
import Derived.Deep.RegionHeld3
set_option linter.unusedVariables false
namespace Go.Proofs.Ytcagbdidjakcpaa
set_option maxHeartbeats 1000000
namespace fnExactMatches
open Go.ChangeShapes Go.WideShapes Go.ChangeAt Go.RowKit
open Go.ChangeMaps (open_string shut_string)
/-- The call returns true and leaves all that was there unturned. -/
theorem walk (w : World) (v0 : Value) (x0 : List ByteArray) (r0 : RdN w 0 w.heap.size v0 x0.length (x0.map sv)) (w0 : ∀ s ∈ x0, s.size ≤ 9223372036854775807) (v1 : Value) (x1 : List ByteArray) (r1 : RdN w 0 w.heap.size v1 x1.length (x1.map sv)) (w1 : ∀ s ∈ x1, s.size ≤ 9223372036854775807) :
    Calls Try.prog 4 #[v0, v1] w fun e w' => e = .returned (.bool true) ∧ Below w.heap.size w w' := by
  obtain ⟨s0, e0, _⟩ := id r0
  subst e0
  have l0 := wt_len x0
  obtain ⟨s1, e1, _⟩ := id r1
  subst e1
  have l1 := wt_len x1
  have X : Below w.heap.size w ((w.alloc (.cells #[s0] 36)).alloc (.cells #[s1] 37)) := (ext_alloc (ext_alloc (ext_refl w) (.cells #[s0] 36)) (.cells #[s1] 37))
  have k0 : ((w.alloc (.cells #[s0] 36)).alloc (.cells #[s1] 37)).cell? ⟨w.heap.size, 0, none⟩ = some s0 := by simp
  have k1 : ((w.alloc (.cells #[s0] 36)).alloc (.cells #[s1] 37)).cell? ⟨w.heap.size + 1, 0, none⟩ = some s1 := by simp
  replace r0 := r0.ext X
  replace r1 := r1.ext X
  go_enter Try.func4, Try.ntmps4
  skip
  go_wp2_with fail
  refine (szPattern_c r0 w0 (by omega) (by omega)).mono ?_
  rintro e W1 ⟨_, rfl, rfl, y1⟩
  have q1 := y1.size
  replace X := ext_trans X y1
  replace r0 := r0.ext y1
  replace r1 := r1.ext y1
  replace k0 := cell_ext k0 y1
  replace k1 := cell_ext k1 y1
  clear y1
  by_cases h0 : ¬ ((wt x0 : Nat) : Int) ≤ 1048576
  · rw [szS_no h0]
    go_wp2
    go_ret
    exact ⟨rfl, X⟩
  rw [szS_ok (show ((wt x0 : Nat) : Int) ≤ 1048576 by omega)]
  go_wp2_with fail
  refine (szName_c r1 w1 (by omega) (by omega)).mono ?_
  rintro e W2 ⟨_, rfl, rfl, y2⟩
  have q2 := y2.size
  replace X := ext_trans X y2
  replace r0 := r0.ext y2
  replace r1 := r1.ext y2
  replace k0 := cell_ext k0 y2
  replace k1 := cell_ext k1 y2
  clear y2
  by_cases h1 : ¬ ((wt x1 : Nat) : Int) ≤ 1048576 - ((wt x0 : Nat) : Int)
  · rw [szS_no h1]
    go_wp2
    go_ret
    exact ⟨rfl, X⟩
  rw [szS_ok (show ((wt x1 : Nat) : Int) ≤ 1048576 - ((wt x0 : Nat) : Int) by omega)]
  go_wp2_with fail
  have y2 := Below.drew (ext_refl W2)
  have qd2 := y2.size
  replace X := ext_trans X y2
  replace r0 := r0.ext y2
  replace r1 := r1.ext y2
  replace k0 := cell_ext k0 y2
  replace k1 := cell_ext k1 y2
  clear y2
  go_region_held3 (fun w' => w'.cell? ⟨w.heap.size, 0, none⟩ = some s0 ∧ w'.cell? ⟨w.heap.size + 1, 0, none⟩ = some s1)
    (first | exact ⟨k0, k1⟩)
    (first
      | (go_at_call 21; have C := toPattern_c r0 (by omega); (with_reducible refine C.mono ?_); clear C; rintro e W3 ⟨u1, rfl, o1, y3⟩; have q3 := y3.size; replace X := ext_trans X y3; replace r0 := r0.ext y3; replace r1 := r1.ext y3; replace k0 := cell_ext k0 y3; replace k1 := cell_ext k1 y3; clear y3)
      | (go_at_call 22; have C := toName_c r1 (by omega); (with_reducible refine C.mono ?_); clear C; rintro e W4 ⟨u2, rfl, o2, y4⟩; have q4 := y4.size; replace X := ext_trans X y4; replace r0 := r0.ext y4; replace r1 := r1.ext y4; replace k0 := cell_ext k0 y4; replace k1 := cell_ext k1 y4; replace o1 := o1.ext y4; clear y4)
      | (go_at_call 20; have C := specMatches_c o1.rd o2.rd w0 w1 (by omega); (with_reducible refine C.mono ?_); clear C; rintro e W5 ⟨_, rfl, rfl, y5⟩; have q5 := y5.size; replace X := ext_trans X y5; replace r0 := r0.ext y5; replace r1 := r1.ext y5; replace k0 := cell_ext k0 y5; replace k1 := cell_ext k1 y5; replace o1 := o1.ext y5; replace o2 := o2.ext y5; clear y5))
  clear o1 o2
  go_wp2_with fail
  refine (toPattern_c r0 (by omega)).mono ?_
  rintro e W6 ⟨u3, rfl, o3, y6⟩
  have q6 := y6.size
  replace X := ext_trans X y6
  replace r0 := r0.ext y6
  replace r1 := r1.ext y6
  replace k0 := cell_ext k0 y6
  replace k1 := cell_ext k1 y6
  clear y6
  obtain ⟨z7, rfl, g7⟩ := id o3
  obtain ⟨a7', c7', rfl, _⟩ := g7.rd.form
  clear g7
  have y7 := ext_alloc (ext_refl W6) (.cells #[.slice a7' (x0.length) c7'] 41)
  have q7 := y7.size
  have p7 : W6.heap.size + 1 = (W6.alloc (.cells #[.slice a7' (x0.length) c7'] 41)).heap.size := by simp
  have k30 : (W6.alloc (.cells #[.slice a7' (x0.length) c7'] 41)).cell? ⟨W6.heap.size, 0, none⟩ = some (.slice a7' (x0.length) c7') := by simp
  replace X := ext_trans X y7
  replace r0 := r0.ext y7
  replace r1 := r1.ext y7
  replace k0 := cell_ext k0 y7
  replace k1 := cell_ext k1 y7
  replace o3 := o3.ext y7
  clear y7
  go_wp2_with fail
  generalize W6.alloc (.cells #[.slice a7' (x0.length) c7'] 41) = W7 at *
  go_wp2_with fail
  refine (toName_c r1 (by omega)).mono ?_
  rintro e W8 ⟨u4, rfl, o4, y8⟩
  have q8 := y8.size
  replace X := ext_trans X y8
  replace r0 := r0.ext y8
  replace r1 := r1.ext y8
  replace k0 := cell_ext k0 y8
  replace k1 := cell_ext k1 y8
  replace o3 := o3.ext y8
  replace k30 := cell_ext k30 y8
  clear y8
  obtain ⟨z9, rfl, g9⟩ := id o4
  obtain ⟨a9', c9', rfl, _⟩ := g9.rd.form
  clear g9
  have y9 := ext_alloc (ext_refl W8) (.cells #[.slice a9' (x1.length) c9'] 26)
  have q9 := y9.size
  have p9 : W8.heap.size + 1 = (W8.alloc (.cells #[.slice a9' (x1.length) c9'] 26)).heap.size := by simp
  have k31 : (W8.alloc (.cells #[.slice a9' (x1.length) c9'] 26)).cell? ⟨W8.heap.size, 0, none⟩ = some (.slice a9' (x1.length) c9') := by simp
  replace X := ext_trans X y9
  replace r0 := r0.ext y9
  replace r1 := r1.ext y9
  replace k0 := cell_ext k0 y9
  replace k1 := cell_ext k1 y9
  replace o3 := o3.ext y9
  replace k30 := cell_ext k30 y9
  replace o4 := o4.ext y9
  clear y9
  go_wp2_with fail
  generalize W8.alloc (.cells #[.slice a9' (x1.length) c9'] 26) = W9 at *
  go_wp2_with fail
  refine (implMatches_c o3.rd o4.rd w0 w1 (by omega)).mono ?_
  rintro e W10 ⟨_, rfl, rfl, y10⟩
  have q10 := y10.size
  replace X := ext_trans X y10
  replace r0 := r0.ext y10
  replace r1 := r1.ext y10
  replace k0 := cell_ext k0 y10
  replace k1 := cell_ext k1 y10
  replace o3 := o3.ext y10
  replace k30 := cell_ext k30 y10
  replace o4 := o4.ext y10
  replace k31 := cell_ext k31 y10
  clear y10
  go_wp2_with fail
  have y10 := Below.drew (ext_refl W10)
  have qd10 := y10.size
  replace X := ext_trans X y10
  replace r0 := r0.ext y10
  replace r1 := r1.ext y10
  replace k0 := cell_ext k0 y10
  replace k1 := cell_ext k1 y10
  replace o3 := o3.ext y10
  replace k30 := cell_ext k30 y10
  replace o4 := o4.ext y10
  replace k31 := cell_ext k31 y10
  clear y10
  go_region_held3 (fun w' => w'.cell? ⟨W6.heap.size, 0, none⟩ = some (.slice a7' (x0.length) c7') ∧ w'.cell? ⟨w.heap.size, 0, none⟩ = some s0)
    (first | exact ⟨k30, k0⟩)
    (first
      | (go_at_call 21; have C := toPattern_c r0 (by omega); (with_reducible refine C.mono ?_); clear C; rintro e W11 ⟨u5, rfl, o5, y11⟩; have q11 := y11.size; replace X := ext_trans X y11; replace r0 := r0.ext y11; replace r1 := r1.ext y11; replace k0 := cell_ext k0 y11; replace k1 := cell_ext k1 y11; replace o3 := o3.ext y11; replace k30 := cell_ext k30 y11; replace o4 := o4.ext y11; replace k31 := cell_ext k31 y11; clear y11)
      | (go_at_call 24; have C := eqPattern_c o3.rd o5.rd; (with_reducible refine C.mono ?_); clear C; rintro e W12 ⟨_, rfl, rfl, y12⟩; have q12 := y12.size; replace X := ext_trans X y12; replace r0 := r0.ext y12; replace r1 := r1.ext y12; replace k0 := cell_ext k0 y12; replace k1 := cell_ext k1 y12; replace o3 := o3.ext y12; replace k30 := cell_ext k30 y12; replace o4 := o4.ext y12; replace k31 := cell_ext k31 y12; replace o5 := o5.ext y12; clear y12))
  clear o5
  go_wp2_with fail
  have y12 := Below.drew (ext_refl W12)
  have qd12 := y12.size
  replace X := ext_trans X y12
  replace r0 := r0.ext y12
  replace r1 := r1.ext y12
  replace k0 := cell_ext k0 y12
  replace k1 := cell_ext k1 y12
  replace o3 := o3.ext y12
  replace k30 := cell_ext k30 y12
  replace o4 := o4.ext y12
  replace k31 := cell_ext k31 y12
  clear y12
  go_region_held3 (fun w' => w'.cell? ⟨W8.heap.size, 0, none⟩ = some (.slice a9' (x1.length) c9') ∧ w'.cell? ⟨w.heap.size + 1, 0, none⟩ = some s1)
    (first | exact ⟨k31, k1⟩)
    (first
      | (go_at_call 22; have C := toName_c r1 (by omega); (with_reducible refine C.mono ?_); clear C; rintro e W13 ⟨u6, rfl, o6, y13⟩; have q13 := y13.size; replace X := ext_trans X y13; replace r0 := r0.ext y13; replace r1 := r1.ext y13; replace k0 := cell_ext k0 y13; replace k1 := cell_ext k1 y13; replace o3 := o3.ext y13; replace k30 := cell_ext k30 y13; replace o4 := o4.ext y13; replace k31 := cell_ext k31 y13; clear y13)
      | (go_at_call 25; have C := eqName_c o4.rd o6.rd; (with_reducible refine C.mono ?_); clear C; rintro e W14 ⟨_, rfl, rfl, y14⟩; have q14 := y14.size; replace X := ext_trans X y14; replace r0 := r0.ext y14; replace r1 := r1.ext y14; replace k0 := cell_ext k0 y14; replace k1 := cell_ext k1 y14; replace o3 := o3.ext y14; replace k30 := cell_ext k30 y14; replace o4 := o4.ext y14; replace k31 := cell_ext k31 y14; replace o6 := o6.ext y14; clear y14))
  clear o6
  go_wp2_with fail
  go_ret
  exact ⟨rfl, X⟩
set_option maxRecDepth 100000 in
theorem lifted (os : Os) (started : os.Started) (H : Type) (enc : TypeId × Value → H) :
    ReturnsInHanded {} Try.checked os 4 .any (Rows.fnExactMatchesSpec.pre6 enc Try.prog Try.f4 Rows.fnExactMatchesRow.domain false) (Rows.fnExactMatchesSpec.post enc Try.prog Try.f4 false true false false) := by
  refine returnsInHanded_of_change (C := Try.checked) own started (by kernel_rfl) Try.func4
    (ChangeSpec.witness6 (enc := enc) (C := Try.checked) false ⟨#[], #[.agg #[.slice none 0 0], .agg #[.slice none 0 0]], []⟩ 8 (by kernel_rfl) (by kernel_rfl) (by kernel_rfl) (by kernel_rfl)) ?_
  intro W base args ds gs before hval0 hW hcnd _
  have hval : ∀ (j : Nat) t v, Try.f4.params[j]? = some t → args[j]? = some v → Value.okWide Try.prog W .any base t v := hval0
  have hW' := hW
  obtain ⟨p, q, hA0, hV, rfl, hfz, hnd⟩ := hW
  have hA : DataW.TrodAll enc Try.prog W 0 (fun _ => true) true Try.f4.params.toList args.toList ds p := hA0
  rw [Try.params4] at hA hval
  obtain ⟨v0, vs0, d0, ds0, p0, q0, hargs, rfl, rfl, h0, tr0⟩ := trodAll_cons hA
  obtain ⟨v1, vs1, d1, ds1, p1, q1, rfl, rfl, rfl, h1, tr1⟩ := trodAll_cons tr0
  obtain ⟨rfl, rfl, rfl⟩ := trodAll_nil tr1
  obtain rfl : args = #[v0, v1] := by cases args; simp_all
  obtain ⟨rfl, rfl⟩ := trodVars_none hV
  have k0 := h0
  have lt0 : ∀ x ∈ p0, x.block < W.heap.size := by obtain ⟨m, hm⟩ := k0; exact DataW.trod_lt m _ _ _ hm
  obtain ⟨x0, r0, w0⟩ := rd_name Try.underlying36 (by kernel_rfl) (by kernel_rfl) Try.underlying24 Try.underlying9 (by kernel_rfl) (hval 0 36 v0 rfl rfl) h0
  have k1 := h1
  have lt1 : ∀ x ∈ p1, x.block < W.heap.size := by obtain ⟨m, hm⟩ := k1; exact DataW.trod_lt m _ _ _ hm
  obtain ⟨x1, r1, w1⟩ := rd_name Try.underlying37 (by kernel_rfl) (by kernel_rfl) Try.underlying24 Try.underlying9 (by kernel_rfl) (hval 1 37 v1 rfl rfl) h1
  clear hA0 hval0
  try simp only [List.append_nil] at hW'
  refine (walk W v0 x0 r0 w0 v1 x1 r1 w1).mono fun e W' ⟨he, bel⟩ => ?_
  subst he
  exact ⟨_, rfl, _, _, _, [], _, [], hW', trodAll_mk1 (shut_bool Try.underlying4 _), (trodAll_cons_mk (Below.trod laidOut (by kernel_rfl) (of_decide_eq_true (by kernel_rfl)) k0 bel lt0) (trodAll_cons_mk (Below.trod laidOut (by kernel_rfl) (of_decide_eq_true (by kernel_rfl)) k1 bel lt1) trodAll_mk0)), rfl, bel.frame _, fun h => by cases h⟩

theorem closed : joinedFacts Try.pinned.checked.prog 4 Try.f4 Rows.fnExactMatchesSpec Rows.fnExactMatchesRow = true := by
  unfold joinedFacts
  rw [show Try.pinned.checked.prog.mayEnter = true from joined1, show (Rows.fnExactMatchesRow.lifted == Try.pinned.checked.prog.liftsFinal) = true from joined2, show (Try.pinned.checked.prog.make == some Rows.fnExactMatchesRow.make) = true from joined3]
  kernel_rfl
theorem over : Rows.fnExactMatchesRow.holds Try.pinned (OpenSpec.ofChange Rows.fnExactMatchesSpec) :=
  OpenClaim.holds_of_wide 4 Try.f4 rfl rfl rfl rfl rfl rfl rfl ⟨rfl, rfl, rfl, rfl, rfl⟩ rfl rfl rfl rfl rfl (by kernel_rfl) Try.func4 closed
    (of_decide_eq_true (by kernel_rfl)) (by unfold Func.isWrapper; first | (rw [if_pos (by decide +kernel)]; kernel_rfl) | (rw [if_neg (by decide +kernel)]; exact ⟨rfl, rfl⟩))
    (fun os started H enc _ => lifted os started H enc)
/-- The statement. -/
theorem proved : Rows.FnExactMatchesSaid := over
end fnExactMatches
end Go.Proofs.Ytcagbdidjakcpaa
