/- FnExactPutEntry holds: impl.PutEntry and spec.PutEntry agree at every table, every name and every int, and what is made is new memory. No condition. -/
import Derived.Test.YtcagbdidjakcpaaFrame
import Derived.Test.YtcagbdidjakcpaaFrameN
import Derived.Test.YtcagbdidjakcpaaFrameT
import Derived.Test.YtcagbdidjakcpaaTabE
import Derived.Test.YtcagbdidjakcpaaTabN
import Derived.Test.YtcagbdidjakcpaaTabQ
import Derived.Test.YtcagbdidjakcpaaTabS
import Derived.Test.YtcagbdidjakcpaaJoined
import Derived.Deep.RegionHeld3
set_option linter.unusedVariables false
namespace Go.Proofs.Ytcagbdidjakcpaa
set_option maxHeartbeats 1000000
namespace fnExactPutEntry
open Go.ChangeShapes Go.WideShapes Go.ChangeAt Go.RowKit
open Go.ChangeMaps (open_string shut_string)
/-- The call returns true and leaves all that was there unturned. -/
theorem walk (w : World) (v0 : Value) (n0 : Nat) (x0 : List (List ByteArray × Int)) (r0 : RdT w 0 w.heap.size v0 n0 x0) (w0 : ∀ e ∈ x0, ∀ s ∈ e.1, s.size ≤ 9223372036854775807) (g0 : ∀ e ∈ x0, I64 e.2) (v1 : Value) (x1 : List ByteArray) (r1 : RdN w 0 w.heap.size v1 x1.length (x1.map sv)) (w1 : ∀ s ∈ x1, s.size ≤ 9223372036854775807) (a2 : Int) (w2 : (Lit.int .i64 a2).wf = true) :
    Calls Try.prog 7 #[v0, v1, .int .i64 a2] w fun e w' => e = .returned (.bool true) ∧ Below w.heap.size w w' := by
  obtain ⟨s1, e1, _⟩ := id r1
  subst e1
  have l1 := wt_len x1
  have X : Below w.heap.size w (w.alloc (.cells #[s1] 37)) := (ext_alloc (ext_refl w) (.cells #[s1] 37))
  have qw : (w.alloc (.cells #[s1] 37)).heap.size = w.heap.size + 1 := by simp
  have k1 : (w.alloc (.cells #[s1] 37)).cell? ⟨w.heap.size, 0, none⟩ = some s1 := by simp
  replace r0 := r0.ext X
  replace r1 := r1.ext X
  have l0 := tw_len n0 x0
  have hf := tw_pe x0 x1 a2
  rw [show x0.length = n0 from r0.1] at hf
  have hl9 := tw_len (pe x0 x1 a2).1.length (pe x0 x1 a2).1
  obtain ⟨hk1, hk2⟩ := kP_bd 1 x0 r0.1
  go_enter Try.func7, Try.ntmps7
  skip
  go_wp2_with fail
  refine (szTableEntryS_c r0 w0 (by omega) (by omega)).mono ?_
  rintro e W1 ⟨_, rfl, rfl, y1⟩
  have q1 := y1.size
  replace X := ext_trans X y1
  replace r0 := r0.ext y1
  replace r1 := r1.ext y1
  replace k1 := cell_ext k1 y1
  clear y1
  by_cases h0 : ¬ ((tw n0 x0 : Nat) : Int) ≤ 1048576
  · rw [szS_no h0]
    go_wp2
    go_ret
    exact ⟨rfl, X⟩
  rw [szS_ok (show ((tw n0 x0 : Nat) : Int) ≤ 1048576 by omega)]
  go_wp2_with fail
  refine (szName_c r1 w1 (by omega) (by omega)).mono ?_
  rintro e W2 ⟨_, rfl, rfl, y2⟩
  have q2 := y2.size
  replace X := ext_trans X y2
  replace r0 := r0.ext y2
  replace r1 := r1.ext y2
  replace k1 := cell_ext k1 y2
  clear y2
  by_cases h1 : ¬ ((wt x1 : Nat) : Int) ≤ 1048576 - ((tw n0 x0 : Nat) : Int)
  · rw [szS_no h1]
    go_wp2
    go_ret
    exact ⟨rfl, X⟩
  rw [szS_ok (show ((wt x1 : Nat) : Int) ≤ 1048576 - ((tw n0 x0 : Nat) : Int) by omega)]
  go_wp2_with fail
  have y2 := Below.drew (ext_refl W2)
  have qd2 := y2.size
  replace X := ext_trans X y2
  replace r0 := r0.ext y2
  replace r1 := r1.ext y2
  replace k1 := cell_ext k1 y2
  clear y2
  go_region_held3 (fun w' => w'.cell? ⟨w.heap.size, 0, none⟩ = some s1)
    (first | exact k1)
    (first
      | (go_at_call 40; have C := toTableEntryS_c r0 (by omega) (by omega); (with_reducible refine C.mono ?_); clear C; rintro e W3 ⟨u1, rfl, o1, y3⟩; have q3 := y3.size; replace X := ext_trans X y3; replace r0 := r0.ext y3; replace r1 := r1.ext y3; replace k1 := cell_ext k1 y3; clear y3)
      | (go_at_call 22; have C := toName_c r1 (by omega); (with_reducible refine C.mono ?_); clear C; rintro e W4 ⟨u2, rfl, o2, y4⟩; have q4 := y4.size; replace X := ext_trans X y4; replace r0 := r0.ext y4; replace r1 := r1.ext y4; replace k1 := cell_ext k1 y4; replace o1 := o1.ext y4; clear y4)
      | (go_at_call 39; have C := specPutEntry_c (z := a2) o1.rd o2.rd (by omega) (by omega) (by omega) w0 w1 (by omega) (by omega); (with_reducible refine C.mono ?_); clear C; rintro e W5 ⟨_, rfl, ⟨u3, rfl, o3⟩, y5⟩; have q5 := y5.size; replace X := ext_trans X y5; replace r0 := r0.ext y5; replace r1 := r1.ext y5; replace k1 := cell_ext k1 y5; replace o1 := o1.ext y5; replace o2 := o2.ext y5; clear y5))
  clear o1 o2
  go_wp2_with fail
  refine (toTableEntryS_c r0 (by omega) (by omega)).mono ?_
  rintro e W6 ⟨u4, rfl, o4, y6⟩
  have q6 := y6.size
  replace X := ext_trans X y6
  replace r0 := r0.ext y6
  replace r1 := r1.ext y6
  replace k1 := cell_ext k1 y6
  replace o3 := o3.ext y6
  clear y6
  go_wp2_with fail
  refine (toName_c r1 (by omega)).mono ?_
  rintro e W7 ⟨u5, rfl, o5, y7⟩
  have q7 := y7.size
  replace X := ext_trans X y7
  replace r0 := r0.ext y7
  replace r1 := r1.ext y7
  replace k1 := cell_ext k1 y7
  replace o3 := o3.ext y7
  replace o4 := o4.ext y7
  clear y7
  obtain ⟨z8, rfl, g8⟩ := id o5
  obtain ⟨a8', c8', rfl, _⟩ := g8.rd.form
  clear g8
  have y8 := ext_alloc (ext_refl W7) (.cells #[.slice a8' (x1.length) c8'] 26)
  have q8 := y8.size
  have p8 : W7.heap.size + 1 = (W7.alloc (.cells #[.slice a8' (x1.length) c8'] 26)).heap.size := by simp
  have k31 : (W7.alloc (.cells #[.slice a8' (x1.length) c8'] 26)).cell? ⟨W7.heap.size, 0, none⟩ = some (.slice a8' (x1.length) c8') := by simp
  replace X := ext_trans X y8
  replace r0 := r0.ext y8
  replace r1 := r1.ext y8
  replace k1 := cell_ext k1 y8
  replace o3 := o3.ext y8
  replace o4 := o4.ext y8
  replace o5 := o5.ext y8
  clear y8
  go_wp2_with fail
  generalize W7.alloc (.cells #[.slice a8' (x1.length) c8'] 26) = W8 at *
  go_wp2_with fail
  refine (implPutEntry_c (z := a2) o4.rd o5.rd (by omega) (by omega) (by omega) w0 w1 (by omega) (by omega)).mono ?_
  rintro e W9 ⟨_, rfl, ⟨u6, rfl, o6⟩, y9⟩
  have q9 := y9.size
  replace X := ext_trans X y9
  replace r0 := r0.ext y9
  replace r1 := r1.ext y9
  replace k1 := cell_ext k1 y9
  replace o3 := o3.ext y9
  replace o4 := o4.ext y9
  replace o5 := o5.ext y9
  replace k31 := cell_ext k31 y9
  clear y9
  go_wp2_with fail
  refine (eqTableEntryS_c o6.rd o3.rd).mono ?_
  rintro e W10 ⟨_, rfl, rfl, y10⟩
  have q10 := y10.size
  replace X := ext_trans X y10
  replace r0 := r0.ext y10
  replace r1 := r1.ext y10
  replace k1 := cell_ext k1 y10
  replace o3 := o3.ext y10
  replace o4 := o4.ext y10
  replace o5 := o5.ext y10
  replace k31 := cell_ext k31 y10
  replace o6 := o6.ext y10
  clear y10
  go_wp2_with fail
  refine (toTableEntryS_c r0 (by omega) (by omega)).mono ?_
  rintro e W11 ⟨u7, rfl, o7, y11⟩
  have q11 := y11.size
  replace X := ext_trans X y11
  replace r0 := r0.ext y11
  replace r1 := r1.ext y11
  replace k1 := cell_ext k1 y11
  replace o3 := o3.ext y11
  replace o4 := o4.ext y11
  replace o5 := o5.ext y11
  replace k31 := cell_ext k31 y11
  replace o6 := o6.ext y11
  clear y11
  go_wp2_with fail
  refine (eqTableEntryS_c o4.rd o7.rd).mono ?_
  rintro e W12 ⟨_, rfl, rfl, y12⟩
  have q12 := y12.size
  replace X := ext_trans X y12
  replace r0 := r0.ext y12
  replace r1 := r1.ext y12
  replace k1 := cell_ext k1 y12
  replace o3 := o3.ext y12
  replace o4 := o4.ext y12
  replace o5 := o5.ext y12
  replace k31 := cell_ext k31 y12
  replace o6 := o6.ext y12
  replace o7 := o7.ext y12
  clear y12
  clear o7
  go_wp2_with fail
  have y12 := Below.drew (ext_refl W12)
  have qd12 := y12.size
  replace X := ext_trans X y12
  replace r0 := r0.ext y12
  replace r1 := r1.ext y12
  replace k1 := cell_ext k1 y12
  replace o3 := o3.ext y12
  replace o4 := o4.ext y12
  replace o5 := o5.ext y12
  replace k31 := cell_ext k31 y12
  replace o6 := o6.ext y12
  clear y12
  go_region_held3 (fun w' => w'.cell? ⟨W7.heap.size, 0, none⟩ = some (.slice a8' (x1.length) c8') ∧ w'.cell? ⟨w.heap.size, 0, none⟩ = some s1)
    (first | exact ⟨k31, k1⟩)
    (first
      | (go_at_call 22; have C := toName_c r1 (by omega); (with_reducible refine C.mono ?_); clear C; rintro e W13 ⟨u8, rfl, o8, y13⟩; have q13 := y13.size; replace X := ext_trans X y13; replace r0 := r0.ext y13; replace r1 := r1.ext y13; replace k1 := cell_ext k1 y13; replace o3 := o3.ext y13; replace o4 := o4.ext y13; replace o5 := o5.ext y13; replace k31 := cell_ext k31 y13; replace o6 := o6.ext y13; clear y13)
      | (go_at_call 25; have C := eqName_c o5.rd o8.rd; (with_reducible refine C.mono ?_); clear C; rintro e W14 ⟨_, rfl, rfl, y14⟩; have q14 := y14.size; replace X := ext_trans X y14; replace r0 := r0.ext y14; replace r1 := r1.ext y14; replace k1 := cell_ext k1 y14; replace o3 := o3.ext y14; replace o4 := o4.ext y14; replace o5 := o5.ext y14; replace k31 := cell_ext k31 y14; replace o6 := o6.ext y14; replace o8 := o8.ext y14; clear y14))
  clear o8
  go_wp2_with fail
  refine (markTableEntryS_c o4 (k0 := 1) (by omega) (by omega) (by omega)).mono ?_
  clear o4
  rintro e W15 ⟨rfl, o4, y15⟩
  have q15 := y15.size
  replace X := y15.ext X (by omega)
  replace r0 := r0.mut y15 (by omega)
  replace r1 := r1.mut y15 (by omega)
  replace k1 := cell_mut k1 y15 (by simp only; omega)
  replace o3 := o3.mut y15 (by omega)
  replace o5 := o5.mut y15 (by omega)
  replace k31 := cell_mut k31 y15 (by simp only; omega)
  replace o6 := o6.mut y15 (by omega)
  clear y15
  go_wp2_with fail
  refine (markName_c o5 (k0 := (kP 1 x0 n0)) (by omega) (by omega) (by omega)).mono ?_
  clear o5
  rintro e W16 ⟨rfl, o5, y16⟩
  have q16 := y16.size
  replace X := y16.ext X (by omega)
  replace r0 := r0.mut y16 (by omega)
  replace r1 := r1.mut y16 (by omega)
  replace k1 := cell_mut k1 y16 (by simp only; omega)
  replace o3 := o3.mut y16 (by omega)
  replace o4 := o4.mut y16 (by omega)
  replace k31 := cell_mut k31 y16 (by simp only; omega)
  replace o6 := o6.mut y16 (by omega)
  clear y16
  go_wp2_with fail
  refine (eqTableEntryS_c o6.rd o3.rd).mono ?_
  rintro e W17 ⟨_, rfl, rfl, y17⟩
  have q17 := y17.size
  replace X := ext_trans X y17
  replace r0 := r0.ext y17
  replace r1 := r1.ext y17
  replace k1 := cell_ext k1 y17
  replace o3 := o3.ext y17
  replace o4 := o4.ext y17
  replace o5 := o5.ext y17
  replace k31 := cell_ext k31 y17
  replace o6 := o6.ext y17
  clear y17
  go_wp2_with fail
  refine (markTableEntryS_c o6 (k0 := 1) (by omega) (by omega) (by omega)).mono ?_
  clear o6
  rintro e W18 ⟨rfl, o6, y18⟩
  have q18 := y18.size
  replace X := y18.ext X (by omega)
  replace r0 := r0.mut y18 (by omega)
  replace r1 := r1.mut y18 (by omega)
  replace k1 := cell_mut k1 y18 (by simp only; omega)
  replace o3 := o3.mut y18 (by omega)
  replace o4 := o4.mut y18 (by omega)
  replace o5 := o5.mut y18 (by omega)
  replace k31 := cell_mut k31 y18 (by simp only; omega)
  clear y18
  go_wp2_with fail
  refine (heldTableEntryS_c o6.rd (k0 := 1) (by omega) (by omega) (by omega)).mono ?_
  rintro e W19 ⟨_, rfl, rfl, y19⟩
  have q19 := y19.size
  replace X := ext_trans X y19
  replace r0 := r0.ext y19
  replace r1 := r1.ext y19
  replace k1 := cell_ext k1 y19
  replace o3 := o3.ext y19
  replace o4 := o4.ext y19
  replace o5 := o5.ext y19
  replace k31 := cell_ext k31 y19
  replace o6 := o6.ext y19
  clear y19
  go_wp2_with fail
  have y19 := Below.drew (ext_refl W19)
  have qd19 := y19.size
  replace X := ext_trans X y19
  replace r0 := r0.ext y19
  replace r1 := r1.ext y19
  replace k1 := cell_ext k1 y19
  replace o3 := o3.ext y19
  replace o4 := o4.ext y19
  replace o5 := o5.ext y19
  replace k31 := cell_ext k31 y19
  replace o6 := o6.ext y19
  clear y19
  go_region_held3 (fun w' => w'.cell? ⟨w.heap.size, 0, none⟩ = some s1)
    (first | exact k1)
    (first
      | (go_at_call 40; have C := toTableEntryS_c r0 (by omega) (by omega); (with_reducible refine C.mono ?_); clear C; rintro e W20 ⟨u9, rfl, o9, y20⟩; have q20 := y20.size; replace X := ext_trans X y20; replace r0 := r0.ext y20; replace r1 := r1.ext y20; replace k1 := cell_ext k1 y20; replace o3 := o3.ext y20; replace o4 := o4.ext y20; replace o5 := o5.ext y20; replace k31 := cell_ext k31 y20; replace o6 := o6.ext y20; clear y20)
      | (go_at_call 22; have C := toName_c r1 (by omega); (with_reducible refine C.mono ?_); clear C; rintro e W21 ⟨u10, rfl, o10, y21⟩; have q21 := y21.size; replace X := ext_trans X y21; replace r0 := r0.ext y21; replace r1 := r1.ext y21; replace k1 := cell_ext k1 y21; replace o3 := o3.ext y21; replace o4 := o4.ext y21; replace o5 := o5.ext y21; replace k31 := cell_ext k31 y21; replace o6 := o6.ext y21; replace o9 := o9.ext y21; clear y21)
      | (go_at_call 41; have C := implPutEntry_c (z := a2) o9.rd o10.rd (by omega) (by omega) (by omega) w0 w1 (by omega) (by omega); (with_reducible refine C.mono ?_); clear C; rintro e W22 ⟨_, rfl, ⟨u11, rfl, o11⟩, y22⟩; have q22 := y22.size; replace X := ext_trans X y22; replace r0 := r0.ext y22; replace r1 := r1.ext y22; replace k1 := cell_ext k1 y22; replace o3 := o3.ext y22; replace o4 := o4.ext y22; replace o5 := o5.ext y22; replace k31 := cell_ext k31 y22; replace o6 := o6.ext y22; replace o9 := o9.ext y22; replace o10 := o10.ext y22; clear y22))
  go_wp2_with fail
  refine (eqTableEntryS_c o11.rd o3.rd).mono ?_
  rintro e W23 ⟨_, rfl, rfl, y23⟩
  have q23 := y23.size
  replace X := ext_trans X y23
  replace r0 := r0.ext y23
  replace r1 := r1.ext y23
  replace k1 := cell_ext k1 y23
  replace o3 := o3.ext y23
  replace o4 := o4.ext y23
  replace o5 := o5.ext y23
  replace k31 := cell_ext k31 y23
  replace o6 := o6.ext y23
  replace o9 := o9.ext y23
  replace o10 := o10.ext y23
  replace o11 := o11.ext y23
  clear y23
  go_wp2_with fail
  refine (heldTableEntryS_c o6.rd (k0 := 1) (by omega) (by omega) (by omega)).mono ?_
  rintro e W24 ⟨_, rfl, rfl, y24⟩
  have q24 := y24.size
  replace X := ext_trans X y24
  replace r0 := r0.ext y24
  replace r1 := r1.ext y24
  replace k1 := cell_ext k1 y24
  replace o3 := o3.ext y24
  replace o4 := o4.ext y24
  replace o5 := o5.ext y24
  replace k31 := cell_ext k31 y24
  replace o6 := o6.ext y24
  replace o9 := o9.ext y24
  replace o10 := o10.ext y24
  replace o11 := o11.ext y24
  clear y24
  go_wp2_with fail
  go_ret
  exact ⟨rfl, X⟩
set_option maxRecDepth 100000 in
theorem lifted (os : Os) (started : os.Started) (H : Type) (enc : TypeId × Value → H) :
    ReturnsInHanded {} Try.checked os 7 .any (Rows.fnExactPutEntrySpec.pre6 enc Try.prog Try.f7 Rows.fnExactPutEntryRow.domain false) (Rows.fnExactPutEntrySpec.post enc Try.prog Try.f7 false true false false) := by
  refine returnsInHanded_of_change (C := Try.checked) own started (by kernel_rfl) Try.func7
    (ChangeSpec.witness6 (enc := enc) (C := Try.checked) false ⟨#[], #[.slice none 0 0, .agg #[.slice none 0 0], .int .i64 0], []⟩ 8 (by kernel_rfl) (by kernel_rfl) (by kernel_rfl) (by kernel_rfl)) ?_
  intro W base args ds gs before hval0 hW hcnd _
  have hval : ∀ (j : Nat) t v, Try.f7.params[j]? = some t → args[j]? = some v → Value.okWide Try.prog W .any base t v := hval0
  have hW' := hW
  obtain ⟨p, q, hA0, hV, rfl, hfz, hnd⟩ := hW
  have hA : DataW.TrodAll enc Try.prog W 0 (fun _ => true) true Try.f7.params.toList args.toList ds p := hA0
  rw [Try.params7] at hA hval
  obtain ⟨v0, vs0, d0, ds0, p0, q0, hargs, rfl, rfl, h0, tr0⟩ := trodAll_cons hA
  obtain ⟨v1, vs1, d1, ds1, p1, q1, rfl, rfl, rfl, h1, tr1⟩ := trodAll_cons tr0
  obtain ⟨v2, vs2, d2, ds2, p2, q2, rfl, rfl, rfl, h2, tr2⟩ := trodAll_cons tr1
  obtain ⟨rfl, rfl, rfl⟩ := trodAll_nil tr2
  obtain rfl : args = #[v0, v1, v2] := by cases args; simp_all
  obtain ⟨rfl, rfl⟩ := trodVars_none hV
  have k0 := h0
  have lt0 : ∀ x ∈ p0, x.block < W.heap.size := by obtain ⟨m, hm⟩ := k0; exact DataW.trod_lt m _ _ _ hm
  obtain ⟨n0, x0, r0, w0, g0⟩ := rd_tab Try.underlying59 Try.underlying106 (by kernel_rfl) (by kernel_rfl) Try.underlying37 (by kernel_rfl) Try.underlying24 Try.underlying9 (by kernel_rfl) Try.underlying3 (hval 0 59 v0 rfl rfl) h0
  have k1 := h1
  have lt1 : ∀ x ∈ p1, x.block < W.heap.size := by obtain ⟨m, hm⟩ := k1; exact DataW.trod_lt m _ _ _ hm
  obtain ⟨x1, r1, w1⟩ := rd_name Try.underlying37 (by kernel_rfl) (by kernel_rfl) Try.underlying24 Try.underlying9 (by kernel_rfl) (hval 1 37 v1 rfl rfl) h1
  obtain ⟨a2, rfl, rfl, rfl, w2⟩ := open_int Try.underlying3 (hval 2 3 v2 rfl rfl) h2
  clear hA0 hval0
  try simp only [List.append_nil] at hW'
  refine (walk W v0 n0 x0 r0 w0 g0 v1 x1 r1 w1 a2 w2).mono fun e W' ⟨he, bel⟩ => ?_
  subst he
  exact ⟨_, rfl, _, _, _, [], _, [], hW', trodAll_mk1 (shut_bool Try.underlying4 _), (trodAll_cons_mk (Below.trod laidOut (by kernel_rfl) (of_decide_eq_true (by kernel_rfl)) k0 bel lt0) (trodAll_cons_mk (Below.trod laidOut (by kernel_rfl) (of_decide_eq_true (by kernel_rfl)) k1 bel lt1) (trodAll_cons_mk (shut_int Try.underlying3 w2) trodAll_mk0))), rfl, bel.frame _, fun h => by cases h⟩

theorem closed : joinedFacts Try.pinned.checked.prog 7 Try.f7 Rows.fnExactPutEntrySpec Rows.fnExactPutEntryRow = true := by
  unfold joinedFacts
  rw [show Try.pinned.checked.prog.mayEnter = true from joined1, show (Rows.fnExactPutEntryRow.lifted == Try.pinned.checked.prog.liftsFinal) = true from joined2, show (Try.pinned.checked.prog.make == some Rows.fnExactPutEntryRow.make) = true from joined3]
  kernel_rfl
theorem over : Rows.fnExactPutEntryRow.holds Try.pinned (OpenSpec.ofChange Rows.fnExactPutEntrySpec) :=
  OpenClaim.holds_of_wide 7 Try.f7 rfl rfl rfl rfl rfl rfl rfl ⟨rfl, rfl, rfl, rfl, rfl⟩ rfl rfl rfl rfl rfl (by kernel_rfl) Try.func7 closed
    (of_decide_eq_true (by kernel_rfl)) (by unfold Func.isWrapper; first | (rw [if_pos (by decide +kernel)]; kernel_rfl) | (rw [if_neg (by decide +kernel)]; exact ⟨rfl, rfl⟩))
    (fun os started H enc _ => lifted os started H enc)
/-- The statement. -/
theorem proved : Rows.FnExactPutEntrySaid := over
end fnExactPutEntry
end Go.Proofs.Ytcagbdidjakcpaa
