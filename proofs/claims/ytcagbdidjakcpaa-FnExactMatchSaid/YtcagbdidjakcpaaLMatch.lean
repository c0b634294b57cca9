/- FnExactMatch holds: impl.Match and spec.Match agree at every pattern, name and slice of bindings, and what is made is new memory. No condition. -/
import Derived.Test.YtcagbdidjakcpaaFrame
import Derived.Test.YtcagbdidjakcpaaFrameN
import Derived.Test.YtcagbdidjakcpaaFrameB
import Derived.Test.YtcagbdidjakcpaaBindM
import Derived.Test.YtcagbdidjakcpaaMm
import Derived.Test.YtcagbdidjakcpaaJoined
import Derived.Deep.RegionHeld3
set_option linter.unusedVariables false
namespace Go.Proofs.Ytcagbdidjakcpaa
set_option maxHeartbeats 1000000
namespace fnExactMatch
open Go.ChangeShapes Go.WideShapes Go.ChangeAt Go.RowKit
open Go.ChangeMaps (open_string shut_string)
/-- The call returns true and leaves all that was there unturned. -/
theorem walk (w : World) (v0 : Value) (x0 : List ByteArray) (r0 : RdN w 0 w.heap.size v0 x0.length (x0.map sv)) (w0 : ∀ s ∈ x0, s.size ≤ 9223372036854775807) (v1 : Value) (x1 : List ByteArray) (r1 : RdN w 0 w.heap.size v1 x1.length (x1.map sv)) (w1 : ∀ s ∈ x1, s.size ≤ 9223372036854775807) (v2 : Value) (n2 : Nat) (x2 : List ByteArray) (r2 : Rd w 0 w.heap.size 2 v2 n2 (x2.map sv)) (w2 : ∀ s ∈ x2, s.size ≤ 9223372036854775807) :
    Calls Try.prog 6 #[v0, v1, v2] w fun e w' => e = .returned (.bool true) ∧ Below w.heap.size w w' := by
  obtain ⟨s0, e0, _⟩ := id r0
  subst e0
  have l0 := wt_len x0
  obtain ⟨s1, e1, _⟩ := id r1
  subst e1
  have l1 := wt_len x1
  have X : Below w.heap.size w ((w.alloc (.cells #[s0] 36)).alloc (.cells #[s1] 37)) := (ext_alloc (ext_alloc (ext_refl w) (.cells #[s0] 36)) (.cells #[s1] 37))
  have qw : ((w.alloc (.cells #[s0] 36)).alloc (.cells #[s1] 37)).heap.size = w.heap.size + 2 := by simp
  have k0 : ((w.alloc (.cells #[s0] 36)).alloc (.cells #[s1] 37)).cell? ⟨w.heap.size, 0, none⟩ = some s0 := by simp
  have k1 : ((w.alloc (.cells #[s0] 36)).alloc (.cells #[s1] 37)).cell? ⟨w.heap.size + 1, 0, none⟩ = some s1 := by simp
  replace r0 := r0.ext X
  replace r1 := r1.ext X
  replace r2 := r2.ext X
  have l2 := bw_len n2 x2
  have e2 : x2.length = n2 * 2 := by have := r2.1; rwa [List.length_map] at this
  have hl := mR_len x0 x1 x2
  go_enter Try.func6, Try.ntmps6
  skip
  go_wp2_with fail
  refine (szPattern_c r0 w0 (by omega) (by omega)).mono ?_
  rintro e W1 ⟨_, rfl, rfl, y1⟩
  have q1 := y1.size
  replace X := ext_trans X y1
  replace r0 := r0.ext y1
  replace r1 := r1.ext y1
  replace r2 := r2.ext y1
  replace k0 := cell_ext k0 y1
  replace k1 := cell_ext k1 y1
  clear y1
  by_cases h0 : ¬ ((wt x0 : Nat) : Int) ≤ 1048576
  · rw [szS_no h0]
    go_wp2
    go_ret
    exact ⟨rfl, X⟩
  rw [szS_ok (show ((wt x0 : Nat) : Int) ≤ 1048576 by omega)]
  go_wp2_with fail
  refine (szName_c r1 w1 (by omega) (by omega)).mono ?_
  rintro e W2 ⟨_, rfl, rfl, y2⟩
  have q2 := y2.size
  replace X := ext_trans X y2
  replace r0 := r0.ext y2
  replace r1 := r1.ext y2
  replace r2 := r2.ext y2
  replace k0 := cell_ext k0 y2
  replace k1 := cell_ext k1 y2
  clear y2
  by_cases h1 : ¬ ((wt x1 : Nat) : Int) ≤ 1048576 - ((wt x0 : Nat) : Int)
  · rw [szS_no h1]
    go_wp2
    go_ret
    exact ⟨rfl, X⟩
  rw [szS_ok (show ((wt x1 : Nat) : Int) ≤ 1048576 - ((wt x0 : Nat) : Int) by omega)]
  go_wp2_with fail
  refine (szBindingS_c r2 w2 (by omega) (by omega)).mono ?_
  rintro e W3 ⟨_, rfl, rfl, y3⟩
  have q3 := y3.size
  replace X := ext_trans X y3
  replace r0 := r0.ext y3
  replace r1 := r1.ext y3
  replace r2 := r2.ext y3
  replace k0 := cell_ext k0 y3
  replace k1 := cell_ext k1 y3
  clear y3
  by_cases h2 : ¬ ((bw n2 x2 : Nat) : Int) ≤ 1048576 - ((wt x0 : Nat) : Int) - ((wt x1 : Nat) : Int)
  · rw [szS_no h2]
    go_wp2
    go_ret
    exact ⟨rfl, X⟩
  rw [szS_ok (show ((bw n2 x2 : Nat) : Int) ≤ 1048576 - ((wt x0 : Nat) : Int) - ((wt x1 : Nat) : Int) by omega)]
  go_wp2_with fail
  have y3 := Below.drew (ext_refl W3)
  have qd3 := y3.size
  replace X := ext_trans X y3
  replace r0 := r0.ext y3
  replace r1 := r1.ext y3
  replace r2 := r2.ext y3
  replace k0 := cell_ext k0 y3
  replace k1 := cell_ext k1 y3
  clear y3
  go_region_held3 (fun w' => w'.cell? ⟨w.heap.size, 0, none⟩ = some s0 ∧ w'.cell? ⟨w.heap.size + 1, 0, none⟩ = some s1)
    (first | exact ⟨k0, k1⟩)
    (first
      | (go_at_call 21; have C := toPattern_c r0 (by omega); (with_reducible refine C.mono ?_); clear C; rintro e W4 ⟨u1, rfl, o1, y4⟩; have q4 := y4.size; replace X := ext_trans X y4; replace r0 := r0.ext y4; replace r1 := r1.ext y4; replace r2 := r2.ext y4; replace k0 := cell_ext k0 y4; replace k1 := cell_ext k1 y4; clear y4)
      | (go_at_call 22; have C := toName_c r1 (by omega); (with_reducible refine C.mono ?_); clear C; rintro e W5 ⟨u2, rfl, o2, y5⟩; have q5 := y5.size; replace X := ext_trans X y5; replace r0 := r0.ext y5; replace r1 := r1.ext y5; replace r2 := r2.ext y5; replace k0 := cell_ext k0 y5; replace k1 := cell_ext k1 y5; replace o1 := o1.ext y5; clear y5)
      | (go_at_call 28; have C := toBindingS_c r2 (by omega); (with_reducible refine C.mono ?_); clear C; rintro e W6 ⟨u3, rfl, o3, y6⟩; have q6 := y6.size; replace X := ext_trans X y6; replace r0 := r0.ext y6; replace r1 := r1.ext y6; replace r2 := r2.ext y6; replace k0 := cell_ext k0 y6; replace k1 := cell_ext k1 y6; replace o1 := o1.ext y6; replace o2 := o2.ext y6; clear y6)
      | (go_at_call 35; have C := specMatch_c o1.rd o2.rd o3.rd w0 w1 (by omega) (by omega); (with_reducible refine C.mono ?_); clear C; rintro e W7 ⟨_, rfl, ⟨u4, mu4, rfl, o4⟩, y7⟩; have q7 := y7.size; replace X := ext_trans X y7; replace r0 := r0.ext y7; replace r1 := r1.ext y7; replace r2 := r2.ext y7; replace k0 := cell_ext k0 y7; replace k1 := cell_ext k1 y7; replace o1 := o1.ext y7; replace o2 := o2.ext y7; replace o3 := o3.ext y7; clear y7))
  clear o1 o2 o3
  go_wp2_with fail
  refine (toPattern_c r0 (by omega)).mono ?_
  rintro e W8 ⟨u5, rfl, o5, y8⟩
  have q8 := y8.size
  replace X := ext_trans X y8
  replace r0 := r0.ext y8
  replace r1 := r1.ext y8
  replace r2 := r2.ext y8
  replace k0 := cell_ext k0 y8
  replace k1 := cell_ext k1 y8
  replace o4 := o4.ext y8
  clear y8
  obtain ⟨z9, rfl, g9⟩ := id o5
  obtain ⟨a9', c9', rfl, _⟩ := g9.rd.form
  clear g9
  have y9 := ext_alloc (ext_refl W8) (.cells #[.slice a9' (x0.length) c9'] 41)
  have q9 := y9.size
  have p9 : W8.heap.size + 1 = (W8.alloc (.cells #[.slice a9' (x0.length) c9'] 41)).heap.size := by simp
  have k30 : (W8.alloc (.cells #[.slice a9' (x0.length) c9'] 41)).cell? ⟨W8.heap.size, 0, none⟩ = some (.slice a9' (x0.length) c9') := by simp
  replace X := ext_trans X y9
  replace r0 := r0.ext y9
  replace r1 := r1.ext y9
  replace r2 := r2.ext y9
  replace k0 := cell_ext k0 y9
  replace k1 := cell_ext k1 y9
  replace o4 := o4.ext y9
  replace o5 := o5.ext y9
  clear y9
  go_wp2_with fail
  generalize W8.alloc (.cells #[.slice a9' (x0.length) c9'] 41) = W9 at *
  go_wp2_with fail
  refine (toName_c r1 (by omega)).mono ?_
  rintro e W10 ⟨u6, rfl, o6, y10⟩
  have q10 := y10.size
  replace X := ext_trans X y10
  replace r0 := r0.ext y10
  replace r1 := r1.ext y10
  replace r2 := r2.ext y10
  replace k0 := cell_ext k0 y10
  replace k1 := cell_ext k1 y10
  replace o4 := o4.ext y10
  replace o5 := o5.ext y10
  replace k30 := cell_ext k30 y10
  clear y10
  obtain ⟨z11, rfl, g11⟩ := id o6
  obtain ⟨a11', c11', rfl, _⟩ := g11.rd.form
  clear g11
  have y11 := ext_alloc (ext_refl W10) (.cells #[.slice a11' (x1.length) c11'] 26)
  have q11 := y11.size
  have p11 : W10.heap.size + 1 = (W10.alloc (.cells #[.slice a11' (x1.length) c11'] 26)).heap.size := by simp
  have k31 : (W10.alloc (.cells #[.slice a11' (x1.length) c11'] 26)).cell? ⟨W10.heap.size, 0, none⟩ = some (.slice a11' (x1.length) c11') := by simp
  replace X := ext_trans X y11
  replace r0 := r0.ext y11
  replace r1 := r1.ext y11
  replace r2 := r2.ext y11
  replace k0 := cell_ext k0 y11
  replace k1 := cell_ext k1 y11
  replace o4 := o4.ext y11
  replace o5 := o5.ext y11
  replace k30 := cell_ext k30 y11
  replace o6 := o6.ext y11
  clear y11
  go_wp2_with fail
  generalize W10.alloc (.cells #[.slice a11' (x1.length) c11'] 26) = W11 at *
  go_wp2_with fail
  refine (toBindingS_c r2 (by omega)).mono ?_
  rintro e W12 ⟨u7, rfl, o7, y12⟩
  have q12 := y12.size
  replace X := ext_trans X y12
  replace r0 := r0.ext y12
  replace r1 := r1.ext y12
  replace r2 := r2.ext y12
  replace k0 := cell_ext k0 y12
  replace k1 := cell_ext k1 y12
  replace o4 := o4.ext y12
  replace o5 := o5.ext y12
  replace k30 := cell_ext k30 y12
  replace o6 := o6.ext y12
  replace k31 := cell_ext k31 y12
  clear y12
  go_wp2_with fail
  refine (implMatch_c o5.rd o6.rd o7.rd w0 w1 (by omega) (by omega)).mono ?_
  rintro e W13 ⟨_, rfl, ⟨u8, mu8, rfl, o8⟩, y13⟩
  have q13 := y13.size
  replace X := ext_trans X y13
  replace r0 := r0.ext y13
  replace r1 := r1.ext y13
  replace r2 := r2.ext y13
  replace k0 := cell_ext k0 y13
  replace k1 := cell_ext k1 y13
  replace o4 := o4.ext y13
  replace o5 := o5.ext y13
  replace k30 := cell_ext k30 y13
  replace o6 := o6.ext y13
  replace k31 := cell_ext k31 y13
  replace o7 := o7.ext y13
  clear y13
  have hb8 : mu8 ≤ 50000000000 := by have := o8.1; rw [List.length_map] at this; omega
  go_wp2_with fail
  refine (eqBindingS_c o8.rd o4.rd).mono ?_
  rintro e W14 ⟨_, rfl, rfl, y14⟩
  have q14 := y14.size
  replace X := ext_trans X y14
  replace r0 := r0.ext y14
  replace r1 := r1.ext y14
  replace r2 := r2.ext y14
  replace k0 := cell_ext k0 y14
  replace k1 := cell_ext k1 y14
  replace o4 := o4.ext y14
  replace o5 := o5.ext y14
  replace k30 := cell_ext k30 y14
  replace o6 := o6.ext y14
  replace k31 := cell_ext k31 y14
  replace o7 := o7.ext y14
  replace o8 := o8.ext y14
  clear y14
  go_wp2_with fail
  have y14 := Below.drew (ext_refl W14)
  have qd14 := y14.size
  replace X := ext_trans X y14
  replace r0 := r0.ext y14
  replace r1 := r1.ext y14
  replace r2 := r2.ext y14
  replace k0 := cell_ext k0 y14
  replace k1 := cell_ext k1 y14
  replace o4 := o4.ext y14
  replace o5 := o5.ext y14
  replace k30 := cell_ext k30 y14
  replace o6 := o6.ext y14
  replace k31 := cell_ext k31 y14
  replace o7 := o7.ext y14
  replace o8 := o8.ext y14
  clear y14
  go_region_held3 (fun w' => w'.cell? ⟨W8.heap.size, 0, none⟩ = some (.slice a9' (x0.length) c9') ∧ w'.cell? ⟨w.heap.size, 0, none⟩ = some s0)
    (first | exact ⟨k30, k0⟩)
    (first
      | (go_at_call 21; have C := toPattern_c r0 (by omega); (with_reducible refine C.mono ?_); clear C; rintro e W15 ⟨u9, rfl, o9, y15⟩; have q15 := y15.size; replace X := ext_trans X y15; replace r0 := r0.ext y15; replace r1 := r1.ext y15; replace r2 := r2.ext y15; replace k0 := cell_ext k0 y15; replace k1 := cell_ext k1 y15; replace o4 := o4.ext y15; replace o5 := o5.ext y15; replace k30 := cell_ext k30 y15; replace o6 := o6.ext y15; replace k31 := cell_ext k31 y15; replace o7 := o7.ext y15; replace o8 := o8.ext y15; clear y15)
      | (go_at_call 24; have C := eqPattern_c o5.rd o9.rd; (with_reducible refine C.mono ?_); clear C; rintro e W16 ⟨_, rfl, rfl, y16⟩; have q16 := y16.size; replace X := ext_trans X y16; replace r0 := r0.ext y16; replace r1 := r1.ext y16; replace r2 := r2.ext y16; replace k0 := cell_ext k0 y16; replace k1 := cell_ext k1 y16; replace o4 := o4.ext y16; replace o5 := o5.ext y16; replace k30 := cell_ext k30 y16; replace o6 := o6.ext y16; replace k31 := cell_ext k31 y16; replace o7 := o7.ext y16; replace o8 := o8.ext y16; replace o9 := o9.ext y16; clear y16))
  clear o9
  go_wp2_with fail
  have y16 := Below.drew (ext_refl W16)
  have qd16 := y16.size
  replace X := ext_trans X y16
  replace r0 := r0.ext y16
  replace r1 := r1.ext y16
  replace r2 := r2.ext y16
  replace k0 := cell_ext k0 y16
  replace k1 := cell_ext k1 y16
  replace o4 := o4.ext y16
  replace o5 := o5.ext y16
  replace k30 := cell_ext k30 y16
  replace o6 := o6.ext y16
  replace k31 := cell_ext k31 y16
  replace o7 := o7.ext y16
  replace o8 := o8.ext y16
  clear y16
  go_region_held3 (fun w' => w'.cell? ⟨W10.heap.size, 0, none⟩ = some (.slice a11' (x1.length) c11') ∧ w'.cell? ⟨w.heap.size + 1, 0, none⟩ = some s1)
    (first | exact ⟨k31, k1⟩)
    (first
      | (go_at_call 22; have C := toName_c r1 (by omega); (with_reducible refine C.mono ?_); clear C; rintro e W17 ⟨u10, rfl, o10, y17⟩; have q17 := y17.size; replace X := ext_trans X y17; replace r0 := r0.ext y17; replace r1 := r1.ext y17; replace r2 := r2.ext y17; replace k0 := cell_ext k0 y17; replace k1 := cell_ext k1 y17; replace o4 := o4.ext y17; replace o5 := o5.ext y17; replace k30 := cell_ext k30 y17; replace o6 := o6.ext y17; replace k31 := cell_ext k31 y17; replace o7 := o7.ext y17; replace o8 := o8.ext y17; clear y17)
      | (go_at_call 25; have C := eqName_c o6.rd o10.rd; (with_reducible refine C.mono ?_); clear C; rintro e W18 ⟨_, rfl, rfl, y18⟩; have q18 := y18.size; replace X := ext_trans X y18; replace r0 := r0.ext y18; replace r1 := r1.ext y18; replace r2 := r2.ext y18; replace k0 := cell_ext k0 y18; replace k1 := cell_ext k1 y18; replace o4 := o4.ext y18; replace o5 := o5.ext y18; replace k30 := cell_ext k30 y18; replace o6 := o6.ext y18; replace k31 := cell_ext k31 y18; replace o7 := o7.ext y18; replace o8 := o8.ext y18; replace o10 := o10.ext y18; clear y18))
  clear o10
  go_wp2_with fail
  refine (toBindingS_c r2 (by omega)).mono ?_
  rintro e W19 ⟨u11, rfl, o11, y19⟩
  have q19 := y19.size
  replace X := ext_trans X y19
  replace r0 := r0.ext y19
  replace r1 := r1.ext y19
  replace r2 := r2.ext y19
  replace k0 := cell_ext k0 y19
  replace k1 := cell_ext k1 y19
  replace o4 := o4.ext y19
  replace o5 := o5.ext y19
  replace k30 := cell_ext k30 y19
  replace o6 := o6.ext y19
  replace k31 := cell_ext k31 y19
  replace o7 := o7.ext y19
  replace o8 := o8.ext y19
  clear y19
  go_wp2_with fail
  refine (eqBindingS_c o7.rd o11.rd).mono ?_
  rintro e W20 ⟨_, rfl, rfl, y20⟩
  have q20 := y20.size
  replace X := ext_trans X y20
  replace r0 := r0.ext y20
  replace r1 := r1.ext y20
  replace r2 := r2.ext y20
  replace k0 := cell_ext k0 y20
  replace k1 := cell_ext k1 y20
  replace o4 := o4.ext y20
  replace o5 := o5.ext y20
  replace k30 := cell_ext k30 y20
  replace o6 := o6.ext y20
  replace k31 := cell_ext k31 y20
  replace o7 := o7.ext y20
  replace o8 := o8.ext y20
  replace o11 := o11.ext y20
  clear y20
  clear o11
  go_wp2_with fail
  refine (markPattern_c o5 (k0 := 1) (by omega) (by omega) (by omega)).mono ?_
  clear o5
  rintro e W21 ⟨rfl, o5, y21⟩
  have q21 := y21.size
  replace X := y21.ext X (by omega)
  replace r0 := r0.mut y21 (by omega)
  replace r1 := r1.mut y21 (by omega)
  replace r2 := r2.mut y21 (by omega)
  replace k0 := cell_mut k0 y21 (by simp only; omega)
  replace k1 := cell_mut k1 y21 (by simp only; omega)
  replace o4 := o4.mut y21 (by omega)
  replace k30 := cell_mut k30 y21 (by simp only; omega)
  replace o6 := o6.mut y21 (by omega)
  replace k31 := cell_mut k31 y21 (by simp only; omega)
  replace o7 := o7.mut y21 (by omega)
  replace o8 := o8.mut y21 (by omega)
  clear y21
  go_wp2_with fail
  refine (markName_c o6 (k0 := (1 + x0.length)) (by omega) (by omega) (by omega)).mono ?_
  clear o6
  rintro e W22 ⟨rfl, o6, y22⟩
  have q22 := y22.size
  replace X := y22.ext X (by omega)
  replace r0 := r0.mut y22 (by omega)
  replace r1 := r1.mut y22 (by omega)
  replace r2 := r2.mut y22 (by omega)
  replace k0 := cell_mut k0 y22 (by simp only; omega)
  replace k1 := cell_mut k1 y22 (by simp only; omega)
  replace o4 := o4.mut y22 (by omega)
  replace o5 := o5.mut y22 (by omega)
  replace k30 := cell_mut k30 y22 (by simp only; omega)
  replace k31 := cell_mut k31 y22 (by simp only; omega)
  replace o7 := o7.mut y22 (by omega)
  replace o8 := o8.mut y22 (by omega)
  clear y22
  go_wp2_with fail
  refine (markBindingS_c o7 (k0 := ((1 + x0.length) + x1.length)) (by omega) (by omega) (by omega)).mono ?_
  clear o7
  rintro e W23 ⟨rfl, o7, y23⟩
  have q23 := y23.size
  replace X := y23.ext X (by omega)
  replace r0 := r0.mut y23 (by omega)
  replace r1 := r1.mut y23 (by omega)
  replace r2 := r2.mut y23 (by omega)
  replace k0 := cell_mut k0 y23 (by simp only; omega)
  replace k1 := cell_mut k1 y23 (by simp only; omega)
  replace o4 := o4.mut y23 (by omega)
  replace o5 := o5.mut y23 (by omega)
  replace k30 := cell_mut k30 y23 (by simp only; omega)
  replace o6 := o6.mut y23 (by omega)
  replace k31 := cell_mut k31 y23 (by simp only; omega)
  replace o8 := o8.mut y23 (by omega)
  clear y23
  go_wp2_with fail
  refine (eqBindingS_c o8.rd o4.rd).mono ?_
  rintro e W24 ⟨_, rfl, rfl, y24⟩
  have q24 := y24.size
  replace X := ext_trans X y24
  replace r0 := r0.ext y24
  replace r1 := r1.ext y24
  replace r2 := r2.ext y24
  replace k0 := cell_ext k0 y24
  replace k1 := cell_ext k1 y24
  replace o4 := o4.ext y24
  replace o5 := o5.ext y24
  replace k30 := cell_ext k30 y24
  replace o6 := o6.ext y24
  replace k31 := cell_ext k31 y24
  replace o7 := o7.ext y24
  replace o8 := o8.ext y24
  clear y24
  go_wp2_with fail
  refine (markBindingS_c o8 (k0 := 1) (by omega) (by omega) (by omega)).mono ?_
  clear o8
  rintro e W25 ⟨rfl, o8, y25⟩
  have q25 := y25.size
  replace X := y25.ext X (by omega)
  replace r0 := r0.mut y25 (by omega)
  replace r1 := r1.mut y25 (by omega)
  replace r2 := r2.mut y25 (by omega)
  replace k0 := cell_mut k0 y25 (by simp only; omega)
  replace k1 := cell_mut k1 y25 (by simp only; omega)
  replace o4 := o4.mut y25 (by omega)
  replace o5 := o5.mut y25 (by omega)
  replace k30 := cell_mut k30 y25 (by simp only; omega)
  replace o6 := o6.mut y25 (by omega)
  replace k31 := cell_mut k31 y25 (by simp only; omega)
  replace o7 := o7.mut y25 (by omega)
  clear y25
  go_wp2_with fail
  refine (heldBindingS_c o8.rd (k0 := 1) (by omega) (by omega) (by omega)).mono ?_
  rintro e W26 ⟨_, rfl, rfl, y26⟩
  have q26 := y26.size
  replace X := ext_trans X y26
  replace r0 := r0.ext y26
  replace r1 := r1.ext y26
  replace r2 := r2.ext y26
  replace k0 := cell_ext k0 y26
  replace k1 := cell_ext k1 y26
  replace o4 := o4.ext y26
  replace o5 := o5.ext y26
  replace k30 := cell_ext k30 y26
  replace o6 := o6.ext y26
  replace k31 := cell_ext k31 y26
  replace o7 := o7.ext y26
  replace o8 := o8.ext y26
  clear y26
  go_wp2_with fail
  have y26 := Below.drew (ext_refl W26)
  have qd26 := y26.size
  replace X := ext_trans X y26
  replace r0 := r0.ext y26
  replace r1 := r1.ext y26
  replace r2 := r2.ext y26
  replace k0 := cell_ext k0 y26
  replace k1 := cell_ext k1 y26
  replace o4 := o4.ext y26
  replace o5 := o5.ext y26
  replace k30 := cell_ext k30 y26
  replace o6 := o6.ext y26
  replace k31 := cell_ext k31 y26
  replace o7 := o7.ext y26
  replace o8 := o8.ext y26
  clear y26
  go_region_held3 (fun w' => w'.cell? ⟨w.heap.size, 0, none⟩ = some s0 ∧ w'.cell? ⟨w.heap.size + 1, 0, none⟩ = some s1)
    (first | exact ⟨k0, k1⟩)
    (first
      | (go_at_call 21; have C := toPattern_c r0 (by omega); (with_reducible refine C.mono ?_); clear C; rintro e W27 ⟨u12, rfl, o12, y27⟩; have q27 := y27.size; replace X := ext_trans X y27; replace r0 := r0.ext y27; replace r1 := r1.ext y27; replace r2 := r2.ext y27; replace k0 := cell_ext k0 y27; replace k1 := cell_ext k1 y27; replace o4 := o4.ext y27; replace o5 := o5.ext y27; replace k30 := cell_ext k30 y27; replace o6 := o6.ext y27; replace k31 := cell_ext k31 y27; replace o7 := o7.ext y27; replace o8 := o8.ext y27; clear y27)
      | (go_at_call 22; have C := toName_c r1 (by omega); (with_reducible refine C.mono ?_); clear C; rintro e W28 ⟨u13, rfl, o13, y28⟩; have q28 := y28.size; replace X := ext_trans X y28; replace r0 := r0.ext y28; replace r1 := r1.ext y28; replace r2 := r2.ext y28; replace k0 := cell_ext k0 y28; replace k1 := cell_ext k1 y28; replace o4 := o4.ext y28; replace o5 := o5.ext y28; replace k30 := cell_ext k30 y28; replace o6 := o6.ext y28; replace k31 := cell_ext k31 y28; replace o7 := o7.ext y28; replace o8 := o8.ext y28; replace o12 := o12.ext y28; clear y28)
      | (go_at_call 28; have C := toBindingS_c r2 (by omega); (with_reducible refine C.mono ?_); clear C; rintro e W29 ⟨u14, rfl, o14, y29⟩; have q29 := y29.size; replace X := ext_trans X y29; replace r0 := r0.ext y29; replace r1 := r1.ext y29; replace r2 := r2.ext y29; replace k0 := cell_ext k0 y29; replace k1 := cell_ext k1 y29; replace o4 := o4.ext y29; replace o5 := o5.ext y29; replace k30 := cell_ext k30 y29; replace o6 := o6.ext y29; replace k31 := cell_ext k31 y29; replace o7 := o7.ext y29; replace o8 := o8.ext y29; replace o12 := o12.ext y29; replace o13 := o13.ext y29; clear y29)
      | (go_at_call 36; have C := implMatch_c o12.rd o13.rd o14.rd w0 w1 (by omega) (by omega); (with_reducible refine C.mono ?_); clear C; rintro e W30 ⟨_, rfl, ⟨u15, mu15, rfl, o15⟩, y30⟩; have q30 := y30.size; replace X := ext_trans X y30; replace r0 := r0.ext y30; replace r1 := r1.ext y30; replace r2 := r2.ext y30; replace k0 := cell_ext k0 y30; replace k1 := cell_ext k1 y30; replace o4 := o4.ext y30; replace o5 := o5.ext y30; replace k30 := cell_ext k30 y30; replace o6 := o6.ext y30; replace k31 := cell_ext k31 y30; replace o7 := o7.ext y30; replace o8 := o8.ext y30; replace o12 := o12.ext y30; replace o13 := o13.ext y30; replace o14 := o14.ext y30; clear y30))
  go_wp2_with fail
  refine (eqBindingS_c o15.rd o4.rd).mono ?_
  rintro e W31 ⟨_, rfl, rfl, y31⟩
  have q31 := y31.size
  replace X := ext_trans X y31
  replace r0 := r0.ext y31
  replace r1 := r1.ext y31
  replace r2 := r2.ext y31
  replace k0 := cell_ext k0 y31
  replace k1 := cell_ext k1 y31
  replace o4 := o4.ext y31
  replace o5 := o5.ext y31
  replace k30 := cell_ext k30 y31
  replace o6 := o6.ext y31
  replace k31 := cell_ext k31 y31
  replace o7 := o7.ext y31
  replace o8 := o8.ext y31
  replace o12 := o12.ext y31
  replace o13 := o13.ext y31
  replace o14 := o14.ext y31
  replace o15 := o15.ext y31
  clear y31
  go_wp2_with fail
  refine (heldBindingS_c o8.rd (k0 := 1) (by omega) (by omega) (by omega)).mono ?_
  rintro e W32 ⟨_, rfl, rfl, y32⟩
  have q32 := y32.size
  replace X := ext_trans X y32
  replace r0 := r0.ext y32
  replace r1 := r1.ext y32
  replace r2 := r2.ext y32
  replace k0 := cell_ext k0 y32
  replace k1 := cell_ext k1 y32
  replace o4 := o4.ext y32
  replace o5 := o5.ext y32
  replace k30 := cell_ext k30 y32
  replace o6 := o6.ext y32
  replace k31 := cell_ext k31 y32
  replace o7 := o7.ext y32
  replace o8 := o8.ext y32
  replace o12 := o12.ext y32
  replace o13 := o13.ext y32
  replace o14 := o14.ext y32
  replace o15 := o15.ext y32
  clear y32
  go_wp2_with fail
  go_ret
  exact ⟨rfl, X⟩
set_option maxRecDepth 100000 in
theorem lifted (os : Os) (started : os.Started) (H : Type) (enc : TypeId × Value → H) :
    ReturnsInHanded {} Try.checked os 6 .any (Rows.fnExactMatchSpec.pre6 enc Try.prog Try.f6 Rows.fnExactMatchRow.domain false) (Rows.fnExactMatchSpec.post enc Try.prog Try.f6 false true false false) := by
  refine returnsInHanded_of_change (C := Try.checked) own started (by kernel_rfl) Try.func6
    (ChangeSpec.witness6 (enc := enc) (C := Try.checked) false ⟨#[], #[.agg #[.slice none 0 0], .agg #[.slice none 0 0], .slice none 0 0], []⟩ 8 (by kernel_rfl) (by kernel_rfl) (by kernel_rfl) (by kernel_rfl)) ?_
  intro W base args ds gs before hval0 hW hcnd _
  have hval : ∀ (j : Nat) t v, Try.f6.params[j]? = some t → args[j]? = some v → Value.okWide Try.prog W .any base t v := hval0
  have hW' := hW
  obtain ⟨p, q, hA0, hV, rfl, hfz, hnd⟩ := hW
  have hA : DataW.TrodAll enc Try.prog W 0 (fun _ => true) true Try.f6.params.toList args.toList ds p := hA0
  rw [Try.params6] at hA hval
  obtain ⟨v0, vs0, d0, ds0, p0, q0, hargs, rfl, rfl, h0, tr0⟩ := trodAll_cons hA
  obtain ⟨v1, vs1, d1, ds1, p1, q1, rfl, rfl, rfl, h1, tr1⟩ := trodAll_cons tr0
  obtain ⟨v2, vs2, d2, ds2, p2, q2, rfl, rfl, rfl, h2, tr2⟩ := trodAll_cons tr1
  obtain ⟨rfl, rfl, rfl⟩ := trodAll_nil tr2
  obtain rfl : args = #[v0, v1, v2] := by cases args; simp_all
  obtain ⟨rfl, rfl⟩ := trodVars_none hV
  have k0 := h0
  have lt0 : ∀ x ∈ p0, x.block < W.heap.size := by obtain ⟨m, hm⟩ := k0; exact DataW.trod_lt m _ _ _ hm
  obtain ⟨x0, r0, w0⟩ := rd_name Try.underlying36 (by kernel_rfl) (by kernel_rfl) Try.underlying24 Try.underlying9 (by kernel_rfl) (hval 0 36 v0 rfl rfl) h0
  have k1 := h1
  have lt1 : ∀ x ∈ p1, x.block < W.heap.size := by obtain ⟨m, hm⟩ := k1; exact DataW.trod_lt m _ _ _ hm
  obtain ⟨x1, r1, w1⟩ := rd_name Try.underlying37 (by kernel_rfl) (by kernel_rfl) Try.underlying24 Try.underlying9 (by kernel_rfl) (hval 1 37 v1 rfl rfl) h1
  have k2 := h2
  have lt2 : ∀ x ∈ p2, x.block < W.heap.size := by obtain ⟨m, hm⟩ := k2; exact DataW.trod_lt m _ _ _ hm
  obtain ⟨n2, x2, r2, w2⟩ := rd_binds Try.underlying46 Try.underlying93 (by kernel_rfl) (by kernel_rfl) Try.underlying9 Try.underlying9 (hval 2 46 v2 rfl rfl) h2
  clear hA0 hval0
  try simp only [List.append_nil] at hW'
  refine (walk W v0 x0 r0 w0 v1 x1 r1 w1 v2 n2 x2 r2 w2).mono fun e W' ⟨he, bel⟩ => ?_
  subst he
  exact ⟨_, rfl, _, _, _, [], _, [], hW', trodAll_mk1 (shut_bool Try.underlying4 _), (trodAll_cons_mk (Below.trod laidOut (by kernel_rfl) (of_decide_eq_true (by kernel_rfl)) k0 bel lt0) (trodAll_cons_mk (Below.trod laidOut (by kernel_rfl) (of_decide_eq_true (by kernel_rfl)) k1 bel lt1) (trodAll_cons_mk (Below.trod laidOut (by kernel_rfl) (of_decide_eq_true (by kernel_rfl)) k2 bel lt2) trodAll_mk0))), rfl, bel.frame _, fun h => by cases h⟩

theorem closed : joinedFacts Try.pinned.checked.prog 6 Try.f6 Rows.fnExactMatchSpec Rows.fnExactMatchRow = true := by
  unfold joinedFacts
  rw [show Try.pinned.checked.prog.mayEnter = true from joined1, show (Rows.fnExactMatchRow.lifted == Try.pinned.checked.prog.liftsFinal) = true from joined2, show (Try.pinned.checked.prog.make == some Rows.fnExactMatchRow.make) = true from joined3]
  kernel_rfl
theorem over : Rows.fnExactMatchRow.holds Try.pinned (OpenSpec.ofChange Rows.fnExactMatchSpec) :=
  OpenClaim.holds_of_wide 6 Try.f6 rfl rfl rfl rfl rfl rfl rfl ⟨rfl, rfl, rfl, rfl, rfl⟩ rfl rfl rfl rfl rfl (by kernel_rfl) Try.func6 closed
    (of_decide_eq_true (by kernel_rfl)) (by unfold Func.isWrapper; first | (rw [if_pos (by decide +kernel)]; kernel_rfl) | (rw [if_neg (by decide +kernel)]; exact ⟨rfl, rfl⟩))
    (fun os started H enc _ => lifted os started H enc)
/-- The statement. -/
theorem proved : Rows.FnExactMatchSaid := over
end fnExactMatch
end Go.Proofs.Ytcagbdidjakcpaa
