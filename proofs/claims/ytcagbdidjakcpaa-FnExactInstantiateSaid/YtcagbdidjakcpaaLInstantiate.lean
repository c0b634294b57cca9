/- FnExactInstantiate holds: impl.Instantiate and spec.Instantiate agree at every pattern and every slice of bindings, and what is made is new memory. No condition. -/
import Derived.Test.YtcagbdidjakcpaaFrame
import Derived.Test.YtcagbdidjakcpaaFrameN
import Derived.Test.YtcagbdidjakcpaaFrameB
import Derived.Test.YtcagbdidjakcpaaBindM
import Derived.Test.YtcagbdidjakcpaaIn
import Derived.Test.YtcagbdidjakcpaaJoined
import Derived.Deep.RegionHeld3
set_option linter.unusedVariables false
namespace Go.Proofs.Ytcagbdidjakcpaa
set_option maxHeartbeats 1000000
namespace fnExactInstantiate
open Go.ChangeShapes Go.WideShapes Go.ChangeAt Go.RowKit
open Go.ChangeMaps (open_string shut_string)
/-- The call returns true and leaves all that was there unturned. -/
theorem walk (w : World) (v0 : Value) (x0 : List ByteArray) (r0 : RdN w 0 w.heap.size v0 x0.length (x0.map sv)) (w0 : ∀ s ∈ x0, s.size ≤ 9223372036854775807) (v1 : Value) (n1 : Nat) (x1 : List ByteArray) (r1 : Rd w 0 w.heap.size 2 v1 n1 (x1.map sv)) (w1 : ∀ s ∈ x1, s.size ≤ 9223372036854775807) :
    Calls Try.prog 5 #[v0, v1] w fun e w' => e = .returned (.bool true) ∧ Below w.heap.size w w' := by
  obtain ⟨s0, e0, _⟩ := id r0
  subst e0
  have l0 := wt_len x0
  have X : Below w.heap.size w (w.alloc (.cells #[s0] 36)) := (ext_alloc (ext_refl w) (.cells #[s0] 36))
  have qw : (w.alloc (.cells #[s0] 36)).heap.size = w.heap.size + 1 := by simp
  have k0 : (w.alloc (.cells #[s0] 36)).cell? ⟨w.heap.size, 0, none⟩ = some s0 := by simp
  replace r0 := r0.ext X
  replace r1 := r1.ext X
  have l1 := bw_len n1 x1
  have e1 : x1.length = n1 * 2 := by have := r1.1; rwa [List.length_map] at this
  have hl := inR_len x0 x1
  go_enter Try.func5, Try.ntmps5
  skip
  go_wp2_with fail
  refine (szPattern_c r0 w0 (by omega) (by omega)).mono ?_
  rintro e W1 ⟨_, rfl, rfl, y1⟩
  have q1 := y1.size
  replace X := ext_trans X y1
  replace r0 := r0.ext y1
  replace r1 := r1.ext y1
  replace k0 := cell_ext k0 y1
  clear y1
  by_cases h0 : ¬ ((wt x0 : Nat) : Int) ≤ 1048576
  · rw [szS_no h0]
    go_wp2
    go_ret
    exact ⟨rfl, X⟩
  rw [szS_ok (show ((wt x0 : Nat) : Int) ≤ 1048576 by omega)]
  go_wp2_with fail
  refine (szBindingS_c r1 w1 (by omega) (by omega)).mono ?_
  rintro e W2 ⟨_, rfl, rfl, y2⟩
  have q2 := y2.size
  replace X := ext_trans X y2
  replace r0 := r0.ext y2
  replace r1 := r1.ext y2
  replace k0 := cell_ext k0 y2
  clear y2
  by_cases h1 : ¬ ((bw n1 x1 : Nat) : Int) ≤ 1048576 - ((wt x0 : Nat) : Int)
  · rw [szS_no h1]
    go_wp2
    go_ret
    exact ⟨rfl, X⟩
  rw [szS_ok (show ((bw n1 x1 : Nat) : Int) ≤ 1048576 - ((wt x0 : Nat) : Int) by omega)]
  go_wp2_with fail
  refine (toPattern_c r0 (by omega)).mono ?_
  rintro e W3 ⟨u1, rfl, o1, y3⟩
  have q3 := y3.size
  replace X := ext_trans X y3
  replace r0 := r0.ext y3
  replace r1 := r1.ext y3
  replace k0 := cell_ext k0 y3
  clear y3
  go_wp2_with fail
  refine (toBindingS_c r1 (by omega)).mono ?_
  rintro e W4 ⟨u2, rfl, o2, y4⟩
  have q4 := y4.size
  replace X := ext_trans X y4
  replace r0 := r0.ext y4
  replace r1 := r1.ext y4
  replace k0 := cell_ext k0 y4
  replace o1 := o1.ext y4
  clear y4
  go_wp2_with fail
  refine (specInstantiate_c o1.rd o2.rd w0 w1 (by omega) (by omega)).mono ?_
  rintro e W5 ⟨_, rfl, ⟨u3, rfl, o3⟩, y5⟩
  have q5 := y5.size
  replace X := ext_trans X y5
  replace r0 := r0.ext y5
  replace r1 := r1.ext y5
  replace k0 := cell_ext k0 y5
  replace o1 := o1.ext y5
  replace o2 := o2.ext y5
  clear y5
  clear o1 o2
  obtain ⟨z6, rfl, g6⟩ := id o3
  obtain ⟨a6', c6', rfl, _⟩ := g6.rd.form
  clear g6
  have y6 := ext_alloc (ext_refl W5) (.cells #[.slice a6' ((inR x0 x1).1.length) c6'] 26)
  have q6 := y6.size
  have p6 : W5.heap.size + 1 = (W5.alloc (.cells #[.slice a6' ((inR x0 x1).1.length) c6'] 26)).heap.size := by simp
  have k40 : (W5.alloc (.cells #[.slice a6' ((inR x0 x1).1.length) c6'] 26)).cell? ⟨W5.heap.size, 0, none⟩ = some (.slice a6' ((inR x0 x1).1.length) c6') := by simp
  replace X := ext_trans X y6
  replace r0 := r0.ext y6
  replace r1 := r1.ext y6
  replace k0 := cell_ext k0 y6
  replace o3 := o3.ext y6
  clear y6
  go_wp2_with fail
  generalize W5.alloc (.cells #[.slice a6' ((inR x0 x1).1.length) c6'] 26) = W6 at *
  go_wp2_with fail
  refine (toPattern_c r0 (by omega)).mono ?_
  rintro e W7 ⟨u4, rfl, o4, y7⟩
  have q7 := y7.size
  replace X := ext_trans X y7
  replace r0 := r0.ext y7
  replace r1 := r1.ext y7
  replace k0 := cell_ext k0 y7
  replace o3 := o3.ext y7
  replace k40 := cell_ext k40 y7
  clear y7
  obtain ⟨z8, rfl, g8⟩ := id o4
  obtain ⟨a8', c8', rfl, _⟩ := g8.rd.form
  clear g8
  have y8 := ext_alloc (ext_refl W7) (.cells #[.slice a8' (x0.length) c8'] 41)
  have q8 := y8.size
  have p8 : W7.heap.size + 1 = (W7.alloc (.cells #[.slice a8' (x0.length) c8'] 41)).heap.size := by simp
  have k30 : (W7.alloc (.cells #[.slice a8' (x0.length) c8'] 41)).cell? ⟨W7.heap.size, 0, none⟩ = some (.slice a8' (x0.length) c8') := by simp
  replace X := ext_trans X y8
  replace r0 := r0.ext y8
  replace r1 := r1.ext y8
  replace k0 := cell_ext k0 y8
  replace o3 := o3.ext y8
  replace k40 := cell_ext k40 y8
  replace o4 := o4.ext y8
  clear y8
  go_wp2_with fail
  generalize W7.alloc (.cells #[.slice a8' (x0.length) c8'] 41) = W8 at *
  go_wp2_with fail
  refine (toBindingS_c r1 (by omega)).mono ?_
  rintro e W9 ⟨u5, rfl, o5, y9⟩
  have q9 := y9.size
  replace X := ext_trans X y9
  replace r0 := r0.ext y9
  replace r1 := r1.ext y9
  replace k0 := cell_ext k0 y9
  replace o3 := o3.ext y9
  replace k40 := cell_ext k40 y9
  replace o4 := o4.ext y9
  replace k30 := cell_ext k30 y9
  clear y9
  go_wp2_with fail
  refine (implInstantiate_c o4.rd o5.rd w0 w1 (by omega) (by omega)).mono ?_
  rintro e W10 ⟨_, rfl, ⟨u6, rfl, o6⟩, y10⟩
  have q10 := y10.size
  replace X := ext_trans X y10
  replace r0 := r0.ext y10
  replace r1 := r1.ext y10
  replace k0 := cell_ext k0 y10
  replace o3 := o3.ext y10
  replace k40 := cell_ext k40 y10
  replace o4 := o4.ext y10
  replace k30 := cell_ext k30 y10
  replace o5 := o5.ext y10
  clear y10
  obtain ⟨z11, rfl, g11⟩ := id o6
  obtain ⟨a11', c11', rfl, _⟩ := g11.rd.form
  clear g11
  have y11 := ext_alloc (ext_refl W10) (.cells #[.slice a11' ((inR x0 x1).1.length) c11'] 26)
  have q11 := y11.size
  have p11 : W10.heap.size + 1 = (W10.alloc (.cells #[.slice a11' ((inR x0 x1).1.length) c11'] 26)).heap.size := by simp
  have k41 : (W10.alloc (.cells #[.slice a11' ((inR x0 x1).1.length) c11'] 26)).cell? ⟨W10.heap.size, 0, none⟩ = some (.slice a11' ((inR x0 x1).1.length) c11') := by simp
  replace X := ext_trans X y11
  replace r0 := r0.ext y11
  replace r1 := r1.ext y11
  replace k0 := cell_ext k0 y11
  replace o3 := o3.ext y11
  replace k40 := cell_ext k40 y11
  replace o4 := o4.ext y11
  replace k30 := cell_ext k30 y11
  replace o5 := o5.ext y11
  replace o6 := o6.ext y11
  clear y11
  go_wp2_with fail
  generalize W10.alloc (.cells #[.slice a11' ((inR x0 x1).1.length) c11'] 26) = W11 at *
  go_wp2_with fail
  refine (eqName_c o6.rd o3.rd).mono ?_
  rintro e W12 ⟨_, rfl, rfl, y12⟩
  have q12 := y12.size
  replace X := ext_trans X y12
  replace r0 := r0.ext y12
  replace r1 := r1.ext y12
  replace k0 := cell_ext k0 y12
  replace o3 := o3.ext y12
  replace k40 := cell_ext k40 y12
  replace o4 := o4.ext y12
  replace k30 := cell_ext k30 y12
  replace o5 := o5.ext y12
  replace o6 := o6.ext y12
  replace k41 := cell_ext k41 y12
  clear y12
  go_wp2_with fail
  have y12 := Below.drew (ext_refl W12)
  have qd12 := y12.size
  replace X := ext_trans X y12
  replace r0 := r0.ext y12
  replace r1 := r1.ext y12
  replace k0 := cell_ext k0 y12
  replace o3 := o3.ext y12
  replace k40 := cell_ext k40 y12
  replace o4 := o4.ext y12
  replace k30 := cell_ext k30 y12
  replace o5 := o5.ext y12
  replace o6 := o6.ext y12
  replace k41 := cell_ext k41 y12
  clear y12
  go_region_held3 (fun w' => w'.cell? ⟨W7.heap.size, 0, none⟩ = some (.slice a8' (x0.length) c8') ∧ w'.cell? ⟨w.heap.size, 0, none⟩ = some s0)
    (first | exact ⟨k30, k0⟩)
    (first
      | (go_at_call 21; have C := toPattern_c r0 (by omega); (with_reducible refine C.mono ?_); clear C; rintro e W13 ⟨u7, rfl, o7, y13⟩; have q13 := y13.size; replace X := ext_trans X y13; replace r0 := r0.ext y13; replace r1 := r1.ext y13; replace k0 := cell_ext k0 y13; replace o3 := o3.ext y13; replace k40 := cell_ext k40 y13; replace o4 := o4.ext y13; replace k30 := cell_ext k30 y13; replace o5 := o5.ext y13; replace o6 := o6.ext y13; replace k41 := cell_ext k41 y13; clear y13)
      | (go_at_call 24; have C := eqPattern_c o4.rd o7.rd; (with_reducible refine C.mono ?_); clear C; rintro e W14 ⟨_, rfl, rfl, y14⟩; have q14 := y14.size; replace X := ext_trans X y14; replace r0 := r0.ext y14; replace r1 := r1.ext y14; replace k0 := cell_ext k0 y14; replace o3 := o3.ext y14; replace k40 := cell_ext k40 y14; replace o4 := o4.ext y14; replace k30 := cell_ext k30 y14; replace o5 := o5.ext y14; replace o6 := o6.ext y14; replace k41 := cell_ext k41 y14; replace o7 := o7.ext y14; clear y14))
  clear o7
  go_wp2_with fail
  refine (toBindingS_c r1 (by omega)).mono ?_
  rintro e W15 ⟨u8, rfl, o8, y15⟩
  have q15 := y15.size
  replace X := ext_trans X y15
  replace r0 := r0.ext y15
  replace r1 := r1.ext y15
  replace k0 := cell_ext k0 y15
  replace o3 := o3.ext y15
  replace k40 := cell_ext k40 y15
  replace o4 := o4.ext y15
  replace k30 := cell_ext k30 y15
  replace o5 := o5.ext y15
  replace o6 := o6.ext y15
  replace k41 := cell_ext k41 y15
  clear y15
  go_wp2_with fail
  refine (eqBindingS_c o5.rd o8.rd).mono ?_
  rintro e W16 ⟨_, rfl, rfl, y16⟩
  have q16 := y16.size
  replace X := ext_trans X y16
  replace r0 := r0.ext y16
  replace r1 := r1.ext y16
  replace k0 := cell_ext k0 y16
  replace o3 := o3.ext y16
  replace k40 := cell_ext k40 y16
  replace o4 := o4.ext y16
  replace k30 := cell_ext k30 y16
  replace o5 := o5.ext y16
  replace o6 := o6.ext y16
  replace k41 := cell_ext k41 y16
  replace o8 := o8.ext y16
  clear y16
  clear o8
  go_wp2_with fail
  refine (markPattern_c o4 (k0 := 1) (by omega) (by omega) (by omega)).mono ?_
  clear o4
  rintro e W17 ⟨rfl, o4, y17⟩
  have q17 := y17.size
  replace X := y17.ext X (by omega)
  replace r0 := r0.mut y17 (by omega)
  replace r1 := r1.mut y17 (by omega)
  replace k0 := cell_mut k0 y17 (by simp only; omega)
  replace o3 := o3.mut y17 (by omega)
  replace k40 := cell_mut k40 y17 (by simp only; omega)
  replace k30 := cell_mut k30 y17 (by simp only; omega)
  replace o5 := o5.mut y17 (by omega)
  replace o6 := o6.mut y17 (by omega)
  replace k41 := cell_mut k41 y17 (by simp only; omega)
  clear y17
  go_wp2_with fail
  refine (markBindingS_c o5 (k0 := (1 + x0.length)) (by omega) (by omega) (by omega)).mono ?_
  clear o5
  rintro e W18 ⟨rfl, o5, y18⟩
  have q18 := y18.size
  replace X := y18.ext X (by omega)
  replace r0 := r0.mut y18 (by omega)
  replace r1 := r1.mut y18 (by omega)
  replace k0 := cell_mut k0 y18 (by simp only; omega)
  replace o3 := o3.mut y18 (by omega)
  replace k40 := cell_mut k40 y18 (by simp only; omega)
  replace o4 := o4.mut y18 (by omega)
  replace k30 := cell_mut k30 y18 (by simp only; omega)
  replace o6 := o6.mut y18 (by omega)
  replace k41 := cell_mut k41 y18 (by simp only; omega)
  clear y18
  go_wp2_with fail
  refine (eqName_c o6.rd o3.rd).mono ?_
  rintro e W19 ⟨_, rfl, rfl, y19⟩
  have q19 := y19.size
  replace X := ext_trans X y19
  replace r0 := r0.ext y19
  replace r1 := r1.ext y19
  replace k0 := cell_ext k0 y19
  replace o3 := o3.ext y19
  replace k40 := cell_ext k40 y19
  replace o4 := o4.ext y19
  replace k30 := cell_ext k30 y19
  replace o5 := o5.ext y19
  replace o6 := o6.ext y19
  replace k41 := cell_ext k41 y19
  clear y19
  go_wp2_with fail
  refine (markName_c o6 (k0 := 1) (by omega) (by omega) (by omega)).mono ?_
  clear o6
  rintro e W20 ⟨rfl, o6, y20⟩
  have q20 := y20.size
  replace X := y20.ext X (by omega)
  replace r0 := r0.mut y20 (by omega)
  replace r1 := r1.mut y20 (by omega)
  replace k0 := cell_mut k0 y20 (by simp only; omega)
  replace o3 := o3.mut y20 (by omega)
  replace k40 := cell_mut k40 y20 (by simp only; omega)
  replace o4 := o4.mut y20 (by omega)
  replace k30 := cell_mut k30 y20 (by simp only; omega)
  replace o5 := o5.mut y20 (by omega)
  replace k41 := cell_mut k41 y20 (by simp only; omega)
  clear y20
  go_wp2_with fail
  refine (heldName_c o6.rd (k0 := 1) (by omega) (by omega) (by omega)).mono ?_
  rintro e W21 ⟨_, rfl, rfl, y21⟩
  have q21 := y21.size
  replace X := ext_trans X y21
  replace r0 := r0.ext y21
  replace r1 := r1.ext y21
  replace k0 := cell_ext k0 y21
  replace o3 := o3.ext y21
  replace k40 := cell_ext k40 y21
  replace o4 := o4.ext y21
  replace k30 := cell_ext k30 y21
  replace o5 := o5.ext y21
  replace o6 := o6.ext y21
  replace k41 := cell_ext k41 y21
  clear y21
  go_wp2_with fail
  refine (toPattern_c r0 (by omega)).mono ?_
  rintro e W22 ⟨u9, rfl, o9, y22⟩
  have q22 := y22.size
  replace X := ext_trans X y22
  replace r0 := r0.ext y22
  replace r1 := r1.ext y22
  replace k0 := cell_ext k0 y22
  replace o3 := o3.ext y22
  replace k40 := cell_ext k40 y22
  replace o4 := o4.ext y22
  replace k30 := cell_ext k30 y22
  replace o5 := o5.ext y22
  replace o6 := o6.ext y22
  replace k41 := cell_ext k41 y22
  clear y22
  go_wp2_with fail
  refine (toBindingS_c r1 (by omega)).mono ?_
  rintro e W23 ⟨u10, rfl, o10, y23⟩
  have q23 := y23.size
  replace X := ext_trans X y23
  replace r0 := r0.ext y23
  replace r1 := r1.ext y23
  replace k0 := cell_ext k0 y23
  replace o3 := o3.ext y23
  replace k40 := cell_ext k40 y23
  replace o4 := o4.ext y23
  replace k30 := cell_ext k30 y23
  replace o5 := o5.ext y23
  replace o6 := o6.ext y23
  replace k41 := cell_ext k41 y23
  replace o9 := o9.ext y23
  clear y23
  go_wp2_with fail
  refine (implInstantiate_c o9.rd o10.rd w0 w1 (by omega) (by omega)).mono ?_
  rintro e W24 ⟨_, rfl, ⟨u11, rfl, o11⟩, y24⟩
  have q24 := y24.size
  replace X := ext_trans X y24
  replace r0 := r0.ext y24
  replace r1 := r1.ext y24
  replace k0 := cell_ext k0 y24
  replace o3 := o3.ext y24
  replace k40 := cell_ext k40 y24
  replace o4 := o4.ext y24
  replace k30 := cell_ext k30 y24
  replace o5 := o5.ext y24
  replace o6 := o6.ext y24
  replace k41 := cell_ext k41 y24
  replace o9 := o9.ext y24
  replace o10 := o10.ext y24
  clear y24
  obtain ⟨z25, rfl, g25⟩ := id o11
  obtain ⟨a25', c25', rfl, _⟩ := g25.rd.form
  clear g25
  have y25 := ext_alloc (ext_refl W24) (.cells #[.slice a25' ((inR x0 x1).1.length) c25'] 26)
  have q25 := y25.size
  have p25 : W24.heap.size + 1 = (W24.alloc (.cells #[.slice a25' ((inR x0 x1).1.length) c25'] 26)).heap.size := by simp
  have k42 : (W24.alloc (.cells #[.slice a25' ((inR x0 x1).1.length) c25'] 26)).cell? ⟨W24.heap.size, 0, none⟩ = some (.slice a25' ((inR x0 x1).1.length) c25') := by simp
  replace X := ext_trans X y25
  replace r0 := r0.ext y25
  replace r1 := r1.ext y25
  replace k0 := cell_ext k0 y25
  replace o3 := o3.ext y25
  replace k40 := cell_ext k40 y25
  replace o4 := o4.ext y25
  replace k30 := cell_ext k30 y25
  replace o5 := o5.ext y25
  replace o6 := o6.ext y25
  replace k41 := cell_ext k41 y25
  replace o9 := o9.ext y25
  replace o10 := o10.ext y25
  replace o11 := o11.ext y25
  clear y25
  go_wp2_with fail
  generalize W24.alloc (.cells #[.slice a25' ((inR x0 x1).1.length) c25'] 26) = W25 at *
  go_wp2_with fail
  refine (eqName_c o11.rd o3.rd).mono ?_
  rintro e W26 ⟨_, rfl, rfl, y26⟩
  have q26 := y26.size
  replace X := ext_trans X y26
  replace r0 := r0.ext y26
  replace r1 := r1.ext y26
  replace k0 := cell_ext k0 y26
  replace o3 := o3.ext y26
  replace k40 := cell_ext k40 y26
  replace o4 := o4.ext y26
  replace k30 := cell_ext k30 y26
  replace o5 := o5.ext y26
  replace o6 := o6.ext y26
  replace k41 := cell_ext k41 y26
  replace o9 := o9.ext y26
  replace o10 := o10.ext y26
  replace o11 := o11.ext y26
  replace k42 := cell_ext k42 y26
  clear y26
  go_wp2_with fail
  refine (heldName_c o6.rd (k0 := 1) (by omega) (by omega) (by omega)).mono ?_
  rintro e W27 ⟨_, rfl, rfl, y27⟩
  have q27 := y27.size
  replace X := ext_trans X y27
  replace r0 := r0.ext y27
  replace r1 := r1.ext y27
  replace k0 := cell_ext k0 y27
  replace o3 := o3.ext y27
  replace k40 := cell_ext k40 y27
  replace o4 := o4.ext y27
  replace k30 := cell_ext k30 y27
  replace o5 := o5.ext y27
  replace o6 := o6.ext y27
  replace k41 := cell_ext k41 y27
  replace o9 := o9.ext y27
  replace o10 := o10.ext y27
  replace o11 := o11.ext y27
  replace k42 := cell_ext k42 y27
  clear y27
  go_wp2_with fail
  go_ret
  exact ⟨rfl, X⟩
set_option maxRecDepth 100000 in
theorem lifted (os : Os) (started : os.Started) (H : Type) (enc : TypeId × Value → H) :
    ReturnsInHanded {} Try.checked os 5 .any (Rows.fnExactInstantiateSpec.pre6 enc Try.prog Try.f5 Rows.fnExactInstantiateRow.domain false) (Rows.fnExactInstantiateSpec.post enc Try.prog Try.f5 false true false false) := by
  refine returnsInHanded_of_change (C := Try.checked) own started (by kernel_rfl) Try.func5
    (ChangeSpec.witness6 (enc := enc) (C := Try.checked) false ⟨#[], #[.agg #[.slice none 0 0], .slice none 0 0], []⟩ 8 (by kernel_rfl) (by kernel_rfl) (by kernel_rfl) (by kernel_rfl)) ?_
  intro W base args ds gs before hval0 hW hcnd _
  have hval : ∀ (j : Nat) t v, Try.f5.params[j]? = some t → args[j]? = some v → Value.okWide Try.prog W .any base t v := hval0
  have hW' := hW
  obtain ⟨p, q, hA0, hV, rfl, hfz, hnd⟩ := hW
  have hA : DataW.TrodAll enc Try.prog W 0 (fun _ => true) true Try.f5.params.toList args.toList ds p := hA0
  rw [Try.params5] at hA hval
  obtain ⟨v0, vs0, d0, ds0, p0, q0, hargs, rfl, rfl, h0, tr0⟩ := trodAll_cons hA
  obtain ⟨v1, vs1, d1, ds1, p1, q1, rfl, rfl, rfl, h1, tr1⟩ := trodAll_cons tr0
  obtain ⟨rfl, rfl, rfl⟩ := trodAll_nil tr1
  obtain rfl : args = #[v0, v1] := by cases args; simp_all
  obtain ⟨rfl, rfl⟩ := trodVars_none hV
  have k0 := h0
  have lt0 : ∀ x ∈ p0, x.block < W.heap.size := by obtain ⟨m, hm⟩ := k0; exact DataW.trod_lt m _ _ _ hm
  obtain ⟨x0, r0, w0⟩ := rd_name Try.underlying36 (by kernel_rfl) (by kernel_rfl) Try.underlying24 Try.underlying9 (by kernel_rfl) (hval 0 36 v0 rfl rfl) h0
  have k1 := h1
  have lt1 : ∀ x ∈ p1, x.block < W.heap.size := by obtain ⟨m, hm⟩ := k1; exact DataW.trod_lt m _ _ _ hm
  obtain ⟨n1, x1, r1, w1⟩ := rd_binds Try.underlying46 Try.underlying93 (by kernel_rfl) (by kernel_rfl) Try.underlying9 Try.underlying9 (hval 1 46 v1 rfl rfl) h1
  clear hA0 hval0
  try simp only [List.append_nil] at hW'
  refine (walk W v0 x0 r0 w0 v1 n1 x1 r1 w1).mono fun e W' ⟨he, bel⟩ => ?_
  subst he
  exact ⟨_, rfl, _, _, _, [], _, [], hW', trodAll_mk1 (shut_bool Try.underlying4 _), (trodAll_cons_mk (Below.trod laidOut (by kernel_rfl) (of_decide_eq_true (by kernel_rfl)) k0 bel lt0) (trodAll_cons_mk (Below.trod laidOut (by kernel_rfl) (of_decide_eq_true (by kernel_rfl)) k1 bel lt1) trodAll_mk0)), rfl, bel.frame _, fun h => by cases h⟩

theorem closed : joinedFacts Try.pinned.checked.prog 5 Try.f5 Rows.fnExactInstantiateSpec Rows.fnExactInstantiateRow = true := by
  unfold joinedFacts
  rw [show Try.pinned.checked.prog.mayEnter = true from joined1, show (Rows.fnExactInstantiateRow.lifted == Try.pinned.checked.prog.liftsFinal) = true from joined2, show (Try.pinned.checked.prog.make == some Rows.fnExactInstantiateRow.make) = true from joined3]
  kernel_rfl
theorem over : Rows.fnExactInstantiateRow.holds Try.pinned (OpenSpec.ofChange Rows.fnExactInstantiateSpec) :=
  OpenClaim.holds_of_wide 5 Try.f5 rfl rfl rfl rfl rfl rfl rfl ⟨rfl, rfl, rfl, rfl, rfl⟩ rfl rfl rfl rfl rfl (by kernel_rfl) Try.func5 closed
    (of_decide_eq_true (by kernel_rfl)) (by unfold Func.isWrapper; first | (rw [if_pos (by decide +kernel)]; kernel_rfl) | (rw [if_neg (by decide +kernel)]; exact ⟨rfl, rfl⟩))
    (fun os started H enc _ => lifted os started H enc)
/-- The statement. -/
theorem proved : Rows.FnExactInstantiateSaid := over
end fnExactInstantiate
end Go.Proofs.Ytcagbdidjakcpaa
