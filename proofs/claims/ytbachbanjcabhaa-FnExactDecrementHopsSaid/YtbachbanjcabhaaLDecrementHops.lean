/- FnExactDecrementHops holds: impl.DecrementHops and spec.DecrementHops agree at every interest, and what is made is new memory. No condition. -/
import Derived.Test.YtbachbanjcabhaaFrame
import Derived.Test.YtbachbanjcabhaaFrameW
import Derived.Test.YtbachbanjcabhaaFrameN
import Derived.Test.YtbachbanjcabhaaWant
import Derived.Test.YtbachbanjcabhaaJoined
import Derived.Deep.RegionHeld3
set_option linter.unusedVariables false
namespace Go.Proofs.Ytbachbanjcabhaa
set_option maxHeartbeats 1000000
namespace fnExactDecrementHops
open Go.ChangeShapes Go.WideShapes Go.ChangeAt Go.RowKit
open Go.ChangeMaps (open_string shut_string)
/-- The call returns true and leaves all that was there unturned. -/
theorem walk (w : World) (v0 : Value) (x0 : List ByteArray) (a0 b0 c0 : Int) (r0 : RdW w 0 w.heap.size v0 x0.length (x0.map sv) a0 b0 c0) (w0 : ∀ s ∈ x0, s.size ≤ 9223372036854775807) (g0 : I64 a0 ∧ I64 b0 ∧ I64 c0) :
    Calls Try.prog 15 #[v0] w fun e w' => e = .returned (.bool true) ∧ Below w.heap.size w w' := by
  obtain ⟨s0, e0, _⟩ := id r0
  subst e0
  have l0 := wt_len x0
  have X : Below w.heap.size w (w.alloc (.cells #[s0, .int .i64 a0, .int .i64 b0, .int .i64 c0] 56)) := (ext_alloc (ext_refl w) (.cells #[s0, .int .i64 a0, .int .i64 b0, .int .i64 c0] 56))
  have qw : (w.alloc (.cells #[s0, .int .i64 a0, .int .i64 b0, .int .i64 c0] 56)).heap.size = w.heap.size + 1 := by simp
  have k0 : (w.alloc (.cells #[s0, .int .i64 a0, .int .i64 b0, .int .i64 c0] 56)).cell? ⟨w.heap.size, 0, none⟩ = some s0 := by simp
  have k0a : (w.alloc (.cells #[s0, .int .i64 a0, .int .i64 b0, .int .i64 c0] 56)).cell? ⟨w.heap.size, 1, none⟩ = some (.int .i64 a0) := by first | (simp; done) | exact new_cell w _ _ 1 _ rfl | exact cell_ext (new_cell w _ _ 1 _ rfl) (ext_alloc (ext_refl _) _)
  have k0b : (w.alloc (.cells #[s0, .int .i64 a0, .int .i64 b0, .int .i64 c0] 56)).cell? ⟨w.heap.size, 2, none⟩ = some (.int .i64 b0) := by first | (simp; done) | exact new_cell w _ _ 2 _ rfl | exact cell_ext (new_cell w _ _ 2 _ rfl) (ext_alloc (ext_refl _) _)
  have k0c : (w.alloc (.cells #[s0, .int .i64 a0, .int .i64 b0, .int .i64 c0] 56)).cell? ⟨w.heap.size, 3, none⟩ = some (.int .i64 c0) := by first | (simp; done) | exact new_cell w _ _ 3 _ rfl | exact cell_ext (new_cell w _ _ 3 _ rfl) (ext_alloc (ext_refl _) _)
  replace r0 := r0.ext X
  have gb := g0.2.1.2
  go_enter Try.func15, Try.ntmps15
  skip
  go_wp2_with fail
  refine (szInterest_c r0 w0 (by omega) (by omega)).mono ?_
  rintro e W1 ⟨_, rfl, rfl, y1⟩
  have q1 := y1.size
  replace X := ext_trans X y1
  replace r0 := r0.ext y1
  replace k0 := cell_ext k0 y1
  replace k0a := cell_ext k0a y1
  replace k0b := cell_ext k0b y1
  replace k0c := cell_ext k0c y1
  clear y1
  by_cases h0 : ¬ ((wt x0 : Nat) : Int) ≤ 1048576
  · rw [szS_no h0]
    go_wp2
    go_ret
    exact ⟨rfl, X⟩
  rw [szS_ok (show ((wt x0 : Nat) : Int) ≤ 1048576 by omega)]
  go_wp2_with fail
  refine (toInterest_c r0 (by omega)).mono ?_
  rintro e W2 ⟨u1, rfl, o1, y2⟩
  have q2 := y2.size
  replace X := ext_trans X y2
  replace r0 := r0.ext y2
  replace k0 := cell_ext k0 y2
  replace k0a := cell_ext k0a y2
  replace k0b := cell_ext k0b y2
  replace k0c := cell_ext k0c y2
  clear y2
  go_wp2_with fail
  refine (specDecrementHops_c o1.rd (by omega) gb).mono ?_
  rintro e W3 ⟨_, rfl, ⟨u2, rfl, o2⟩, y3⟩
  have q3 := y3.size
  replace X := ext_trans X y3
  replace r0 := r0.ext y3
  replace k0 := cell_ext k0 y3
  replace k0a := cell_ext k0a y3
  replace k0b := cell_ext k0b y3
  replace k0c := cell_ext k0c y3
  replace o1 := o1.ext y3
  clear y3
  clear o1
  obtain ⟨z4, rfl, g4⟩ := id o2
  obtain ⟨a4', c4', rfl, _⟩ := g4.rd.form
  clear g4
  have y4 := ext_alloc (ext_refl W3) (.cells #[.slice a4' (x0.length) c4', .int .i64 a0, .int .i64 (dhB b0), .int .i64 c0] 60)
  have q4 := y4.size
  have p4 : W3.heap.size + 1 = (W3.alloc (.cells #[.slice a4' (x0.length) c4', .int .i64 a0, .int .i64 (dhB b0), .int .i64 c0] 60)).heap.size := by simp
  have k40 : (W3.alloc (.cells #[.slice a4' (x0.length) c4', .int .i64 a0, .int .i64 (dhB b0), .int .i64 c0] 60)).cell? ⟨W3.heap.size, 0, none⟩ = some (.slice a4' (x0.length) c4') := by simp
  have k40a : (W3.alloc (.cells #[.slice a4' (x0.length) c4', .int .i64 a0, .int .i64 (dhB b0), .int .i64 c0] 60)).cell? ⟨W3.heap.size, 1, none⟩ = some (.int .i64 a0) := by simp
  have k40b : (W3.alloc (.cells #[.slice a4' (x0.length) c4', .int .i64 a0, .int .i64 (dhB b0), .int .i64 c0] 60)).cell? ⟨W3.heap.size, 2, none⟩ = some (.int .i64 (dhB b0)) := by simp
  have k40c : (W3.alloc (.cells #[.slice a4' (x0.length) c4', .int .i64 a0, .int .i64 (dhB b0), .int .i64 c0] 60)).cell? ⟨W3.heap.size, 3, none⟩ = some (.int .i64 c0) := by simp
  replace X := ext_trans X y4
  replace r0 := r0.ext y4
  replace k0 := cell_ext k0 y4
  replace k0a := cell_ext k0a y4
  replace k0b := cell_ext k0b y4
  replace k0c := cell_ext k0c y4
  replace o2 := o2.ext y4
  clear y4
  go_wp2_with fail
  generalize W3.alloc (.cells #[.slice a4' (x0.length) c4', .int .i64 a0, .int .i64 (dhB b0), .int .i64 c0] 60) = W4 at *
  go_wp2_with fail
  refine (toInterest_c r0 (by omega)).mono ?_
  rintro e W5 ⟨u3, rfl, o3, y5⟩
  have q5 := y5.size
  replace X := ext_trans X y5
  replace r0 := r0.ext y5
  replace k0 := cell_ext k0 y5
  replace k0a := cell_ext k0a y5
  replace k0b := cell_ext k0b y5
  replace k0c := cell_ext k0c y5
  replace o2 := o2.ext y5
  replace k40 := cell_ext k40 y5
  replace k40a := cell_ext k40a y5
  replace k40b := cell_ext k40b y5
  replace k40c := cell_ext k40c y5
  clear y5
  obtain ⟨z6, rfl, g6⟩ := id o3
  obtain ⟨a6', c6', rfl, _⟩ := g6.rd.form
  clear g6
  have y6 := ext_alloc (ext_refl W5) (.cells #[.slice a6' (x0.length) c6', .int .i64 a0, .int .i64 b0, .int .i64 c0] 60)
  have q6 := y6.size
  have p6 : W5.heap.size + 1 = (W5.alloc (.cells #[.slice a6' (x0.length) c6', .int .i64 a0, .int .i64 b0, .int .i64 c0] 60)).heap.size := by simp
  have k30 : (W5.alloc (.cells #[.slice a6' (x0.length) c6', .int .i64 a0, .int .i64 b0, .int .i64 c0] 60)).cell? ⟨W5.heap.size, 0, none⟩ = some (.slice a6' (x0.length) c6') := by simp
  have k30a : (W5.alloc (.cells #[.slice a6' (x0.length) c6', .int .i64 a0, .int .i64 b0, .int .i64 c0] 60)).cell? ⟨W5.heap.size, 1, none⟩ = some (.int .i64 a0) := by simp
  have k30b : (W5.alloc (.cells #[.slice a6' (x0.length) c6', .int .i64 a0, .int .i64 b0, .int .i64 c0] 60)).cell? ⟨W5.heap.size, 2, none⟩ = some (.int .i64 b0) := by simp
  have k30c : (W5.alloc (.cells #[.slice a6' (x0.length) c6', .int .i64 a0, .int .i64 b0, .int .i64 c0] 60)).cell? ⟨W5.heap.size, 3, none⟩ = some (.int .i64 c0) := by simp
  replace X := ext_trans X y6
  replace r0 := r0.ext y6
  replace k0 := cell_ext k0 y6
  replace k0a := cell_ext k0a y6
  replace k0b := cell_ext k0b y6
  replace k0c := cell_ext k0c y6
  replace o2 := o2.ext y6
  replace k40 := cell_ext k40 y6
  replace k40a := cell_ext k40a y6
  replace k40b := cell_ext k40b y6
  replace k40c := cell_ext k40c y6
  replace o3 := o3.ext y6
  clear y6
  go_wp2_with fail
  generalize W5.alloc (.cells #[.slice a6' (x0.length) c6', .int .i64 a0, .int .i64 b0, .int .i64 c0] 60) = W6 at *
  go_wp2_with fail
  refine (implDecrementHops_c o3.rd (by omega) gb).mono ?_
  rintro e W7 ⟨_, rfl, ⟨u4, rfl, o4⟩, y7⟩
  have q7 := y7.size
  replace X := ext_trans X y7
  replace r0 := r0.ext y7
  replace k0 := cell_ext k0 y7
  replace k0a := cell_ext k0a y7
  replace k0b := cell_ext k0b y7
  replace k0c := cell_ext k0c y7
  replace o2 := o2.ext y7
  replace k40 := cell_ext k40 y7
  replace k40a := cell_ext k40a y7
  replace k40b := cell_ext k40b y7
  replace k40c := cell_ext k40c y7
  replace o3 := o3.ext y7
  replace k30 := cell_ext k30 y7
  replace k30a := cell_ext k30a y7
  replace k30b := cell_ext k30b y7
  replace k30c := cell_ext k30c y7
  clear y7
  obtain ⟨z8, rfl, g8⟩ := id o4
  obtain ⟨a8', c8', rfl, _⟩ := g8.rd.form
  clear g8
  have y8 := ext_alloc (ext_refl W7) (.cells #[.slice a8' (x0.length) c8', .int .i64 a0, .int .i64 (dhB b0), .int .i64 c0] 60)
  have q8 := y8.size
  have p8 : W7.heap.size + 1 = (W7.alloc (.cells #[.slice a8' (x0.length) c8', .int .i64 a0, .int .i64 (dhB b0), .int .i64 c0] 60)).heap.size := by simp
  have k41 : (W7.alloc (.cells #[.slice a8' (x0.length) c8', .int .i64 a0, .int .i64 (dhB b0), .int .i64 c0] 60)).cell? ⟨W7.heap.size, 0, none⟩ = some (.slice a8' (x0.length) c8') := by simp
  have k41a : (W7.alloc (.cells #[.slice a8' (x0.length) c8', .int .i64 a0, .int .i64 (dhB b0), .int .i64 c0] 60)).cell? ⟨W7.heap.size, 1, none⟩ = some (.int .i64 a0) := by simp
  have k41b : (W7.alloc (.cells #[.slice a8' (x0.length) c8', .int .i64 a0, .int .i64 (dhB b0), .int .i64 c0] 60)).cell? ⟨W7.heap.size, 2, none⟩ = some (.int .i64 (dhB b0)) := by simp
  have k41c : (W7.alloc (.cells #[.slice a8' (x0.length) c8', .int .i64 a0, .int .i64 (dhB b0), .int .i64 c0] 60)).cell? ⟨W7.heap.size, 3, none⟩ = some (.int .i64 c0) := by simp
  replace X := ext_trans X y8
  replace r0 := r0.ext y8
  replace k0 := cell_ext k0 y8
  replace k0a := cell_ext k0a y8
  replace k0b := cell_ext k0b y8
  replace k0c := cell_ext k0c y8
  replace o2 := o2.ext y8
  replace k40 := cell_ext k40 y8
  replace k40a := cell_ext k40a y8
  replace k40b := cell_ext k40b y8
  replace k40c := cell_ext k40c y8
  replace o3 := o3.ext y8
  replace k30 := cell_ext k30 y8
  replace k30a := cell_ext k30a y8
  replace k30b := cell_ext k30b y8
  replace k30c := cell_ext k30c y8
  replace o4 := o4.ext y8
  clear y8
  go_wp2_with fail
  generalize W7.alloc (.cells #[.slice a8' (x0.length) c8', .int .i64 a0, .int .i64 (dhB b0), .int .i64 c0] 60) = W8 at *
  go_wp2_with fail
  refine (eqInterestSame_c o4.rd o2.rd).mono ?_
  rintro e W9 ⟨_, rfl, rfl, y9⟩
  have q9 := y9.size
  replace X := ext_trans X y9
  replace r0 := r0.ext y9
  replace k0 := cell_ext k0 y9
  replace k0a := cell_ext k0a y9
  replace k0b := cell_ext k0b y9
  replace k0c := cell_ext k0c y9
  replace o2 := o2.ext y9
  replace k40 := cell_ext k40 y9
  replace k40a := cell_ext k40a y9
  replace k40b := cell_ext k40b y9
  replace k40c := cell_ext k40c y9
  replace o3 := o3.ext y9
  replace k30 := cell_ext k30 y9
  replace k30a := cell_ext k30a y9
  replace k30b := cell_ext k30b y9
  replace k30c := cell_ext k30c y9
  replace o4 := o4.ext y9
  replace k41 := cell_ext k41 y9
  replace k41a := cell_ext k41a y9
  replace k41b := cell_ext k41b y9
  replace k41c := cell_ext k41c y9
  clear y9
  go_wp2_with fail
  have y9 := Below.drew (ext_refl W9)
  have qd9 := y9.size
  replace X := ext_trans X y9
  replace r0 := r0.ext y9
  replace k0 := cell_ext k0 y9
  replace k0a := cell_ext k0a y9
  replace k0b := cell_ext k0b y9
  replace k0c := cell_ext k0c y9
  replace o2 := o2.ext y9
  replace k40 := cell_ext k40 y9
  replace k40a := cell_ext k40a y9
  replace k40b := cell_ext k40b y9
  replace k40c := cell_ext k40c y9
  replace o3 := o3.ext y9
  replace k30 := cell_ext k30 y9
  replace k30a := cell_ext k30a y9
  replace k30b := cell_ext k30b y9
  replace k30c := cell_ext k30c y9
  replace o4 := o4.ext y9
  replace k41 := cell_ext k41 y9
  replace k41a := cell_ext k41a y9
  replace k41b := cell_ext k41b y9
  replace k41c := cell_ext k41c y9
  clear y9
  go_region_held3 (fun w' => w'.cell? ⟨W5.heap.size, 0, none⟩ = some (.slice a6' (x0.length) c6') ∧ w'.cell? ⟨W5.heap.size, 1, none⟩ = some (.int .i64 a0) ∧ w'.cell? ⟨W5.heap.size, 2, none⟩ = some (.int .i64 b0) ∧ w'.cell? ⟨W5.heap.size, 3, none⟩ = some (.int .i64 c0) ∧ w'.cell? ⟨w.heap.size, 0, none⟩ = some s0 ∧ w'.cell? ⟨w.heap.size, 1, none⟩ = some (.int .i64 a0) ∧ w'.cell? ⟨w.heap.size, 2, none⟩ = some (.int .i64 b0) ∧ w'.cell? ⟨w.heap.size, 3, none⟩ = some (.int .i64 c0))
    (first | exact ⟨k30, k30a, k30b, k30c, k0, k0a, k0b, k0c⟩)
    (first
      | (go_at_call 51; have C := toInterest_c r0 (by omega); (with_reducible refine C.mono ?_); clear C; rintro e W10 ⟨u5, rfl, o5, y10⟩; have q10 := y10.size; replace X := ext_trans X y10; replace r0 := r0.ext y10; replace k0 := cell_ext k0 y10; replace k0a := cell_ext k0a y10; replace k0b := cell_ext k0b y10; replace k0c := cell_ext k0c y10; replace o2 := o2.ext y10; replace k40 := cell_ext k40 y10; replace k40a := cell_ext k40a y10; replace k40b := cell_ext k40b y10; replace k40c := cell_ext k40c y10; replace o3 := o3.ext y10; replace k30 := cell_ext k30 y10; replace k30a := cell_ext k30a y10; replace k30b := cell_ext k30b y10; replace k30c := cell_ext k30c y10; replace o4 := o4.ext y10; replace k41 := cell_ext k41 y10; replace k41a := cell_ext k41a y10; replace k41b := cell_ext k41b y10; replace k41c := cell_ext k41c y10; clear y10)
      | (go_at_call 53; have C := eqInterestSame_c o3.rd o5.rd; (with_reducible refine C.mono ?_); clear C; rintro e W11 ⟨_, rfl, rfl, y11⟩; have q11 := y11.size; replace X := ext_trans X y11; replace r0 := r0.ext y11; replace k0 := cell_ext k0 y11; replace k0a := cell_ext k0a y11; replace k0b := cell_ext k0b y11; replace k0c := cell_ext k0c y11; replace o2 := o2.ext y11; replace k40 := cell_ext k40 y11; replace k40a := cell_ext k40a y11; replace k40b := cell_ext k40b y11; replace k40c := cell_ext k40c y11; replace o3 := o3.ext y11; replace k30 := cell_ext k30 y11; replace k30a := cell_ext k30a y11; replace k30b := cell_ext k30b y11; replace k30c := cell_ext k30c y11; replace o4 := o4.ext y11; replace k41 := cell_ext k41 y11; replace k41a := cell_ext k41a y11; replace k41b := cell_ext k41b y11; replace k41c := cell_ext k41c y11; replace o5 := o5.ext y11; clear y11))
  clear o5
  go_wp2_with fail
  refine (markInterest_c o3 (k0 := 1) (by omega) (by omega) (by omega)).mono ?_
  clear o3
  rintro e W12 ⟨rfl, o3, y12⟩
  have q12 := y12.size
  replace X := y12.ext X (by omega)
  replace r0 := r0.mut y12 (by omega)
  replace k0 := cell_mut k0 y12 (by simp only; omega)
  replace k0a := cell_mut k0a y12 (by simp only; omega)
  replace k0b := cell_mut k0b y12 (by simp only; omega)
  replace k0c := cell_mut k0c y12 (by simp only; omega)
  replace o2 := o2.mut y12 (by omega)
  replace k40 := cell_mut k40 y12 (by simp only; omega)
  replace k40a := cell_mut k40a y12 (by simp only; omega)
  replace k40b := cell_mut k40b y12 (by simp only; omega)
  replace k40c := cell_mut k40c y12 (by simp only; omega)
  replace k30 := cell_mut k30 y12 (by simp only; omega)
  replace k30a := cell_mut k30a y12 (by simp only; omega)
  replace k30b := cell_mut k30b y12 (by simp only; omega)
  replace k30c := cell_mut k30c y12 (by simp only; omega)
  replace o4 := o4.mut y12 (by omega)
  replace k41 := cell_mut k41 y12 (by simp only; omega)
  replace k41a := cell_mut k41a y12 (by simp only; omega)
  replace k41b := cell_mut k41b y12 (by simp only; omega)
  replace k41c := cell_mut k41c y12 (by simp only; omega)
  clear y12
  go_wp2_with fail
  refine (eqInterestSame_c o4.rd o2.rd).mono ?_
  rintro e W13 ⟨_, rfl, rfl, y13⟩
  have q13 := y13.size
  replace X := ext_trans X y13
  replace r0 := r0.ext y13
  replace k0 := cell_ext k0 y13
  replace k0a := cell_ext k0a y13
  replace k0b := cell_ext k0b y13
  replace k0c := cell_ext k0c y13
  replace o2 := o2.ext y13
  replace k40 := cell_ext k40 y13
  replace k40a := cell_ext k40a y13
  replace k40b := cell_ext k40b y13
  replace k40c := cell_ext k40c y13
  replace o3 := o3.ext y13
  replace k30 := cell_ext k30 y13
  replace k30a := cell_ext k30a y13
  replace k30b := cell_ext k30b y13
  replace k30c := cell_ext k30c y13
  replace o4 := o4.ext y13
  replace k41 := cell_ext k41 y13
  replace k41a := cell_ext k41a y13
  replace k41b := cell_ext k41b y13
  replace k41c := cell_ext k41c y13
  clear y13
  go_wp2_with fail
  refine (markInterest_c o4 (k0 := 1) (by omega) (by omega) (by omega)).mono ?_
  clear o4
  rintro e W14 ⟨rfl, o4, y14⟩
  have q14 := y14.size
  replace X := y14.ext X (by omega)
  replace r0 := r0.mut y14 (by omega)
  replace k0 := cell_mut k0 y14 (by simp only; omega)
  replace k0a := cell_mut k0a y14 (by simp only; omega)
  replace k0b := cell_mut k0b y14 (by simp only; omega)
  replace k0c := cell_mut k0c y14 (by simp only; omega)
  replace o2 := o2.mut y14 (by omega)
  replace k40 := cell_mut k40 y14 (by simp only; omega)
  replace k40a := cell_mut k40a y14 (by simp only; omega)
  replace k40b := cell_mut k40b y14 (by simp only; omega)
  replace k40c := cell_mut k40c y14 (by simp only; omega)
  replace o3 := o3.mut y14 (by omega)
  replace k30 := cell_mut k30 y14 (by simp only; omega)
  replace k30a := cell_mut k30a y14 (by simp only; omega)
  replace k30b := cell_mut k30b y14 (by simp only; omega)
  replace k30c := cell_mut k30c y14 (by simp only; omega)
  replace k41 := cell_mut k41 y14 (by simp only; omega)
  replace k41a := cell_mut k41a y14 (by simp only; omega)
  replace k41b := cell_mut k41b y14 (by simp only; omega)
  replace k41c := cell_mut k41c y14 (by simp only; omega)
  clear y14
  go_wp2_with fail
  refine (heldInterest_c o4.rd (k0 := 1) (by omega) (by omega) (by omega)).mono ?_
  rintro e W15 ⟨_, rfl, rfl, y15⟩
  have q15 := y15.size
  replace X := ext_trans X y15
  replace r0 := r0.ext y15
  replace k0 := cell_ext k0 y15
  replace k0a := cell_ext k0a y15
  replace k0b := cell_ext k0b y15
  replace k0c := cell_ext k0c y15
  replace o2 := o2.ext y15
  replace k40 := cell_ext k40 y15
  replace k40a := cell_ext k40a y15
  replace k40b := cell_ext k40b y15
  replace k40c := cell_ext k40c y15
  replace o3 := o3.ext y15
  replace k30 := cell_ext k30 y15
  replace k30a := cell_ext k30a y15
  replace k30b := cell_ext k30b y15
  replace k30c := cell_ext k30c y15
  replace o4 := o4.ext y15
  replace k41 := cell_ext k41 y15
  replace k41a := cell_ext k41a y15
  replace k41b := cell_ext k41b y15
  replace k41c := cell_ext k41c y15
  clear y15
  go_wp2_with fail
  refine (toInterest_c r0 (by omega)).mono ?_
  rintro e W16 ⟨u6, rfl, o6, y16⟩
  have q16 := y16.size
  replace X := ext_trans X y16
  replace r0 := r0.ext y16
  replace k0 := cell_ext k0 y16
  replace k0a := cell_ext k0a y16
  replace k0b := cell_ext k0b y16
  replace k0c := cell_ext k0c y16
  replace o2 := o2.ext y16
  replace k40 := cell_ext k40 y16
  replace k40a := cell_ext k40a y16
  replace k40b := cell_ext k40b y16
  replace k40c := cell_ext k40c y16
  replace o3 := o3.ext y16
  replace k30 := cell_ext k30 y16
  replace k30a := cell_ext k30a y16
  replace k30b := cell_ext k30b y16
  replace k30c := cell_ext k30c y16
  replace o4 := o4.ext y16
  replace k41 := cell_ext k41 y16
  replace k41a := cell_ext k41a y16
  replace k41b := cell_ext k41b y16
  replace k41c := cell_ext k41c y16
  clear y16
  go_wp2_with fail
  refine (implDecrementHops_c o6.rd (by omega) gb).mono ?_
  rintro e W17 ⟨_, rfl, ⟨u7, rfl, o7⟩, y17⟩
  have q17 := y17.size
  replace X := ext_trans X y17
  replace r0 := r0.ext y17
  replace k0 := cell_ext k0 y17
  replace k0a := cell_ext k0a y17
  replace k0b := cell_ext k0b y17
  replace k0c := cell_ext k0c y17
  replace o2 := o2.ext y17
  replace k40 := cell_ext k40 y17
  replace k40a := cell_ext k40a y17
  replace k40b := cell_ext k40b y17
  replace k40c := cell_ext k40c y17
  replace o3 := o3.ext y17
  replace k30 := cell_ext k30 y17
  replace k30a := cell_ext k30a y17
  replace k30b := cell_ext k30b y17
  replace k30c := cell_ext k30c y17
  replace o4 := o4.ext y17
  replace k41 := cell_ext k41 y17
  replace k41a := cell_ext k41a y17
  replace k41b := cell_ext k41b y17
  replace k41c := cell_ext k41c y17
  replace o6 := o6.ext y17
  clear y17
  obtain ⟨z18, rfl, g18⟩ := id o7
  obtain ⟨a18', c18', rfl, _⟩ := g18.rd.form
  clear g18
  have y18 := ext_alloc (ext_refl W17) (.cells #[.slice a18' (x0.length) c18', .int .i64 a0, .int .i64 (dhB b0), .int .i64 c0] 60)
  have q18 := y18.size
  have p18 : W17.heap.size + 1 = (W17.alloc (.cells #[.slice a18' (x0.length) c18', .int .i64 a0, .int .i64 (dhB b0), .int .i64 c0] 60)).heap.size := by simp
  have k42 : (W17.alloc (.cells #[.slice a18' (x0.length) c18', .int .i64 a0, .int .i64 (dhB b0), .int .i64 c0] 60)).cell? ⟨W17.heap.size, 0, none⟩ = some (.slice a18' (x0.length) c18') := by simp
  have k42a : (W17.alloc (.cells #[.slice a18' (x0.length) c18', .int .i64 a0, .int .i64 (dhB b0), .int .i64 c0] 60)).cell? ⟨W17.heap.size, 1, none⟩ = some (.int .i64 a0) := by simp
  have k42b : (W17.alloc (.cells #[.slice a18' (x0.length) c18', .int .i64 a0, .int .i64 (dhB b0), .int .i64 c0] 60)).cell? ⟨W17.heap.size, 2, none⟩ = some (.int .i64 (dhB b0)) := by simp
  have k42c : (W17.alloc (.cells #[.slice a18' (x0.length) c18', .int .i64 a0, .int .i64 (dhB b0), .int .i64 c0] 60)).cell? ⟨W17.heap.size, 3, none⟩ = some (.int .i64 c0) := by simp
  replace X := ext_trans X y18
  replace r0 := r0.ext y18
  replace k0 := cell_ext k0 y18
  replace k0a := cell_ext k0a y18
  replace k0b := cell_ext k0b y18
  replace k0c := cell_ext k0c y18
  replace o2 := o2.ext y18
  replace k40 := cell_ext k40 y18
  replace k40a := cell_ext k40a y18
  replace k40b := cell_ext k40b y18
  replace k40c := cell_ext k40c y18
  replace o3 := o3.ext y18
  replace k30 := cell_ext k30 y18
  replace k30a := cell_ext k30a y18
  replace k30b := cell_ext k30b y18
  replace k30c := cell_ext k30c y18
  replace o4 := o4.ext y18
  replace k41 := cell_ext k41 y18
  replace k41a := cell_ext k41a y18
  replace k41b := cell_ext k41b y18
  replace k41c := cell_ext k41c y18
  replace o6 := o6.ext y18
  replace o7 := o7.ext y18
  clear y18
  go_wp2_with fail
  generalize W17.alloc (.cells #[.slice a18' (x0.length) c18', .int .i64 a0, .int .i64 (dhB b0), .int .i64 c0] 60) = W18 at *
  go_wp2_with fail
  refine (eqInterestSame_c o7.rd o2.rd).mono ?_
  rintro e W19 ⟨_, rfl, rfl, y19⟩
  have q19 := y19.size
  replace X := ext_trans X y19
  replace r0 := r0.ext y19
  replace k0 := cell_ext k0 y19
  replace k0a := cell_ext k0a y19
  replace k0b := cell_ext k0b y19
  replace k0c := cell_ext k0c y19
  replace o2 := o2.ext y19
  replace k40 := cell_ext k40 y19
  replace k40a := cell_ext k40a y19
  replace k40b := cell_ext k40b y19
  replace k40c := cell_ext k40c y19
  replace o3 := o3.ext y19
  replace k30 := cell_ext k30 y19
  replace k30a := cell_ext k30a y19
  replace k30b := cell_ext k30b y19
  replace k30c := cell_ext k30c y19
  replace o4 := o4.ext y19
  replace k41 := cell_ext k41 y19
  replace k41a := cell_ext k41a y19
  replace k41b := cell_ext k41b y19
  replace k41c := cell_ext k41c y19
  replace o6 := o6.ext y19
  replace o7 := o7.ext y19
  replace k42 := cell_ext k42 y19
  replace k42a := cell_ext k42a y19
  replace k42b := cell_ext k42b y19
  replace k42c := cell_ext k42c y19
  clear y19
  go_wp2_with fail
  refine (heldInterest_c o4.rd (k0 := 1) (by omega) (by omega) (by omega)).mono ?_
  rintro e W20 ⟨_, rfl, rfl, y20⟩
  have q20 := y20.size
  replace X := ext_trans X y20
  replace r0 := r0.ext y20
  replace k0 := cell_ext k0 y20
  replace k0a := cell_ext k0a y20
  replace k0b := cell_ext k0b y20
  replace k0c := cell_ext k0c y20
  replace o2 := o2.ext y20
  replace k40 := cell_ext k40 y20
  replace k40a := cell_ext k40a y20
  replace k40b := cell_ext k40b y20
  replace k40c := cell_ext k40c y20
  replace o3 := o3.ext y20
  replace k30 := cell_ext k30 y20
  replace k30a := cell_ext k30a y20
  replace k30b := cell_ext k30b y20
  replace k30c := cell_ext k30c y20
  replace o4 := o4.ext y20
  replace k41 := cell_ext k41 y20
  replace k41a := cell_ext k41a y20
  replace k41b := cell_ext k41b y20
  replace k41c := cell_ext k41c y20
  replace o6 := o6.ext y20
  replace o7 := o7.ext y20
  replace k42 := cell_ext k42 y20
  replace k42a := cell_ext k42a y20
  replace k42b := cell_ext k42b y20
  replace k42c := cell_ext k42c y20
  clear y20
  go_wp2_with fail
  go_ret
  exact ⟨rfl, X⟩
set_option maxRecDepth 100000 in
theorem lifted (os : Os) (started : os.Started) (H : Type) (enc : TypeId × Value → H) :
    ReturnsInHanded {} Try.checked os 15 .any (Rows.fnExactDecrementHopsSpec.pre6 enc Try.prog Try.f15 Rows.fnExactDecrementHopsRow.domain false) (Rows.fnExactDecrementHopsSpec.post enc Try.prog Try.f15 false true false false) := by
  refine returnsInHanded_of_change (C := Try.checked) own started (by kernel_rfl) Try.func15
    (ChangeSpec.witness6 (enc := enc) (C := Try.checked) false ⟨#[], #[.agg #[.slice none 0 0, .int .i64 0, .int .i64 0, .int .i64 0]], []⟩ 8 (by kernel_rfl) (by kernel_rfl) (by kernel_rfl) (by kernel_rfl)) ?_
  intro W base args ds gs before hval0 hW hcnd _
  have hval : ∀ (j : Nat) t v, Try.f15.params[j]? = some t → args[j]? = some v → Value.okWide Try.prog W .any base t v := hval0
  have hW' := hW
  obtain ⟨p, q, hA0, hV, rfl, hfz, hnd⟩ := hW
  have hA : DataW.TrodAll enc Try.prog W 0 (fun _ => true) true Try.f15.params.toList args.toList ds p := hA0
  rw [Try.params15] at hA hval
  obtain ⟨v0, vs0, d0, ds0, p0, q0, hargs, rfl, rfl, h0, tr0⟩ := trodAll_cons hA
  obtain ⟨rfl, rfl, rfl⟩ := trodAll_nil tr0
  obtain rfl : args = #[v0] := by cases args; simp_all
  obtain ⟨rfl, rfl⟩ := trodVars_none hV
  have k0 := h0
  have lt0 : ∀ x ∈ p0, x.block < W.heap.size := by obtain ⟨m, hm⟩ := k0; exact DataW.trod_lt m _ _ _ hm
  obtain ⟨x0, a0, b0, c0, r0, w0, g0⟩ := rd_want Try.underlying56 (by kernel_rfl) (by kernel_rfl) Try.underlying31 (by kernel_rfl) Try.underlying29 Try.underlying9 (by kernel_rfl) Try.underlying3 Try.underlying3 Try.underlying3 (hval 0 56 v0 rfl rfl) h0
  clear hA0 hval0
  try simp only [List.append_nil] at hW'
  refine (walk W v0 x0 a0 b0 c0 r0 w0 g0).mono fun e W' ⟨he, bel⟩ => ?_
  subst he
  exact ⟨_, rfl, _, _, _, [], _, [], hW', trodAll_mk1 (shut_bool Try.underlying4 _), (trodAll_cons_mk (Below.trod laidOut (by kernel_rfl) (of_decide_eq_true (by kernel_rfl)) k0 bel lt0) trodAll_mk0), rfl, bel.frame _, fun h => by cases h⟩

theorem closed : joinedFacts Try.pinned.checked.prog 15 Try.f15 Rows.fnExactDecrementHopsSpec Rows.fnExactDecrementHopsRow = true := by
  unfold joinedFacts
  rw [show Try.pinned.checked.prog.mayEnter = true from joined1, show (Rows.fnExactDecrementHopsRow.lifted == Try.pinned.checked.prog.liftsFinal) = true from joined2, show (Try.pinned.checked.prog.make == some Rows.fnExactDecrementHopsRow.make) = true from joined3]
  kernel_rfl
theorem over : Rows.fnExactDecrementHopsRow.holds Try.pinned (OpenSpec.ofChange Rows.fnExactDecrementHopsSpec) :=
  OpenClaim.holds_of_wide 15 Try.f15 rfl rfl rfl rfl rfl rfl rfl ⟨rfl, rfl, rfl, rfl, rfl⟩ rfl rfl rfl rfl rfl (by kernel_rfl) Try.func15 closed
    (of_decide_eq_true (by kernel_rfl)) (by unfold Func.isWrapper; first | (rw [if_pos (by decide +kernel)]; kernel_rfl) | (rw [if_neg (by decide +kernel)]; exact ⟨rfl, rfl⟩))
    (fun os started H enc _ => lifted os started H enc)
/-- The statement. -/
theorem proved : Rows.FnExactDecrementHopsSaid := over
end fnExactDecrementHops
end Go.Proofs.Ytbachbanjcabhaa
