/- FnExactEqualInterests holds: impl.EqualInterests and spec.EqualInterests agree at every two interests. No condition. -/
import Derived.Test.YtbachbanjcabhaaFrame
import Derived.Test.YtbachbanjcabhaaFrameW
import Derived.Test.YtbachbanjcabhaaFrameN
import Derived.Test.YtbachbanjcabhaaWant
import Derived.Test.YtbachbanjcabhaaJoined
import Derived.Deep.RegionHeld3
set_option linter.unusedVariables false
namespace Go.Proofs.Ytbachbanjcabhaa
set_option maxHeartbeats 1000000
namespace fnExactEqualInterests
open Go.ChangeShapes Go.WideShapes Go.ChangeAt Go.RowKit
open Go.ChangeMaps (open_string shut_string)
/-- The call returns true and leaves all that was there unturned. -/
theorem walk (w : World) (v0 : Value) (x0 : List ByteArray) (a0 b0 c0 : Int) (r0 : RdW w 0 w.heap.size v0 x0.length (x0.map sv) a0 b0 c0) (w0 : ∀ s ∈ x0, s.size ≤ 9223372036854775807) (g0 : I64 a0 ∧ I64 b0 ∧ I64 c0) (v1 : Value) (x1 : List ByteArray) (a1 b1 c1 : Int) (r1 : RdW w 0 w.heap.size v1 x1.length (x1.map sv) a1 b1 c1) (w1 : ∀ s ∈ x1, s.size ≤ 9223372036854775807) (g1 : I64 a1 ∧ I64 b1 ∧ I64 c1) :
    Calls Try.prog 13 #[v0, v1] w fun e w' => e = .returned (.bool true) ∧ Below w.heap.size w w' := by
  obtain ⟨s0, e0, _⟩ := id r0
  subst e0
  have l0 := wt_len x0
  obtain ⟨s1, e1, _⟩ := id r1
  subst e1
  have l1 := wt_len x1
  have X : Below w.heap.size w ((w.alloc (.cells #[s0, .int .i64 a0, .int .i64 b0, .int .i64 c0] 56)).alloc (.cells #[s1, .int .i64 a1, .int .i64 b1, .int .i64 c1] 56)) := (ext_alloc (ext_alloc (ext_refl w) (.cells #[s0, .int .i64 a0, .int .i64 b0, .int .i64 c0] 56)) (.cells #[s1, .int .i64 a1, .int .i64 b1, .int .i64 c1] 56))
  have k0 : ((w.alloc (.cells #[s0, .int .i64 a0, .int .i64 b0, .int .i64 c0] 56)).alloc (.cells #[s1, .int .i64 a1, .int .i64 b1, .int .i64 c1] 56)).cell? ⟨w.heap.size, 0, none⟩ = some s0 := by simp
  have k0a : ((w.alloc (.cells #[s0, .int .i64 a0, .int .i64 b0, .int .i64 c0] 56)).alloc (.cells #[s1, .int .i64 a1, .int .i64 b1, .int .i64 c1] 56)).cell? ⟨w.heap.size, 1, none⟩ = some (.int .i64 a0) := by first | (simp; done) | exact new_cell w _ _ 1 _ rfl | exact cell_ext (new_cell w _ _ 1 _ rfl) (ext_alloc (ext_refl _) _)
  have k0b : ((w.alloc (.cells #[s0, .int .i64 a0, .int .i64 b0, .int .i64 c0] 56)).alloc (.cells #[s1, .int .i64 a1, .int .i64 b1, .int .i64 c1] 56)).cell? ⟨w.heap.size, 2, none⟩ = some (.int .i64 b0) := by first | (simp; done) | exact new_cell w _ _ 2 _ rfl | exact cell_ext (new_cell w _ _ 2 _ rfl) (ext_alloc (ext_refl _) _)
  have k0c : ((w.alloc (.cells #[s0, .int .i64 a0, .int .i64 b0, .int .i64 c0] 56)).alloc (.cells #[s1, .int .i64 a1, .int .i64 b1, .int .i64 c1] 56)).cell? ⟨w.heap.size, 3, none⟩ = some (.int .i64 c0) := by first | (simp; done) | exact new_cell w _ _ 3 _ rfl | exact cell_ext (new_cell w _ _ 3 _ rfl) (ext_alloc (ext_refl _) _)
  have k1 : ((w.alloc (.cells #[s0, .int .i64 a0, .int .i64 b0, .int .i64 c0] 56)).alloc (.cells #[s1, .int .i64 a1, .int .i64 b1, .int .i64 c1] 56)).cell? ⟨w.heap.size + 1, 0, none⟩ = some s1 := by simp
  have k1a : ((w.alloc (.cells #[s0, .int .i64 a0, .int .i64 b0, .int .i64 c0] 56)).alloc (.cells #[s1, .int .i64 a1, .int .i64 b1, .int .i64 c1] 56)).cell? ⟨w.heap.size + 1, 1, none⟩ = some (.int .i64 a1) := by first | (simp; done) | exact new_cell w _ _ 1 _ rfl | exact cell_ext (new_cell w _ _ 1 _ rfl) (ext_alloc (ext_refl _) _)
  have k1b : ((w.alloc (.cells #[s0, .int .i64 a0, .int .i64 b0, .int .i64 c0] 56)).alloc (.cells #[s1, .int .i64 a1, .int .i64 b1, .int .i64 c1] 56)).cell? ⟨w.heap.size + 1, 2, none⟩ = some (.int .i64 b1) := by first | (simp; done) | exact new_cell w _ _ 2 _ rfl | exact cell_ext (new_cell w _ _ 2 _ rfl) (ext_alloc (ext_refl _) _)
  have k1c : ((w.alloc (.cells #[s0, .int .i64 a0, .int .i64 b0, .int .i64 c0] 56)).alloc (.cells #[s1, .int .i64 a1, .int .i64 b1, .int .i64 c1] 56)).cell? ⟨w.heap.size + 1, 3, none⟩ = some (.int .i64 c1) := by first | (simp; done) | exact new_cell w _ _ 3 _ rfl | exact cell_ext (new_cell w _ _ 3 _ rfl) (ext_alloc (ext_refl _) _)
  replace r0 := r0.ext X
  replace r1 := r1.ext X
  go_enter Try.func13, Try.ntmps13
  skip
  go_wp2_with fail
  refine (szInterest_c r0 w0 (by omega) (by omega)).mono ?_
  rintro e W1 ⟨_, rfl, rfl, y1⟩
  have q1 := y1.size
  replace X := ext_trans X y1
  replace r0 := r0.ext y1
  replace r1 := r1.ext y1
  replace k0 := cell_ext k0 y1
  replace k0a := cell_ext k0a y1
  replace k0b := cell_ext k0b y1
  replace k0c := cell_ext k0c y1
  replace k1 := cell_ext k1 y1
  replace k1a := cell_ext k1a y1
  replace k1b := cell_ext k1b y1
  replace k1c := cell_ext k1c y1
  clear y1
  by_cases h0 : ¬ ((wt x0 : Nat) : Int) ≤ 1048576
  · rw [szS_no h0]
    go_wp2
    go_ret
    exact ⟨rfl, X⟩
  rw [szS_ok (show ((wt x0 : Nat) : Int) ≤ 1048576 by omega)]
  go_wp2_with fail
  refine (szInterest_c r1 w1 (by omega) (by omega)).mono ?_
  rintro e W2 ⟨_, rfl, rfl, y2⟩
  have q2 := y2.size
  replace X := ext_trans X y2
  replace r0 := r0.ext y2
  replace r1 := r1.ext y2
  replace k0 := cell_ext k0 y2
  replace k0a := cell_ext k0a y2
  replace k0b := cell_ext k0b y2
  replace k0c := cell_ext k0c y2
  replace k1 := cell_ext k1 y2
  replace k1a := cell_ext k1a y2
  replace k1b := cell_ext k1b y2
  replace k1c := cell_ext k1c y2
  clear y2
  by_cases h1 : ¬ ((wt x1 : Nat) : Int) ≤ 1048576 - ((wt x0 : Nat) : Int)
  · rw [szS_no h1]
    go_wp2
    go_ret
    exact ⟨rfl, X⟩
  rw [szS_ok (show ((wt x1 : Nat) : Int) ≤ 1048576 - ((wt x0 : Nat) : Int) by omega)]
  go_wp2_with fail
  have y2 := Below.drew (ext_refl W2)
  have qd2 := y2.size
  replace X := ext_trans X y2
  replace r0 := r0.ext y2
  replace r1 := r1.ext y2
  replace k0 := cell_ext k0 y2
  replace k0a := cell_ext k0a y2
  replace k0b := cell_ext k0b y2
  replace k0c := cell_ext k0c y2
  replace k1 := cell_ext k1 y2
  replace k1a := cell_ext k1a y2
  replace k1b := cell_ext k1b y2
  replace k1c := cell_ext k1c y2
  clear y2
  go_region_held3 (fun w' => w'.cell? ⟨w.heap.size, 0, none⟩ = some s0 ∧ w'.cell? ⟨w.heap.size, 1, none⟩ = some (.int .i64 a0) ∧ w'.cell? ⟨w.heap.size, 2, none⟩ = some (.int .i64 b0) ∧ w'.cell? ⟨w.heap.size, 3, none⟩ = some (.int .i64 c0) ∧ w'.cell? ⟨w.heap.size + 1, 0, none⟩ = some s1 ∧ w'.cell? ⟨w.heap.size + 1, 1, none⟩ = some (.int .i64 a1) ∧ w'.cell? ⟨w.heap.size + 1, 2, none⟩ = some (.int .i64 b1) ∧ w'.cell? ⟨w.heap.size + 1, 3, none⟩ = some (.int .i64 c1))
    (first | exact ⟨k0, k0a, k0b, k0c, k1, k1a, k1b, k1c⟩)
    (first
      | (go_at_call 51; have C := toInterest_c r0 (by omega); (with_reducible refine C.mono ?_); clear C; rintro e W3 ⟨u1, rfl, o1, y3⟩; have q3 := y3.size; replace X := ext_trans X y3; replace r0 := r0.ext y3; replace r1 := r1.ext y3; replace k0 := cell_ext k0 y3; replace k0a := cell_ext k0a y3; replace k0b := cell_ext k0b y3; replace k0c := cell_ext k0c y3; replace k1 := cell_ext k1 y3; replace k1a := cell_ext k1a y3; replace k1b := cell_ext k1b y3; replace k1c := cell_ext k1c y3; clear y3)
      | (go_at_call 51; have C := toInterest_c r1 (by omega); (with_reducible refine C.mono ?_); clear C; rintro e W4 ⟨u2, rfl, o2, y4⟩; have q4 := y4.size; replace X := ext_trans X y4; replace r0 := r0.ext y4; replace r1 := r1.ext y4; replace k0 := cell_ext k0 y4; replace k0a := cell_ext k0a y4; replace k0b := cell_ext k0b y4; replace k0c := cell_ext k0c y4; replace k1 := cell_ext k1 y4; replace k1a := cell_ext k1a y4; replace k1b := cell_ext k1b y4; replace k1c := cell_ext k1c y4; replace o1 := o1.ext y4; clear y4)
      | (go_at_call 50; have C := specEqualInterests_c o1.rd o2.rd; (with_reducible refine C.mono ?_); clear C; rintro e W5 ⟨_, rfl, rfl, y5⟩; have q5 := y5.size; replace X := ext_trans X y5; replace r0 := r0.ext y5; replace r1 := r1.ext y5; replace k0 := cell_ext k0 y5; replace k0a := cell_ext k0a y5; replace k0b := cell_ext k0b y5; replace k0c := cell_ext k0c y5; replace k1 := cell_ext k1 y5; replace k1a := cell_ext k1a y5; replace k1b := cell_ext k1b y5; replace k1c := cell_ext k1c y5; replace o1 := o1.ext y5; replace o2 := o2.ext y5; clear y5))
  clear o1 o2
  go_wp2_with fail
  refine (toInterest_c r0 (by omega)).mono ?_
  rintro e W6 ⟨u3, rfl, o3, y6⟩
  have q6 := y6.size
  replace X := ext_trans X y6
  replace r0 := r0.ext y6
  replace r1 := r1.ext y6
  replace k0 := cell_ext k0 y6
  replace k0a := cell_ext k0a y6
  replace k0b := cell_ext k0b y6
  replace k0c := cell_ext k0c y6
  replace k1 := cell_ext k1 y6
  replace k1a := cell_ext k1a y6
  replace k1b := cell_ext k1b y6
  replace k1c := cell_ext k1c y6
  clear y6
  obtain ⟨z7, rfl, g7⟩ := id o3
  obtain ⟨a7', c7', rfl, _⟩ := g7.rd.form
  clear g7
  have y7 := ext_alloc (ext_refl W6) (.cells #[.slice a7' (x0.length) c7', .int .i64 a0, .int .i64 b0, .int .i64 c0] 60)
  have q7 := y7.size
  have p7 : W6.heap.size + 1 = (W6.alloc (.cells #[.slice a7' (x0.length) c7', .int .i64 a0, .int .i64 b0, .int .i64 c0] 60)).heap.size := by simp
  have k30 : (W6.alloc (.cells #[.slice a7' (x0.length) c7', .int .i64 a0, .int .i64 b0, .int .i64 c0] 60)).cell? ⟨W6.heap.size, 0, none⟩ = some (.slice a7' (x0.length) c7') := by simp
  have k30a : (W6.alloc (.cells #[.slice a7' (x0.length) c7', .int .i64 a0, .int .i64 b0, .int .i64 c0] 60)).cell? ⟨W6.heap.size, 1, none⟩ = some (.int .i64 a0) := by simp
  have k30b : (W6.alloc (.cells #[.slice a7' (x0.length) c7', .int .i64 a0, .int .i64 b0, .int .i64 c0] 60)).cell? ⟨W6.heap.size, 2, none⟩ = some (.int .i64 b0) := by simp
  have k30c : (W6.alloc (.cells #[.slice a7' (x0.length) c7', .int .i64 a0, .int .i64 b0, .int .i64 c0] 60)).cell? ⟨W6.heap.size, 3, none⟩ = some (.int .i64 c0) := by simp
  replace X := ext_trans X y7
  replace r0 := r0.ext y7
  replace r1 := r1.ext y7
  replace k0 := cell_ext k0 y7
  replace k0a := cell_ext k0a y7
  replace k0b := cell_ext k0b y7
  replace k0c := cell_ext k0c y7
  replace k1 := cell_ext k1 y7
  replace k1a := cell_ext k1a y7
  replace k1b := cell_ext k1b y7
  replace k1c := cell_ext k1c y7
  replace o3 := o3.ext y7
  clear y7
  go_wp2_with fail
  generalize W6.alloc (.cells #[.slice a7' (x0.length) c7', .int .i64 a0, .int .i64 b0, .int .i64 c0] 60) = W7 at *
  go_wp2_with fail
  refine (toInterest_c r1 (by omega)).mono ?_
  rintro e W8 ⟨u4, rfl, o4, y8⟩
  have q8 := y8.size
  replace X := ext_trans X y8
  replace r0 := r0.ext y8
  replace r1 := r1.ext y8
  replace k0 := cell_ext k0 y8
  replace k0a := cell_ext k0a y8
  replace k0b := cell_ext k0b y8
  replace k0c := cell_ext k0c y8
  replace k1 := cell_ext k1 y8
  replace k1a := cell_ext k1a y8
  replace k1b := cell_ext k1b y8
  replace k1c := cell_ext k1c y8
  replace o3 := o3.ext y8
  replace k30 := cell_ext k30 y8
  replace k30a := cell_ext k30a y8
  replace k30b := cell_ext k30b y8
  replace k30c := cell_ext k30c y8
  clear y8
  obtain ⟨z9, rfl, g9⟩ := id o4
  obtain ⟨a9', c9', rfl, _⟩ := g9.rd.form
  clear g9
  have y9 := ext_alloc (ext_refl W8) (.cells #[.slice a9' (x1.length) c9', .int .i64 a1, .int .i64 b1, .int .i64 c1] 60)
  have q9 := y9.size
  have p9 : W8.heap.size + 1 = (W8.alloc (.cells #[.slice a9' (x1.length) c9', .int .i64 a1, .int .i64 b1, .int .i64 c1] 60)).heap.size := by simp
  have k31 : (W8.alloc (.cells #[.slice a9' (x1.length) c9', .int .i64 a1, .int .i64 b1, .int .i64 c1] 60)).cell? ⟨W8.heap.size, 0, none⟩ = some (.slice a9' (x1.length) c9') := by simp
  have k31a : (W8.alloc (.cells #[.slice a9' (x1.length) c9', .int .i64 a1, .int .i64 b1, .int .i64 c1] 60)).cell? ⟨W8.heap.size, 1, none⟩ = some (.int .i64 a1) := by simp
  have k31b : (W8.alloc (.cells #[.slice a9' (x1.length) c9', .int .i64 a1, .int .i64 b1, .int .i64 c1] 60)).cell? ⟨W8.heap.size, 2, none⟩ = some (.int .i64 b1) := by simp
  have k31c : (W8.alloc (.cells #[.slice a9' (x1.length) c9', .int .i64 a1, .int .i64 b1, .int .i64 c1] 60)).cell? ⟨W8.heap.size, 3, none⟩ = some (.int .i64 c1) := by simp
  replace X := ext_trans X y9
  replace r0 := r0.ext y9
  replace r1 := r1.ext y9
  replace k0 := cell_ext k0 y9
  replace k0a := cell_ext k0a y9
  replace k0b := cell_ext k0b y9
  replace k0c := cell_ext k0c y9
  replace k1 := cell_ext k1 y9
  replace k1a := cell_ext k1a y9
  replace k1b := cell_ext k1b y9
  replace k1c := cell_ext k1c y9
  replace o3 := o3.ext y9
  replace k30 := cell_ext k30 y9
  replace k30a := cell_ext k30a y9
  replace k30b := cell_ext k30b y9
  replace k30c := cell_ext k30c y9
  replace o4 := o4.ext y9
  clear y9
  go_wp2_with fail
  generalize W8.alloc (.cells #[.slice a9' (x1.length) c9', .int .i64 a1, .int .i64 b1, .int .i64 c1] 60) = W9 at *
  go_wp2_with fail
  refine (implEqualInterests_c o3.rd o4.rd).mono ?_
  rintro e W10 ⟨_, rfl, rfl, y10⟩
  have q10 := y10.size
  replace X := ext_trans X y10
  replace r0 := r0.ext y10
  replace r1 := r1.ext y10
  replace k0 := cell_ext k0 y10
  replace k0a := cell_ext k0a y10
  replace k0b := cell_ext k0b y10
  replace k0c := cell_ext k0c y10
  replace k1 := cell_ext k1 y10
  replace k1a := cell_ext k1a y10
  replace k1b := cell_ext k1b y10
  replace k1c := cell_ext k1c y10
  replace o3 := o3.ext y10
  replace k30 := cell_ext k30 y10
  replace k30a := cell_ext k30a y10
  replace k30b := cell_ext k30b y10
  replace k30c := cell_ext k30c y10
  replace o4 := o4.ext y10
  replace k31 := cell_ext k31 y10
  replace k31a := cell_ext k31a y10
  replace k31b := cell_ext k31b y10
  replace k31c := cell_ext k31c y10
  clear y10
  go_wp2_with fail
  have y10 := Below.drew (ext_refl W10)
  have qd10 := y10.size
  replace X := ext_trans X y10
  replace r0 := r0.ext y10
  replace r1 := r1.ext y10
  replace k0 := cell_ext k0 y10
  replace k0a := cell_ext k0a y10
  replace k0b := cell_ext k0b y10
  replace k0c := cell_ext k0c y10
  replace k1 := cell_ext k1 y10
  replace k1a := cell_ext k1a y10
  replace k1b := cell_ext k1b y10
  replace k1c := cell_ext k1c y10
  replace o3 := o3.ext y10
  replace k30 := cell_ext k30 y10
  replace k30a := cell_ext k30a y10
  replace k30b := cell_ext k30b y10
  replace k30c := cell_ext k30c y10
  replace o4 := o4.ext y10
  replace k31 := cell_ext k31 y10
  replace k31a := cell_ext k31a y10
  replace k31b := cell_ext k31b y10
  replace k31c := cell_ext k31c y10
  clear y10
  go_region_held3 (fun w' => w'.cell? ⟨W6.heap.size, 0, none⟩ = some (.slice a7' (x0.length) c7') ∧ w'.cell? ⟨W6.heap.size, 1, none⟩ = some (.int .i64 a0) ∧ w'.cell? ⟨W6.heap.size, 2, none⟩ = some (.int .i64 b0) ∧ w'.cell? ⟨W6.heap.size, 3, none⟩ = some (.int .i64 c0) ∧ w'.cell? ⟨w.heap.size, 0, none⟩ = some s0 ∧ w'.cell? ⟨w.heap.size, 1, none⟩ = some (.int .i64 a0) ∧ w'.cell? ⟨w.heap.size, 2, none⟩ = some (.int .i64 b0) ∧ w'.cell? ⟨w.heap.size, 3, none⟩ = some (.int .i64 c0))
    (first | exact ⟨k30, k30a, k30b, k30c, k0, k0a, k0b, k0c⟩)
    (first
      | (go_at_call 51; have C := toInterest_c r0 (by omega); (with_reducible refine C.mono ?_); clear C; rintro e W11 ⟨u5, rfl, o5, y11⟩; have q11 := y11.size; replace X := ext_trans X y11; replace r0 := r0.ext y11; replace r1 := r1.ext y11; replace k0 := cell_ext k0 y11; replace k0a := cell_ext k0a y11; replace k0b := cell_ext k0b y11; replace k0c := cell_ext k0c y11; replace k1 := cell_ext k1 y11; replace k1a := cell_ext k1a y11; replace k1b := cell_ext k1b y11; replace k1c := cell_ext k1c y11; replace o3 := o3.ext y11; replace k30 := cell_ext k30 y11; replace k30a := cell_ext k30a y11; replace k30b := cell_ext k30b y11; replace k30c := cell_ext k30c y11; replace o4 := o4.ext y11; replace k31 := cell_ext k31 y11; replace k31a := cell_ext k31a y11; replace k31b := cell_ext k31b y11; replace k31c := cell_ext k31c y11; clear y11)
      | (go_at_call 53; have C := eqInterestSame_c o3.rd o5.rd; (with_reducible refine C.mono ?_); clear C; rintro e W12 ⟨_, rfl, rfl, y12⟩; have q12 := y12.size; replace X := ext_trans X y12; replace r0 := r0.ext y12; replace r1 := r1.ext y12; replace k0 := cell_ext k0 y12; replace k0a := cell_ext k0a y12; replace k0b := cell_ext k0b y12; replace k0c := cell_ext k0c y12; replace k1 := cell_ext k1 y12; replace k1a := cell_ext k1a y12; replace k1b := cell_ext k1b y12; replace k1c := cell_ext k1c y12; replace o3 := o3.ext y12; replace k30 := cell_ext k30 y12; replace k30a := cell_ext k30a y12; replace k30b := cell_ext k30b y12; replace k30c := cell_ext k30c y12; replace o4 := o4.ext y12; replace k31 := cell_ext k31 y12; replace k31a := cell_ext k31a y12; replace k31b := cell_ext k31b y12; replace k31c := cell_ext k31c y12; replace o5 := o5.ext y12; clear y12))
  clear o5
  go_wp2_with fail
  have y12 := Below.drew (ext_refl W12)
  have qd12 := y12.size
  replace X := ext_trans X y12
  replace r0 := r0.ext y12
  replace r1 := r1.ext y12
  replace k0 := cell_ext k0 y12
  replace k0a := cell_ext k0a y12
  replace k0b := cell_ext k0b y12
  replace k0c := cell_ext k0c y12
  replace k1 := cell_ext k1 y12
  replace k1a := cell_ext k1a y12
  replace k1b := cell_ext k1b y12
  replace k1c := cell_ext k1c y12
  replace o3 := o3.ext y12
  replace k30 := cell_ext k30 y12
  replace k30a := cell_ext k30a y12
  replace k30b := cell_ext k30b y12
  replace k30c := cell_ext k30c y12
  replace o4 := o4.ext y12
  replace k31 := cell_ext k31 y12
  replace k31a := cell_ext k31a y12
  replace k31b := cell_ext k31b y12
  replace k31c := cell_ext k31c y12
  clear y12
  go_region_held3 (fun w' => w'.cell? ⟨W8.heap.size, 0, none⟩ = some (.slice a9' (x1.length) c9') ∧ w'.cell? ⟨W8.heap.size, 1, none⟩ = some (.int .i64 a1) ∧ w'.cell? ⟨W8.heap.size, 2, none⟩ = some (.int .i64 b1) ∧ w'.cell? ⟨W8.heap.size, 3, none⟩ = some (.int .i64 c1) ∧ w'.cell? ⟨w.heap.size + 1, 0, none⟩ = some s1 ∧ w'.cell? ⟨w.heap.size + 1, 1, none⟩ = some (.int .i64 a1) ∧ w'.cell? ⟨w.heap.size + 1, 2, none⟩ = some (.int .i64 b1) ∧ w'.cell? ⟨w.heap.size + 1, 3, none⟩ = some (.int .i64 c1))
    (first | exact ⟨k31, k31a, k31b, k31c, k1, k1a, k1b, k1c⟩)
    (first
      | (go_at_call 51; have C := toInterest_c r1 (by omega); (with_reducible refine C.mono ?_); clear C; rintro e W13 ⟨u6, rfl, o6, y13⟩; have q13 := y13.size; replace X := ext_trans X y13; replace r0 := r0.ext y13; replace r1 := r1.ext y13; replace k0 := cell_ext k0 y13; replace k0a := cell_ext k0a y13; replace k0b := cell_ext k0b y13; replace k0c := cell_ext k0c y13; replace k1 := cell_ext k1 y13; replace k1a := cell_ext k1a y13; replace k1b := cell_ext k1b y13; replace k1c := cell_ext k1c y13; replace o3 := o3.ext y13; replace k30 := cell_ext k30 y13; replace k30a := cell_ext k30a y13; replace k30b := cell_ext k30b y13; replace k30c := cell_ext k30c y13; replace o4 := o4.ext y13; replace k31 := cell_ext k31 y13; replace k31a := cell_ext k31a y13; replace k31b := cell_ext k31b y13; replace k31c := cell_ext k31c y13; clear y13)
      | (go_at_call 53; have C := eqInterestSame_c o4.rd o6.rd; (with_reducible refine C.mono ?_); clear C; rintro e W14 ⟨_, rfl, rfl, y14⟩; have q14 := y14.size; replace X := ext_trans X y14; replace r0 := r0.ext y14; replace r1 := r1.ext y14; replace k0 := cell_ext k0 y14; replace k0a := cell_ext k0a y14; replace k0b := cell_ext k0b y14; replace k0c := cell_ext k0c y14; replace k1 := cell_ext k1 y14; replace k1a := cell_ext k1a y14; replace k1b := cell_ext k1b y14; replace k1c := cell_ext k1c y14; replace o3 := o3.ext y14; replace k30 := cell_ext k30 y14; replace k30a := cell_ext k30a y14; replace k30b := cell_ext k30b y14; replace k30c := cell_ext k30c y14; replace o4 := o4.ext y14; replace k31 := cell_ext k31 y14; replace k31a := cell_ext k31a y14; replace k31b := cell_ext k31b y14; replace k31c := cell_ext k31c y14; replace o6 := o6.ext y14; clear y14))
  clear o6
  go_wp2_with fail
  go_ret
  exact ⟨rfl, X⟩
set_option maxRecDepth 100000 in
theorem lifted (os : Os) (started : os.Started) (H : Type) (enc : TypeId × Value → H) :
    ReturnsInHanded {} Try.checked os 13 .any (Rows.fnExactEqualInterestsSpec.pre6 enc Try.prog Try.f13 Rows.fnExactEqualInterestsRow.domain false) (Rows.fnExactEqualInterestsSpec.post enc Try.prog Try.f13 false true false false) := by
  refine returnsInHanded_of_change (C := Try.checked) own started (by kernel_rfl) Try.func13
    (ChangeSpec.witness6 (enc := enc) (C := Try.checked) false ⟨#[], #[.agg #[.slice none 0 0, .int .i64 0, .int .i64 0, .int .i64 0], .agg #[.slice none 0 0, .int .i64 0, .int .i64 0, .int .i64 0]], []⟩ 8 (by kernel_rfl) (by kernel_rfl) (by kernel_rfl) (by kernel_rfl)) ?_
  intro W base args ds gs before hval0 hW hcnd _
  have hval : ∀ (j : Nat) t v, Try.f13.params[j]? = some t → args[j]? = some v → Value.okWide Try.prog W .any base t v := hval0
  have hW' := hW
  obtain ⟨p, q, hA0, hV, rfl, hfz, hnd⟩ := hW
  have hA : DataW.TrodAll enc Try.prog W 0 (fun _ => true) true Try.f13.params.toList args.toList ds p := hA0
  rw [Try.params13] at hA hval
  obtain ⟨v0, vs0, d0, ds0, p0, q0, hargs, rfl, rfl, h0, tr0⟩ := trodAll_cons hA
  obtain ⟨v1, vs1, d1, ds1, p1, q1, rfl, rfl, rfl, h1, tr1⟩ := trodAll_cons tr0
  obtain ⟨rfl, rfl, rfl⟩ := trodAll_nil tr1
  obtain rfl : args = #[v0, v1] := by cases args; simp_all
  obtain ⟨rfl, rfl⟩ := trodVars_none hV
  have k0 := h0
  have lt0 : ∀ x ∈ p0, x.block < W.heap.size := by obtain ⟨m, hm⟩ := k0; exact DataW.trod_lt m _ _ _ hm
  obtain ⟨x0, a0, b0, c0, r0, w0, g0⟩ := rd_want Try.underlying56 (by kernel_rfl) (by kernel_rfl) Try.underlying31 (by kernel_rfl) Try.underlying29 Try.underlying9 (by kernel_rfl) Try.underlying3 Try.underlying3 Try.underlying3 (hval 0 56 v0 rfl rfl) h0
  have k1 := h1
  have lt1 : ∀ x ∈ p1, x.block < W.heap.size := by obtain ⟨m, hm⟩ := k1; exact DataW.trod_lt m _ _ _ hm
  obtain ⟨x1, a1, b1, c1, r1, w1, g1⟩ := rd_want Try.underlying56 (by kernel_rfl) (by kernel_rfl) Try.underlying31 (by kernel_rfl) Try.underlying29 Try.underlying9 (by kernel_rfl) Try.underlying3 Try.underlying3 Try.underlying3 (hval 1 56 v1 rfl rfl) h1
  clear hA0 hval0
  try simp only [List.append_nil] at hW'
  refine (walk W v0 x0 a0 b0 c0 r0 w0 g0 v1 x1 a1 b1 c1 r1 w1 g1).mono fun e W' ⟨he, bel⟩ => ?_
  subst he
  exact ⟨_, rfl, _, _, _, [], _, [], hW', trodAll_mk1 (shut_bool Try.underlying4 _), (trodAll_cons_mk (Below.trod laidOut (by kernel_rfl) (of_decide_eq_true (by kernel_rfl)) k0 bel lt0) (trodAll_cons_mk (Below.trod laidOut (by kernel_rfl) (of_decide_eq_true (by kernel_rfl)) k1 bel lt1) trodAll_mk0)), rfl, bel.frame _, fun h => by cases h⟩

theorem closed : joinedFacts Try.pinned.checked.prog 13 Try.f13 Rows.fnExactEqualInterestsSpec Rows.fnExactEqualInterestsRow = true := by
  unfold joinedFacts
  rw [show Try.pinned.checked.prog.mayEnter = true from joined1, show (Rows.fnExactEqualInterestsRow.lifted == Try.pinned.checked.prog.liftsFinal) = true from joined2, show (Try.pinned.checked.prog.make == some Rows.fnExactEqualInterestsRow.make) = true from joined3]
  kernel_rfl
theorem over : Rows.fnExactEqualInterestsRow.holds Try.pinned (OpenSpec.ofChange Rows.fnExactEqualInterestsSpec) :=
  OpenClaim.holds_of_wide 13 Try.f13 rfl rfl rfl rfl rfl rfl rfl ⟨rfl, rfl, rfl, rfl, rfl⟩ rfl rfl rfl rfl rfl (by kernel_rfl) Try.func13 closed
    (of_decide_eq_true (by kernel_rfl)) (by unfold Func.isWrapper; first | (rw [if_pos (by decide +kernel)]; kernel_rfl) | (rw [if_neg (by decide +kernel)]; exact ⟨rfl, rfl⟩))
    (fun os started H enc _ => lifted os started H enc)
/-- The statement. -/
theorem proved : Rows.FnExactEqualInterestsSaid := over
end fnExactEqualInterests
end Go.Proofs.Ytbachbanjcabhaa
