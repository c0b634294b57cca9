/- FnVars holds: integers and byte slices are decoded from their encodings. No condition. -/
import Derived.Test.YtiikpkkpacjamaaFrame
import Derived.Test.YtiikpkkpacjamaaBig
import Derived.Test.YtiikpkkpacjamaaDc
import Derived.Test.YtiikpkkpacjamaaVl
import Derived.Deep.RegionHeld3
import Derived.IntWalk
set_option linter.unusedVariables false
namespace Go.Proofs.Ytiikpkkpacjamaa
theorem rvVal_form (V : Option (Nat × Nat)) (i : Int) : ∃ (A B : Int) (G : Bool), rvVal i V = .tuple #[.int .i64 A, .int .i64 B, .bool G] ∧ (G = true → ∃ n c : Nat, V = some (n, c) ∧ A = n ∧ B = i + c) := by
  cases V with
  | none => exact ⟨0, 0, false, rfl, fun h => by cases h⟩
  | some r => obtain ⟨n, c⟩ := r; exact ⟨n, i + c, true, rfl, fun _ => ⟨n, c, rfl, rfl, rfl⟩⟩
theorem Rd.takeM {w : World} {lo hi n k cap : Nat} {a : Option Addr} {xs : List UInt8} (h : Rd w lo hi 1 (.slice a n cap) n (xs.map bv)) (hk : k ≤ n) : Rd w lo hi 1 (.slice a k cap) k ((xs.take k).map bv) := by
  rw [List.map_take]; exact h.takeB hk
set_option maxRecDepth 100000
set_option maxHeartbeats 8000000
namespace fnVars
open Go.ChangeShapes Go.WideShapes Go.ChangeAt Go.RowKit
open Go.ChangeMaps (open_string shut_string)
/-- The call returns true and leaves all that was there unturned. -/
theorem walk (w : World) (v0 : Value) (n0 : Nat) (x0 : List UInt8) (r0 : Rd w 0 w.heap.size 1 v0 n0 (x0.map bv)) :
    Calls Try.prog 3 #[v0] w fun e w' => e = .returned (.bool true) ∧ Below w.heap.size w w' := by
  obtain ⟨b0, c0, rfl, hn0⟩ := r0.form
  by_cases h1 : 1048576 < n0
  · go_enter Try.func3, Try.ntmps3
    go_wp2_with fail
    refine (big_c r0 (decide_eq_true h1)).mono ?_
    rintro e w1 ⟨_, rfl, rfl, y1⟩
    go_wp2
    go_ret
    exact ⟨rfl, y1⟩
  · skip
    go_enter Try.func3, Try.ntmps3
    have X := ext_refl w
    go_wp2_with fail
    refine (big_c r0 (decide_eq_false h1)).mono ?_
    rintro e W1 ⟨_, rfl, rfl, y1⟩
    have q1 := y1.size
    replace X := ext_trans X y1
    replace r0 := r0.ext y1
    clear y1
    go_wp2_with fail
    refine (DrawAppendVarint_c r0 (by omega) (by omega)).mono ?_
    rintro e W2 ⟨_, rfl, ⟨u1, n1, rfl, b1, o1, l1⟩, y2⟩
    have q2 := y2.size
    replace X := ext_trans X y2
    replace r0 := r0.ext y2
    clear y2
    obtain ⟨a1, c1, rfl, _⟩ := o1.form
    obtain ⟨y2, hy2⟩ : ∃ y2, av b1 n1 = y2 := ⟨_, rfl⟩
    have hl2 := av_len b1 n1
    rw [hy2] at hl2
    have HY2 := hid hy2
    clear hy2
    go_wp2_with fail
    have C := implAppendVarint_c o1 (n := n1) (by omega)
    rw [HY2.out] at C
    refine C.mono ?_
    clear C
    rintro e W3 ⟨u2, rfl, o2, y3⟩
    have q3 := y3.size
    replace X := ext_trans X y3
    replace r0 := r0.ext y3
    replace o1 := o1.ext y3
    clear y3
    obtain ⟨a2, c2, rfl, _⟩ := o2.rd.form
    go_wp2_with fail
    refine (DrawReadVarint_c r0 (by omega) (by omega)).mono ?_
    rintro e W4 ⟨_, rfl, ⟨u3, i3, rfl, b3, o3, l3⟩, y4⟩
    have q4 := y4.size
    replace X := ext_trans X y4
    replace r0 := r0.ext y4
    replace o1 := o1.ext y4
    replace o2 := o2.ext y4
    clear y4
    obtain ⟨a3, c3, rfl, _⟩ := o3.form
    obtain ⟨A, Bq, G, hRV, hG⟩ := rvVal_form (rv b3 i3) i3
    have HRV := hid hRV
    have HG := hid hG
    clear hRV hG
    go_wp2_with fail
    have C := implReadVarint_c o3 (at_ := i3)
    rw [HRV.out] at C
    refine C.mono ?_
    clear C
    rintro e W5 ⟨_, rfl, rfl, y5⟩
    have q5 := y5.size
    replace X := ext_trans X y5
    replace r0 := r0.ext y5
    replace o1 := o1.ext y5
    replace o2 := o2.ext y5
    replace o3 := o3.ext y5
    clear y5
    go_wp2_with fail
    have C := specReadVarint_c o3 (at_ := i3)
    rw [HRV.out] at C
    refine C.mono ?_
    clear C
    rintro e W6 ⟨_, rfl, rfl, y6⟩
    have q6 := y6.size
    replace X := ext_trans X y6
    replace r0 := r0.ext y6
    replace o1 := o1.ext y6
    replace o2 := o2.ext y6
    replace o3 := o3.ext y6
    clear y6
    go_wp2_with fail
    refine (DrawAppendBytes_c r0 (by omega) (by omega)).mono ?_
    rintro e W7 ⟨_, rfl, ⟨u4, u5, rfl, ⟨b4, o4, l4⟩, ⟨b5, o5, l5⟩⟩, y7⟩
    have q7 := y7.size
    replace X := ext_trans X y7
    replace r0 := r0.ext y7
    replace o1 := o1.ext y7
    replace o2 := o2.ext y7
    replace o3 := o3.ext y7
    clear y7
    obtain ⟨a4, c4, rfl, _⟩ := o4.form
    obtain ⟨a5, c5, rfl, _⟩ := o5.form
    obtain ⟨y6, n6, hy6, hn6⟩ : ∃ y6 n6, av b4 (b5.length : Int) ++ b5 = y6 ∧ (av b4 (b5.length : Int)).length + b5.length = n6 := ⟨_, _, rfl, rfl⟩
    have hl6 : n6 ≤ 100 := by have := av_len b4 (b5.length : Int); omega
    have hrb := rb_ab b4 b5 (by omega)
    rw [hy6, show y6.length = n6 by rw [← hy6, List.length_append, hn6]] at hrb
    have HRB := hid hrb
    have HY6 := hid hy6
    have HN6 := hid hn6
    clear hy6 hn6 hrb
    go_wp2_with fail
    have C := implAppendBytes_c o4 o5 (by omega) (by omega)
    rw [HY6.out, HN6.out] at C
    refine C.mono ?_
    clear C
    rintro e W8 ⟨u6, rfl, o6, y8⟩
    have q8 := y8.size
    replace X := ext_trans X y8
    replace r0 := r0.ext y8
    replace o1 := o1.ext y8
    replace o2 := o2.ext y8
    replace o3 := o3.ext y8
    replace o4 := o4.ext y8
    replace o5 := o5.ext y8
    clear y8
    obtain ⟨a6, c6, rfl, _⟩ := o6.rd.form
    go_wp2_with fail
    refine (DrawReadBytes_c r0 (by omega) (by omega)).mono ?_
    rintro e W9 ⟨_, rfl, ⟨u7, j7, m7, rfl, b7, o7, l7⟩, y9⟩
    have q9 := y9.size
    replace X := ext_trans X y9
    replace r0 := r0.ext y9
    replace o1 := o1.ext y9
    replace o2 := o2.ext y9
    replace o3 := o3.ext y9
    replace o4 := o4.ext y9
    replace o5 := o5.ext y9
    replace o6 := o6.ext y9
    clear y9
    obtain ⟨a7, c7, rfl, _⟩ := o7.form
    go_wp2_with fail
    refine (implReadBytes_c o7 (by omega)).mono ?_
    rintro e W10 ⟨_, rfl, ⟨u8, rfl, o8⟩, y10⟩
    have q10 := y10.size
    replace X := ext_trans X y10
    replace r0 := r0.ext y10
    replace o1 := o1.ext y10
    replace o2 := o2.ext y10
    replace o3 := o3.ext y10
    replace o4 := o4.ext y10
    replace o5 := o5.ext y10
    replace o6 := o6.ext y10
    replace o7 := o7.ext y10
    clear y10
    go_wp2_with fail
    refine (specReadBytes_c o7 (by omega)).mono ?_
    rintro e W11 ⟨_, rfl, ⟨u9, rfl, o9⟩, y11⟩
    have q11 := y11.size
    replace X := ext_trans X y11
    replace r0 := r0.ext y11
    replace o1 := o1.ext y11
    replace o2 := o2.ext y11
    replace o3 := o3.ext y11
    replace o4 := o4.ext y11
    replace o5 := o5.ext y11
    replace o6 := o6.ext y11
    replace o7 := o7.ext y11
    replace o8 := o8.ext y11
    clear y11
    go_wp2_with fail
    have C := specAppendVarint_c o1 (n := n1) (by omega)
    rw [HY2.out] at C
    refine C.mono ?_
    clear C
    rintro e W12 ⟨u10, rfl, o10, y12⟩
    have q12 := y12.size
    replace X := ext_trans X y12
    replace r0 := r0.ext y12
    replace o1 := o1.ext y12
    replace o2 := o2.ext y12
    replace o3 := o3.ext y12
    replace o4 := o4.ext y12
    replace o5 := o5.ext y12
    replace o6 := o6.ext y12
    replace o7 := o7.ext y12
    replace o8 := o8.ext y12
    replace o9 := o9.ext y12
    clear y12
    go_wp2_with fail
    have C := same_c o2.rd o10.rd
    rw [decide_eq_true rfl] at C
    refine C.mono ?_
    clear C
    rintro e W13 ⟨_, rfl, rfl, y13⟩
    have q13 := y13.size
    replace X := ext_trans X y13
    replace r0 := r0.ext y13
    replace o1 := o1.ext y13
    replace o2 := o2.ext y13
    replace o3 := o3.ext y13
    replace o4 := o4.ext y13
    replace o5 := o5.ext y13
    replace o6 := o6.ext y13
    replace o7 := o7.ext y13
    replace o8 := o8.ext y13
    replace o9 := o9.ext y13
    replace o10 := o10.ext y13
    clear y13
    clear o10
    go_wp2_with fail
    have C := specAppendBytes_c o4 o5 (by omega) (by omega)
    rw [HY6.out, HN6.out] at C
    refine C.mono ?_
    clear C
    rintro e W14 ⟨u11, rfl, o11, y14⟩
    have q14 := y14.size
    replace X := ext_trans X y14
    replace r0 := r0.ext y14
    replace o1 := o1.ext y14
    replace o2 := o2.ext y14
    replace o3 := o3.ext y14
    replace o4 := o4.ext y14
    replace o5 := o5.ext y14
    replace o6 := o6.ext y14
    replace o7 := o7.ext y14
    replace o8 := o8.ext y14
    replace o9 := o9.ext y14
    clear y14
    go_wp2_with fail
    have C := same_c o6.rd o11.rd
    rw [decide_eq_true rfl] at C
    refine C.mono ?_
    clear C
    rintro e W15 ⟨_, rfl, rfl, y15⟩
    have q15 := y15.size
    replace X := ext_trans X y15
    replace r0 := r0.ext y15
    replace o1 := o1.ext y15
    replace o2 := o2.ext y15
    replace o3 := o3.ext y15
    replace o4 := o4.ext y15
    replace o5 := o5.ext y15
    replace o6 := o6.ext y15
    replace o7 := o7.ext y15
    replace o8 := o8.ext y15
    replace o9 := o9.ext y15
    replace o11 := o11.ext y15
    clear y15
    clear o11
    go_wp2_with fail
    have C := same_c o8.rd o9.rd
    rw [decide_eq_true rfl] at C
    refine C.mono ?_
    clear C
    rintro e W16 ⟨_, rfl, rfl, y16⟩
    have q16 := y16.size
    replace X := ext_trans X y16
    replace r0 := r0.ext y16
    replace o1 := o1.ext y16
    replace o2 := o2.ext y16
    replace o3 := o3.ext y16
    replace o4 := o4.ext y16
    replace o5 := o5.ext y16
    replace o6 := o6.ext y16
    replace o7 := o7.ext y16
    replace o8 := o8.ext y16
    replace o9 := o9.ext y16
    clear y16
    clear o8 o9 o7
    go_wp2_with fail
    have C := implReadBytes_c (p := (b4.length : Int)) (most := (b5.length : Int)) o6.rd (by omega)
    rw [HRB.out] at C
    refine C.mono ?_
    clear C
    rintro e W17 ⟨_, rfl, ⟨u12, rfl, o12⟩, y17⟩
    have q17 := y17.size
    replace X := ext_trans X y17
    replace r0 := r0.ext y17
    replace o1 := o1.ext y17
    replace o2 := o2.ext y17
    replace o3 := o3.ext y17
    replace o4 := o4.ext y17
    replace o5 := o5.ext y17
    replace o6 := o6.ext y17
    clear y17
    simp only at o12
    go_wp2_with fail
    have C := same_c o12.rd o5
    rw [decide_eq_true rfl] at C
    refine C.mono ?_
    clear C
    rintro e W18 ⟨_, rfl, rfl, y18⟩
    have q18 := y18.size
    replace X := ext_trans X y18
    replace r0 := r0.ext y18
    replace o1 := o1.ext y18
    replace o2 := o2.ext y18
    replace o3 := o3.ext y18
    replace o4 := o4.ext y18
    replace o5 := o5.ext y18
    replace o6 := o6.ext y18
    replace o12 := o12.ext y18
    clear y18
    clear o12 o4 o5
    by_cases hn : 0 ≤ n1 ∧ n1 ≤ 1000000000000
    · obtain ⟨nn, rfl⟩ := Int.eq_ofNat_of_zero_le hn.1
      have hn2 := hn.2
      have g1 : decide ((nn : Int) < 0) = false := decide_eq_false (by omega)
      have g2 : decide (1000000000000 < (nn : Int)) = false := decide_eq_false (by omega)
      have g3 : ¬ (nn : Int) < 0 := by omega
      have hrv := rv_av b1 [UInt8.ofNat 200] hn
      have hal : (y2.length : Int) = (b1.length : Int) + ((vb nn).length : Int) := by rw [← HY2.out, av_val hn, Int.toNat_natCast, List.length_append]; omega
      rw [Int.toNat_natCast, HY2.out] at hrv
      obtain ⟨y3, hy3⟩ : ∃ y3, y2 ++ [UInt8.ofNat 200] = y3 := ⟨_, rfl⟩
      obtain ⟨lv, hlv⟩ : ∃ lv, (vb nn).length = lv := ⟨_, rfl⟩
      rw [hy3, hlv] at hrv
      rw [hlv] at hal
      have HV := hid hrv
      have HAL := hid hal
      have HY3 := hid hy3
      clear hrv hal hn hy3 hlv
      obtain ⟨i0, hi0, hz0, hz1, hz2⟩ := info_parts info_byte
      have yb := ext_alloc (ext_refl W18) (.cells #[] 5)
      have oe := Own.new W18 #[] 5 1 0 (by decide) rfl
      go_wp2_with (at_builtin; refine wpList_append_Own rfl _ _ 22 rfl 5 i0 (.int .u8 0) 1 1 Try.underlying22 hi0 hz0 hz1 hz2 rfl (by decide) rfl oe rfl (o2.rd.ext yb) (bv_one _) (by omega) (by omega) (by simp) ?_)
      intro v30 W30 ho30 m30
      have y30 := Mut.ext yb m30 (Nat.le_refl _)
      try rw [List.nil_append, Nat.zero_add] at ho30
      clear yb oe m30
      have yb := ext_alloc (ext_refl W30) (.cells #[.int .u8 200] 5)
      have s30 := y30.size
      have he := byte_of (z := 200) (by omega) (by omega)
      have HE := hid he
      clear he
      have hb30 := ho30.1
      go_wp2_with (at_builtin; refine wpList_append_Own rfl _ _ 22 rfl 5 i0 (.int .u8 0) 1 1 Try.underlying22 hi0 hz0 hz1 hz2 rfl (by decide) rfl (ho30.ext yb) rfl (Rd.new _ [.int .u8 200] 5 1 1 (by decide) rfl) (by simp; rfl) (by omega) (by omega) (Nat.le_trans (by omega) yb.size) ?_)
      intro v31 W31 ho31 m31
      obtain ⟨lo32, ho32⟩ : ∃ lo32, Own W31 lo32 W31.heap.size 5 1 v31 (y2.length + 1) (y3.map bv) := ⟨_, by rw [← HY3.out, List.map_append, List.map_cons, List.map_nil, show bv (UInt8.ofNat 200) = Value.int .u8 200 from HE.out.symm]; exact ho31⟩
      have y31 := Mut.ext (ext_trans y30 yb) m31 (Nat.le_refl _)
      clear yb y30 m31 ho31 ho30 hi0 hz0 hz1 hz2 HE hb30
      have qy31 := y31.size
      replace X := ext_trans X y31
      replace r0 := r0.ext y31
      replace o1 := o1.ext y31
      replace o2 := o2.ext y31
      replace o3 := o3.ext y31
      replace o6 := o6.ext y31
      clear y31
      obtain ⟨a31, c31, rfl, _⟩ := ho32.rd.form
      have HO32 := hid ho32
      clear ho32
      have e5 : ((b1.length : Int) + (lv : Int) == (y2.length : Int)) = true := by rw [HAL.out]; simp
      go_wp2_with fail
      have C := implReadVarint_c HO32.out.rd (at_ := (b1.length : Int))
      rw [HV.out] at C
      simp only [rvVal] at C
      refine C.mono ?_
      clear C
      rintro e W20 ⟨_, rfl, rfl, y20⟩
      have q20 := y20.size
      replace X := ext_trans X y20
      replace r0 := r0.ext y20
      replace o1 := o1.ext y20
      replace o2 := o2.ext y20
      replace o3 := o3.ext y20
      replace o6 := o6.ext y20
      clear y20
      clear HO32
      cases G
      · skip
        go_wp2_with fail
        have y20 := Below.drew (ext_refl W20)
        have qd20 := y20.size
        replace X := ext_trans X y20
        replace r0 := r0.ext y20
        replace o1 := o1.ext y20
        replace o2 := o2.ext y20
        replace o3 := o3.ext y20
        replace o6 := o6.ext y20
        clear y20
        refine wp_region_held_drew (S := fun w' => True) (by kernel_rfl) (by exact trivial) (fun hHeld => ?_)
        refine wpAnyH_take (i := 0) (v := ?v1) rfl (by kernel_rfl) (by kernel_rfl) (by kernel_rfl) (fun _ _ _ h => h) (Or.inl ⟨by kernel_rfl, ?hy1⟩) hHeld ?rest1
        case hy1 =>
          intro w hSw
          (try dsimp only at hSw)
          go_simp
          try with_reducible rfl
        simp only [Act.put, List.getElem_toArray, List.getElem_cons_zero, List.setIfInBounds_toArray, List.set_cons_zero, List.set_cons_succ]
        refine wpAnyH_take (i := 1) (v := ?v2) rfl (by kernel_rfl) (by kernel_rfl) (by kernel_rfl) (fun _ _ _ h => h) (Or.inl ⟨by kernel_rfl, ?hy2⟩) hHeld ?rest2
        case hy2 =>
          intro w hSw
          (try dsimp only at hSw)
          go_simp
          try with_reducible rfl
        simp only [Act.put, List.getElem_toArray, List.getElem_cons_succ, List.getElem_cons_zero, List.setIfInBounds_toArray, List.set_cons_zero, List.set_cons_succ]
        refine wpAnyH_take (i := 2) (v := ?v3) rfl (by kernel_rfl) (by kernel_rfl) (by kernel_rfl) (fun _ _ _ h => h) (Or.inl ⟨by kernel_rfl, ?hy3⟩) hHeld ?rest3
        case hy3 =>
          intro w hSw
          (try dsimp only at hSw)
          go_simp
          try with_reducible rfl
        simp only [Act.put, List.getElem_toArray, List.getElem_cons_succ, List.getElem_cons_zero, List.setIfInBounds_toArray, List.set_cons_zero, List.set_cons_succ]
        refine wpAnyH_take (i := 3) (v := ?v4) rfl (by kernel_rfl) (by kernel_rfl) (by kernel_rfl) (fun _ _ _ h => h) (Or.inl ⟨by kernel_rfl, ?hy4⟩) hHeld ?rest4
        case hy4 =>
          intro w hSw
          (try dsimp only at hSw)
          go_simp
          try with_reducible rfl
        simp only [Act.put, List.getElem_toArray, List.getElem_cons_succ, List.getElem_cons_zero, List.setIfInBounds_toArray, List.set_cons_zero, List.set_cons_succ]
        refine wpAnyH_take (i := 4) (v := ?v5) rfl (by kernel_rfl) (by kernel_rfl) (by kernel_rfl) (fun _ _ _ h => h) (Or.inl ⟨by kernel_rfl, ?hy5⟩) hHeld ?rest5
        case hy5 =>
          intro w hSw
          (try dsimp only at hSw)
          go_simp
          try with_reducible rfl
        simp only [Act.put, List.getElem_toArray, List.getElem_cons_succ, List.getElem_cons_zero, List.setIfInBounds_toArray, List.set_cons_zero, List.set_cons_succ]
        refine wpAnyH_take (i := 5) (v := ?v6) rfl (by kernel_rfl) (by kernel_rfl) (by kernel_rfl) (fun _ _ _ h => h) (Or.inl ⟨by kernel_rfl, ?hy6⟩) hHeld ?rest6
        case hy6 =>
          intro w hSw
          (try dsimp only at hSw)
          go_simp
          try with_reducible rfl
        simp only [Act.put, List.getElem_toArray, List.getElem_cons_succ, List.getElem_cons_zero, List.setIfInBounds_toArray, List.set_cons_zero, List.set_cons_succ]
        refine wpAnyH_take (i := 6) (v := ?v7) rfl (by kernel_rfl) (by kernel_rfl) (by kernel_rfl) (fun _ _ _ h => h) (Or.inl ⟨by kernel_rfl, ?hy7⟩) hHeld ?rest7
        case hy7 =>
          intro w hSw
          (try dsimp only at hSw)
          go_simp
          try with_reducible rfl
        simp only [Act.put, List.getElem_toArray, List.getElem_cons_succ, List.getElem_cons_zero, List.setIfInBounds_toArray, List.set_cons_zero, List.set_cons_succ]
        refine wpAnyH_take (i := 7) (v := ?v8) rfl (by kernel_rfl) (by kernel_rfl) (by kernel_rfl) (fun _ _ _ h => h) (Or.inl ⟨by kernel_rfl, ?hy8⟩) hHeld ?rest8
        case hy8 =>
          intro w hSw
          (try dsimp only at hSw)
          go_simp
          try with_reducible rfl
        simp only [Act.put, List.getElem_toArray, List.getElem_cons_succ, List.getElem_cons_zero, List.setIfInBounds_toArray, List.set_cons_zero, List.set_cons_succ]
        refine wpAnyH_take (i := 8) (v := ?v9) rfl (by kernel_rfl) (by kernel_rfl) (by kernel_rfl) (fun _ _ _ h => h) (Or.inl ⟨by kernel_rfl, ?hy9⟩) hHeld ?rest9
        case hy9 =>
          intro w hSw
          (try dsimp only at hSw)
          go_simp
          try with_reducible rfl
        simp only [Act.put, List.getElem_toArray, List.getElem_cons_succ, List.getElem_cons_zero, List.setIfInBounds_toArray, List.set_cons_zero, List.set_cons_succ]
        refine wpAnyH_take (i := 9) (v := ?v10) rfl (by kernel_rfl) (by kernel_rfl) (by kernel_rfl) (fun _ _ _ h => h) (Or.inl ⟨by kernel_rfl, ?hy10⟩) hHeld ?rest10
        case hy10 =>
          intro w hSw
          (try dsimp only at hSw)
          go_simp
          try with_reducible rfl
        simp only [Act.put, List.getElem_toArray, List.getElem_cons_succ, List.getElem_cons_zero, List.setIfInBounds_toArray, List.set_cons_zero, List.set_cons_succ]
        refine wpAnyH_take (i := 10) (v := ?v11) rfl (by kernel_rfl) (by kernel_rfl) (by kernel_rfl) (fun _ _ _ h => h) (Or.inl ⟨by kernel_rfl, ?hy11⟩) hHeld ?rest11
        case hy11 =>
          intro w hSw
          (try dsimp only at hSw)
          go_simp
          try with_reducible rfl
        simp only [Act.put, List.getElem_toArray, List.getElem_cons_succ, List.getElem_cons_zero, List.setIfInBounds_toArray, List.set_cons_zero, List.set_cons_succ]
        refine wpAnyH_take (i := 11) (v := ?v12) rfl (by kernel_rfl) (by kernel_rfl) (by kernel_rfl) (fun _ _ _ h => h) (Or.inl ⟨by kernel_rfl, ?hy12⟩) hHeld ?rest12
        case hy12 =>
          intro w hSw
          (try dsimp only at hSw)
          go_simp
          try with_reducible rfl
        simp only [Act.put, List.getElem_toArray, List.getElem_cons_succ, List.getElem_cons_zero, List.setIfInBounds_toArray, List.set_cons_zero, List.set_cons_succ]
        refine wpAnyH_take (i := 12) (v := ?v13) rfl (by kernel_rfl) (by kernel_rfl) (by kernel_rfl) (fun _ _ _ h => h) (Or.inl ⟨by kernel_rfl, ?hy13⟩) hHeld ?rest13
        case hy13 =>
          intro w hSw
          (try dsimp only at hSw)
          go_simp
          try with_reducible rfl
        simp only [Act.put, List.getElem_toArray, List.getElem_cons_succ, List.getElem_cons_zero, List.setIfInBounds_toArray, List.set_cons_zero, List.set_cons_succ]
        refine wpAnyH_take (i := 13) (v := ?v14) rfl (by kernel_rfl) (by kernel_rfl) (by kernel_rfl) (fun _ _ _ h => h) (Or.inl ⟨by kernel_rfl, ?hy14⟩) hHeld ?rest14
        case hy14 =>
          intro w hSw
          (try dsimp only at hSw)
          go_simp
          try with_reducible rfl
        simp only [Act.put, List.getElem_toArray, List.getElem_cons_succ, List.getElem_cons_zero, List.setIfInBounds_toArray, List.set_cons_zero, List.set_cons_succ]
        refine wpAnyH_take (i := 14) (v := ?v15) rfl (by kernel_rfl) (by kernel_rfl) (by kernel_rfl) (fun _ _ _ h => h) (Or.inl ⟨by kernel_rfl, ?hy15⟩) hHeld ?rest15
        case hy15 =>
          intro w hSw
          (try dsimp only at hSw)
          go_simp
          try with_reducible rfl
        simp only [Act.put, List.getElem_toArray, List.getElem_cons_succ, List.getElem_cons_zero, List.setIfInBounds_toArray, List.set_cons_zero, List.set_cons_succ]
        refine wpAnyH_take (i := 15) (v := ?v16) rfl (by kernel_rfl) (by kernel_rfl) (by kernel_rfl) (fun _ _ _ h => h) (Or.inl ⟨by kernel_rfl, ?hy16⟩) hHeld ?rest16
        case hy16 =>
          intro w hSw
          (try dsimp only at hSw)
          go_simp
          try with_reducible rfl
        simp only [Act.put, List.getElem_toArray, List.getElem_cons_succ, List.getElem_cons_zero, List.setIfInBounds_toArray, List.set_cons_zero, List.set_cons_succ]
        refine wpAnyH_take (i := 16) (v := undef) rfl (by kernel_rfl) (by kernel_rfl) (by kernel_rfl) (fun _ _ _ h => h) (Or.inr ⟨by kernel_rfl, rfl⟩) hHeld ?_
        simp only [Act.put, List.getElem_toArray, List.getElem_cons_succ, List.getElem_cons_zero, List.setIfInBounds_toArray, List.set_cons_zero, List.set_cons_succ]
        refine wpAnyH_take (i := 17) (v := undef) rfl (by kernel_rfl) (by kernel_rfl) (by kernel_rfl) (fun _ _ _ h => h) (Or.inr ⟨by kernel_rfl, rfl⟩) hHeld ?_
        simp only [Act.put, List.getElem_toArray, List.getElem_cons_succ, List.getElem_cons_zero, List.setIfInBounds_toArray, List.set_cons_zero, List.set_cons_succ]
        refine wpAnyH_take (i := 18) (v := undef) rfl (by kernel_rfl) (by kernel_rfl) (by kernel_rfl) (fun _ _ _ h => h) (Or.inr ⟨by kernel_rfl, rfl⟩) hHeld ?_
        simp only [Act.put, List.getElem_toArray, List.getElem_cons_succ, List.getElem_cons_zero, List.setIfInBounds_toArray, List.set_cons_zero, List.set_cons_succ]
        refine wpAnyH_take (i := 19) (v := undef) rfl (by kernel_rfl) (by kernel_rfl) (by kernel_rfl) (fun _ _ _ h => h) (Or.inr ⟨by kernel_rfl, rfl⟩) hHeld ?_
        simp only [Act.put, List.getElem_toArray, List.getElem_cons_succ, List.getElem_cons_zero, List.setIfInBounds_toArray, List.set_cons_zero, List.set_cons_succ]
        refine wpAnyH_take (i := 20) (v := undef) rfl (by kernel_rfl) (by kernel_rfl) (by kernel_rfl) (fun _ _ _ h => h) (Or.inr ⟨by kernel_rfl, rfl⟩) hHeld ?_
        simp only [Act.put, List.getElem_toArray, List.getElem_cons_succ, List.getElem_cons_zero, List.setIfInBounds_toArray, List.set_cons_zero, List.set_cons_succ]
        refine wpAnyH_take (i := 21) (v := undef) rfl (by kernel_rfl) (by kernel_rfl) (by kernel_rfl) (fun _ _ _ h => h) (Or.inr ⟨by kernel_rfl, rfl⟩) hHeld ?_
        simp only [Act.put, List.getElem_toArray, List.getElem_cons_succ, List.getElem_cons_zero, List.setIfInBounds_toArray, List.set_cons_zero, List.set_cons_succ]
        refine wpAnyH_take (i := 22) (v := undef) rfl (by kernel_rfl) (by kernel_rfl) (by kernel_rfl) (fun _ _ _ h => h) (Or.inr ⟨by kernel_rfl, rfl⟩) hHeld ?_
        simp only [Act.put, List.getElem_toArray, List.getElem_cons_succ, List.getElem_cons_zero, List.setIfInBounds_toArray, List.set_cons_zero, List.set_cons_succ]
        refine wpAnyH_take (i := 23) (v := undef) rfl (by kernel_rfl) (by kernel_rfl) (by kernel_rfl) (fun _ _ _ h => h) (Or.inr ⟨by kernel_rfl, rfl⟩) hHeld ?_
        simp only [Act.put, List.getElem_toArray, List.getElem_cons_succ, List.getElem_cons_zero, List.setIfInBounds_toArray, List.set_cons_zero, List.set_cons_succ]
        refine wpAnyH_take (i := 24) (v := undef) rfl (by kernel_rfl) (by kernel_rfl) (by kernel_rfl) (fun _ _ _ h => h) (Or.inr ⟨by kernel_rfl, rfl⟩) hHeld ?_
        simp only [Act.put, List.getElem_toArray, List.getElem_cons_succ, List.getElem_cons_zero, List.setIfInBounds_toArray, List.set_cons_zero, List.set_cons_succ]
        refine wpAnyH_take (i := 25) (v := ?v26) rfl (by kernel_rfl) (by kernel_rfl) (by kernel_rfl) (fun _ _ _ h => h) (Or.inl ⟨by kernel_rfl, ?hy26⟩) hHeld ?rest26
        case hy26 =>
          intro w hSw
          (try dsimp only at hSw)
          go_simp
          try with_reducible rfl
        simp only [Act.put, List.getElem_toArray, List.getElem_cons_succ, List.getElem_cons_zero, List.setIfInBounds_toArray, List.set_cons_zero, List.set_cons_succ]
        refine wpAnyH_take (i := 26) (v := ?v27) rfl (by kernel_rfl) (by kernel_rfl) (by kernel_rfl) (fun _ _ _ h => h) (Or.inl ⟨by kernel_rfl, ?hy27⟩) hHeld ?rest27
        case hy27 =>
          intro w hSw
          (try dsimp only at hSw)
          go_simp
          try with_reducible rfl
        simp only [Act.put, List.getElem_toArray, List.getElem_cons_succ, List.getElem_cons_zero, List.setIfInBounds_toArray, List.set_cons_zero, List.set_cons_succ]
        refine wpAnyH_take (i := 27) (v := ?v28) rfl (by kernel_rfl) (by kernel_rfl) (by kernel_rfl) (fun _ _ _ h => h) (Or.inl ⟨by kernel_rfl, ?hy28⟩) hHeld ?rest28
        case hy28 =>
          intro w hSw
          (try dsimp only at hSw)
          go_simp
          try with_reducible rfl
        simp only [Act.put, List.getElem_toArray, List.getElem_cons_succ, List.getElem_cons_zero, List.setIfInBounds_toArray, List.set_cons_zero, List.set_cons_succ]
        refine wpAnyH_done (by kernel_rfl) ?_ _
        go_wp2
        go_ret
        exact ⟨rfl, X⟩
      · obtain ⟨m, c, hV, rfl, rfl⟩ := HG.out rfl
        have hbd := rv_bd hV
        obtain ⟨p, rfl⟩ := Int.eq_ofNat_of_zero_le hbd.1
        have hbk := av_back hV
        rw [Int.toNat_natCast] at hbk hbd
        obtain ⟨_, _, hv3, hc3, hc4⟩ := o3.form'
        simp only [Value.slice.injEq, true_and] at hv3
        obtain ⟨rfl, rfl⟩ := hv3
        obtain ⟨q, hq⟩ : ∃ q, q = p + c := ⟨_, rfl⟩
        rw [← hq] at hbk
        have HBK := hid hbk
        have hqi : (p : Int) + (c : Int) = (q : Int) := by omega
        rw [hqi]
        have hp1 : p ≤ b3.length := by omega
        have hp2 : q ≤ b3.length := by omega
        have j0 : (0 : Int) ≤ (p : Int) := by omega
        have j1 : (p : Int) ≤ (b3.length : Int) := by omega
        have j2 : (p : Int) ≤ (c3 : Int) := by omega
        have j3 : (0 : Int) ≤ (q : Int) := by omega
        have j4 : (q : Int) ≤ (b3.length : Int) := by omega
        have j5 : (q : Int) ≤ (c3 : Int) := by omega
        clear hV hbd hbk hqi HG HRV hq
        go_wp2_with fail
        have y20 := Below.drew (ext_refl W20)
        have qd20 := y20.size
        replace X := ext_trans X y20
        replace r0 := r0.ext y20
        replace o1 := o1.ext y20
        replace o2 := o2.ext y20
        replace o3 := o3.ext y20
        replace o6 := o6.ext y20
        clear y20
        refine wp_region_held_drew (S := fun w' => True) (by kernel_rfl) (by exact trivial) (fun hHeld => ?_)
        refine wpAnyH_take (i := 0) (v := ?v29) rfl (by kernel_rfl) (by kernel_rfl) (by kernel_rfl) (fun _ _ _ h => h) (Or.inl ⟨by kernel_rfl, ?hy29⟩) hHeld ?rest29
        case hy29 =>
          intro w hSw
          (try dsimp only at hSw)
          go_simp
          try with_reducible rfl
        simp only [Act.put, List.getElem_toArray, List.getElem_cons_zero, List.setIfInBounds_toArray, List.set_cons_zero, List.set_cons_succ]
        refine wpAnyH_take (i := 1) (v := ?v30) rfl (by kernel_rfl) (by kernel_rfl) (by kernel_rfl) (fun _ _ _ h => h) (Or.inl ⟨by kernel_rfl, ?hy30⟩) hHeld ?rest30
        case hy30 =>
          intro w hSw
          (try dsimp only at hSw)
          go_simp
          try with_reducible rfl
        simp only [Act.put, List.getElem_toArray, List.getElem_cons_succ, List.getElem_cons_zero, List.setIfInBounds_toArray, List.set_cons_zero, List.set_cons_succ]
        refine wpAnyH_take (i := 2) (v := ?v31) rfl (by kernel_rfl) (by kernel_rfl) (by kernel_rfl) (fun _ _ _ h => h) (Or.inl ⟨by kernel_rfl, ?hy31⟩) hHeld ?rest31
        case hy31 =>
          intro w hSw
          (try dsimp only at hSw)
          go_simp
          try with_reducible rfl
        simp only [Act.put, List.getElem_toArray, List.getElem_cons_succ, List.getElem_cons_zero, List.setIfInBounds_toArray, List.set_cons_zero, List.set_cons_succ]
        refine wpAnyH_take (i := 3) (v := ?v32) rfl (by kernel_rfl) (by kernel_rfl) (by kernel_rfl) (fun _ _ _ h => h) (Or.inl ⟨by kernel_rfl, ?hy32⟩) hHeld ?rest32
        case hy32 =>
          intro w hSw
          (try dsimp only at hSw)
          go_simp
          try with_reducible rfl
        simp only [Act.put, List.getElem_toArray, List.getElem_cons_succ, List.getElem_cons_zero, List.setIfInBounds_toArray, List.set_cons_zero, List.set_cons_succ]
        refine wpAnyH_take (i := 4) (v := ?v33) rfl (by kernel_rfl) (by kernel_rfl) (by kernel_rfl) (fun _ _ _ h => h) (Or.inl ⟨by kernel_rfl, ?hy33⟩) hHeld ?rest33
        case hy33 =>
          intro w hSw
          (try dsimp only at hSw)
          go_simp
          try with_reducible rfl
        simp only [Act.put, List.getElem_toArray, List.getElem_cons_succ, List.getElem_cons_zero, List.setIfInBounds_toArray, List.set_cons_zero, List.set_cons_succ]
        refine wpAnyH_take (i := 5) (v := ?v34) rfl (by kernel_rfl) (by kernel_rfl) (by kernel_rfl) (fun _ _ _ h => h) (Or.inl ⟨by kernel_rfl, ?hy34⟩) hHeld ?rest34
        case hy34 =>
          intro w hSw
          (try dsimp only at hSw)
          go_simp
          try with_reducible rfl
        simp only [Act.put, List.getElem_toArray, List.getElem_cons_succ, List.getElem_cons_zero, List.setIfInBounds_toArray, List.set_cons_zero, List.set_cons_succ]
        refine wpAnyH_take (i := 6) (v := ?v35) rfl (by kernel_rfl) (by kernel_rfl) (by kernel_rfl) (fun _ _ _ h => h) (Or.inl ⟨by kernel_rfl, ?hy35⟩) hHeld ?rest35
        case hy35 =>
          intro w hSw
          (try dsimp only at hSw)
          go_simp
          try with_reducible rfl
        simp only [Act.put, List.getElem_toArray, List.getElem_cons_succ, List.getElem_cons_zero, List.setIfInBounds_toArray, List.set_cons_zero, List.set_cons_succ]
        refine wpAnyH_take (i := 7) (v := ?v36) rfl (by kernel_rfl) (by kernel_rfl) (by kernel_rfl) (fun _ _ _ h => h) (Or.inl ⟨by kernel_rfl, ?hy36⟩) hHeld ?rest36
        case hy36 =>
          intro w hSw
          (try dsimp only at hSw)
          go_simp
          try with_reducible rfl
        simp only [Act.put, List.getElem_toArray, List.getElem_cons_succ, List.getElem_cons_zero, List.setIfInBounds_toArray, List.set_cons_zero, List.set_cons_succ]
        refine wpAnyH_take (i := 8) (v := ?v37) rfl (by kernel_rfl) (by kernel_rfl) (by kernel_rfl) (fun _ _ _ h => h) (Or.inl ⟨by kernel_rfl, ?hy37⟩) hHeld ?rest37
        case hy37 =>
          intro w hSw
          (try dsimp only at hSw)
          go_simp
          try with_reducible rfl
        simp only [Act.put, List.getElem_toArray, List.getElem_cons_succ, List.getElem_cons_zero, List.setIfInBounds_toArray, List.set_cons_zero, List.set_cons_succ]
        refine wpAnyH_take (i := 9) (v := ?v38) rfl (by kernel_rfl) (by kernel_rfl) (by kernel_rfl) (fun _ _ _ h => h) (Or.inl ⟨by kernel_rfl, ?hy38⟩) hHeld ?rest38
        case hy38 =>
          intro w hSw
          (try dsimp only at hSw)
          go_simp
          try with_reducible rfl
        simp only [Act.put, List.getElem_toArray, List.getElem_cons_succ, List.getElem_cons_zero, List.setIfInBounds_toArray, List.set_cons_zero, List.set_cons_succ]
        refine wpAnyH_take (i := 10) (v := ?v39) rfl (by kernel_rfl) (by kernel_rfl) (by kernel_rfl) (fun _ _ _ h => h) (Or.inl ⟨by kernel_rfl, ?hy39⟩) hHeld ?rest39
        case hy39 =>
          intro w hSw
          (try dsimp only at hSw)
          go_simp
          try with_reducible rfl
        simp only [Act.put, List.getElem_toArray, List.getElem_cons_succ, List.getElem_cons_zero, List.setIfInBounds_toArray, List.set_cons_zero, List.set_cons_succ]
        refine wpAnyH_take (i := 11) (v := ?v40) rfl (by kernel_rfl) (by kernel_rfl) (by kernel_rfl) (fun _ _ _ h => h) (Or.inl ⟨by kernel_rfl, ?hy40⟩) hHeld ?rest40
        case hy40 =>
          intro w hSw
          (try dsimp only at hSw)
          go_simp
          try with_reducible rfl
        simp only [Act.put, List.getElem_toArray, List.getElem_cons_succ, List.getElem_cons_zero, List.setIfInBounds_toArray, List.set_cons_zero, List.set_cons_succ]
        refine wpAnyH_take (i := 12) (v := ?v41) rfl (by kernel_rfl) (by kernel_rfl) (by kernel_rfl) (fun _ _ _ h => h) (Or.inl ⟨by kernel_rfl, ?hy41⟩) hHeld ?rest41
        case hy41 =>
          intro w hSw
          (try dsimp only at hSw)
          go_simp
          try with_reducible rfl
        simp only [Act.put, List.getElem_toArray, List.getElem_cons_succ, List.getElem_cons_zero, List.setIfInBounds_toArray, List.set_cons_zero, List.set_cons_succ]
        refine wpAnyH_take (i := 13) (v := ?v42) rfl (by kernel_rfl) (by kernel_rfl) (by kernel_rfl) (fun _ _ _ h => h) (Or.inl ⟨by kernel_rfl, ?hy42⟩) hHeld ?rest42
        case hy42 =>
          intro w hSw
          (try dsimp only at hSw)
          go_simp
          try with_reducible rfl
        simp only [Act.put, List.getElem_toArray, List.getElem_cons_succ, List.getElem_cons_zero, List.setIfInBounds_toArray, List.set_cons_zero, List.set_cons_succ]
        refine wpAnyH_take (i := 14) (v := ?v43) rfl (by kernel_rfl) (by kernel_rfl) (by kernel_rfl) (fun _ _ _ h => h) (Or.inl ⟨by kernel_rfl, ?hy43⟩) hHeld ?rest43
        case hy43 =>
          intro w hSw
          (try dsimp only at hSw)
          go_simp
          try with_reducible rfl
        simp only [Act.put, List.getElem_toArray, List.getElem_cons_succ, List.getElem_cons_zero, List.setIfInBounds_toArray, List.set_cons_zero, List.set_cons_succ]
        refine wpAnyH_take (i := 15) (v := ?v44) rfl (by kernel_rfl) (by kernel_rfl) (by kernel_rfl) (fun _ _ _ h => h) (Or.inl ⟨by kernel_rfl, ?hy44⟩) hHeld ?rest44
        case hy44 =>
          intro w hSw
          (try dsimp only at hSw)
          go_simp
          try with_reducible rfl
        simp only [Act.put, List.getElem_toArray, List.getElem_cons_succ, List.getElem_cons_zero, List.setIfInBounds_toArray, List.set_cons_zero, List.set_cons_succ]
        refine wpAnyH_take (i := 16) (v := ?v45) rfl (by kernel_rfl) (by kernel_rfl) (by kernel_rfl) (fun _ _ _ h => h) (Or.inl ⟨by kernel_rfl, ?hy45⟩) hHeld ?rest45
        case hy45 =>
          intro w hSw
          (try dsimp only at hSw)
          go_simp
          try with_reducible rfl
        simp only [Act.put, List.getElem_toArray, List.getElem_cons_succ, List.getElem_cons_zero, List.setIfInBounds_toArray, List.set_cons_zero, List.set_cons_succ]
        refine wpAnyH_take (i := 17) (v := ?v46) rfl (by kernel_rfl) (by kernel_rfl) (by kernel_rfl) (fun _ _ _ h => h) (Or.inl ⟨by kernel_rfl, ?hy46⟩) hHeld ?rest46
        case hy46 =>
          intro w hSw
          (try dsimp only at hSw)
          go_simp
          try with_reducible rfl
        simp only [Act.put, List.getElem_toArray, List.getElem_cons_succ, List.getElem_cons_zero, List.setIfInBounds_toArray, List.set_cons_zero, List.set_cons_succ]
        refine wpAnyH_take (i := 18) (v := ?v47) rfl (by kernel_rfl) (by kernel_rfl) (by kernel_rfl) (fun _ _ _ h => h) (Or.inl ⟨by kernel_rfl, ?hy47⟩) hHeld ?rest47
        case hy47 =>
          intro w hSw
          (try dsimp only at hSw)
          go_simp
          try with_reducible rfl
        simp only [Act.put, List.getElem_toArray, List.getElem_cons_succ, List.getElem_cons_zero, List.setIfInBounds_toArray, List.set_cons_zero, List.set_cons_succ]
        refine wpAnyH_take (i := 19) (v := ?v48) rfl (by kernel_rfl) (by kernel_rfl) (by kernel_rfl) (fun _ _ _ h => h) (Or.inl ⟨by kernel_rfl, ?hy48⟩) hHeld ?rest48
        case hy48 =>
          intro w hSw
          (try dsimp only at hSw)
          go_simp
          try with_reducible rfl
        simp only [Act.put, List.getElem_toArray, List.getElem_cons_succ, List.getElem_cons_zero, List.setIfInBounds_toArray, List.set_cons_zero, List.set_cons_succ]
        refine wpAnyH_take (i := 21) (v := ?v49) rfl (by kernel_rfl) (by kernel_rfl) (by kernel_rfl) (fun _ _ _ h => h) (Or.inl ⟨by kernel_rfl, ?hy49⟩) hHeld ?rest49
        case hy49 =>
          intro w hSw
          (try dsimp only at hSw)
          go_simp
          try with_reducible rfl
        simp only [Act.put, List.getElem_toArray, List.getElem_cons_succ, List.getElem_cons_zero, List.setIfInBounds_toArray, List.set_cons_zero, List.set_cons_succ]
        refine wpAnyH_take (i := 22) (v := ?v50) rfl (by kernel_rfl) (by kernel_rfl) (by kernel_rfl) (fun _ _ _ h => h) (Or.inl ⟨by kernel_rfl, ?hy50⟩) hHeld ?rest50
        case hy50 =>
          intro w hSw
          (try dsimp only at hSw)
          go_simp
          try with_reducible rfl
        simp only [Act.put, List.getElem_toArray, List.getElem_cons_succ, List.getElem_cons_zero, List.setIfInBounds_toArray, List.set_cons_zero, List.set_cons_succ]
        refine wpAnyH_take (i := 23) (v := ?v51) rfl (by kernel_rfl) (by kernel_rfl) (by kernel_rfl) (fun _ _ _ h => h) (Or.inl ⟨by kernel_rfl, ?hy51⟩) hHeld ?rest51
        case hy51 =>
          intro w hSw
          (try dsimp only at hSw)
          go_simp
          try with_reducible rfl
        simp only [Act.put, List.getElem_toArray, List.getElem_cons_succ, List.getElem_cons_zero, List.setIfInBounds_toArray, List.set_cons_zero, List.set_cons_succ]
        refine wpAnyH_ready (rs := [20]) (by kernel_rfl) (by simp) ?_
        refine AllReadyH.cons rfl (fun K hK => ?_) AllReadyH.nil
        rw [if_pos (by kernel_rfl)]
        go_simp
        go_at_call 8
        have C := implAppendVarint_c (Rd.takeM o3 hp1) (n := (m : Int)) (by omega)
        rw [HBK.out] at C
        refine C.mono ?_
        clear C
        rintro e W21 ⟨u40, rfl, o40, y21⟩
        have q21 := y21.size
        replace X := ext_trans X y21
        replace r0 := r0.ext y21
        replace o1 := o1.ext y21
        replace o2 := o2.ext y21
        replace o3 := o3.ext y21
        replace o6 := o6.ext y21
        clear y21
        refine hK.out _ _ (by exact trivial) (fun hHeld => ?_)
        clear hK K
        refine wpAnyH_ready (rs := [24]) (by kernel_rfl) (by simp) ?_
        refine AllReadyH.cons rfl (fun K hK => ?_) AllReadyH.nil
        rw [if_pos (by kernel_rfl)]
        go_simp
        go_at_call 17
        have C := same_c o40.rd (Rd.takeM o3 hp2)
        rw [decide_eq_true rfl] at C
        refine C.mono ?_
        clear C
        rintro e W22 ⟨_, rfl, rfl, y22⟩
        have q22 := y22.size
        replace X := ext_trans X y22
        replace r0 := r0.ext y22
        replace o1 := o1.ext y22
        replace o2 := o2.ext y22
        replace o3 := o3.ext y22
        replace o6 := o6.ext y22
        replace o40 := o40.ext y22
        clear y22
        refine hK.out _ _ (by exact trivial) (fun hHeld => ?_)
        clear hK K
        refine wpAnyH_take (i := 25) (v := ?v52) rfl (by kernel_rfl) (by kernel_rfl) (by kernel_rfl) (fun _ _ _ h => h) (Or.inl ⟨by kernel_rfl, ?hy52⟩) hHeld ?rest52
        case hy52 =>
          intro w hSw
          (try dsimp only at hSw)
          go_simp
          try with_reducible rfl
        simp only [Act.put, List.getElem_toArray, List.getElem_cons_succ, List.getElem_cons_zero, List.setIfInBounds_toArray, List.set_cons_zero, List.set_cons_succ]
        refine wpAnyH_take (i := 26) (v := ?v53) rfl (by kernel_rfl) (by kernel_rfl) (by kernel_rfl) (fun _ _ _ h => h) (Or.inl ⟨by kernel_rfl, ?hy53⟩) hHeld ?rest53
        case hy53 =>
          intro w hSw
          (try dsimp only at hSw)
          go_simp
          try with_reducible rfl
        simp only [Act.put, List.getElem_toArray, List.getElem_cons_succ, List.getElem_cons_zero, List.setIfInBounds_toArray, List.set_cons_zero, List.set_cons_succ]
        refine wpAnyH_take (i := 27) (v := ?v54) rfl (by kernel_rfl) (by kernel_rfl) (by kernel_rfl) (fun _ _ _ h => h) (Or.inl ⟨by kernel_rfl, ?hy54⟩) hHeld ?rest54
        case hy54 =>
          intro w hSw
          (try dsimp only at hSw)
          go_simp
          try with_reducible rfl
        simp only [Act.put, List.getElem_toArray, List.getElem_cons_succ, List.getElem_cons_zero, List.setIfInBounds_toArray, List.set_cons_zero, List.set_cons_succ]
        refine wpAnyH_done (by kernel_rfl) ?_ _
        go_wp2
        go_ret
        exact ⟨rfl, X⟩
    · have h5 : y2 = b1 := by rw [← HY2.out]; exact av_out hn
      subst h5
      by_cases hz : n1 < 0
      · skip
        go_wp2_with fail
        have C := same_c o2.rd o1
        rw [decide_eq_true rfl] at C
        refine C.mono ?_
        clear C
        rintro e W19 ⟨_, rfl, rfl, y19⟩
        have q19 := y19.size
        replace X := ext_trans X y19
        replace r0 := r0.ext y19
        replace o1 := o1.ext y19
        replace o2 := o2.ext y19
        replace o3 := o3.ext y19
        replace o6 := o6.ext y19
        clear y19
        go_wp2_with fail
        go_ret
        exact ⟨rfl, X⟩
      · have g1 : decide (n1 < 0) = false := decide_eq_false hz
        have g2 : 1000000000000 < n1 := by omega
        go_wp2_with fail
        have C := same_c o2.rd o1
        rw [decide_eq_true rfl] at C
        refine C.mono ?_
        clear C
        rintro e W19 ⟨_, rfl, rfl, y19⟩
        have q19 := y19.size
        replace X := ext_trans X y19
        replace r0 := r0.ext y19
        replace o1 := o1.ext y19
        replace o2 := o2.ext y19
        replace o3 := o3.ext y19
        replace o6 := o6.ext y19
        clear y19
        go_wp2_with fail
        go_ret
        exact ⟨rfl, X⟩
set_option maxRecDepth 100000 in
theorem lifted (os : Os) (started : os.Started) (H : Type) (enc : TypeId × Value → H) :
    ReturnsInHanded {} Try.checked os 3 .any (Rows.fnVarsSpec.pre6 enc Try.prog Try.f3 Rows.fnVarsRow.domain false) (Rows.fnVarsSpec.post enc Try.prog Try.f3 false true false false) := by
  refine returnsInHanded_of_change (C := Try.checked) own started (by kernel_rfl) Try.func3
    (ChangeSpec.witness6 (enc := enc) (C := Try.checked) false ⟨#[], #[.slice none 0 0], []⟩ 8 (by kernel_rfl) (by kernel_rfl) (by kernel_rfl) (by kernel_rfl)) ?_
  intro W base args ds gs before hval0 hW hcnd _
  have hval : ∀ (j : Nat) t v, Try.f3.params[j]? = some t → args[j]? = some v → Value.okWide Try.prog W .any base t v := hval0
  have hW' := hW
  obtain ⟨p, q, hA0, hV, rfl, hfz, hnd⟩ := hW
  have hA : DataW.TrodAll enc Try.prog W 0 (fun _ => true) true Try.f3.params.toList args.toList ds p := hA0
  rw [Try.params3] at hA hval
  obtain ⟨v0, vs0, d0, ds0, p0, q0, hargs, rfl, rfl, h0, tr0⟩ := trodAll_cons hA
  obtain ⟨rfl, rfl, rfl⟩ := trodAll_nil tr0
  obtain rfl : args = #[v0] := by cases args; simp_all
  obtain ⟨rfl, rfl⟩ := trodVars_none hV
  have k0 := h0
  have lt0 : ∀ x ∈ p0, x.block < W.heap.size := by obtain ⟨m, hm⟩ := k0; exact DataW.trod_lt m _ _ _ hm
  obtain ⟨n0, x0, r0⟩ := rd_bytes Try.underlying22 Try.underlying5 (by kernel_rfl) (hval 0 22 v0 rfl rfl) h0
  clear hA0 hval0
  try simp only [List.append_nil] at hW'
  refine (walk W v0 n0 x0 r0).mono fun e W' ⟨he, bel⟩ => ?_
  subst he
  exact ⟨_, rfl, _, _, _, [], _, [], hW', trodAll_mk1 (shut_bool Try.underlying4 _), (trodAll_cons_mk (Below.trod laidOut (by kernel_rfl) (of_decide_eq_true (by kernel_rfl)) k0 bel lt0) trodAll_mk0), rfl, bel.frame _, fun h => by cases h⟩

theorem over : Rows.fnVarsRow.holds Try.pinned (OpenSpec.ofChange Rows.fnVarsSpec) :=
  OpenClaim.holds_of_wide 3 Try.f3 rfl rfl rfl rfl rfl rfl rfl ⟨rfl, rfl, rfl, rfl, rfl⟩ rfl rfl rfl rfl rfl (by kernel_rfl) Try.func3 (by kernel_rfl)
    (of_decide_eq_true (by kernel_rfl)) (by unfold Func.isWrapper; first | (rw [if_pos (by decide +kernel)]; kernel_rfl) | (rw [if_neg (by decide +kernel)]; exact ⟨rfl, rfl⟩))
    (fun os started H enc _ => lifted os started H enc)
/-- The statement. -/
theorem proved : Rows.FnVarsSaid := over
end fnVars
end Go.Proofs.Ytiikpkkpacjamaa
