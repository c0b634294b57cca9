/- FnSeals holds: a MAC depends on each of its integers; encrypted bytes are decrypted. No condition. -/
import Derived.Test.YtiikpkkpacjamaaFrame
import Derived.Test.YtiikpkkpacjamaaBig
import Derived.Test.YtiikpkkpacjamaaDc
import Derived.Test.YtiikpkkpacjamaaMx
set_option linter.unusedVariables false
namespace Go.Proofs.Ytiikpkkpacjamaa
set_option maxRecDepth 100000
set_option maxHeartbeats 8000000
namespace fnSeals
open Go.ChangeShapes Go.WideShapes Go.ChangeAt Go.RowKit
open Go.ChangeMaps (open_string shut_string)
/-- The call returns true and leaves all that was there unturned. -/
theorem walk (w : World) (v0 : Value) (n0 : Nat) (x0 : List UInt8) (r0 : Rd w 0 w.heap.size 1 v0 n0 (x0.map bv)) :
    Calls Try.prog 5 #[v0] w fun e w' => e = .returned (.bool true) ∧ Below w.heap.size w w' := by
  obtain ⟨b0, c0, rfl, hn0⟩ := r0.form
  by_cases h1 : 1048576 < n0
  · go_enter Try.func5, Try.ntmps5
    go_wp2_with fail
    refine (big_c r0 (decide_eq_true h1)).mono ?_
    rintro e w1 ⟨_, rfl, rfl, y1⟩
    go_wp2
    go_ret
    exact ⟨rfl, y1⟩
  · skip
    go_enter Try.func5, Try.ntmps5
    have X := ext_refl w
    go_wp2_with fail
    refine (big_c r0 (decide_eq_false h1)).mono ?_
    rintro e W1 ⟨_, rfl, rfl, y1⟩
    have q1 := y1.size
    replace X := ext_trans X y1
    replace r0 := r0.ext y1
    clear y1
    go_wp2_with fail
    refine (DrawComputeMAC_c r0 (by omega) (by omega)).mono ?_
    rintro e W2 ⟨_, rfl, ⟨u1, k1, rfl, zs, o1, l1⟩, y2⟩
    have q2 := y2.size
    replace X := ext_trans X y2
    replace r0 := r0.ext y2
    clear y2
    obtain ⟨a1, c1, rfl, _⟩ := o1.form
    go_wp2_with fail
    refine (DrawDigest_c r0 (by omega) (by omega)).mono ?_
    rintro e W3 ⟨_, rfl, ⟨zd, o2, l2⟩, y3⟩
    have q3 := y3.size
    replace X := ext_trans X y3
    replace r0 := r0.ext y3
    replace o1 := o1.ext y3
    clear y3
    go_wp2_with fail
    refine (DrawValidSecret_c r0 (by omega) (by omega)).mono ?_
    rintro e W4 ⟨_, rfl, ⟨z3, rfl⟩, y4⟩
    have q4 := y4.size
    replace X := ext_trans X y4
    replace r0 := r0.ext y4
    replace o1 := o1.ext y4
    replace o2 := o2.ext y4
    clear y4
    go_wp2_with fail
    refine (DrawEncrypt_c r0 (by omega) (by omega)).mono ?_
    rintro e W5 ⟨_, rfl, ⟨u4, k4, rfl, b4, o4, l4⟩, y5⟩
    have q5 := y5.size
    replace X := ext_trans X y5
    replace r0 := r0.ext y5
    replace o1 := o1.ext y5
    replace o2 := o2.ext y5
    clear y5
    go_wp2_with fail
    refine (DrawEqualInts_c r0 (by omega) (by omega)).mono ?_
    rintro e W6 ⟨_, rfl, ⟨u5, u6, rfl, ⟨z5, o5, l5⟩, ⟨z6, o6, l6⟩⟩, y6⟩
    have q6 := y6.size
    replace X := ext_trans X y6
    replace r0 := r0.ext y6
    replace o1 := o1.ext y6
    replace o2 := o2.ext y6
    replace o4 := o4.ext y6
    clear y6
    go_wp2_with fail
    refine (DrawBytesToInts_c r0 (by omega) (by omega)).mono ?_
    rintro e W7 ⟨_, rfl, ⟨b7, o7, l7⟩, y7⟩
    have q7 := y7.size
    replace X := ext_trans X y7
    replace r0 := r0.ext y7
    replace o1 := o1.ext y7
    replace o2 := o2.ext y7
    replace o4 := o4.ext y7
    replace o5 := o5.ext y7
    replace o6 := o6.ext y7
    clear y7
    go_wp2_with fail
    refine (DrawDeriveSecret_c r0 (by omega) (by omega)).mono ?_
    rintro e W8 ⟨_, rfl, ⟨k8, s8, rfl, l8⟩, y8⟩
    have q8 := y8.size
    replace X := ext_trans X y8
    replace r0 := r0.ext y8
    replace o1 := o1.ext y8
    replace o2 := o2.ext y8
    replace o4 := o4.ext y8
    replace o5 := o5.ext y8
    replace o6 := o6.ext y8
    replace o7 := o7.ext y8
    clear y8
    obtain ⟨M, hM⟩ : ∃ M, mac k1 zs = M := ⟨_, rfl⟩
    obtain ⟨D, hD⟩ : ∃ D, dg zd = D := ⟨_, rfl⟩
    obtain ⟨DS, hDS⟩ : ∃ D, ds k8 s8 = D := ⟨_, rfl⟩
    have hvs := vs_ds k8 s8
    rw [hDS] at hvs
    have HM := hid hM
    have HD := hid hD
    have HDS := hid hDS
    have HVS := hid hvs
    clear hM hD hDS hvs
    go_wp2_with fail
    have C := implComputeMAC_c (s := k1) o1 (by omega)
    rw [HM.out] at C
    refine C.mono ?_
    clear C
    rintro e W9 ⟨_, rfl, rfl, y9⟩
    have q9 := y9.size
    replace X := ext_trans X y9
    replace r0 := r0.ext y9
    replace o1 := o1.ext y9
    replace o2 := o2.ext y9
    replace o4 := o4.ext y9
    replace o5 := o5.ext y9
    replace o6 := o6.ext y9
    replace o7 := o7.ext y9
    clear y9
    go_wp2_with fail
    have C := specComputeMAC_c (s := k1) o1 (by omega)
    rw [HM.out] at C
    refine C.mono ?_
    clear C
    rintro e W10 ⟨_, rfl, rfl, y10⟩
    have q10 := y10.size
    replace X := ext_trans X y10
    replace r0 := r0.ext y10
    replace o1 := o1.ext y10
    replace o2 := o2.ext y10
    replace o4 := o4.ext y10
    replace o5 := o5.ext y10
    replace o6 := o6.ext y10
    replace o7 := o7.ext y10
    clear y10
    go_wp2_with fail
    have C := implDigest_c o2
    rw [HD.out] at C
    refine C.mono ?_
    clear C
    rintro e W11 ⟨_, rfl, rfl, y11⟩
    have q11 := y11.size
    replace X := ext_trans X y11
    replace r0 := r0.ext y11
    replace o1 := o1.ext y11
    replace o2 := o2.ext y11
    replace o4 := o4.ext y11
    replace o5 := o5.ext y11
    replace o6 := o6.ext y11
    replace o7 := o7.ext y11
    clear y11
    go_wp2_with fail
    have C := specDigest_c o2
    rw [HD.out] at C
    refine C.mono ?_
    clear C
    rintro e W12 ⟨_, rfl, rfl, y12⟩
    have q12 := y12.size
    replace X := ext_trans X y12
    replace r0 := r0.ext y12
    replace o1 := o1.ext y12
    replace o2 := o2.ext y12
    replace o4 := o4.ext y12
    replace o5 := o5.ext y12
    replace o6 := o6.ext y12
    replace o7 := o7.ext y12
    clear y12
    clear o2
    obtain ⟨V3, hV3⟩ : ∃ V, vs z3 = V := ⟨_, rfl⟩
    have HV3 := hid hV3
    clear hV3
    go_wp2_with fail
    have C := implValidSecret_c (w := W12) (z := z3)
    rw [HV3.out] at C
    refine C.mono ?_
    clear C
    rintro e W13 ⟨_, rfl, rfl, y13⟩
    have q13 := y13.size
    replace X := ext_trans X y13
    replace r0 := r0.ext y13
    replace o1 := o1.ext y13
    replace o4 := o4.ext y13
    replace o5 := o5.ext y13
    replace o6 := o6.ext y13
    replace o7 := o7.ext y13
    clear y13
    go_wp2_with fail
    have C := specValidSecret_c (w := W13) (z := z3)
    rw [HV3.out] at C
    refine C.mono ?_
    clear C
    rintro e W14 ⟨_, rfl, rfl, y14⟩
    have q14 := y14.size
    replace X := ext_trans X y14
    replace r0 := r0.ext y14
    replace o1 := o1.ext y14
    replace o4 := o4.ext y14
    replace o5 := o5.ext y14
    replace o6 := o6.ext y14
    replace o7 := o7.ext y14
    clear y14
    go_wp2_with fail
    refine (implEncrypt_c (s := k4) o4 (by omega)).mono ?_
    rintro e W15 ⟨u9, rfl, o9, y15⟩
    have q15 := y15.size
    replace X := ext_trans X y15
    replace r0 := r0.ext y15
    replace o1 := o1.ext y15
    replace o4 := o4.ext y15
    replace o5 := o5.ext y15
    replace o6 := o6.ext y15
    replace o7 := o7.ext y15
    clear y15
    go_wp2_with fail
    refine (specEncrypt_c (s := k4) o4 (by omega)).mono ?_
    rintro e W16 ⟨u10, rfl, o10, y16⟩
    have q16 := y16.size
    replace X := ext_trans X y16
    replace r0 := r0.ext y16
    replace o1 := o1.ext y16
    replace o4 := o4.ext y16
    replace o5 := o5.ext y16
    replace o6 := o6.ext y16
    replace o7 := o7.ext y16
    replace o9 := o9.ext y16
    clear y16
    go_wp2_with fail
    have C := same_c o9.rd o10.rd
    rw [decide_eq_true rfl] at C
    refine C.mono ?_
    clear C
    rintro e W17 ⟨_, rfl, rfl, y17⟩
    have q17 := y17.size
    replace X := ext_trans X y17
    replace r0 := r0.ext y17
    replace o1 := o1.ext y17
    replace o4 := o4.ext y17
    replace o5 := o5.ext y17
    replace o6 := o6.ext y17
    replace o7 := o7.ext y17
    replace o9 := o9.ext y17
    replace o10 := o10.ext y17
    clear y17
    clear o9 o10
    go_wp2_with fail
    refine (implDecrypt_c (s := k4) o4 (by omega)).mono ?_
    rintro e W18 ⟨u11, rfl, o11, y18⟩
    have q18 := y18.size
    replace X := ext_trans X y18
    replace r0 := r0.ext y18
    replace o1 := o1.ext y18
    replace o4 := o4.ext y18
    replace o5 := o5.ext y18
    replace o6 := o6.ext y18
    replace o7 := o7.ext y18
    clear y18
    go_wp2_with fail
    refine (specDecrypt_c (s := k4) o4 (by omega)).mono ?_
    rintro e W19 ⟨u12, rfl, o12, y19⟩
    have q19 := y19.size
    replace X := ext_trans X y19
    replace r0 := r0.ext y19
    replace o1 := o1.ext y19
    replace o4 := o4.ext y19
    replace o5 := o5.ext y19
    replace o6 := o6.ext y19
    replace o7 := o7.ext y19
    replace o11 := o11.ext y19
    clear y19
    go_wp2_with fail
    have C := same_c o11.rd o12.rd
    rw [decide_eq_true rfl] at C
    refine C.mono ?_
    clear C
    rintro e W20 ⟨_, rfl, rfl, y20⟩
    have q20 := y20.size
    replace X := ext_trans X y20
    replace r0 := r0.ext y20
    replace o1 := o1.ext y20
    replace o4 := o4.ext y20
    replace o5 := o5.ext y20
    replace o6 := o6.ext y20
    replace o7 := o7.ext y20
    replace o11 := o11.ext y20
    replace o12 := o12.ext y20
    clear y20
    clear o11 o12
    obtain ⟨E5, hE5⟩ : ∃ V, decide (z5 = z6) = V := ⟨_, rfl⟩
    have HE5 := hid hE5
    clear hE5
    go_wp2_with fail
    have C := implEqualInts_c o5 o6
    rw [HE5.out] at C
    refine C.mono ?_
    clear C
    rintro e W21 ⟨_, rfl, rfl, y21⟩
    have q21 := y21.size
    replace X := ext_trans X y21
    replace r0 := r0.ext y21
    replace o1 := o1.ext y21
    replace o4 := o4.ext y21
    replace o5 := o5.ext y21
    replace o6 := o6.ext y21
    replace o7 := o7.ext y21
    clear y21
    go_wp2_with fail
    have C := sameInts_c o5 o6
    rw [HE5.out] at C
    refine C.mono ?_
    clear C
    rintro e W22 ⟨_, rfl, rfl, y22⟩
    have q22 := y22.size
    replace X := ext_trans X y22
    replace r0 := r0.ext y22
    replace o1 := o1.ext y22
    replace o4 := o4.ext y22
    replace o5 := o5.ext y22
    replace o6 := o6.ext y22
    replace o7 := o7.ext y22
    clear y22
    clear o5 o6
    go_wp2_with fail
    refine (implBytesToInts_c o7 (by omega)).mono ?_
    rintro e W23 ⟨u13, rfl, o13, y23⟩
    have q23 := y23.size
    replace X := ext_trans X y23
    replace r0 := r0.ext y23
    replace o1 := o1.ext y23
    replace o4 := o4.ext y23
    replace o7 := o7.ext y23
    clear y23
    go_wp2_with fail
    refine (specBytesToInts_c o7 (by omega)).mono ?_
    rintro e W24 ⟨u14, rfl, o14, y24⟩
    have q24 := y24.size
    replace X := ext_trans X y24
    replace r0 := r0.ext y24
    replace o1 := o1.ext y24
    replace o4 := o4.ext y24
    replace o7 := o7.ext y24
    replace o13 := o13.ext y24
    clear y24
    go_wp2_with fail
    have C := sameInts_c o13.rd o14.rd
    rw [decide_eq_true rfl] at C
    refine C.mono ?_
    clear C
    rintro e W25 ⟨_, rfl, rfl, y25⟩
    have q25 := y25.size
    replace X := ext_trans X y25
    replace r0 := r0.ext y25
    replace o1 := o1.ext y25
    replace o4 := o4.ext y25
    replace o7 := o7.ext y25
    replace o13 := o13.ext y25
    replace o14 := o14.ext y25
    clear y25
    clear o7 o13 o14
    go_wp2_with fail
    have C := implDeriveSecret_c (w := W25) (s := k8) (t := s8) (by omega)
    rw [HDS.out] at C
    refine C.mono ?_
    clear C
    rintro e W26 ⟨_, rfl, rfl, y26⟩
    have q26 := y26.size
    replace X := ext_trans X y26
    replace r0 := r0.ext y26
    replace o1 := o1.ext y26
    replace o4 := o4.ext y26
    clear y26
    go_wp2_with fail
    have C := specDeriveSecret_c (w := W26) (s := k8) (t := s8) (by omega)
    rw [HDS.out] at C
    refine C.mono ?_
    clear C
    rintro e W27 ⟨_, rfl, rfl, y27⟩
    have q27 := y27.size
    replace X := ext_trans X y27
    replace r0 := r0.ext y27
    replace o1 := o1.ext y27
    replace o4 := o4.ext y27
    clear y27
    go_wp2_with fail
    refine (implEncrypt_c (s := k4) o4 (by omega)).mono ?_
    rintro e W28 ⟨u15, rfl, o15, y28⟩
    have q28 := y28.size
    replace X := ext_trans X y28
    replace r0 := r0.ext y28
    replace o1 := o1.ext y28
    replace o4 := o4.ext y28
    clear y28
    go_wp2_with fail
    have C := implDecrypt_c (s := k4) o15.rd (by omega)
    rw [dec_enc] at C
    refine C.mono ?_
    clear C
    rintro e W29 ⟨u16, rfl, o16, y29⟩
    have q29 := y29.size
    replace X := ext_trans X y29
    replace r0 := r0.ext y29
    replace o1 := o1.ext y29
    replace o4 := o4.ext y29
    replace o15 := o15.ext y29
    clear y29
    go_wp2_with fail
    have C := same_c o16.rd o4
    rw [decide_eq_true rfl] at C
    refine C.mono ?_
    clear C
    rintro e W30 ⟨_, rfl, rfl, y30⟩
    have q30 := y30.size
    replace X := ext_trans X y30
    replace r0 := r0.ext y30
    replace o1 := o1.ext y30
    replace o4 := o4.ext y30
    replace o15 := o15.ext y30
    replace o16 := o16.ext y30
    clear y30
    clear o15 o16
    go_wp2_with fail
    refine (implDecrypt_c (s := k4) o4 (by omega)).mono ?_
    rintro e W31 ⟨u17, rfl, o17, y31⟩
    have q31 := y31.size
    replace X := ext_trans X y31
    replace r0 := r0.ext y31
    replace o1 := o1.ext y31
    replace o4 := o4.ext y31
    clear y31
    go_wp2_with fail
    have C := implEncrypt_c (s := k4) o17.rd (by omega)
    rw [enc_dec] at C
    refine C.mono ?_
    clear C
    rintro e W32 ⟨u18, rfl, o18, y32⟩
    have q32 := y32.size
    replace X := ext_trans X y32
    replace r0 := r0.ext y32
    replace o1 := o1.ext y32
    replace o4 := o4.ext y32
    replace o17 := o17.ext y32
    clear y32
    go_wp2_with fail
    have C := same_c o18.rd o4
    rw [decide_eq_true rfl] at C
    refine C.mono ?_
    clear C
    rintro e W33 ⟨_, rfl, rfl, y33⟩
    have q33 := y33.size
    replace X := ext_trans X y33
    replace r0 := r0.ext y33
    replace o1 := o1.ext y33
    replace o4 := o4.ext y33
    replace o17 := o17.ext y33
    replace o18 := o18.ext y33
    clear y33
    clear o17 o18 o4
    go_wp2_with fail
    have C := implDeriveSecret_c (w := W33) (s := k8) (t := s8) (by omega)
    rw [HDS.out] at C
    refine C.mono ?_
    clear C
    rintro e W34 ⟨_, rfl, rfl, y34⟩
    have q34 := y34.size
    replace X := ext_trans X y34
    replace r0 := r0.ext y34
    replace o1 := o1.ext y34
    clear y34
    go_wp2_with fail
    have C := implValidSecret_c (w := W34) (z := DS)
    rw [HVS.out] at C
    refine C.mono ?_
    clear C
    rintro e W35 ⟨_, rfl, rfl, y35⟩
    have q35 := y35.size
    replace X := ext_trans X y35
    replace r0 := r0.ext y35
    replace o1 := o1.ext y35
    clear y35
    by_cases hz : zs.length = 0
    · have e0 : ((zs.length : Int) == 0) = true := by rw [hz]; rfl
      have HZ := hid hz
      clear hz
      go_wp2
      go_ret
      exact ⟨rfl, X⟩
    · have e0 : ((zs.length : Int) == 0) = false := by rw [beq_eq_false_iff_ne]; omega
      have hzp : 0 < zs.length := by omega
      go_wp2_with fail
      refine (at3_c r0).mono ?_
      rintro e W36 ⟨_, rfl, ⟨z20, hz20, rfl⟩, y36⟩
      have q36 := y36.size
      replace X := ext_trans X y36
      replace r0 := r0.ext y36
      replace o1 := o1.ext y36
      clear y36
      obtain ⟨i, hi⟩ : ∃ i, z20 % zs.length = i := ⟨_, rfl⟩
      have hilt : i < zs.length := by rw [← hi]; exact Nat.mod_lt _ hzp
      have e1 : (z20 : Int) % (zs.length : Int) = (i : Int) := by rw [← hi]; exact (Int.natCast_emod _ _).symm
      have e2 : Int.tmod (z20 : Int) (zs.length : Int) = (i : Int) := by rw [Int.tmod_eq_emod_of_nonneg (by omega)]; exact e1
      have hi0 : (0 : Int) ≤ (i : Int) := by omega
      have hi1 : (i : Int) < (zs.length : Int) := by omega
      clear hi hz
      obtain ⟨i0, hi0', hz0, hz1, hz2⟩ := info_parts info_int
      have yb := ext_alloc (ext_refl W36) (.cells #[] 3)
      have oe := Own.new W36 #[] 3 1 0 (by decide) rfl
      go_wp2_with (at_builtin; refine wpList_append_Own rfl _ _ 37 rfl 3 i0 (.int .i64 0) 1 8 Try.underlying37 hi0' hz0 hz1 hz2 rfl (by decide) rfl oe rfl (o1.ext yb) (iv_one _) (by omega) (by omega) (by simp) ?_)
      intro v30 W30 ho30 m30
      have y30 := Mut.ext yb m30 (Nat.le_refl _)
      try rw [List.nil_append, Nat.zero_add] at ho30
      have X30 := ext_trans X y30
      have qw : w.heap.size ≤ W36.heap.size := X.size
      obtain ⟨g, cp, hv, _, _, _, _, hgs, hfz, hcl, hst⟩ := ho30.at_ hzp
      subst hv
      have f1 := hfz i
      have c2 := hcl i _ (by rw [List.getElem?_map, List.getElem?_eq_getElem hilt]; rfl)
      unfold iv at c2
      have HN := hid (mac_ne (s := k1) hilt)
      obtain ⟨ho', hmu⟩ := hst i (.int .i64 (zs[i] % 2147483647 + 1))
      have HX := hid (hmu.ext X30 qw)
      have ho2 : Own (W30.setCell ⟨g, i, none⟩ (.int .i64 (zs[i] % 2147483647 + 1))) W36.heap.size W30.heap.size 3 1 (.slice (some ⟨g, 0, none⟩) zs.length cp) zs.length ((zs.set i (zs[i] % 2147483647 + 1)).map iv) := by rw [List.map_set]; exact ho'
      have C := hid (implComputeMAC_c (s := k1) ho2.rd (by omega))
      clear hst hcl hfz ho' hmu ho30 yb oe m30 y30 X X30 ho2 o1 r0 hi0' hz0 hz1 hz2
      generalize zs.set i (zs[i] % 2147483647 + 1) = zt at *
      generalize zs[i] = z at *
      have hm0 : 0 ≤ z % 2147483647 := by omega
      have hm1 : z % 2147483647 < 2147483647 := by omega
      obtain ⟨M2, hM2⟩ : ∃ M2, mac k1 zt = M2 := ⟨_, rfl⟩
      have hne := HN.out
      rw [hM2, HM.out] at hne
      have HM2 := hid hM2
      have e9 : (M2 == M) = false := beq_eq_false_iff_ne.2 hne
      have e10 : (M2 != M) = true := by rw [bne, e9]; rfl
      clear hM2 HN hne
      go_wp2_with fail
      refine (implMod_c (by omega) (by omega)).mono ?_
      rintro e w9 ⟨rfl, rfl⟩
      go_wp2_with fail
      refine C.out.mono ?_
      clear C
      rintro e w10 ⟨_, rfl, rfl, y10⟩
      rw [HM2.out]
      have XF := ext_trans HX.out y10
      go_wp2
      go_ret
      exact ⟨rfl, XF⟩
set_option maxRecDepth 100000 in
theorem lifted (os : Os) (started : os.Started) (H : Type) (enc : TypeId × Value → H) :
    ReturnsInHanded {} Try.checked os 5 .any (Rows.fnSealsSpec.pre6 enc Try.prog Try.f5 Rows.fnSealsRow.domain false) (Rows.fnSealsSpec.post enc Try.prog Try.f5 false true false false) := by
  refine returnsInHanded_of_change (C := Try.checked) own started (by kernel_rfl) Try.func5
    (ChangeSpec.witness6 (enc := enc) (C := Try.checked) false ⟨#[], #[.slice none 0 0], []⟩ 8 (by kernel_rfl) (by kernel_rfl) (by kernel_rfl) (by kernel_rfl)) ?_
  intro W base args ds gs before hval0 hW hcnd _
  have hval : ∀ (j : Nat) t v, Try.f5.params[j]? = some t → args[j]? = some v → Value.okWide Try.prog W .any base t v := hval0
  have hW' := hW
  obtain ⟨p, q, hA0, hV, rfl, hfz, hnd⟩ := hW
  have hA : DataW.TrodAll enc Try.prog W 0 (fun _ => true) true Try.f5.params.toList args.toList ds p := hA0
  rw [Try.params5] at hA hval
  obtain ⟨v0, vs0, d0, ds0, p0, q0, hargs, rfl, rfl, h0, tr0⟩ := trodAll_cons hA
  obtain ⟨rfl, rfl, rfl⟩ := trodAll_nil tr0
  obtain rfl : args = #[v0] := by cases args; simp_all
  obtain ⟨rfl, rfl⟩ := trodVars_none hV
  have k0 := h0
  have lt0 : ∀ x ∈ p0, x.block < W.heap.size := by obtain ⟨m, hm⟩ := k0; exact DataW.trod_lt m _ _ _ hm
  obtain ⟨n0, x0, r0⟩ := rd_bytes Try.underlying22 Try.underlying5 (by kernel_rfl) (hval 0 22 v0 rfl rfl) h0
  clear hA0 hval0
  try simp only [List.append_nil] at hW'
  refine (walk W v0 n0 x0 r0).mono fun e W' ⟨he, bel⟩ => ?_
  subst he
  exact ⟨_, rfl, _, _, _, [], _, [], hW', trodAll_mk1 (shut_bool Try.underlying4 _), (trodAll_cons_mk (Below.trod laidOut (by kernel_rfl) (of_decide_eq_true (by kernel_rfl)) k0 bel lt0) trodAll_mk0), rfl, bel.frame _, fun h => by cases h⟩

theorem over : Rows.fnSealsRow.holds Try.pinned (OpenSpec.ofChange Rows.fnSealsSpec) :=
  OpenClaim.holds_of_wide 5 Try.f5 rfl rfl rfl rfl rfl rfl rfl ⟨rfl, rfl, rfl, rfl, rfl⟩ rfl rfl rfl rfl rfl (by kernel_rfl) Try.func5 (by kernel_rfl)
    (of_decide_eq_true (by kernel_rfl)) (by unfold Func.isWrapper; first | (rw [if_pos (by decide +kernel)]; kernel_rfl) | (rw [if_neg (by decide +kernel)]; exact ⟨rfl, rfl⟩))
    (fun os started H enc _ => lifted os started H enc)
/-- The statement. -/
theorem proved : Rows.FnSealsSaid := over
end fnSeals
end Go.Proofs.Ytiikpkkpacjamaa
