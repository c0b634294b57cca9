/- FnAlls holds: several integers are decoded one after the other. No condition. -/
import Derived.Test.YtiikpkkpacjamaaFrame
import Derived.Test.YtiikpkkpacjamaaBig
import Derived.Test.YtiikpkkpacjamaaDc
import Derived.Test.YtiikpkkpacjamaaVl
import Derived.Test.YtiikpkkpacjamaaSm
set_option linter.unusedVariables false
namespace Go.Proofs.Ytiikpkkpacjamaa
theorem vi_step {l : List Int} {k : Nat} (h : k < l.length) (g : Vi (l.take k)) (hz : 0 ≤ l[k] ∧ l[k] ≤ 1000000000000) : Vi (l.take (k + 1)) := by
  intro z hz'
  rw [List.take_succ_eq_append_getElem h] at hz'
  rcases List.mem_append.1 hz' with h1 | h1
  · exact g z h1
  · rw [List.mem_singleton.1 h1]; exact hz
set_option maxRecDepth 100000
set_option maxHeartbeats 8000000
namespace fnAlls
open Go.ChangeShapes Go.WideShapes Go.ChangeAt Go.RowKit
open Go.ChangeMaps (open_string shut_string)
/-- The call returns true and leaves all that was there unturned. -/
theorem walk (w : World) (v0 : Value) (n0 : Nat) (x0 : List UInt8) (r0 : Rd w 0 w.heap.size 1 v0 n0 (x0.map bv)) :
    Calls Try.prog 4 #[v0] w fun e w' => e = .returned (.bool true) ∧ Below w.heap.size w w' := by
  obtain ⟨b0, c0, rfl, hn0⟩ := r0.form
  by_cases h1 : 1048576 < n0
  · go_enter Try.func4, Try.ntmps4
    go_wp2_with fail
    refine (big_c r0 (decide_eq_true h1)).mono ?_
    rintro e w1 ⟨_, rfl, rfl, y1⟩
    go_wp2
    go_ret
    exact ⟨rfl, y1⟩
  · skip
    go_enter Try.func4, Try.ntmps4
    have X := ext_refl w
    go_wp2_with fail
    refine (big_c r0 (decide_eq_false h1)).mono ?_
    rintro e W1 ⟨_, rfl, rfl, y1⟩
    have q1 := y1.size
    replace X := ext_trans X y1
    replace r0 := r0.ext y1
    clear y1
    go_wp2_with fail
    refine (DrawEncodeInts_c r0 (by omega) (by omega)).mono ?_
    rintro e W2 ⟨_, rfl, ⟨zs, o1, l1⟩, y2⟩
    have q2 := y2.size
    replace X := ext_trans X y2
    replace r0 := r0.ext y2
    clear y2
    obtain ⟨a1, c1, rfl, _⟩ := o1.form
    go_wp2_with fail
    refine (DrawDecodeInts_c r0 (by omega) (by omega)).mono ?_
    rintro e W3 ⟨_, rfl, ⟨u2, i2, n2, rfl, b2, o2, l2⟩, y3⟩
    have q3 := y3.size
    replace X := ext_trans X y3
    replace r0 := r0.ext y3
    replace o1 := o1.ext y3
    clear y3
    obtain ⟨a2, c2, rfl, _⟩ := o2.form
    have hcount := fun h => diR_count (xs := b2) (p := i2) (n := n2) h
    obtain ⟨D, hD⟩ : ∃ D, diR b2 i2 n2 = D := ⟨_, rfl⟩
    obtain ⟨dl, dp, dk⟩ := D
    rw [hD] at hcount
    simp only at hcount
    have HD := hid hD
    have HCT := hid hcount
    clear hD hcount
    go_wp2_with fail
    have C := implDecodeInts_c (p := i2) (n := n2) o2
    rw [HD.out] at C
    refine C.mono ?_
    clear C
    rintro e W4 ⟨_, rfl, ⟨u3, rfl, o3⟩, y4⟩
    have q4 := y4.size
    replace X := ext_trans X y4
    replace r0 := r0.ext y4
    replace o1 := o1.ext y4
    replace o2 := o2.ext y4
    clear y4
    simp only at o3
    obtain ⟨a3, c3, rfl, _⟩ := o3.rd.form
    go_wp2_with fail
    have C := specDecodeInts_c (p := i2) (n := n2) o2
    rw [HD.out] at C
    refine C.mono ?_
    clear C
    rintro e W5 ⟨_, rfl, ⟨u4, rfl, o4⟩, y5⟩
    have q5 := y5.size
    replace X := ext_trans X y5
    replace r0 := r0.ext y5
    replace o1 := o1.ext y5
    replace o2 := o2.ext y5
    replace o3 := o3.ext y5
    clear y5
    simp only at o4
    go_wp2_with fail
    refine (DrawEqualBytes_c r0 (by omega) (by omega)).mono ?_
    rintro e W6 ⟨_, rfl, ⟨u5, u6, rfl, ⟨b5, o5, l5⟩, ⟨b6, o6, l6⟩⟩, y6⟩
    have q6 := y6.size
    replace X := ext_trans X y6
    replace r0 := r0.ext y6
    replace o1 := o1.ext y6
    replace o2 := o2.ext y6
    replace o3 := o3.ext y6
    replace o4 := o4.ext y6
    clear y6
    obtain ⟨y7, n7, hy7, hn7⟩ : ∃ y7 n7, ei zs = y7 ∧ (ei zs).length = n7 := ⟨_, _, rfl, rfl⟩
    have hlz : (ei zs).length ≤ 7 * zs.length := by have := ei_len zs zs.length; rwa [List.take_length] at this
    rw [hn7] at hlz
    have HY7 := hid hy7
    have HN7 := hid (show y7.length = n7 by rw [← hy7]; exact hn7)
    clear hy7 hn7
    go_wp2_with fail
    have C := implEncodeInts_c o1 (by omega)
    rw [HY7.out] at C
    rw [HN7.out] at C
    refine C.mono ?_
    clear C
    rintro e W7 ⟨u7, rfl, o7, y7⟩
    have q7 := y7.size
    replace X := ext_trans X y7
    replace r0 := r0.ext y7
    replace o1 := o1.ext y7
    replace o2 := o2.ext y7
    replace o3 := o3.ext y7
    replace o4 := o4.ext y7
    replace o5 := o5.ext y7
    replace o6 := o6.ext y7
    clear y7
    go_wp2_with fail
    have C := specEncodeInts_c o1 (by omega)
    rw [HY7.out] at C
    rw [HN7.out] at C
    refine C.mono ?_
    clear C
    rintro e W8 ⟨u8, rfl, o8, y8⟩
    have q8 := y8.size
    replace X := ext_trans X y8
    replace r0 := r0.ext y8
    replace o1 := o1.ext y8
    replace o2 := o2.ext y8
    replace o3 := o3.ext y8
    replace o4 := o4.ext y8
    replace o5 := o5.ext y8
    replace o6 := o6.ext y8
    replace o7 := o7.ext y8
    clear y8
    go_wp2_with fail
    have C := same_c o7.rd o8.rd
    rw [decide_eq_true rfl] at C
    refine C.mono ?_
    clear C
    rintro e W9 ⟨_, rfl, rfl, y9⟩
    have q9 := y9.size
    replace X := ext_trans X y9
    replace r0 := r0.ext y9
    replace o1 := o1.ext y9
    replace o2 := o2.ext y9
    replace o3 := o3.ext y9
    replace o4 := o4.ext y9
    replace o5 := o5.ext y9
    replace o6 := o6.ext y9
    replace o7 := o7.ext y9
    replace o8 := o8.ext y9
    clear y9
    clear o7 o8
    go_wp2_with fail
    have C := sameInts_c o3.rd o4.rd
    rw [decide_eq_true rfl] at C
    refine C.mono ?_
    clear C
    rintro e W10 ⟨_, rfl, rfl, y10⟩
    have q10 := y10.size
    replace X := ext_trans X y10
    replace r0 := r0.ext y10
    replace o1 := o1.ext y10
    replace o2 := o2.ext y10
    replace o3 := o3.ext y10
    replace o4 := o4.ext y10
    replace o5 := o5.ext y10
    replace o6 := o6.ext y10
    clear y10
    clear o4
    go_wp2_with fail
    refine (implEqualBytes_c o5 o6).mono ?_
    rintro e W11 ⟨_, rfl, rfl, y11⟩
    have q11 := y11.size
    replace X := ext_trans X y11
    replace r0 := r0.ext y11
    replace o1 := o1.ext y11
    replace o2 := o2.ext y11
    replace o3 := o3.ext y11
    replace o5 := o5.ext y11
    replace o6 := o6.ext y11
    clear y11
    go_wp2_with fail
    refine (same_c o5 o6).mono ?_
    rintro e W12 ⟨_, rfl, rfl, y12⟩
    have q12 := y12.size
    replace X := ext_trans X y12
    replace r0 := r0.ext y12
    replace o1 := o1.ext y12
    replace o2 := o2.ext y12
    replace o3 := o3.ext y12
    replace o5 := o5.ext y12
    replace o6 := o6.ext y12
    clear y12
    clear o5 o6 r0 o2
    go_wp2_with fail
    have HO7 := hid o1
    go_loopw [15] (fun i wr => ∃ k : Nat, k ≤ zs.length ∧ i = .int .i64 k ∧ Hid (Vi (zs.take k)) ∧ Below W12.heap.size W12 wr) (fun i _ => zs.length - (intOf i).toNat)
    case atStart => exact ⟨0, Nat.zero_le _, rfl, hid (by intro z hz; simp at hz), ext_refl _⟩
    case round =>
      obtain ⟨k, hk, rfl, HK, hb⟩ := hrel
      replace X := ext_trans X hb
      by_cases hlt : k < zs.length
      · obtain ⟨_, ar, cr, hv, _, _, hat⟩ := o1.ext hb
        simp only [Value.slice.injEq, true_and] at hv
        obtain ⟨rfl, rfl⟩ := hv
        obtain ⟨b, off, rfl, _, _, hbs, hcell⟩ := hat (by omega)
        have c9 : wr.cell? ⟨b, off + k, none⟩ = some (.int .i64 zs[k]) := hcell k _ (by simp [hlt, iv])
        have HS := hid (fun h => vi_step hlt HK.out h)
        have i0 : (0 : Int) ≤ (k : Int) := by omega
        have i1 : (k : Int) < (zs.length : Int) := by omega
        clear hcell hat o3 o1
        generalize zs[k] = z at *
        by_cases g1 : z < 0
        · go_wp2
          go_ret
          exact ⟨rfl, X⟩
        · have g2 : decide (z < 0) = false := decide_eq_false g1
          by_cases g3 : 1000000000000 < z
          · go_wp2
            go_ret
            exact ⟨rfl, X⟩
          · have g4 : decide (1000000000000 < z) = false := decide_eq_false g3
            have HV := HS.out ⟨by omega, by omega⟩
            have HV2 := hid HV
            clear HV HS
            go_wp2
            go_roundw
            case rel => exact ⟨k + 1, by omega, by go_num, HV2, hb⟩
            case measure => simp [intOf]; omega
      · have hv := HK.out
        rw [List.take_of_length_le (by omega)] at hv
        have hdi := di_ei hv (by omega)
        rw [HY7.out, HN7.out] at hdi
        have HDI := hid hdi
        have g1 : decide ((k : Int) < (zs.length : Int)) = false := decide_eq_false (by omega)
        have g2 : decide (k < zs.length) = false := decide_eq_false hlt
        replace o1 := o1.ext hb
        replace o3 := o3.ext hb
        clear hv hdi HK hb
        go_wp2_with fail
        have C := implEncodeInts_c o1 (by omega)
        rw [HY7.out] at C
        rw [HN7.out] at C
        refine C.mono ?_
        clear C
        rintro e W13 ⟨u20, rfl, o20, y13⟩
        have q13 := y13.size
        replace X := ext_trans X y13
        replace o1 := o1.ext y13
        replace o3 := o3.ext y13
        clear y13
        obtain ⟨a20, c20, rfl, _⟩ := o20.rd.form
        go_wp2_with fail
        have C := implDecodeInts_c (p := 0) (n := (zs.length : Int)) o20.rd
        rw [HDI.out] at C
        refine C.mono ?_
        clear C
        rintro e W14 ⟨_, rfl, ⟨u21, rfl, o21⟩, y14⟩
        have q14 := y14.size
        replace X := ext_trans X y14
        replace o1 := o1.ext y14
        replace o3 := o3.ext y14
        replace o20 := o20.ext y14
        clear y14
        simp only at o21
        go_wp2_with fail
        have C := sameInts_c o21.rd o1
        rw [decide_eq_true rfl] at C
        refine C.mono ?_
        clear C
        rintro e W15 ⟨_, rfl, rfl, y15⟩
        have q15 := y15.size
        replace X := ext_trans X y15
        replace o1 := o1.ext y15
        replace o3 := o3.ext y15
        replace o20 := o20.ext y15
        replace o21 := o21.ext y15
        clear y15
        go_wp2_with fail
        have C := implEncodeInts_c o1 (by omega)
        rw [HY7.out] at C
        rw [HN7.out] at C
        refine C.mono ?_
        clear C
        rintro e W16 ⟨u22, rfl, o22, y16⟩
        have q16 := y16.size
        replace X := ext_trans X y16
        replace o1 := o1.ext y16
        replace o3 := o3.ext y16
        replace o20 := o20.ext y16
        replace o21 := o21.ext y16
        clear y16
        obtain ⟨a22, c22, rfl, _⟩ := o22.rd.form
        cases dk
        · go_wp2
          go_ret
          exact ⟨rfl, X⟩
        · have hct := HCT.out rfl
          have e7 : ((dl.length : Int) == n2) = true := by rw [hct]; simp
          clear hct
          go_wp2
          go_ret
          exact ⟨rfl, X⟩
set_option maxRecDepth 100000 in
theorem lifted (os : Os) (started : os.Started) (H : Type) (enc : TypeId × Value → H) :
    ReturnsInHanded {} Try.checked os 4 .any (Rows.fnAllsSpec.pre6 enc Try.prog Try.f4 Rows.fnAllsRow.domain false) (Rows.fnAllsSpec.post enc Try.prog Try.f4 false true false false) := by
  refine returnsInHanded_of_change (C := Try.checked) own started (by kernel_rfl) Try.func4
    (ChangeSpec.witness6 (enc := enc) (C := Try.checked) false ⟨#[], #[.slice none 0 0], []⟩ 8 (by kernel_rfl) (by kernel_rfl) (by kernel_rfl) (by kernel_rfl)) ?_
  intro W base args ds gs before hval0 hW hcnd _
  have hval : ∀ (j : Nat) t v, Try.f4.params[j]? = some t → args[j]? = some v → Value.okWide Try.prog W .any base t v := hval0
  have hW' := hW
  obtain ⟨p, q, hA0, hV, rfl, hfz, hnd⟩ := hW
  have hA : DataW.TrodAll enc Try.prog W 0 (fun _ => true) true Try.f4.params.toList args.toList ds p := hA0
  rw [Try.params4] at hA hval
  obtain ⟨v0, vs0, d0, ds0, p0, q0, hargs, rfl, rfl, h0, tr0⟩ := trodAll_cons hA
  obtain ⟨rfl, rfl, rfl⟩ := trodAll_nil tr0
  obtain rfl : args = #[v0] := by cases args; simp_all
  obtain ⟨rfl, rfl⟩ := trodVars_none hV
  have k0 := h0
  have lt0 : ∀ x ∈ p0, x.block < W.heap.size := by obtain ⟨m, hm⟩ := k0; exact DataW.trod_lt m _ _ _ hm
  obtain ⟨n0, x0, r0⟩ := rd_bytes Try.underlying22 Try.underlying5 (by kernel_rfl) (hval 0 22 v0 rfl rfl) h0
  clear hA0 hval0
  try simp only [List.append_nil] at hW'
  refine (walk W v0 n0 x0 r0).mono fun e W' ⟨he, bel⟩ => ?_
  subst he
  exact ⟨_, rfl, _, _, _, [], _, [], hW', trodAll_mk1 (shut_bool Try.underlying4 _), (trodAll_cons_mk (Below.trod laidOut (by kernel_rfl) (of_decide_eq_true (by kernel_rfl)) k0 bel lt0) trodAll_mk0), rfl, bel.frame _, fun h => by cases h⟩

theorem over : Rows.fnAllsRow.holds Try.pinned (OpenSpec.ofChange Rows.fnAllsSpec) :=
  OpenClaim.holds_of_wide 4 Try.f4 rfl rfl rfl rfl rfl rfl rfl ⟨rfl, rfl, rfl, rfl, rfl⟩ rfl rfl rfl rfl rfl (by kernel_rfl) Try.func4 (by kernel_rfl)
    (of_decide_eq_true (by kernel_rfl)) (by unfold Func.isWrapper; first | (rw [if_pos (by decide +kernel)]; kernel_rfl) | (rw [if_neg (by decide +kernel)]; exact ⟨rfl, rfl⟩))
    (fun os started H enc _ => lifted os started H enc)
/-- The statement. -/
theorem proved : Rows.FnAllsSaid := over
end fnAlls
end Go.Proofs.Ytiikpkkpacjamaa
