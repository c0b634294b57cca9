/- FnExactAppendPart holds: impl.AppendPart and spec.AppendPart agree at every name and every string, and what is made is new memory. No condition. -/
import Derived.Test.YtbachbanjcabhaaFrame
import Derived.Test.YtbachbanjcabhaaFrameN
import Derived.Test.YtbachbanjcabhaaAp
import Derived.Test.YtbachbanjcabhaaJoined
import Derived.Deep.RegionHeld3
set_option linter.unusedVariables false
namespace Go.Proofs.Ytbachbanjcabhaa
set_option maxHeartbeats 1000000
namespace fnExactAppendPart
open Go.ChangeShapes Go.WideShapes Go.ChangeAt Go.RowKit
open Go.ChangeMaps (open_string shut_string)
/-- The call returns true and leaves all that was there unturned. -/
theorem walk (w : World) (v0 : Value) (x0 : List ByteArray) (r0 : RdN w 0 w.heap.size v0 x0.length (x0.map sv)) (w0 : ∀ s ∈ x0, s.size ≤ 9223372036854775807) (s1 : ByteArray) (w1 : s1.size ≤ maxLen) :
    Calls Try.prog 12 #[v0, .string s1] w fun e w' => e = .returned (.bool true) ∧ Below w.heap.size w w' := by
  obtain ⟨s0, e0, _⟩ := id r0
  subst e0
  have l0 := wt_len x0
  unfold maxLen at w1
  by_cases h1 : (s1.size : Int) ≤ 1048576
  · skip
    have X : Below w.heap.size w (w.alloc (.cells #[s0] 31)) := (ext_alloc (ext_refl w) (.cells #[s0] 31))
    have qw : (w.alloc (.cells #[s0] 31)).heap.size = w.heap.size + 1 := by simp
    have k0 : (w.alloc (.cells #[s0] 31)).cell? ⟨w.heap.size, 0, none⟩ = some s0 := by simp
    replace r0 := r0.ext X
    have hl := ap_len x0 s1
    go_enter Try.func12, Try.ntmps12
    skip
    go_wp2_with fail
    refine (szName_c r0 w0 (by omega) (by omega)).mono ?_
    rintro e W1 ⟨_, rfl, rfl, y1⟩
    have q1 := y1.size
    replace X := ext_trans X y1
    replace r0 := r0.ext y1
    replace k0 := cell_ext k0 y1
    clear y1
    by_cases h0 : ¬ ((wt x0 : Nat) : Int) ≤ 1048576
    · rw [szS_no h0]
      go_wp2
      go_ret
      exact ⟨rfl, X⟩
    rw [szS_ok (show ((wt x0 : Nat) : Int) ≤ 1048576 by omega)]
    go_wp2_with fail
    refine (toName_c r0 (by omega)).mono ?_
    rintro e W2 ⟨u1, rfl, o1, y2⟩
    have q2 := y2.size
    replace X := ext_trans X y2
    replace r0 := r0.ext y2
    replace k0 := cell_ext k0 y2
    clear y2
    go_wp2_with fail
    refine (specAppendPart_c o1.rd (by omega) w0 w1).mono ?_
    rintro e W3 ⟨_, rfl, ⟨u2, rfl, o2⟩, y3⟩
    have q3 := y3.size
    replace X := ext_trans X y3
    replace r0 := r0.ext y3
    replace k0 := cell_ext k0 y3
    replace o1 := o1.ext y3
    clear y3
    clear o1
    obtain ⟨z4, rfl, g4⟩ := id o2
    obtain ⟨a4', c4', rfl, _⟩ := g4.rd.form
    clear g4
    have y4 := ext_alloc (ext_refl W3) (.cells #[.slice a4' ((ap x0 s1).1.length) c4'] 34)
    have q4 := y4.size
    have p4 : W3.heap.size + 1 = (W3.alloc (.cells #[.slice a4' ((ap x0 s1).1.length) c4'] 34)).heap.size := by simp
    have k40 : (W3.alloc (.cells #[.slice a4' ((ap x0 s1).1.length) c4'] 34)).cell? ⟨W3.heap.size, 0, none⟩ = some (.slice a4' ((ap x0 s1).1.length) c4') := by simp
    replace X := ext_trans X y4
    replace r0 := r0.ext y4
    replace k0 := cell_ext k0 y4
    replace o2 := o2.ext y4
    clear y4
    go_wp2_with fail
    generalize W3.alloc (.cells #[.slice a4' ((ap x0 s1).1.length) c4'] 34) = W4 at *
    go_wp2_with fail
    refine (toName_c r0 (by omega)).mono ?_
    rintro e W5 ⟨u3, rfl, o3, y5⟩
    have q5 := y5.size
    replace X := ext_trans X y5
    replace r0 := r0.ext y5
    replace k0 := cell_ext k0 y5
    replace o2 := o2.ext y5
    replace k40 := cell_ext k40 y5
    clear y5
    obtain ⟨z6, rfl, g6⟩ := id o3
    obtain ⟨a6', c6', rfl, _⟩ := g6.rd.form
    clear g6
    have y6 := ext_alloc (ext_refl W5) (.cells #[.slice a6' (x0.length) c6'] 34)
    have q6 := y6.size
    have p6 : W5.heap.size + 1 = (W5.alloc (.cells #[.slice a6' (x0.length) c6'] 34)).heap.size := by simp
    have k30 : (W5.alloc (.cells #[.slice a6' (x0.length) c6'] 34)).cell? ⟨W5.heap.size, 0, none⟩ = some (.slice a6' (x0.length) c6') := by simp
    replace X := ext_trans X y6
    replace r0 := r0.ext y6
    replace k0 := cell_ext k0 y6
    replace o2 := o2.ext y6
    replace k40 := cell_ext k40 y6
    replace o3 := o3.ext y6
    clear y6
    go_wp2_with fail
    generalize W5.alloc (.cells #[.slice a6' (x0.length) c6'] 34) = W6 at *
    go_wp2_with fail
    refine (implAppendPart_c o3.rd (by omega) w0 w1).mono ?_
    rintro e W7 ⟨_, rfl, ⟨u4, rfl, o4⟩, y7⟩
    have q7 := y7.size
    replace X := ext_trans X y7
    replace r0 := r0.ext y7
    replace k0 := cell_ext k0 y7
    replace o2 := o2.ext y7
    replace k40 := cell_ext k40 y7
    replace o3 := o3.ext y7
    replace k30 := cell_ext k30 y7
    clear y7
    obtain ⟨z8, rfl, g8⟩ := id o4
    obtain ⟨a8', c8', rfl, _⟩ := g8.rd.form
    clear g8
    have y8 := ext_alloc (ext_refl W7) (.cells #[.slice a8' ((ap x0 s1).1.length) c8'] 34)
    have q8 := y8.size
    have p8 : W7.heap.size + 1 = (W7.alloc (.cells #[.slice a8' ((ap x0 s1).1.length) c8'] 34)).heap.size := by simp
    have k41 : (W7.alloc (.cells #[.slice a8' ((ap x0 s1).1.length) c8'] 34)).cell? ⟨W7.heap.size, 0, none⟩ = some (.slice a8' ((ap x0 s1).1.length) c8') := by simp
    replace X := ext_trans X y8
    replace r0 := r0.ext y8
    replace k0 := cell_ext k0 y8
    replace o2 := o2.ext y8
    replace k40 := cell_ext k40 y8
    replace o3 := o3.ext y8
    replace k30 := cell_ext k30 y8
    replace o4 := o4.ext y8
    clear y8
    go_wp2_with fail
    generalize W7.alloc (.cells #[.slice a8' ((ap x0 s1).1.length) c8'] 34) = W8 at *
    go_wp2_with fail
    refine (eqName_c o4.rd o2.rd).mono ?_
    rintro e W9 ⟨_, rfl, rfl, y9⟩
    have q9 := y9.size
    replace X := ext_trans X y9
    replace r0 := r0.ext y9
    replace k0 := cell_ext k0 y9
    replace o2 := o2.ext y9
    replace k40 := cell_ext k40 y9
    replace o3 := o3.ext y9
    replace k30 := cell_ext k30 y9
    replace o4 := o4.ext y9
    replace k41 := cell_ext k41 y9
    clear y9
    go_wp2_with fail
    have y9 := Below.drew (ext_refl W9)
    have qd9 := y9.size
    replace X := ext_trans X y9
    replace r0 := r0.ext y9
    replace k0 := cell_ext k0 y9
    replace o2 := o2.ext y9
    replace k40 := cell_ext k40 y9
    replace o3 := o3.ext y9
    replace k30 := cell_ext k30 y9
    replace o4 := o4.ext y9
    replace k41 := cell_ext k41 y9
    clear y9
    go_region_held3 (fun w' => w'.cell? ⟨W5.heap.size, 0, none⟩ = some (.slice a6' (x0.length) c6') ∧ w'.cell? ⟨w.heap.size, 0, none⟩ = some s0)
      (first | exact ⟨k30, k0⟩)
      (first
        | (go_at_call 25; have C := toName_c r0 (by omega); (with_reducible refine C.mono ?_); clear C; rintro e W10 ⟨u5, rfl, o5, y10⟩; have q10 := y10.size; replace X := ext_trans X y10; replace r0 := r0.ext y10; replace k0 := cell_ext k0 y10; replace o2 := o2.ext y10; replace k40 := cell_ext k40 y10; replace o3 := o3.ext y10; replace k30 := cell_ext k30 y10; replace o4 := o4.ext y10; replace k41 := cell_ext k41 y10; clear y10)
        | (go_at_call 27; have C := eqName_c o3.rd o5.rd; (with_reducible refine C.mono ?_); clear C; rintro e W11 ⟨_, rfl, rfl, y11⟩; have q11 := y11.size; replace X := ext_trans X y11; replace r0 := r0.ext y11; replace k0 := cell_ext k0 y11; replace o2 := o2.ext y11; replace k40 := cell_ext k40 y11; replace o3 := o3.ext y11; replace k30 := cell_ext k30 y11; replace o4 := o4.ext y11; replace k41 := cell_ext k41 y11; replace o5 := o5.ext y11; clear y11))
    clear o5
    go_wp2_with fail
    refine (markName_c o3 (k0 := 1) (by omega) (by omega) (by omega)).mono ?_
    clear o3
    rintro e W12 ⟨rfl, o3, y12⟩
    have q12 := y12.size
    replace X := y12.ext X (by omega)
    replace r0 := r0.mut y12 (by omega)
    replace k0 := cell_mut k0 y12 (by simp only; omega)
    replace o2 := o2.mut y12 (by omega)
    replace k40 := cell_mut k40 y12 (by simp only; omega)
    replace k30 := cell_mut k30 y12 (by simp only; omega)
    replace o4 := o4.mut y12 (by omega)
    replace k41 := cell_mut k41 y12 (by simp only; omega)
    clear y12
    go_wp2_with fail
    refine (eqName_c o4.rd o2.rd).mono ?_
    rintro e W13 ⟨_, rfl, rfl, y13⟩
    have q13 := y13.size
    replace X := ext_trans X y13
    replace r0 := r0.ext y13
    replace k0 := cell_ext k0 y13
    replace o2 := o2.ext y13
    replace k40 := cell_ext k40 y13
    replace o3 := o3.ext y13
    replace k30 := cell_ext k30 y13
    replace o4 := o4.ext y13
    replace k41 := cell_ext k41 y13
    clear y13
    go_wp2_with fail
    refine (markName_c o4 (k0 := 1) (by omega) (by omega) (by omega)).mono ?_
    clear o4
    rintro e W14 ⟨rfl, o4, y14⟩
    have q14 := y14.size
    replace X := y14.ext X (by omega)
    replace r0 := r0.mut y14 (by omega)
    replace k0 := cell_mut k0 y14 (by simp only; omega)
    replace o2 := o2.mut y14 (by omega)
    replace k40 := cell_mut k40 y14 (by simp only; omega)
    replace o3 := o3.mut y14 (by omega)
    replace k30 := cell_mut k30 y14 (by simp only; omega)
    replace k41 := cell_mut k41 y14 (by simp only; omega)
    clear y14
    go_wp2_with fail
    refine (heldName_c o4.rd (k0 := 1) (by omega) (by omega) (by omega)).mono ?_
    rintro e W15 ⟨_, rfl, rfl, y15⟩
    have q15 := y15.size
    replace X := ext_trans X y15
    replace r0 := r0.ext y15
    replace k0 := cell_ext k0 y15
    replace o2 := o2.ext y15
    replace k40 := cell_ext k40 y15
    replace o3 := o3.ext y15
    replace k30 := cell_ext k30 y15
    replace o4 := o4.ext y15
    replace k41 := cell_ext k41 y15
    clear y15
    go_wp2_with fail
    refine (toName_c r0 (by omega)).mono ?_
    rintro e W16 ⟨u6, rfl, o6, y16⟩
    have q16 := y16.size
    replace X := ext_trans X y16
    replace r0 := r0.ext y16
    replace k0 := cell_ext k0 y16
    replace o2 := o2.ext y16
    replace k40 := cell_ext k40 y16
    replace o3 := o3.ext y16
    replace k30 := cell_ext k30 y16
    replace o4 := o4.ext y16
    replace k41 := cell_ext k41 y16
    clear y16
    go_wp2_with fail
    refine (implAppendPart_c o6.rd (by omega) w0 w1).mono ?_
    rintro e W17 ⟨_, rfl, ⟨u7, rfl, o7⟩, y17⟩
    have q17 := y17.size
    replace X := ext_trans X y17
    replace r0 := r0.ext y17
    replace k0 := cell_ext k0 y17
    replace o2 := o2.ext y17
    replace k40 := cell_ext k40 y17
    replace o3 := o3.ext y17
    replace k30 := cell_ext k30 y17
    replace o4 := o4.ext y17
    replace k41 := cell_ext k41 y17
    replace o6 := o6.ext y17
    clear y17
    obtain ⟨z18, rfl, g18⟩ := id o7
    obtain ⟨a18', c18', rfl, _⟩ := g18.rd.form
    clear g18
    have y18 := ext_alloc (ext_refl W17) (.cells #[.slice a18' ((ap x0 s1).1.length) c18'] 34)
    have q18 := y18.size
    have p18 : W17.heap.size + 1 = (W17.alloc (.cells #[.slice a18' ((ap x0 s1).1.length) c18'] 34)).heap.size := by simp
    have k42 : (W17.alloc (.cells #[.slice a18' ((ap x0 s1).1.length) c18'] 34)).cell? ⟨W17.heap.size, 0, none⟩ = some (.slice a18' ((ap x0 s1).1.length) c18') := by simp
    replace X := ext_trans X y18
    replace r0 := r0.ext y18
    replace k0 := cell_ext k0 y18
    replace o2 := o2.ext y18
    replace k40 := cell_ext k40 y18
    replace o3 := o3.ext y18
    replace k30 := cell_ext k30 y18
    replace o4 := o4.ext y18
    replace k41 := cell_ext k41 y18
    replace o6 := o6.ext y18
    replace o7 := o7.ext y18
    clear y18
    go_wp2_with fail
    generalize W17.alloc (.cells #[.slice a18' ((ap x0 s1).1.length) c18'] 34) = W18 at *
    go_wp2_with fail
    refine (eqName_c o7.rd o2.rd).mono ?_
    rintro e W19 ⟨_, rfl, rfl, y19⟩
    have q19 := y19.size
    replace X := ext_trans X y19
    replace r0 := r0.ext y19
    replace k0 := cell_ext k0 y19
    replace o2 := o2.ext y19
    replace k40 := cell_ext k40 y19
    replace o3 := o3.ext y19
    replace k30 := cell_ext k30 y19
    replace o4 := o4.ext y19
    replace k41 := cell_ext k41 y19
    replace o6 := o6.ext y19
    replace o7 := o7.ext y19
    replace k42 := cell_ext k42 y19
    clear y19
    go_wp2_with fail
    refine (heldName_c o4.rd (k0 := 1) (by omega) (by omega) (by omega)).mono ?_
    rintro e W20 ⟨_, rfl, rfl, y20⟩
    have q20 := y20.size
    replace X := ext_trans X y20
    replace r0 := r0.ext y20
    replace k0 := cell_ext k0 y20
    replace o2 := o2.ext y20
    replace k40 := cell_ext k40 y20
    replace o3 := o3.ext y20
    replace k30 := cell_ext k30 y20
    replace o4 := o4.ext y20
    replace k41 := cell_ext k41 y20
    replace o6 := o6.ext y20
    replace o7 := o7.ext y20
    replace k42 := cell_ext k42 y20
    clear y20
    go_wp2_with fail
    go_ret
    exact ⟨rfl, X⟩
  · go_enter Try.func12, Try.ntmps12
    go_wp2
    go_ret
    exact ⟨rfl, ext_alloc (ext_refl _) _⟩
set_option maxRecDepth 100000 in
theorem lifted (os : Os) (started : os.Started) (H : Type) (enc : TypeId × Value → H) :
    ReturnsInHanded {} Try.checked os 12 .any (Rows.fnExactAppendPartSpec.pre6 enc Try.prog Try.f12 Rows.fnExactAppendPartRow.domain false) (Rows.fnExactAppendPartSpec.post enc Try.prog Try.f12 false true false false) := by
  refine returnsInHanded_of_change (C := Try.checked) own started (by kernel_rfl) Try.func12
    (ChangeSpec.witness6 (enc := enc) (C := Try.checked) false ⟨#[], #[.agg #[.slice none 0 0], .string ByteArray.empty], []⟩ 8 (by kernel_rfl) (by kernel_rfl) (by kernel_rfl) (by kernel_rfl)) ?_
  intro W base args ds gs before hval0 hW hcnd _
  have hval : ∀ (j : Nat) t v, Try.f12.params[j]? = some t → args[j]? = some v → Value.okWide Try.prog W .any base t v := hval0
  have hW' := hW
  obtain ⟨p, q, hA0, hV, rfl, hfz, hnd⟩ := hW
  have hA : DataW.TrodAll enc Try.prog W 0 (fun _ => true) true Try.f12.params.toList args.toList ds p := hA0
  rw [Try.params12] at hA hval
  obtain ⟨v0, vs0, d0, ds0, p0, q0, hargs, rfl, rfl, h0, tr0⟩ := trodAll_cons hA
  obtain ⟨v1, vs1, d1, ds1, p1, q1, rfl, rfl, rfl, h1, tr1⟩ := trodAll_cons tr0
  obtain ⟨rfl, rfl, rfl⟩ := trodAll_nil tr1
  obtain rfl : args = #[v0, v1] := by cases args; simp_all
  obtain ⟨rfl, rfl⟩ := trodVars_none hV
  have k0 := h0
  have lt0 : ∀ x ∈ p0, x.block < W.heap.size := by obtain ⟨m, hm⟩ := k0; exact DataW.trod_lt m _ _ _ hm
  obtain ⟨x0, r0, w0⟩ := rd_name Try.underlying31 (by kernel_rfl) (by kernel_rfl) Try.underlying29 Try.underlying9 (by kernel_rfl) (hval 0 31 v0 rfl rfl) h0
  obtain ⟨s1, rfl, rfl, rfl, w1⟩ := open_string Try.underlying9 (hval 1 9 v1 rfl rfl) h1
  clear hA0 hval0
  try simp only [List.append_nil] at hW'
  refine (walk W v0 x0 r0 w0 s1 w1).mono fun e W' ⟨he, bel⟩ => ?_
  subst he
  exact ⟨_, rfl, _, _, _, [], _, [], hW', trodAll_mk1 (shut_bool Try.underlying4 _), (trodAll_cons_mk (Below.trod laidOut (by kernel_rfl) (of_decide_eq_true (by kernel_rfl)) k0 bel lt0) (trodAll_cons_mk (shut_string Try.underlying9 w1) trodAll_mk0)), rfl, bel.frame _, fun h => by cases h⟩

theorem closed : joinedFacts Try.pinned.checked.prog 12 Try.f12 Rows.fnExactAppendPartSpec Rows.fnExactAppendPartRow = true := by
  unfold joinedFacts
  rw [show Try.pinned.checked.prog.mayEnter = true from joined1, show (Rows.fnExactAppendPartRow.lifted == Try.pinned.checked.prog.liftsFinal) = true from joined2, show (Try.pinned.checked.prog.make == some Rows.fnExactAppendPartRow.make) = true from joined3]
  kernel_rfl
theorem over : Rows.fnExactAppendPartRow.holds Try.pinned (OpenSpec.ofChange Rows.fnExactAppendPartSpec) :=
  OpenClaim.holds_of_wide 12 Try.f12 rfl rfl rfl rfl rfl rfl rfl ⟨rfl, rfl, rfl, rfl, rfl⟩ rfl rfl rfl rfl rfl (by kernel_rfl) Try.func12 closed
    (of_decide_eq_true (by kernel_rfl)) (by unfold Func.isWrapper; first | (rw [if_pos (by decide +kernel)]; kernel_rfl) | (rw [if_neg (by decide +kernel)]; exact ⟨rfl, rfl⟩))
    (fun os started H enc _ => lifted os started H enc)
/-- The statement. -/
theorem proved : Rows.FnExactAppendPartSaid := over
end fnExactAppendPart
end Go.Proofs.Ytbachbanjcabhaa
