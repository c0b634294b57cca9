/- FnExactFormatPattern holds: impl.FormatPattern and spec.FormatPattern agree at every pattern. No condition. -/
import Derived.Test.YtbachbanjcabhaaFrame
import Derived.Test.YtbachbanjcabhaaFrameN
import Derived.Test.YtbachbanjcabhaaJn
import Derived.Test.YtbachbanjcabhaaJoined
import Derived.Deep.RegionHeld3
set_option linter.unusedVariables false
namespace Go.Proofs.Ytbachbanjcabhaa
set_option maxHeartbeats 1000000
namespace fnExactFormatPattern
open Go.ChangeShapes Go.WideShapes Go.ChangeAt Go.RowKit
open Go.ChangeMaps (open_string shut_string)
/-- The call returns true and leaves all that was there unturned. -/
theorem walk (w : World) (v0 : Value) (x0 : List ByteArray) (r0 : RdN w 0 w.heap.size v0 x0.length (x0.map sv)) (w0 : ∀ s ∈ x0, s.size ≤ 9223372036854775807) :
    Calls Try.prog 11 #[v0] w fun e w' => e = .returned (.bool true) ∧ Below w.heap.size w w' := by
  obtain ⟨s0, e0, _⟩ := id r0
  subst e0
  have l0 := wt_len x0
  have X : Below w.heap.size w (w.alloc (.cells #[s0] 37)) := (ext_alloc (ext_refl w) (.cells #[s0] 37))
  have k0 : (w.alloc (.cells #[s0] 37)).cell? ⟨w.heap.size, 0, none⟩ = some s0 := by simp
  replace r0 := r0.ext X
  go_enter Try.func11, Try.ntmps11
  skip
  go_wp2_with fail
  refine (szPattern_c r0 w0 (by omega) (by omega)).mono ?_
  rintro e W1 ⟨_, rfl, rfl, y1⟩
  have q1 := y1.size
  replace X := ext_trans X y1
  replace r0 := r0.ext y1
  replace k0 := cell_ext k0 y1
  clear y1
  by_cases h0 : ¬ ((wt x0 : Nat) : Int) ≤ 1048576
  · rw [szS_no h0]
    go_wp2
    go_ret
    exact ⟨rfl, X⟩
  rw [szS_ok (show ((wt x0 : Nat) : Int) ≤ 1048576 by omega)]
  go_wp2_with fail
  refine (toPattern_c r0 (by omega)).mono ?_
  rintro e W2 ⟨u1, rfl, o1, y2⟩
  have q2 := y2.size
  replace X := ext_trans X y2
  replace r0 := r0.ext y2
  replace k0 := cell_ext k0 y2
  clear y2
  go_wp2_with fail
  refine (specFormatPattern_c o1.rd (by omega)).mono ?_
  rintro e W3 ⟨_, rfl, rfl, y3⟩
  have q3 := y3.size
  replace X := ext_trans X y3
  replace r0 := r0.ext y3
  replace k0 := cell_ext k0 y3
  replace o1 := o1.ext y3
  clear y3
  clear o1
  go_wp2_with fail
  refine (toPattern_c r0 (by omega)).mono ?_
  rintro e W4 ⟨u2, rfl, o2, y4⟩
  have q4 := y4.size
  replace X := ext_trans X y4
  replace r0 := r0.ext y4
  replace k0 := cell_ext k0 y4
  clear y4
  obtain ⟨z5, rfl, g5⟩ := id o2
  obtain ⟨a5', c5', rfl, _⟩ := g5.rd.form
  clear g5
  have y5 := ext_alloc (ext_refl W4) (.cells #[.slice a5' (x0.length) c5'] 40)
  have q5 := y5.size
  have p5 : W4.heap.size + 1 = (W4.alloc (.cells #[.slice a5' (x0.length) c5'] 40)).heap.size := by simp
  have k30 : (W4.alloc (.cells #[.slice a5' (x0.length) c5'] 40)).cell? ⟨W4.heap.size, 0, none⟩ = some (.slice a5' (x0.length) c5') := by simp
  replace X := ext_trans X y5
  replace r0 := r0.ext y5
  replace k0 := cell_ext k0 y5
  replace o2 := o2.ext y5
  clear y5
  go_wp2_with fail
  generalize W4.alloc (.cells #[.slice a5' (x0.length) c5'] 40) = W5 at *
  go_wp2_with fail
  refine (implFormatPattern_c o2.rd (by omega)).mono ?_
  rintro e W6 ⟨_, rfl, rfl, y6⟩
  have q6 := y6.size
  replace X := ext_trans X y6
  replace r0 := r0.ext y6
  replace k0 := cell_ext k0 y6
  replace o2 := o2.ext y6
  replace k30 := cell_ext k30 y6
  clear y6
  go_wp2_with fail
  have y6 := Below.drew (ext_refl W6)
  have qd6 := y6.size
  replace X := ext_trans X y6
  replace r0 := r0.ext y6
  replace k0 := cell_ext k0 y6
  replace o2 := o2.ext y6
  replace k30 := cell_ext k30 y6
  clear y6
  go_region_held3 (fun w' => w'.cell? ⟨W4.heap.size, 0, none⟩ = some (.slice a5' (x0.length) c5') ∧ w'.cell? ⟨w.heap.size, 0, none⟩ = some s0)
    (first | exact ⟨k30, k0⟩)
    (first
      | (go_at_call 30; have C := toPattern_c r0 (by omega); (with_reducible refine C.mono ?_); clear C; rintro e W7 ⟨u3, rfl, o3, y7⟩; have q7 := y7.size; replace X := ext_trans X y7; replace r0 := r0.ext y7; replace k0 := cell_ext k0 y7; replace o2 := o2.ext y7; replace k30 := cell_ext k30 y7; clear y7)
      | (go_at_call 32; have C := eqPattern_c o2.rd o3.rd; (with_reducible refine C.mono ?_); clear C; rintro e W8 ⟨_, rfl, rfl, y8⟩; have q8 := y8.size; replace X := ext_trans X y8; replace r0 := r0.ext y8; replace k0 := cell_ext k0 y8; replace o2 := o2.ext y8; replace k30 := cell_ext k30 y8; replace o3 := o3.ext y8; clear y8))
  clear o3
  go_wp2_with fail
  go_ret
  exact ⟨rfl, X⟩
set_option maxRecDepth 100000 in
theorem lifted (os : Os) (started : os.Started) (H : Type) (enc : TypeId × Value → H) :
    ReturnsInHanded {} Try.checked os 11 .any (Rows.fnExactFormatPatternSpec.pre6 enc Try.prog Try.f11 Rows.fnExactFormatPatternRow.domain false) (Rows.fnExactFormatPatternSpec.post enc Try.prog Try.f11 false true false false) := by
  refine returnsInHanded_of_change (C := Try.checked) own started (by kernel_rfl) Try.func11
    (ChangeSpec.witness6 (enc := enc) (C := Try.checked) false ⟨#[], #[.agg #[.slice none 0 0]], []⟩ 8 (by kernel_rfl) (by kernel_rfl) (by kernel_rfl) (by kernel_rfl)) ?_
  intro W base args ds gs before hval0 hW hcnd _
  have hval : ∀ (j : Nat) t v, Try.f11.params[j]? = some t → args[j]? = some v → Value.okWide Try.prog W .any base t v := hval0
  have hW' := hW
  obtain ⟨p, q, hA0, hV, rfl, hfz, hnd⟩ := hW
  have hA : DataW.TrodAll enc Try.prog W 0 (fun _ => true) true Try.f11.params.toList args.toList ds p := hA0
  rw [Try.params11] at hA hval
  obtain ⟨v0, vs0, d0, ds0, p0, q0, hargs, rfl, rfl, h0, tr0⟩ := trodAll_cons hA
  obtain ⟨rfl, rfl, rfl⟩ := trodAll_nil tr0
  obtain rfl : args = #[v0] := by cases args; simp_all
  obtain ⟨rfl, rfl⟩ := trodVars_none hV
  have k0 := h0
  have lt0 : ∀ x ∈ p0, x.block < W.heap.size := by obtain ⟨m, hm⟩ := k0; exact DataW.trod_lt m _ _ _ hm
  obtain ⟨x0, r0, w0⟩ := rd_name Try.underlying37 (by kernel_rfl) (by kernel_rfl) Try.underlying29 Try.underlying9 (by kernel_rfl) (hval 0 37 v0 rfl rfl) h0
  clear hA0 hval0
  try simp only [List.append_nil] at hW'
  refine (walk W v0 x0 r0 w0).mono fun e W' ⟨he, bel⟩ => ?_
  subst he
  exact ⟨_, rfl, _, _, _, [], _, [], hW', trodAll_mk1 (shut_bool Try.underlying4 _), (trodAll_cons_mk (Below.trod laidOut (by kernel_rfl) (of_decide_eq_true (by kernel_rfl)) k0 bel lt0) trodAll_mk0), rfl, bel.frame _, fun h => by cases h⟩

theorem closed : joinedFacts Try.pinned.checked.prog 11 Try.f11 Rows.fnExactFormatPatternSpec Rows.fnExactFormatPatternRow = true := by
  unfold joinedFacts
  rw [show Try.pinned.checked.prog.mayEnter = true from joined1, show (Rows.fnExactFormatPatternRow.lifted == Try.pinned.checked.prog.liftsFinal) = true from joined2, show (Try.pinned.checked.prog.make == some Rows.fnExactFormatPatternRow.make) = true from joined3]
  kernel_rfl
theorem over : Rows.fnExactFormatPatternRow.holds Try.pinned (OpenSpec.ofChange Rows.fnExactFormatPatternSpec) :=
  OpenClaim.holds_of_wide 11 Try.f11 rfl rfl rfl rfl rfl rfl rfl ⟨rfl, rfl, rfl, rfl, rfl⟩ rfl rfl rfl rfl rfl (by kernel_rfl) Try.func11 closed
    (of_decide_eq_true (by kernel_rfl)) (by unfold Func.isWrapper; first | (rw [if_pos (by decide +kernel)]; kernel_rfl) | (rw [if_neg (by decide +kernel)]; exact ⟨rfl, rfl⟩))
    (fun os started H enc _ => lifted os started H enc)
/-- The statement. -/
theorem proved : Rows.FnExactFormatPatternSaid := over
end fnExactFormatPattern
end Go.Proofs.Ytbachbanjcabhaa
