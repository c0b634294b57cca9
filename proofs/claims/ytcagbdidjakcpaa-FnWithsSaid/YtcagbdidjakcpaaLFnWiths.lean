/- FnWiths holds: an appended part is the last one; a name that is under another one has it as a prefix. No condition. -/
import Derived.Test.YtcagbdidjakcpaaFrame
import Derived.Test.YtcagbdidjakcpaaFrameN
import Derived.Test.YtcagbdidjakcpaaBig
import Derived.Test.YtcagbdidjakcpaaDw
import Derived.Test.YtcagbdidjakcpaaDa
import Derived.Test.YtcagbdidjakcpaaHp
import Derived.Test.YtcagbdidjakcpaaJoined
set_option linter.unusedVariables false
namespace Go.Proofs.Ytcagbdidjakcpaa
theorem hp_take {a b : List ByteArray} (h : hp a b = true) : b.length ≤ a.length ∧ a.take b.length = b := by
  unfold hp at h
  have h1 := of_decide_eq_true h
  refine ⟨?_, h1⟩
  have h2 := congrArg List.length h1
  rw [List.length_take] at h2
  omega
theorem hp_push (xs : List ByteArray) (s : ByteArray) : hp (xs ++ [s]) xs = true := decide_eq_true (by simp)
theorem hp_longer (xs : List ByteArray) (s : ByteArray) : hp xs (xs ++ [s]) = false := decide_eq_false (by intro h; have := congrArg List.length h; rw [List.length_take] at this; simp at this)
set_option maxRecDepth 100000
set_option maxHeartbeats 4000000
namespace fnWiths
open Go.ChangeShapes Go.WideShapes Go.ChangeAt Go.RowKit
open Go.ChangeMaps (open_string shut_string)
/-- The call returns true and leaves all that was there unturned. -/
theorem walk (w : World) (v0 : Value) (n0 : Nat) (x0 : List UInt8) (r0 : Rd w 0 w.heap.size 1 v0 n0 (x0.map bv)) :
    Calls Try.prog 3 #[v0] w fun e w' => e = .returned (.bool true) ∧ Below w.heap.size w w' := by
  obtain ⟨b0, c0, rfl, hn0⟩ := r0.form
  by_cases h1 : 1048576 < n0
  · go_enter Try.func3, Try.ntmps3
    go_wp2_with fail
    refine (big_c r0 (decide_eq_true h1)).mono ?_
    rintro e w1 ⟨_, rfl, rfl, y1⟩
    go_wp2
    go_ret
    exact ⟨rfl, y1⟩
  · skip
    go_enter Try.func3, Try.ntmps3
    have X := ext_refl w
    go_wp2_with fail
    refine (big_c r0 (decide_eq_false h1)).mono ?_
    rintro e W1 ⟨_, rfl, rfl, y1⟩
    have q1 := y1.size
    replace X := ext_trans X y1
    replace r0 := r0.ext y1
    clear y1
    go_wp2_with fail
    refine (DrawAppendPart_c r0 (by omega) (by omega)).mono ?_
    rintro e W2 ⟨_, rfl, ⟨u1, xs, s, rfl, o1, hsm, hsz⟩, y2⟩
    have q2 := y2.size
    replace X := ext_trans X y2
    replace r0 := r0.ext y2
    clear y2
    have hxl := hsm.1
    have hs6 : s.size ≤ 9223372036854775807 := by omega
    have hxs := hid (fun t (ht : t ∈ xs) => (show t.size ≤ 9223372036854775807 by have := hsm.2 t ht; omega))
    obtain ⟨xp, ok, hR⟩ : ∃ X ok, ap xs s = (X, ok) := ⟨_, _, rfl⟩
    have HX : Hid ((ok = true ∧ xp = xs ++ [s] ∧ vn xp = true) ∨ (ok = false ∧ xs = xp)) := by
      unfold ap at hR
      split at hR
      · injection hR with e1 e2; exact .inl ⟨e2.symm, e1.symm, by rw [← e1]; assumption⟩
      · injection hR with e1 e2; exact .inr ⟨e2.symm, e1⟩
    have HR := hid hR
    clear hR
    obtain ⟨z3, rfl, g3⟩ := id o1
    obtain ⟨a3', c3', rfl, _⟩ := g3.rd.form
    clear g3
    have y3 := ext_alloc (ext_refl W2) (.cells #[.slice a3' (xs.length) c3'] 26)
    have q3 := y3.size
    have p3 : W2.heap.size + 1 = (W2.alloc (.cells #[.slice a3' (xs.length) c3'] 26)).heap.size := by simp
    have k3 : (W2.alloc (.cells #[.slice a3' (xs.length) c3'] 26)).cell? ⟨W2.heap.size, 0, none⟩ = some (.slice a3' (xs.length) c3') := by simp
    replace X := ext_trans X y3
    replace r0 := r0.ext y3
    replace o1 := o1.ext y3
    clear y3
    go_wp2_with fail
    generalize W2.alloc (.cells #[.slice a3' (xs.length) c3'] 26) = W3 at *
    go_wp2_with fail
    have C := implAppendPart_c (s := s) o1 (by omega) hxs.out hs6
    rw [HR.out] at C
    refine C.mono ?_
    clear C
    rintro e W4 ⟨_, rfl, ⟨u2, rfl, o2⟩, y4⟩
    have q4 := y4.size
    replace X := ext_trans X y4
    replace r0 := r0.ext y4
    replace o1 := o1.ext y4
    replace k3 := cell_ext k3 y4
    clear y4
    simp only at o2
    obtain ⟨z5, rfl, g5⟩ := id o2
    obtain ⟨a5', c5', rfl, _⟩ := g5.rd.form
    clear g5
    have y5 := ext_alloc (ext_refl W4) (.cells #[.slice a5' (xp.length) c5'] 26)
    have q5 := y5.size
    have p5 : W4.heap.size + 1 = (W4.alloc (.cells #[.slice a5' (xp.length) c5'] 26)).heap.size := by simp
    have k5 : (W4.alloc (.cells #[.slice a5' (xp.length) c5'] 26)).cell? ⟨W4.heap.size, 0, none⟩ = some (.slice a5' (xp.length) c5') := by simp
    replace X := ext_trans X y5
    replace r0 := r0.ext y5
    replace o1 := o1.ext y5
    replace k3 := cell_ext k3 y5
    replace o2 := o2.ext y5
    clear y5
    go_wp2_with fail
    generalize W4.alloc (.cells #[.slice a5' (xp.length) c5'] 26) = W5 at *
    go_wp2_with fail
    have C := specAppendPart_c (s := s) o1 (by omega) hxs.out hs6
    rw [HR.out] at C
    refine C.mono ?_
    clear C
    rintro e W6 ⟨_, rfl, ⟨u4, rfl, o4⟩, y6⟩
    have q6 := y6.size
    replace X := ext_trans X y6
    replace r0 := r0.ext y6
    replace o1 := o1.ext y6
    replace k3 := cell_ext k3 y6
    replace o2 := o2.ext y6
    replace k5 := cell_ext k5 y6
    clear y6
    simp only at o4
    obtain ⟨z7, rfl, g7⟩ := id o4
    obtain ⟨a7', c7', rfl, _⟩ := g7.rd.form
    clear g7
    have y7 := ext_alloc (ext_refl W6) (.cells #[.slice a7' (xp.length) c7'] 26)
    have q7 := y7.size
    have p7 : W6.heap.size + 1 = (W6.alloc (.cells #[.slice a7' (xp.length) c7'] 26)).heap.size := by simp
    have k7 : (W6.alloc (.cells #[.slice a7' (xp.length) c7'] 26)).cell? ⟨W6.heap.size, 0, none⟩ = some (.slice a7' (xp.length) c7') := by simp
    replace X := ext_trans X y7
    replace r0 := r0.ext y7
    replace o1 := o1.ext y7
    replace k3 := cell_ext k3 y7
    replace o2 := o2.ext y7
    replace k5 := cell_ext k5 y7
    replace o4 := o4.ext y7
    clear y7
    go_wp2_with fail
    generalize W6.alloc (.cells #[.slice a7' (xp.length) c7'] 26) = W7 at *
    go_wp2_with fail
    refine (DrawHasPrefix_c r0 (by omega) (by omega)).mono ?_
    rintro e W8 ⟨_, rfl, ⟨u5, u6, za, zb, rfl, o5, o6, hsa, hsb⟩, y8⟩
    have q8 := y8.size
    replace X := ext_trans X y8
    replace r0 := r0.ext y8
    replace o1 := o1.ext y8
    replace k3 := cell_ext k3 y8
    replace o2 := o2.ext y8
    replace k5 := cell_ext k5 y8
    replace o4 := o4.ext y8
    replace k7 := cell_ext k7 y8
    clear y8
    have hal := hsa.1
    have hbl := hsb.1
    obtain ⟨z9_0, rfl, g9_0⟩ := id o5
    obtain ⟨a9_0, c9_0, rfl, _⟩ := g9_0.rd.form
    clear g9_0
    obtain ⟨z9_1, rfl, g9_1⟩ := id o6
    obtain ⟨a9_1, c9_1, rfl, _⟩ := g9_1.rd.form
    clear g9_1
    have y9 := ext_alloc (ext_alloc (ext_refl W8) (.cells #[.slice a9_0 (za.length) c9_0] 26)) (.cells #[.slice a9_1 (zb.length) c9_1] 26)
    have q9 := y9.size
    have p9 : W8.heap.size + 2 = ((W8.alloc (.cells #[.slice a9_0 (za.length) c9_0] 26)).alloc (.cells #[.slice a9_1 (zb.length) c9_1] 26)).heap.size := by simp
    have k9 : ((W8.alloc (.cells #[.slice a9_0 (za.length) c9_0] 26)).alloc (.cells #[.slice a9_1 (zb.length) c9_1] 26)).cell? ⟨W8.heap.size, 0, none⟩ = some (.slice a9_0 (za.length) c9_0) := by simp
    have k10 : ((W8.alloc (.cells #[.slice a9_0 (za.length) c9_0] 26)).alloc (.cells #[.slice a9_1 (zb.length) c9_1] 26)).cell? ⟨W8.heap.size + 1, 0, none⟩ = some (.slice a9_1 (zb.length) c9_1) := by simp
    replace X := ext_trans X y9
    replace r0 := r0.ext y9
    replace o1 := o1.ext y9
    replace k3 := cell_ext k3 y9
    replace o2 := o2.ext y9
    replace k5 := cell_ext k5 y9
    replace o4 := o4.ext y9
    replace k7 := cell_ext k7 y9
    replace o5 := o5.ext y9
    replace o6 := o6.ext y9
    clear y9
    go_wp2_with fail
    generalize (W8.alloc (.cells #[.slice a9_0 (za.length) c9_0] 26)).alloc (.cells #[.slice a9_1 (zb.length) c9_1] 26) = W9 at *
    go_wp2_with fail
    refine (sameName_c o2.rd o4.rd).mono ?_
    rintro e W10 ⟨_, rfl, rfl, y10⟩
    have q10 := y10.size
    replace X := ext_trans X y10
    replace r0 := r0.ext y10
    replace o1 := o1.ext y10
    replace k3 := cell_ext k3 y10
    replace o2 := o2.ext y10
    replace k5 := cell_ext k5 y10
    replace o4 := o4.ext y10
    replace k7 := cell_ext k7 y10
    replace o5 := o5.ext y10
    replace o6 := o6.ext y10
    replace k9 := cell_ext k9 y10
    replace k10 := cell_ext k10 y10
    clear y10
    rcases hF : hp za zb with _ | _
    · have HF := hid hF
      clear hF
      go_wp2_with fail
      have y10 := Below.drew (ext_refl W10)
      have qd10 := y10.size
      replace X := ext_trans X y10
      replace r0 := r0.ext y10
      replace o1 := o1.ext y10
      replace k3 := cell_ext k3 y10
      replace o2 := o2.ext y10
      replace k5 := cell_ext k5 y10
      replace o4 := o4.ext y10
      replace k7 := cell_ext k7 y10
      replace o5 := o5.ext y10
      replace o6 := o6.ext y10
      replace k9 := cell_ext k9 y10
      replace k10 := cell_ext k10 y10
      clear y10
      refine wp_region_held_drew (S := fun w' => w'.cell? ⟨W8.heap.size, 0, none⟩ = some (.slice a9_0 (za.length) c9_0) ∧ w'.cell? ⟨W8.heap.size + 1, 0, none⟩ = some (.slice a9_1 (zb.length) c9_1)) (by kernel_rfl) (by exact ⟨k9, k10⟩) (fun hHeld => ?_)
      refine wpAnyH_take (i := 0) (v := ?v1) rfl (by kernel_rfl) (by kernel_rfl) (by kernel_rfl) (fun _ _ _ h => h) (Or.inl ⟨by kernel_rfl, ?hy1⟩) hHeld ?rest1
      case hy1 =>
        intro w hSw
        (try dsimp only at hSw)
        go_simp
        try with_reducible rfl
      simp only [Act.put, List.getElem_toArray, List.getElem_cons_zero, List.setIfInBounds_toArray, List.set_cons_zero, List.set_cons_succ]
      refine wpAnyH_take (i := 1) (v := ?v2) rfl (by kernel_rfl) (by kernel_rfl) (by kernel_rfl) (fun _ _ _ h => h) (Or.inl ⟨by kernel_rfl, ?hy2⟩) hHeld ?rest2
      case hy2 =>
        intro w hSw
        (try dsimp only at hSw)
        go_simp
        try with_reducible rfl
      simp only [Act.put, List.getElem_toArray, List.getElem_cons_succ, List.getElem_cons_zero, List.setIfInBounds_toArray, List.set_cons_zero, List.set_cons_succ]
      refine wpAnyH_ready (rs := [2]) (by kernel_rfl) (by simp) ?_
      refine AllReadyH.cons rfl (fun K hK => ?_) AllReadyH.nil
      go_simp
      go_at_call 15
      have C := implHasPrefix_c o5 o6
      rw [HF.out] at C
      refine C.mono ?_
      clear C
      rintro e W11 ⟨_, rfl, rfl, y11⟩
      have q11 := y11.size
      replace X := ext_trans X y11
      replace r0 := r0.ext y11
      replace o1 := o1.ext y11
      replace k3 := cell_ext k3 y11
      replace o2 := o2.ext y11
      replace k5 := cell_ext k5 y11
      replace o4 := o4.ext y11
      replace k7 := cell_ext k7 y11
      replace o5 := o5.ext y11
      replace o6 := o6.ext y11
      replace k9 := cell_ext k9 y11
      replace k10 := cell_ext k10 y11
      clear y11
      refine hK.out _ _ (by exact ⟨k9, k10⟩) (fun hHeld => ?_)
      clear hK K
      refine wpAnyH_take (i := 3) (v := ?v3) rfl (by kernel_rfl) (by kernel_rfl) (by kernel_rfl) (fun _ _ _ h => h) (Or.inl ⟨by kernel_rfl, ?hy3⟩) hHeld ?rest3
      case hy3 =>
        intro w hSw
        (try dsimp only at hSw)
        go_simp
        try with_reducible rfl
      simp only [Act.put, List.getElem_toArray, List.getElem_cons_succ, List.getElem_cons_zero, List.setIfInBounds_toArray, List.set_cons_zero, List.set_cons_succ]
      refine wpAnyH_take (i := 4) (v := undef) rfl (by kernel_rfl) (by kernel_rfl) (by kernel_rfl) (fun _ _ _ h => h) (Or.inr ⟨by kernel_rfl, rfl⟩) hHeld ?_
      simp only [Act.put, List.getElem_toArray, List.getElem_cons_succ, List.getElem_cons_zero, List.setIfInBounds_toArray, List.set_cons_zero, List.set_cons_succ]
      refine wpAnyH_take (i := 5) (v := undef) rfl (by kernel_rfl) (by kernel_rfl) (by kernel_rfl) (fun _ _ _ h => h) (Or.inr ⟨by kernel_rfl, rfl⟩) hHeld ?_
      simp only [Act.put, List.getElem_toArray, List.getElem_cons_succ, List.getElem_cons_zero, List.setIfInBounds_toArray, List.set_cons_zero, List.set_cons_succ]
      refine wpAnyH_take (i := 6) (v := undef) rfl (by kernel_rfl) (by kernel_rfl) (by kernel_rfl) (fun _ _ _ h => h) (Or.inr ⟨by kernel_rfl, rfl⟩) hHeld ?_
      simp only [Act.put, List.getElem_toArray, List.getElem_cons_succ, List.getElem_cons_zero, List.setIfInBounds_toArray, List.set_cons_zero, List.set_cons_succ]
      refine wpAnyH_take (i := 7) (v := undef) rfl (by kernel_rfl) (by kernel_rfl) (by kernel_rfl) (fun _ _ _ h => h) (Or.inr ⟨by kernel_rfl, rfl⟩) hHeld ?_
      simp only [Act.put, List.getElem_toArray, List.getElem_cons_succ, List.getElem_cons_zero, List.setIfInBounds_toArray, List.set_cons_zero, List.set_cons_succ]
      refine wpAnyH_take (i := 8) (v := undef) rfl (by kernel_rfl) (by kernel_rfl) (by kernel_rfl) (fun _ _ _ h => h) (Or.inr ⟨by kernel_rfl, rfl⟩) hHeld ?_
      simp only [Act.put, List.getElem_toArray, List.getElem_cons_succ, List.getElem_cons_zero, List.setIfInBounds_toArray, List.set_cons_zero, List.set_cons_succ]
      refine wpAnyH_take (i := 9) (v := undef) rfl (by kernel_rfl) (by kernel_rfl) (by kernel_rfl) (fun _ _ _ h => h) (Or.inr ⟨by kernel_rfl, rfl⟩) hHeld ?_
      simp only [Act.put, List.getElem_toArray, List.getElem_cons_succ, List.getElem_cons_zero, List.setIfInBounds_toArray, List.set_cons_zero, List.set_cons_succ]
      refine wpAnyH_take (i := 10) (v := undef) rfl (by kernel_rfl) (by kernel_rfl) (by kernel_rfl) (fun _ _ _ h => h) (Or.inr ⟨by kernel_rfl, rfl⟩) hHeld ?_
      simp only [Act.put, List.getElem_toArray, List.getElem_cons_succ, List.getElem_cons_zero, List.setIfInBounds_toArray, List.set_cons_zero, List.set_cons_succ]
      refine wpAnyH_take (i := 11) (v := undef) rfl (by kernel_rfl) (by kernel_rfl) (by kernel_rfl) (fun _ _ _ h => h) (Or.inr ⟨by kernel_rfl, rfl⟩) hHeld ?_
      simp only [Act.put, List.getElem_toArray, List.getElem_cons_succ, List.getElem_cons_zero, List.setIfInBounds_toArray, List.set_cons_zero, List.set_cons_succ]
      refine wpAnyH_take (i := 12) (v := ?v12) rfl (by kernel_rfl) (by kernel_rfl) (by kernel_rfl) (fun _ _ _ h => h) (Or.inl ⟨by kernel_rfl, ?hy12⟩) hHeld ?rest12
      case hy12 =>
        intro w hSw
        (try dsimp only at hSw)
        go_simp
        try with_reducible rfl
      simp only [Act.put, List.getElem_toArray, List.getElem_cons_succ, List.getElem_cons_zero, List.setIfInBounds_toArray, List.set_cons_zero, List.set_cons_succ]
      refine wpAnyH_done (by kernel_rfl) ?_ _

      rcases HX.out with ⟨rfl, hX, hv⟩ | ⟨rfl, hX⟩
      · have HL := hid (show (xp.length : Int) = (xs.length : Int) + 1 by rw [hX]; simp)
        have HV := hid hv
        have HP1 := hid (show hp xp xs = true by rw [hX]; exact hp_push xs s)
        have HP2 := hid (show hp xs xp = false by rw [hX]; exact hp_longer xs s)
        have HT1 := hid (show trn (xs.length : Int) xp.length = xs.length by have := HL.out; unfold trn; omega)
        have HT2 := hid (show xp.take xs.length = xs by rw [hX]; simp)
        have hXs := hid (fun t (ht : t ∈ xp) => (show t.size ≤ 9223372036854775807 by rw [hX] at ht; exact (List.mem_append.1 ht).elim (fun h => hxs.out t h) (fun h => by rw [List.mem_singleton.1 h]; omega)))
        obtain ⟨z2, hz2, r2⟩ := id o2.rd
        obtain ⟨_, a2, c2, hz3, _, _, hat⟩ := r2
        obtain ⟨b2, f2, rfl, _, _, hb2, hcell⟩ := hat (by have := HL.out; omega)
        simp only [Value.agg.injEq, Array.mk.injEq, List.cons.injEq, and_true] at hz2
        rw [hz3] at hz2
        simp only [Value.slice.injEq, true_and] at hz2
        obtain ⟨rfl, rfl⟩ := hz2
        have kx := hcell xs.length (.string s) (by rw [hX]; simp [sv])
        have hw : IntKind.i64.wrap ((xs.length : Int) + 1) = (xp.length : Int) := by rw [IntWalk.i64_in _ ⟨by omega, by omega⟩]; exact HL.out.symm
        have i0 : (0 : Int) ≤ (xs.length : Int) := by omega
        have i1 : (xs.length : Int) < (xp.length : Int) := by have := HL.out; omega
        have i2 : (xp.length : Int) = (xs.length : Int) + 1 := HL.out
        have i3 : ((xp.length : Int) == (xs.length : Int) + 1) = true := by rw [i2]; simp
        have i4 : ((xp.length : Int) == (xp.length : Int)) = true := by simp
        have i5 : xs.length < xp.length := by omega
        have i6 : (s.toList == s.toList) = true := by simp
        clear hX hv hcell hat i2
        go_wp2_with fail
        have y11 := Below.drew (ext_refl W11)
        have qd11 := y11.size
        replace X := ext_trans X y11
        replace r0 := r0.ext y11
        replace o1 := o1.ext y11
        replace k3 := cell_ext k3 y11
        replace o2 := o2.ext y11
        replace k5 := cell_ext k5 y11
        replace o4 := o4.ext y11
        replace k7 := cell_ext k7 y11
        replace o5 := o5.ext y11
        replace o6 := o6.ext y11
        replace k9 := cell_ext k9 y11
        replace k10 := cell_ext k10 y11
        replace kx := cell_ext kx y11
        clear y11
        refine wp_region_held_drew (S := fun w' => w'.cell? ⟨W2.heap.size, 0, none⟩ = some (.slice a3' (xs.length) c3') ∧ w'.cell? ⟨W4.heap.size, 0, none⟩ = some (.slice (some ⟨b2, f2, none⟩) (xp.length) c5') ∧ w'.cell? ⟨b2, f2 + xs.length, none⟩ = some (.string s)) (by kernel_rfl) (by exact ⟨k3, k5, kx⟩) (fun hHeld => ?_)
        refine wpAnyH_take (i := 0) (v := ?v13) rfl (by kernel_rfl) (by kernel_rfl) (by kernel_rfl) (fun _ _ _ h => h) (Or.inl ⟨by kernel_rfl, ?hy13⟩) hHeld ?rest13
        case hy13 =>
          intro w hSw
          (try dsimp only at hSw)
          go_simp
          try with_reducible rfl
        simp only [Act.put, List.getElem_toArray, List.getElem_cons_zero, List.setIfInBounds_toArray, List.set_cons_zero, List.set_cons_succ]
        refine wpAnyH_ready (rs := [1]) (by kernel_rfl) (by simp) ?_
        refine AllReadyH.cons rfl (fun K hK => ?_) AllReadyH.nil
        go_simp
        go_at_call 17
        have C := implValidName_c o2.rd hXs.out
        rw [HV.out] at C
        refine C.mono ?_
        clear C
        rintro e W12 ⟨_, rfl, rfl, y12⟩
        have q12 := y12.size
        replace X := ext_trans X y12
        replace r0 := r0.ext y12
        replace o1 := o1.ext y12
        replace k3 := cell_ext k3 y12
        replace o2 := o2.ext y12
        replace k5 := cell_ext k5 y12
        replace o4 := o4.ext y12
        replace k7 := cell_ext k7 y12
        replace o5 := o5.ext y12
        replace o6 := o6.ext y12
        replace k9 := cell_ext k9 y12
        replace k10 := cell_ext k10 y12
        replace kx := cell_ext kx y12
        clear y12
        refine hK.out _ _ (by exact ⟨k3, k5, kx⟩) (fun hHeld => ?_)
        clear hK K
        refine wpAnyH_take (i := 2) (v := ?v14) rfl (by kernel_rfl) (by kernel_rfl) (by kernel_rfl) (fun _ _ _ h => h) (Or.inl ⟨by kernel_rfl, ?hy14⟩) hHeld ?rest14
        case hy14 =>
          intro w hSw
          (try dsimp only at hSw)
          go_simp
          try with_reducible rfl
        simp only [Act.put, List.getElem_toArray, List.getElem_cons_succ, List.getElem_cons_zero, List.setIfInBounds_toArray, List.set_cons_zero, List.set_cons_succ]
        refine wpAnyH_take (i := 3) (v := ?v15) rfl (by kernel_rfl) (by kernel_rfl) (by kernel_rfl) (fun _ _ _ h => h) (Or.inl ⟨by kernel_rfl, ?hy15⟩) hHeld ?rest15
        case hy15 =>
          intro w hSw
          (try dsimp only at hSw)
          go_simp
          try with_reducible rfl
        simp only [Act.put, List.getElem_toArray, List.getElem_cons_succ, List.getElem_cons_zero, List.setIfInBounds_toArray, List.set_cons_zero, List.set_cons_succ]
        refine wpAnyH_take (i := 4) (v := ?v16) rfl (by kernel_rfl) (by kernel_rfl) (by kernel_rfl) (fun _ _ _ h => h) (Or.inl ⟨by kernel_rfl, ?hy16⟩) hHeld ?rest16
        case hy16 =>
          intro w hSw
          (try dsimp only at hSw)
          go_simp
          try with_reducible rfl
        simp only [Act.put, List.getElem_toArray, List.getElem_cons_succ, List.getElem_cons_zero, List.setIfInBounds_toArray, List.set_cons_zero, List.set_cons_succ]
        refine wpAnyH_ready (rs := [5]) (by kernel_rfl) (by simp) ?_
        refine AllReadyH.cons rfl (fun K hK => ?_) AllReadyH.nil
        rw [if_pos (by kernel_rfl)]
        go_simp
        go_at_call 15
        have C := implHasPrefix_c o2.rd o1
        rw [HP1.out] at C
        refine C.mono ?_
        clear C
        rintro e W13 ⟨_, rfl, rfl, y13⟩
        have q13 := y13.size
        replace X := ext_trans X y13
        replace r0 := r0.ext y13
        replace o1 := o1.ext y13
        replace k3 := cell_ext k3 y13
        replace o2 := o2.ext y13
        replace k5 := cell_ext k5 y13
        replace o4 := o4.ext y13
        replace k7 := cell_ext k7 y13
        replace o5 := o5.ext y13
        replace o6 := o6.ext y13
        replace k9 := cell_ext k9 y13
        replace k10 := cell_ext k10 y13
        replace kx := cell_ext kx y13
        clear y13
        refine hK.out _ _ (by exact ⟨k3, k5, kx⟩) (fun hHeld => ?_)
        clear hK K
        refine wpAnyH_take (i := 6) (v := ?v17) rfl (by kernel_rfl) (by kernel_rfl) (by kernel_rfl) (fun _ _ _ h => h) (Or.inl ⟨by kernel_rfl, ?hy17⟩) hHeld ?rest17
        case hy17 =>
          intro w hSw
          (try dsimp only at hSw)
          go_simp
          try with_reducible rfl
        simp only [Act.put, List.getElem_toArray, List.getElem_cons_succ, List.getElem_cons_zero, List.setIfInBounds_toArray, List.set_cons_zero, List.set_cons_succ]
        refine wpAnyH_take (i := 7) (v := ?v18) rfl (by kernel_rfl) (by kernel_rfl) (by kernel_rfl) (fun _ _ _ h => h) (Or.inl ⟨by kernel_rfl, ?hy18⟩) hHeld ?rest18
        case hy18 =>
          intro w hSw
          (try dsimp only at hSw)
          go_simp
          try with_reducible rfl
        simp only [Act.put, List.getElem_toArray, List.getElem_cons_succ, List.getElem_cons_zero, List.setIfInBounds_toArray, List.set_cons_zero, List.set_cons_succ]
        refine wpAnyH_take (i := 8) (v := ?v19) rfl (by kernel_rfl) (by kernel_rfl) (by kernel_rfl) (fun _ _ _ h => h) (Or.inl ⟨by kernel_rfl, ?hy19⟩) hHeld ?rest19
        case hy19 =>
          intro w hSw
          (try dsimp only at hSw)
          go_simp
          try with_reducible rfl
        simp only [Act.put, List.getElem_toArray, List.getElem_cons_succ, List.getElem_cons_zero, List.setIfInBounds_toArray, List.set_cons_zero, List.set_cons_succ]
        refine wpAnyH_take (i := 9) (v := ?v20) rfl (by kernel_rfl) (by kernel_rfl) (by kernel_rfl) (fun _ _ _ h => h) (Or.inl ⟨by kernel_rfl, ?hy20⟩) hHeld ?rest20
        case hy20 =>
          intro w hSw
          (try dsimp only at hSw)
          go_simp
          try with_reducible rfl
        simp only [Act.put, List.getElem_toArray, List.getElem_cons_succ, List.getElem_cons_zero, List.setIfInBounds_toArray, List.set_cons_zero, List.set_cons_succ]
        refine wpAnyH_take (i := 10) (v := ?v21) rfl (by kernel_rfl) (by kernel_rfl) (by kernel_rfl) (fun _ _ _ h => h) (Or.inl ⟨by kernel_rfl, ?hy21⟩) hHeld ?rest21
        case hy21 =>
          intro w hSw
          (try dsimp only at hSw)
          go_simp
          try with_reducible rfl
        simp only [Act.put, List.getElem_toArray, List.getElem_cons_succ, List.getElem_cons_zero, List.setIfInBounds_toArray, List.set_cons_zero, List.set_cons_succ]
        refine wpAnyH_take (i := 11) (v := ?v22) rfl (by kernel_rfl) (by kernel_rfl) (by kernel_rfl) (fun _ _ _ h => h) (Or.inl ⟨by kernel_rfl, ?hy22⟩) hHeld ?rest22
        case hy22 =>
          intro w hSw
          (try dsimp only at hSw)
          go_simp
          try with_reducible rfl
        simp only [Act.put, List.getElem_toArray, List.getElem_cons_succ, List.getElem_cons_zero, List.setIfInBounds_toArray, List.set_cons_zero, List.set_cons_succ]
        refine wpAnyH_take (i := 13) (v := ?v23) rfl (by kernel_rfl) (by kernel_rfl) (by kernel_rfl) (fun _ _ _ h => h) (Or.inl ⟨by kernel_rfl, ?hy23⟩) hHeld ?rest23
        case hy23 =>
          intro w hSw
          (try dsimp only at hSw)
          go_simp
          try with_reducible rfl
        simp only [Act.put, List.getElem_toArray, List.getElem_cons_succ, List.getElem_cons_zero, List.setIfInBounds_toArray, List.set_cons_zero, List.set_cons_succ]
        refine wpAnyH_ready (rs := [12]) (by kernel_rfl) (by simp) ?_
        refine AllReadyH.cons rfl (fun K hK => ?_) AllReadyH.nil
        rw [if_pos (by kernel_rfl)]
        go_simp
        go_at_call 16
        have C := implTruncate_c (k := (xs.length : Int)) o2.rd (by have := HL.out; omega)
        rw [HT1.out, HT2.out] at C
        refine C.mono ?_
        clear C
        rintro e W14 ⟨u17, rfl, o17, y14⟩
        have q14 := y14.size
        replace X := ext_trans X y14
        replace r0 := r0.ext y14
        replace o1 := o1.ext y14
        replace k3 := cell_ext k3 y14
        replace o2 := o2.ext y14
        replace k5 := cell_ext k5 y14
        replace o4 := o4.ext y14
        replace k7 := cell_ext k7 y14
        replace o5 := o5.ext y14
        replace o6 := o6.ext y14
        replace k9 := cell_ext k9 y14
        replace k10 := cell_ext k10 y14
        replace kx := cell_ext kx y14
        clear y14
        refine hK.out _ _ (by exact ⟨k3, k5, kx⟩) (fun hHeld => ?_)
        clear hK K
        refine wpAnyH_ready (rs := [14]) (by kernel_rfl) (by simp) ?_
        refine AllReadyH.cons rfl (fun K hK => ?_) AllReadyH.nil
        rw [if_pos (by kernel_rfl)]
        go_simp
        go_at_call 14
        have C := sameName_c o17.rd o1
        rw [decide_eq_true rfl] at C
        refine C.mono ?_
        clear C
        rintro e W15 ⟨_, rfl, rfl, y15⟩
        have q15 := y15.size
        replace X := ext_trans X y15
        replace r0 := r0.ext y15
        replace o1 := o1.ext y15
        replace k3 := cell_ext k3 y15
        replace o2 := o2.ext y15
        replace k5 := cell_ext k5 y15
        replace o4 := o4.ext y15
        replace k7 := cell_ext k7 y15
        replace o5 := o5.ext y15
        replace o6 := o6.ext y15
        replace k9 := cell_ext k9 y15
        replace k10 := cell_ext k10 y15
        replace kx := cell_ext kx y15
        replace o17 := o17.ext y15
        clear y15
        refine hK.out _ _ (by exact ⟨k3, k5, kx⟩) (fun hHeld => ?_)
        clear hK K
        refine wpAnyH_take (i := 15) (v := ?v24) rfl (by kernel_rfl) (by kernel_rfl) (by kernel_rfl) (fun _ _ _ h => h) (Or.inl ⟨by kernel_rfl, ?hy24⟩) hHeld ?rest24
        case hy24 =>
          intro w hSw
          (try dsimp only at hSw)
          go_simp
          try with_reducible rfl
        simp only [Act.put, List.getElem_toArray, List.getElem_cons_succ, List.getElem_cons_zero, List.setIfInBounds_toArray, List.set_cons_zero, List.set_cons_succ]
        refine wpAnyH_take (i := 16) (v := ?v25) rfl (by kernel_rfl) (by kernel_rfl) (by kernel_rfl) (fun _ _ _ h => h) (Or.inl ⟨by kernel_rfl, ?hy25⟩) hHeld ?rest25
        case hy25 =>
          intro w hSw
          (try dsimp only at hSw)
          go_simp
          try with_reducible rfl
        simp only [Act.put, List.getElem_toArray, List.getElem_cons_succ, List.getElem_cons_zero, List.setIfInBounds_toArray, List.set_cons_zero, List.set_cons_succ]
        refine wpAnyH_take (i := 17) (v := ?v26) rfl (by kernel_rfl) (by kernel_rfl) (by kernel_rfl) (fun _ _ _ h => h) (Or.inl ⟨by kernel_rfl, ?hy26⟩) hHeld ?rest26
        case hy26 =>
          intro w hSw
          (try dsimp only at hSw)
          go_simp
          try with_reducible rfl
        simp only [Act.put, List.getElem_toArray, List.getElem_cons_succ, List.getElem_cons_zero, List.setIfInBounds_toArray, List.set_cons_zero, List.set_cons_succ]
        refine wpAnyH_take (i := 18) (v := ?v27) rfl (by kernel_rfl) (by kernel_rfl) (by kernel_rfl) (fun _ _ _ h => h) (Or.inl ⟨by kernel_rfl, ?hy27⟩) hHeld ?rest27
        case hy27 =>
          intro w hSw
          (try dsimp only at hSw)
          go_simp
          try with_reducible rfl
        simp only [Act.put, List.getElem_toArray, List.getElem_cons_succ, List.getElem_cons_zero, List.setIfInBounds_toArray, List.set_cons_zero, List.set_cons_succ]
        refine wpAnyH_take (i := 19) (v := ?v28) rfl (by kernel_rfl) (by kernel_rfl) (by kernel_rfl) (fun _ _ _ h => h) (Or.inl ⟨by kernel_rfl, ?hy28⟩) hHeld ?rest28
        case hy28 =>
          intro w hSw
          (try dsimp only at hSw)
          go_simp
          try with_reducible rfl
        simp only [Act.put, List.getElem_toArray, List.getElem_cons_succ, List.getElem_cons_zero, List.setIfInBounds_toArray, List.set_cons_zero, List.set_cons_succ]
        refine wpAnyH_take (i := 20) (v := ?v29) rfl (by kernel_rfl) (by kernel_rfl) (by kernel_rfl) (fun _ _ _ h => h) (Or.inl ⟨by kernel_rfl, ?hy29⟩) hHeld ?rest29
        case hy29 =>
          intro w hSw
          (try dsimp only at hSw)
          go_simp
          try with_reducible rfl
        simp only [Act.put, List.getElem_toArray, List.getElem_cons_succ, List.getElem_cons_zero, List.setIfInBounds_toArray, List.set_cons_zero, List.set_cons_succ]
        refine wpAnyH_take (i := 21) (v := ?v30) rfl (by kernel_rfl) (by kernel_rfl) (by kernel_rfl) (fun _ _ _ h => h) (Or.inl ⟨by kernel_rfl, ?hy30⟩) hHeld ?rest30
        case hy30 =>
          intro w hSw
          (try dsimp only at hSw)
          go_simp
          try with_reducible rfl
        simp only [Act.put, List.getElem_toArray, List.getElem_cons_succ, List.getElem_cons_zero, List.setIfInBounds_toArray, List.set_cons_zero, List.set_cons_succ]
        refine wpAnyH_take (i := 22) (v := ?v31) rfl (by kernel_rfl) (by kernel_rfl) (by kernel_rfl) (fun _ _ _ h => h) (Or.inl ⟨by kernel_rfl, ?hy31⟩) hHeld ?rest31
        case hy31 =>
          intro w hSw
          (try dsimp only at hSw)
          go_simp
          try with_reducible rfl
        simp only [Act.put, List.getElem_toArray, List.getElem_cons_succ, List.getElem_cons_zero, List.setIfInBounds_toArray, List.set_cons_zero, List.set_cons_succ]
        refine wpAnyH_take (i := 23) (v := ?v32) rfl (by kernel_rfl) (by kernel_rfl) (by kernel_rfl) (fun _ _ _ h => h) (Or.inl ⟨by kernel_rfl, ?hy32⟩) hHeld ?rest32
        case hy32 =>
          intro w hSw
          (try dsimp only at hSw)
          go_simp
          try with_reducible rfl
        simp only [Act.put, List.getElem_toArray, List.getElem_cons_succ, List.getElem_cons_zero, List.setIfInBounds_toArray, List.set_cons_zero, List.set_cons_succ]
        refine wpAnyH_take (i := 24) (v := ?v33) rfl (by kernel_rfl) (by kernel_rfl) (by kernel_rfl) (fun _ _ _ h => h) (Or.inl ⟨by kernel_rfl, ?hy33⟩) hHeld ?rest33
        case hy33 =>
          intro w hSw
          (try dsimp only at hSw)
          go_simp
          try with_reducible rfl
        simp only [Act.put, List.getElem_toArray, List.getElem_cons_succ, List.getElem_cons_zero, List.setIfInBounds_toArray, List.set_cons_zero, List.set_cons_succ]
        refine wpAnyH_take (i := 25) (v := ?v34) rfl (by kernel_rfl) (by kernel_rfl) (by kernel_rfl) (fun _ _ _ h => h) (Or.inl ⟨by kernel_rfl, ?hy34⟩) hHeld ?rest34
        case hy34 =>
          intro w hSw
          (try dsimp only at hSw)
          go_simp
          try with_reducible rfl
        simp only [Act.put, List.getElem_toArray, List.getElem_cons_succ, List.getElem_cons_zero, List.setIfInBounds_toArray, List.set_cons_zero, List.set_cons_succ]
        refine wpAnyH_take (i := 26) (v := ?v35) rfl (by kernel_rfl) (by kernel_rfl) (by kernel_rfl) (fun _ _ _ h => h) (Or.inl ⟨by kernel_rfl, ?hy35⟩) hHeld ?rest35
        case hy35 =>
          intro w hSw
          (try dsimp only at hSw)
          go_simp
          try with_reducible rfl
        simp only [Act.put, List.getElem_toArray, List.getElem_cons_succ, List.getElem_cons_zero, List.setIfInBounds_toArray, List.set_cons_zero, List.set_cons_succ]
        refine wpAnyH_take (i := 27) (v := ?v36) rfl (by kernel_rfl) (by kernel_rfl) (by kernel_rfl) (fun _ _ _ h => h) (Or.inl ⟨by kernel_rfl, ?hy36⟩) hHeld ?rest36
        case hy36 =>
          intro w hSw
          (try dsimp only at hSw)
          go_simp
          try with_reducible rfl
        simp only [Act.put, List.getElem_toArray, List.getElem_cons_succ, List.getElem_cons_zero, List.setIfInBounds_toArray, List.set_cons_zero, List.set_cons_succ]
        refine wpAnyH_take (i := 28) (v := ?v37) rfl (by kernel_rfl) (by kernel_rfl) (by kernel_rfl) (fun _ _ _ h => h) (Or.inl ⟨by kernel_rfl, ?hy37⟩) hHeld ?rest37
        case hy37 =>
          intro w hSw
          (try dsimp only at hSw)
          go_simp
          try with_reducible rfl
        simp only [Act.put, List.getElem_toArray, List.getElem_cons_succ, List.getElem_cons_zero, List.setIfInBounds_toArray, List.set_cons_zero, List.set_cons_succ]
        refine wpAnyH_take (i := 29) (v := ?v38) rfl (by kernel_rfl) (by kernel_rfl) (by kernel_rfl) (fun _ _ _ h => h) (Or.inl ⟨by kernel_rfl, ?hy38⟩) hHeld ?rest38
        case hy38 =>
          intro w hSw
          (try dsimp only at hSw)
          go_simp
          try with_reducible rfl
        simp only [Act.put, List.getElem_toArray, List.getElem_cons_succ, List.getElem_cons_zero, List.setIfInBounds_toArray, List.set_cons_zero, List.set_cons_succ]
        refine wpAnyH_take (i := 30) (v := ?v39) rfl (by kernel_rfl) (by kernel_rfl) (by kernel_rfl) (fun _ _ _ h => h) (Or.inl ⟨by kernel_rfl, ?hy39⟩) hHeld ?rest39
        case hy39 =>
          intro w hSw
          (try dsimp only at hSw)
          go_simp
          try with_reducible rfl
        simp only [Act.put, List.getElem_toArray, List.getElem_cons_succ, List.getElem_cons_zero, List.setIfInBounds_toArray, List.set_cons_zero, List.set_cons_succ]
        refine wpAnyH_take (i := 31) (v := ?v40) rfl (by kernel_rfl) (by kernel_rfl) (by kernel_rfl) (fun _ _ _ h => h) (Or.inl ⟨by kernel_rfl, ?hy40⟩) hHeld ?rest40
        case hy40 =>
          intro w hSw
          (try dsimp only at hSw)
          go_simp
          try with_reducible rfl
        simp only [Act.put, List.getElem_toArray, List.getElem_cons_succ, List.getElem_cons_zero, List.setIfInBounds_toArray, List.set_cons_zero, List.set_cons_succ]
        refine wpAnyH_take (i := 32) (v := ?v41) rfl (by kernel_rfl) (by kernel_rfl) (by kernel_rfl) (fun _ _ _ h => h) (Or.inl ⟨by kernel_rfl, ?hy41⟩) hHeld ?rest41
        case hy41 =>
          intro w hSw
          (try dsimp only at hSw)
          go_simp
          try with_reducible rfl
        simp only [Act.put, List.getElem_toArray, List.getElem_cons_succ, List.getElem_cons_zero, List.setIfInBounds_toArray, List.set_cons_zero, List.set_cons_succ]
        refine wpAnyH_take (i := 33) (v := ?v42) rfl (by kernel_rfl) (by kernel_rfl) (by kernel_rfl) (fun _ _ _ h => h) (Or.inl ⟨by kernel_rfl, ?hy42⟩) hHeld ?rest42
        case hy42 =>
          intro w hSw
          (try dsimp only at hSw)
          go_simp
          try with_reducible rfl
        simp only [Act.put, List.getElem_toArray, List.getElem_cons_succ, List.getElem_cons_zero, List.setIfInBounds_toArray, List.set_cons_zero, List.set_cons_succ]
        refine wpAnyH_take (i := 34) (v := ?v43) rfl (by kernel_rfl) (by kernel_rfl) (by kernel_rfl) (fun _ _ _ h => h) (Or.inl ⟨by kernel_rfl, ?hy43⟩) hHeld ?rest43
        case hy43 =>
          intro w hSw
          (try dsimp only at hSw)
          go_simp
          try with_reducible rfl
        simp only [Act.put, List.getElem_toArray, List.getElem_cons_succ, List.getElem_cons_zero, List.setIfInBounds_toArray, List.set_cons_zero, List.set_cons_succ]
        refine wpAnyH_take (i := 35) (v := ?v44) rfl (by kernel_rfl) (by kernel_rfl) (by kernel_rfl) (fun _ _ _ h => h) (Or.inl ⟨by kernel_rfl, ?hy44⟩) hHeld ?rest44
        case hy44 =>
          intro w hSw
          (try dsimp only at hSw)
          go_simp
          try with_reducible rfl
        simp only [Act.put, List.getElem_toArray, List.getElem_cons_succ, List.getElem_cons_zero, List.setIfInBounds_toArray, List.set_cons_zero, List.set_cons_succ]
        refine wpAnyH_take (i := 36) (v := ?v45) rfl (by kernel_rfl) (by kernel_rfl) (by kernel_rfl) (fun _ _ _ h => h) (Or.inl ⟨by kernel_rfl, ?hy45⟩) hHeld ?rest45
        case hy45 =>
          intro w hSw
          (try dsimp only at hSw)
          go_simp
          try with_reducible rfl
        simp only [Act.put, List.getElem_toArray, List.getElem_cons_succ, List.getElem_cons_zero, List.setIfInBounds_toArray, List.set_cons_zero, List.set_cons_succ]
        refine wpAnyH_take (i := 37) (v := ?v46) rfl (by kernel_rfl) (by kernel_rfl) (by kernel_rfl) (fun _ _ _ h => h) (Or.inl ⟨by kernel_rfl, ?hy46⟩) hHeld ?rest46
        case hy46 =>
          intro w hSw
          (try dsimp only at hSw)
          go_simp
          try with_reducible rfl
        simp only [Act.put, List.getElem_toArray, List.getElem_cons_succ, List.getElem_cons_zero, List.setIfInBounds_toArray, List.set_cons_zero, List.set_cons_succ]
        refine wpAnyH_take (i := 38) (v := ?v47) rfl (by kernel_rfl) (by kernel_rfl) (by kernel_rfl) (fun _ _ _ h => h) (Or.inl ⟨by kernel_rfl, ?hy47⟩) hHeld ?rest47
        case hy47 =>
          intro w hSw
          (try dsimp only at hSw)
          go_simp
          try with_reducible rfl
        simp only [Act.put, List.getElem_toArray, List.getElem_cons_succ, List.getElem_cons_zero, List.setIfInBounds_toArray, List.set_cons_zero, List.set_cons_succ]
        refine wpAnyH_take (i := 39) (v := ?v48) rfl (by kernel_rfl) (by kernel_rfl) (by kernel_rfl) (fun _ _ _ h => h) (Or.inl ⟨by kernel_rfl, ?hy48⟩) hHeld ?rest48
        case hy48 =>
          intro w hSw
          (try dsimp only at hSw)
          go_simp
          try with_reducible rfl
        simp only [Act.put, List.getElem_toArray, List.getElem_cons_succ, List.getElem_cons_zero, List.setIfInBounds_toArray, List.set_cons_zero, List.set_cons_succ]
        refine wpAnyH_ready (rs := [40]) (by kernel_rfl) (by simp) ?_
        refine AllReadyH.cons rfl (fun K hK => ?_) AllReadyH.nil
        rw [if_pos (by kernel_rfl)]
        go_simp
        go_at_call 15
        have C := implHasPrefix_c o1 o2.rd
        rw [HP2.out] at C
        refine C.mono ?_
        clear C
        rintro e W16 ⟨_, rfl, rfl, y16⟩
        have q16 := y16.size
        replace X := ext_trans X y16
        replace r0 := r0.ext y16
        replace o1 := o1.ext y16
        replace k3 := cell_ext k3 y16
        replace o2 := o2.ext y16
        replace k5 := cell_ext k5 y16
        replace o4 := o4.ext y16
        replace k7 := cell_ext k7 y16
        replace o5 := o5.ext y16
        replace o6 := o6.ext y16
        replace k9 := cell_ext k9 y16
        replace k10 := cell_ext k10 y16
        replace kx := cell_ext kx y16
        replace o17 := o17.ext y16
        clear y16
        refine hK.out _ _ (by exact ⟨k3, k5, kx⟩) (fun hHeld => ?_)
        clear hK K
        refine wpAnyH_take (i := 41) (v := ?v49) rfl (by kernel_rfl) (by kernel_rfl) (by kernel_rfl) (fun _ _ _ h => h) (Or.inl ⟨by kernel_rfl, ?hy49⟩) hHeld ?rest49
        case hy49 =>
          intro w hSw
          (try dsimp only at hSw)
          go_simp
          try with_reducible rfl
        simp only [Act.put, List.getElem_toArray, List.getElem_cons_succ, List.getElem_cons_zero, List.setIfInBounds_toArray, List.set_cons_zero, List.set_cons_succ]
        refine wpAnyH_take (i := 42) (v := ?v50) rfl (by kernel_rfl) (by kernel_rfl) (by kernel_rfl) (fun _ _ _ h => h) (Or.inl ⟨by kernel_rfl, ?hy50⟩) hHeld ?rest50
        case hy50 =>
          intro w hSw
          (try dsimp only at hSw)
          go_simp
          try with_reducible rfl
        simp only [Act.put, List.getElem_toArray, List.getElem_cons_succ, List.getElem_cons_zero, List.setIfInBounds_toArray, List.set_cons_zero, List.set_cons_succ]
        refine wpAnyH_take (i := 43) (v := ?v51) rfl (by kernel_rfl) (by kernel_rfl) (by kernel_rfl) (fun _ _ _ h => h) (Or.inl ⟨by kernel_rfl, ?hy51⟩) hHeld ?rest51
        case hy51 =>
          intro w hSw
          (try dsimp only at hSw)
          go_simp
          try with_reducible rfl
        simp only [Act.put, List.getElem_toArray, List.getElem_cons_succ, List.getElem_cons_zero, List.setIfInBounds_toArray, List.set_cons_zero, List.set_cons_succ]
        refine wpAnyH_done (by kernel_rfl) ?_ _
        go_wp2
        go_ret
        exact ⟨rfl, X⟩
      · subst hX
        go_wp2_with fail
        refine (sameName_c o2.rd o1).mono ?_
        rintro e W12 ⟨_, rfl, rfl, y12⟩
        have q12 := y12.size
        replace X := ext_trans X y12
        replace r0 := r0.ext y12
        replace o1 := o1.ext y12
        replace k3 := cell_ext k3 y12
        replace o2 := o2.ext y12
        replace k5 := cell_ext k5 y12
        replace o4 := o4.ext y12
        replace k7 := cell_ext k7 y12
        replace o5 := o5.ext y12
        replace o6 := o6.ext y12
        replace k9 := cell_ext k9 y12
        replace k10 := cell_ext k10 y12
        clear y12
        go_wp2
        go_ret
        exact ⟨rfl, X⟩
    · have HF := hid hF
      have HZ := hid (hp_take hF).2
      have hzl := (hp_take hF).1
      have HT := hid (show trn (zb.length : Int) za.length = zb.length by unfold trn; omega)
      clear hF
      go_wp2_with fail
      have y10 := Below.drew (ext_refl W10)
      have qd10 := y10.size
      replace X := ext_trans X y10
      replace r0 := r0.ext y10
      replace o1 := o1.ext y10
      replace k3 := cell_ext k3 y10
      replace o2 := o2.ext y10
      replace k5 := cell_ext k5 y10
      replace o4 := o4.ext y10
      replace k7 := cell_ext k7 y10
      replace o5 := o5.ext y10
      replace o6 := o6.ext y10
      replace k9 := cell_ext k9 y10
      replace k10 := cell_ext k10 y10
      clear y10
      refine wp_region_held_drew (S := fun w' => w'.cell? ⟨W8.heap.size, 0, none⟩ = some (.slice a9_0 (za.length) c9_0) ∧ w'.cell? ⟨W8.heap.size + 1, 0, none⟩ = some (.slice a9_1 (zb.length) c9_1)) (by kernel_rfl) (by exact ⟨k9, k10⟩) (fun hHeld => ?_)
      refine wpAnyH_take (i := 0) (v := ?v52) rfl (by kernel_rfl) (by kernel_rfl) (by kernel_rfl) (fun _ _ _ h => h) (Or.inl ⟨by kernel_rfl, ?hy52⟩) hHeld ?rest52
      case hy52 =>
        intro w hSw
        (try dsimp only at hSw)
        go_simp
        try with_reducible rfl
      simp only [Act.put, List.getElem_toArray, List.getElem_cons_zero, List.setIfInBounds_toArray, List.set_cons_zero, List.set_cons_succ]
      refine wpAnyH_take (i := 1) (v := ?v53) rfl (by kernel_rfl) (by kernel_rfl) (by kernel_rfl) (fun _ _ _ h => h) (Or.inl ⟨by kernel_rfl, ?hy53⟩) hHeld ?rest53
      case hy53 =>
        intro w hSw
        (try dsimp only at hSw)
        go_simp
        try with_reducible rfl
      simp only [Act.put, List.getElem_toArray, List.getElem_cons_succ, List.getElem_cons_zero, List.setIfInBounds_toArray, List.set_cons_zero, List.set_cons_succ]
      refine wpAnyH_ready (rs := [2]) (by kernel_rfl) (by simp) ?_
      refine AllReadyH.cons rfl (fun K hK => ?_) AllReadyH.nil
      go_simp
      go_at_call 15
      have C := implHasPrefix_c o5 o6
      rw [HF.out] at C
      refine C.mono ?_
      clear C
      rintro e W11 ⟨_, rfl, rfl, y11⟩
      have q11 := y11.size
      replace X := ext_trans X y11
      replace r0 := r0.ext y11
      replace o1 := o1.ext y11
      replace k3 := cell_ext k3 y11
      replace o2 := o2.ext y11
      replace k5 := cell_ext k5 y11
      replace o4 := o4.ext y11
      replace k7 := cell_ext k7 y11
      replace o5 := o5.ext y11
      replace o6 := o6.ext y11
      replace k9 := cell_ext k9 y11
      replace k10 := cell_ext k10 y11
      clear y11
      refine hK.out _ _ (by exact ⟨k9, k10⟩) (fun hHeld => ?_)
      clear hK K
      refine wpAnyH_take (i := 3) (v := ?v54) rfl (by kernel_rfl) (by kernel_rfl) (by kernel_rfl) (fun _ _ _ h => h) (Or.inl ⟨by kernel_rfl, ?hy54⟩) hHeld ?rest54
      case hy54 =>
        intro w hSw
        (try dsimp only at hSw)
        go_simp
        try with_reducible rfl
      simp only [Act.put, List.getElem_toArray, List.getElem_cons_succ, List.getElem_cons_zero, List.setIfInBounds_toArray, List.set_cons_zero, List.set_cons_succ]
      refine wpAnyH_take (i := 4) (v := ?v55) rfl (by kernel_rfl) (by kernel_rfl) (by kernel_rfl) (fun _ _ _ h => h) (Or.inl ⟨by kernel_rfl, ?hy55⟩) hHeld ?rest55
      case hy55 =>
        intro w hSw
        (try dsimp only at hSw)
        go_simp
        try with_reducible rfl
      simp only [Act.put, List.getElem_toArray, List.getElem_cons_succ, List.getElem_cons_zero, List.setIfInBounds_toArray, List.set_cons_zero, List.set_cons_succ]
      refine wpAnyH_take (i := 5) (v := ?v56) rfl (by kernel_rfl) (by kernel_rfl) (by kernel_rfl) (fun _ _ _ h => h) (Or.inl ⟨by kernel_rfl, ?hy56⟩) hHeld ?rest56
      case hy56 =>
        intro w hSw
        (try dsimp only at hSw)
        go_simp
        try with_reducible rfl
      simp only [Act.put, List.getElem_toArray, List.getElem_cons_succ, List.getElem_cons_zero, List.setIfInBounds_toArray, List.set_cons_zero, List.set_cons_succ]
      refine wpAnyH_take (i := 6) (v := ?v57) rfl (by kernel_rfl) (by kernel_rfl) (by kernel_rfl) (fun _ _ _ h => h) (Or.inl ⟨by kernel_rfl, ?hy57⟩) hHeld ?rest57
      case hy57 =>
        intro w hSw
        (try dsimp only at hSw)
        go_simp
        try with_reducible rfl
      simp only [Act.put, List.getElem_toArray, List.getElem_cons_succ, List.getElem_cons_zero, List.setIfInBounds_toArray, List.set_cons_zero, List.set_cons_succ]
      refine wpAnyH_take (i := 7) (v := ?v58) rfl (by kernel_rfl) (by kernel_rfl) (by kernel_rfl) (fun _ _ _ h => h) (Or.inl ⟨by kernel_rfl, ?hy58⟩) hHeld ?rest58
      case hy58 =>
        intro w hSw
        (try dsimp only at hSw)
        go_simp
        try with_reducible rfl
      simp only [Act.put, List.getElem_toArray, List.getElem_cons_succ, List.getElem_cons_zero, List.setIfInBounds_toArray, List.set_cons_zero, List.set_cons_succ]
      refine wpAnyH_take (i := 9) (v := ?v59) rfl (by kernel_rfl) (by kernel_rfl) (by kernel_rfl) (fun _ _ _ h => h) (Or.inl ⟨by kernel_rfl, ?hy59⟩) hHeld ?rest59
      case hy59 =>
        intro w hSw
        (try dsimp only at hSw)
        go_simp
        try with_reducible rfl
      simp only [Act.put, List.getElem_toArray, List.getElem_cons_succ, List.getElem_cons_zero, List.setIfInBounds_toArray, List.set_cons_zero, List.set_cons_succ]
      refine wpAnyH_ready (rs := [8]) (by kernel_rfl) (by simp) ?_
      refine AllReadyH.cons rfl (fun K hK => ?_) AllReadyH.nil
      rw [if_pos (by kernel_rfl)]
      go_simp
      go_at_call 16
      have C := implTruncate_c (k := (zb.length : Int)) o5 (by omega)
      rw [HT.out, HZ.out] at C
      refine C.mono ?_
      clear C
      rintro e W12 ⟨u7, rfl, o7, y12⟩
      have q12 := y12.size
      replace X := ext_trans X y12
      replace r0 := r0.ext y12
      replace o1 := o1.ext y12
      replace k3 := cell_ext k3 y12
      replace o2 := o2.ext y12
      replace k5 := cell_ext k5 y12
      replace o4 := o4.ext y12
      replace k7 := cell_ext k7 y12
      replace o5 := o5.ext y12
      replace o6 := o6.ext y12
      replace k9 := cell_ext k9 y12
      replace k10 := cell_ext k10 y12
      clear y12
      refine hK.out _ _ (by exact ⟨k9, k10⟩) (fun hHeld => ?_)
      clear hK K
      refine wpAnyH_ready (rs := [10]) (by kernel_rfl) (by simp) ?_
      refine AllReadyH.cons rfl (fun K hK => ?_) AllReadyH.nil
      rw [if_pos (by kernel_rfl)]
      go_simp
      go_at_call 14
      have C := sameName_c o7.rd o6
      rw [decide_eq_true rfl] at C
      refine C.mono ?_
      clear C
      rintro e W13 ⟨_, rfl, rfl, y13⟩
      have q13 := y13.size
      replace X := ext_trans X y13
      replace r0 := r0.ext y13
      replace o1 := o1.ext y13
      replace k3 := cell_ext k3 y13
      replace o2 := o2.ext y13
      replace k5 := cell_ext k5 y13
      replace o4 := o4.ext y13
      replace k7 := cell_ext k7 y13
      replace o5 := o5.ext y13
      replace o6 := o6.ext y13
      replace k9 := cell_ext k9 y13
      replace k10 := cell_ext k10 y13
      replace o7 := o7.ext y13
      clear y13
      refine hK.out _ _ (by exact ⟨k9, k10⟩) (fun hHeld => ?_)
      clear hK K
      refine wpAnyH_take (i := 11) (v := ?v60) rfl (by kernel_rfl) (by kernel_rfl) (by kernel_rfl) (fun _ _ _ h => h) (Or.inl ⟨by kernel_rfl, ?hy60⟩) hHeld ?rest60
      case hy60 =>
        intro w hSw
        (try dsimp only at hSw)
        go_simp
        try with_reducible rfl
      simp only [Act.put, List.getElem_toArray, List.getElem_cons_succ, List.getElem_cons_zero, List.setIfInBounds_toArray, List.set_cons_zero, List.set_cons_succ]
      refine wpAnyH_take (i := 12) (v := ?v61) rfl (by kernel_rfl) (by kernel_rfl) (by kernel_rfl) (fun _ _ _ h => h) (Or.inl ⟨by kernel_rfl, ?hy61⟩) hHeld ?rest61
      case hy61 =>
        intro w hSw
        (try dsimp only at hSw)
        go_simp
        try with_reducible rfl
      simp only [Act.put, List.getElem_toArray, List.getElem_cons_succ, List.getElem_cons_zero, List.setIfInBounds_toArray, List.set_cons_zero, List.set_cons_succ]
      refine wpAnyH_done (by kernel_rfl) ?_ _

      rcases HX.out with ⟨rfl, hX, hv⟩ | ⟨rfl, hX⟩
      · have HL := hid (show (xp.length : Int) = (xs.length : Int) + 1 by rw [hX]; simp)
        have HV := hid hv
        have HP1 := hid (show hp xp xs = true by rw [hX]; exact hp_push xs s)
        have HP2 := hid (show hp xs xp = false by rw [hX]; exact hp_longer xs s)
        have HT1 := hid (show trn (xs.length : Int) xp.length = xs.length by have := HL.out; unfold trn; omega)
        have HT2 := hid (show xp.take xs.length = xs by rw [hX]; simp)
        have hXs := hid (fun t (ht : t ∈ xp) => (show t.size ≤ 9223372036854775807 by rw [hX] at ht; exact (List.mem_append.1 ht).elim (fun h => hxs.out t h) (fun h => by rw [List.mem_singleton.1 h]; omega)))
        obtain ⟨z2, hz2, r2⟩ := id o2.rd
        obtain ⟨_, a2, c2, hz3, _, _, hat⟩ := r2
        obtain ⟨b2, f2, rfl, _, _, hb2, hcell⟩ := hat (by have := HL.out; omega)
        simp only [Value.agg.injEq, Array.mk.injEq, List.cons.injEq, and_true] at hz2
        rw [hz3] at hz2
        simp only [Value.slice.injEq, true_and] at hz2
        obtain ⟨rfl, rfl⟩ := hz2
        have kx := hcell xs.length (.string s) (by rw [hX]; simp [sv])
        have hw : IntKind.i64.wrap ((xs.length : Int) + 1) = (xp.length : Int) := by rw [IntWalk.i64_in _ ⟨by omega, by omega⟩]; exact HL.out.symm
        have i0 : (0 : Int) ≤ (xs.length : Int) := by omega
        have i1 : (xs.length : Int) < (xp.length : Int) := by have := HL.out; omega
        have i2 : (xp.length : Int) = (xs.length : Int) + 1 := HL.out
        have i3 : ((xp.length : Int) == (xs.length : Int) + 1) = true := by rw [i2]; simp
        have i4 : ((xp.length : Int) == (xp.length : Int)) = true := by simp
        have i5 : xs.length < xp.length := by omega
        have i6 : (s.toList == s.toList) = true := by simp
        clear hX hv hcell hat i2
        go_wp2_with fail
        have y13 := Below.drew (ext_refl W13)
        have qd13 := y13.size
        replace X := ext_trans X y13
        replace r0 := r0.ext y13
        replace o1 := o1.ext y13
        replace k3 := cell_ext k3 y13
        replace o2 := o2.ext y13
        replace k5 := cell_ext k5 y13
        replace o4 := o4.ext y13
        replace k7 := cell_ext k7 y13
        replace o5 := o5.ext y13
        replace o6 := o6.ext y13
        replace k9 := cell_ext k9 y13
        replace k10 := cell_ext k10 y13
        replace o7 := o7.ext y13
        replace kx := cell_ext kx y13
        clear y13
        refine wp_region_held_drew (S := fun w' => w'.cell? ⟨W2.heap.size, 0, none⟩ = some (.slice a3' (xs.length) c3') ∧ w'.cell? ⟨W4.heap.size, 0, none⟩ = some (.slice (some ⟨b2, f2, none⟩) (xp.length) c5') ∧ w'.cell? ⟨b2, f2 + xs.length, none⟩ = some (.string s)) (by kernel_rfl) (by exact ⟨k3, k5, kx⟩) (fun hHeld => ?_)
        refine wpAnyH_take (i := 0) (v := ?v62) rfl (by kernel_rfl) (by kernel_rfl) (by kernel_rfl) (fun _ _ _ h => h) (Or.inl ⟨by kernel_rfl, ?hy62⟩) hHeld ?rest62
        case hy62 =>
          intro w hSw
          (try dsimp only at hSw)
          go_simp
          try with_reducible rfl
        simp only [Act.put, List.getElem_toArray, List.getElem_cons_zero, List.setIfInBounds_toArray, List.set_cons_zero, List.set_cons_succ]
        refine wpAnyH_ready (rs := [1]) (by kernel_rfl) (by simp) ?_
        refine AllReadyH.cons rfl (fun K hK => ?_) AllReadyH.nil
        go_simp
        go_at_call 17
        have C := implValidName_c o2.rd hXs.out
        rw [HV.out] at C
        refine C.mono ?_
        clear C
        rintro e W14 ⟨_, rfl, rfl, y14⟩
        have q14 := y14.size
        replace X := ext_trans X y14
        replace r0 := r0.ext y14
        replace o1 := o1.ext y14
        replace k3 := cell_ext k3 y14
        replace o2 := o2.ext y14
        replace k5 := cell_ext k5 y14
        replace o4 := o4.ext y14
        replace k7 := cell_ext k7 y14
        replace o5 := o5.ext y14
        replace o6 := o6.ext y14
        replace k9 := cell_ext k9 y14
        replace k10 := cell_ext k10 y14
        replace o7 := o7.ext y14
        replace kx := cell_ext kx y14
        clear y14
        refine hK.out _ _ (by exact ⟨k3, k5, kx⟩) (fun hHeld => ?_)
        clear hK K
        refine wpAnyH_take (i := 2) (v := ?v63) rfl (by kernel_rfl) (by kernel_rfl) (by kernel_rfl) (fun _ _ _ h => h) (Or.inl ⟨by kernel_rfl, ?hy63⟩) hHeld ?rest63
        case hy63 =>
          intro w hSw
          (try dsimp only at hSw)
          go_simp
          try with_reducible rfl
        simp only [Act.put, List.getElem_toArray, List.getElem_cons_succ, List.getElem_cons_zero, List.setIfInBounds_toArray, List.set_cons_zero, List.set_cons_succ]
        refine wpAnyH_take (i := 3) (v := ?v64) rfl (by kernel_rfl) (by kernel_rfl) (by kernel_rfl) (fun _ _ _ h => h) (Or.inl ⟨by kernel_rfl, ?hy64⟩) hHeld ?rest64
        case hy64 =>
          intro w hSw
          (try dsimp only at hSw)
          go_simp
          try with_reducible rfl
        simp only [Act.put, List.getElem_toArray, List.getElem_cons_succ, List.getElem_cons_zero, List.setIfInBounds_toArray, List.set_cons_zero, List.set_cons_succ]
        refine wpAnyH_take (i := 4) (v := ?v65) rfl (by kernel_rfl) (by kernel_rfl) (by kernel_rfl) (fun _ _ _ h => h) (Or.inl ⟨by kernel_rfl, ?hy65⟩) hHeld ?rest65
        case hy65 =>
          intro w hSw
          (try dsimp only at hSw)
          go_simp
          try with_reducible rfl
        simp only [Act.put, List.getElem_toArray, List.getElem_cons_succ, List.getElem_cons_zero, List.setIfInBounds_toArray, List.set_cons_zero, List.set_cons_succ]
        refine wpAnyH_ready (rs := [5]) (by kernel_rfl) (by simp) ?_
        refine AllReadyH.cons rfl (fun K hK => ?_) AllReadyH.nil
        rw [if_pos (by kernel_rfl)]
        go_simp
        go_at_call 15
        have C := implHasPrefix_c o2.rd o1
        rw [HP1.out] at C
        refine C.mono ?_
        clear C
        rintro e W15 ⟨_, rfl, rfl, y15⟩
        have q15 := y15.size
        replace X := ext_trans X y15
        replace r0 := r0.ext y15
        replace o1 := o1.ext y15
        replace k3 := cell_ext k3 y15
        replace o2 := o2.ext y15
        replace k5 := cell_ext k5 y15
        replace o4 := o4.ext y15
        replace k7 := cell_ext k7 y15
        replace o5 := o5.ext y15
        replace o6 := o6.ext y15
        replace k9 := cell_ext k9 y15
        replace k10 := cell_ext k10 y15
        replace o7 := o7.ext y15
        replace kx := cell_ext kx y15
        clear y15
        refine hK.out _ _ (by exact ⟨k3, k5, kx⟩) (fun hHeld => ?_)
        clear hK K
        refine wpAnyH_take (i := 6) (v := ?v66) rfl (by kernel_rfl) (by kernel_rfl) (by kernel_rfl) (fun _ _ _ h => h) (Or.inl ⟨by kernel_rfl, ?hy66⟩) hHeld ?rest66
        case hy66 =>
          intro w hSw
          (try dsimp only at hSw)
          go_simp
          try with_reducible rfl
        simp only [Act.put, List.getElem_toArray, List.getElem_cons_succ, List.getElem_cons_zero, List.setIfInBounds_toArray, List.set_cons_zero, List.set_cons_succ]
        refine wpAnyH_take (i := 7) (v := ?v67) rfl (by kernel_rfl) (by kernel_rfl) (by kernel_rfl) (fun _ _ _ h => h) (Or.inl ⟨by kernel_rfl, ?hy67⟩) hHeld ?rest67
        case hy67 =>
          intro w hSw
          (try dsimp only at hSw)
          go_simp
          try with_reducible rfl
        simp only [Act.put, List.getElem_toArray, List.getElem_cons_succ, List.getElem_cons_zero, List.setIfInBounds_toArray, List.set_cons_zero, List.set_cons_succ]
        refine wpAnyH_take (i := 8) (v := ?v68) rfl (by kernel_rfl) (by kernel_rfl) (by kernel_rfl) (fun _ _ _ h => h) (Or.inl ⟨by kernel_rfl, ?hy68⟩) hHeld ?rest68
        case hy68 =>
          intro w hSw
          (try dsimp only at hSw)
          go_simp
          try with_reducible rfl
        simp only [Act.put, List.getElem_toArray, List.getElem_cons_succ, List.getElem_cons_zero, List.setIfInBounds_toArray, List.set_cons_zero, List.set_cons_succ]
        refine wpAnyH_take (i := 9) (v := ?v69) rfl (by kernel_rfl) (by kernel_rfl) (by kernel_rfl) (fun _ _ _ h => h) (Or.inl ⟨by kernel_rfl, ?hy69⟩) hHeld ?rest69
        case hy69 =>
          intro w hSw
          (try dsimp only at hSw)
          go_simp
          try with_reducible rfl
        simp only [Act.put, List.getElem_toArray, List.getElem_cons_succ, List.getElem_cons_zero, List.setIfInBounds_toArray, List.set_cons_zero, List.set_cons_succ]
        refine wpAnyH_take (i := 10) (v := ?v70) rfl (by kernel_rfl) (by kernel_rfl) (by kernel_rfl) (fun _ _ _ h => h) (Or.inl ⟨by kernel_rfl, ?hy70⟩) hHeld ?rest70
        case hy70 =>
          intro w hSw
          (try dsimp only at hSw)
          go_simp
          try with_reducible rfl
        simp only [Act.put, List.getElem_toArray, List.getElem_cons_succ, List.getElem_cons_zero, List.setIfInBounds_toArray, List.set_cons_zero, List.set_cons_succ]
        refine wpAnyH_take (i := 11) (v := ?v71) rfl (by kernel_rfl) (by kernel_rfl) (by kernel_rfl) (fun _ _ _ h => h) (Or.inl ⟨by kernel_rfl, ?hy71⟩) hHeld ?rest71
        case hy71 =>
          intro w hSw
          (try dsimp only at hSw)
          go_simp
          try with_reducible rfl
        simp only [Act.put, List.getElem_toArray, List.getElem_cons_succ, List.getElem_cons_zero, List.setIfInBounds_toArray, List.set_cons_zero, List.set_cons_succ]
        refine wpAnyH_take (i := 13) (v := ?v72) rfl (by kernel_rfl) (by kernel_rfl) (by kernel_rfl) (fun _ _ _ h => h) (Or.inl ⟨by kernel_rfl, ?hy72⟩) hHeld ?rest72
        case hy72 =>
          intro w hSw
          (try dsimp only at hSw)
          go_simp
          try with_reducible rfl
        simp only [Act.put, List.getElem_toArray, List.getElem_cons_succ, List.getElem_cons_zero, List.setIfInBounds_toArray, List.set_cons_zero, List.set_cons_succ]
        refine wpAnyH_ready (rs := [12]) (by kernel_rfl) (by simp) ?_
        refine AllReadyH.cons rfl (fun K hK => ?_) AllReadyH.nil
        rw [if_pos (by kernel_rfl)]
        go_simp
        go_at_call 16
        have C := implTruncate_c (k := (xs.length : Int)) o2.rd (by have := HL.out; omega)
        rw [HT1.out, HT2.out] at C
        refine C.mono ?_
        clear C
        rintro e W16 ⟨u17, rfl, o17, y16⟩
        have q16 := y16.size
        replace X := ext_trans X y16
        replace r0 := r0.ext y16
        replace o1 := o1.ext y16
        replace k3 := cell_ext k3 y16
        replace o2 := o2.ext y16
        replace k5 := cell_ext k5 y16
        replace o4 := o4.ext y16
        replace k7 := cell_ext k7 y16
        replace o5 := o5.ext y16
        replace o6 := o6.ext y16
        replace k9 := cell_ext k9 y16
        replace k10 := cell_ext k10 y16
        replace o7 := o7.ext y16
        replace kx := cell_ext kx y16
        clear y16
        refine hK.out _ _ (by exact ⟨k3, k5, kx⟩) (fun hHeld => ?_)
        clear hK K
        refine wpAnyH_ready (rs := [14]) (by kernel_rfl) (by simp) ?_
        refine AllReadyH.cons rfl (fun K hK => ?_) AllReadyH.nil
        rw [if_pos (by kernel_rfl)]
        go_simp
        go_at_call 14
        have C := sameName_c o17.rd o1
        rw [decide_eq_true rfl] at C
        refine C.mono ?_
        clear C
        rintro e W17 ⟨_, rfl, rfl, y17⟩
        have q17 := y17.size
        replace X := ext_trans X y17
        replace r0 := r0.ext y17
        replace o1 := o1.ext y17
        replace k3 := cell_ext k3 y17
        replace o2 := o2.ext y17
        replace k5 := cell_ext k5 y17
        replace o4 := o4.ext y17
        replace k7 := cell_ext k7 y17
        replace o5 := o5.ext y17
        replace o6 := o6.ext y17
        replace k9 := cell_ext k9 y17
        replace k10 := cell_ext k10 y17
        replace o7 := o7.ext y17
        replace kx := cell_ext kx y17
        replace o17 := o17.ext y17
        clear y17
        refine hK.out _ _ (by exact ⟨k3, k5, kx⟩) (fun hHeld => ?_)
        clear hK K
        refine wpAnyH_take (i := 15) (v := ?v73) rfl (by kernel_rfl) (by kernel_rfl) (by kernel_rfl) (fun _ _ _ h => h) (Or.inl ⟨by kernel_rfl, ?hy73⟩) hHeld ?rest73
        case hy73 =>
          intro w hSw
          (try dsimp only at hSw)
          go_simp
          try with_reducible rfl
        simp only [Act.put, List.getElem_toArray, List.getElem_cons_succ, List.getElem_cons_zero, List.setIfInBounds_toArray, List.set_cons_zero, List.set_cons_succ]
        refine wpAnyH_take (i := 16) (v := ?v74) rfl (by kernel_rfl) (by kernel_rfl) (by kernel_rfl) (fun _ _ _ h => h) (Or.inl ⟨by kernel_rfl, ?hy74⟩) hHeld ?rest74
        case hy74 =>
          intro w hSw
          (try dsimp only at hSw)
          go_simp
          try with_reducible rfl
        simp only [Act.put, List.getElem_toArray, List.getElem_cons_succ, List.getElem_cons_zero, List.setIfInBounds_toArray, List.set_cons_zero, List.set_cons_succ]
        refine wpAnyH_take (i := 17) (v := ?v75) rfl (by kernel_rfl) (by kernel_rfl) (by kernel_rfl) (fun _ _ _ h => h) (Or.inl ⟨by kernel_rfl, ?hy75⟩) hHeld ?rest75
        case hy75 =>
          intro w hSw
          (try dsimp only at hSw)
          go_simp
          try with_reducible rfl
        simp only [Act.put, List.getElem_toArray, List.getElem_cons_succ, List.getElem_cons_zero, List.setIfInBounds_toArray, List.set_cons_zero, List.set_cons_succ]
        refine wpAnyH_take (i := 18) (v := ?v76) rfl (by kernel_rfl) (by kernel_rfl) (by kernel_rfl) (fun _ _ _ h => h) (Or.inl ⟨by kernel_rfl, ?hy76⟩) hHeld ?rest76
        case hy76 =>
          intro w hSw
          (try dsimp only at hSw)
          go_simp
          try with_reducible rfl
        simp only [Act.put, List.getElem_toArray, List.getElem_cons_succ, List.getElem_cons_zero, List.setIfInBounds_toArray, List.set_cons_zero, List.set_cons_succ]
        refine wpAnyH_take (i := 19) (v := ?v77) rfl (by kernel_rfl) (by kernel_rfl) (by kernel_rfl) (fun _ _ _ h => h) (Or.inl ⟨by kernel_rfl, ?hy77⟩) hHeld ?rest77
        case hy77 =>
          intro w hSw
          (try dsimp only at hSw)
          go_simp
          try with_reducible rfl
        simp only [Act.put, List.getElem_toArray, List.getElem_cons_succ, List.getElem_cons_zero, List.setIfInBounds_toArray, List.set_cons_zero, List.set_cons_succ]
        refine wpAnyH_take (i := 20) (v := ?v78) rfl (by kernel_rfl) (by kernel_rfl) (by kernel_rfl) (fun _ _ _ h => h) (Or.inl ⟨by kernel_rfl, ?hy78⟩) hHeld ?rest78
        case hy78 =>
          intro w hSw
          (try dsimp only at hSw)
          go_simp
          try with_reducible rfl
        simp only [Act.put, List.getElem_toArray, List.getElem_cons_succ, List.getElem_cons_zero, List.setIfInBounds_toArray, List.set_cons_zero, List.set_cons_succ]
        refine wpAnyH_take (i := 21) (v := ?v79) rfl (by kernel_rfl) (by kernel_rfl) (by kernel_rfl) (fun _ _ _ h => h) (Or.inl ⟨by kernel_rfl, ?hy79⟩) hHeld ?rest79
        case hy79 =>
          intro w hSw
          (try dsimp only at hSw)
          go_simp
          try with_reducible rfl
        simp only [Act.put, List.getElem_toArray, List.getElem_cons_succ, List.getElem_cons_zero, List.setIfInBounds_toArray, List.set_cons_zero, List.set_cons_succ]
        refine wpAnyH_take (i := 22) (v := ?v80) rfl (by kernel_rfl) (by kernel_rfl) (by kernel_rfl) (fun _ _ _ h => h) (Or.inl ⟨by kernel_rfl, ?hy80⟩) hHeld ?rest80
        case hy80 =>
          intro w hSw
          (try dsimp only at hSw)
          go_simp
          try with_reducible rfl
        simp only [Act.put, List.getElem_toArray, List.getElem_cons_succ, List.getElem_cons_zero, List.setIfInBounds_toArray, List.set_cons_zero, List.set_cons_succ]
        refine wpAnyH_take (i := 23) (v := ?v81) rfl (by kernel_rfl) (by kernel_rfl) (by kernel_rfl) (fun _ _ _ h => h) (Or.inl ⟨by kernel_rfl, ?hy81⟩) hHeld ?rest81
        case hy81 =>
          intro w hSw
          (try dsimp only at hSw)
          go_simp
          try with_reducible rfl
        simp only [Act.put, List.getElem_toArray, List.getElem_cons_succ, List.getElem_cons_zero, List.setIfInBounds_toArray, List.set_cons_zero, List.set_cons_succ]
        refine wpAnyH_take (i := 24) (v := ?v82) rfl (by kernel_rfl) (by kernel_rfl) (by kernel_rfl) (fun _ _ _ h => h) (Or.inl ⟨by kernel_rfl, ?hy82⟩) hHeld ?rest82
        case hy82 =>
          intro w hSw
          (try dsimp only at hSw)
          go_simp
          try with_reducible rfl
        simp only [Act.put, List.getElem_toArray, List.getElem_cons_succ, List.getElem_cons_zero, List.setIfInBounds_toArray, List.set_cons_zero, List.set_cons_succ]
        refine wpAnyH_take (i := 25) (v := ?v83) rfl (by kernel_rfl) (by kernel_rfl) (by kernel_rfl) (fun _ _ _ h => h) (Or.inl ⟨by kernel_rfl, ?hy83⟩) hHeld ?rest83
        case hy83 =>
          intro w hSw
          (try dsimp only at hSw)
          go_simp
          try with_reducible rfl
        simp only [Act.put, List.getElem_toArray, List.getElem_cons_succ, List.getElem_cons_zero, List.setIfInBounds_toArray, List.set_cons_zero, List.set_cons_succ]
        refine wpAnyH_take (i := 26) (v := ?v84) rfl (by kernel_rfl) (by kernel_rfl) (by kernel_rfl) (fun _ _ _ h => h) (Or.inl ⟨by kernel_rfl, ?hy84⟩) hHeld ?rest84
        case hy84 =>
          intro w hSw
          (try dsimp only at hSw)
          go_simp
          try with_reducible rfl
        simp only [Act.put, List.getElem_toArray, List.getElem_cons_succ, List.getElem_cons_zero, List.setIfInBounds_toArray, List.set_cons_zero, List.set_cons_succ]
        refine wpAnyH_take (i := 27) (v := ?v85) rfl (by kernel_rfl) (by kernel_rfl) (by kernel_rfl) (fun _ _ _ h => h) (Or.inl ⟨by kernel_rfl, ?hy85⟩) hHeld ?rest85
        case hy85 =>
          intro w hSw
          (try dsimp only at hSw)
          go_simp
          try with_reducible rfl
        simp only [Act.put, List.getElem_toArray, List.getElem_cons_succ, List.getElem_cons_zero, List.setIfInBounds_toArray, List.set_cons_zero, List.set_cons_succ]
        refine wpAnyH_take (i := 28) (v := ?v86) rfl (by kernel_rfl) (by kernel_rfl) (by kernel_rfl) (fun _ _ _ h => h) (Or.inl ⟨by kernel_rfl, ?hy86⟩) hHeld ?rest86
        case hy86 =>
          intro w hSw
          (try dsimp only at hSw)
          go_simp
          try with_reducible rfl
        simp only [Act.put, List.getElem_toArray, List.getElem_cons_succ, List.getElem_cons_zero, List.setIfInBounds_toArray, List.set_cons_zero, List.set_cons_succ]
        refine wpAnyH_take (i := 29) (v := ?v87) rfl (by kernel_rfl) (by kernel_rfl) (by kernel_rfl) (fun _ _ _ h => h) (Or.inl ⟨by kernel_rfl, ?hy87⟩) hHeld ?rest87
        case hy87 =>
          intro w hSw
          (try dsimp only at hSw)
          go_simp
          try with_reducible rfl
        simp only [Act.put, List.getElem_toArray, List.getElem_cons_succ, List.getElem_cons_zero, List.setIfInBounds_toArray, List.set_cons_zero, List.set_cons_succ]
        refine wpAnyH_take (i := 30) (v := ?v88) rfl (by kernel_rfl) (by kernel_rfl) (by kernel_rfl) (fun _ _ _ h => h) (Or.inl ⟨by kernel_rfl, ?hy88⟩) hHeld ?rest88
        case hy88 =>
          intro w hSw
          (try dsimp only at hSw)
          go_simp
          try with_reducible rfl
        simp only [Act.put, List.getElem_toArray, List.getElem_cons_succ, List.getElem_cons_zero, List.setIfInBounds_toArray, List.set_cons_zero, List.set_cons_succ]
        refine wpAnyH_take (i := 31) (v := ?v89) rfl (by kernel_rfl) (by kernel_rfl) (by kernel_rfl) (fun _ _ _ h => h) (Or.inl ⟨by kernel_rfl, ?hy89⟩) hHeld ?rest89
        case hy89 =>
          intro w hSw
          (try dsimp only at hSw)
          go_simp
          try with_reducible rfl
        simp only [Act.put, List.getElem_toArray, List.getElem_cons_succ, List.getElem_cons_zero, List.setIfInBounds_toArray, List.set_cons_zero, List.set_cons_succ]
        refine wpAnyH_take (i := 32) (v := ?v90) rfl (by kernel_rfl) (by kernel_rfl) (by kernel_rfl) (fun _ _ _ h => h) (Or.inl ⟨by kernel_rfl, ?hy90⟩) hHeld ?rest90
        case hy90 =>
          intro w hSw
          (try dsimp only at hSw)
          go_simp
          try with_reducible rfl
        simp only [Act.put, List.getElem_toArray, List.getElem_cons_succ, List.getElem_cons_zero, List.setIfInBounds_toArray, List.set_cons_zero, List.set_cons_succ]
        refine wpAnyH_take (i := 33) (v := ?v91) rfl (by kernel_rfl) (by kernel_rfl) (by kernel_rfl) (fun _ _ _ h => h) (Or.inl ⟨by kernel_rfl, ?hy91⟩) hHeld ?rest91
        case hy91 =>
          intro w hSw
          (try dsimp only at hSw)
          go_simp
          try with_reducible rfl
        simp only [Act.put, List.getElem_toArray, List.getElem_cons_succ, List.getElem_cons_zero, List.setIfInBounds_toArray, List.set_cons_zero, List.set_cons_succ]
        refine wpAnyH_take (i := 34) (v := ?v92) rfl (by kernel_rfl) (by kernel_rfl) (by kernel_rfl) (fun _ _ _ h => h) (Or.inl ⟨by kernel_rfl, ?hy92⟩) hHeld ?rest92
        case hy92 =>
          intro w hSw
          (try dsimp only at hSw)
          go_simp
          try with_reducible rfl
        simp only [Act.put, List.getElem_toArray, List.getElem_cons_succ, List.getElem_cons_zero, List.setIfInBounds_toArray, List.set_cons_zero, List.set_cons_succ]
        refine wpAnyH_take (i := 35) (v := ?v93) rfl (by kernel_rfl) (by kernel_rfl) (by kernel_rfl) (fun _ _ _ h => h) (Or.inl ⟨by kernel_rfl, ?hy93⟩) hHeld ?rest93
        case hy93 =>
          intro w hSw
          (try dsimp only at hSw)
          go_simp
          try with_reducible rfl
        simp only [Act.put, List.getElem_toArray, List.getElem_cons_succ, List.getElem_cons_zero, List.setIfInBounds_toArray, List.set_cons_zero, List.set_cons_succ]
        refine wpAnyH_take (i := 36) (v := ?v94) rfl (by kernel_rfl) (by kernel_rfl) (by kernel_rfl) (fun _ _ _ h => h) (Or.inl ⟨by kernel_rfl, ?hy94⟩) hHeld ?rest94
        case hy94 =>
          intro w hSw
          (try dsimp only at hSw)
          go_simp
          try with_reducible rfl
        simp only [Act.put, List.getElem_toArray, List.getElem_cons_succ, List.getElem_cons_zero, List.setIfInBounds_toArray, List.set_cons_zero, List.set_cons_succ]
        refine wpAnyH_take (i := 37) (v := ?v95) rfl (by kernel_rfl) (by kernel_rfl) (by kernel_rfl) (fun _ _ _ h => h) (Or.inl ⟨by kernel_rfl, ?hy95⟩) hHeld ?rest95
        case hy95 =>
          intro w hSw
          (try dsimp only at hSw)
          go_simp
          try with_reducible rfl
        simp only [Act.put, List.getElem_toArray, List.getElem_cons_succ, List.getElem_cons_zero, List.setIfInBounds_toArray, List.set_cons_zero, List.set_cons_succ]
        refine wpAnyH_take (i := 38) (v := ?v96) rfl (by kernel_rfl) (by kernel_rfl) (by kernel_rfl) (fun _ _ _ h => h) (Or.inl ⟨by kernel_rfl, ?hy96⟩) hHeld ?rest96
        case hy96 =>
          intro w hSw
          (try dsimp only at hSw)
          go_simp
          try with_reducible rfl
        simp only [Act.put, List.getElem_toArray, List.getElem_cons_succ, List.getElem_cons_zero, List.setIfInBounds_toArray, List.set_cons_zero, List.set_cons_succ]
        refine wpAnyH_take (i := 39) (v := ?v97) rfl (by kernel_rfl) (by kernel_rfl) (by kernel_rfl) (fun _ _ _ h => h) (Or.inl ⟨by kernel_rfl, ?hy97⟩) hHeld ?rest97
        case hy97 =>
          intro w hSw
          (try dsimp only at hSw)
          go_simp
          try with_reducible rfl
        simp only [Act.put, List.getElem_toArray, List.getElem_cons_succ, List.getElem_cons_zero, List.setIfInBounds_toArray, List.set_cons_zero, List.set_cons_succ]
        refine wpAnyH_ready (rs := [40]) (by kernel_rfl) (by simp) ?_
        refine AllReadyH.cons rfl (fun K hK => ?_) AllReadyH.nil
        rw [if_pos (by kernel_rfl)]
        go_simp
        go_at_call 15
        have C := implHasPrefix_c o1 o2.rd
        rw [HP2.out] at C
        refine C.mono ?_
        clear C
        rintro e W18 ⟨_, rfl, rfl, y18⟩
        have q18 := y18.size
        replace X := ext_trans X y18
        replace r0 := r0.ext y18
        replace o1 := o1.ext y18
        replace k3 := cell_ext k3 y18
        replace o2 := o2.ext y18
        replace k5 := cell_ext k5 y18
        replace o4 := o4.ext y18
        replace k7 := cell_ext k7 y18
        replace o5 := o5.ext y18
        replace o6 := o6.ext y18
        replace k9 := cell_ext k9 y18
        replace k10 := cell_ext k10 y18
        replace o7 := o7.ext y18
        replace kx := cell_ext kx y18
        replace o17 := o17.ext y18
        clear y18
        refine hK.out _ _ (by exact ⟨k3, k5, kx⟩) (fun hHeld => ?_)
        clear hK K
        refine wpAnyH_take (i := 41) (v := ?v98) rfl (by kernel_rfl) (by kernel_rfl) (by kernel_rfl) (fun _ _ _ h => h) (Or.inl ⟨by kernel_rfl, ?hy98⟩) hHeld ?rest98
        case hy98 =>
          intro w hSw
          (try dsimp only at hSw)
          go_simp
          try with_reducible rfl
        simp only [Act.put, List.getElem_toArray, List.getElem_cons_succ, List.getElem_cons_zero, List.setIfInBounds_toArray, List.set_cons_zero, List.set_cons_succ]
        refine wpAnyH_take (i := 42) (v := ?v99) rfl (by kernel_rfl) (by kernel_rfl) (by kernel_rfl) (fun _ _ _ h => h) (Or.inl ⟨by kernel_rfl, ?hy99⟩) hHeld ?rest99
        case hy99 =>
          intro w hSw
          (try dsimp only at hSw)
          go_simp
          try with_reducible rfl
        simp only [Act.put, List.getElem_toArray, List.getElem_cons_succ, List.getElem_cons_zero, List.setIfInBounds_toArray, List.set_cons_zero, List.set_cons_succ]
        refine wpAnyH_take (i := 43) (v := ?v100) rfl (by kernel_rfl) (by kernel_rfl) (by kernel_rfl) (fun _ _ _ h => h) (Or.inl ⟨by kernel_rfl, ?hy100⟩) hHeld ?rest100
        case hy100 =>
          intro w hSw
          (try dsimp only at hSw)
          go_simp
          try with_reducible rfl
        simp only [Act.put, List.getElem_toArray, List.getElem_cons_succ, List.getElem_cons_zero, List.setIfInBounds_toArray, List.set_cons_zero, List.set_cons_succ]
        refine wpAnyH_done (by kernel_rfl) ?_ _
        go_wp2
        go_ret
        exact ⟨rfl, X⟩
      · subst hX
        go_wp2_with fail
        refine (sameName_c o2.rd o1).mono ?_
        rintro e W14 ⟨_, rfl, rfl, y14⟩
        have q14 := y14.size
        replace X := ext_trans X y14
        replace r0 := r0.ext y14
        replace o1 := o1.ext y14
        replace k3 := cell_ext k3 y14
        replace o2 := o2.ext y14
        replace k5 := cell_ext k5 y14
        replace o4 := o4.ext y14
        replace k7 := cell_ext k7 y14
        replace o5 := o5.ext y14
        replace o6 := o6.ext y14
        replace k9 := cell_ext k9 y14
        replace k10 := cell_ext k10 y14
        replace o7 := o7.ext y14
        clear y14
        go_wp2
        go_ret
        exact ⟨rfl, X⟩
set_option maxRecDepth 100000 in
theorem lifted (os : Os) (started : os.Started) (H : Type) (enc : TypeId × Value → H) :
    ReturnsInHanded {} Try.checked os 3 .any (Rows.fnWithsSpec.pre6 enc Try.prog Try.f3 Rows.fnWithsRow.domain false) (Rows.fnWithsSpec.post enc Try.prog Try.f3 false true false false) := by
  refine returnsInHanded_of_change (C := Try.checked) own started (by kernel_rfl) Try.func3
    (ChangeSpec.witness6 (enc := enc) (C := Try.checked) false ⟨#[], #[.slice none 0 0], []⟩ 8 (by kernel_rfl) (by kernel_rfl) (by kernel_rfl) (by kernel_rfl)) ?_
  intro W base args ds gs before hval0 hW hcnd _
  have hval : ∀ (j : Nat) t v, Try.f3.params[j]? = some t → args[j]? = some v → Value.okWide Try.prog W .any base t v := hval0
  have hW' := hW
  obtain ⟨p, q, hA0, hV, rfl, hfz, hnd⟩ := hW
  have hA : DataW.TrodAll enc Try.prog W 0 (fun _ => true) true Try.f3.params.toList args.toList ds p := hA0
  rw [Try.params3] at hA hval
  obtain ⟨v0, vs0, d0, ds0, p0, q0, hargs, rfl, rfl, h0, tr0⟩ := trodAll_cons hA
  obtain ⟨rfl, rfl, rfl⟩ := trodAll_nil tr0
  obtain rfl : args = #[v0] := by cases args; simp_all
  obtain ⟨rfl, rfl⟩ := trodVars_none hV
  have k0 := h0
  have lt0 : ∀ x ∈ p0, x.block < W.heap.size := by obtain ⟨m, hm⟩ := k0; exact DataW.trod_lt m _ _ _ hm
  obtain ⟨n0, x0, r0⟩ := rd_bytes Try.underlying22 Try.underlying5 (by kernel_rfl) (hval 0 22 v0 rfl rfl) h0
  clear hA0 hval0
  try simp only [List.append_nil] at hW'
  refine (walk W v0 n0 x0 r0).mono fun e W' ⟨he, bel⟩ => ?_
  subst he
  exact ⟨_, rfl, _, _, _, [], _, [], hW', trodAll_mk1 (shut_bool Try.underlying4 _), (trodAll_cons_mk (Below.trod laidOut (by kernel_rfl) (of_decide_eq_true (by kernel_rfl)) k0 bel lt0) trodAll_mk0), rfl, bel.frame _, fun h => by cases h⟩

theorem closed : joinedFacts Try.pinned.checked.prog 3 Try.f3 Rows.fnWithsSpec Rows.fnWithsRow = true := by
  unfold joinedFacts
  rw [show Try.pinned.checked.prog.mayEnter = true from joined1, show (Rows.fnWithsRow.lifted == Try.pinned.checked.prog.liftsFinal) = true from joined2, show (Try.pinned.checked.prog.make == some Rows.fnWithsRow.make) = true from joined3]
  kernel_rfl
theorem over : Rows.fnWithsRow.holds Try.pinned (OpenSpec.ofChange Rows.fnWithsSpec) :=
  OpenClaim.holds_of_wide 3 Try.f3 rfl rfl rfl rfl rfl rfl rfl ⟨rfl, rfl, rfl, rfl, rfl⟩ rfl rfl rfl rfl rfl (by kernel_rfl) Try.func3 closed
    (of_decide_eq_true (by kernel_rfl)) (by unfold Func.isWrapper; first | (rw [if_pos (by decide +kernel)]; kernel_rfl) | (rw [if_neg (by decide +kernel)]; exact ⟨rfl, rfl⟩))
    (fun os started H enc _ => lifted os started H enc)
/-- The statement. -/
theorem proved : Rows.FnWithsSaid := over
end fnWiths
end Go.Proofs.Ytcagbdidjakcpaa
