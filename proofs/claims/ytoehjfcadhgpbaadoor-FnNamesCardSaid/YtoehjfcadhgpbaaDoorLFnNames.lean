/- FnNames holds: names are parsed from their texts; they are totally ordered; a name is under its prefixes. The library's tables read as the program's text lays them: the card ties it. -/
import Derived.Test.YtoehjfcadhgpbaaDoorRows
import Derived.Test.YtoehjfcadhgpbaaDoorCards
import Derived.Test.YtoehjfcadhgpbaaDoorTie
import Derived.Test.YtoehjfcadhgpbaaDoorFrame
import Derived.Test.YtoehjfcadhgpbaaDoorPz
import Derived.Deep.RegionHeld3
import Derived.SevenTiedAt
import Derived.HandedShaped
import Derived.LaidMore
import Derived.Lay
import Derived.MakeChecks
import Derived.Stop.Joined
import Derived.Test.YtoehjfcadhgpbaaDoorNm
import Derived.Test.YtoehjfcadhgpbaaDoorDf
import Derived.Test.YtoehjfcadhgpbaaDoorBig
set_option linter.unusedVariables false
set_option linter.unusedSimpArgs false
namespace Go.Proofs.YtoehjfcadhgpbaaDoor
open Go.ChangeShapes Go.WideShapes Go.ChangeAt Go.WideMaps Go.WideElems Go.RowKit
open Go.ChangeMaps (open_string shut_string)
theorem cn_bd : ∀ xs ys : List ByteArray, -1 ≤ cn xs ys ∧ cn xs ys ≤ 1
  | [], [] => by simp [cn]
  | [], _ :: _ => by simp [cn]
  | _ :: _, [] => by simp [cn]
  | x :: xs, y :: ys => by
    rw [cn]
    split
    · exact cn_bd xs ys
    · unfold sc; split
      · omega
      · split <;> omega
namespace fnNames
set_option maxRecDepth 100000 in
set_option maxHeartbeats 8000000 in
theorem walk (w : World) (v0 : Value) (n0 : Nat) (x0 : List UInt8) (r0 : Rd w 0 w.heap.size 1 v0 n0 (x0.map bv)) (mx : Mx w) :
    Calls Tryd.prog 6 #[v0] w fun e w' => e = .returned (.bool true) ∧ Below w.heap.size w w' := by
  obtain ⟨b0, c0, rfl, hn0⟩ := r0.form
  by_cases h1 : 1048576 < n0
  · clear mx
    go_enter Tryd.func6, Tryd.ntmps6
    go_wp2_with fail
    refine (big_c r0 (decide_eq_true h1)).mono ?_
    rintro e w1 ⟨_, rfl, rfl, y1⟩
    go_wp2
    go_ret
    exact ⟨rfl, y1⟩
  · skip
    go_enter Tryd.func6, Tryd.ntmps6
    have X := ext_refl w
    go_wp2_with fail
    refine (big_c r0 (decide_eq_false h1)).mono ?_
    rintro e W1 ⟨_, rfl, rfl, y1⟩
    have q1 := y1.size
    replace X := ext_trans X y1
    replace r0 := r0.ext y1
    replace mx := mx.ext y1
    clear y1
    go_wp2_with fail
    refine (DrawFormatName_c r0 (by omega) (by omega)).mono ?_
    rintro e W2 ⟨_, rfl, ⟨xs, o1, hsm⟩, y2⟩
    have q2 := y2.size
    replace X := ext_trans X y2
    replace r0 := r0.ext y2
    replace mx := mx.ext y2
    clear y2
    have hxl := hsm.1
    have hwx := wt_small hsm
    have hxs := hid (fun t (ht : t ∈ xs) => (show t.size ≤ 9223372036854775807 by have := hsm.2 t ht; omega))
    obtain ⟨z3, rfl, g3⟩ := id o1
    obtain ⟨a3', c3', rfl, _⟩ := g3.rd.form
    clear g3
    have y3 := ext_alloc (ext_refl W2) (.cells #[.slice a3' (xs.length) c3'] 30)
    have q3 := y3.size
    have p3 : W2.heap.size + 1 = (W2.alloc (.cells #[.slice a3' (xs.length) c3'] 30)).heap.size := by simp
    have k3 : (W2.alloc (.cells #[.slice a3' (xs.length) c3'] 30)).cell? ⟨W2.heap.size, 0, none⟩ = some (.slice a3' (xs.length) c3') := by simp
    replace X := ext_trans X y3
    replace r0 := r0.ext y3
    replace mx := mx.ext y3
    replace o1 := o1.ext y3
    clear y3
    go_wp2_with fail
    generalize W2.alloc (.cells #[.slice a3' (xs.length) c3'] 30) = W3 at *
    go_wp2_with fail
    refine (DrawParseName_c r0 (by omega) (by omega)).mono ?_
    rintro e W4 ⟨_, rfl, ⟨s, rfl, hs⟩, y4⟩
    have q4 := y4.size
    replace X := ext_trans X y4
    replace r0 := r0.ext y4
    replace mx := mx.ext y4
    replace o1 := o1.ext y4
    replace k3 := cell_ext k3 y4
    clear y4
    obtain ⟨t, ht⟩ : ∃ t, fmt xs = t := ⟨_, rfl⟩
    have hts := fmt_small hsm
    have hpf := fun h => pn_fmt (n := xs) h
    rw [ht] at hts hpf
    obtain ⟨xp, ok, hR⟩ : ∃ X ok, pnm vn t = (X, ok) := ⟨_, _, rfl⟩
    rw [hR] at hpf
    obtain ⟨yp, is, hQ⟩ : ∃ X ok, pnm vn s = (X, ok) := ⟨_, _, rfl⟩
    have hpb := pn_back (V := vn) (by decide) (s := s)
    have hwy := pnm_len vn s
    rw [hQ] at hpb hwy
    simp only at hpb hwy
    have HT := hid ht
    have HR := hid hR
    have HQ := hid hQ
    have HPF : Hid (vn xs = true → xp = xs ∧ ok = true) := fun h => by have e := hpf h; injection e with e1 e2; exact ⟨e1, e2⟩
    have HPB := hid hpb
    clear ht hR hQ hpf hpb
    go_wp2_with fail
    have C := implFormatName_c o1 (by omega)
    rw [HT.out] at C
    refine C.mono ?_
    clear C
    rintro e W5 ⟨_, rfl, rfl, y5⟩
    have q5 := y5.size
    replace X := ext_trans X y5
    replace r0 := r0.ext y5
    replace mx := mx.ext y5
    replace o1 := o1.ext y5
    replace k3 := cell_ext k3 y5
    clear y5
    go_wp2_with fail
    have C := implParseName_c (s := t) (by omega) mx
    rw [HR.out] at C
    refine C.mono ?_
    clear C
    rintro e W6 ⟨_, rfl, ⟨u2, rfl, o2⟩, y6⟩
    have q6 := y6.size
    replace X := ext_trans X y6
    replace r0 := r0.ext y6
    replace mx := mx.ext y6
    replace o1 := o1.ext y6
    replace k3 := cell_ext k3 y6
    clear y6
    simp only at o2
    obtain ⟨z7, rfl, g7⟩ := id o2
    obtain ⟨a7', c7', rfl, _⟩ := g7.rd.form
    clear g7
    have y7 := ext_alloc (ext_refl W6) (.cells #[.slice a7' (xp.length) c7'] 30)
    have q7 := y7.size
    have p7 : W6.heap.size + 1 = (W6.alloc (.cells #[.slice a7' (xp.length) c7'] 30)).heap.size := by simp
    have k5 : (W6.alloc (.cells #[.slice a7' (xp.length) c7'] 30)).cell? ⟨W6.heap.size, 0, none⟩ = some (.slice a7' (xp.length) c7') := by simp
    replace X := ext_trans X y7
    replace r0 := r0.ext y7
    replace mx := mx.ext y7
    replace o1 := o1.ext y7
    replace k3 := cell_ext k3 y7
    replace o2 := o2.ext y7
    clear y7
    go_wp2_with fail
    generalize W6.alloc (.cells #[.slice a7' (xp.length) c7'] 30) = W7 at *
    go_wp2_with fail
    have C := implParseName_c (s := s) (by omega) mx
    rw [HQ.out] at C
    refine C.mono ?_
    clear C
    rintro e W8 ⟨_, rfl, ⟨u3, rfl, o3⟩, y8⟩
    have q8 := y8.size
    replace X := ext_trans X y8
    replace r0 := r0.ext y8
    replace mx := mx.ext y8
    replace o1 := o1.ext y8
    replace k3 := cell_ext k3 y8
    replace o2 := o2.ext y8
    replace k5 := cell_ext k5 y8
    clear y8
    simp only at o3
    obtain ⟨z9, rfl, g9⟩ := id o3
    obtain ⟨a9', c9', rfl, _⟩ := g9.rd.form
    clear g9
    have y9 := ext_alloc (ext_refl W8) (.cells #[.slice a9' (yp.length) c9'] 30)
    have q9 := y9.size
    have p9 : W8.heap.size + 1 = (W8.alloc (.cells #[.slice a9' (yp.length) c9'] 30)).heap.size := by simp
    have k7 : (W8.alloc (.cells #[.slice a9' (yp.length) c9'] 30)).cell? ⟨W8.heap.size, 0, none⟩ = some (.slice a9' (yp.length) c9') := by simp
    replace X := ext_trans X y9
    replace r0 := r0.ext y9
    replace mx := mx.ext y9
    replace o1 := o1.ext y9
    replace k3 := cell_ext k3 y9
    replace o2 := o2.ext y9
    replace k5 := cell_ext k5 y9
    replace o3 := o3.ext y9
    clear y9
    go_wp2_with fail
    generalize W8.alloc (.cells #[.slice a9' (yp.length) c9'] 30) = W9 at *
    go_wp2_with fail
    have C := specParseName_c (w := W9) (s := s) (by omega)
    rw [HQ.out] at C
    refine C.mono ?_
    clear C
    rintro e W10 ⟨_, rfl, ⟨u4, rfl, o4⟩, y10⟩
    have q10 := y10.size
    replace X := ext_trans X y10
    replace r0 := r0.ext y10
    replace mx := mx.ext y10
    replace o1 := o1.ext y10
    replace k3 := cell_ext k3 y10
    replace o2 := o2.ext y10
    replace k5 := cell_ext k5 y10
    replace o3 := o3.ext y10
    replace k7 := cell_ext k7 y10
    clear y10
    simp only at o4
    obtain ⟨z11, rfl, g11⟩ := id o4
    obtain ⟨a11', c11', rfl, _⟩ := g11.rd.form
    clear g11
    have y11 := ext_alloc (ext_refl W10) (.cells #[.slice a11' (yp.length) c11'] 30)
    have q11 := y11.size
    have p11 : W10.heap.size + 1 = (W10.alloc (.cells #[.slice a11' (yp.length) c11'] 30)).heap.size := by simp
    have k9 : (W10.alloc (.cells #[.slice a11' (yp.length) c11'] 30)).cell? ⟨W10.heap.size, 0, none⟩ = some (.slice a11' (yp.length) c11') := by simp
    replace X := ext_trans X y11
    replace r0 := r0.ext y11
    replace mx := mx.ext y11
    replace o1 := o1.ext y11
    replace k3 := cell_ext k3 y11
    replace o2 := o2.ext y11
    replace k5 := cell_ext k5 y11
    replace o3 := o3.ext y11
    replace k7 := cell_ext k7 y11
    replace o4 := o4.ext y11
    clear y11
    go_wp2_with fail
    generalize W10.alloc (.cells #[.slice a11' (yp.length) c11'] 30) = W11 at *
    go_wp2_with fail
    refine (DrawCompareNames_c r0 (by omega) (by omega)).mono ?_
    rintro e W12 ⟨_, rfl, ⟨u5, u6, za, zb, rfl, o5, o6, hsa, hsb⟩, y12⟩
    have q12 := y12.size
    replace X := ext_trans X y12
    replace r0 := r0.ext y12
    replace mx := mx.ext y12
    replace o1 := o1.ext y12
    replace k3 := cell_ext k3 y12
    replace o2 := o2.ext y12
    replace k5 := cell_ext k5 y12
    replace o3 := o3.ext y12
    replace k7 := cell_ext k7 y12
    replace o4 := o4.ext y12
    replace k9 := cell_ext k9 y12
    clear y12
    have hal := hsa.1
    have hbl := hsb.1
    obtain ⟨z13_0, rfl, g13_0⟩ := id o5
    obtain ⟨a13_0, c13_0, rfl, _⟩ := g13_0.rd.form
    clear g13_0
    obtain ⟨z13_1, rfl, g13_1⟩ := id o6
    obtain ⟨a13_1, c13_1, rfl, _⟩ := g13_1.rd.form
    clear g13_1
    have y13 := ext_alloc (ext_alloc (ext_refl W12) (.cells #[.slice a13_0 (za.length) c13_0] 30)) (.cells #[.slice a13_1 (zb.length) c13_1] 30)
    have q13 := y13.size
    have p13 : W12.heap.size + 2 = ((W12.alloc (.cells #[.slice a13_0 (za.length) c13_0] 30)).alloc (.cells #[.slice a13_1 (zb.length) c13_1] 30)).heap.size := by simp
    have k11 : ((W12.alloc (.cells #[.slice a13_0 (za.length) c13_0] 30)).alloc (.cells #[.slice a13_1 (zb.length) c13_1] 30)).cell? ⟨W12.heap.size, 0, none⟩ = some (.slice a13_0 (za.length) c13_0) := by simp
    have k12 : ((W12.alloc (.cells #[.slice a13_0 (za.length) c13_0] 30)).alloc (.cells #[.slice a13_1 (zb.length) c13_1] 30)).cell? ⟨W12.heap.size + 1, 0, none⟩ = some (.slice a13_1 (zb.length) c13_1) := by simp
    replace X := ext_trans X y13
    replace r0 := r0.ext y13
    replace mx := mx.ext y13
    replace o1 := o1.ext y13
    replace k3 := cell_ext k3 y13
    replace o2 := o2.ext y13
    replace k5 := cell_ext k5 y13
    replace o3 := o3.ext y13
    replace k7 := cell_ext k7 y13
    replace o4 := o4.ext y13
    replace k9 := cell_ext k9 y13
    replace o5 := o5.ext y13
    replace o6 := o6.ext y13
    clear y13
    go_wp2_with fail
    generalize (W12.alloc (.cells #[.slice a13_0 (za.length) c13_0] 30)).alloc (.cells #[.slice a13_1 (zb.length) c13_1] 30) = W13 at *
    go_wp2_with fail
    refine (DrawTruncate_c r0 (by omega) (by omega)).mono ?_
    rintro e W14 ⟨_, rfl, ⟨u7, zp, kk, rfl, o7, hsp, hk⟩, y14⟩
    have q14 := y14.size
    replace X := ext_trans X y14
    replace r0 := r0.ext y14
    replace mx := mx.ext y14
    replace o1 := o1.ext y14
    replace k3 := cell_ext k3 y14
    replace o2 := o2.ext y14
    replace k5 := cell_ext k5 y14
    replace o3 := o3.ext y14
    replace k7 := cell_ext k7 y14
    replace o4 := o4.ext y14
    replace k9 := cell_ext k9 y14
    replace o5 := o5.ext y14
    replace o6 := o6.ext y14
    replace k11 := cell_ext k11 y14
    replace k12 := cell_ext k12 y14
    clear y14
    have hpl := hsp.1
    obtain ⟨z15, rfl, g15⟩ := id o7
    obtain ⟨a15', c15', rfl, _⟩ := g15.rd.form
    clear g15
    have y15 := ext_alloc (ext_refl W14) (.cells #[.slice a15' (zp.length) c15'] 30)
    have q15 := y15.size
    have p15 : W14.heap.size + 1 = (W14.alloc (.cells #[.slice a15' (zp.length) c15'] 30)).heap.size := by simp
    have k13 : (W14.alloc (.cells #[.slice a15' (zp.length) c15'] 30)).cell? ⟨W14.heap.size, 0, none⟩ = some (.slice a15' (zp.length) c15') := by simp
    replace X := ext_trans X y15
    replace r0 := r0.ext y15
    replace mx := mx.ext y15
    replace o1 := o1.ext y15
    replace k3 := cell_ext k3 y15
    replace o2 := o2.ext y15
    replace k5 := cell_ext k5 y15
    replace o3 := o3.ext y15
    replace k7 := cell_ext k7 y15
    replace o4 := o4.ext y15
    replace k9 := cell_ext k9 y15
    replace o5 := o5.ext y15
    replace o6 := o6.ext y15
    replace k11 := cell_ext k11 y15
    replace k12 := cell_ext k12 y15
    replace o7 := o7.ext y15
    clear y15
    go_wp2_with fail
    generalize W14.alloc (.cells #[.slice a15' (zp.length) c15'] 30) = W15 at *
    go_wp2_with fail
    refine (DrawValidPart_c r0 (by omega) (by omega)).mono ?_
    rintro e W16 ⟨_, rfl, ⟨c, rfl, hcs⟩, y16⟩
    have q16 := y16.size
    replace X := ext_trans X y16
    replace r0 := r0.ext y16
    replace mx := mx.ext y16
    replace o1 := o1.ext y16
    replace k3 := cell_ext k3 y16
    replace o2 := o2.ext y16
    replace k5 := cell_ext k5 y16
    replace o3 := o3.ext y16
    replace k7 := cell_ext k7 y16
    replace o4 := o4.ext y16
    replace k9 := cell_ext k9 y16
    replace o5 := o5.ext y16
    replace o6 := o6.ext y16
    replace k11 := cell_ext k11 y16
    replace k12 := cell_ext k12 y16
    replace o7 := o7.ext y16
    replace k13 := cell_ext k13 y16
    clear y16
    obtain ⟨K, hK⟩ : ∃ K, cn za zb = K := ⟨_, rfl⟩
    obtain ⟨q, hq⟩ : ∃ q, decide (za = zb) = q := ⟨_, rfl⟩
    have hbd := cn_bd za zb
    have han := cn_anti zb za
    have hz := cn_zero za zb
    have hle := fun h => hp_cn (a := za) (b := zb) h
    rw [hK] at hbd han hz
    rw [han] at hle
    have hKq : (K == 0) = q := by rw [← hq]; by_cases e : K = 0 <;> simp [e, ← hz]
    have hwK : IntKind.i64.wrap K = K := by rw [IntKind.wrap_i64]; omega
    have HK := hid hK
    have HQ2 := hid hq
    have HN := hid han
    have HLE := hid hle
    obtain ⟨hk1, hk2⟩ := hbd
    obtain ⟨vx, hvx⟩ : ∃ b, vn xs = b := ⟨_, rfl⟩
    obtain ⟨pf, hpf⟩ : ∃ b, hp za zb = b := ⟨_, rfl⟩
    have HVX := hid hvx
    have HPFX := hid hpf
    have hks := hid (show c.size ≤ 9223372036854775807 by omega)
    obtain ⟨tk, htk⟩ : ∃ m, trn kk zp.length = m := ⟨_, rfl⟩
    have htl := trn_le kk zp.length
    have hpt := hp_take zp tk
    rw [htk] at htl
    obtain ⟨zt, hzt⟩ : ∃ m, zp.take tk = m := ⟨_, rfl⟩
    rw [hzt] at hpt
    have HTK := hid htk
    have HZT := hid hzt
    have HPT := hid hpt
    clear hK hq han hle hz hvx hpf htk hzt hpt hcs
    have eT : (t.toList == t.toList) = true := by simp
    go_wp2_with fail
    have y16 := Below.drew (ext_refl W16)
    have qd16 := y16.size
    replace X := ext_trans X y16
    replace r0 := r0.ext y16
    replace mx := mx.ext y16
    replace o1 := o1.ext y16
    replace k3 := cell_ext k3 y16
    replace o2 := o2.ext y16
    replace k5 := cell_ext k5 y16
    replace o3 := o3.ext y16
    replace k7 := cell_ext k7 y16
    replace o4 := o4.ext y16
    replace k9 := cell_ext k9 y16
    replace o5 := o5.ext y16
    replace o6 := o6.ext y16
    replace k11 := cell_ext k11 y16
    replace k12 := cell_ext k12 y16
    replace o7 := o7.ext y16
    replace k13 := cell_ext k13 y16
    clear y16
    try simp only [List.append_eq, List.cons_append, List.nil_append]
    refine wp_region_held_drew (S := fun w' => w'.cell? ⟨W2.heap.size, 0, none⟩ = some (.slice a3' (xs.length) c3') ∧ w'.cell? ⟨W8.heap.size, 0, none⟩ = some (.slice a9' (yp.length) c9') ∧ w'.cell? ⟨W10.heap.size, 0, none⟩ = some (.slice a11' (yp.length) c11') ∧ w'.cell? ⟨W12.heap.size, 0, none⟩ = some (.slice a13_0 (za.length) c13_0) ∧ w'.cell? ⟨W12.heap.size + 1, 0, none⟩ = some (.slice a13_1 (zb.length) c13_1) ∧ w'.cell? ⟨W14.heap.size, 0, none⟩ = some (.slice a15' (zp.length) c15')) (by kernel_rfl) (by exact ⟨k3, k7, k9, k11, k12, k13⟩) (fun hHeld => ?_)
    refine wpAnyH_take (i := 0) (v := ?v1) rfl (by kernel_rfl) (by kernel_rfl) (by kernel_rfl) (fun _ _ _ h => h) (Or.inl ⟨by kernel_rfl, ?hy1⟩) hHeld ?rest1
    case hy1 =>
      intro w hSw
      (try dsimp only at hSw)
      go_simp
      try with_reducible rfl
    simp only [Act.put, List.getElem_toArray, List.getElem_cons_zero, List.setIfInBounds_toArray, List.set_cons_zero, List.set_cons_succ]
    refine wpAnyH_take (i := 2) (v := ?v2) rfl (by kernel_rfl) (by kernel_rfl) (by kernel_rfl) (fun _ _ _ h => h) (Or.inl ⟨by kernel_rfl, ?hy2⟩) hHeld ?rest2
    case hy2 =>
      intro w hSw
      (try dsimp only at hSw)
      go_simp
      try with_reducible rfl
    simp only [Act.put, List.getElem_toArray, List.getElem_cons_succ, List.getElem_cons_zero, List.setIfInBounds_toArray, List.set_cons_zero, List.set_cons_succ]
    refine wpAnyH_ready (rs := [1]) (by kernel_rfl) (by simp) ?_
    refine AllReadyH.cons rfl (fun K hK => ?_) AllReadyH.nil
    go_simp
    go_at_call 40
    have C := implFormatName_c o1 (by omega)
    rw [HT.out] at C
    refine C.mono ?_
    clear C
    rintro e W17 ⟨_, rfl, rfl, y17⟩
    have q17 := y17.size
    replace X := ext_trans X y17
    replace r0 := r0.ext y17
    replace mx := mx.ext y17
    replace o1 := o1.ext y17
    replace k3 := cell_ext k3 y17
    replace o2 := o2.ext y17
    replace k5 := cell_ext k5 y17
    replace o3 := o3.ext y17
    replace k7 := cell_ext k7 y17
    replace o4 := o4.ext y17
    replace k9 := cell_ext k9 y17
    replace o5 := o5.ext y17
    replace o6 := o6.ext y17
    replace k11 := cell_ext k11 y17
    replace k12 := cell_ext k12 y17
    replace o7 := o7.ext y17
    replace k13 := cell_ext k13 y17
    clear y17
    refine hK.out _ _ (by exact ⟨k3, k7, k9, k11, k12, k13⟩) (fun hHeld => ?_)
    clear hK K
    refine wpAnyH_ready (rs := [3]) (by kernel_rfl) (by simp) ?_
    refine AllReadyH.cons rfl (fun K hK => ?_) AllReadyH.nil
    go_simp
    go_at_call 44
    have C := specFormatName_c o1 (by omega)
    rw [HT.out] at C
    refine C.mono ?_
    clear C
    rintro e W18 ⟨_, rfl, rfl, y18⟩
    have q18 := y18.size
    replace X := ext_trans X y18
    replace r0 := r0.ext y18
    replace mx := mx.ext y18
    replace o1 := o1.ext y18
    replace k3 := cell_ext k3 y18
    replace o2 := o2.ext y18
    replace k5 := cell_ext k5 y18
    replace o3 := o3.ext y18
    replace k7 := cell_ext k7 y18
    replace o4 := o4.ext y18
    replace k9 := cell_ext k9 y18
    replace o5 := o5.ext y18
    replace o6 := o6.ext y18
    replace k11 := cell_ext k11 y18
    replace k12 := cell_ext k12 y18
    replace o7 := o7.ext y18
    replace k13 := cell_ext k13 y18
    clear y18
    refine hK.out _ _ (by exact ⟨k3, k7, k9, k11, k12, k13⟩) (fun hHeld => ?_)
    clear hK K
    refine wpAnyH_take (i := 4) (v := ?v3) rfl (by kernel_rfl) (by kernel_rfl) (by kernel_rfl) (fun _ _ _ h => h) (Or.inl ⟨by kernel_rfl, ?hy3⟩) hHeld ?rest3
    case hy3 =>
      intro w hSw
      (try dsimp only at hSw)
      go_simp
      try with_reducible rfl
    simp only [Act.put, List.getElem_toArray, List.getElem_cons_succ, List.getElem_cons_zero, List.setIfInBounds_toArray, List.set_cons_zero, List.set_cons_succ]
    refine wpAnyH_take (i := 5) (v := ?v4) rfl (by kernel_rfl) (by kernel_rfl) (by kernel_rfl) (fun _ _ _ h => h) (Or.inl ⟨by kernel_rfl, ?hy4⟩) hHeld ?rest4
    case hy4 =>
      intro w hSw
      (try dsimp only at hSw)
      go_simp
      try with_reducible rfl
    simp only [Act.put, List.getElem_toArray, List.getElem_cons_succ, List.getElem_cons_zero, List.setIfInBounds_toArray, List.set_cons_zero, List.set_cons_succ]
    refine wpAnyH_take (i := 6) (v := ?v5) rfl (by kernel_rfl) (by kernel_rfl) (by kernel_rfl) (fun _ _ _ h => h) (Or.inl ⟨by kernel_rfl, ?hy5⟩) hHeld ?rest5
    case hy5 =>
      intro w hSw
      (try dsimp only at hSw)
      go_simp
      try with_reducible rfl
    simp only [Act.put, List.getElem_toArray, List.getElem_cons_succ, List.getElem_cons_zero, List.setIfInBounds_toArray, List.set_cons_zero, List.set_cons_succ]
    refine wpAnyH_take (i := 7) (v := ?v6) rfl (by kernel_rfl) (by kernel_rfl) (by kernel_rfl) (fun _ _ _ h => h) (Or.inl ⟨by kernel_rfl, ?hy6⟩) hHeld ?rest6
    case hy6 =>
      intro w hSw
      (try dsimp only at hSw)
      go_simp
      try with_reducible rfl
    simp only [Act.put, List.getElem_toArray, List.getElem_cons_succ, List.getElem_cons_zero, List.setIfInBounds_toArray, List.set_cons_zero, List.set_cons_succ]
    refine wpAnyH_ready (rs := [8]) (by kernel_rfl) (by simp) ?_
    refine AllReadyH.cons rfl (fun K hK => ?_) AllReadyH.nil
    rw [if_pos (by kernel_rfl)]
    go_simp
    go_at_call 31
    have C := sameName_c o3.rd o4
    rw [decide_eq_true rfl] at C
    refine C.mono ?_
    clear C
    rintro e W19 ⟨_, rfl, rfl, y19⟩
    have q19 := y19.size
    replace X := ext_trans X y19
    replace r0 := r0.ext y19
    replace mx := mx.ext y19
    replace o1 := o1.ext y19
    replace k3 := cell_ext k3 y19
    replace o2 := o2.ext y19
    replace k5 := cell_ext k5 y19
    replace o3 := o3.ext y19
    replace k7 := cell_ext k7 y19
    replace o4 := o4.ext y19
    replace k9 := cell_ext k9 y19
    replace o5 := o5.ext y19
    replace o6 := o6.ext y19
    replace k11 := cell_ext k11 y19
    replace k12 := cell_ext k12 y19
    replace o7 := o7.ext y19
    replace k13 := cell_ext k13 y19
    clear y19
    refine hK.out _ _ (by exact ⟨k3, k7, k9, k11, k12, k13⟩) (fun hHeld => ?_)
    clear hK K
    refine wpAnyH_take (i := 9) (v := ?v7) rfl (by kernel_rfl) (by kernel_rfl) (by kernel_rfl) (fun _ _ _ h => h) (Or.inl ⟨by kernel_rfl, ?hy7⟩) hHeld ?rest7
    case hy7 =>
      intro w hSw
      (try dsimp only at hSw)
      go_simp
      try with_reducible rfl
    simp only [Act.put, List.getElem_toArray, List.getElem_cons_succ, List.getElem_cons_zero, List.setIfInBounds_toArray, List.set_cons_zero, List.set_cons_succ]
    refine wpAnyH_take (i := 10) (v := ?v8) rfl (by kernel_rfl) (by kernel_rfl) (by kernel_rfl) (fun _ _ _ h => h) (Or.inl ⟨by kernel_rfl, ?hy8⟩) hHeld ?rest8
    case hy8 =>
      intro w hSw
      (try dsimp only at hSw)
      go_simp
      try with_reducible rfl
    simp only [Act.put, List.getElem_toArray, List.getElem_cons_succ, List.getElem_cons_zero, List.setIfInBounds_toArray, List.set_cons_zero, List.set_cons_succ]
    refine wpAnyH_take (i := 11) (v := ?v9) rfl (by kernel_rfl) (by kernel_rfl) (by kernel_rfl) (fun _ _ _ h => h) (Or.inl ⟨by kernel_rfl, ?hy9⟩) hHeld ?rest9
    case hy9 =>
      intro w hSw
      (try dsimp only at hSw)
      go_simp
      try with_reducible rfl
    simp only [Act.put, List.getElem_toArray, List.getElem_cons_succ, List.getElem_cons_zero, List.setIfInBounds_toArray, List.set_cons_zero, List.set_cons_succ]
    refine wpAnyH_take (i := 12) (v := ?v10) rfl (by kernel_rfl) (by kernel_rfl) (by kernel_rfl) (fun _ _ _ h => h) (Or.inl ⟨by kernel_rfl, ?hy10⟩) hHeld ?rest10
    case hy10 =>
      intro w hSw
      (try dsimp only at hSw)
      go_simp
      try with_reducible rfl
    simp only [Act.put, List.getElem_toArray, List.getElem_cons_succ, List.getElem_cons_zero, List.setIfInBounds_toArray, List.set_cons_zero, List.set_cons_succ]
    refine wpAnyH_take (i := 13) (v := ?v11) rfl (by kernel_rfl) (by kernel_rfl) (by kernel_rfl) (fun _ _ _ h => h) (Or.inl ⟨by kernel_rfl, ?hy11⟩) hHeld ?rest11
    case hy11 =>
      intro w hSw
      (try dsimp only at hSw)
      go_simp
      try with_reducible rfl
    simp only [Act.put, List.getElem_toArray, List.getElem_cons_succ, List.getElem_cons_zero, List.setIfInBounds_toArray, List.set_cons_zero, List.set_cons_succ]
    refine wpAnyH_take (i := 14) (v := ?v12) rfl (by kernel_rfl) (by kernel_rfl) (by kernel_rfl) (fun _ _ _ h => h) (Or.inl ⟨by kernel_rfl, ?hy12⟩) hHeld ?rest12
    case hy12 =>
      intro w hSw
      (try dsimp only at hSw)
      go_simp
      try with_reducible rfl
    simp only [Act.put, List.getElem_toArray, List.getElem_cons_succ, List.getElem_cons_zero, List.setIfInBounds_toArray, List.set_cons_zero, List.set_cons_succ]
    refine wpAnyH_take (i := 15) (v := ?v13) rfl (by kernel_rfl) (by kernel_rfl) (by kernel_rfl) (fun _ _ _ h => h) (Or.inl ⟨by kernel_rfl, ?hy13⟩) hHeld ?rest13
    case hy13 =>
      intro w hSw
      (try dsimp only at hSw)
      go_simp
      try with_reducible rfl
    simp only [Act.put, List.getElem_toArray, List.getElem_cons_succ, List.getElem_cons_zero, List.setIfInBounds_toArray, List.set_cons_zero, List.set_cons_succ]
    refine wpAnyH_take (i := 16) (v := ?v14) rfl (by kernel_rfl) (by kernel_rfl) (by kernel_rfl) (fun _ _ _ h => h) (Or.inl ⟨by kernel_rfl, ?hy14⟩) hHeld ?rest14
    case hy14 =>
      intro w hSw
      (try dsimp only at hSw)
      go_simp
      try with_reducible rfl
    simp only [Act.put, List.getElem_toArray, List.getElem_cons_succ, List.getElem_cons_zero, List.setIfInBounds_toArray, List.set_cons_zero, List.set_cons_succ]
    refine wpAnyH_take (i := 17) (v := ?v15) rfl (by kernel_rfl) (by kernel_rfl) (by kernel_rfl) (fun _ _ _ h => h) (Or.inl ⟨by kernel_rfl, ?hy15⟩) hHeld ?rest15
    case hy15 =>
      intro w hSw
      (try dsimp only at hSw)
      go_simp
      try with_reducible rfl
    simp only [Act.put, List.getElem_toArray, List.getElem_cons_succ, List.getElem_cons_zero, List.setIfInBounds_toArray, List.set_cons_zero, List.set_cons_succ]
    refine wpAnyH_take (i := 18) (v := ?v16) rfl (by kernel_rfl) (by kernel_rfl) (by kernel_rfl) (fun _ _ _ h => h) (Or.inl ⟨by kernel_rfl, ?hy16⟩) hHeld ?rest16
    case hy16 =>
      intro w hSw
      (try dsimp only at hSw)
      go_simp
      try with_reducible rfl
    simp only [Act.put, List.getElem_toArray, List.getElem_cons_succ, List.getElem_cons_zero, List.setIfInBounds_toArray, List.set_cons_zero, List.set_cons_succ]
    refine wpAnyH_take (i := 20) (v := ?v17) rfl (by kernel_rfl) (by kernel_rfl) (by kernel_rfl) (fun _ _ _ h => h) (Or.inl ⟨by kernel_rfl, ?hy17⟩) hHeld ?rest17
    case hy17 =>
      intro w hSw
      (try dsimp only at hSw)
      go_simp
      try with_reducible rfl
    simp only [Act.put, List.getElem_toArray, List.getElem_cons_succ, List.getElem_cons_zero, List.setIfInBounds_toArray, List.set_cons_zero, List.set_cons_succ]
    refine wpAnyH_take (i := 21) (v := ?v18) rfl (by kernel_rfl) (by kernel_rfl) (by kernel_rfl) (fun _ _ _ h => h) (Or.inl ⟨by kernel_rfl, ?hy18⟩) hHeld ?rest18
    case hy18 =>
      intro w hSw
      (try dsimp only at hSw)
      go_simp
      try with_reducible rfl
    simp only [Act.put, List.getElem_toArray, List.getElem_cons_succ, List.getElem_cons_zero, List.setIfInBounds_toArray, List.set_cons_zero, List.set_cons_succ]
    refine wpAnyH_ready (rs := [19]) (by kernel_rfl) (by simp) ?_
    refine AllReadyH.cons rfl (fun K hK => ?_) AllReadyH.nil
    rw [if_pos (by kernel_rfl)]
    go_simp
    go_at_call 45
    have C := implCompareNames_c o5 o6
    rw [HK.out] at C
    refine C.mono ?_
    clear C
    rintro e W20 ⟨_, rfl, rfl, y20⟩
    have q20 := y20.size
    replace X := ext_trans X y20
    replace r0 := r0.ext y20
    replace mx := mx.ext y20
    replace o1 := o1.ext y20
    replace k3 := cell_ext k3 y20
    replace o2 := o2.ext y20
    replace k5 := cell_ext k5 y20
    replace o3 := o3.ext y20
    replace k7 := cell_ext k7 y20
    replace o4 := o4.ext y20
    replace k9 := cell_ext k9 y20
    replace o5 := o5.ext y20
    replace o6 := o6.ext y20
    replace k11 := cell_ext k11 y20
    replace k12 := cell_ext k12 y20
    replace o7 := o7.ext y20
    replace k13 := cell_ext k13 y20
    clear y20
    refine hK.out _ _ (by exact ⟨k3, k7, k9, k11, k12, k13⟩) (fun hHeld => ?_)
    clear hK K
    refine wpAnyH_ready (rs := [22]) (by kernel_rfl) (by simp) ?_
    refine AllReadyH.cons rfl (fun K hK => ?_) AllReadyH.nil
    rw [if_pos (by kernel_rfl)]
    go_simp
    go_at_call 46
    have C := specCompareNames_c o5 o6
    rw [HK.out] at C
    refine C.mono ?_
    clear C
    rintro e W21 ⟨_, rfl, rfl, y21⟩
    have q21 := y21.size
    replace X := ext_trans X y21
    replace r0 := r0.ext y21
    replace mx := mx.ext y21
    replace o1 := o1.ext y21
    replace k3 := cell_ext k3 y21
    replace o2 := o2.ext y21
    replace k5 := cell_ext k5 y21
    replace o3 := o3.ext y21
    replace k7 := cell_ext k7 y21
    replace o4 := o4.ext y21
    replace k9 := cell_ext k9 y21
    replace o5 := o5.ext y21
    replace o6 := o6.ext y21
    replace k11 := cell_ext k11 y21
    replace k12 := cell_ext k12 y21
    replace o7 := o7.ext y21
    replace k13 := cell_ext k13 y21
    clear y21
    refine hK.out _ _ (by exact ⟨k3, k7, k9, k11, k12, k13⟩) (fun hHeld => ?_)
    clear hK K
    refine wpAnyH_take (i := 23) (v := ?v19) rfl (by kernel_rfl) (by kernel_rfl) (by kernel_rfl) (fun _ _ _ h => h) (Or.inl ⟨by kernel_rfl, ?hy19⟩) hHeld ?rest19
    case hy19 =>
      intro w hSw
      (try dsimp only at hSw)
      go_simp
      try with_reducible rfl
    simp only [Act.put, List.getElem_toArray, List.getElem_cons_succ, List.getElem_cons_zero, List.setIfInBounds_toArray, List.set_cons_zero, List.set_cons_succ]
    refine wpAnyH_take (i := 24) (v := ?v20) rfl (by kernel_rfl) (by kernel_rfl) (by kernel_rfl) (fun _ _ _ h => h) (Or.inl ⟨by kernel_rfl, ?hy20⟩) hHeld ?rest20
    case hy20 =>
      intro w hSw
      (try dsimp only at hSw)
      go_simp
      try with_reducible rfl
    simp only [Act.put, List.getElem_toArray, List.getElem_cons_succ, List.getElem_cons_zero, List.setIfInBounds_toArray, List.set_cons_zero, List.set_cons_succ]
    refine wpAnyH_take (i := 25) (v := ?v21) rfl (by kernel_rfl) (by kernel_rfl) (by kernel_rfl) (fun _ _ _ h => h) (Or.inl ⟨by kernel_rfl, ?hy21⟩) hHeld ?rest21
    case hy21 =>
      intro w hSw
      (try dsimp only at hSw)
      go_simp
      try with_reducible rfl
    simp only [Act.put, List.getElem_toArray, List.getElem_cons_succ, List.getElem_cons_zero, List.setIfInBounds_toArray, List.set_cons_zero, List.set_cons_succ]
    refine wpAnyH_take (i := 26) (v := ?v22) rfl (by kernel_rfl) (by kernel_rfl) (by kernel_rfl) (fun _ _ _ h => h) (Or.inl ⟨by kernel_rfl, ?hy22⟩) hHeld ?rest22
    case hy22 =>
      intro w hSw
      (try dsimp only at hSw)
      go_simp
      try with_reducible rfl
    simp only [Act.put, List.getElem_toArray, List.getElem_cons_succ, List.getElem_cons_zero, List.setIfInBounds_toArray, List.set_cons_zero, List.set_cons_succ]
    refine wpAnyH_take (i := 27) (v := ?v23) rfl (by kernel_rfl) (by kernel_rfl) (by kernel_rfl) (fun _ _ _ h => h) (Or.inl ⟨by kernel_rfl, ?hy23⟩) hHeld ?rest23
    case hy23 =>
      intro w hSw
      (try dsimp only at hSw)
      go_simp
      try with_reducible rfl
    simp only [Act.put, List.getElem_toArray, List.getElem_cons_succ, List.getElem_cons_zero, List.setIfInBounds_toArray, List.set_cons_zero, List.set_cons_succ]
    refine wpAnyH_take (i := 29) (v := ?v24) rfl (by kernel_rfl) (by kernel_rfl) (by kernel_rfl) (fun _ _ _ h => h) (Or.inl ⟨by kernel_rfl, ?hy24⟩) hHeld ?rest24
    case hy24 =>
      intro w hSw
      (try dsimp only at hSw)
      go_simp
      try with_reducible rfl
    simp only [Act.put, List.getElem_toArray, List.getElem_cons_succ, List.getElem_cons_zero, List.setIfInBounds_toArray, List.set_cons_zero, List.set_cons_succ]
    refine wpAnyH_take (i := 30) (v := ?v25) rfl (by kernel_rfl) (by kernel_rfl) (by kernel_rfl) (fun _ _ _ h => h) (Or.inl ⟨by kernel_rfl, ?hy25⟩) hHeld ?rest25
    case hy25 =>
      intro w hSw
      (try dsimp only at hSw)
      go_simp
      try with_reducible rfl
    simp only [Act.put, List.getElem_toArray, List.getElem_cons_succ, List.getElem_cons_zero, List.setIfInBounds_toArray, List.set_cons_zero, List.set_cons_succ]
    refine wpAnyH_ready (rs := [28]) (by kernel_rfl) (by simp) ?_
    refine AllReadyH.cons rfl (fun K hK => ?_) AllReadyH.nil
    rw [if_pos (by kernel_rfl)]
    go_simp
    go_at_call 47
    have C := implTruncate_c (k := kk) o7 (by omega)
    rw [HTK.out, HZT.out] at C
    refine C.mono ?_
    clear C
    rintro e W22 ⟨u8, rfl, o8, y22⟩
    have q22 := y22.size
    replace X := ext_trans X y22
    replace r0 := r0.ext y22
    replace mx := mx.ext y22
    replace o1 := o1.ext y22
    replace k3 := cell_ext k3 y22
    replace o2 := o2.ext y22
    replace k5 := cell_ext k5 y22
    replace o3 := o3.ext y22
    replace k7 := cell_ext k7 y22
    replace o4 := o4.ext y22
    replace k9 := cell_ext k9 y22
    replace o5 := o5.ext y22
    replace o6 := o6.ext y22
    replace k11 := cell_ext k11 y22
    replace k12 := cell_ext k12 y22
    replace o7 := o7.ext y22
    replace k13 := cell_ext k13 y22
    clear y22
    refine hK.out _ _ (by exact ⟨k3, k7, k9, k11, k12, k13⟩) (fun hHeld => ?_)
    clear hK K
    refine wpAnyH_ready (rs := [31]) (by kernel_rfl) (by simp) ?_
    refine AllReadyH.cons rfl (fun K hK => ?_) AllReadyH.nil
    rw [if_pos (by kernel_rfl)]
    go_simp
    go_at_call 48
    have C := specTruncate_c (k := kk) o7 (by omega)
    rw [HTK.out, HZT.out] at C
    refine C.mono ?_
    clear C
    rintro e W23 ⟨u9, rfl, o9, y23⟩
    have q23 := y23.size
    replace X := ext_trans X y23
    replace r0 := r0.ext y23
    replace mx := mx.ext y23
    replace o1 := o1.ext y23
    replace k3 := cell_ext k3 y23
    replace o2 := o2.ext y23
    replace k5 := cell_ext k5 y23
    replace o3 := o3.ext y23
    replace k7 := cell_ext k7 y23
    replace o4 := o4.ext y23
    replace k9 := cell_ext k9 y23
    replace o5 := o5.ext y23
    replace o6 := o6.ext y23
    replace k11 := cell_ext k11 y23
    replace k12 := cell_ext k12 y23
    replace o7 := o7.ext y23
    replace k13 := cell_ext k13 y23
    replace o8 := o8.ext y23
    clear y23
    refine hK.out _ _ (by exact ⟨k3, k7, k9, k11, k12, k13⟩) (fun hHeld => ?_)
    clear hK K
    refine wpAnyH_ready (rs := [32]) (by kernel_rfl) (by simp) ?_
    refine AllReadyH.cons rfl (fun K hK => ?_) AllReadyH.nil
    rw [if_pos (by kernel_rfl)]
    go_simp
    go_at_call 31
    have C := sameName_c o8.rd o9.rd
    rw [decide_eq_true rfl] at C
    refine C.mono ?_
    clear C
    rintro e W24 ⟨_, rfl, rfl, y24⟩
    have q24 := y24.size
    replace X := ext_trans X y24
    replace r0 := r0.ext y24
    replace mx := mx.ext y24
    replace o1 := o1.ext y24
    replace k3 := cell_ext k3 y24
    replace o2 := o2.ext y24
    replace k5 := cell_ext k5 y24
    replace o3 := o3.ext y24
    replace k7 := cell_ext k7 y24
    replace o4 := o4.ext y24
    replace k9 := cell_ext k9 y24
    replace o5 := o5.ext y24
    replace o6 := o6.ext y24
    replace k11 := cell_ext k11 y24
    replace k12 := cell_ext k12 y24
    replace o7 := o7.ext y24
    replace k13 := cell_ext k13 y24
    replace o8 := o8.ext y24
    replace o9 := o9.ext y24
    clear y24
    refine hK.out _ _ (by exact ⟨k3, k7, k9, k11, k12, k13⟩) (fun hHeld => ?_)
    clear hK K
    refine wpAnyH_take (i := 33) (v := ?v26) rfl (by kernel_rfl) (by kernel_rfl) (by kernel_rfl) (fun _ _ _ h => h) (Or.inl ⟨by kernel_rfl, ?hy26⟩) hHeld ?rest26
    case hy26 =>
      intro w hSw
      (try dsimp only at hSw)
      go_simp
      try with_reducible rfl
    simp only [Act.put, List.getElem_toArray, List.getElem_cons_succ, List.getElem_cons_zero, List.setIfInBounds_toArray, List.set_cons_zero, List.set_cons_succ]
    refine wpAnyH_take (i := 34) (v := ?v27) rfl (by kernel_rfl) (by kernel_rfl) (by kernel_rfl) (fun _ _ _ h => h) (Or.inl ⟨by kernel_rfl, ?hy27⟩) hHeld ?rest27
    case hy27 =>
      intro w hSw
      (try dsimp only at hSw)
      go_simp
      try with_reducible rfl
    simp only [Act.put, List.getElem_toArray, List.getElem_cons_succ, List.getElem_cons_zero, List.setIfInBounds_toArray, List.set_cons_zero, List.set_cons_succ]
    refine wpAnyH_take (i := 35) (v := ?v28) rfl (by kernel_rfl) (by kernel_rfl) (by kernel_rfl) (fun _ _ _ h => h) (Or.inl ⟨by kernel_rfl, ?hy28⟩) hHeld ?rest28
    case hy28 =>
      intro w hSw
      (try dsimp only at hSw)
      go_simp
      try with_reducible rfl
    simp only [Act.put, List.getElem_toArray, List.getElem_cons_succ, List.getElem_cons_zero, List.setIfInBounds_toArray, List.set_cons_zero, List.set_cons_succ]
    refine wpAnyH_take (i := 36) (v := ?v29) rfl (by kernel_rfl) (by kernel_rfl) (by kernel_rfl) (fun _ _ _ h => h) (Or.inl ⟨by kernel_rfl, ?hy29⟩) hHeld ?rest29
    case hy29 =>
      intro w hSw
      (try dsimp only at hSw)
      go_simp
      try with_reducible rfl
    simp only [Act.put, List.getElem_toArray, List.getElem_cons_succ, List.getElem_cons_zero, List.setIfInBounds_toArray, List.set_cons_zero, List.set_cons_succ]
    refine wpAnyH_take (i := 38) (v := ?v30) rfl (by kernel_rfl) (by kernel_rfl) (by kernel_rfl) (fun _ _ _ h => h) (Or.inl ⟨by kernel_rfl, ?hy30⟩) hHeld ?rest30
    case hy30 =>
      intro w hSw
      (try dsimp only at hSw)
      go_simp
      try with_reducible rfl
    simp only [Act.put, List.getElem_toArray, List.getElem_cons_succ, List.getElem_cons_zero, List.setIfInBounds_toArray, List.set_cons_zero, List.set_cons_succ]
    refine wpAnyH_ready (rs := [37]) (by kernel_rfl) (by simp) ?_
    refine AllReadyH.cons rfl (fun K hK => ?_) AllReadyH.nil
    rw [if_pos (by kernel_rfl)]
    go_simp
    go_at_call 49
    have C := implValidPart_c (w := W24) hks.out
    refine C.mono ?_
    clear C
    rintro e W25 ⟨_, rfl, rfl, y25⟩
    have q25 := y25.size
    replace X := ext_trans X y25
    replace r0 := r0.ext y25
    replace mx := mx.ext y25
    replace o1 := o1.ext y25
    replace k3 := cell_ext k3 y25
    replace o2 := o2.ext y25
    replace k5 := cell_ext k5 y25
    replace o3 := o3.ext y25
    replace k7 := cell_ext k7 y25
    replace o4 := o4.ext y25
    replace k9 := cell_ext k9 y25
    replace o5 := o5.ext y25
    replace o6 := o6.ext y25
    replace k11 := cell_ext k11 y25
    replace k12 := cell_ext k12 y25
    replace o7 := o7.ext y25
    replace k13 := cell_ext k13 y25
    replace o8 := o8.ext y25
    replace o9 := o9.ext y25
    clear y25
    refine hK.out _ _ (by exact ⟨k3, k7, k9, k11, k12, k13⟩) (fun hHeld => ?_)
    clear hK K
    refine wpAnyH_ready (rs := [39]) (by kernel_rfl) (by simp) ?_
    refine AllReadyH.cons rfl (fun K hK => ?_) AllReadyH.nil
    rw [if_pos (by kernel_rfl)]
    go_simp
    go_at_call 50
    have C := specValidPart_c (w := W25) hks.out
    refine C.mono ?_
    clear C
    rintro e W26 ⟨_, rfl, rfl, y26⟩
    have q26 := y26.size
    replace X := ext_trans X y26
    replace r0 := r0.ext y26
    replace mx := mx.ext y26
    replace o1 := o1.ext y26
    replace k3 := cell_ext k3 y26
    replace o2 := o2.ext y26
    replace k5 := cell_ext k5 y26
    replace o3 := o3.ext y26
    replace k7 := cell_ext k7 y26
    replace o4 := o4.ext y26
    replace k9 := cell_ext k9 y26
    replace o5 := o5.ext y26
    replace o6 := o6.ext y26
    replace k11 := cell_ext k11 y26
    replace k12 := cell_ext k12 y26
    replace o7 := o7.ext y26
    replace k13 := cell_ext k13 y26
    replace o8 := o8.ext y26
    replace o9 := o9.ext y26
    clear y26
    refine hK.out _ _ (by exact ⟨k3, k7, k9, k11, k12, k13⟩) (fun hHeld => ?_)
    clear hK K
    refine wpAnyH_take (i := 40) (v := ?v31) rfl (by kernel_rfl) (by kernel_rfl) (by kernel_rfl) (fun _ _ _ h => h) (Or.inl ⟨by kernel_rfl, ?hy31⟩) hHeld ?rest31
    case hy31 =>
      intro w hSw
      (try dsimp only at hSw)
      go_simp
      try with_reducible rfl
    simp only [Act.put, List.getElem_toArray, List.getElem_cons_succ, List.getElem_cons_zero, List.setIfInBounds_toArray, List.set_cons_zero, List.set_cons_succ]
    refine wpAnyH_take (i := 41) (v := ?v32) rfl (by kernel_rfl) (by kernel_rfl) (by kernel_rfl) (fun _ _ _ h => h) (Or.inl ⟨by kernel_rfl, ?hy32⟩) hHeld ?rest32
    case hy32 =>
      intro w hSw
      (try dsimp only at hSw)
      go_simp
      try with_reducible rfl
    simp only [Act.put, List.getElem_toArray, List.getElem_cons_succ, List.getElem_cons_zero, List.setIfInBounds_toArray, List.set_cons_zero, List.set_cons_succ]
    refine wpAnyH_take (i := 42) (v := ?v33) rfl (by kernel_rfl) (by kernel_rfl) (by kernel_rfl) (fun _ _ _ h => h) (Or.inl ⟨by kernel_rfl, ?hy33⟩) hHeld ?rest33
    case hy33 =>
      intro w hSw
      (try dsimp only at hSw)
      go_simp
      try with_reducible rfl
    simp only [Act.put, List.getElem_toArray, List.getElem_cons_succ, List.getElem_cons_zero, List.setIfInBounds_toArray, List.set_cons_zero, List.set_cons_succ]
    refine wpAnyH_take (i := 43) (v := ?v34) rfl (by kernel_rfl) (by kernel_rfl) (by kernel_rfl) (fun _ _ _ h => h) (Or.inl ⟨by kernel_rfl, ?hy34⟩) hHeld ?rest34
    case hy34 =>
      intro w hSw
      (try dsimp only at hSw)
      go_simp
      try with_reducible rfl
    simp only [Act.put, List.getElem_toArray, List.getElem_cons_succ, List.getElem_cons_zero, List.setIfInBounds_toArray, List.set_cons_zero, List.set_cons_succ]
    refine wpAnyH_take (i := 45) (v := ?v35) rfl (by kernel_rfl) (by kernel_rfl) (by kernel_rfl) (fun _ _ _ h => h) (Or.inl ⟨by kernel_rfl, ?hy35⟩) hHeld ?rest35
    case hy35 =>
      intro w hSw
      (try dsimp only at hSw)
      go_simp
      try with_reducible rfl
    simp only [Act.put, List.getElem_toArray, List.getElem_cons_succ, List.getElem_cons_zero, List.setIfInBounds_toArray, List.set_cons_zero, List.set_cons_succ]
    refine wpAnyH_ready (rs := [44]) (by kernel_rfl) (by simp) ?_
    refine AllReadyH.cons rfl (fun K hK => ?_) AllReadyH.nil
    rw [if_pos (by kernel_rfl)]
    go_simp
    go_at_call 51
    have C := implValidName_c o1 hxs.out
    rw [HVX.out] at C
    refine C.mono ?_
    clear C
    rintro e W27 ⟨_, rfl, rfl, y27⟩
    have q27 := y27.size
    replace X := ext_trans X y27
    replace r0 := r0.ext y27
    replace mx := mx.ext y27
    replace o1 := o1.ext y27
    replace k3 := cell_ext k3 y27
    replace o2 := o2.ext y27
    replace k5 := cell_ext k5 y27
    replace o3 := o3.ext y27
    replace k7 := cell_ext k7 y27
    replace o4 := o4.ext y27
    replace k9 := cell_ext k9 y27
    replace o5 := o5.ext y27
    replace o6 := o6.ext y27
    replace k11 := cell_ext k11 y27
    replace k12 := cell_ext k12 y27
    replace o7 := o7.ext y27
    replace k13 := cell_ext k13 y27
    replace o8 := o8.ext y27
    replace o9 := o9.ext y27
    clear y27
    refine hK.out _ _ (by exact ⟨k3, k7, k9, k11, k12, k13⟩) (fun hHeld => ?_)
    clear hK K
    refine wpAnyH_ready (rs := [46]) (by kernel_rfl) (by simp) ?_
    refine AllReadyH.cons rfl (fun K hK => ?_) AllReadyH.nil
    rw [if_pos (by kernel_rfl)]
    go_simp
    go_at_call 52
    have C := specValidName_c o1 hxs.out
    rw [HVX.out] at C
    refine C.mono ?_
    clear C
    rintro e W28 ⟨_, rfl, rfl, y28⟩
    have q28 := y28.size
    replace X := ext_trans X y28
    replace r0 := r0.ext y28
    replace mx := mx.ext y28
    replace o1 := o1.ext y28
    replace k3 := cell_ext k3 y28
    replace o2 := o2.ext y28
    replace k5 := cell_ext k5 y28
    replace o3 := o3.ext y28
    replace k7 := cell_ext k7 y28
    replace o4 := o4.ext y28
    replace k9 := cell_ext k9 y28
    replace o5 := o5.ext y28
    replace o6 := o6.ext y28
    replace k11 := cell_ext k11 y28
    replace k12 := cell_ext k12 y28
    replace o7 := o7.ext y28
    replace k13 := cell_ext k13 y28
    replace o8 := o8.ext y28
    replace o9 := o9.ext y28
    clear y28
    refine hK.out _ _ (by exact ⟨k3, k7, k9, k11, k12, k13⟩) (fun hHeld => ?_)
    clear hK K
    refine wpAnyH_take (i := 47) (v := ?v36) rfl (by kernel_rfl) (by kernel_rfl) (by kernel_rfl) (fun _ _ _ h => h) (Or.inl ⟨by kernel_rfl, ?hy36⟩) hHeld ?rest36
    case hy36 =>
      intro w hSw
      (try dsimp only at hSw)
      go_simp
      try with_reducible rfl
    simp only [Act.put, List.getElem_toArray, List.getElem_cons_succ, List.getElem_cons_zero, List.setIfInBounds_toArray, List.set_cons_zero, List.set_cons_succ]
    refine wpAnyH_take (i := 48) (v := ?v37) rfl (by kernel_rfl) (by kernel_rfl) (by kernel_rfl) (fun _ _ _ h => h) (Or.inl ⟨by kernel_rfl, ?hy37⟩) hHeld ?rest37
    case hy37 =>
      intro w hSw
      (try dsimp only at hSw)
      go_simp
      try with_reducible rfl
    simp only [Act.put, List.getElem_toArray, List.getElem_cons_succ, List.getElem_cons_zero, List.setIfInBounds_toArray, List.set_cons_zero, List.set_cons_succ]
    refine wpAnyH_take (i := 49) (v := ?v38) rfl (by kernel_rfl) (by kernel_rfl) (by kernel_rfl) (fun _ _ _ h => h) (Or.inl ⟨by kernel_rfl, ?hy38⟩) hHeld ?rest38
    case hy38 =>
      intro w hSw
      (try dsimp only at hSw)
      go_simp
      try with_reducible rfl
    simp only [Act.put, List.getElem_toArray, List.getElem_cons_succ, List.getElem_cons_zero, List.setIfInBounds_toArray, List.set_cons_zero, List.set_cons_succ]
    refine wpAnyH_take (i := 50) (v := ?v39) rfl (by kernel_rfl) (by kernel_rfl) (by kernel_rfl) (fun _ _ _ h => h) (Or.inl ⟨by kernel_rfl, ?hy39⟩) hHeld ?rest39
    case hy39 =>
      intro w hSw
      (try dsimp only at hSw)
      go_simp
      try with_reducible rfl
    simp only [Act.put, List.getElem_toArray, List.getElem_cons_succ, List.getElem_cons_zero, List.setIfInBounds_toArray, List.set_cons_zero, List.set_cons_succ]
    refine wpAnyH_take (i := 51) (v := ?v40) rfl (by kernel_rfl) (by kernel_rfl) (by kernel_rfl) (fun _ _ _ h => h) (Or.inl ⟨by kernel_rfl, ?hy40⟩) hHeld ?rest40
    case hy40 =>
      intro w hSw
      (try dsimp only at hSw)
      go_simp
      try with_reducible rfl
    simp only [Act.put, List.getElem_toArray, List.getElem_cons_succ, List.getElem_cons_zero, List.setIfInBounds_toArray, List.set_cons_zero, List.set_cons_succ]
    refine wpAnyH_take (i := 53) (v := ?v41) rfl (by kernel_rfl) (by kernel_rfl) (by kernel_rfl) (fun _ _ _ h => h) (Or.inl ⟨by kernel_rfl, ?hy41⟩) hHeld ?rest41
    case hy41 =>
      intro w hSw
      (try dsimp only at hSw)
      go_simp
      try with_reducible rfl
    simp only [Act.put, List.getElem_toArray, List.getElem_cons_succ, List.getElem_cons_zero, List.setIfInBounds_toArray, List.set_cons_zero, List.set_cons_succ]
    refine wpAnyH_take (i := 54) (v := ?v42) rfl (by kernel_rfl) (by kernel_rfl) (by kernel_rfl) (fun _ _ _ h => h) (Or.inl ⟨by kernel_rfl, ?hy42⟩) hHeld ?rest42
    case hy42 =>
      intro w hSw
      (try dsimp only at hSw)
      go_simp
      try with_reducible rfl
    simp only [Act.put, List.getElem_toArray, List.getElem_cons_succ, List.getElem_cons_zero, List.setIfInBounds_toArray, List.set_cons_zero, List.set_cons_succ]
    refine wpAnyH_ready (rs := [52]) (by kernel_rfl) (by simp) ?_
    refine AllReadyH.cons rfl (fun K hK => ?_) AllReadyH.nil
    rw [if_pos (by kernel_rfl)]
    go_simp
    go_at_call 53
    have C := implHasPrefix_c o5 o6
    rw [HPFX.out] at C
    refine C.mono ?_
    clear C
    rintro e W29 ⟨_, rfl, rfl, y29⟩
    have q29 := y29.size
    replace X := ext_trans X y29
    replace r0 := r0.ext y29
    replace mx := mx.ext y29
    replace o1 := o1.ext y29
    replace k3 := cell_ext k3 y29
    replace o2 := o2.ext y29
    replace k5 := cell_ext k5 y29
    replace o3 := o3.ext y29
    replace k7 := cell_ext k7 y29
    replace o4 := o4.ext y29
    replace k9 := cell_ext k9 y29
    replace o5 := o5.ext y29
    replace o6 := o6.ext y29
    replace k11 := cell_ext k11 y29
    replace k12 := cell_ext k12 y29
    replace o7 := o7.ext y29
    replace k13 := cell_ext k13 y29
    replace o8 := o8.ext y29
    replace o9 := o9.ext y29
    clear y29
    refine hK.out _ _ (by exact ⟨k3, k7, k9, k11, k12, k13⟩) (fun hHeld => ?_)
    clear hK K
    refine wpAnyH_ready (rs := [55]) (by kernel_rfl) (by simp) ?_
    refine AllReadyH.cons rfl (fun K hK => ?_) AllReadyH.nil
    rw [if_pos (by kernel_rfl)]
    go_simp
    go_at_call 54
    have C := specHasPrefix_c o5 o6 (by omega)
    rw [HPFX.out] at C
    refine C.mono ?_
    clear C
    rintro e W30 ⟨_, rfl, rfl, y30⟩
    have q30 := y30.size
    replace X := ext_trans X y30
    replace r0 := r0.ext y30
    replace mx := mx.ext y30
    replace o1 := o1.ext y30
    replace k3 := cell_ext k3 y30
    replace o2 := o2.ext y30
    replace k5 := cell_ext k5 y30
    replace o3 := o3.ext y30
    replace k7 := cell_ext k7 y30
    replace o4 := o4.ext y30
    replace k9 := cell_ext k9 y30
    replace o5 := o5.ext y30
    replace o6 := o6.ext y30
    replace k11 := cell_ext k11 y30
    replace k12 := cell_ext k12 y30
    replace o7 := o7.ext y30
    replace k13 := cell_ext k13 y30
    replace o8 := o8.ext y30
    replace o9 := o9.ext y30
    clear y30
    refine hK.out _ _ (by exact ⟨k3, k7, k9, k11, k12, k13⟩) (fun hHeld => ?_)
    clear hK K
    refine wpAnyH_take (i := 56) (v := ?v43) rfl (by kernel_rfl) (by kernel_rfl) (by kernel_rfl) (fun _ _ _ h => h) (Or.inl ⟨by kernel_rfl, ?hy43⟩) hHeld ?rest43
    case hy43 =>
      intro w hSw
      (try dsimp only at hSw)
      go_simp
      try with_reducible rfl
    simp only [Act.put, List.getElem_toArray, List.getElem_cons_succ, List.getElem_cons_zero, List.setIfInBounds_toArray, List.set_cons_zero, List.set_cons_succ]
    refine wpAnyH_take (i := 57) (v := ?v44) rfl (by kernel_rfl) (by kernel_rfl) (by kernel_rfl) (fun _ _ _ h => h) (Or.inl ⟨by kernel_rfl, ?hy44⟩) hHeld ?rest44
    case hy44 =>
      intro w hSw
      (try dsimp only at hSw)
      go_simp
      try with_reducible rfl
    simp only [Act.put, List.getElem_toArray, List.getElem_cons_succ, List.getElem_cons_zero, List.setIfInBounds_toArray, List.set_cons_zero, List.set_cons_succ]
    refine wpAnyH_take (i := 58) (v := ?v45) rfl (by kernel_rfl) (by kernel_rfl) (by kernel_rfl) (fun _ _ _ h => h) (Or.inl ⟨by kernel_rfl, ?hy45⟩) hHeld ?rest45
    case hy45 =>
      intro w hSw
      (try dsimp only at hSw)
      go_simp
      try with_reducible rfl
    simp only [Act.put, List.getElem_toArray, List.getElem_cons_succ, List.getElem_cons_zero, List.setIfInBounds_toArray, List.set_cons_zero, List.set_cons_succ]
    refine wpAnyH_take (i := 59) (v := ?v46) rfl (by kernel_rfl) (by kernel_rfl) (by kernel_rfl) (fun _ _ _ h => h) (Or.inl ⟨by kernel_rfl, ?hy46⟩) hHeld ?rest46
    case hy46 =>
      intro w hSw
      (try dsimp only at hSw)
      go_simp
      try with_reducible rfl
    simp only [Act.put, List.getElem_toArray, List.getElem_cons_succ, List.getElem_cons_zero, List.setIfInBounds_toArray, List.set_cons_zero, List.set_cons_succ]
    refine wpAnyH_take (i := 60) (v := ?v47) rfl (by kernel_rfl) (by kernel_rfl) (by kernel_rfl) (fun _ _ _ h => h) (Or.inl ⟨by kernel_rfl, ?hy47⟩) hHeld ?rest47
    case hy47 =>
      intro w hSw
      (try dsimp only at hSw)
      go_simp
      try with_reducible rfl
    simp only [Act.put, List.getElem_toArray, List.getElem_cons_succ, List.getElem_cons_zero, List.setIfInBounds_toArray, List.set_cons_zero, List.set_cons_succ]
    refine wpAnyH_take (i := 62) (v := ?v48) rfl (by kernel_rfl) (by kernel_rfl) (by kernel_rfl) (fun _ _ _ h => h) (Or.inl ⟨by kernel_rfl, ?hy48⟩) hHeld ?rest48
    case hy48 =>
      intro w hSw
      (try dsimp only at hSw)
      go_simp
      try with_reducible rfl
    simp only [Act.put, List.getElem_toArray, List.getElem_cons_succ, List.getElem_cons_zero, List.setIfInBounds_toArray, List.set_cons_zero, List.set_cons_succ]
    refine wpAnyH_take (i := 63) (v := ?v49) rfl (by kernel_rfl) (by kernel_rfl) (by kernel_rfl) (fun _ _ _ h => h) (Or.inl ⟨by kernel_rfl, ?hy49⟩) hHeld ?rest49
    case hy49 =>
      intro w hSw
      (try dsimp only at hSw)
      go_simp
      try with_reducible rfl
    simp only [Act.put, List.getElem_toArray, List.getElem_cons_succ, List.getElem_cons_zero, List.setIfInBounds_toArray, List.set_cons_zero, List.set_cons_succ]
    refine wpAnyH_ready (rs := [61]) (by kernel_rfl) (by simp) ?_
    refine AllReadyH.cons rfl (fun K hK => ?_) AllReadyH.nil
    rw [if_pos (by kernel_rfl)]
    go_simp
    go_at_call 55
    have C := implEqualNames_c o5 o6
    rw [HQ2.out] at C
    refine C.mono ?_
    clear C
    rintro e W31 ⟨_, rfl, rfl, y31⟩
    have q31 := y31.size
    replace X := ext_trans X y31
    replace r0 := r0.ext y31
    replace mx := mx.ext y31
    replace o1 := o1.ext y31
    replace k3 := cell_ext k3 y31
    replace o2 := o2.ext y31
    replace k5 := cell_ext k5 y31
    replace o3 := o3.ext y31
    replace k7 := cell_ext k7 y31
    replace o4 := o4.ext y31
    replace k9 := cell_ext k9 y31
    replace o5 := o5.ext y31
    replace o6 := o6.ext y31
    replace k11 := cell_ext k11 y31
    replace k12 := cell_ext k12 y31
    replace o7 := o7.ext y31
    replace k13 := cell_ext k13 y31
    replace o8 := o8.ext y31
    replace o9 := o9.ext y31
    clear y31
    refine hK.out _ _ (by exact ⟨k3, k7, k9, k11, k12, k13⟩) (fun hHeld => ?_)
    clear hK K
    refine wpAnyH_ready (rs := [64]) (by kernel_rfl) (by simp) ?_
    refine AllReadyH.cons rfl (fun K hK => ?_) AllReadyH.nil
    rw [if_pos (by kernel_rfl)]
    go_simp
    go_at_call 31
    have C := sameName_c o5 o6
    rw [HQ2.out] at C
    refine C.mono ?_
    clear C
    rintro e W32 ⟨_, rfl, rfl, y32⟩
    have q32 := y32.size
    replace X := ext_trans X y32
    replace r0 := r0.ext y32
    replace mx := mx.ext y32
    replace o1 := o1.ext y32
    replace k3 := cell_ext k3 y32
    replace o2 := o2.ext y32
    replace k5 := cell_ext k5 y32
    replace o3 := o3.ext y32
    replace k7 := cell_ext k7 y32
    replace o4 := o4.ext y32
    replace k9 := cell_ext k9 y32
    replace o5 := o5.ext y32
    replace o6 := o6.ext y32
    replace k11 := cell_ext k11 y32
    replace k12 := cell_ext k12 y32
    replace o7 := o7.ext y32
    replace k13 := cell_ext k13 y32
    replace o8 := o8.ext y32
    replace o9 := o9.ext y32
    clear y32
    refine hK.out _ _ (by exact ⟨k3, k7, k9, k11, k12, k13⟩) (fun hHeld => ?_)
    clear hK K
    refine wpAnyH_take (i := 65) (v := ?v50) rfl (by kernel_rfl) (by kernel_rfl) (by kernel_rfl) (fun _ _ _ h => h) (Or.inl ⟨by kernel_rfl, ?hy50⟩) hHeld ?rest50
    case hy50 =>
      intro w hSw
      (try dsimp only at hSw)
      go_simp
      try with_reducible rfl
    simp only [Act.put, List.getElem_toArray, List.getElem_cons_succ, List.getElem_cons_zero, List.setIfInBounds_toArray, List.set_cons_zero, List.set_cons_succ]
    refine wpAnyH_take (i := 66) (v := ?v51) rfl (by kernel_rfl) (by kernel_rfl) (by kernel_rfl) (fun _ _ _ h => h) (Or.inl ⟨by kernel_rfl, ?hy51⟩) hHeld ?rest51
    case hy51 =>
      intro w hSw
      (try dsimp only at hSw)
      go_simp
      try with_reducible rfl
    simp only [Act.put, List.getElem_toArray, List.getElem_cons_succ, List.getElem_cons_zero, List.setIfInBounds_toArray, List.set_cons_zero, List.set_cons_succ]
    refine wpAnyH_done (by kernel_rfl) ?_ _
    clear o8 o9
    clear eT
    cases is
    · skip
      go_wp2_with fail
      have y32 := Below.drew (ext_refl W32)
      have qd32 := y32.size
      replace X := ext_trans X y32
      replace r0 := r0.ext y32
      replace mx := mx.ext y32
      replace o1 := o1.ext y32
      replace k3 := cell_ext k3 y32
      replace o2 := o2.ext y32
      replace k5 := cell_ext k5 y32
      replace o3 := o3.ext y32
      replace k7 := cell_ext k7 y32
      replace o4 := o4.ext y32
      replace k9 := cell_ext k9 y32
      replace o5 := o5.ext y32
      replace o6 := o6.ext y32
      replace k11 := cell_ext k11 y32
      replace k12 := cell_ext k12 y32
      replace o7 := o7.ext y32
      replace k13 := cell_ext k13 y32
      clear y32
      refine wp_region_held_drew (S := fun w' => w'.cell? ⟨W12.heap.size, 0, none⟩ = some (.slice a13_0 (za.length) c13_0) ∧ w'.cell? ⟨W12.heap.size + 1, 0, none⟩ = some (.slice a13_1 (zb.length) c13_1) ∧ w'.cell? ⟨W14.heap.size, 0, none⟩ = some (.slice a15' (zp.length) c15') ∧ w'.cell? ⟨W8.heap.size, 0, none⟩ = some (.slice a9' (yp.length) c9')) (by kernel_rfl) (by exact ⟨k11, k12, k13, k7⟩) (fun hHeld => ?_)
      refine wpAnyH_take (i := 0) (v := ?v52) rfl (by kernel_rfl) (by kernel_rfl) (by kernel_rfl) (fun _ _ _ h => h) (Or.inl ⟨by kernel_rfl, ?hy52⟩) hHeld ?rest52
      case hy52 =>
        intro w hSw
        (try dsimp only at hSw)
        go_simp
        try with_reducible rfl
      simp only [Act.put, List.getElem_toArray, List.getElem_cons_zero, List.setIfInBounds_toArray, List.set_cons_zero, List.set_cons_succ]
      refine wpAnyH_take (i := 1) (v := ?v53) rfl (by kernel_rfl) (by kernel_rfl) (by kernel_rfl) (fun _ _ _ h => h) (Or.inl ⟨by kernel_rfl, ?hy53⟩) hHeld ?rest53
      case hy53 =>
        intro w hSw
        (try dsimp only at hSw)
        go_simp
        try with_reducible rfl
      simp only [Act.put, List.getElem_toArray, List.getElem_cons_succ, List.getElem_cons_zero, List.setIfInBounds_toArray, List.set_cons_zero, List.set_cons_succ]
      refine wpAnyH_take (i := 3) (v := ?v54) rfl (by kernel_rfl) (by kernel_rfl) (by kernel_rfl) (fun _ _ _ h => h) (Or.inl ⟨by kernel_rfl, ?hy54⟩) hHeld ?rest54
      case hy54 =>
        intro w hSw
        (try dsimp only at hSw)
        go_simp
        try with_reducible rfl
      simp only [Act.put, List.getElem_toArray, List.getElem_cons_succ, List.getElem_cons_zero, List.setIfInBounds_toArray, List.set_cons_zero, List.set_cons_succ]
      refine wpAnyH_take (i := 4) (v := ?v55) rfl (by kernel_rfl) (by kernel_rfl) (by kernel_rfl) (fun _ _ _ h => h) (Or.inl ⟨by kernel_rfl, ?hy55⟩) hHeld ?rest55
      case hy55 =>
        intro w hSw
        (try dsimp only at hSw)
        go_simp
        try with_reducible rfl
      simp only [Act.put, List.getElem_toArray, List.getElem_cons_succ, List.getElem_cons_zero, List.setIfInBounds_toArray, List.set_cons_zero, List.set_cons_succ]
      refine wpAnyH_ready (rs := [2]) (by kernel_rfl) (by simp) ?_
      refine AllReadyH.cons rfl (fun K hK => ?_) AllReadyH.nil
      go_simp
      go_at_call 45
      have C := implCompareNames_c o5 o6
      rw [HK.out] at C
      refine C.mono ?_
      clear C
      rintro e W33 ⟨_, rfl, rfl, y33⟩
      have q33 := y33.size
      replace X := ext_trans X y33
      replace r0 := r0.ext y33
      replace mx := mx.ext y33
      replace o1 := o1.ext y33
      replace k3 := cell_ext k3 y33
      replace o2 := o2.ext y33
      replace k5 := cell_ext k5 y33
      replace o3 := o3.ext y33
      replace k7 := cell_ext k7 y33
      replace o4 := o4.ext y33
      replace k9 := cell_ext k9 y33
      replace o5 := o5.ext y33
      replace o6 := o6.ext y33
      replace k11 := cell_ext k11 y33
      replace k12 := cell_ext k12 y33
      replace o7 := o7.ext y33
      replace k13 := cell_ext k13 y33
      clear y33
      refine hK.out _ _ (by exact ⟨k11, k12, k13, k7⟩) (fun hHeld => ?_)
      clear hK K
      refine wpAnyH_ready (rs := [5]) (by kernel_rfl) (by simp) ?_
      refine AllReadyH.cons rfl (fun K hK => ?_) AllReadyH.nil
      go_simp
      go_at_call 45
      have C := implCompareNames_c o6 o5
      rw [HN.out] at C
      refine C.mono ?_
      clear C
      rintro e W34 ⟨_, rfl, rfl, y34⟩
      have q34 := y34.size
      replace X := ext_trans X y34
      replace r0 := r0.ext y34
      replace mx := mx.ext y34
      replace o1 := o1.ext y34
      replace k3 := cell_ext k3 y34
      replace o2 := o2.ext y34
      replace k5 := cell_ext k5 y34
      replace o3 := o3.ext y34
      replace k7 := cell_ext k7 y34
      replace o4 := o4.ext y34
      replace k9 := cell_ext k9 y34
      replace o5 := o5.ext y34
      replace o6 := o6.ext y34
      replace k11 := cell_ext k11 y34
      replace k12 := cell_ext k12 y34
      replace o7 := o7.ext y34
      replace k13 := cell_ext k13 y34
      clear y34
      refine hK.out _ _ (by exact ⟨k11, k12, k13, k7⟩) (fun hHeld => ?_)
      clear hK K
      refine wpAnyH_take (i := 6) (v := ?v56) rfl (by kernel_rfl) (by kernel_rfl) (by kernel_rfl) (fun _ _ _ h => h) (Or.inl ⟨by kernel_rfl, ?hy56⟩) hHeld ?rest56
      case hy56 =>
        intro w hSw
        (try dsimp only at hSw)
        go_simp
        try with_reducible rfl
      simp only [Act.put, List.getElem_toArray, List.getElem_cons_succ, List.getElem_cons_zero, List.setIfInBounds_toArray, List.set_cons_zero, List.set_cons_succ]
      refine wpAnyH_take (i := 7) (v := ?v57) rfl (by kernel_rfl) (by kernel_rfl) (by kernel_rfl) (fun _ _ _ h => h) (Or.inl ⟨by kernel_rfl, ?hy57⟩) hHeld ?rest57
      case hy57 =>
        intro w hSw
        (try dsimp only at hSw)
        go_simp
        try with_reducible rfl
      simp only [Act.put, List.getElem_toArray, List.getElem_cons_succ, List.getElem_cons_zero, List.setIfInBounds_toArray, List.set_cons_zero, List.set_cons_succ]
      refine wpAnyH_take (i := 8) (v := ?v58) rfl (by kernel_rfl) (by kernel_rfl) (by kernel_rfl) (fun _ _ _ h => h) (Or.inl ⟨by kernel_rfl, ?hy58⟩) hHeld ?rest58
      case hy58 =>
        intro w hSw
        (try dsimp only at hSw)
        go_simp
        try with_reducible rfl
      simp only [Act.put, List.getElem_toArray, List.getElem_cons_succ, List.getElem_cons_zero, List.setIfInBounds_toArray, List.set_cons_zero, List.set_cons_succ]
      refine wpAnyH_take (i := 9) (v := ?v59) rfl (by kernel_rfl) (by kernel_rfl) (by kernel_rfl) (fun _ _ _ h => h) (Or.inl ⟨by kernel_rfl, ?hy59⟩) hHeld ?rest59
      case hy59 =>
        intro w hSw
        (try dsimp only at hSw)
        go_simp
        try with_reducible rfl
      simp only [Act.put, List.getElem_toArray, List.getElem_cons_succ, List.getElem_cons_zero, List.setIfInBounds_toArray, List.set_cons_zero, List.set_cons_succ]
      refine wpAnyH_take (i := 10) (v := ?v60) rfl (by kernel_rfl) (by kernel_rfl) (by kernel_rfl) (fun _ _ _ h => h) (Or.inl ⟨by kernel_rfl, ?hy60⟩) hHeld ?rest60
      case hy60 =>
        intro w hSw
        (try dsimp only at hSw)
        go_simp
        try with_reducible rfl
      simp only [Act.put, List.getElem_toArray, List.getElem_cons_succ, List.getElem_cons_zero, List.setIfInBounds_toArray, List.set_cons_zero, List.set_cons_succ]
      refine wpAnyH_take (i := 13) (v := ?v61) rfl (by kernel_rfl) (by kernel_rfl) (by kernel_rfl) (fun _ _ _ h => h) (Or.inl ⟨by kernel_rfl, ?hy61⟩) hHeld ?rest61
      case hy61 =>
        intro w hSw
        (try dsimp only at hSw)
        go_simp
        try with_reducible rfl
      simp only [Act.put, List.getElem_toArray, List.getElem_cons_succ, List.getElem_cons_zero, List.setIfInBounds_toArray, List.set_cons_zero, List.set_cons_succ]
      refine wpAnyH_take (i := 14) (v := ?v62) rfl (by kernel_rfl) (by kernel_rfl) (by kernel_rfl) (fun _ _ _ h => h) (Or.inl ⟨by kernel_rfl, ?hy62⟩) hHeld ?rest62
      case hy62 =>
        intro w hSw
        (try dsimp only at hSw)
        go_simp
        try with_reducible rfl
      simp only [Act.put, List.getElem_toArray, List.getElem_cons_succ, List.getElem_cons_zero, List.setIfInBounds_toArray, List.set_cons_zero, List.set_cons_succ]
      refine wpAnyH_ready (rs := [11]) (by kernel_rfl) (by simp) ?_
      refine AllReadyH.cons rfl (fun K hK => ?_) AllReadyH.nil
      rw [if_pos (by kernel_rfl)]
      go_simp
      go_at_call 45
      have C := implCompareNames_c o5 o6
      rw [HK.out] at C
      refine C.mono ?_
      clear C
      rintro e W35 ⟨_, rfl, rfl, y35⟩
      have q35 := y35.size
      replace X := ext_trans X y35
      replace r0 := r0.ext y35
      replace mx := mx.ext y35
      replace o1 := o1.ext y35
      replace k3 := cell_ext k3 y35
      replace o2 := o2.ext y35
      replace k5 := cell_ext k5 y35
      replace o3 := o3.ext y35
      replace k7 := cell_ext k7 y35
      replace o4 := o4.ext y35
      replace k9 := cell_ext k9 y35
      replace o5 := o5.ext y35
      replace o6 := o6.ext y35
      replace k11 := cell_ext k11 y35
      replace k12 := cell_ext k12 y35
      replace o7 := o7.ext y35
      replace k13 := cell_ext k13 y35
      clear y35
      refine hK.out _ _ (by exact ⟨k11, k12, k13, k7⟩) (fun hHeld => ?_)
      clear hK K
      refine wpAnyH_take (i := 12) (v := ?v63) rfl (by kernel_rfl) (by kernel_rfl) (by kernel_rfl) (fun _ _ _ h => h) (Or.inl ⟨by kernel_rfl, ?hy63⟩) hHeld ?rest63
      case hy63 =>
        intro w hSw
        (try dsimp only at hSw)
        go_simp
        try with_reducible rfl
      simp only [Act.put, List.getElem_toArray, List.getElem_cons_succ, List.getElem_cons_zero, List.setIfInBounds_toArray, List.set_cons_zero, List.set_cons_succ]
      refine wpAnyH_ready (rs := [15]) (by kernel_rfl) (by simp) ?_
      refine AllReadyH.cons rfl (fun K hK => ?_) AllReadyH.nil
      rw [if_pos (by kernel_rfl)]
      go_simp
      go_at_call 31
      have C := sameName_c o5 o6
      rw [HQ2.out] at C
      refine C.mono ?_
      clear C
      rintro e W36 ⟨_, rfl, rfl, y36⟩
      have q36 := y36.size
      replace X := ext_trans X y36
      replace r0 := r0.ext y36
      replace mx := mx.ext y36
      replace o1 := o1.ext y36
      replace k3 := cell_ext k3 y36
      replace o2 := o2.ext y36
      replace k5 := cell_ext k5 y36
      replace o3 := o3.ext y36
      replace k7 := cell_ext k7 y36
      replace o4 := o4.ext y36
      replace k9 := cell_ext k9 y36
      replace o5 := o5.ext y36
      replace o6 := o6.ext y36
      replace k11 := cell_ext k11 y36
      replace k12 := cell_ext k12 y36
      replace o7 := o7.ext y36
      replace k13 := cell_ext k13 y36
      clear y36
      refine hK.out _ _ (by exact ⟨k11, k12, k13, k7⟩) (fun hHeld => ?_)
      clear hK K
      refine wpAnyH_take (i := 16) (v := ?v64) rfl (by kernel_rfl) (by kernel_rfl) (by kernel_rfl) (fun _ _ _ h => h) (Or.inl ⟨by kernel_rfl, ?hy64⟩) hHeld ?rest64
      case hy64 =>
        intro w hSw
        (try dsimp only at hSw)
        go_simp
        try with_reducible rfl
      simp only [Act.put, List.getElem_toArray, List.getElem_cons_succ, List.getElem_cons_zero, List.setIfInBounds_toArray, List.set_cons_zero, List.set_cons_succ]
      refine wpAnyH_take (i := 17) (v := ?v65) rfl (by kernel_rfl) (by kernel_rfl) (by kernel_rfl) (fun _ _ _ h => h) (Or.inl ⟨by kernel_rfl, ?hy65⟩) hHeld ?rest65
      case hy65 =>
        intro w hSw
        (try dsimp only at hSw)
        go_simp
        try with_reducible rfl
      simp only [Act.put, List.getElem_toArray, List.getElem_cons_succ, List.getElem_cons_zero, List.setIfInBounds_toArray, List.set_cons_zero, List.set_cons_succ]
      refine wpAnyH_take (i := 18) (v := ?v66) rfl (by kernel_rfl) (by kernel_rfl) (by kernel_rfl) (fun _ _ _ h => h) (Or.inl ⟨by kernel_rfl, ?hy66⟩) hHeld ?rest66
      case hy66 =>
        intro w hSw
        (try dsimp only at hSw)
        go_simp
        try with_reducible rfl
      simp only [Act.put, List.getElem_toArray, List.getElem_cons_succ, List.getElem_cons_zero, List.setIfInBounds_toArray, List.set_cons_zero, List.set_cons_succ]
      refine wpAnyH_take (i := 19) (v := ?v67) rfl (by kernel_rfl) (by kernel_rfl) (by kernel_rfl) (fun _ _ _ h => h) (Or.inl ⟨by kernel_rfl, ?hy67⟩) hHeld ?rest67
      case hy67 =>
        intro w hSw
        (try dsimp only at hSw)
        go_simp
        try with_reducible rfl
      simp only [Act.put, List.getElem_toArray, List.getElem_cons_succ, List.getElem_cons_zero, List.setIfInBounds_toArray, List.set_cons_zero, List.set_cons_succ]
      refine wpAnyH_take (i := 20) (v := ?v68) rfl (by kernel_rfl) (by kernel_rfl) (by kernel_rfl) (fun _ _ _ h => h) (Or.inl ⟨by kernel_rfl, ?hy68⟩) hHeld ?rest68
      case hy68 =>
        intro w hSw
        (try dsimp only at hSw)
        go_simp
        try with_reducible rfl
      simp only [Act.put, List.getElem_toArray, List.getElem_cons_succ, List.getElem_cons_zero, List.setIfInBounds_toArray, List.set_cons_zero, List.set_cons_succ]
      refine wpAnyH_take (i := 21) (v := ?v69) rfl (by kernel_rfl) (by kernel_rfl) (by kernel_rfl) (fun _ _ _ h => h) (Or.inl ⟨by kernel_rfl, ?hy69⟩) hHeld ?rest69
      case hy69 =>
        intro w hSw
        (try dsimp only at hSw)
        go_simp
        try with_reducible rfl
      simp only [Act.put, List.getElem_toArray, List.getElem_cons_succ, List.getElem_cons_zero, List.setIfInBounds_toArray, List.set_cons_zero, List.set_cons_succ]
      refine wpAnyH_ready (rs := [22]) (by kernel_rfl) (by simp) ?_
      refine AllReadyH.cons rfl (fun K hK => ?_) AllReadyH.nil
      rw [if_pos (by kernel_rfl)]
      go_simp
      go_at_call 47
      have C := implTruncate_c (k := kk) o7 (by omega)
      rw [HTK.out, HZT.out] at C
      refine C.mono ?_
      clear C
      rintro e W37 ⟨u10, rfl, o10, y37⟩
      have q37 := y37.size
      replace X := ext_trans X y37
      replace r0 := r0.ext y37
      replace mx := mx.ext y37
      replace o1 := o1.ext y37
      replace k3 := cell_ext k3 y37
      replace o2 := o2.ext y37
      replace k5 := cell_ext k5 y37
      replace o3 := o3.ext y37
      replace k7 := cell_ext k7 y37
      replace o4 := o4.ext y37
      replace k9 := cell_ext k9 y37
      replace o5 := o5.ext y37
      replace o6 := o6.ext y37
      replace k11 := cell_ext k11 y37
      replace k12 := cell_ext k12 y37
      replace o7 := o7.ext y37
      replace k13 := cell_ext k13 y37
      clear y37
      refine hK.out _ _ (by exact ⟨k11, k12, k13, k7⟩) (fun hHeld => ?_)
      clear hK K
      refine wpAnyH_ready (rs := [23]) (by kernel_rfl) (by simp) ?_
      refine AllReadyH.cons rfl (fun K hK => ?_) AllReadyH.nil
      rw [if_pos (by kernel_rfl)]
      go_simp
      go_at_call 53
      have C := implHasPrefix_c o7 o10.rd
      rw [HPT.out] at C
      refine C.mono ?_
      clear C
      rintro e W38 ⟨_, rfl, rfl, y38⟩
      have q38 := y38.size
      replace X := ext_trans X y38
      replace r0 := r0.ext y38
      replace mx := mx.ext y38
      replace o1 := o1.ext y38
      replace k3 := cell_ext k3 y38
      replace o2 := o2.ext y38
      replace k5 := cell_ext k5 y38
      replace o3 := o3.ext y38
      replace k7 := cell_ext k7 y38
      replace o4 := o4.ext y38
      replace k9 := cell_ext k9 y38
      replace o5 := o5.ext y38
      replace o6 := o6.ext y38
      replace k11 := cell_ext k11 y38
      replace k12 := cell_ext k12 y38
      replace o7 := o7.ext y38
      replace k13 := cell_ext k13 y38
      replace o10 := o10.ext y38
      clear y38
      refine hK.out _ _ (by exact ⟨k11, k12, k13, k7⟩) (fun hHeld => ?_)
      clear hK K
      refine wpAnyH_take (i := 24) (v := ?v70) rfl (by kernel_rfl) (by kernel_rfl) (by kernel_rfl) (fun _ _ _ h => h) (Or.inl ⟨by kernel_rfl, ?hy70⟩) hHeld ?rest70
      case hy70 =>
        intro w hSw
        (try dsimp only at hSw)
        go_simp
        try with_reducible rfl
      simp only [Act.put, List.getElem_toArray, List.getElem_cons_succ, List.getElem_cons_zero, List.setIfInBounds_toArray, List.set_cons_zero, List.set_cons_succ]
      refine wpAnyH_take (i := 25) (v := ?v71) rfl (by kernel_rfl) (by kernel_rfl) (by kernel_rfl) (fun _ _ _ h => h) (Or.inl ⟨by kernel_rfl, ?hy71⟩) hHeld ?rest71
      case hy71 =>
        intro w hSw
        (try dsimp only at hSw)
        go_simp
        try with_reducible rfl
      simp only [Act.put, List.getElem_toArray, List.getElem_cons_succ, List.getElem_cons_zero, List.setIfInBounds_toArray, List.set_cons_zero, List.set_cons_succ]
      refine wpAnyH_take (i := 26) (v := ?v72) rfl (by kernel_rfl) (by kernel_rfl) (by kernel_rfl) (fun _ _ _ h => h) (Or.inl ⟨by kernel_rfl, ?hy72⟩) hHeld ?rest72
      case hy72 =>
        intro w hSw
        (try dsimp only at hSw)
        go_simp
        try with_reducible rfl
      simp only [Act.put, List.getElem_toArray, List.getElem_cons_succ, List.getElem_cons_zero, List.setIfInBounds_toArray, List.set_cons_zero, List.set_cons_succ]
      refine wpAnyH_take (i := 27) (v := ?v73) rfl (by kernel_rfl) (by kernel_rfl) (by kernel_rfl) (fun _ _ _ h => h) (Or.inl ⟨by kernel_rfl, ?hy73⟩) hHeld ?rest73
      case hy73 =>
        intro w hSw
        (try dsimp only at hSw)
        go_simp
        try with_reducible rfl
      simp only [Act.put, List.getElem_toArray, List.getElem_cons_succ, List.getElem_cons_zero, List.setIfInBounds_toArray, List.set_cons_zero, List.set_cons_succ]
      refine wpAnyH_take (i := 28) (v := ?v74) rfl (by kernel_rfl) (by kernel_rfl) (by kernel_rfl) (fun _ _ _ h => h) (Or.inl ⟨by kernel_rfl, ?hy74⟩) hHeld ?rest74
      case hy74 =>
        intro w hSw
        (try dsimp only at hSw)
        go_simp
        try with_reducible rfl
      simp only [Act.put, List.getElem_toArray, List.getElem_cons_succ, List.getElem_cons_zero, List.setIfInBounds_toArray, List.set_cons_zero, List.set_cons_succ]
      refine wpAnyH_take (i := 29) (v := undef) rfl (by kernel_rfl) (by kernel_rfl) (by kernel_rfl) (fun _ _ _ h => h) (Or.inr ⟨by kernel_rfl, rfl⟩) hHeld ?_
      simp only [Act.put, List.getElem_toArray, List.getElem_cons_succ, List.getElem_cons_zero, List.setIfInBounds_toArray, List.set_cons_zero, List.set_cons_succ]
      refine wpAnyH_take (i := 30) (v := undef) rfl (by kernel_rfl) (by kernel_rfl) (by kernel_rfl) (fun _ _ _ h => h) (Or.inr ⟨by kernel_rfl, rfl⟩) hHeld ?_
      simp only [Act.put, List.getElem_toArray, List.getElem_cons_succ, List.getElem_cons_zero, List.setIfInBounds_toArray, List.set_cons_zero, List.set_cons_succ]
      refine wpAnyH_take (i := 31) (v := undef) rfl (by kernel_rfl) (by kernel_rfl) (by kernel_rfl) (fun _ _ _ h => h) (Or.inr ⟨by kernel_rfl, rfl⟩) hHeld ?_
      simp only [Act.put, List.getElem_toArray, List.getElem_cons_succ, List.getElem_cons_zero, List.setIfInBounds_toArray, List.set_cons_zero, List.set_cons_succ]
      refine wpAnyH_take (i := 32) (v := undef) rfl (by kernel_rfl) (by kernel_rfl) (by kernel_rfl) (fun _ _ _ h => h) (Or.inr ⟨by kernel_rfl, rfl⟩) hHeld ?_
      simp only [Act.put, List.getElem_toArray, List.getElem_cons_succ, List.getElem_cons_zero, List.setIfInBounds_toArray, List.set_cons_zero, List.set_cons_succ]
      refine wpAnyH_take (i := 33) (v := ?v79) rfl (by kernel_rfl) (by kernel_rfl) (by kernel_rfl) (fun _ _ _ h => h) (Or.inl ⟨by kernel_rfl, ?hy79⟩) hHeld ?rest79
      case hy79 =>
        intro w hSw
        (try dsimp only at hSw)
        go_simp
        try with_reducible rfl
      simp only [Act.put, List.getElem_toArray, List.getElem_cons_succ, List.getElem_cons_zero, List.setIfInBounds_toArray, List.set_cons_zero, List.set_cons_succ]
      refine wpAnyH_take (i := 34) (v := ?v80) rfl (by kernel_rfl) (by kernel_rfl) (by kernel_rfl) (fun _ _ _ h => h) (Or.inl ⟨by kernel_rfl, ?hy80⟩) hHeld ?rest80
      case hy80 =>
        intro w hSw
        (try dsimp only at hSw)
        go_simp
        try with_reducible rfl
      simp only [Act.put, List.getElem_toArray, List.getElem_cons_succ, List.getElem_cons_zero, List.setIfInBounds_toArray, List.set_cons_zero, List.set_cons_succ]
      refine wpAnyH_done (by kernel_rfl) ?_ _
      clear o10
      cases vx
      · skip
        go_wp2_with fail
        have C := implValidName_c o1 hxs.out
        rw [HVX.out] at C
        refine C.mono ?_
        clear C
        rintro e W39 ⟨_, rfl, rfl, y39⟩
        have q39 := y39.size
        replace X := ext_trans X y39
        replace r0 := r0.ext y39
        replace mx := mx.ext y39
        replace o1 := o1.ext y39
        replace k3 := cell_ext k3 y39
        replace o2 := o2.ext y39
        replace k5 := cell_ext k5 y39
        replace o3 := o3.ext y39
        replace k7 := cell_ext k7 y39
        replace o4 := o4.ext y39
        replace k9 := cell_ext k9 y39
        replace o5 := o5.ext y39
        replace o6 := o6.ext y39
        replace k11 := cell_ext k11 y39
        replace k12 := cell_ext k12 y39
        replace o7 := o7.ext y39
        replace k13 := cell_ext k13 y39
        clear y39
        cases pf
        · skip
          go_wp2_with fail
          have C := implHasPrefix_c o5 o6
          rw [HPFX.out] at C
          refine C.mono ?_
          clear C
          rintro e W40 ⟨_, rfl, rfl, y40⟩
          have q40 := y40.size
          replace X := ext_trans X y40
          replace r0 := r0.ext y40
          replace mx := mx.ext y40
          replace o1 := o1.ext y40
          replace k3 := cell_ext k3 y40
          replace o2 := o2.ext y40
          replace k5 := cell_ext k5 y40
          replace o3 := o3.ext y40
          replace k7 := cell_ext k7 y40
          replace o4 := o4.ext y40
          replace k9 := cell_ext k9 y40
          replace o5 := o5.ext y40
          replace o6 := o6.ext y40
          replace k11 := cell_ext k11 y40
          replace k12 := cell_ext k12 y40
          replace o7 := o7.ext y40
          replace k13 := cell_ext k13 y40
          clear y40
          go_wp2_with fail
          go_ret
          exact ⟨rfl, X⟩
        · skip
          go_wp2_with fail
          have C := implHasPrefix_c o5 o6
          rw [HPFX.out] at C
          refine C.mono ?_
          clear C
          rintro e W40 ⟨_, rfl, rfl, y40⟩
          have q40 := y40.size
          replace X := ext_trans X y40
          replace r0 := r0.ext y40
          replace mx := mx.ext y40
          replace o1 := o1.ext y40
          replace k3 := cell_ext k3 y40
          replace o2 := o2.ext y40
          replace k5 := cell_ext k5 y40
          replace o3 := o3.ext y40
          replace k7 := cell_ext k7 y40
          replace o4 := o4.ext y40
          replace k9 := cell_ext k9 y40
          replace o5 := o5.ext y40
          replace o6 := o6.ext y40
          replace k11 := cell_ext k11 y40
          replace k12 := cell_ext k12 y40
          replace o7 := o7.ext y40
          replace k13 := cell_ext k13 y40
          clear y40
          have hle2 := HLE.out HPFX.out
          go_wp2_with fail
          have C := implCompareNames_c o6 o5
          rw [HN.out] at C
          refine C.mono ?_
          clear C
          rintro e W41 ⟨_, rfl, rfl, y41⟩
          have q41 := y41.size
          replace X := ext_trans X y41
          replace r0 := r0.ext y41
          replace mx := mx.ext y41
          replace o1 := o1.ext y41
          replace k3 := cell_ext k3 y41
          replace o2 := o2.ext y41
          replace k5 := cell_ext k5 y41
          replace o3 := o3.ext y41
          replace k7 := cell_ext k7 y41
          replace o4 := o4.ext y41
          replace k9 := cell_ext k9 y41
          replace o5 := o5.ext y41
          replace o6 := o6.ext y41
          replace k11 := cell_ext k11 y41
          replace k12 := cell_ext k12 y41
          replace o7 := o7.ext y41
          replace k13 := cell_ext k13 y41
          clear y41
          go_wp2_with fail
          go_ret
          exact ⟨rfl, X⟩
      · obtain ⟨rfl, rfl⟩ := HPF.out HVX.out
        go_wp2_with fail
        have C := implValidName_c o1 hxs.out
        rw [HVX.out] at C
        refine C.mono ?_
        clear C
        rintro e W39 ⟨_, rfl, rfl, y39⟩
        have q39 := y39.size
        replace X := ext_trans X y39
        replace r0 := r0.ext y39
        replace mx := mx.ext y39
        replace o1 := o1.ext y39
        replace k3 := cell_ext k3 y39
        replace o2 := o2.ext y39
        replace k5 := cell_ext k5 y39
        replace o3 := o3.ext y39
        replace k7 := cell_ext k7 y39
        replace o4 := o4.ext y39
        replace k9 := cell_ext k9 y39
        replace o5 := o5.ext y39
        replace o6 := o6.ext y39
        replace k11 := cell_ext k11 y39
        replace k12 := cell_ext k12 y39
        replace o7 := o7.ext y39
        replace k13 := cell_ext k13 y39
        clear y39
        go_wp2_with fail
        have C := sameName_c o2.rd o1
        rw [decide_eq_true rfl] at C
        refine C.mono ?_
        clear C
        rintro e W40 ⟨_, rfl, rfl, y40⟩
        have q40 := y40.size
        replace X := ext_trans X y40
        replace r0 := r0.ext y40
        replace mx := mx.ext y40
        replace o1 := o1.ext y40
        replace k3 := cell_ext k3 y40
        replace o2 := o2.ext y40
        replace k5 := cell_ext k5 y40
        replace o3 := o3.ext y40
        replace k7 := cell_ext k7 y40
        replace o4 := o4.ext y40
        replace k9 := cell_ext k9 y40
        replace o5 := o5.ext y40
        replace o6 := o6.ext y40
        replace k11 := cell_ext k11 y40
        replace k12 := cell_ext k12 y40
        replace o7 := o7.ext y40
        replace k13 := cell_ext k13 y40
        clear y40
        cases pf
        · skip
          go_wp2_with fail
          have C := implHasPrefix_c o5 o6
          rw [HPFX.out] at C
          refine C.mono ?_
          clear C
          rintro e W41 ⟨_, rfl, rfl, y41⟩
          have q41 := y41.size
          replace X := ext_trans X y41
          replace r0 := r0.ext y41
          replace mx := mx.ext y41
          replace o1 := o1.ext y41
          replace k3 := cell_ext k3 y41
          replace o2 := o2.ext y41
          replace k5 := cell_ext k5 y41
          replace o3 := o3.ext y41
          replace k7 := cell_ext k7 y41
          replace o4 := o4.ext y41
          replace k9 := cell_ext k9 y41
          replace o5 := o5.ext y41
          replace o6 := o6.ext y41
          replace k11 := cell_ext k11 y41
          replace k12 := cell_ext k12 y41
          replace o7 := o7.ext y41
          replace k13 := cell_ext k13 y41
          clear y41
          go_wp2_with fail
          go_ret
          exact ⟨rfl, X⟩
        · skip
          go_wp2_with fail
          have C := implHasPrefix_c o5 o6
          rw [HPFX.out] at C
          refine C.mono ?_
          clear C
          rintro e W41 ⟨_, rfl, rfl, y41⟩
          have q41 := y41.size
          replace X := ext_trans X y41
          replace r0 := r0.ext y41
          replace mx := mx.ext y41
          replace o1 := o1.ext y41
          replace k3 := cell_ext k3 y41
          replace o2 := o2.ext y41
          replace k5 := cell_ext k5 y41
          replace o3 := o3.ext y41
          replace k7 := cell_ext k7 y41
          replace o4 := o4.ext y41
          replace k9 := cell_ext k9 y41
          replace o5 := o5.ext y41
          replace o6 := o6.ext y41
          replace k11 := cell_ext k11 y41
          replace k12 := cell_ext k12 y41
          replace o7 := o7.ext y41
          replace k13 := cell_ext k13 y41
          clear y41
          have hle2 := HLE.out HPFX.out
          go_wp2_with fail
          have C := implCompareNames_c o6 o5
          rw [HN.out] at C
          refine C.mono ?_
          clear C
          rintro e W42 ⟨_, rfl, rfl, y42⟩
          have q42 := y42.size
          replace X := ext_trans X y42
          replace r0 := r0.ext y42
          replace mx := mx.ext y42
          replace o1 := o1.ext y42
          replace k3 := cell_ext k3 y42
          replace o2 := o2.ext y42
          replace k5 := cell_ext k5 y42
          replace o3 := o3.ext y42
          replace k7 := cell_ext k7 y42
          replace o4 := o4.ext y42
          replace k9 := cell_ext k9 y42
          replace o5 := o5.ext y42
          replace o6 := o6.ext y42
          replace k11 := cell_ext k11 y42
          replace k12 := cell_ext k12 y42
          replace o7 := o7.ext y42
          replace k13 := cell_ext k13 y42
          clear y42
          go_wp2_with fail
          go_ret
          exact ⟨rfl, X⟩
    · have hfs := HPB.out rfl
      have HFS := hid hfs
      clear hfs
      have eS : (s.toList == s.toList) = true := by simp
      go_wp2_with fail
      have y32 := Below.drew (ext_refl W32)
      have qd32 := y32.size
      replace X := ext_trans X y32
      replace r0 := r0.ext y32
      replace mx := mx.ext y32
      replace o1 := o1.ext y32
      replace k3 := cell_ext k3 y32
      replace o2 := o2.ext y32
      replace k5 := cell_ext k5 y32
      replace o3 := o3.ext y32
      replace k7 := cell_ext k7 y32
      replace o4 := o4.ext y32
      replace k9 := cell_ext k9 y32
      replace o5 := o5.ext y32
      replace o6 := o6.ext y32
      replace k11 := cell_ext k11 y32
      replace k12 := cell_ext k12 y32
      replace o7 := o7.ext y32
      replace k13 := cell_ext k13 y32
      clear y32
      refine wp_region_held_drew (S := fun w' => w'.cell? ⟨W12.heap.size, 0, none⟩ = some (.slice a13_0 (za.length) c13_0) ∧ w'.cell? ⟨W12.heap.size + 1, 0, none⟩ = some (.slice a13_1 (zb.length) c13_1) ∧ w'.cell? ⟨W14.heap.size, 0, none⟩ = some (.slice a15' (zp.length) c15') ∧ w'.cell? ⟨W8.heap.size, 0, none⟩ = some (.slice a9' (yp.length) c9')) (by kernel_rfl) (by exact ⟨k11, k12, k13, k7⟩) (fun hHeld => ?_)
      refine wpAnyH_take (i := 0) (v := ?v81) rfl (by kernel_rfl) (by kernel_rfl) (by kernel_rfl) (fun _ _ _ h => h) (Or.inl ⟨by kernel_rfl, ?hy81⟩) hHeld ?rest81
      case hy81 =>
        intro w hSw
        (try dsimp only at hSw)
        go_simp
        try with_reducible rfl
      simp only [Act.put, List.getElem_toArray, List.getElem_cons_zero, List.setIfInBounds_toArray, List.set_cons_zero, List.set_cons_succ]
      refine wpAnyH_take (i := 1) (v := ?v82) rfl (by kernel_rfl) (by kernel_rfl) (by kernel_rfl) (fun _ _ _ h => h) (Or.inl ⟨by kernel_rfl, ?hy82⟩) hHeld ?rest82
      case hy82 =>
        intro w hSw
        (try dsimp only at hSw)
        go_simp
        try with_reducible rfl
      simp only [Act.put, List.getElem_toArray, List.getElem_cons_succ, List.getElem_cons_zero, List.setIfInBounds_toArray, List.set_cons_zero, List.set_cons_succ]
      refine wpAnyH_take (i := 3) (v := ?v83) rfl (by kernel_rfl) (by kernel_rfl) (by kernel_rfl) (fun _ _ _ h => h) (Or.inl ⟨by kernel_rfl, ?hy83⟩) hHeld ?rest83
      case hy83 =>
        intro w hSw
        (try dsimp only at hSw)
        go_simp
        try with_reducible rfl
      simp only [Act.put, List.getElem_toArray, List.getElem_cons_succ, List.getElem_cons_zero, List.setIfInBounds_toArray, List.set_cons_zero, List.set_cons_succ]
      refine wpAnyH_take (i := 4) (v := ?v84) rfl (by kernel_rfl) (by kernel_rfl) (by kernel_rfl) (fun _ _ _ h => h) (Or.inl ⟨by kernel_rfl, ?hy84⟩) hHeld ?rest84
      case hy84 =>
        intro w hSw
        (try dsimp only at hSw)
        go_simp
        try with_reducible rfl
      simp only [Act.put, List.getElem_toArray, List.getElem_cons_succ, List.getElem_cons_zero, List.setIfInBounds_toArray, List.set_cons_zero, List.set_cons_succ]
      refine wpAnyH_ready (rs := [2]) (by kernel_rfl) (by simp) ?_
      refine AllReadyH.cons rfl (fun K hK => ?_) AllReadyH.nil
      go_simp
      go_at_call 45
      have C := implCompareNames_c o5 o6
      rw [HK.out] at C
      refine C.mono ?_
      clear C
      rintro e W33 ⟨_, rfl, rfl, y33⟩
      have q33 := y33.size
      replace X := ext_trans X y33
      replace r0 := r0.ext y33
      replace mx := mx.ext y33
      replace o1 := o1.ext y33
      replace k3 := cell_ext k3 y33
      replace o2 := o2.ext y33
      replace k5 := cell_ext k5 y33
      replace o3 := o3.ext y33
      replace k7 := cell_ext k7 y33
      replace o4 := o4.ext y33
      replace k9 := cell_ext k9 y33
      replace o5 := o5.ext y33
      replace o6 := o6.ext y33
      replace k11 := cell_ext k11 y33
      replace k12 := cell_ext k12 y33
      replace o7 := o7.ext y33
      replace k13 := cell_ext k13 y33
      clear y33
      refine hK.out _ _ (by exact ⟨k11, k12, k13, k7⟩) (fun hHeld => ?_)
      clear hK K
      refine wpAnyH_ready (rs := [5]) (by kernel_rfl) (by simp) ?_
      refine AllReadyH.cons rfl (fun K hK => ?_) AllReadyH.nil
      go_simp
      go_at_call 45
      have C := implCompareNames_c o6 o5
      rw [HN.out] at C
      refine C.mono ?_
      clear C
      rintro e W34 ⟨_, rfl, rfl, y34⟩
      have q34 := y34.size
      replace X := ext_trans X y34
      replace r0 := r0.ext y34
      replace mx := mx.ext y34
      replace o1 := o1.ext y34
      replace k3 := cell_ext k3 y34
      replace o2 := o2.ext y34
      replace k5 := cell_ext k5 y34
      replace o3 := o3.ext y34
      replace k7 := cell_ext k7 y34
      replace o4 := o4.ext y34
      replace k9 := cell_ext k9 y34
      replace o5 := o5.ext y34
      replace o6 := o6.ext y34
      replace k11 := cell_ext k11 y34
      replace k12 := cell_ext k12 y34
      replace o7 := o7.ext y34
      replace k13 := cell_ext k13 y34
      clear y34
      refine hK.out _ _ (by exact ⟨k11, k12, k13, k7⟩) (fun hHeld => ?_)
      clear hK K
      refine wpAnyH_take (i := 6) (v := ?v85) rfl (by kernel_rfl) (by kernel_rfl) (by kernel_rfl) (fun _ _ _ h => h) (Or.inl ⟨by kernel_rfl, ?hy85⟩) hHeld ?rest85
      case hy85 =>
        intro w hSw
        (try dsimp only at hSw)
        go_simp
        try with_reducible rfl
      simp only [Act.put, List.getElem_toArray, List.getElem_cons_succ, List.getElem_cons_zero, List.setIfInBounds_toArray, List.set_cons_zero, List.set_cons_succ]
      refine wpAnyH_take (i := 7) (v := ?v86) rfl (by kernel_rfl) (by kernel_rfl) (by kernel_rfl) (fun _ _ _ h => h) (Or.inl ⟨by kernel_rfl, ?hy86⟩) hHeld ?rest86
      case hy86 =>
        intro w hSw
        (try dsimp only at hSw)
        go_simp
        try with_reducible rfl
      simp only [Act.put, List.getElem_toArray, List.getElem_cons_succ, List.getElem_cons_zero, List.setIfInBounds_toArray, List.set_cons_zero, List.set_cons_succ]
      refine wpAnyH_take (i := 8) (v := ?v87) rfl (by kernel_rfl) (by kernel_rfl) (by kernel_rfl) (fun _ _ _ h => h) (Or.inl ⟨by kernel_rfl, ?hy87⟩) hHeld ?rest87
      case hy87 =>
        intro w hSw
        (try dsimp only at hSw)
        go_simp
        try with_reducible rfl
      simp only [Act.put, List.getElem_toArray, List.getElem_cons_succ, List.getElem_cons_zero, List.setIfInBounds_toArray, List.set_cons_zero, List.set_cons_succ]
      refine wpAnyH_take (i := 9) (v := ?v88) rfl (by kernel_rfl) (by kernel_rfl) (by kernel_rfl) (fun _ _ _ h => h) (Or.inl ⟨by kernel_rfl, ?hy88⟩) hHeld ?rest88
      case hy88 =>
        intro w hSw
        (try dsimp only at hSw)
        go_simp
        try with_reducible rfl
      simp only [Act.put, List.getElem_toArray, List.getElem_cons_succ, List.getElem_cons_zero, List.setIfInBounds_toArray, List.set_cons_zero, List.set_cons_succ]
      refine wpAnyH_take (i := 10) (v := ?v89) rfl (by kernel_rfl) (by kernel_rfl) (by kernel_rfl) (fun _ _ _ h => h) (Or.inl ⟨by kernel_rfl, ?hy89⟩) hHeld ?rest89
      case hy89 =>
        intro w hSw
        (try dsimp only at hSw)
        go_simp
        try with_reducible rfl
      simp only [Act.put, List.getElem_toArray, List.getElem_cons_succ, List.getElem_cons_zero, List.setIfInBounds_toArray, List.set_cons_zero, List.set_cons_succ]
      refine wpAnyH_take (i := 13) (v := ?v90) rfl (by kernel_rfl) (by kernel_rfl) (by kernel_rfl) (fun _ _ _ h => h) (Or.inl ⟨by kernel_rfl, ?hy90⟩) hHeld ?rest90
      case hy90 =>
        intro w hSw
        (try dsimp only at hSw)
        go_simp
        try with_reducible rfl
      simp only [Act.put, List.getElem_toArray, List.getElem_cons_succ, List.getElem_cons_zero, List.setIfInBounds_toArray, List.set_cons_zero, List.set_cons_succ]
      refine wpAnyH_take (i := 14) (v := ?v91) rfl (by kernel_rfl) (by kernel_rfl) (by kernel_rfl) (fun _ _ _ h => h) (Or.inl ⟨by kernel_rfl, ?hy91⟩) hHeld ?rest91
      case hy91 =>
        intro w hSw
        (try dsimp only at hSw)
        go_simp
        try with_reducible rfl
      simp only [Act.put, List.getElem_toArray, List.getElem_cons_succ, List.getElem_cons_zero, List.setIfInBounds_toArray, List.set_cons_zero, List.set_cons_succ]
      refine wpAnyH_ready (rs := [11]) (by kernel_rfl) (by simp) ?_
      refine AllReadyH.cons rfl (fun K hK => ?_) AllReadyH.nil
      rw [if_pos (by kernel_rfl)]
      go_simp
      go_at_call 45
      have C := implCompareNames_c o5 o6
      rw [HK.out] at C
      refine C.mono ?_
      clear C
      rintro e W35 ⟨_, rfl, rfl, y35⟩
      have q35 := y35.size
      replace X := ext_trans X y35
      replace r0 := r0.ext y35
      replace mx := mx.ext y35
      replace o1 := o1.ext y35
      replace k3 := cell_ext k3 y35
      replace o2 := o2.ext y35
      replace k5 := cell_ext k5 y35
      replace o3 := o3.ext y35
      replace k7 := cell_ext k7 y35
      replace o4 := o4.ext y35
      replace k9 := cell_ext k9 y35
      replace o5 := o5.ext y35
      replace o6 := o6.ext y35
      replace k11 := cell_ext k11 y35
      replace k12 := cell_ext k12 y35
      replace o7 := o7.ext y35
      replace k13 := cell_ext k13 y35
      clear y35
      refine hK.out _ _ (by exact ⟨k11, k12, k13, k7⟩) (fun hHeld => ?_)
      clear hK K
      refine wpAnyH_take (i := 12) (v := ?v92) rfl (by kernel_rfl) (by kernel_rfl) (by kernel_rfl) (fun _ _ _ h => h) (Or.inl ⟨by kernel_rfl, ?hy92⟩) hHeld ?rest92
      case hy92 =>
        intro w hSw
        (try dsimp only at hSw)
        go_simp
        try with_reducible rfl
      simp only [Act.put, List.getElem_toArray, List.getElem_cons_succ, List.getElem_cons_zero, List.setIfInBounds_toArray, List.set_cons_zero, List.set_cons_succ]
      refine wpAnyH_ready (rs := [15]) (by kernel_rfl) (by simp) ?_
      refine AllReadyH.cons rfl (fun K hK => ?_) AllReadyH.nil
      rw [if_pos (by kernel_rfl)]
      go_simp
      go_at_call 31
      have C := sameName_c o5 o6
      rw [HQ2.out] at C
      refine C.mono ?_
      clear C
      rintro e W36 ⟨_, rfl, rfl, y36⟩
      have q36 := y36.size
      replace X := ext_trans X y36
      replace r0 := r0.ext y36
      replace mx := mx.ext y36
      replace o1 := o1.ext y36
      replace k3 := cell_ext k3 y36
      replace o2 := o2.ext y36
      replace k5 := cell_ext k5 y36
      replace o3 := o3.ext y36
      replace k7 := cell_ext k7 y36
      replace o4 := o4.ext y36
      replace k9 := cell_ext k9 y36
      replace o5 := o5.ext y36
      replace o6 := o6.ext y36
      replace k11 := cell_ext k11 y36
      replace k12 := cell_ext k12 y36
      replace o7 := o7.ext y36
      replace k13 := cell_ext k13 y36
      clear y36
      refine hK.out _ _ (by exact ⟨k11, k12, k13, k7⟩) (fun hHeld => ?_)
      clear hK K
      refine wpAnyH_take (i := 16) (v := ?v93) rfl (by kernel_rfl) (by kernel_rfl) (by kernel_rfl) (fun _ _ _ h => h) (Or.inl ⟨by kernel_rfl, ?hy93⟩) hHeld ?rest93
      case hy93 =>
        intro w hSw
        (try dsimp only at hSw)
        go_simp
        try with_reducible rfl
      simp only [Act.put, List.getElem_toArray, List.getElem_cons_succ, List.getElem_cons_zero, List.setIfInBounds_toArray, List.set_cons_zero, List.set_cons_succ]
      refine wpAnyH_take (i := 17) (v := ?v94) rfl (by kernel_rfl) (by kernel_rfl) (by kernel_rfl) (fun _ _ _ h => h) (Or.inl ⟨by kernel_rfl, ?hy94⟩) hHeld ?rest94
      case hy94 =>
        intro w hSw
        (try dsimp only at hSw)
        go_simp
        try with_reducible rfl
      simp only [Act.put, List.getElem_toArray, List.getElem_cons_succ, List.getElem_cons_zero, List.setIfInBounds_toArray, List.set_cons_zero, List.set_cons_succ]
      refine wpAnyH_take (i := 18) (v := ?v95) rfl (by kernel_rfl) (by kernel_rfl) (by kernel_rfl) (fun _ _ _ h => h) (Or.inl ⟨by kernel_rfl, ?hy95⟩) hHeld ?rest95
      case hy95 =>
        intro w hSw
        (try dsimp only at hSw)
        go_simp
        try with_reducible rfl
      simp only [Act.put, List.getElem_toArray, List.getElem_cons_succ, List.getElem_cons_zero, List.setIfInBounds_toArray, List.set_cons_zero, List.set_cons_succ]
      refine wpAnyH_take (i := 19) (v := ?v96) rfl (by kernel_rfl) (by kernel_rfl) (by kernel_rfl) (fun _ _ _ h => h) (Or.inl ⟨by kernel_rfl, ?hy96⟩) hHeld ?rest96
      case hy96 =>
        intro w hSw
        (try dsimp only at hSw)
        go_simp
        try with_reducible rfl
      simp only [Act.put, List.getElem_toArray, List.getElem_cons_succ, List.getElem_cons_zero, List.setIfInBounds_toArray, List.set_cons_zero, List.set_cons_succ]
      refine wpAnyH_take (i := 20) (v := ?v97) rfl (by kernel_rfl) (by kernel_rfl) (by kernel_rfl) (fun _ _ _ h => h) (Or.inl ⟨by kernel_rfl, ?hy97⟩) hHeld ?rest97
      case hy97 =>
        intro w hSw
        (try dsimp only at hSw)
        go_simp
        try with_reducible rfl
      simp only [Act.put, List.getElem_toArray, List.getElem_cons_succ, List.getElem_cons_zero, List.setIfInBounds_toArray, List.set_cons_zero, List.set_cons_succ]
      refine wpAnyH_take (i := 21) (v := ?v98) rfl (by kernel_rfl) (by kernel_rfl) (by kernel_rfl) (fun _ _ _ h => h) (Or.inl ⟨by kernel_rfl, ?hy98⟩) hHeld ?rest98
      case hy98 =>
        intro w hSw
        (try dsimp only at hSw)
        go_simp
        try with_reducible rfl
      simp only [Act.put, List.getElem_toArray, List.getElem_cons_succ, List.getElem_cons_zero, List.setIfInBounds_toArray, List.set_cons_zero, List.set_cons_succ]
      refine wpAnyH_ready (rs := [22]) (by kernel_rfl) (by simp) ?_
      refine AllReadyH.cons rfl (fun K hK => ?_) AllReadyH.nil
      rw [if_pos (by kernel_rfl)]
      go_simp
      go_at_call 47
      have C := implTruncate_c (k := kk) o7 (by omega)
      rw [HTK.out, HZT.out] at C
      refine C.mono ?_
      clear C
      rintro e W37 ⟨u10, rfl, o10, y37⟩
      have q37 := y37.size
      replace X := ext_trans X y37
      replace r0 := r0.ext y37
      replace mx := mx.ext y37
      replace o1 := o1.ext y37
      replace k3 := cell_ext k3 y37
      replace o2 := o2.ext y37
      replace k5 := cell_ext k5 y37
      replace o3 := o3.ext y37
      replace k7 := cell_ext k7 y37
      replace o4 := o4.ext y37
      replace k9 := cell_ext k9 y37
      replace o5 := o5.ext y37
      replace o6 := o6.ext y37
      replace k11 := cell_ext k11 y37
      replace k12 := cell_ext k12 y37
      replace o7 := o7.ext y37
      replace k13 := cell_ext k13 y37
      clear y37
      refine hK.out _ _ (by exact ⟨k11, k12, k13, k7⟩) (fun hHeld => ?_)
      clear hK K
      refine wpAnyH_ready (rs := [23]) (by kernel_rfl) (by simp) ?_
      refine AllReadyH.cons rfl (fun K hK => ?_) AllReadyH.nil
      rw [if_pos (by kernel_rfl)]
      go_simp
      go_at_call 53
      have C := implHasPrefix_c o7 o10.rd
      rw [HPT.out] at C
      refine C.mono ?_
      clear C
      rintro e W38 ⟨_, rfl, rfl, y38⟩
      have q38 := y38.size
      replace X := ext_trans X y38
      replace r0 := r0.ext y38
      replace mx := mx.ext y38
      replace o1 := o1.ext y38
      replace k3 := cell_ext k3 y38
      replace o2 := o2.ext y38
      replace k5 := cell_ext k5 y38
      replace o3 := o3.ext y38
      replace k7 := cell_ext k7 y38
      replace o4 := o4.ext y38
      replace k9 := cell_ext k9 y38
      replace o5 := o5.ext y38
      replace o6 := o6.ext y38
      replace k11 := cell_ext k11 y38
      replace k12 := cell_ext k12 y38
      replace o7 := o7.ext y38
      replace k13 := cell_ext k13 y38
      replace o10 := o10.ext y38
      clear y38
      refine hK.out _ _ (by exact ⟨k11, k12, k13, k7⟩) (fun hHeld => ?_)
      clear hK K
      refine wpAnyH_take (i := 24) (v := ?v99) rfl (by kernel_rfl) (by kernel_rfl) (by kernel_rfl) (fun _ _ _ h => h) (Or.inl ⟨by kernel_rfl, ?hy99⟩) hHeld ?rest99
      case hy99 =>
        intro w hSw
        (try dsimp only at hSw)
        go_simp
        try with_reducible rfl
      simp only [Act.put, List.getElem_toArray, List.getElem_cons_succ, List.getElem_cons_zero, List.setIfInBounds_toArray, List.set_cons_zero, List.set_cons_succ]
      refine wpAnyH_take (i := 25) (v := ?v100) rfl (by kernel_rfl) (by kernel_rfl) (by kernel_rfl) (fun _ _ _ h => h) (Or.inl ⟨by kernel_rfl, ?hy100⟩) hHeld ?rest100
      case hy100 =>
        intro w hSw
        (try dsimp only at hSw)
        go_simp
        try with_reducible rfl
      simp only [Act.put, List.getElem_toArray, List.getElem_cons_succ, List.getElem_cons_zero, List.setIfInBounds_toArray, List.set_cons_zero, List.set_cons_succ]
      refine wpAnyH_take (i := 26) (v := ?v101) rfl (by kernel_rfl) (by kernel_rfl) (by kernel_rfl) (fun _ _ _ h => h) (Or.inl ⟨by kernel_rfl, ?hy101⟩) hHeld ?rest101
      case hy101 =>
        intro w hSw
        (try dsimp only at hSw)
        go_simp
        try with_reducible rfl
      simp only [Act.put, List.getElem_toArray, List.getElem_cons_succ, List.getElem_cons_zero, List.setIfInBounds_toArray, List.set_cons_zero, List.set_cons_succ]
      refine wpAnyH_take (i := 27) (v := ?v102) rfl (by kernel_rfl) (by kernel_rfl) (by kernel_rfl) (fun _ _ _ h => h) (Or.inl ⟨by kernel_rfl, ?hy102⟩) hHeld ?rest102
      case hy102 =>
        intro w hSw
        (try dsimp only at hSw)
        go_simp
        try with_reducible rfl
      simp only [Act.put, List.getElem_toArray, List.getElem_cons_succ, List.getElem_cons_zero, List.setIfInBounds_toArray, List.set_cons_zero, List.set_cons_succ]
      refine wpAnyH_take (i := 28) (v := ?v103) rfl (by kernel_rfl) (by kernel_rfl) (by kernel_rfl) (fun _ _ _ h => h) (Or.inl ⟨by kernel_rfl, ?hy103⟩) hHeld ?rest103
      case hy103 =>
        intro w hSw
        (try dsimp only at hSw)
        go_simp
        try with_reducible rfl
      simp only [Act.put, List.getElem_toArray, List.getElem_cons_succ, List.getElem_cons_zero, List.setIfInBounds_toArray, List.set_cons_zero, List.set_cons_succ]
      refine wpAnyH_take (i := 29) (v := ?v104) rfl (by kernel_rfl) (by kernel_rfl) (by kernel_rfl) (fun _ _ _ h => h) (Or.inl ⟨by kernel_rfl, ?hy104⟩) hHeld ?rest104
      case hy104 =>
        intro w hSw
        (try dsimp only at hSw)
        go_simp
        try with_reducible rfl
      simp only [Act.put, List.getElem_toArray, List.getElem_cons_succ, List.getElem_cons_zero, List.setIfInBounds_toArray, List.set_cons_zero, List.set_cons_succ]
      refine wpAnyH_take (i := 31) (v := ?v105) rfl (by kernel_rfl) (by kernel_rfl) (by kernel_rfl) (fun _ _ _ h => h) (Or.inl ⟨by kernel_rfl, ?hy105⟩) hHeld ?rest105
      case hy105 =>
        intro w hSw
        (try dsimp only at hSw)
        go_simp
        try with_reducible rfl
      simp only [Act.put, List.getElem_toArray, List.getElem_cons_succ, List.getElem_cons_zero, List.setIfInBounds_toArray, List.set_cons_zero, List.set_cons_succ]
      refine wpAnyH_ready (rs := [30]) (by kernel_rfl) (by simp) ?_
      refine AllReadyH.cons rfl (fun K hK => ?_) AllReadyH.nil
      rw [if_pos (by kernel_rfl)]
      go_simp
      go_at_call 40
      have C := implFormatName_c o3.rd (by omega)
      rw [HFS.out] at C
      refine C.mono ?_
      clear C
      rintro e W39 ⟨_, rfl, rfl, y39⟩
      have q39 := y39.size
      replace X := ext_trans X y39
      replace r0 := r0.ext y39
      replace mx := mx.ext y39
      replace o1 := o1.ext y39
      replace k3 := cell_ext k3 y39
      replace o2 := o2.ext y39
      replace k5 := cell_ext k5 y39
      replace o3 := o3.ext y39
      replace k7 := cell_ext k7 y39
      replace o4 := o4.ext y39
      replace k9 := cell_ext k9 y39
      replace o5 := o5.ext y39
      replace o6 := o6.ext y39
      replace k11 := cell_ext k11 y39
      replace k12 := cell_ext k12 y39
      replace o7 := o7.ext y39
      replace k13 := cell_ext k13 y39
      replace o10 := o10.ext y39
      clear y39
      refine hK.out _ _ (by exact ⟨k11, k12, k13, k7⟩) (fun hHeld => ?_)
      clear hK K
      refine wpAnyH_take (i := 32) (v := ?v106) rfl (by kernel_rfl) (by kernel_rfl) (by kernel_rfl) (fun _ _ _ h => h) (Or.inl ⟨by kernel_rfl, ?hy106⟩) hHeld ?rest106
      case hy106 =>
        intro w hSw
        (try dsimp only at hSw)
        go_simp
        try with_reducible rfl
      simp only [Act.put, List.getElem_toArray, List.getElem_cons_succ, List.getElem_cons_zero, List.setIfInBounds_toArray, List.set_cons_zero, List.set_cons_succ]
      refine wpAnyH_take (i := 33) (v := ?v107) rfl (by kernel_rfl) (by kernel_rfl) (by kernel_rfl) (fun _ _ _ h => h) (Or.inl ⟨by kernel_rfl, ?hy107⟩) hHeld ?rest107
      case hy107 =>
        intro w hSw
        (try dsimp only at hSw)
        go_simp
        try with_reducible rfl
      simp only [Act.put, List.getElem_toArray, List.getElem_cons_succ, List.getElem_cons_zero, List.setIfInBounds_toArray, List.set_cons_zero, List.set_cons_succ]
      refine wpAnyH_take (i := 34) (v := ?v108) rfl (by kernel_rfl) (by kernel_rfl) (by kernel_rfl) (fun _ _ _ h => h) (Or.inl ⟨by kernel_rfl, ?hy108⟩) hHeld ?rest108
      case hy108 =>
        intro w hSw
        (try dsimp only at hSw)
        go_simp
        try with_reducible rfl
      simp only [Act.put, List.getElem_toArray, List.getElem_cons_succ, List.getElem_cons_zero, List.setIfInBounds_toArray, List.set_cons_zero, List.set_cons_succ]
      refine wpAnyH_done (by kernel_rfl) ?_ _
      clear o10
      cases vx
      · skip
        go_wp2_with fail
        have C := implValidName_c o1 hxs.out
        rw [HVX.out] at C
        refine C.mono ?_
        clear C
        rintro e W40 ⟨_, rfl, rfl, y40⟩
        have q40 := y40.size
        replace X := ext_trans X y40
        replace r0 := r0.ext y40
        replace mx := mx.ext y40
        replace o1 := o1.ext y40
        replace k3 := cell_ext k3 y40
        replace o2 := o2.ext y40
        replace k5 := cell_ext k5 y40
        replace o3 := o3.ext y40
        replace k7 := cell_ext k7 y40
        replace o4 := o4.ext y40
        replace k9 := cell_ext k9 y40
        replace o5 := o5.ext y40
        replace o6 := o6.ext y40
        replace k11 := cell_ext k11 y40
        replace k12 := cell_ext k12 y40
        replace o7 := o7.ext y40
        replace k13 := cell_ext k13 y40
        clear y40
        cases pf
        · skip
          go_wp2_with fail
          have C := implHasPrefix_c o5 o6
          rw [HPFX.out] at C
          refine C.mono ?_
          clear C
          rintro e W41 ⟨_, rfl, rfl, y41⟩
          have q41 := y41.size
          replace X := ext_trans X y41
          replace r0 := r0.ext y41
          replace mx := mx.ext y41
          replace o1 := o1.ext y41
          replace k3 := cell_ext k3 y41
          replace o2 := o2.ext y41
          replace k5 := cell_ext k5 y41
          replace o3 := o3.ext y41
          replace k7 := cell_ext k7 y41
          replace o4 := o4.ext y41
          replace k9 := cell_ext k9 y41
          replace o5 := o5.ext y41
          replace o6 := o6.ext y41
          replace k11 := cell_ext k11 y41
          replace k12 := cell_ext k12 y41
          replace o7 := o7.ext y41
          replace k13 := cell_ext k13 y41
          clear y41
          go_wp2_with fail
          go_ret
          exact ⟨rfl, X⟩
        · skip
          go_wp2_with fail
          have C := implHasPrefix_c o5 o6
          rw [HPFX.out] at C
          refine C.mono ?_
          clear C
          rintro e W41 ⟨_, rfl, rfl, y41⟩
          have q41 := y41.size
          replace X := ext_trans X y41
          replace r0 := r0.ext y41
          replace mx := mx.ext y41
          replace o1 := o1.ext y41
          replace k3 := cell_ext k3 y41
          replace o2 := o2.ext y41
          replace k5 := cell_ext k5 y41
          replace o3 := o3.ext y41
          replace k7 := cell_ext k7 y41
          replace o4 := o4.ext y41
          replace k9 := cell_ext k9 y41
          replace o5 := o5.ext y41
          replace o6 := o6.ext y41
          replace k11 := cell_ext k11 y41
          replace k12 := cell_ext k12 y41
          replace o7 := o7.ext y41
          replace k13 := cell_ext k13 y41
          clear y41
          have hle2 := HLE.out HPFX.out
          go_wp2_with fail
          have C := implCompareNames_c o6 o5
          rw [HN.out] at C
          refine C.mono ?_
          clear C
          rintro e W42 ⟨_, rfl, rfl, y42⟩
          have q42 := y42.size
          replace X := ext_trans X y42
          replace r0 := r0.ext y42
          replace mx := mx.ext y42
          replace o1 := o1.ext y42
          replace k3 := cell_ext k3 y42
          replace o2 := o2.ext y42
          replace k5 := cell_ext k5 y42
          replace o3 := o3.ext y42
          replace k7 := cell_ext k7 y42
          replace o4 := o4.ext y42
          replace k9 := cell_ext k9 y42
          replace o5 := o5.ext y42
          replace o6 := o6.ext y42
          replace k11 := cell_ext k11 y42
          replace k12 := cell_ext k12 y42
          replace o7 := o7.ext y42
          replace k13 := cell_ext k13 y42
          clear y42
          go_wp2_with fail
          go_ret
          exact ⟨rfl, X⟩
      · obtain ⟨rfl, rfl⟩ := HPF.out HVX.out
        go_wp2_with fail
        have C := implValidName_c o1 hxs.out
        rw [HVX.out] at C
        refine C.mono ?_
        clear C
        rintro e W40 ⟨_, rfl, rfl, y40⟩
        have q40 := y40.size
        replace X := ext_trans X y40
        replace r0 := r0.ext y40
        replace mx := mx.ext y40
        replace o1 := o1.ext y40
        replace k3 := cell_ext k3 y40
        replace o2 := o2.ext y40
        replace k5 := cell_ext k5 y40
        replace o3 := o3.ext y40
        replace k7 := cell_ext k7 y40
        replace o4 := o4.ext y40
        replace k9 := cell_ext k9 y40
        replace o5 := o5.ext y40
        replace o6 := o6.ext y40
        replace k11 := cell_ext k11 y40
        replace k12 := cell_ext k12 y40
        replace o7 := o7.ext y40
        replace k13 := cell_ext k13 y40
        clear y40
        go_wp2_with fail
        have C := sameName_c o2.rd o1
        rw [decide_eq_true rfl] at C
        refine C.mono ?_
        clear C
        rintro e W41 ⟨_, rfl, rfl, y41⟩
        have q41 := y41.size
        replace X := ext_trans X y41
        replace r0 := r0.ext y41
        replace mx := mx.ext y41
        replace o1 := o1.ext y41
        replace k3 := cell_ext k3 y41
        replace o2 := o2.ext y41
        replace k5 := cell_ext k5 y41
        replace o3 := o3.ext y41
        replace k7 := cell_ext k7 y41
        replace o4 := o4.ext y41
        replace k9 := cell_ext k9 y41
        replace o5 := o5.ext y41
        replace o6 := o6.ext y41
        replace k11 := cell_ext k11 y41
        replace k12 := cell_ext k12 y41
        replace o7 := o7.ext y41
        replace k13 := cell_ext k13 y41
        clear y41
        cases pf
        · skip
          go_wp2_with fail
          have C := implHasPrefix_c o5 o6
          rw [HPFX.out] at C
          refine C.mono ?_
          clear C
          rintro e W42 ⟨_, rfl, rfl, y42⟩
          have q42 := y42.size
          replace X := ext_trans X y42
          replace r0 := r0.ext y42
          replace mx := mx.ext y42
          replace o1 := o1.ext y42
          replace k3 := cell_ext k3 y42
          replace o2 := o2.ext y42
          replace k5 := cell_ext k5 y42
          replace o3 := o3.ext y42
          replace k7 := cell_ext k7 y42
          replace o4 := o4.ext y42
          replace k9 := cell_ext k9 y42
          replace o5 := o5.ext y42
          replace o6 := o6.ext y42
          replace k11 := cell_ext k11 y42
          replace k12 := cell_ext k12 y42
          replace o7 := o7.ext y42
          replace k13 := cell_ext k13 y42
          clear y42
          go_wp2_with fail
          go_ret
          exact ⟨rfl, X⟩
        · skip
          go_wp2_with fail
          have C := implHasPrefix_c o5 o6
          rw [HPFX.out] at C
          refine C.mono ?_
          clear C
          rintro e W42 ⟨_, rfl, rfl, y42⟩
          have q42 := y42.size
          replace X := ext_trans X y42
          replace r0 := r0.ext y42
          replace mx := mx.ext y42
          replace o1 := o1.ext y42
          replace k3 := cell_ext k3 y42
          replace o2 := o2.ext y42
          replace k5 := cell_ext k5 y42
          replace o3 := o3.ext y42
          replace k7 := cell_ext k7 y42
          replace o4 := o4.ext y42
          replace k9 := cell_ext k9 y42
          replace o5 := o5.ext y42
          replace o6 := o6.ext y42
          replace k11 := cell_ext k11 y42
          replace k12 := cell_ext k12 y42
          replace o7 := o7.ext y42
          replace k13 := cell_ext k13 y42
          clear y42
          have hle2 := HLE.out HPFX.out
          go_wp2_with fail
          have C := implCompareNames_c o6 o5
          rw [HN.out] at C
          refine C.mono ?_
          clear C
          rintro e W43 ⟨_, rfl, rfl, y43⟩
          have q43 := y43.size
          replace X := ext_trans X y43
          replace r0 := r0.ext y43
          replace mx := mx.ext y43
          replace o1 := o1.ext y43
          replace k3 := cell_ext k3 y43
          replace o2 := o2.ext y43
          replace k5 := cell_ext k5 y43
          replace o3 := o3.ext y43
          replace k7 := cell_ext k7 y43
          replace o4 := o4.ext y43
          replace k9 := cell_ext k9 y43
          replace o5 := o5.ext y43
          replace o6 := o6.ext y43
          replace k11 := cell_ext k11 y43
          replace k12 := cell_ext k12 y43
          replace o7 := o7.ext y43
          replace k13 := cell_ext k13 y43
          clear y43
          go_wp2_with fail
          go_ret
          exact ⟨rfl, X⟩
theorem all_met (os : Os) (args : Array Value) : laidMetH Tryd.prog Rows.fnNamesRow.laid ((World.laidAll Tryd.prog os Rows.fnNamesRow.laid).forCall (fun _ _ => 0) ⟨#[], args, []⟩).memory := by
  rw [MakeChecks.laidMetH_plain _ _ _ (by kernel_rfl)]
  exact laidMet_laidAll _ (by kernel_rfl) (by kernel_rfl)
set_option maxRecDepth 100000 in
theorem lifted (os : Os) (started : os.Started) (H : Type) (enc : TypeId × Value → H) :
    ReturnsInHanded {} Tryd.checked os 6 .any (fun w args => (Rows.fnNamesSpec.pre enc Tryd.prog Tryd.f6 [] false w args ∧ laidMetH Tryd.prog Rows.fnNamesRow.laid w) ∧ sizedMet enc Tryd.prog Tryd.f6 (OpenSpec.ofChange Rows.fnNamesSpec) false w args)
      (Rows.fnNamesSpec.post enc Tryd.prog Tryd.f6 false true false false) := by
  refine returnsInHanded_of_calls own started (by kernel_rfl)
    (ChangeSpec.witness_shaped (enc := enc) (C := Tryd.checked) (os := os) (X := fun w _ => laidMetH Tryd.prog Rows.fnNamesRow.laid w) false (World.laidAll Tryd.prog os Rows.fnNamesRow.laid) #[.slice none 0 0] 8 (World.laidAll_os _ _ _) (World.shaped_of_ZipB (by kernel_rfl) (by kernel_rfl)) (by kernel_rfl) (by kernel_rfl) (by kernel_rfl) (all_met os _)) ?_
  intro w0 tape inp _ hsh _ hok hpre _
  obtain ⟨_, _, _, fn', hfn', _, _, _, _, hval0⟩ := hok
  have efn : fn' = Tryd.f6 := Option.some.inj (hfn'.symm.trans Tryd.func6)
  subst efn
  obtain ⟨⟨⟨ds, gs, before, hw, _⟩, _⟩, _⟩ := hpre
  have hW := DataW.Whole.of_heap (w' := w0.forCall tape inp) (by rfl) hw
  have hmx : Mx (w0.forCall tape inp) := Tryd.laysM146.s1_3 _ hsh
  suffices hg : Calls Tryd.prog 6 inp.args (w0.forCall tape inp) fun e W' => ∃ v, e = .returned v ∧ Rows.fnNamesSpec.post enc Tryd.prog Tryd.f6 false true false false (w0.forCall tape inp) inp.args v W' from
    hg.mono fun e W' ⟨v, he, hp⟩ => by
      subst he
      exact ChangeSpec.post_blind hp
  generalize w0.forCall tape inp = W at *
  generalize inp.args = args at *
  clear hw hsh
  have hval : ∀ (j : Nat) t v, Tryd.f6.params[j]? = some t → args[j]? = some v → Value.okWide Tryd.prog W .any w0.heap.size t v := hval0
  have hW' := hW
  obtain ⟨p, q, hA0, hV, rfl, hfz, hnd⟩ := hW
  have hA : DataW.TrodAll enc Tryd.prog W 0 (fun _ => true) true Tryd.f6.params.toList args.toList ds p := hA0
  rw [Tryd.params6] at hA hval
  obtain ⟨v0, d0, rfl, rfl, h0⟩ := trodAll_one hA
  obtain ⟨rfl, rfl⟩ := trodVars_none hV
  have k0 := h0
  have lt0 : ∀ x ∈ p, x.block < W.heap.size := by obtain ⟨m, hm⟩ := k0; exact DataW.trod_lt m _ _ _ hm
  obtain ⟨n0, x0, r0⟩ := rd_bytes Tryd.underlying35 Tryd.underlying5 (by kernel_rfl) (hval 0 35 v0 rfl rfl) h0
  clear hA0 hval0
  simp only [List.append_nil] at hW'
  refine (walk W v0 n0 x0 r0 hmx).mono fun e W' ⟨he, bel⟩ => ?_
  subst he
  exact ⟨_, rfl, _, _, _, [], _, [], hW', trodAll_mk1 (shut_bool Tryd.underlying4 _), trodAll_mk1 (Below.trod laidOut (by kernel_rfl) (of_decide_eq_true (by kernel_rfl)) k0 bel lt0), rfl, bel.frame _, fun h => by cases h⟩
theorem said : Rows.FnNamesSaid :=
  OpenClaim.holds_of_wide 6 Tryd.f6 rfl rfl rfl rfl rfl rfl rfl ⟨rfl, rfl, rfl, rfl, rfl⟩ rfl rfl rfl rfl rfl (by kernel_rfl) Tryd.func6 (by kernel_rfl)
    (of_decide_eq_true (by kernel_rfl)) (by unfold Func.isWrapper; first | (rw [if_pos (by decide +kernel)]; kernel_rfl) | (rw [if_neg (by decide +kernel)]; exact ⟨rfl, rfl⟩))
    (fun os started H enc _ => lifted os started H enc)
theorem proved : Rows.FnNamesCardSaid :=
  Claim7.holds_tied_plain_at .later [] [.data, .pinned] true (true, "2f6ac87a5c0f4c4aadf3efdd5aac87b55a9c0793223bb03498a1cff4615abe95") false
    said (fun _ h => by cases h) (by kernel_rfl) (fun _ h => by cases h) fnNames_row_tie rfl ⟨rfl, rfl⟩ (by kernel_rfl) rfl
    (fun f fn hf hfn => by
      obtain rfl : f = 6 := Option.some.inj ((show Tryd.prog.funcNamed "loop.example/g00507/laws.FnNames" = some 6 by kernel_rfl).symm.trans hf) |>.symm
      obtain rfl : fn = Tryd.f6 := (Option.some.inj (Tryd.func6.symm.trans hfn)).symm
      exact ⟨by kernel_rfl, fun j t ht => by
        rw [Tryd.params6] at ht
        have hm : t ∈ [35] := by simpa using Array.mem_of_getElem? ht
        have hall : ([35].all fun u => !Tryd.prog.wantsStandIn u) = true := by kernel_rfl
        exact (show Tryd.prog.wantsStandIn t = false by simpa using List.all_eq_true.1 hall t hm)⟩)
    (by kernel_rfl)
end fnNames
end Go.Proofs.YtoehjfcadhgpbaaDoor
