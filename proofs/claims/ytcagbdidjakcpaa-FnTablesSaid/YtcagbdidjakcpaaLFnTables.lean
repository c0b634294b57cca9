/- FnTables holds: a stored entry is found; the longest prefix is a prefix, and none is longer. No condition. -/
import Derived.Test.YtcagbdidjakcpaaFrame
import Derived.Test.YtcagbdidjakcpaaFrameN
import Derived.Test.YtcagbdidjakcpaaBig
import Derived.Test.YtcagbdidjakcpaaDl
import Derived.Test.YtcagbdidjakcpaaSr
import Derived.Test.YtcagbdidjakcpaaTl
import Derived.Test.YtcagbdidjakcpaaTabQ
import Derived.Test.YtcagbdidjakcpaaTabN
import Derived.Test.YtcagbdidjakcpaaHp
import Derived.Test.YtcagbdidjakcpaaJoined
import Derived.Deep.RegionHeld3
set_option linter.unusedVariables false
set_option linter.unusedSimpArgs false
namespace Go.Proofs.Ytcagbdidjakcpaa
open Go.RowKit
def Bl (w0 w : World) : Prop := Below w0.heap.size w0 w
theorem Bl.ext {w0 w w' : World} (h : Bl w0 w) (y : Below w.heap.size w w') : Bl w0 w' := ext_trans h y
theorem Rd.rd {w : World} {lo hi size n : Nat} {v : Value} {xs : List Value} (h : Rd w lo hi size v n xs) : Rd w lo hi size v n xs := h
set_option maxRecDepth 100000
set_option maxHeartbeats 8000000
namespace fnTables
open Go.ChangeShapes Go.WideShapes Go.ChangeAt Go.RowKit
open Go.ChangeMaps (open_string shut_string)
/-- The call returns true and leaves all that was there unturned. -/
theorem walk (w : World) (v0 : Value) (n0 : Nat) (x0 : List UInt8) (r0 : Rd w 0 w.heap.size 1 v0 n0 (x0.map bv)) :
    Calls Try.prog 8 #[v0] w fun e w' => e = .returned (.bool true) ∧ Below w.heap.size w w' := by
  obtain ⟨b0, c0, rfl, hn0⟩ := r0.form
  by_cases h1 : 1048576 < n0
  · go_enter Try.func8, Try.ntmps8
    go_wp2_with fail
    refine (big_c r0 (decide_eq_true h1)).mono ?_
    rintro e w1 ⟨_, rfl, rfl, y1⟩
    go_wp2
    go_ret
    exact ⟨rfl, y1⟩
  · skip
    go_enter Try.func8, Try.ntmps8
    have X := ext_refl w
    go_wp2_with fail
    refine (big_c r0 (decide_eq_false h1)).mono ?_
    rintro e W1 ⟨_, rfl, rfl, y1⟩
    have q1 := y1.size
    replace X := ext_trans X y1
    replace r0 := r0.ext y1
    clear y1
    go_wp2_with fail
    refine (DrawPutEntry_c r0 (by omega) (by omega)).mono ?_
    rintro e W2 ⟨_, rfl, ⟨u1, u2, tl, n, z, rfl, o1, hl, htl, o2, hsm⟩, y2⟩
    have q2 := y2.size
    replace X := ext_trans X y2
    replace r0 := r0.ext y2
    clear y2
    have hnl := hsm.1
    have HTL := hid htl
    have htw := htl.tw
    have hsz := hid htl.sizes
    have hks := hid (fun s (hs : s ∈ n) => (show s.size ≤ 9223372036854775807 by have := hsm.2 s hs; omega))
    obtain ⟨XT, ok, hR⟩ : ∃ X ok, pe tl n z = (X, ok) := ⟨_, _, rfl⟩
    have hxs := htl.pe (key := n) (z := z) hsm
    have hxl := pe_len tl n z
    rw [hR] at hxs hxl
    simp only at hxs hxl
    have HX : Hid ((ok = true ∧ XT = peY tl n z ∧ vt XT = true) ∨ (ok = false ∧ XT = tl)) := by
      unfold pe at hR
      split at hR
      · injection hR with e1 e2; subst e1; exact .inl ⟨e2.symm, rfl, by assumption⟩
      · injection hR with e1 e2; exact .inr ⟨e2.symm, e1.symm⟩
    have HXS := hid hxs
    have HXZ := hid hxs.sizes
    have hxw := hxs.tw
    have HR := hid hR
    clear hR htl hxs
    obtain ⟨z3, rfl, g3⟩ := id o2
    obtain ⟨a3', c3', rfl, _⟩ := g3.rd.form
    clear g3
    have y3 := ext_alloc (ext_refl W2) (.cells #[.slice a3' (n.length) c3'] 26)
    have q3 := y3.size
    have p3 : W2.heap.size + 1 = (W2.alloc (.cells #[.slice a3' (n.length) c3'] 26)).heap.size := by simp
    have k4 : (W2.alloc (.cells #[.slice a3' (n.length) c3'] 26)).cell? ⟨W2.heap.size, 0, none⟩ = some (.slice a3' (n.length) c3') := by simp
    replace X := ext_trans X y3
    replace r0 := r0.ext y3
    replace o1 := o1.ext y3
    replace o2 := o2.ext y3
    clear y3
    go_wp2_with fail
    generalize W2.alloc (.cells #[.slice a3' (n.length) c3'] 26) = W3 at *
    go_wp2_with fail
    have C := implPutEntry_c (z := z) o1 o2 (by omega) (by omega) (by omega) hsz.out hks.out (by omega) (by omega)
    rw [HR.out] at C
    refine C.mono ?_
    clear C
    rintro e W4 ⟨_, rfl, ⟨u3, rfl, o3⟩, y4⟩
    have q4 := y4.size
    replace X := ext_trans X y4
    replace r0 := r0.ext y4
    replace o1 := o1.ext y4
    replace o2 := o2.ext y4
    replace k4 := cell_ext k4 y4
    clear y4
    simp only at o3
    go_wp2_with fail
    have C := specPutEntry_c (z := z) o1 o2 (by omega) (by omega) (by omega) hsz.out hks.out (by omega) (by omega)
    rw [HR.out] at C
    refine C.mono ?_
    clear C
    rintro e W5 ⟨_, rfl, ⟨u4, rfl, o4⟩, y5⟩
    have q5 := y5.size
    replace X := ext_trans X y5
    replace r0 := r0.ext y5
    replace o1 := o1.ext y5
    replace o2 := o2.ext y5
    replace k4 := cell_ext k4 y5
    replace o3 := o3.ext y5
    clear y5
    simp only at o4
    go_wp2_with fail
    refine (DrawLongestPrefix_c (fun W q1 q2 => l6Pair_c q1 (by omega) q2) r0 (by omega) (by omega)).mono ?_
    rintro e W6 ⟨_, rfl, ⟨u5, u6, t, m, rfl, o5, ht, htt, o6, hmm⟩, y6⟩
    have q6 := y6.size
    replace X := ext_trans X y6
    replace r0 := r0.ext y6
    replace o1 := o1.ext y6
    replace o2 := o2.ext y6
    replace k4 := cell_ext k4 y6
    replace o3 := o3.ext y6
    replace o4 := o4.ext y6
    clear y6
    have hml := hmm.1
    clear htt hmm
    obtain ⟨z7, rfl, g7⟩ := id o6
    obtain ⟨a7', c7', rfl, _⟩ := g7.rd.form
    clear g7
    have y7 := ext_alloc (ext_refl W6) (.cells #[.slice a7' (m.length) c7'] 26)
    have q7 := y7.size
    have p7 : W6.heap.size + 1 = (W6.alloc (.cells #[.slice a7' (m.length) c7'] 26)).heap.size := by simp
    have k11 : (W6.alloc (.cells #[.slice a7' (m.length) c7'] 26)).cell? ⟨W6.heap.size, 0, none⟩ = some (.slice a7' (m.length) c7') := by simp
    replace X := ext_trans X y7
    replace r0 := r0.ext y7
    replace o1 := o1.ext y7
    replace o2 := o2.ext y7
    replace k4 := cell_ext k4 y7
    replace o3 := o3.ext y7
    replace o4 := o4.ext y7
    replace o5 := o5.ext y7
    replace o6 := o6.ext y7
    clear y7
    go_wp2_with fail
    generalize W6.alloc (.cells #[.slice a7' (m.length) c7'] 26) = W7 at *
    go_wp2_with fail
    refine (DrawRemoveEntry_c (fun W q1 q2 => l6Pair_c q1 (by omega) q2) r0 (by omega) (by omega)).mono ?_
    rintro e W8 ⟨_, rfl, ⟨u7, u8, td, me, rfl, o7, hd7, htd, o8, hme⟩, y8⟩
    have q8 := y8.size
    replace X := ext_trans X y8
    replace r0 := r0.ext y8
    replace o1 := o1.ext y8
    replace o2 := o2.ext y8
    replace k4 := cell_ext k4 y8
    replace o3 := o3.ext y8
    replace o4 := o4.ext y8
    replace o5 := o5.ext y8
    replace o6 := o6.ext y8
    replace k11 := cell_ext k11 y8
    clear y8
    have hel := hme.1
    have htdw := htd.tw
    clear htd hme
    obtain ⟨z9, rfl, g9⟩ := id o8
    obtain ⟨a9', c9', rfl, _⟩ := g9.rd.form
    clear g9
    have y9 := ext_alloc (ext_refl W8) (.cells #[.slice a9' (me.length) c9'] 26)
    have q9 := y9.size
    have p9 : W8.heap.size + 1 = (W8.alloc (.cells #[.slice a9' (me.length) c9'] 26)).heap.size := by simp
    have k13 : (W8.alloc (.cells #[.slice a9' (me.length) c9'] 26)).cell? ⟨W8.heap.size, 0, none⟩ = some (.slice a9' (me.length) c9') := by simp
    replace X := ext_trans X y9
    replace r0 := r0.ext y9
    replace o1 := o1.ext y9
    replace o2 := o2.ext y9
    replace k4 := cell_ext k4 y9
    replace o3 := o3.ext y9
    replace o4 := o4.ext y9
    replace o5 := o5.ext y9
    replace o6 := o6.ext y9
    replace k11 := cell_ext k11 y9
    replace o7 := o7.ext y9
    replace o8 := o8.ext y9
    clear y9
    go_wp2_with fail
    generalize W8.alloc (.cells #[.slice a9' (me.length) c9'] 26) = W9 at *
    go_wp2_with fail
    refine (DrawEntriesUnder_c r0 (by omega) (by omega)).mono ?_
    rintro e W10 ⟨_, rfl, ⟨u9, u10, tu, mp, rfl, o9, hd9, htu, o10, hmp⟩, y10⟩
    have q10 := y10.size
    replace X := ext_trans X y10
    replace r0 := r0.ext y10
    replace o1 := o1.ext y10
    replace o2 := o2.ext y10
    replace k4 := cell_ext k4 y10
    replace o3 := o3.ext y10
    replace o4 := o4.ext y10
    replace o5 := o5.ext y10
    replace o6 := o6.ext y10
    replace k11 := cell_ext k11 y10
    replace o7 := o7.ext y10
    replace o8 := o8.ext y10
    replace k13 := cell_ext k13 y10
    clear y10
    have hpl := hmp.1
    have htuw := htu.tw
    clear htu hmp
    obtain ⟨z11, rfl, g11⟩ := id o10
    obtain ⟨a11', c11', rfl, _⟩ := g11.rd.form
    clear g11
    have y11 := ext_alloc (ext_refl W10) (.cells #[.slice a11' (mp.length) c11'] 26)
    have q11 := y11.size
    have p11 : W10.heap.size + 1 = (W10.alloc (.cells #[.slice a11' (mp.length) c11'] 26)).heap.size := by simp
    have k15 : (W10.alloc (.cells #[.slice a11' (mp.length) c11'] 26)).cell? ⟨W10.heap.size, 0, none⟩ = some (.slice a11' (mp.length) c11') := by simp
    replace X := ext_trans X y11
    replace r0 := r0.ext y11
    replace o1 := o1.ext y11
    replace o2 := o2.ext y11
    replace k4 := cell_ext k4 y11
    replace o3 := o3.ext y11
    replace o4 := o4.ext y11
    replace o5 := o5.ext y11
    replace o6 := o6.ext y11
    replace k11 := cell_ext k11 y11
    replace o7 := o7.ext y11
    replace o8 := o8.ext y11
    replace k13 := cell_ext k13 y11
    replace o9 := o9.ext y11
    replace o10 := o10.ext y11
    clear y11
    go_wp2_with fail
    generalize W10.alloc (.cells #[.slice a11' (mp.length) c11'] 26) = W11 at *
    go_wp2_with fail
    refine (DrawEqualTables_c r0 (by omega) (by omega)).mono ?_
    rintro e W12 ⟨_, rfl, ⟨u11, u12, ta, tb, rfl, o11, hda, hta, o12, hdb, htb⟩, y12⟩
    have q12 := y12.size
    replace X := ext_trans X y12
    replace r0 := r0.ext y12
    replace o1 := o1.ext y12
    replace o2 := o2.ext y12
    replace k4 := cell_ext k4 y12
    replace o3 := o3.ext y12
    replace o4 := o4.ext y12
    replace o5 := o5.ext y12
    replace o6 := o6.ext y12
    replace k11 := cell_ext k11 y12
    replace o7 := o7.ext y12
    replace o8 := o8.ext y12
    replace k13 := cell_ext k13 y12
    replace o9 := o9.ext y12
    replace o10 := o10.ext y12
    replace k15 := cell_ext k15 y12
    clear y12
    clear hta htb
    go_wp2_with fail
    refine (DrawLookupEntry_c (fun W q1 q2 => l6Pair_c q1 (by omega) q2) r0 (by omega) (by omega)).mono ?_
    rintro e W13 ⟨_, rfl, ⟨u13, u14, tr, mq, rfl, o13, hd13, htr, o14, hmq⟩, y13⟩
    have q13 := y13.size
    replace X := ext_trans X y13
    replace r0 := r0.ext y13
    replace o1 := o1.ext y13
    replace o2 := o2.ext y13
    replace k4 := cell_ext k4 y13
    replace o3 := o3.ext y13
    replace o4 := o4.ext y13
    replace o5 := o5.ext y13
    replace o6 := o6.ext y13
    replace k11 := cell_ext k11 y13
    replace o7 := o7.ext y13
    replace o8 := o8.ext y13
    replace k13 := cell_ext k13 y13
    replace o9 := o9.ext y13
    replace o10 := o10.ext y13
    replace k15 := cell_ext k15 y13
    replace o11 := o11.ext y13
    replace o12 := o12.ext y13
    clear y13
    have hql := hmq.1
    clear htr hmq
    obtain ⟨z14, rfl, g14⟩ := id o14
    obtain ⟨a14', c14', rfl, _⟩ := g14.rd.form
    clear g14
    have y14 := ext_alloc (ext_refl W13) (.cells #[.slice a14' (mq.length) c14'] 26)
    have q14 := y14.size
    have p14 : W13.heap.size + 1 = (W13.alloc (.cells #[.slice a14' (mq.length) c14'] 26)).heap.size := by simp
    have k19 : (W13.alloc (.cells #[.slice a14' (mq.length) c14'] 26)).cell? ⟨W13.heap.size, 0, none⟩ = some (.slice a14' (mq.length) c14') := by simp
    replace X := ext_trans X y14
    replace r0 := r0.ext y14
    replace o1 := o1.ext y14
    replace o2 := o2.ext y14
    replace k4 := cell_ext k4 y14
    replace o3 := o3.ext y14
    replace o4 := o4.ext y14
    replace o5 := o5.ext y14
    replace o6 := o6.ext y14
    replace k11 := cell_ext k11 y14
    replace o7 := o7.ext y14
    replace o8 := o8.ext y14
    replace k13 := cell_ext k13 y14
    replace o9 := o9.ext y14
    replace o10 := o10.ext y14
    replace k15 := cell_ext k15 y14
    replace o11 := o11.ext y14
    replace o12 := o12.ext y14
    replace o13 := o13.ext y14
    replace o14 := o14.ext y14
    clear y14
    go_wp2_with fail
    generalize W13.alloc (.cells #[.slice a14' (mq.length) c14'] 26) = W14 at *
    obtain ⟨lf, lg, hlf⟩ : ∃ a b, lk tr mq = (a, b) := ⟨_, _, rfl⟩
    have HLF := hid hlf
    clear hlf
    go_wp2_with fail
    have C := implLookupEntry_c o13 o14
    rw [HLF.out] at C
    refine C.mono ?_
    clear C
    rintro e W15 ⟨_, rfl, rfl, y15⟩
    have q15 := y15.size
    replace X := ext_trans X y15
    replace r0 := r0.ext y15
    replace o1 := o1.ext y15
    replace o2 := o2.ext y15
    replace k4 := cell_ext k4 y15
    replace o3 := o3.ext y15
    replace o4 := o4.ext y15
    replace o5 := o5.ext y15
    replace o6 := o6.ext y15
    replace k11 := cell_ext k11 y15
    replace o7 := o7.ext y15
    replace o8 := o8.ext y15
    replace k13 := cell_ext k13 y15
    replace o9 := o9.ext y15
    replace o10 := o10.ext y15
    replace k15 := cell_ext k15 y15
    replace o11 := o11.ext y15
    replace o12 := o12.ext y15
    replace o13 := o13.ext y15
    replace o14 := o14.ext y15
    replace k19 := cell_ext k19 y15
    clear y15
    go_wp2_with fail
    have C := specLookupEntry_c o13 o14
    rw [HLF.out] at C
    refine C.mono ?_
    clear C
    rintro e W16 ⟨_, rfl, rfl, y16⟩
    have q16 := y16.size
    replace X := ext_trans X y16
    replace r0 := r0.ext y16
    replace o1 := o1.ext y16
    replace o2 := o2.ext y16
    replace k4 := cell_ext k4 y16
    replace o3 := o3.ext y16
    replace o4 := o4.ext y16
    replace o5 := o5.ext y16
    replace o6 := o6.ext y16
    replace k11 := cell_ext k11 y16
    replace o7 := o7.ext y16
    replace o8 := o8.ext y16
    replace k13 := cell_ext k13 y16
    replace o9 := o9.ext y16
    replace o10 := o10.ext y16
    replace k15 := cell_ext k15 y16
    replace o11 := o11.ext y16
    replace o12 := o12.ext y16
    replace o13 := o13.ext y16
    replace o14 := o14.ext y16
    replace k19 := cell_ext k19 y16
    clear y16
    have hlp := lp_law t m t.length (Nat.le_refl _)
    have hbd := lp_bd t m t.length
    obtain ⟨K, hK⟩ : ∃ K, lpP t m t.length = K := ⟨_, rfl⟩
    rw [hK] at hlp hbd
    obtain ⟨hK1, hK2⟩ := hbd
    obtain ⟨qe, hqe⟩ : ∃ q, decide (ta = tb) = q := ⟨_, rfl⟩
    obtain ⟨qv, hqv⟩ : ∃ q, vt tl = q := ⟨_, rfl⟩
    have HK := hid hK
    have HLP := hid hlp
    have HQE := hid hqe
    have HQV := hid hqv
    clear hK hlp hqe hqv
    go_wp2_with fail
    have C := implLongestPrefix_c o5 o6 (by omega)
    rw [HK.out] at C
    refine C.mono ?_
    clear C
    rintro e W17 ⟨_, rfl, rfl, y17⟩
    have q17 := y17.size
    replace X := ext_trans X y17
    replace r0 := r0.ext y17
    replace o1 := o1.ext y17
    replace o2 := o2.ext y17
    replace k4 := cell_ext k4 y17
    replace o3 := o3.ext y17
    replace o4 := o4.ext y17
    replace o5 := o5.ext y17
    replace o6 := o6.ext y17
    replace k11 := cell_ext k11 y17
    replace o7 := o7.ext y17
    replace o8 := o8.ext y17
    replace k13 := cell_ext k13 y17
    replace o9 := o9.ext y17
    replace o10 := o10.ext y17
    replace k15 := cell_ext k15 y17
    replace o11 := o11.ext y17
    replace o12 := o12.ext y17
    replace o13 := o13.ext y17
    replace o14 := o14.ext y17
    replace k19 := cell_ext k19 y17
    clear y17
    go_wp2_with fail
    have y17 := Below.drew (ext_refl W17)
    have qd17 := y17.size
    replace X := ext_trans X y17
    replace r0 := r0.ext y17
    replace o1 := o1.ext y17
    replace o2 := o2.ext y17
    replace k4 := cell_ext k4 y17
    replace o3 := o3.ext y17
    replace o4 := o4.ext y17
    replace o5 := o5.ext y17
    replace o6 := o6.ext y17
    replace k11 := cell_ext k11 y17
    replace o7 := o7.ext y17
    replace o8 := o8.ext y17
    replace k13 := cell_ext k13 y17
    replace o9 := o9.ext y17
    replace o10 := o10.ext y17
    replace k15 := cell_ext k15 y17
    replace o11 := o11.ext y17
    replace o12 := o12.ext y17
    replace o13 := o13.ext y17
    replace o14 := o14.ext y17
    replace k19 := cell_ext k19 y17
    clear y17
    refine wp_region_held_drew (S := fun w' => w'.cell? ⟨W6.heap.size, 0, none⟩ = some (.slice a7' (m.length) c7') ∧ w'.cell? ⟨W8.heap.size, 0, none⟩ = some (.slice a9' (me.length) c9') ∧ w'.cell? ⟨W10.heap.size, 0, none⟩ = some (.slice a11' (mp.length) c11')) (by kernel_rfl) (by exact ⟨k11, k13, k15⟩) (fun hHeld => ?_)
    refine wpAnyH_take (i := 0) (v := ?v1) rfl (by kernel_rfl) (by kernel_rfl) (by kernel_rfl) (fun _ _ _ h => h) (Or.inl ⟨by kernel_rfl, ?hy1⟩) hHeld ?rest1
    case hy1 =>
      intro w hSw
      (try dsimp only at hSw)
      go_simp
      try with_reducible rfl
    simp only [Act.put, List.getElem_toArray, List.getElem_cons_zero, List.setIfInBounds_toArray, List.set_cons_zero, List.set_cons_succ]
    refine wpAnyH_take (i := 1) (v := ?v2) rfl (by kernel_rfl) (by kernel_rfl) (by kernel_rfl) (fun _ _ _ h => h) (Or.inl ⟨by kernel_rfl, ?hy2⟩) hHeld ?rest2
    case hy2 =>
      intro w hSw
      (try dsimp only at hSw)
      go_simp
      try with_reducible rfl
    simp only [Act.put, List.getElem_toArray, List.getElem_cons_succ, List.getElem_cons_zero, List.setIfInBounds_toArray, List.set_cons_zero, List.set_cons_succ]
    refine wpAnyH_ready (rs := [2]) (by kernel_rfl) (by simp) ?_
    refine AllReadyH.cons rfl (fun K hK => ?_) AllReadyH.nil
    go_simp
    go_at_call 54
    have C := sameRows_c o3.rd o4.rd
    rw [decide_eq_true rfl] at C
    refine C.mono ?_
    clear C
    rintro e W18 ⟨_, rfl, rfl, y18⟩
    have q18 := y18.size
    replace X := ext_trans X y18
    replace r0 := r0.ext y18
    replace o1 := o1.ext y18
    replace o2 := o2.ext y18
    replace k4 := cell_ext k4 y18
    replace o3 := o3.ext y18
    replace o4 := o4.ext y18
    replace o5 := o5.ext y18
    replace o6 := o6.ext y18
    replace k11 := cell_ext k11 y18
    replace o7 := o7.ext y18
    replace o8 := o8.ext y18
    replace k13 := cell_ext k13 y18
    replace o9 := o9.ext y18
    replace o10 := o10.ext y18
    replace k15 := cell_ext k15 y18
    replace o11 := o11.ext y18
    replace o12 := o12.ext y18
    replace o13 := o13.ext y18
    replace o14 := o14.ext y18
    replace k19 := cell_ext k19 y18
    clear y18
    refine hK.out _ _ (by exact ⟨k11, k13, k15⟩) (fun hHeld => ?_)
    clear hK K
    refine wpAnyH_take (i := 3) (v := ?v3) rfl (by kernel_rfl) (by kernel_rfl) (by kernel_rfl) (fun _ _ _ h => h) (Or.inl ⟨by kernel_rfl, ?hy3⟩) hHeld ?rest3
    case hy3 =>
      intro w hSw
      (try dsimp only at hSw)
      go_simp
      try with_reducible rfl
    simp only [Act.put, List.getElem_toArray, List.getElem_cons_succ, List.getElem_cons_zero, List.setIfInBounds_toArray, List.set_cons_zero, List.set_cons_succ]
    refine wpAnyH_take (i := 4) (v := ?v4) rfl (by kernel_rfl) (by kernel_rfl) (by kernel_rfl) (fun _ _ _ h => h) (Or.inl ⟨by kernel_rfl, ?hy4⟩) hHeld ?rest4
    case hy4 =>
      intro w hSw
      (try dsimp only at hSw)
      go_simp
      try with_reducible rfl
    simp only [Act.put, List.getElem_toArray, List.getElem_cons_succ, List.getElem_cons_zero, List.setIfInBounds_toArray, List.set_cons_zero, List.set_cons_succ]
    refine wpAnyH_take (i := 5) (v := ?v5) rfl (by kernel_rfl) (by kernel_rfl) (by kernel_rfl) (fun _ _ _ h => h) (Or.inl ⟨by kernel_rfl, ?hy5⟩) hHeld ?rest5
    case hy5 =>
      intro w hSw
      (try dsimp only at hSw)
      go_simp
      try with_reducible rfl
    simp only [Act.put, List.getElem_toArray, List.getElem_cons_succ, List.getElem_cons_zero, List.setIfInBounds_toArray, List.set_cons_zero, List.set_cons_succ]
    refine wpAnyH_take (i := 6) (v := ?v6) rfl (by kernel_rfl) (by kernel_rfl) (by kernel_rfl) (fun _ _ _ h => h) (Or.inl ⟨by kernel_rfl, ?hy6⟩) hHeld ?rest6
    case hy6 =>
      intro w hSw
      (try dsimp only at hSw)
      go_simp
      try with_reducible rfl
    simp only [Act.put, List.getElem_toArray, List.getElem_cons_succ, List.getElem_cons_zero, List.setIfInBounds_toArray, List.set_cons_zero, List.set_cons_succ]
    refine wpAnyH_take (i := 7) (v := ?v7) rfl (by kernel_rfl) (by kernel_rfl) (by kernel_rfl) (fun _ _ _ h => h) (Or.inl ⟨by kernel_rfl, ?hy7⟩) hHeld ?rest7
    case hy7 =>
      intro w hSw
      (try dsimp only at hSw)
      go_simp
      try with_reducible rfl
    simp only [Act.put, List.getElem_toArray, List.getElem_cons_succ, List.getElem_cons_zero, List.setIfInBounds_toArray, List.set_cons_zero, List.set_cons_succ]
    refine wpAnyH_take (i := 8) (v := ?v8) rfl (by kernel_rfl) (by kernel_rfl) (by kernel_rfl) (fun _ _ _ h => h) (Or.inl ⟨by kernel_rfl, ?hy8⟩) hHeld ?rest8
    case hy8 =>
      intro w hSw
      (try dsimp only at hSw)
      go_simp
      try with_reducible rfl
    simp only [Act.put, List.getElem_toArray, List.getElem_cons_succ, List.getElem_cons_zero, List.setIfInBounds_toArray, List.set_cons_zero, List.set_cons_succ]
    refine wpAnyH_take (i := 9) (v := ?v9) rfl (by kernel_rfl) (by kernel_rfl) (by kernel_rfl) (fun _ _ _ h => h) (Or.inl ⟨by kernel_rfl, ?hy9⟩) hHeld ?rest9
    case hy9 =>
      intro w hSw
      (try dsimp only at hSw)
      go_simp
      try with_reducible rfl
    simp only [Act.put, List.getElem_toArray, List.getElem_cons_succ, List.getElem_cons_zero, List.setIfInBounds_toArray, List.set_cons_zero, List.set_cons_succ]
    refine wpAnyH_take (i := 10) (v := ?v10) rfl (by kernel_rfl) (by kernel_rfl) (by kernel_rfl) (fun _ _ _ h => h) (Or.inl ⟨by kernel_rfl, ?hy10⟩) hHeld ?rest10
    case hy10 =>
      intro w hSw
      (try dsimp only at hSw)
      go_simp
      try with_reducible rfl
    simp only [Act.put, List.getElem_toArray, List.getElem_cons_succ, List.getElem_cons_zero, List.setIfInBounds_toArray, List.set_cons_zero, List.set_cons_succ]
    refine wpAnyH_take (i := 11) (v := ?v11) rfl (by kernel_rfl) (by kernel_rfl) (by kernel_rfl) (fun _ _ _ h => h) (Or.inl ⟨by kernel_rfl, ?hy11⟩) hHeld ?rest11
    case hy11 =>
      intro w hSw
      (try dsimp only at hSw)
      go_simp
      try with_reducible rfl
    simp only [Act.put, List.getElem_toArray, List.getElem_cons_succ, List.getElem_cons_zero, List.setIfInBounds_toArray, List.set_cons_zero, List.set_cons_succ]
    refine wpAnyH_take (i := 12) (v := ?v12) rfl (by kernel_rfl) (by kernel_rfl) (by kernel_rfl) (fun _ _ _ h => h) (Or.inl ⟨by kernel_rfl, ?hy12⟩) hHeld ?rest12
    case hy12 =>
      intro w hSw
      (try dsimp only at hSw)
      go_simp
      try with_reducible rfl
    simp only [Act.put, List.getElem_toArray, List.getElem_cons_succ, List.getElem_cons_zero, List.setIfInBounds_toArray, List.set_cons_zero, List.set_cons_succ]
    refine wpAnyH_ready (rs := [13]) (by kernel_rfl) (by simp) ?_
    refine AllReadyH.cons rfl (fun K hK => ?_) AllReadyH.nil
    rw [if_pos (by kernel_rfl)]
    go_simp
    go_at_call 55
    have C := specLongestPrefix_c o5 o6 (by omega)
    rw [HK.out] at C
    refine C.mono ?_
    clear C
    rintro e W19 ⟨_, rfl, rfl, y19⟩
    have q19 := y19.size
    replace X := ext_trans X y19
    replace r0 := r0.ext y19
    replace o1 := o1.ext y19
    replace o2 := o2.ext y19
    replace k4 := cell_ext k4 y19
    replace o3 := o3.ext y19
    replace o4 := o4.ext y19
    replace o5 := o5.ext y19
    replace o6 := o6.ext y19
    replace k11 := cell_ext k11 y19
    replace o7 := o7.ext y19
    replace o8 := o8.ext y19
    replace k13 := cell_ext k13 y19
    replace o9 := o9.ext y19
    replace o10 := o10.ext y19
    replace k15 := cell_ext k15 y19
    replace o11 := o11.ext y19
    replace o12 := o12.ext y19
    replace o13 := o13.ext y19
    replace o14 := o14.ext y19
    replace k19 := cell_ext k19 y19
    clear y19
    refine hK.out _ _ (by exact ⟨k11, k13, k15⟩) (fun hHeld => ?_)
    clear hK K
    refine wpAnyH_take (i := 14) (v := ?v13) rfl (by kernel_rfl) (by kernel_rfl) (by kernel_rfl) (fun _ _ _ h => h) (Or.inl ⟨by kernel_rfl, ?hy13⟩) hHeld ?rest13
    case hy13 =>
      intro w hSw
      (try dsimp only at hSw)
      go_simp
      try with_reducible rfl
    simp only [Act.put, List.getElem_toArray, List.getElem_cons_succ, List.getElem_cons_zero, List.setIfInBounds_toArray, List.set_cons_zero, List.set_cons_succ]
    refine wpAnyH_take (i := 15) (v := ?v14) rfl (by kernel_rfl) (by kernel_rfl) (by kernel_rfl) (fun _ _ _ h => h) (Or.inl ⟨by kernel_rfl, ?hy14⟩) hHeld ?rest14
    case hy14 =>
      intro w hSw
      (try dsimp only at hSw)
      go_simp
      try with_reducible rfl
    simp only [Act.put, List.getElem_toArray, List.getElem_cons_succ, List.getElem_cons_zero, List.setIfInBounds_toArray, List.set_cons_zero, List.set_cons_succ]
    refine wpAnyH_take (i := 16) (v := ?v15) rfl (by kernel_rfl) (by kernel_rfl) (by kernel_rfl) (fun _ _ _ h => h) (Or.inl ⟨by kernel_rfl, ?hy15⟩) hHeld ?rest15
    case hy15 =>
      intro w hSw
      (try dsimp only at hSw)
      go_simp
      try with_reducible rfl
    simp only [Act.put, List.getElem_toArray, List.getElem_cons_succ, List.getElem_cons_zero, List.setIfInBounds_toArray, List.set_cons_zero, List.set_cons_succ]
    refine wpAnyH_take (i := 17) (v := ?v16) rfl (by kernel_rfl) (by kernel_rfl) (by kernel_rfl) (fun _ _ _ h => h) (Or.inl ⟨by kernel_rfl, ?hy16⟩) hHeld ?rest16
    case hy16 =>
      intro w hSw
      (try dsimp only at hSw)
      go_simp
      try with_reducible rfl
    simp only [Act.put, List.getElem_toArray, List.getElem_cons_succ, List.getElem_cons_zero, List.setIfInBounds_toArray, List.set_cons_zero, List.set_cons_succ]
    refine wpAnyH_take (i := 18) (v := ?v17) rfl (by kernel_rfl) (by kernel_rfl) (by kernel_rfl) (fun _ _ _ h => h) (Or.inl ⟨by kernel_rfl, ?hy17⟩) hHeld ?rest17
    case hy17 =>
      intro w hSw
      (try dsimp only at hSw)
      go_simp
      try with_reducible rfl
    simp only [Act.put, List.getElem_toArray, List.getElem_cons_succ, List.getElem_cons_zero, List.setIfInBounds_toArray, List.set_cons_zero, List.set_cons_succ]
    refine wpAnyH_take (i := 20) (v := ?v18) rfl (by kernel_rfl) (by kernel_rfl) (by kernel_rfl) (fun _ _ _ h => h) (Or.inl ⟨by kernel_rfl, ?hy18⟩) hHeld ?rest18
    case hy18 =>
      intro w hSw
      (try dsimp only at hSw)
      go_simp
      try with_reducible rfl
    simp only [Act.put, List.getElem_toArray, List.getElem_cons_succ, List.getElem_cons_zero, List.setIfInBounds_toArray, List.set_cons_zero, List.set_cons_succ]
    refine wpAnyH_take (i := 21) (v := ?v19) rfl (by kernel_rfl) (by kernel_rfl) (by kernel_rfl) (fun _ _ _ h => h) (Or.inl ⟨by kernel_rfl, ?hy19⟩) hHeld ?rest19
    case hy19 =>
      intro w hSw
      (try dsimp only at hSw)
      go_simp
      try with_reducible rfl
    simp only [Act.put, List.getElem_toArray, List.getElem_cons_succ, List.getElem_cons_zero, List.setIfInBounds_toArray, List.set_cons_zero, List.set_cons_succ]
    refine wpAnyH_ready (rs := [19]) (by kernel_rfl) (by simp) ?_
    refine AllReadyH.cons rfl (fun K hK => ?_) AllReadyH.nil
    rw [if_pos (by kernel_rfl)]
    go_simp
    go_at_call 56
    have C := implRemoveEntry_c o7 o8 (by omega) (by omega)
    refine C.mono ?_
    clear C
    rintro e W20 ⟨u20, rfl, o20, y20⟩
    have q20 := y20.size
    replace X := ext_trans X y20
    replace r0 := r0.ext y20
    replace o1 := o1.ext y20
    replace o2 := o2.ext y20
    replace k4 := cell_ext k4 y20
    replace o3 := o3.ext y20
    replace o4 := o4.ext y20
    replace o5 := o5.ext y20
    replace o6 := o6.ext y20
    replace k11 := cell_ext k11 y20
    replace o7 := o7.ext y20
    replace o8 := o8.ext y20
    replace k13 := cell_ext k13 y20
    replace o9 := o9.ext y20
    replace o10 := o10.ext y20
    replace k15 := cell_ext k15 y20
    replace o11 := o11.ext y20
    replace o12 := o12.ext y20
    replace o13 := o13.ext y20
    replace o14 := o14.ext y20
    replace k19 := cell_ext k19 y20
    clear y20
    refine hK.out _ _ (by exact ⟨k11, k13, k15⟩) (fun hHeld => ?_)
    clear hK K
    refine wpAnyH_ready (rs := [22]) (by kernel_rfl) (by simp) ?_
    refine AllReadyH.cons rfl (fun K hK => ?_) AllReadyH.nil
    rw [if_pos (by kernel_rfl)]
    go_simp
    go_at_call 57
    have C := specRemoveEntry_c o7 o8 (by omega) (by omega)
    refine C.mono ?_
    clear C
    rintro e W21 ⟨u21, rfl, o21, y21⟩
    have q21 := y21.size
    replace X := ext_trans X y21
    replace r0 := r0.ext y21
    replace o1 := o1.ext y21
    replace o2 := o2.ext y21
    replace k4 := cell_ext k4 y21
    replace o3 := o3.ext y21
    replace o4 := o4.ext y21
    replace o5 := o5.ext y21
    replace o6 := o6.ext y21
    replace k11 := cell_ext k11 y21
    replace o7 := o7.ext y21
    replace o8 := o8.ext y21
    replace k13 := cell_ext k13 y21
    replace o9 := o9.ext y21
    replace o10 := o10.ext y21
    replace k15 := cell_ext k15 y21
    replace o11 := o11.ext y21
    replace o12 := o12.ext y21
    replace o13 := o13.ext y21
    replace o14 := o14.ext y21
    replace k19 := cell_ext k19 y21
    replace o20 := o20.ext y21
    clear y21
    refine hK.out _ _ (by exact ⟨k11, k13, k15⟩) (fun hHeld => ?_)
    clear hK K
    refine wpAnyH_ready (rs := [23]) (by kernel_rfl) (by simp) ?_
    refine AllReadyH.cons rfl (fun K hK => ?_) AllReadyH.nil
    rw [if_pos (by kernel_rfl)]
    go_simp
    go_at_call 54
    have C := sameRows_c o20.rd o21.rd
    rw [decide_eq_true rfl] at C
    refine C.mono ?_
    clear C
    rintro e W22 ⟨_, rfl, rfl, y22⟩
    have q22 := y22.size
    replace X := ext_trans X y22
    replace r0 := r0.ext y22
    replace o1 := o1.ext y22
    replace o2 := o2.ext y22
    replace k4 := cell_ext k4 y22
    replace o3 := o3.ext y22
    replace o4 := o4.ext y22
    replace o5 := o5.ext y22
    replace o6 := o6.ext y22
    replace k11 := cell_ext k11 y22
    replace o7 := o7.ext y22
    replace o8 := o8.ext y22
    replace k13 := cell_ext k13 y22
    replace o9 := o9.ext y22
    replace o10 := o10.ext y22
    replace k15 := cell_ext k15 y22
    replace o11 := o11.ext y22
    replace o12 := o12.ext y22
    replace o13 := o13.ext y22
    replace o14 := o14.ext y22
    replace k19 := cell_ext k19 y22
    replace o20 := o20.ext y22
    replace o21 := o21.ext y22
    clear y22
    refine hK.out _ _ (by exact ⟨k11, k13, k15⟩) (fun hHeld => ?_)
    clear hK K
    refine wpAnyH_take (i := 24) (v := ?v20) rfl (by kernel_rfl) (by kernel_rfl) (by kernel_rfl) (fun _ _ _ h => h) (Or.inl ⟨by kernel_rfl, ?hy20⟩) hHeld ?rest20
    case hy20 =>
      intro w hSw
      (try dsimp only at hSw)
      go_simp
      try with_reducible rfl
    simp only [Act.put, List.getElem_toArray, List.getElem_cons_succ, List.getElem_cons_zero, List.setIfInBounds_toArray, List.set_cons_zero, List.set_cons_succ]
    refine wpAnyH_take (i := 25) (v := ?v21) rfl (by kernel_rfl) (by kernel_rfl) (by kernel_rfl) (fun _ _ _ h => h) (Or.inl ⟨by kernel_rfl, ?hy21⟩) hHeld ?rest21
    case hy21 =>
      intro w hSw
      (try dsimp only at hSw)
      go_simp
      try with_reducible rfl
    simp only [Act.put, List.getElem_toArray, List.getElem_cons_succ, List.getElem_cons_zero, List.setIfInBounds_toArray, List.set_cons_zero, List.set_cons_succ]
    refine wpAnyH_take (i := 26) (v := ?v22) rfl (by kernel_rfl) (by kernel_rfl) (by kernel_rfl) (fun _ _ _ h => h) (Or.inl ⟨by kernel_rfl, ?hy22⟩) hHeld ?rest22
    case hy22 =>
      intro w hSw
      (try dsimp only at hSw)
      go_simp
      try with_reducible rfl
    simp only [Act.put, List.getElem_toArray, List.getElem_cons_succ, List.getElem_cons_zero, List.setIfInBounds_toArray, List.set_cons_zero, List.set_cons_succ]
    refine wpAnyH_take (i := 27) (v := ?v23) rfl (by kernel_rfl) (by kernel_rfl) (by kernel_rfl) (fun _ _ _ h => h) (Or.inl ⟨by kernel_rfl, ?hy23⟩) hHeld ?rest23
    case hy23 =>
      intro w hSw
      (try dsimp only at hSw)
      go_simp
      try with_reducible rfl
    simp only [Act.put, List.getElem_toArray, List.getElem_cons_succ, List.getElem_cons_zero, List.setIfInBounds_toArray, List.set_cons_zero, List.set_cons_succ]
    refine wpAnyH_take (i := 28) (v := ?v24) rfl (by kernel_rfl) (by kernel_rfl) (by kernel_rfl) (fun _ _ _ h => h) (Or.inl ⟨by kernel_rfl, ?hy24⟩) hHeld ?rest24
    case hy24 =>
      intro w hSw
      (try dsimp only at hSw)
      go_simp
      try with_reducible rfl
    simp only [Act.put, List.getElem_toArray, List.getElem_cons_succ, List.getElem_cons_zero, List.setIfInBounds_toArray, List.set_cons_zero, List.set_cons_succ]
    refine wpAnyH_take (i := 30) (v := ?v25) rfl (by kernel_rfl) (by kernel_rfl) (by kernel_rfl) (fun _ _ _ h => h) (Or.inl ⟨by kernel_rfl, ?hy25⟩) hHeld ?rest25
    case hy25 =>
      intro w hSw
      (try dsimp only at hSw)
      go_simp
      try with_reducible rfl
    simp only [Act.put, List.getElem_toArray, List.getElem_cons_succ, List.getElem_cons_zero, List.setIfInBounds_toArray, List.set_cons_zero, List.set_cons_succ]
    refine wpAnyH_take (i := 31) (v := ?v26) rfl (by kernel_rfl) (by kernel_rfl) (by kernel_rfl) (fun _ _ _ h => h) (Or.inl ⟨by kernel_rfl, ?hy26⟩) hHeld ?rest26
    case hy26 =>
      intro w hSw
      (try dsimp only at hSw)
      go_simp
      try with_reducible rfl
    simp only [Act.put, List.getElem_toArray, List.getElem_cons_succ, List.getElem_cons_zero, List.setIfInBounds_toArray, List.set_cons_zero, List.set_cons_succ]
    refine wpAnyH_ready (rs := [29]) (by kernel_rfl) (by simp) ?_
    refine AllReadyH.cons rfl (fun K hK => ?_) AllReadyH.nil
    rw [if_pos (by kernel_rfl)]
    go_simp
    go_at_call 58
    have C := implEntriesUnder_c o9 o10 (by omega) (by omega)
    refine C.mono ?_
    clear C
    rintro e W23 ⟨u22, rfl, o22, y23⟩
    have q23 := y23.size
    replace X := ext_trans X y23
    replace r0 := r0.ext y23
    replace o1 := o1.ext y23
    replace o2 := o2.ext y23
    replace k4 := cell_ext k4 y23
    replace o3 := o3.ext y23
    replace o4 := o4.ext y23
    replace o5 := o5.ext y23
    replace o6 := o6.ext y23
    replace k11 := cell_ext k11 y23
    replace o7 := o7.ext y23
    replace o8 := o8.ext y23
    replace k13 := cell_ext k13 y23
    replace o9 := o9.ext y23
    replace o10 := o10.ext y23
    replace k15 := cell_ext k15 y23
    replace o11 := o11.ext y23
    replace o12 := o12.ext y23
    replace o13 := o13.ext y23
    replace o14 := o14.ext y23
    replace k19 := cell_ext k19 y23
    replace o20 := o20.ext y23
    replace o21 := o21.ext y23
    clear y23
    refine hK.out _ _ (by exact ⟨k11, k13, k15⟩) (fun hHeld => ?_)
    clear hK K
    refine wpAnyH_ready (rs := [32]) (by kernel_rfl) (by simp) ?_
    refine AllReadyH.cons rfl (fun K hK => ?_) AllReadyH.nil
    rw [if_pos (by kernel_rfl)]
    go_simp
    go_at_call 59
    have C := specEntriesUnder_c o9 o10 (by omega) (by omega)
    refine C.mono ?_
    clear C
    rintro e W24 ⟨u23, rfl, o23, y24⟩
    have q24 := y24.size
    replace X := ext_trans X y24
    replace r0 := r0.ext y24
    replace o1 := o1.ext y24
    replace o2 := o2.ext y24
    replace k4 := cell_ext k4 y24
    replace o3 := o3.ext y24
    replace o4 := o4.ext y24
    replace o5 := o5.ext y24
    replace o6 := o6.ext y24
    replace k11 := cell_ext k11 y24
    replace o7 := o7.ext y24
    replace o8 := o8.ext y24
    replace k13 := cell_ext k13 y24
    replace o9 := o9.ext y24
    replace o10 := o10.ext y24
    replace k15 := cell_ext k15 y24
    replace o11 := o11.ext y24
    replace o12 := o12.ext y24
    replace o13 := o13.ext y24
    replace o14 := o14.ext y24
    replace k19 := cell_ext k19 y24
    replace o20 := o20.ext y24
    replace o21 := o21.ext y24
    replace o22 := o22.ext y24
    clear y24
    refine hK.out _ _ (by exact ⟨k11, k13, k15⟩) (fun hHeld => ?_)
    clear hK K
    refine wpAnyH_ready (rs := [33]) (by kernel_rfl) (by simp) ?_
    refine AllReadyH.cons rfl (fun K hK => ?_) AllReadyH.nil
    rw [if_pos (by kernel_rfl)]
    go_simp
    go_at_call 54
    have C := sameRows_c o22.rd o23.rd
    rw [decide_eq_true rfl] at C
    refine C.mono ?_
    clear C
    rintro e W25 ⟨_, rfl, rfl, y25⟩
    have q25 := y25.size
    replace X := ext_trans X y25
    replace r0 := r0.ext y25
    replace o1 := o1.ext y25
    replace o2 := o2.ext y25
    replace k4 := cell_ext k4 y25
    replace o3 := o3.ext y25
    replace o4 := o4.ext y25
    replace o5 := o5.ext y25
    replace o6 := o6.ext y25
    replace k11 := cell_ext k11 y25
    replace o7 := o7.ext y25
    replace o8 := o8.ext y25
    replace k13 := cell_ext k13 y25
    replace o9 := o9.ext y25
    replace o10 := o10.ext y25
    replace k15 := cell_ext k15 y25
    replace o11 := o11.ext y25
    replace o12 := o12.ext y25
    replace o13 := o13.ext y25
    replace o14 := o14.ext y25
    replace k19 := cell_ext k19 y25
    replace o20 := o20.ext y25
    replace o21 := o21.ext y25
    replace o22 := o22.ext y25
    replace o23 := o23.ext y25
    clear y25
    refine hK.out _ _ (by exact ⟨k11, k13, k15⟩) (fun hHeld => ?_)
    clear hK K
    refine wpAnyH_take (i := 34) (v := ?v27) rfl (by kernel_rfl) (by kernel_rfl) (by kernel_rfl) (fun _ _ _ h => h) (Or.inl ⟨by kernel_rfl, ?hy27⟩) hHeld ?rest27
    case hy27 =>
      intro w hSw
      (try dsimp only at hSw)
      go_simp
      try with_reducible rfl
    simp only [Act.put, List.getElem_toArray, List.getElem_cons_succ, List.getElem_cons_zero, List.setIfInBounds_toArray, List.set_cons_zero, List.set_cons_succ]
    refine wpAnyH_take (i := 35) (v := ?v28) rfl (by kernel_rfl) (by kernel_rfl) (by kernel_rfl) (fun _ _ _ h => h) (Or.inl ⟨by kernel_rfl, ?hy28⟩) hHeld ?rest28
    case hy28 =>
      intro w hSw
      (try dsimp only at hSw)
      go_simp
      try with_reducible rfl
    simp only [Act.put, List.getElem_toArray, List.getElem_cons_succ, List.getElem_cons_zero, List.setIfInBounds_toArray, List.set_cons_zero, List.set_cons_succ]
    refine wpAnyH_take (i := 36) (v := ?v29) rfl (by kernel_rfl) (by kernel_rfl) (by kernel_rfl) (fun _ _ _ h => h) (Or.inl ⟨by kernel_rfl, ?hy29⟩) hHeld ?rest29
    case hy29 =>
      intro w hSw
      (try dsimp only at hSw)
      go_simp
      try with_reducible rfl
    simp only [Act.put, List.getElem_toArray, List.getElem_cons_succ, List.getElem_cons_zero, List.setIfInBounds_toArray, List.set_cons_zero, List.set_cons_succ]
    refine wpAnyH_take (i := 37) (v := ?v30) rfl (by kernel_rfl) (by kernel_rfl) (by kernel_rfl) (fun _ _ _ h => h) (Or.inl ⟨by kernel_rfl, ?hy30⟩) hHeld ?rest30
    case hy30 =>
      intro w hSw
      (try dsimp only at hSw)
      go_simp
      try with_reducible rfl
    simp only [Act.put, List.getElem_toArray, List.getElem_cons_succ, List.getElem_cons_zero, List.setIfInBounds_toArray, List.set_cons_zero, List.set_cons_succ]
    refine wpAnyH_take (i := 38) (v := ?v31) rfl (by kernel_rfl) (by kernel_rfl) (by kernel_rfl) (fun _ _ _ h => h) (Or.inl ⟨by kernel_rfl, ?hy31⟩) hHeld ?rest31
    case hy31 =>
      intro w hSw
      (try dsimp only at hSw)
      go_simp
      try with_reducible rfl
    simp only [Act.put, List.getElem_toArray, List.getElem_cons_succ, List.getElem_cons_zero, List.setIfInBounds_toArray, List.set_cons_zero, List.set_cons_succ]
    refine wpAnyH_take (i := 40) (v := ?v32) rfl (by kernel_rfl) (by kernel_rfl) (by kernel_rfl) (fun _ _ _ h => h) (Or.inl ⟨by kernel_rfl, ?hy32⟩) hHeld ?rest32
    case hy32 =>
      intro w hSw
      (try dsimp only at hSw)
      go_simp
      try with_reducible rfl
    simp only [Act.put, List.getElem_toArray, List.getElem_cons_succ, List.getElem_cons_zero, List.setIfInBounds_toArray, List.set_cons_zero, List.set_cons_succ]
    refine wpAnyH_take (i := 41) (v := ?v33) rfl (by kernel_rfl) (by kernel_rfl) (by kernel_rfl) (fun _ _ _ h => h) (Or.inl ⟨by kernel_rfl, ?hy33⟩) hHeld ?rest33
    case hy33 =>
      intro w hSw
      (try dsimp only at hSw)
      go_simp
      try with_reducible rfl
    simp only [Act.put, List.getElem_toArray, List.getElem_cons_succ, List.getElem_cons_zero, List.setIfInBounds_toArray, List.set_cons_zero, List.set_cons_succ]
    refine wpAnyH_ready (rs := [39]) (by kernel_rfl) (by simp) ?_
    refine AllReadyH.cons rfl (fun K hK => ?_) AllReadyH.nil
    rw [if_pos (by kernel_rfl)]
    go_simp
    go_at_call 60
    have C := implEqualTables_c o11 o12
    rw [HQE.out] at C
    refine C.mono ?_
    clear C
    rintro e W26 ⟨_, rfl, rfl, y26⟩
    have q26 := y26.size
    replace X := ext_trans X y26
    replace r0 := r0.ext y26
    replace o1 := o1.ext y26
    replace o2 := o2.ext y26
    replace k4 := cell_ext k4 y26
    replace o3 := o3.ext y26
    replace o4 := o4.ext y26
    replace o5 := o5.ext y26
    replace o6 := o6.ext y26
    replace k11 := cell_ext k11 y26
    replace o7 := o7.ext y26
    replace o8 := o8.ext y26
    replace k13 := cell_ext k13 y26
    replace o9 := o9.ext y26
    replace o10 := o10.ext y26
    replace k15 := cell_ext k15 y26
    replace o11 := o11.ext y26
    replace o12 := o12.ext y26
    replace o13 := o13.ext y26
    replace o14 := o14.ext y26
    replace k19 := cell_ext k19 y26
    replace o20 := o20.ext y26
    replace o21 := o21.ext y26
    replace o22 := o22.ext y26
    replace o23 := o23.ext y26
    clear y26
    refine hK.out _ _ (by exact ⟨k11, k13, k15⟩) (fun hHeld => ?_)
    clear hK K
    refine wpAnyH_ready (rs := [42]) (by kernel_rfl) (by simp) ?_
    refine AllReadyH.cons rfl (fun K hK => ?_) AllReadyH.nil
    rw [if_pos (by kernel_rfl)]
    go_simp
    go_at_call 54
    have C := sameRows_c o11 o12
    rw [HQE.out] at C
    refine C.mono ?_
    clear C
    rintro e W27 ⟨_, rfl, rfl, y27⟩
    have q27 := y27.size
    replace X := ext_trans X y27
    replace r0 := r0.ext y27
    replace o1 := o1.ext y27
    replace o2 := o2.ext y27
    replace k4 := cell_ext k4 y27
    replace o3 := o3.ext y27
    replace o4 := o4.ext y27
    replace o5 := o5.ext y27
    replace o6 := o6.ext y27
    replace k11 := cell_ext k11 y27
    replace o7 := o7.ext y27
    replace o8 := o8.ext y27
    replace k13 := cell_ext k13 y27
    replace o9 := o9.ext y27
    replace o10 := o10.ext y27
    replace k15 := cell_ext k15 y27
    replace o11 := o11.ext y27
    replace o12 := o12.ext y27
    replace o13 := o13.ext y27
    replace o14 := o14.ext y27
    replace k19 := cell_ext k19 y27
    replace o20 := o20.ext y27
    replace o21 := o21.ext y27
    replace o22 := o22.ext y27
    replace o23 := o23.ext y27
    clear y27
    refine hK.out _ _ (by exact ⟨k11, k13, k15⟩) (fun hHeld => ?_)
    clear hK K
    refine wpAnyH_take (i := 43) (v := ?v34) rfl (by kernel_rfl) (by kernel_rfl) (by kernel_rfl) (fun _ _ _ h => h) (Or.inl ⟨by kernel_rfl, ?hy34⟩) hHeld ?rest34
    case hy34 =>
      intro w hSw
      (try dsimp only at hSw)
      go_simp
      try with_reducible rfl
    simp only [Act.put, List.getElem_toArray, List.getElem_cons_succ, List.getElem_cons_zero, List.setIfInBounds_toArray, List.set_cons_zero, List.set_cons_succ]
    refine wpAnyH_take (i := 44) (v := ?v35) rfl (by kernel_rfl) (by kernel_rfl) (by kernel_rfl) (fun _ _ _ h => h) (Or.inl ⟨by kernel_rfl, ?hy35⟩) hHeld ?rest35
    case hy35 =>
      intro w hSw
      (try dsimp only at hSw)
      go_simp
      try with_reducible rfl
    simp only [Act.put, List.getElem_toArray, List.getElem_cons_succ, List.getElem_cons_zero, List.setIfInBounds_toArray, List.set_cons_zero, List.set_cons_succ]
    refine wpAnyH_take (i := 45) (v := ?v36) rfl (by kernel_rfl) (by kernel_rfl) (by kernel_rfl) (fun _ _ _ h => h) (Or.inl ⟨by kernel_rfl, ?hy36⟩) hHeld ?rest36
    case hy36 =>
      intro w hSw
      (try dsimp only at hSw)
      go_simp
      try with_reducible rfl
    simp only [Act.put, List.getElem_toArray, List.getElem_cons_succ, List.getElem_cons_zero, List.setIfInBounds_toArray, List.set_cons_zero, List.set_cons_succ]
    refine wpAnyH_take (i := 46) (v := ?v37) rfl (by kernel_rfl) (by kernel_rfl) (by kernel_rfl) (fun _ _ _ h => h) (Or.inl ⟨by kernel_rfl, ?hy37⟩) hHeld ?rest37
    case hy37 =>
      intro w hSw
      (try dsimp only at hSw)
      go_simp
      try with_reducible rfl
    simp only [Act.put, List.getElem_toArray, List.getElem_cons_succ, List.getElem_cons_zero, List.setIfInBounds_toArray, List.set_cons_zero, List.set_cons_succ]
    refine wpAnyH_take (i := 47) (v := ?v38) rfl (by kernel_rfl) (by kernel_rfl) (by kernel_rfl) (fun _ _ _ h => h) (Or.inl ⟨by kernel_rfl, ?hy38⟩) hHeld ?rest38
    case hy38 =>
      intro w hSw
      (try dsimp only at hSw)
      go_simp
      try with_reducible rfl
    simp only [Act.put, List.getElem_toArray, List.getElem_cons_succ, List.getElem_cons_zero, List.setIfInBounds_toArray, List.set_cons_zero, List.set_cons_succ]
    refine wpAnyH_take (i := 48) (v := ?v39) rfl (by kernel_rfl) (by kernel_rfl) (by kernel_rfl) (fun _ _ _ h => h) (Or.inl ⟨by kernel_rfl, ?hy39⟩) hHeld ?rest39
    case hy39 =>
      intro w hSw
      (try dsimp only at hSw)
      go_simp
      try with_reducible rfl
    simp only [Act.put, List.getElem_toArray, List.getElem_cons_succ, List.getElem_cons_zero, List.setIfInBounds_toArray, List.set_cons_zero, List.set_cons_succ]
    refine wpAnyH_take (i := 49) (v := ?v40) rfl (by kernel_rfl) (by kernel_rfl) (by kernel_rfl) (fun _ _ _ h => h) (Or.inl ⟨by kernel_rfl, ?hy40⟩) hHeld ?rest40
    case hy40 =>
      intro w hSw
      (try dsimp only at hSw)
      go_simp
      try with_reducible rfl
    simp only [Act.put, List.getElem_toArray, List.getElem_cons_succ, List.getElem_cons_zero, List.setIfInBounds_toArray, List.set_cons_zero, List.set_cons_succ]
    refine wpAnyH_take (i := 50) (v := ?v41) rfl (by kernel_rfl) (by kernel_rfl) (by kernel_rfl) (fun _ _ _ h => h) (Or.inl ⟨by kernel_rfl, ?hy41⟩) hHeld ?rest41
    case hy41 =>
      intro w hSw
      (try dsimp only at hSw)
      go_simp
      try with_reducible rfl
    simp only [Act.put, List.getElem_toArray, List.getElem_cons_succ, List.getElem_cons_zero, List.setIfInBounds_toArray, List.set_cons_zero, List.set_cons_succ]
    refine wpAnyH_take (i := 51) (v := ?v42) rfl (by kernel_rfl) (by kernel_rfl) (by kernel_rfl) (fun _ _ _ h => h) (Or.inl ⟨by kernel_rfl, ?hy42⟩) hHeld ?rest42
    case hy42 =>
      intro w hSw
      (try dsimp only at hSw)
      go_simp
      try with_reducible rfl
    simp only [Act.put, List.getElem_toArray, List.getElem_cons_succ, List.getElem_cons_zero, List.setIfInBounds_toArray, List.set_cons_zero, List.set_cons_succ]
    refine wpAnyH_take (i := 52) (v := ?v43) rfl (by kernel_rfl) (by kernel_rfl) (by kernel_rfl) (fun _ _ _ h => h) (Or.inl ⟨by kernel_rfl, ?hy43⟩) hHeld ?rest43
    case hy43 =>
      intro w hSw
      (try dsimp only at hSw)
      go_simp
      try with_reducible rfl
    simp only [Act.put, List.getElem_toArray, List.getElem_cons_succ, List.getElem_cons_zero, List.setIfInBounds_toArray, List.set_cons_zero, List.set_cons_succ]
    refine wpAnyH_take (i := 53) (v := ?v44) rfl (by kernel_rfl) (by kernel_rfl) (by kernel_rfl) (fun _ _ _ h => h) (Or.inl ⟨by kernel_rfl, ?hy44⟩) hHeld ?rest44
    case hy44 =>
      intro w hSw
      (try dsimp only at hSw)
      go_simp
      try with_reducible rfl
    simp only [Act.put, List.getElem_toArray, List.getElem_cons_succ, List.getElem_cons_zero, List.setIfInBounds_toArray, List.set_cons_zero, List.set_cons_succ]
    refine wpAnyH_take (i := 54) (v := ?v45) rfl (by kernel_rfl) (by kernel_rfl) (by kernel_rfl) (fun _ _ _ h => h) (Or.inl ⟨by kernel_rfl, ?hy45⟩) hHeld ?rest45
    case hy45 =>
      intro w hSw
      (try dsimp only at hSw)
      go_simp
      try with_reducible rfl
    simp only [Act.put, List.getElem_toArray, List.getElem_cons_succ, List.getElem_cons_zero, List.setIfInBounds_toArray, List.set_cons_zero, List.set_cons_succ]
    refine wpAnyH_take (i := 55) (v := ?v46) rfl (by kernel_rfl) (by kernel_rfl) (by kernel_rfl) (fun _ _ _ h => h) (Or.inl ⟨by kernel_rfl, ?hy46⟩) hHeld ?rest46
    case hy46 =>
      intro w hSw
      (try dsimp only at hSw)
      go_simp
      try with_reducible rfl
    simp only [Act.put, List.getElem_toArray, List.getElem_cons_succ, List.getElem_cons_zero, List.setIfInBounds_toArray, List.set_cons_zero, List.set_cons_succ]
    refine wpAnyH_take (i := 56) (v := ?v47) rfl (by kernel_rfl) (by kernel_rfl) (by kernel_rfl) (fun _ _ _ h => h) (Or.inl ⟨by kernel_rfl, ?hy47⟩) hHeld ?rest47
    case hy47 =>
      intro w hSw
      (try dsimp only at hSw)
      go_simp
      try with_reducible rfl
    simp only [Act.put, List.getElem_toArray, List.getElem_cons_succ, List.getElem_cons_zero, List.setIfInBounds_toArray, List.set_cons_zero, List.set_cons_succ]
    refine wpAnyH_take (i := 58) (v := ?v48) rfl (by kernel_rfl) (by kernel_rfl) (by kernel_rfl) (fun _ _ _ h => h) (Or.inl ⟨by kernel_rfl, ?hy48⟩) hHeld ?rest48
    case hy48 =>
      intro w hSw
      (try dsimp only at hSw)
      go_simp
      try with_reducible rfl
    simp only [Act.put, List.getElem_toArray, List.getElem_cons_succ, List.getElem_cons_zero, List.setIfInBounds_toArray, List.set_cons_zero, List.set_cons_succ]
    refine wpAnyH_ready (rs := [57]) (by kernel_rfl) (by simp) ?_
    refine AllReadyH.cons rfl (fun K hK => ?_) AllReadyH.nil
    rw [if_pos (by kernel_rfl)]
    go_simp
    go_at_call 61
    have C := implValidTable_c o1 hsz.out
    rw [HQV.out] at C
    refine C.mono ?_
    clear C
    rintro e W28 ⟨_, rfl, rfl, y28⟩
    have q28 := y28.size
    replace X := ext_trans X y28
    replace r0 := r0.ext y28
    replace o1 := o1.ext y28
    replace o2 := o2.ext y28
    replace k4 := cell_ext k4 y28
    replace o3 := o3.ext y28
    replace o4 := o4.ext y28
    replace o5 := o5.ext y28
    replace o6 := o6.ext y28
    replace k11 := cell_ext k11 y28
    replace o7 := o7.ext y28
    replace o8 := o8.ext y28
    replace k13 := cell_ext k13 y28
    replace o9 := o9.ext y28
    replace o10 := o10.ext y28
    replace k15 := cell_ext k15 y28
    replace o11 := o11.ext y28
    replace o12 := o12.ext y28
    replace o13 := o13.ext y28
    replace o14 := o14.ext y28
    replace k19 := cell_ext k19 y28
    replace o20 := o20.ext y28
    replace o21 := o21.ext y28
    replace o22 := o22.ext y28
    replace o23 := o23.ext y28
    clear y28
    refine hK.out _ _ (by exact ⟨k11, k13, k15⟩) (fun hHeld => ?_)
    clear hK K
    refine wpAnyH_ready (rs := [59]) (by kernel_rfl) (by simp) ?_
    refine AllReadyH.cons rfl (fun K hK => ?_) AllReadyH.nil
    rw [if_pos (by kernel_rfl)]
    go_simp
    go_at_call 62
    have C := specValidTable_c o1 hsz.out
    rw [HQV.out] at C
    refine C.mono ?_
    clear C
    rintro e W29 ⟨_, rfl, rfl, y29⟩
    have q29 := y29.size
    replace X := ext_trans X y29
    replace r0 := r0.ext y29
    replace o1 := o1.ext y29
    replace o2 := o2.ext y29
    replace k4 := cell_ext k4 y29
    replace o3 := o3.ext y29
    replace o4 := o4.ext y29
    replace o5 := o5.ext y29
    replace o6 := o6.ext y29
    replace k11 := cell_ext k11 y29
    replace o7 := o7.ext y29
    replace o8 := o8.ext y29
    replace k13 := cell_ext k13 y29
    replace o9 := o9.ext y29
    replace o10 := o10.ext y29
    replace k15 := cell_ext k15 y29
    replace o11 := o11.ext y29
    replace o12 := o12.ext y29
    replace o13 := o13.ext y29
    replace o14 := o14.ext y29
    replace k19 := cell_ext k19 y29
    replace o20 := o20.ext y29
    replace o21 := o21.ext y29
    replace o22 := o22.ext y29
    replace o23 := o23.ext y29
    clear y29
    refine hK.out _ _ (by exact ⟨k11, k13, k15⟩) (fun hHeld => ?_)
    clear hK K
    refine wpAnyH_take (i := 60) (v := ?v49) rfl (by kernel_rfl) (by kernel_rfl) (by kernel_rfl) (fun _ _ _ h => h) (Or.inl ⟨by kernel_rfl, ?hy49⟩) hHeld ?rest49
    case hy49 =>
      intro w hSw
      (try dsimp only at hSw)
      go_simp
      try with_reducible rfl
    simp only [Act.put, List.getElem_toArray, List.getElem_cons_succ, List.getElem_cons_zero, List.setIfInBounds_toArray, List.set_cons_zero, List.set_cons_succ]
    refine wpAnyH_take (i := 61) (v := ?v50) rfl (by kernel_rfl) (by kernel_rfl) (by kernel_rfl) (fun _ _ _ h => h) (Or.inl ⟨by kernel_rfl, ?hy50⟩) hHeld ?rest50
    case hy50 =>
      intro w hSw
      (try dsimp only at hSw)
      go_simp
      try with_reducible rfl
    simp only [Act.put, List.getElem_toArray, List.getElem_cons_succ, List.getElem_cons_zero, List.setIfInBounds_toArray, List.set_cons_zero, List.set_cons_succ]
    refine wpAnyH_done (by kernel_rfl) ?_ _
    clear o20 o21 o22 o23 o4 o7 o8 o9 o10 o11 o12 o13 o14 k13 k15 k19
    have HKB := hid (show -1 ≤ K ∧ K < (t.length : Int) from ⟨hK1, hK2⟩)
    have HXB := hid (show XT.length ≤ 22 ∧ tw XT.length XT ≤ 2640 from ⟨by omega, by omega⟩)
    clear hl htw hxl hxw hd7 htdw hd9 htuw hda hdb hd13 hK1 hK2 hnl hml hel hpl hql ht
    go_wp2
    go_loopw [25] (fun i wr => ∃ j : Nat, j ≤ t.length ∧ i = .int .i64 j ∧ Below W29.heap.size W29 wr) (fun i _ => t.length - (intOf i).toNat)
    case atStart => exact ⟨0, Nat.zero_le _, rfl, ext_refl _⟩
    case round =>
      obtain ⟨j, hj, rfl, hb⟩ := hrel
      have hB : Bl W29 wr := hb
      have qhb := hb.size
      replace X := ext_trans X hb
      replace r0 := r0.ext hb
      replace o1 := o1.ext hb
      replace o2 := o2.ext hb
      replace k4 := cell_ext k4 hb
      replace o3 := o3.ext hb
      replace o5 := o5.ext hb
      replace o6 := o6.ext hb
      replace k11 := cell_ext k11 hb
      clear hb
      obtain ⟨a5, c5, rfl, hc5, hm5⟩ := o5.form
      by_cases hlt : j < t.length
      · have hlt2 : (j : Int) < (t.length : Int) := by omega
        have j0 : (0 : Int) ≤ (j : Int) := by omega
        obtain ⟨b, off, cp, s5, hv, _, _, hbs, kd0, _, r5⟩ := o5.at_ hlt
        simp only [Value.slice.injEq, true_and] at hv
        obtain ⟨rfl, rfl⟩ := hv
        obtain ⟨p5, q5', rfl, _⟩ := r5.form
        have HJ := hid (HLP.out.2 j hlt hlt)
        have HO5 := hid o5
        obtain ⟨sj, hsj⟩ : ∃ q, t[j].1 = q := ⟨_, rfl⟩
        rw [hsj] at kd0 r5 HJ
        clear hsj
        obtain ⟨hq, hhq⟩ : ∃ q, hp m sj = q := ⟨_, rfl⟩
        have HHQ := hid hhq
        clear hhq
        cases hq
        · skip
          go_wp2_with fail
          have y30 := Below.drew (ext_refl wr)
          have qd30 := y30.size
          replace X := ext_trans X y30
          replace k11 := cell_ext k11 y30
          replace kd0 := cell_ext kd0 y30
          replace r5 := r5.ext y30
          replace o6 := o6.ext y30
          replace hB := hB.ext y30
          clear y30
          refine wp_region_held_drew (S := fun w' => w'.cell? ⟨W6.heap.size, 0, none⟩ = some (.slice a7' (m.length) c7') ∧ w'.cell? ⟨b, off + j * 2, none⟩ = some (.slice p5 sj.length q5')) (by kernel_rfl) (by exact ⟨k11, kd0⟩) (fun hHeld => ?_)
          refine wpAnyH_take (i := 0) (v := ?v51) rfl (by kernel_rfl) (by kernel_rfl) (by kernel_rfl) (fun _ _ _ h => h) (Or.inl ⟨by kernel_rfl, ?hy51⟩) hHeld ?rest51
          case hy51 =>
            intro w hSw
            (try dsimp only at hSw)
            go_simp
            try with_reducible rfl
          simp only [Act.put, List.getElem_toArray, List.getElem_cons_zero, List.setIfInBounds_toArray, List.set_cons_zero, List.set_cons_succ]
          refine wpAnyH_take (i := 1) (v := ?v52) rfl (by kernel_rfl) (by kernel_rfl) (by kernel_rfl) (fun _ _ _ h => h) (Or.inl ⟨by kernel_rfl, ?hy52⟩) hHeld ?rest52
          case hy52 =>
            intro w hSw
            (try dsimp only at hSw)
            go_simp
            try with_reducible rfl
          simp only [Act.put, List.getElem_toArray, List.getElem_cons_succ, List.getElem_cons_zero, List.setIfInBounds_toArray, List.set_cons_zero, List.set_cons_succ]
          refine wpAnyH_take (i := 2) (v := ?v53) rfl (by kernel_rfl) (by kernel_rfl) (by kernel_rfl) (fun _ _ _ h => h) (Or.inl ⟨by kernel_rfl, ?hy53⟩) hHeld ?rest53
          case hy53 =>
            intro w hSw
            (try dsimp only at hSw)
            go_simp
            try with_reducible rfl
          simp only [Act.put, List.getElem_toArray, List.getElem_cons_succ, List.getElem_cons_zero, List.setIfInBounds_toArray, List.set_cons_zero, List.set_cons_succ]
          refine wpAnyH_take (i := 3) (v := ?v54) rfl (by kernel_rfl) (by kernel_rfl) (by kernel_rfl) (fun _ _ _ h => h) (Or.inl ⟨by kernel_rfl, ?hy54⟩) hHeld ?rest54
          case hy54 =>
            intro w hSw
            (try dsimp only at hSw)
            go_simp
            try with_reducible rfl
          simp only [Act.put, List.getElem_toArray, List.getElem_cons_succ, List.getElem_cons_zero, List.setIfInBounds_toArray, List.set_cons_zero, List.set_cons_succ]
          refine wpAnyH_take (i := 4) (v := ?v55) rfl (by kernel_rfl) (by kernel_rfl) (by kernel_rfl) (fun _ _ _ h => h) (Or.inl ⟨by kernel_rfl, ?hy55⟩) hHeld ?rest55
          case hy55 =>
            intro w hSw
            (try dsimp only at hSw)
            go_simp
            try with_reducible rfl
          simp only [Act.put, List.getElem_toArray, List.getElem_cons_succ, List.getElem_cons_zero, List.setIfInBounds_toArray, List.set_cons_zero, List.set_cons_succ]
          refine wpAnyH_take (i := 5) (v := ?v56) rfl (by kernel_rfl) (by kernel_rfl) (by kernel_rfl) (fun _ _ _ h => h) (Or.inl ⟨by kernel_rfl, ?hy56⟩) hHeld ?rest56
          case hy56 =>
            intro w hSw
            (try dsimp only at hSw)
            go_simp
            try with_reducible rfl
          simp only [Act.put, List.getElem_toArray, List.getElem_cons_succ, List.getElem_cons_zero, List.setIfInBounds_toArray, List.set_cons_zero, List.set_cons_succ]
          refine wpAnyH_ready (rs := [6]) (by kernel_rfl) (by simp) ?_
          refine AllReadyH.cons rfl (fun K hK => ?_) AllReadyH.nil
          go_simp
          go_at_call 15
          have C := implHasPrefix_c o6 (show RdN _ _ _ (.agg #[.slice p5 sj.length q5']) sj.length (sj.map sv) from ⟨_, rfl, r5⟩)
          rw [HHQ.out] at C
          refine C.mono ?_
          clear C
          rintro e W31 ⟨_, rfl, rfl, y31⟩
          have q31 := y31.size
          replace X := ext_trans X y31
          replace k11 := cell_ext k11 y31
          replace kd0 := cell_ext kd0 y31
          replace r5 := r5.ext y31
          replace o6 := o6.ext y31
          replace hB := hB.ext y31
          clear y31
          refine hK.out _ _ (by exact ⟨k11, kd0⟩) (fun hHeld => ?_)
          clear hK K
          refine wpAnyH_take (i := 7) (v := ?v57) rfl (by kernel_rfl) (by kernel_rfl) (by kernel_rfl) (fun _ _ _ h => h) (Or.inl ⟨by kernel_rfl, ?hy57⟩) hHeld ?rest57
          case hy57 =>
            intro w hSw
            (try dsimp only at hSw)
            go_simp
            try with_reducible rfl
          simp only [Act.put, List.getElem_toArray, List.getElem_cons_succ, List.getElem_cons_zero, List.setIfInBounds_toArray, List.set_cons_zero, List.set_cons_succ]
          refine wpAnyH_take (i := 8) (v := undef) rfl (by kernel_rfl) (by kernel_rfl) (by kernel_rfl) (fun _ _ _ h => h) (Or.inr ⟨by kernel_rfl, rfl⟩) hHeld ?_
          simp only [Act.put, List.getElem_toArray, List.getElem_cons_succ, List.getElem_cons_zero, List.setIfInBounds_toArray, List.set_cons_zero, List.set_cons_succ]
          refine wpAnyH_take (i := 9) (v := undef) rfl (by kernel_rfl) (by kernel_rfl) (by kernel_rfl) (fun _ _ _ h => h) (Or.inr ⟨by kernel_rfl, rfl⟩) hHeld ?_
          simp only [Act.put, List.getElem_toArray, List.getElem_cons_succ, List.getElem_cons_zero, List.setIfInBounds_toArray, List.set_cons_zero, List.set_cons_succ]
          refine wpAnyH_take (i := 10) (v := undef) rfl (by kernel_rfl) (by kernel_rfl) (by kernel_rfl) (fun _ _ _ h => h) (Or.inr ⟨by kernel_rfl, rfl⟩) hHeld ?_
          simp only [Act.put, List.getElem_toArray, List.getElem_cons_succ, List.getElem_cons_zero, List.setIfInBounds_toArray, List.set_cons_zero, List.set_cons_succ]
          refine wpAnyH_take (i := 11) (v := undef) rfl (by kernel_rfl) (by kernel_rfl) (by kernel_rfl) (fun _ _ _ h => h) (Or.inr ⟨by kernel_rfl, rfl⟩) hHeld ?_
          simp only [Act.put, List.getElem_toArray, List.getElem_cons_succ, List.getElem_cons_zero, List.setIfInBounds_toArray, List.set_cons_zero, List.set_cons_succ]
          refine wpAnyH_take (i := 12) (v := undef) rfl (by kernel_rfl) (by kernel_rfl) (by kernel_rfl) (fun _ _ _ h => h) (Or.inr ⟨by kernel_rfl, rfl⟩) hHeld ?_
          simp only [Act.put, List.getElem_toArray, List.getElem_cons_succ, List.getElem_cons_zero, List.setIfInBounds_toArray, List.set_cons_zero, List.set_cons_succ]
          refine wpAnyH_take (i := 13) (v := undef) rfl (by kernel_rfl) (by kernel_rfl) (by kernel_rfl) (fun _ _ _ h => h) (Or.inr ⟨by kernel_rfl, rfl⟩) hHeld ?_
          simp only [Act.put, List.getElem_toArray, List.getElem_cons_succ, List.getElem_cons_zero, List.setIfInBounds_toArray, List.set_cons_zero, List.set_cons_succ]
          refine wpAnyH_take (i := 14) (v := undef) rfl (by kernel_rfl) (by kernel_rfl) (by kernel_rfl) (fun _ _ _ h => h) (Or.inr ⟨by kernel_rfl, rfl⟩) hHeld ?_
          simp only [Act.put, List.getElem_toArray, List.getElem_cons_succ, List.getElem_cons_zero, List.setIfInBounds_toArray, List.set_cons_zero, List.set_cons_succ]
          refine wpAnyH_take (i := 15) (v := undef) rfl (by kernel_rfl) (by kernel_rfl) (by kernel_rfl) (fun _ _ _ h => h) (Or.inr ⟨by kernel_rfl, rfl⟩) hHeld ?_
          simp only [Act.put, List.getElem_toArray, List.getElem_cons_succ, List.getElem_cons_zero, List.setIfInBounds_toArray, List.set_cons_zero, List.set_cons_succ]
          refine wpAnyH_take (i := 16) (v := undef) rfl (by kernel_rfl) (by kernel_rfl) (by kernel_rfl) (fun _ _ _ h => h) (Or.inr ⟨by kernel_rfl, rfl⟩) hHeld ?_
          simp only [Act.put, List.getElem_toArray, List.getElem_cons_succ, List.getElem_cons_zero, List.setIfInBounds_toArray, List.set_cons_zero, List.set_cons_succ]
          refine wpAnyH_take (i := 17) (v := undef) rfl (by kernel_rfl) (by kernel_rfl) (by kernel_rfl) (fun _ _ _ h => h) (Or.inr ⟨by kernel_rfl, rfl⟩) hHeld ?_
          simp only [Act.put, List.getElem_toArray, List.getElem_cons_succ, List.getElem_cons_zero, List.setIfInBounds_toArray, List.set_cons_zero, List.set_cons_succ]
          refine wpAnyH_take (i := 18) (v := undef) rfl (by kernel_rfl) (by kernel_rfl) (by kernel_rfl) (fun _ _ _ h => h) (Or.inr ⟨by kernel_rfl, rfl⟩) hHeld ?_
          simp only [Act.put, List.getElem_toArray, List.getElem_cons_succ, List.getElem_cons_zero, List.setIfInBounds_toArray, List.set_cons_zero, List.set_cons_succ]
          refine wpAnyH_take (i := 19) (v := undef) rfl (by kernel_rfl) (by kernel_rfl) (by kernel_rfl) (fun _ _ _ h => h) (Or.inr ⟨by kernel_rfl, rfl⟩) hHeld ?_
          simp only [Act.put, List.getElem_toArray, List.getElem_cons_succ, List.getElem_cons_zero, List.setIfInBounds_toArray, List.set_cons_zero, List.set_cons_succ]
          refine wpAnyH_take (i := 20) (v := undef) rfl (by kernel_rfl) (by kernel_rfl) (by kernel_rfl) (fun _ _ _ h => h) (Or.inr ⟨by kernel_rfl, rfl⟩) hHeld ?_
          simp only [Act.put, List.getElem_toArray, List.getElem_cons_succ, List.getElem_cons_zero, List.setIfInBounds_toArray, List.set_cons_zero, List.set_cons_succ]
          refine wpAnyH_take (i := 21) (v := undef) rfl (by kernel_rfl) (by kernel_rfl) (by kernel_rfl) (fun _ _ _ h => h) (Or.inr ⟨by kernel_rfl, rfl⟩) hHeld ?_
          simp only [Act.put, List.getElem_toArray, List.getElem_cons_succ, List.getElem_cons_zero, List.setIfInBounds_toArray, List.set_cons_zero, List.set_cons_succ]
          refine wpAnyH_take (i := 22) (v := undef) rfl (by kernel_rfl) (by kernel_rfl) (by kernel_rfl) (fun _ _ _ h => h) (Or.inr ⟨by kernel_rfl, rfl⟩) hHeld ?_
          simp only [Act.put, List.getElem_toArray, List.getElem_cons_succ, List.getElem_cons_zero, List.setIfInBounds_toArray, List.set_cons_zero, List.set_cons_succ]
          refine wpAnyH_take (i := 23) (v := undef) rfl (by kernel_rfl) (by kernel_rfl) (by kernel_rfl) (fun _ _ _ h => h) (Or.inr ⟨by kernel_rfl, rfl⟩) hHeld ?_
          simp only [Act.put, List.getElem_toArray, List.getElem_cons_succ, List.getElem_cons_zero, List.setIfInBounds_toArray, List.set_cons_zero, List.set_cons_succ]
          refine wpAnyH_take (i := 24) (v := undef) rfl (by kernel_rfl) (by kernel_rfl) (by kernel_rfl) (fun _ _ _ h => h) (Or.inr ⟨by kernel_rfl, rfl⟩) hHeld ?_
          simp only [Act.put, List.getElem_toArray, List.getElem_cons_succ, List.getElem_cons_zero, List.setIfInBounds_toArray, List.set_cons_zero, List.set_cons_succ]
          refine wpAnyH_take (i := 25) (v := undef) rfl (by kernel_rfl) (by kernel_rfl) (by kernel_rfl) (fun _ _ _ h => h) (Or.inr ⟨by kernel_rfl, rfl⟩) hHeld ?_
          simp only [Act.put, List.getElem_toArray, List.getElem_cons_succ, List.getElem_cons_zero, List.setIfInBounds_toArray, List.set_cons_zero, List.set_cons_succ]
          refine wpAnyH_take (i := 26) (v := undef) rfl (by kernel_rfl) (by kernel_rfl) (by kernel_rfl) (fun _ _ _ h => h) (Or.inr ⟨by kernel_rfl, rfl⟩) hHeld ?_
          simp only [Act.put, List.getElem_toArray, List.getElem_cons_succ, List.getElem_cons_zero, List.setIfInBounds_toArray, List.set_cons_zero, List.set_cons_succ]
          refine wpAnyH_take (i := 27) (v := ?v77) rfl (by kernel_rfl) (by kernel_rfl) (by kernel_rfl) (fun _ _ _ h => h) (Or.inl ⟨by kernel_rfl, ?hy77⟩) hHeld ?rest77
          case hy77 =>
            intro w hSw
            (try dsimp only at hSw)
            go_simp
            try with_reducible rfl
          simp only [Act.put, List.getElem_toArray, List.getElem_cons_succ, List.getElem_cons_zero, List.setIfInBounds_toArray, List.set_cons_zero, List.set_cons_succ]
          refine wpAnyH_done (by kernel_rfl) ?_ _
          go_wp2
          go_roundw
          case rel => exact ⟨j + 1, by omega, by go_num, hB⟩
          case measure => simp [intOf]; omega
        · skip
          obtain ⟨hk0, hkl⟩ := HJ.out HHQ.out
          obtain ⟨kk, rfl⟩ := Int.eq_ofNat_of_zero_le hk0
          have hkn : kk < t.length := by have := HKB.out.2; omega
          obtain ⟨b2, off2, cp2, sK, hv2, _, _, _, kdK, _, rK⟩ := HO5.out.at_ hkn
          simp only [Value.slice.injEq, Option.some.injEq, Addr.mk.injEq, and_true, true_and] at hv2
          obtain ⟨⟨rfl, rfl⟩, rfl⟩ := hv2
          obtain ⟨pK, qK, rfl, _⟩ := rK.form
          rw [llen_at hkn] at hkl
          generalize t[kk].1.length = lk9 at kdK hkl
          have g0 : ¬ (kk : Int) < 0 := by omega
          have g0' : decide ((kk : Int) < 0) = false := decide_eq_false g0
          have g1 : ¬ (lk9 : Int) < (sj.length : Int) := by omega
          have g2 : decide ((lk9 : Int) < (sj.length : Int)) = false := decide_eq_false g1
          have g3 : (0 : Int) ≤ (kk : Int) := by omega
          have g4 : (kk : Int) < (t.length : Int) := by omega
          clear rK
          go_wp2_with fail
          have y30 := Below.drew (ext_refl wr)
          have qd30 := y30.size
          replace X := ext_trans X y30
          replace k11 := cell_ext k11 y30
          replace kd0 := cell_ext kd0 y30
          replace r5 := r5.ext y30
          replace o6 := o6.ext y30
          replace hB := hB.ext y30
          replace kdK := cell_ext kdK y30
          clear y30
          refine wp_region_held_drew (S := fun w' => w'.cell? ⟨W6.heap.size, 0, none⟩ = some (.slice a7' (m.length) c7') ∧ w'.cell? ⟨b, off + j * 2, none⟩ = some (.slice p5 sj.length q5') ∧ w'.cell? ⟨b, off + kk * 2, none⟩ = some (.slice pK lk9 qK)) (by kernel_rfl) (by exact ⟨k11, kd0, kdK⟩) (fun hHeld => ?_)
          refine wpAnyH_take (i := 0) (v := ?v78) rfl (by kernel_rfl) (by kernel_rfl) (by kernel_rfl) (fun _ _ _ h => h) (Or.inl ⟨by kernel_rfl, ?hy78⟩) hHeld ?rest78
          case hy78 =>
            intro w hSw
            (try dsimp only at hSw)
            go_simp
            try with_reducible rfl
          simp only [Act.put, List.getElem_toArray, List.getElem_cons_zero, List.setIfInBounds_toArray, List.set_cons_zero, List.set_cons_succ]
          refine wpAnyH_take (i := 1) (v := ?v79) rfl (by kernel_rfl) (by kernel_rfl) (by kernel_rfl) (fun _ _ _ h => h) (Or.inl ⟨by kernel_rfl, ?hy79⟩) hHeld ?rest79
          case hy79 =>
            intro w hSw
            (try dsimp only at hSw)
            go_simp
            try with_reducible rfl
          simp only [Act.put, List.getElem_toArray, List.getElem_cons_succ, List.getElem_cons_zero, List.setIfInBounds_toArray, List.set_cons_zero, List.set_cons_succ]
          refine wpAnyH_take (i := 2) (v := ?v80) rfl (by kernel_rfl) (by kernel_rfl) (by kernel_rfl) (fun _ _ _ h => h) (Or.inl ⟨by kernel_rfl, ?hy80⟩) hHeld ?rest80
          case hy80 =>
            intro w hSw
            (try dsimp only at hSw)
            go_simp
            try with_reducible rfl
          simp only [Act.put, List.getElem_toArray, List.getElem_cons_succ, List.getElem_cons_zero, List.setIfInBounds_toArray, List.set_cons_zero, List.set_cons_succ]
          refine wpAnyH_take (i := 3) (v := ?v81) rfl (by kernel_rfl) (by kernel_rfl) (by kernel_rfl) (fun _ _ _ h => h) (Or.inl ⟨by kernel_rfl, ?hy81⟩) hHeld ?rest81
          case hy81 =>
            intro w hSw
            (try dsimp only at hSw)
            go_simp
            try with_reducible rfl
          simp only [Act.put, List.getElem_toArray, List.getElem_cons_succ, List.getElem_cons_zero, List.setIfInBounds_toArray, List.set_cons_zero, List.set_cons_succ]
          refine wpAnyH_take (i := 4) (v := ?v82) rfl (by kernel_rfl) (by kernel_rfl) (by kernel_rfl) (fun _ _ _ h => h) (Or.inl ⟨by kernel_rfl, ?hy82⟩) hHeld ?rest82
          case hy82 =>
            intro w hSw
            (try dsimp only at hSw)
            go_simp
            try with_reducible rfl
          simp only [Act.put, List.getElem_toArray, List.getElem_cons_succ, List.getElem_cons_zero, List.setIfInBounds_toArray, List.set_cons_zero, List.set_cons_succ]
          refine wpAnyH_take (i := 5) (v := ?v83) rfl (by kernel_rfl) (by kernel_rfl) (by kernel_rfl) (fun _ _ _ h => h) (Or.inl ⟨by kernel_rfl, ?hy83⟩) hHeld ?rest83
          case hy83 =>
            intro w hSw
            (try dsimp only at hSw)
            go_simp
            try with_reducible rfl
          simp only [Act.put, List.getElem_toArray, List.getElem_cons_succ, List.getElem_cons_zero, List.setIfInBounds_toArray, List.set_cons_zero, List.set_cons_succ]
          refine wpAnyH_ready (rs := [6]) (by kernel_rfl) (by simp) ?_
          refine AllReadyH.cons rfl (fun K hK => ?_) AllReadyH.nil
          go_simp
          go_at_call 15
          have C := implHasPrefix_c o6 (show RdN _ _ _ (.agg #[.slice p5 sj.length q5']) sj.length (sj.map sv) from ⟨_, rfl, r5⟩)
          rw [HHQ.out] at C
          refine C.mono ?_
          clear C
          rintro e W31 ⟨_, rfl, rfl, y31⟩
          have q31 := y31.size
          replace X := ext_trans X y31
          replace k11 := cell_ext k11 y31
          replace kd0 := cell_ext kd0 y31
          replace r5 := r5.ext y31
          replace o6 := o6.ext y31
          replace hB := hB.ext y31
          replace kdK := cell_ext kdK y31
          clear y31
          refine hK.out _ _ (by exact ⟨k11, kd0, kdK⟩) (fun hHeld => ?_)
          clear hK K
          refine wpAnyH_take (i := 7) (v := ?v84) rfl (by kernel_rfl) (by kernel_rfl) (by kernel_rfl) (fun _ _ _ h => h) (Or.inl ⟨by kernel_rfl, ?hy84⟩) hHeld ?rest84
          case hy84 =>
            intro w hSw
            (try dsimp only at hSw)
            go_simp
            try with_reducible rfl
          simp only [Act.put, List.getElem_toArray, List.getElem_cons_succ, List.getElem_cons_zero, List.setIfInBounds_toArray, List.set_cons_zero, List.set_cons_succ]
          refine wpAnyH_take (i := 8) (v := ?v85) rfl (by kernel_rfl) (by kernel_rfl) (by kernel_rfl) (fun _ _ _ h => h) (Or.inl ⟨by kernel_rfl, ?hy85⟩) hHeld ?rest85
          case hy85 =>
            intro w hSw
            (try dsimp only at hSw)
            go_simp
            try with_reducible rfl
          simp only [Act.put, List.getElem_toArray, List.getElem_cons_succ, List.getElem_cons_zero, List.setIfInBounds_toArray, List.set_cons_zero, List.set_cons_succ]
          refine wpAnyH_take (i := 9) (v := ?v86) rfl (by kernel_rfl) (by kernel_rfl) (by kernel_rfl) (fun _ _ _ h => h) (Or.inl ⟨by kernel_rfl, ?hy86⟩) hHeld ?rest86
          case hy86 =>
            intro w hSw
            (try dsimp only at hSw)
            go_simp
            try with_reducible rfl
          simp only [Act.put, List.getElem_toArray, List.getElem_cons_succ, List.getElem_cons_zero, List.setIfInBounds_toArray, List.set_cons_zero, List.set_cons_succ]
          refine wpAnyH_take (i := 10) (v := ?v87) rfl (by kernel_rfl) (by kernel_rfl) (by kernel_rfl) (fun _ _ _ h => h) (Or.inl ⟨by kernel_rfl, ?hy87⟩) hHeld ?rest87
          case hy87 =>
            intro w hSw
            (try dsimp only at hSw)
            go_simp
            try with_reducible rfl
          simp only [Act.put, List.getElem_toArray, List.getElem_cons_succ, List.getElem_cons_zero, List.setIfInBounds_toArray, List.set_cons_zero, List.set_cons_succ]
          refine wpAnyH_take (i := 11) (v := ?v88) rfl (by kernel_rfl) (by kernel_rfl) (by kernel_rfl) (fun _ _ _ h => h) (Or.inl ⟨by kernel_rfl, ?hy88⟩) hHeld ?rest88
          case hy88 =>
            intro w hSw
            (try dsimp only at hSw)
            go_simp
            try with_reducible rfl
          simp only [Act.put, List.getElem_toArray, List.getElem_cons_succ, List.getElem_cons_zero, List.setIfInBounds_toArray, List.set_cons_zero, List.set_cons_succ]
          refine wpAnyH_take (i := 12) (v := ?v89) rfl (by kernel_rfl) (by kernel_rfl) (by kernel_rfl) (fun _ _ _ h => h) (Or.inl ⟨by kernel_rfl, ?hy89⟩) hHeld ?rest89
          case hy89 =>
            intro w hSw
            (try dsimp only at hSw)
            go_simp
            try with_reducible rfl
          simp only [Act.put, List.getElem_toArray, List.getElem_cons_succ, List.getElem_cons_zero, List.setIfInBounds_toArray, List.set_cons_zero, List.set_cons_succ]
          refine wpAnyH_take (i := 13) (v := ?v90) rfl (by kernel_rfl) (by kernel_rfl) (by kernel_rfl) (fun _ _ _ h => h) (Or.inl ⟨by kernel_rfl, ?hy90⟩) hHeld ?rest90
          case hy90 =>
            intro w hSw
            (try dsimp only at hSw)
            go_simp
            try with_reducible rfl
          simp only [Act.put, List.getElem_toArray, List.getElem_cons_succ, List.getElem_cons_zero, List.setIfInBounds_toArray, List.set_cons_zero, List.set_cons_succ]
          refine wpAnyH_take (i := 14) (v := ?v91) rfl (by kernel_rfl) (by kernel_rfl) (by kernel_rfl) (fun _ _ _ h => h) (Or.inl ⟨by kernel_rfl, ?hy91⟩) hHeld ?rest91
          case hy91 =>
            intro w hSw
            (try dsimp only at hSw)
            go_simp
            try with_reducible rfl
          simp only [Act.put, List.getElem_toArray, List.getElem_cons_succ, List.getElem_cons_zero, List.setIfInBounds_toArray, List.set_cons_zero, List.set_cons_succ]
          refine wpAnyH_take (i := 15) (v := ?v92) rfl (by kernel_rfl) (by kernel_rfl) (by kernel_rfl) (fun _ _ _ h => h) (Or.inl ⟨by kernel_rfl, ?hy92⟩) hHeld ?rest92
          case hy92 =>
            intro w hSw
            (try dsimp only at hSw)
            go_simp
            try with_reducible rfl
          simp only [Act.put, List.getElem_toArray, List.getElem_cons_succ, List.getElem_cons_zero, List.setIfInBounds_toArray, List.set_cons_zero, List.set_cons_succ]
          refine wpAnyH_take (i := 16) (v := ?v93) rfl (by kernel_rfl) (by kernel_rfl) (by kernel_rfl) (fun _ _ _ h => h) (Or.inl ⟨by kernel_rfl, ?hy93⟩) hHeld ?rest93
          case hy93 =>
            intro w hSw
            (try dsimp only at hSw)
            go_simp
            try with_reducible rfl
          simp only [Act.put, List.getElem_toArray, List.getElem_cons_succ, List.getElem_cons_zero, List.setIfInBounds_toArray, List.set_cons_zero, List.set_cons_succ]
          refine wpAnyH_take (i := 17) (v := ?v94) rfl (by kernel_rfl) (by kernel_rfl) (by kernel_rfl) (fun _ _ _ h => h) (Or.inl ⟨by kernel_rfl, ?hy94⟩) hHeld ?rest94
          case hy94 =>
            intro w hSw
            (try dsimp only at hSw)
            go_simp
            try with_reducible rfl
          simp only [Act.put, List.getElem_toArray, List.getElem_cons_succ, List.getElem_cons_zero, List.setIfInBounds_toArray, List.set_cons_zero, List.set_cons_succ]
          refine wpAnyH_take (i := 18) (v := ?v95) rfl (by kernel_rfl) (by kernel_rfl) (by kernel_rfl) (fun _ _ _ h => h) (Or.inl ⟨by kernel_rfl, ?hy95⟩) hHeld ?rest95
          case hy95 =>
            intro w hSw
            (try dsimp only at hSw)
            go_simp
            try with_reducible rfl
          simp only [Act.put, List.getElem_toArray, List.getElem_cons_succ, List.getElem_cons_zero, List.setIfInBounds_toArray, List.set_cons_zero, List.set_cons_succ]
          refine wpAnyH_take (i := 19) (v := ?v96) rfl (by kernel_rfl) (by kernel_rfl) (by kernel_rfl) (fun _ _ _ h => h) (Or.inl ⟨by kernel_rfl, ?hy96⟩) hHeld ?rest96
          case hy96 =>
            intro w hSw
            (try dsimp only at hSw)
            go_simp
            try with_reducible rfl
          simp only [Act.put, List.getElem_toArray, List.getElem_cons_succ, List.getElem_cons_zero, List.setIfInBounds_toArray, List.set_cons_zero, List.set_cons_succ]
          refine wpAnyH_take (i := 20) (v := ?v97) rfl (by kernel_rfl) (by kernel_rfl) (by kernel_rfl) (fun _ _ _ h => h) (Or.inl ⟨by kernel_rfl, ?hy97⟩) hHeld ?rest97
          case hy97 =>
            intro w hSw
            (try dsimp only at hSw)
            go_simp
            try with_reducible rfl
          simp only [Act.put, List.getElem_toArray, List.getElem_cons_succ, List.getElem_cons_zero, List.setIfInBounds_toArray, List.set_cons_zero, List.set_cons_succ]
          refine wpAnyH_take (i := 21) (v := ?v98) rfl (by kernel_rfl) (by kernel_rfl) (by kernel_rfl) (fun _ _ _ h => h) (Or.inl ⟨by kernel_rfl, ?hy98⟩) hHeld ?rest98
          case hy98 =>
            intro w hSw
            (try dsimp only at hSw)
            go_simp
            try with_reducible rfl
          simp only [Act.put, List.getElem_toArray, List.getElem_cons_succ, List.getElem_cons_zero, List.setIfInBounds_toArray, List.set_cons_zero, List.set_cons_succ]
          refine wpAnyH_take (i := 22) (v := ?v99) rfl (by kernel_rfl) (by kernel_rfl) (by kernel_rfl) (fun _ _ _ h => h) (Or.inl ⟨by kernel_rfl, ?hy99⟩) hHeld ?rest99
          case hy99 =>
            intro w hSw
            (try dsimp only at hSw)
            go_simp
            try with_reducible rfl
          simp only [Act.put, List.getElem_toArray, List.getElem_cons_succ, List.getElem_cons_zero, List.setIfInBounds_toArray, List.set_cons_zero, List.set_cons_succ]
          refine wpAnyH_take (i := 23) (v := ?v100) rfl (by kernel_rfl) (by kernel_rfl) (by kernel_rfl) (fun _ _ _ h => h) (Or.inl ⟨by kernel_rfl, ?hy100⟩) hHeld ?rest100
          case hy100 =>
            intro w hSw
            (try dsimp only at hSw)
            go_simp
            try with_reducible rfl
          simp only [Act.put, List.getElem_toArray, List.getElem_cons_succ, List.getElem_cons_zero, List.setIfInBounds_toArray, List.set_cons_zero, List.set_cons_succ]
          refine wpAnyH_take (i := 24) (v := ?v101) rfl (by kernel_rfl) (by kernel_rfl) (by kernel_rfl) (fun _ _ _ h => h) (Or.inl ⟨by kernel_rfl, ?hy101⟩) hHeld ?rest101
          case hy101 =>
            intro w hSw
            (try dsimp only at hSw)
            go_simp
            try with_reducible rfl
          simp only [Act.put, List.getElem_toArray, List.getElem_cons_succ, List.getElem_cons_zero, List.setIfInBounds_toArray, List.set_cons_zero, List.set_cons_succ]
          refine wpAnyH_take (i := 25) (v := ?v102) rfl (by kernel_rfl) (by kernel_rfl) (by kernel_rfl) (fun _ _ _ h => h) (Or.inl ⟨by kernel_rfl, ?hy102⟩) hHeld ?rest102
          case hy102 =>
            intro w hSw
            (try dsimp only at hSw)
            go_simp
            try with_reducible rfl
          simp only [Act.put, List.getElem_toArray, List.getElem_cons_succ, List.getElem_cons_zero, List.setIfInBounds_toArray, List.set_cons_zero, List.set_cons_succ]
          refine wpAnyH_take (i := 26) (v := ?v103) rfl (by kernel_rfl) (by kernel_rfl) (by kernel_rfl) (fun _ _ _ h => h) (Or.inl ⟨by kernel_rfl, ?hy103⟩) hHeld ?rest103
          case hy103 =>
            intro w hSw
            (try dsimp only at hSw)
            go_simp
            try with_reducible rfl
          simp only [Act.put, List.getElem_toArray, List.getElem_cons_succ, List.getElem_cons_zero, List.setIfInBounds_toArray, List.set_cons_zero, List.set_cons_succ]
          refine wpAnyH_take (i := 27) (v := ?v104) rfl (by kernel_rfl) (by kernel_rfl) (by kernel_rfl) (fun _ _ _ h => h) (Or.inl ⟨by kernel_rfl, ?hy104⟩) hHeld ?rest104
          case hy104 =>
            intro w hSw
            (try dsimp only at hSw)
            go_simp
            try with_reducible rfl
          simp only [Act.put, List.getElem_toArray, List.getElem_cons_succ, List.getElem_cons_zero, List.setIfInBounds_toArray, List.set_cons_zero, List.set_cons_succ]
          refine wpAnyH_done (by kernel_rfl) ?_ _
          go_wp2
          go_roundw
          case rel => exact ⟨j + 1, by omega, by go_num, hB⟩
          case measure => simp [intOf]; omega
      · clear hB
        have hnl : ¬ (j : Int) < (t.length : Int) := by omega
        by_cases hk0 : 0 ≤ K
        · skip
          obtain ⟨kk, rfl⟩ := Int.eq_ofNat_of_zero_le hk0
          have hkn : kk < t.length := by have := HKB.out.2; omega
          have HPK := hid (HLP.out.1 kk hkn rfl)
          obtain ⟨b2, off2, cp2, sK, hv2, _, _, _, kdK, _, rK⟩ := o5.at_ hkn
          simp only [Value.slice.injEq, true_and] at hv2
          obtain ⟨rfl, rfl⟩ := hv2
          obtain ⟨pK, qK, rfl, _⟩ := rK.form
          generalize t[kk].1 = sk9 at kdK rK HPK
          have g3 : (0 : Int) ≤ (kk : Int) := by omega
          have g4 : (kk : Int) < (t.length : Int) := by omega
          clear hk0
          go_wp2_with fail
          have y30 := Below.drew (ext_refl wr)
          have qd30 := y30.size
          replace X := ext_trans X y30
          replace r0 := r0.ext y30
          replace o1 := o1.ext y30
          replace o2 := o2.ext y30
          replace k4 := cell_ext k4 y30
          replace o3 := o3.ext y30
          replace o6 := o6.ext y30
          replace k11 := cell_ext k11 y30
          replace kdK := cell_ext kdK y30
          replace rK := rK.ext y30
          clear y30
          refine wp_region_held_drew (S := fun w' => w'.cell? ⟨W6.heap.size, 0, none⟩ = some (.slice a7' (m.length) c7') ∧ w'.cell? ⟨b2, off2 + kk * 2, none⟩ = some (.slice pK sk9.length qK)) (by kernel_rfl) (by exact ⟨k11, kdK⟩) (fun hHeld => ?_)
          refine wpAnyH_take (i := 0) (v := ?v105) rfl (by kernel_rfl) (by kernel_rfl) (by kernel_rfl) (fun _ _ _ h => h) (Or.inl ⟨by kernel_rfl, ?hy105⟩) hHeld ?rest105
          case hy105 =>
            intro w hSw
            (try dsimp only at hSw)
            go_simp
            try with_reducible rfl
          simp only [Act.put, List.getElem_toArray, List.getElem_cons_zero, List.setIfInBounds_toArray, List.set_cons_zero, List.set_cons_succ]
          refine wpAnyH_take (i := 1) (v := ?v106) rfl (by kernel_rfl) (by kernel_rfl) (by kernel_rfl) (fun _ _ _ h => h) (Or.inl ⟨by kernel_rfl, ?hy106⟩) hHeld ?rest106
          case hy106 =>
            intro w hSw
            (try dsimp only at hSw)
            go_simp
            try with_reducible rfl
          simp only [Act.put, List.getElem_toArray, List.getElem_cons_succ, List.getElem_cons_zero, List.setIfInBounds_toArray, List.set_cons_zero, List.set_cons_succ]
          refine wpAnyH_take (i := 2) (v := ?v107) rfl (by kernel_rfl) (by kernel_rfl) (by kernel_rfl) (fun _ _ _ h => h) (Or.inl ⟨by kernel_rfl, ?hy107⟩) hHeld ?rest107
          case hy107 =>
            intro w hSw
            (try dsimp only at hSw)
            go_simp
            try with_reducible rfl
          simp only [Act.put, List.getElem_toArray, List.getElem_cons_succ, List.getElem_cons_zero, List.setIfInBounds_toArray, List.set_cons_zero, List.set_cons_succ]
          refine wpAnyH_take (i := 3) (v := ?v108) rfl (by kernel_rfl) (by kernel_rfl) (by kernel_rfl) (fun _ _ _ h => h) (Or.inl ⟨by kernel_rfl, ?hy108⟩) hHeld ?rest108
          case hy108 =>
            intro w hSw
            (try dsimp only at hSw)
            go_simp
            try with_reducible rfl
          simp only [Act.put, List.getElem_toArray, List.getElem_cons_succ, List.getElem_cons_zero, List.setIfInBounds_toArray, List.set_cons_zero, List.set_cons_succ]
          refine wpAnyH_take (i := 4) (v := ?v109) rfl (by kernel_rfl) (by kernel_rfl) (by kernel_rfl) (fun _ _ _ h => h) (Or.inl ⟨by kernel_rfl, ?hy109⟩) hHeld ?rest109
          case hy109 =>
            intro w hSw
            (try dsimp only at hSw)
            go_simp
            try with_reducible rfl
          simp only [Act.put, List.getElem_toArray, List.getElem_cons_succ, List.getElem_cons_zero, List.setIfInBounds_toArray, List.set_cons_zero, List.set_cons_succ]
          refine wpAnyH_take (i := 5) (v := ?v110) rfl (by kernel_rfl) (by kernel_rfl) (by kernel_rfl) (fun _ _ _ h => h) (Or.inl ⟨by kernel_rfl, ?hy110⟩) hHeld ?rest110
          case hy110 =>
            intro w hSw
            (try dsimp only at hSw)
            go_simp
            try with_reducible rfl
          simp only [Act.put, List.getElem_toArray, List.getElem_cons_succ, List.getElem_cons_zero, List.setIfInBounds_toArray, List.set_cons_zero, List.set_cons_succ]
          refine wpAnyH_take (i := 6) (v := ?v111) rfl (by kernel_rfl) (by kernel_rfl) (by kernel_rfl) (fun _ _ _ h => h) (Or.inl ⟨by kernel_rfl, ?hy111⟩) hHeld ?rest111
          case hy111 =>
            intro w hSw
            (try dsimp only at hSw)
            go_simp
            try with_reducible rfl
          simp only [Act.put, List.getElem_toArray, List.getElem_cons_succ, List.getElem_cons_zero, List.setIfInBounds_toArray, List.set_cons_zero, List.set_cons_succ]
          refine wpAnyH_take (i := 7) (v := ?v112) rfl (by kernel_rfl) (by kernel_rfl) (by kernel_rfl) (fun _ _ _ h => h) (Or.inl ⟨by kernel_rfl, ?hy112⟩) hHeld ?rest112
          case hy112 =>
            intro w hSw
            (try dsimp only at hSw)
            go_simp
            try with_reducible rfl
          simp only [Act.put, List.getElem_toArray, List.getElem_cons_succ, List.getElem_cons_zero, List.setIfInBounds_toArray, List.set_cons_zero, List.set_cons_succ]
          refine wpAnyH_take (i := 8) (v := ?v113) rfl (by kernel_rfl) (by kernel_rfl) (by kernel_rfl) (fun _ _ _ h => h) (Or.inl ⟨by kernel_rfl, ?hy113⟩) hHeld ?rest113
          case hy113 =>
            intro w hSw
            (try dsimp only at hSw)
            go_simp
            try with_reducible rfl
          simp only [Act.put, List.getElem_toArray, List.getElem_cons_succ, List.getElem_cons_zero, List.setIfInBounds_toArray, List.set_cons_zero, List.set_cons_succ]
          refine wpAnyH_ready (rs := [9]) (by kernel_rfl) (by simp) ?_
          refine AllReadyH.cons rfl (fun K hK => ?_) AllReadyH.nil
          rw [if_pos (by kernel_rfl)]
          go_simp
          go_at_call 15
          have C := implHasPrefix_c o6 (show RdN _ _ _ (.agg #[.slice pK sk9.length qK]) sk9.length (sk9.map sv) from ⟨_, rfl, rK⟩)
          rw [HPK.out] at C
          refine C.mono ?_
          clear C
          rintro e W31 ⟨_, rfl, rfl, y31⟩
          have q31 := y31.size
          replace X := ext_trans X y31
          replace r0 := r0.ext y31
          replace o1 := o1.ext y31
          replace o2 := o2.ext y31
          replace k4 := cell_ext k4 y31
          replace o3 := o3.ext y31
          replace o6 := o6.ext y31
          replace k11 := cell_ext k11 y31
          replace kdK := cell_ext kdK y31
          replace rK := rK.ext y31
          clear y31
          refine hK.out _ _ (by exact ⟨k11, kdK⟩) (fun hHeld => ?_)
          clear hK K
          refine wpAnyH_take (i := 10) (v := ?v114) rfl (by kernel_rfl) (by kernel_rfl) (by kernel_rfl) (fun _ _ _ h => h) (Or.inl ⟨by kernel_rfl, ?hy114⟩) hHeld ?rest114
          case hy114 =>
            intro w hSw
            (try dsimp only at hSw)
            go_simp
            try with_reducible rfl
          simp only [Act.put, List.getElem_toArray, List.getElem_cons_succ, List.getElem_cons_zero, List.setIfInBounds_toArray, List.set_cons_zero, List.set_cons_succ]
          refine wpAnyH_take (i := 11) (v := ?v115) rfl (by kernel_rfl) (by kernel_rfl) (by kernel_rfl) (fun _ _ _ h => h) (Or.inl ⟨by kernel_rfl, ?hy115⟩) hHeld ?rest115
          case hy115 =>
            intro w hSw
            (try dsimp only at hSw)
            go_simp
            try with_reducible rfl
          simp only [Act.put, List.getElem_toArray, List.getElem_cons_succ, List.getElem_cons_zero, List.setIfInBounds_toArray, List.set_cons_zero, List.set_cons_succ]
          refine wpAnyH_done (by kernel_rfl) ?_ _
          clear kdK rK k11 o6
          rcases HX.out with ⟨rfl, hX, hvX⟩ | ⟨rfl, hX⟩
          · have HLK := hid (show lk XT n = (z, true) by rw [hX]; exact lk_peY tl n z)
            have HLR := hid (lk_removed XT n)
            have HV := hid hvX
            obtain ⟨hb1, hb2⟩ := HXB.out
            clear hX hvX
            go_wp2_with fail
            have C := implLookupEntry_c o3.rd o2
            rw [HLK.out] at C
            refine C.mono ?_
            clear C
            rintro e W32 ⟨_, rfl, rfl, y32⟩
            have q32 := y32.size
            replace X := ext_trans X y32
            replace r0 := r0.ext y32
            replace o1 := o1.ext y32
            replace o2 := o2.ext y32
            replace k4 := cell_ext k4 y32
            replace o3 := o3.ext y32
            clear y32
            go_wp2_with fail
            have y32 := Below.drew (ext_refl W32)
            have qd32 := y32.size
            replace X := ext_trans X y32
            replace r0 := r0.ext y32
            replace o1 := o1.ext y32
            replace o2 := o2.ext y32
            replace k4 := cell_ext k4 y32
            replace o3 := o3.ext y32
            clear y32
            refine wp_region_held_drew (S := fun w' => w'.cell? ⟨W2.heap.size, 0, none⟩ = some (.slice a3' (n.length) c3')) (by kernel_rfl) (by exact k4) (fun hHeld => ?_)
            refine wpAnyH_take (i := 0) (v := ?v116) rfl (by kernel_rfl) (by kernel_rfl) (by kernel_rfl) (fun _ _ _ h => h) (Or.inl ⟨by kernel_rfl, ?hy116⟩) hHeld ?rest116
            case hy116 =>
              intro w hSw
              (try dsimp only at hSw)
              go_simp
              try with_reducible rfl
            simp only [Act.put, List.getElem_toArray, List.getElem_cons_zero, List.setIfInBounds_toArray, List.set_cons_zero, List.set_cons_succ]
            refine wpAnyH_take (i := 1) (v := ?v117) rfl (by kernel_rfl) (by kernel_rfl) (by kernel_rfl) (fun _ _ _ h => h) (Or.inl ⟨by kernel_rfl, ?hy117⟩) hHeld ?rest117
            case hy117 =>
              intro w hSw
              (try dsimp only at hSw)
              go_simp
              try with_reducible rfl
            simp only [Act.put, List.getElem_toArray, List.getElem_cons_succ, List.getElem_cons_zero, List.setIfInBounds_toArray, List.set_cons_zero, List.set_cons_succ]
            refine wpAnyH_take (i := 3) (v := ?v118) rfl (by kernel_rfl) (by kernel_rfl) (by kernel_rfl) (fun _ _ _ h => h) (Or.inl ⟨by kernel_rfl, ?hy118⟩) hHeld ?rest118
            case hy118 =>
              intro w hSw
              (try dsimp only at hSw)
              go_simp
              try with_reducible rfl
            simp only [Act.put, List.getElem_toArray, List.getElem_cons_succ, List.getElem_cons_zero, List.setIfInBounds_toArray, List.set_cons_zero, List.set_cons_succ]
            refine wpAnyH_ready (rs := [2]) (by kernel_rfl) (by simp) ?_
            refine AllReadyH.cons rfl (fun K hK => ?_) AllReadyH.nil
            go_simp
            go_at_call 56
            have C := implRemoveEntry_c o3.rd o2 (by omega) (by omega)
            refine C.mono ?_
            clear C
            rintro e W33 ⟨u30, rfl, o30, y33⟩
            have q33 := y33.size
            replace X := ext_trans X y33
            replace r0 := r0.ext y33
            replace o1 := o1.ext y33
            replace o2 := o2.ext y33
            replace k4 := cell_ext k4 y33
            replace o3 := o3.ext y33
            clear y33
            refine hK.out _ _ (by exact k4) (fun hHeld => ?_)
            clear hK K
            refine wpAnyH_ready (rs := [4]) (by kernel_rfl) (by simp) ?_
            refine AllReadyH.cons rfl (fun K hK => ?_) AllReadyH.nil
            go_simp
            go_at_call 51
            have C := implLookupEntry_c o30.rd o2
            rw [HLR.out] at C
            refine C.mono ?_
            clear C
            rintro e W34 ⟨_, rfl, rfl, y34⟩
            have q34 := y34.size
            replace X := ext_trans X y34
            replace r0 := r0.ext y34
            replace o1 := o1.ext y34
            replace o2 := o2.ext y34
            replace k4 := cell_ext k4 y34
            replace o3 := o3.ext y34
            replace o30 := o30.ext y34
            clear y34
            refine hK.out _ _ (by exact k4) (fun hHeld => ?_)
            clear hK K
            refine wpAnyH_take (i := 5) (v := ?v119) rfl (by kernel_rfl) (by kernel_rfl) (by kernel_rfl) (fun _ _ _ h => h) (Or.inl ⟨by kernel_rfl, ?hy119⟩) hHeld ?rest119
            case hy119 =>
              intro w hSw
              (try dsimp only at hSw)
              go_simp
              try with_reducible rfl
            simp only [Act.put, List.getElem_toArray, List.getElem_cons_succ, List.getElem_cons_zero, List.setIfInBounds_toArray, List.set_cons_zero, List.set_cons_succ]
            refine wpAnyH_take (i := 6) (v := ?v120) rfl (by kernel_rfl) (by kernel_rfl) (by kernel_rfl) (fun _ _ _ h => h) (Or.inl ⟨by kernel_rfl, ?hy120⟩) hHeld ?rest120
            case hy120 =>
              intro w hSw
              (try dsimp only at hSw)
              go_simp
              try with_reducible rfl
            simp only [Act.put, List.getElem_toArray, List.getElem_cons_succ, List.getElem_cons_zero, List.setIfInBounds_toArray, List.set_cons_zero, List.set_cons_succ]
            refine wpAnyH_take (i := 7) (v := ?v121) rfl (by kernel_rfl) (by kernel_rfl) (by kernel_rfl) (fun _ _ _ h => h) (Or.inl ⟨by kernel_rfl, ?hy121⟩) hHeld ?rest121
            case hy121 =>
              intro w hSw
              (try dsimp only at hSw)
              go_simp
              try with_reducible rfl
            simp only [Act.put, List.getElem_toArray, List.getElem_cons_succ, List.getElem_cons_zero, List.setIfInBounds_toArray, List.set_cons_zero, List.set_cons_succ]
            refine wpAnyH_take (i := 8) (v := ?v122) rfl (by kernel_rfl) (by kernel_rfl) (by kernel_rfl) (fun _ _ _ h => h) (Or.inl ⟨by kernel_rfl, ?hy122⟩) hHeld ?rest122
            case hy122 =>
              intro w hSw
              (try dsimp only at hSw)
              go_simp
              try with_reducible rfl
            simp only [Act.put, List.getElem_toArray, List.getElem_cons_succ, List.getElem_cons_zero, List.setIfInBounds_toArray, List.set_cons_zero, List.set_cons_succ]
            refine wpAnyH_take (i := 9) (v := ?v123) rfl (by kernel_rfl) (by kernel_rfl) (by kernel_rfl) (fun _ _ _ h => h) (Or.inl ⟨by kernel_rfl, ?hy123⟩) hHeld ?rest123
            case hy123 =>
              intro w hSw
              (try dsimp only at hSw)
              go_simp
              try with_reducible rfl
            simp only [Act.put, List.getElem_toArray, List.getElem_cons_succ, List.getElem_cons_zero, List.setIfInBounds_toArray, List.set_cons_zero, List.set_cons_succ]
            refine wpAnyH_done (by kernel_rfl) ?_ _
            go_wp2_with fail
            have C := implValidTable_c o3.rd HXZ.out
            rw [HV.out] at C
            refine C.mono ?_
            clear C
            rintro e W35 ⟨_, rfl, rfl, y35⟩
            have q35 := y35.size
            replace X := ext_trans X y35
            replace r0 := r0.ext y35
            replace o1 := o1.ext y35
            replace o2 := o2.ext y35
            replace k4 := cell_ext k4 y35
            replace o3 := o3.ext y35
            replace o30 := o30.ext y35
            clear y35
            go_wp2_with fail
            go_ret
            exact ⟨rfl, X⟩
          · have hX2 : decide (XT = tl) = true := decide_eq_true hX
            have HX2 := hid hX2
            clear hX hX2
            go_wp2_with fail
            have C := sameRows_c o3.rd o1
            rw [HX2.out] at C
            refine C.mono ?_
            clear C
            rintro e W32 ⟨_, rfl, rfl, y32⟩
            have q32 := y32.size
            replace X := ext_trans X y32
            replace r0 := r0.ext y32
            replace o1 := o1.ext y32
            replace o2 := o2.ext y32
            replace k4 := cell_ext k4 y32
            replace o3 := o3.ext y32
            clear y32
            go_wp2_with fail
            go_ret
            exact ⟨rfl, X⟩
        · skip
          have g0 : decide (0 ≤ K) = false := decide_eq_false hk0
          go_wp2_with fail
          have y30 := Below.drew (ext_refl wr)
          have qd30 := y30.size
          replace X := ext_trans X y30
          replace r0 := r0.ext y30
          replace o1 := o1.ext y30
          replace o2 := o2.ext y30
          replace k4 := cell_ext k4 y30
          replace o3 := o3.ext y30
          replace k11 := cell_ext k11 y30
          clear y30
          refine wp_region_held_drew (S := fun w' => w'.cell? ⟨W6.heap.size, 0, none⟩ = some (.slice a7' (m.length) c7')) (by kernel_rfl) (by exact k11) (fun hHeld => ?_)
          refine wpAnyH_take (i := 0) (v := ?v124) rfl (by kernel_rfl) (by kernel_rfl) (by kernel_rfl) (fun _ _ _ h => h) (Or.inl ⟨by kernel_rfl, ?hy124⟩) hHeld ?rest124
          case hy124 =>
            intro w hSw
            (try dsimp only at hSw)
            go_simp
            try with_reducible rfl
          simp only [Act.put, List.getElem_toArray, List.getElem_cons_zero, List.setIfInBounds_toArray, List.set_cons_zero, List.set_cons_succ]
          refine wpAnyH_take (i := 1) (v := ?v125) rfl (by kernel_rfl) (by kernel_rfl) (by kernel_rfl) (fun _ _ _ h => h) (Or.inl ⟨by kernel_rfl, ?hy125⟩) hHeld ?rest125
          case hy125 =>
            intro w hSw
            (try dsimp only at hSw)
            go_simp
            try with_reducible rfl
          simp only [Act.put, List.getElem_toArray, List.getElem_cons_succ, List.getElem_cons_zero, List.setIfInBounds_toArray, List.set_cons_zero, List.set_cons_succ]
          refine wpAnyH_take (i := 2) (v := ?v126) rfl (by kernel_rfl) (by kernel_rfl) (by kernel_rfl) (fun _ _ _ h => h) (Or.inl ⟨by kernel_rfl, ?hy126⟩) hHeld ?rest126
          case hy126 =>
            intro w hSw
            (try dsimp only at hSw)
            go_simp
            try with_reducible rfl
          simp only [Act.put, List.getElem_toArray, List.getElem_cons_succ, List.getElem_cons_zero, List.setIfInBounds_toArray, List.set_cons_zero, List.set_cons_succ]
          refine wpAnyH_take (i := 3) (v := undef) rfl (by kernel_rfl) (by kernel_rfl) (by kernel_rfl) (fun _ _ _ h => h) (Or.inr ⟨by kernel_rfl, rfl⟩) hHeld ?_
          simp only [Act.put, List.getElem_toArray, List.getElem_cons_succ, List.getElem_cons_zero, List.setIfInBounds_toArray, List.set_cons_zero, List.set_cons_succ]
          refine wpAnyH_take (i := 4) (v := undef) rfl (by kernel_rfl) (by kernel_rfl) (by kernel_rfl) (fun _ _ _ h => h) (Or.inr ⟨by kernel_rfl, rfl⟩) hHeld ?_
          simp only [Act.put, List.getElem_toArray, List.getElem_cons_succ, List.getElem_cons_zero, List.setIfInBounds_toArray, List.set_cons_zero, List.set_cons_succ]
          refine wpAnyH_take (i := 5) (v := undef) rfl (by kernel_rfl) (by kernel_rfl) (by kernel_rfl) (fun _ _ _ h => h) (Or.inr ⟨by kernel_rfl, rfl⟩) hHeld ?_
          simp only [Act.put, List.getElem_toArray, List.getElem_cons_succ, List.getElem_cons_zero, List.setIfInBounds_toArray, List.set_cons_zero, List.set_cons_succ]
          refine wpAnyH_take (i := 6) (v := undef) rfl (by kernel_rfl) (by kernel_rfl) (by kernel_rfl) (fun _ _ _ h => h) (Or.inr ⟨by kernel_rfl, rfl⟩) hHeld ?_
          simp only [Act.put, List.getElem_toArray, List.getElem_cons_succ, List.getElem_cons_zero, List.setIfInBounds_toArray, List.set_cons_zero, List.set_cons_succ]
          refine wpAnyH_take (i := 7) (v := undef) rfl (by kernel_rfl) (by kernel_rfl) (by kernel_rfl) (fun _ _ _ h => h) (Or.inr ⟨by kernel_rfl, rfl⟩) hHeld ?_
          simp only [Act.put, List.getElem_toArray, List.getElem_cons_succ, List.getElem_cons_zero, List.setIfInBounds_toArray, List.set_cons_zero, List.set_cons_succ]
          refine wpAnyH_take (i := 8) (v := undef) rfl (by kernel_rfl) (by kernel_rfl) (by kernel_rfl) (fun _ _ _ h => h) (Or.inr ⟨by kernel_rfl, rfl⟩) hHeld ?_
          simp only [Act.put, List.getElem_toArray, List.getElem_cons_succ, List.getElem_cons_zero, List.setIfInBounds_toArray, List.set_cons_zero, List.set_cons_succ]
          refine wpAnyH_take (i := 9) (v := undef) rfl (by kernel_rfl) (by kernel_rfl) (by kernel_rfl) (fun _ _ _ h => h) (Or.inr ⟨by kernel_rfl, rfl⟩) hHeld ?_
          simp only [Act.put, List.getElem_toArray, List.getElem_cons_succ, List.getElem_cons_zero, List.setIfInBounds_toArray, List.set_cons_zero, List.set_cons_succ]
          refine wpAnyH_take (i := 10) (v := undef) rfl (by kernel_rfl) (by kernel_rfl) (by kernel_rfl) (fun _ _ _ h => h) (Or.inr ⟨by kernel_rfl, rfl⟩) hHeld ?_
          simp only [Act.put, List.getElem_toArray, List.getElem_cons_succ, List.getElem_cons_zero, List.setIfInBounds_toArray, List.set_cons_zero, List.set_cons_succ]
          refine wpAnyH_take (i := 11) (v := ?v135) rfl (by kernel_rfl) (by kernel_rfl) (by kernel_rfl) (fun _ _ _ h => h) (Or.inl ⟨by kernel_rfl, ?hy135⟩) hHeld ?rest135
          case hy135 =>
            intro w hSw
            (try dsimp only at hSw)
            go_simp
            try with_reducible rfl
          simp only [Act.put, List.getElem_toArray, List.getElem_cons_succ, List.getElem_cons_zero, List.setIfInBounds_toArray, List.set_cons_zero, List.set_cons_succ]
          refine wpAnyH_done (by kernel_rfl) ?_ _
          clear k11
          rcases HX.out with ⟨rfl, hX, hvX⟩ | ⟨rfl, hX⟩
          · have HLK := hid (show lk XT n = (z, true) by rw [hX]; exact lk_peY tl n z)
            have HLR := hid (lk_removed XT n)
            have HV := hid hvX
            obtain ⟨hb1, hb2⟩ := HXB.out
            clear hX hvX
            go_wp2_with fail
            have C := implLookupEntry_c o3.rd o2
            rw [HLK.out] at C
            refine C.mono ?_
            clear C
            rintro e W31 ⟨_, rfl, rfl, y31⟩
            have q31 := y31.size
            replace X := ext_trans X y31
            replace r0 := r0.ext y31
            replace o1 := o1.ext y31
            replace o2 := o2.ext y31
            replace k4 := cell_ext k4 y31
            replace o3 := o3.ext y31
            clear y31
            go_wp2_with fail
            have y31 := Below.drew (ext_refl W31)
            have qd31 := y31.size
            replace X := ext_trans X y31
            replace r0 := r0.ext y31
            replace o1 := o1.ext y31
            replace o2 := o2.ext y31
            replace k4 := cell_ext k4 y31
            replace o3 := o3.ext y31
            clear y31
            refine wp_region_held_drew (S := fun w' => w'.cell? ⟨W2.heap.size, 0, none⟩ = some (.slice a3' (n.length) c3')) (by kernel_rfl) (by exact k4) (fun hHeld => ?_)
            refine wpAnyH_take (i := 0) (v := ?v136) rfl (by kernel_rfl) (by kernel_rfl) (by kernel_rfl) (fun _ _ _ h => h) (Or.inl ⟨by kernel_rfl, ?hy136⟩) hHeld ?rest136
            case hy136 =>
              intro w hSw
              (try dsimp only at hSw)
              go_simp
              try with_reducible rfl
            simp only [Act.put, List.getElem_toArray, List.getElem_cons_zero, List.setIfInBounds_toArray, List.set_cons_zero, List.set_cons_succ]
            refine wpAnyH_take (i := 1) (v := ?v137) rfl (by kernel_rfl) (by kernel_rfl) (by kernel_rfl) (fun _ _ _ h => h) (Or.inl ⟨by kernel_rfl, ?hy137⟩) hHeld ?rest137
            case hy137 =>
              intro w hSw
              (try dsimp only at hSw)
              go_simp
              try with_reducible rfl
            simp only [Act.put, List.getElem_toArray, List.getElem_cons_succ, List.getElem_cons_zero, List.setIfInBounds_toArray, List.set_cons_zero, List.set_cons_succ]
            refine wpAnyH_take (i := 3) (v := ?v138) rfl (by kernel_rfl) (by kernel_rfl) (by kernel_rfl) (fun _ _ _ h => h) (Or.inl ⟨by kernel_rfl, ?hy138⟩) hHeld ?rest138
            case hy138 =>
              intro w hSw
              (try dsimp only at hSw)
              go_simp
              try with_reducible rfl
            simp only [Act.put, List.getElem_toArray, List.getElem_cons_succ, List.getElem_cons_zero, List.setIfInBounds_toArray, List.set_cons_zero, List.set_cons_succ]
            refine wpAnyH_ready (rs := [2]) (by kernel_rfl) (by simp) ?_
            refine AllReadyH.cons rfl (fun K hK => ?_) AllReadyH.nil
            go_simp
            go_at_call 56
            have C := implRemoveEntry_c o3.rd o2 (by omega) (by omega)
            refine C.mono ?_
            clear C
            rintro e W32 ⟨u30, rfl, o30, y32⟩
            have q32 := y32.size
            replace X := ext_trans X y32
            replace r0 := r0.ext y32
            replace o1 := o1.ext y32
            replace o2 := o2.ext y32
            replace k4 := cell_ext k4 y32
            replace o3 := o3.ext y32
            clear y32
            refine hK.out _ _ (by exact k4) (fun hHeld => ?_)
            clear hK K
            refine wpAnyH_ready (rs := [4]) (by kernel_rfl) (by simp) ?_
            refine AllReadyH.cons rfl (fun K hK => ?_) AllReadyH.nil
            go_simp
            go_at_call 51
            have C := implLookupEntry_c o30.rd o2
            rw [HLR.out] at C
            refine C.mono ?_
            clear C
            rintro e W33 ⟨_, rfl, rfl, y33⟩
            have q33 := y33.size
            replace X := ext_trans X y33
            replace r0 := r0.ext y33
            replace o1 := o1.ext y33
            replace o2 := o2.ext y33
            replace k4 := cell_ext k4 y33
            replace o3 := o3.ext y33
            replace o30 := o30.ext y33
            clear y33
            refine hK.out _ _ (by exact k4) (fun hHeld => ?_)
            clear hK K
            refine wpAnyH_take (i := 5) (v := ?v139) rfl (by kernel_rfl) (by kernel_rfl) (by kernel_rfl) (fun _ _ _ h => h) (Or.inl ⟨by kernel_rfl, ?hy139⟩) hHeld ?rest139
            case hy139 =>
              intro w hSw
              (try dsimp only at hSw)
              go_simp
              try with_reducible rfl
            simp only [Act.put, List.getElem_toArray, List.getElem_cons_succ, List.getElem_cons_zero, List.setIfInBounds_toArray, List.set_cons_zero, List.set_cons_succ]
            refine wpAnyH_take (i := 6) (v := ?v140) rfl (by kernel_rfl) (by kernel_rfl) (by kernel_rfl) (fun _ _ _ h => h) (Or.inl ⟨by kernel_rfl, ?hy140⟩) hHeld ?rest140
            case hy140 =>
              intro w hSw
              (try dsimp only at hSw)
              go_simp
              try with_reducible rfl
            simp only [Act.put, List.getElem_toArray, List.getElem_cons_succ, List.getElem_cons_zero, List.setIfInBounds_toArray, List.set_cons_zero, List.set_cons_succ]
            refine wpAnyH_take (i := 7) (v := ?v141) rfl (by kernel_rfl) (by kernel_rfl) (by kernel_rfl) (fun _ _ _ h => h) (Or.inl ⟨by kernel_rfl, ?hy141⟩) hHeld ?rest141
            case hy141 =>
              intro w hSw
              (try dsimp only at hSw)
              go_simp
              try with_reducible rfl
            simp only [Act.put, List.getElem_toArray, List.getElem_cons_succ, List.getElem_cons_zero, List.setIfInBounds_toArray, List.set_cons_zero, List.set_cons_succ]
            refine wpAnyH_take (i := 8) (v := ?v142) rfl (by kernel_rfl) (by kernel_rfl) (by kernel_rfl) (fun _ _ _ h => h) (Or.inl ⟨by kernel_rfl, ?hy142⟩) hHeld ?rest142
            case hy142 =>
              intro w hSw
              (try dsimp only at hSw)
              go_simp
              try with_reducible rfl
            simp only [Act.put, List.getElem_toArray, List.getElem_cons_succ, List.getElem_cons_zero, List.setIfInBounds_toArray, List.set_cons_zero, List.set_cons_succ]
            refine wpAnyH_take (i := 9) (v := ?v143) rfl (by kernel_rfl) (by kernel_rfl) (by kernel_rfl) (fun _ _ _ h => h) (Or.inl ⟨by kernel_rfl, ?hy143⟩) hHeld ?rest143
            case hy143 =>
              intro w hSw
              (try dsimp only at hSw)
              go_simp
              try with_reducible rfl
            simp only [Act.put, List.getElem_toArray, List.getElem_cons_succ, List.getElem_cons_zero, List.setIfInBounds_toArray, List.set_cons_zero, List.set_cons_succ]
            refine wpAnyH_done (by kernel_rfl) ?_ _
            go_wp2_with fail
            have C := implValidTable_c o3.rd HXZ.out
            rw [HV.out] at C
            refine C.mono ?_
            clear C
            rintro e W34 ⟨_, rfl, rfl, y34⟩
            have q34 := y34.size
            replace X := ext_trans X y34
            replace r0 := r0.ext y34
            replace o1 := o1.ext y34
            replace o2 := o2.ext y34
            replace k4 := cell_ext k4 y34
            replace o3 := o3.ext y34
            replace o30 := o30.ext y34
            clear y34
            go_wp2_with fail
            go_ret
            exact ⟨rfl, X⟩
          · have hX2 : decide (XT = tl) = true := decide_eq_true hX
            have HX2 := hid hX2
            clear hX hX2
            go_wp2_with fail
            have C := sameRows_c o3.rd o1
            rw [HX2.out] at C
            refine C.mono ?_
            clear C
            rintro e W31 ⟨_, rfl, rfl, y31⟩
            have q31 := y31.size
            replace X := ext_trans X y31
            replace r0 := r0.ext y31
            replace o1 := o1.ext y31
            replace o2 := o2.ext y31
            replace k4 := cell_ext k4 y31
            replace o3 := o3.ext y31
            clear y31
            go_wp2_with fail
            go_ret
            exact ⟨rfl, X⟩
set_option maxRecDepth 100000 in
theorem lifted (os : Os) (started : os.Started) (H : Type) (enc : TypeId × Value → H) :
    ReturnsInHanded {} Try.checked os 8 .any (Rows.fnTablesSpec.pre6 enc Try.prog Try.f8 Rows.fnTablesRow.domain false) (Rows.fnTablesSpec.post enc Try.prog Try.f8 false true false false) := by
  refine returnsInHanded_of_change (C := Try.checked) own started (by kernel_rfl) Try.func8
    (ChangeSpec.witness6 (enc := enc) (C := Try.checked) false ⟨#[], #[.slice none 0 0], []⟩ 8 (by kernel_rfl) (by kernel_rfl) (by kernel_rfl) (by kernel_rfl)) ?_
  intro W base args ds gs before hval0 hW hcnd _
  have hval : ∀ (j : Nat) t v, Try.f8.params[j]? = some t → args[j]? = some v → Value.okWide Try.prog W .any base t v := hval0
  have hW' := hW
  obtain ⟨p, q, hA0, hV, rfl, hfz, hnd⟩ := hW
  have hA : DataW.TrodAll enc Try.prog W 0 (fun _ => true) true Try.f8.params.toList args.toList ds p := hA0
  rw [Try.params8] at hA hval
  obtain ⟨v0, vs0, d0, ds0, p0, q0, hargs, rfl, rfl, h0, tr0⟩ := trodAll_cons hA
  obtain ⟨rfl, rfl, rfl⟩ := trodAll_nil tr0
  obtain rfl : args = #[v0] := by cases args; simp_all
  obtain ⟨rfl, rfl⟩ := trodVars_none hV
  have k0 := h0
  have lt0 : ∀ x ∈ p0, x.block < W.heap.size := by obtain ⟨m, hm⟩ := k0; exact DataW.trod_lt m _ _ _ hm
  obtain ⟨n0, x0, r0⟩ := rd_bytes Try.underlying22 Try.underlying5 (by kernel_rfl) (hval 0 22 v0 rfl rfl) h0
  clear hA0 hval0
  try simp only [List.append_nil] at hW'
  refine (walk W v0 n0 x0 r0).mono fun e W' ⟨he, bel⟩ => ?_
  subst he
  exact ⟨_, rfl, _, _, _, [], _, [], hW', trodAll_mk1 (shut_bool Try.underlying4 _), (trodAll_cons_mk (Below.trod laidOut (by kernel_rfl) (of_decide_eq_true (by kernel_rfl)) k0 bel lt0) trodAll_mk0), rfl, bel.frame _, fun h => by cases h⟩

theorem closed : joinedFacts Try.pinned.checked.prog 8 Try.f8 Rows.fnTablesSpec Rows.fnTablesRow = true := by
  unfold joinedFacts
  rw [show Try.pinned.checked.prog.mayEnter = true from joined1, show (Rows.fnTablesRow.lifted == Try.pinned.checked.prog.liftsFinal) = true from joined2, show (Try.pinned.checked.prog.make == some Rows.fnTablesRow.make) = true from joined3]
  kernel_rfl
theorem over : Rows.fnTablesRow.holds Try.pinned (OpenSpec.ofChange Rows.fnTablesSpec) :=
  OpenClaim.holds_of_wide 8 Try.f8 rfl rfl rfl rfl rfl rfl rfl ⟨rfl, rfl, rfl, rfl, rfl⟩ rfl rfl rfl rfl rfl (by kernel_rfl) Try.func8 closed
    (of_decide_eq_true (by kernel_rfl)) (by unfold Func.isWrapper; first | (rw [if_pos (by decide +kernel)]; kernel_rfl) | (rw [if_neg (by decide +kernel)]; exact ⟨rfl, rfl⟩))
    (fun os started H enc _ => lifted os started H enc)
/-- The statement. -/
theorem proved : Rows.FnTablesSaid := over
end fnTables
end Go.Proofs.Ytcagbdidjakcpaa
