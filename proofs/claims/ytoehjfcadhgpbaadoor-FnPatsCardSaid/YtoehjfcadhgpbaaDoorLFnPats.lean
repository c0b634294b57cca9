/- FnPats holds: a pattern matches a name exactly if it does with its variables replaced; patterns are parsed from their texts. The library's tables read as the program's text lays them: the card ties it. -/
import Derived.Test.YtoehjfcadhgpbaaDoorRows
import Derived.Test.YtoehjfcadhgpbaaDoorCards
import Derived.Test.YtoehjfcadhgpbaaDoorTie
import Derived.Test.YtoehjfcadhgpbaaDoorFrame
import Derived.Test.YtoehjfcadhgpbaaDoorPz
import Derived.Deep.RegionHeld3
import Derived.SevenTiedAt
import Derived.HandedShaped
import Derived.LaidMore
import Derived.Lay
import Derived.MakeChecks
import Derived.Stop.Joined
import Derived.Test.YtoehjfcadhgpbaaDoorNm
import Derived.Test.YtoehjfcadhgpbaaDoorDf
import Derived.Test.YtoehjfcadhgpbaaDoorDg
import Derived.Test.YtoehjfcadhgpbaaDoorSb
import Derived.Test.YtoehjfcadhgpbaaDoorMm
import Derived.Test.YtoehjfcadhgpbaaDoorIn
import Derived.Test.YtoehjfcadhgpbaaDoorPl
import Derived.Test.YtoehjfcadhgpbaaDoorBig
set_option linter.unusedVariables false
set_option linter.unusedSimpArgs false
namespace Go.Proofs.YtoehjfcadhgpbaaDoor
open Go.ChangeShapes Go.WideShapes Go.ChangeAt Go.WideMaps Go.WideElems Go.RowKit
open Go.ChangeMaps (open_string shut_string)
theorem RdN.inner {w : World} {lo hi n : Nat} {s : Value} {cs : List Value} (h : RdN w lo hi (.agg #[s]) n cs) : Rd w lo hi 1 s n cs := by
  obtain ⟨s', e, r⟩ := h
  have e2 : s = s' := by injection e with e; injection e with e; injection e
  rw [e2]; exact r
theorem Rd.head2 {w : World} {lo hi n k cap : Nat} {b : Option Addr} {ss : List ByteArray} {ls : List ByteArray} (h : Rd w lo hi 2 (.slice b n cap) n (ss.map sv)) (hk : k ≤ n) (hl : ls.length = k * 2) (he : ∃ t, ss = ls ++ t) : Rd w lo hi 2 (.slice b k cap) k (ls.map sv) := by
  obtain ⟨t, rfl⟩ := he
  obtain ⟨h1, a', cap', e, h2, h3, h4⟩ := h
  injection e with e1 e2 e3
  subst e1 e3
  refine ⟨by rw [List.length_map]; omega, _, _, rfl, by omega, h3, fun hn => ?_⟩
  obtain ⟨b, off, rfl, hl, hh, hb, hc⟩ := h4 (by omega)
  refine ⟨b, off, rfl, hl, hh, hb, fun j u hu => hc j u ?_⟩
  rw [List.map_append, List.getElem?_append_left (List.getElem?_eq_some_iff.1 hu).1]
  exact hu
theorem small_sz {ss : List ByteArray} (h : ∀ t ∈ ss, t.size ≤ 16) : ∀ t ∈ ss, t.size ≤ 9223372036854775807 := fun t ht => Nat.le_trans (h t ht) (by decide)
namespace fnPats
set_option maxRecDepth 100000 in
set_option maxHeartbeats 8000000 in
theorem walk (w : World) (v0 : Value) (n0 : Nat) (x0 : List UInt8) (r0 : Rd w 0 w.heap.size 1 v0 n0 (x0.map bv)) (mx : Mx w) :
    Calls Tryd.prog 5 #[v0] w fun e w' => e = .returned (.bool true) ∧ Below w.heap.size w w' := by
  obtain ⟨b0, c0, rfl, hn0⟩ := r0.form
  by_cases h1 : 1048576 < n0
  · clear mx
    go_enter Tryd.func5, Tryd.ntmps5
    go_wp2_with fail
    refine (big_c r0 (decide_eq_true h1)).mono ?_
    rintro e w1 ⟨_, rfl, rfl, y1⟩
    go_wp2
    go_ret
    exact ⟨rfl, y1⟩
  · skip
    go_enter Tryd.func5, Tryd.ntmps5
    have X := ext_refl w
    go_wp2_with fail
    refine (big_c r0 (decide_eq_false h1)).mono ?_
    rintro e W1 ⟨_, rfl, rfl, y1⟩
    have q1 := y1.size
    replace X := ext_trans X y1
    replace r0 := r0.ext y1
    replace mx := mx.ext y1
    clear y1
    go_wp2_with fail
    refine (DrawMatch_c r0 (by omega) (by omega)).mono ?_
    rintro e W2 ⟨_, rfl, ⟨u1, u2, u3, ps, ns, m1, ls, rfl, o1, o2, o3, hps, hns, hm1, hls⟩, y2⟩
    have q2 := y2.size
    replace X := ext_trans X y2
    replace r0 := r0.ext y2
    replace mx := mx.ext y2
    clear y2
    have HPL := hid (show ps.length ≤ 1099511627776 by have := hps.1; omega)
    have HPZ := hid (small_sz hps.2)
    have HNZ := hid (small_sz hns.2)
    have HM1 := hid (show m1 ≤ 1099511627776 by omega)
    have hl3 := o3.1
    rw [List.length_map] at hl3
    have HL3 := hid hl3
    obtain ⟨aL, cL, rfl, hL1, hL2⟩ := o3.form'
    obtain ⟨B, ok, hM⟩ : ∃ B ok, mR ps ns ls = (B, ok) := ⟨_, _, rfl⟩
    have hB := mR_ext (ps := ps) (ns := ns) (l := ls)
    rw [hM] at hB
    have HB : Hid (∃ t, B = ls ++ t) := hB
    have HM := hid hM
    clear hM hB hps hns hm1 hls hl3 hL1 hL2
    obtain ⟨z3_0, rfl, g3_0⟩ := id o1
    obtain ⟨a3_0, c3_0, rfl, _⟩ := g3_0.rd.form
    clear g3_0
    obtain ⟨z3_1, rfl, g3_1⟩ := id o2
    obtain ⟨a3_1, c3_1, rfl, _⟩ := g3_1.rd.form
    clear g3_1
    have y3 := ext_alloc (ext_alloc (ext_refl W2) (.cells #[.slice a3_0 (ps.length) c3_0] 24)) (.cells #[.slice a3_1 (ns.length) c3_1] 30)
    have q3 := y3.size
    have p3 : W2.heap.size + 2 = ((W2.alloc (.cells #[.slice a3_0 (ps.length) c3_0] 24)).alloc (.cells #[.slice a3_1 (ns.length) c3_1] 30)).heap.size := by simp
    have k3 : ((W2.alloc (.cells #[.slice a3_0 (ps.length) c3_0] 24)).alloc (.cells #[.slice a3_1 (ns.length) c3_1] 30)).cell? ⟨W2.heap.size, 0, none⟩ = some (.slice a3_0 (ps.length) c3_0) := by simp
    have k4 : ((W2.alloc (.cells #[.slice a3_0 (ps.length) c3_0] 24)).alloc (.cells #[.slice a3_1 (ns.length) c3_1] 30)).cell? ⟨W2.heap.size + 1, 0, none⟩ = some (.slice a3_1 (ns.length) c3_1) := by simp
    replace X := ext_trans X y3
    replace r0 := r0.ext y3
    replace mx := mx.ext y3
    replace o1 := o1.ext y3
    replace o2 := o2.ext y3
    replace o3 := o3.ext y3
    clear y3
    go_wp2_with fail
    generalize (W2.alloc (.cells #[.slice a3_0 (ps.length) c3_0] 24)).alloc (.cells #[.slice a3_1 (ns.length) c3_1] 30) = W3 at *
    go_wp2_with fail
    have C := implMatch_c o1 o2 o3 HPZ.out HNZ.out HM1.out HPL.out
    rw [HM.out] at C
    refine C.mono ?_
    clear C
    rintro e W4 ⟨_, rfl, ⟨u4, nb, rfl, ob⟩, y4⟩
    have q4 := y4.size
    replace X := ext_trans X y4
    replace r0 := r0.ext y4
    replace mx := mx.ext y4
    replace o1 := o1.ext y4
    replace o2 := o2.ext y4
    replace o3 := o3.ext y4
    replace k3 := cell_ext k3 y4
    replace k4 := cell_ext k4 y4
    clear y4
    simp only at ob
    have hlb := ob.1
    rw [List.length_map] at hlb
    obtain ⟨aB, cB, rfl, hB1, hB2⟩ := ob.rd.form'
    have HLB := hid (show m1 ≤ nb ∧ nb ≤ cB from ⟨by obtain ⟨t, ht⟩ := HB.out; have := HL3.out; rw [ht, List.length_append] at hlb; omega, hB1⟩)
    clear hlb hB1 hB2
    go_wp2_with fail
    have C := specMatch_c o1 o2 o3 HPZ.out HNZ.out HM1.out HPL.out
    rw [HM.out] at C
    refine C.mono ?_
    clear C
    rintro e W5 ⟨_, rfl, ⟨u5, nc, rfl, oc⟩, y5⟩
    have q5 := y5.size
    replace X := ext_trans X y5
    replace r0 := r0.ext y5
    replace mx := mx.ext y5
    replace o1 := o1.ext y5
    replace o2 := o2.ext y5
    replace o3 := o3.ext y5
    replace k3 := cell_ext k3 y5
    replace k4 := cell_ext k4 y5
    replace ob := ob.ext y5
    clear y5
    simp only at oc
    obtain ⟨aC, cC, rfl, _⟩ := oc.rd.form
    clear k3 k4 o1 o2
    go_wp2_with fail
    refine (DrawMatches_c r0 (by omega) (by omega)).mono ?_
    rintro e W6 ⟨_, rfl, ⟨u6, u7, qs, ms, rfl, o5, o6, hqs, hms⟩, y6⟩
    have q6 := y6.size
    replace X := ext_trans X y6
    replace r0 := r0.ext y6
    replace mx := mx.ext y6
    replace o3 := o3.ext y6
    replace ob := ob.ext y6
    replace oc := oc.ext y6
    clear y6
    have HQL := hid (show qs.length ≤ 1099511627776 by have := hqs.1; omega)
    have HQZ := hid (small_sz hqs.2)
    have HMZ := hid (small_sz hms.2)
    clear hqs hms
    obtain ⟨z7_0, rfl, g7_0⟩ := id o5
    obtain ⟨a7_0, c7_0, rfl, _⟩ := g7_0.rd.form
    clear g7_0
    obtain ⟨z7_1, rfl, g7_1⟩ := id o6
    obtain ⟨a7_1, c7_1, rfl, _⟩ := g7_1.rd.form
    clear g7_1
    have y7 := ext_alloc (ext_alloc (ext_refl W6) (.cells #[.slice a7_0 (qs.length) c7_0] 24)) (.cells #[.slice a7_1 (ms.length) c7_1] 30)
    have q7 := y7.size
    have p7 : W6.heap.size + 2 = ((W6.alloc (.cells #[.slice a7_0 (qs.length) c7_0] 24)).alloc (.cells #[.slice a7_1 (ms.length) c7_1] 30)).heap.size := by simp
    have k10 : ((W6.alloc (.cells #[.slice a7_0 (qs.length) c7_0] 24)).alloc (.cells #[.slice a7_1 (ms.length) c7_1] 30)).cell? ⟨W6.heap.size, 0, none⟩ = some (.slice a7_0 (qs.length) c7_0) := by simp
    have k11 : ((W6.alloc (.cells #[.slice a7_0 (qs.length) c7_0] 24)).alloc (.cells #[.slice a7_1 (ms.length) c7_1] 30)).cell? ⟨W6.heap.size + 1, 0, none⟩ = some (.slice a7_1 (ms.length) c7_1) := by simp
    replace X := ext_trans X y7
    replace r0 := r0.ext y7
    replace mx := mx.ext y7
    replace o3 := o3.ext y7
    replace ob := ob.ext y7
    replace oc := oc.ext y7
    replace o5 := o5.ext y7
    replace o6 := o6.ext y7
    clear y7
    go_wp2_with fail
    generalize (W6.alloc (.cells #[.slice a7_0 (qs.length) c7_0] 24)).alloc (.cells #[.slice a7_1 (ms.length) c7_1] 30) = W7 at *
    go_wp2_with fail
    refine (DrawParsePattern_c r0 (by omega) (by omega)).mono ?_
    rintro e W8 ⟨_, rfl, ⟨s, rfl, hs⟩, y8⟩
    have q8 := y8.size
    replace X := ext_trans X y8
    replace r0 := r0.ext y8
    replace mx := mx.ext y8
    replace o3 := o3.ext y8
    replace ob := ob.ext y8
    replace oc := oc.ext y8
    replace o5 := o5.ext y8
    replace o6 := o6.ext y8
    replace k10 := cell_ext k10 y8
    replace k11 := cell_ext k11 y8
    clear y8
    obtain ⟨xp, is, hQ⟩ : ∃ X ok, pnm vpt s = (X, ok) := ⟨_, _, rfl⟩
    have hpb := pn_back (V := vpt) (by decide) (s := s)
    have hpg := pnm_good (V := vpt) (by decide) (s := s)
    have hwx := pnm_len vpt s
    rw [hQ] at hpb hpg hwx
    simp only at hpb hpg hwx
    have HXW := hid (show wt xp ≤ 1099511627776 by omega)
    have HXZ := hid (fun t (ht : t ∈ xp) => (show t.size ≤ 9223372036854775807 by have := wt_mem xp t ht; omega))
    have HS1 := hid (show s.size ≤ 1048576 by omega)
    have HS2 := hid (show s.size ≤ 1099511627776 by omega)
    have HQ := hid hQ
    have HPB := hid hpb
    have HPG := hid hpg
    clear hQ hpb hpg hwx hs
    go_wp2_with fail
    have C := implParsePattern_c (s := s) HS1.out mx
    rw [HQ.out] at C
    refine C.mono ?_
    clear C
    rintro e W9 ⟨_, rfl, ⟨u8, rfl, o7⟩, y9⟩
    have q9 := y9.size
    replace X := ext_trans X y9
    replace r0 := r0.ext y9
    replace mx := mx.ext y9
    replace o3 := o3.ext y9
    replace ob := ob.ext y9
    replace oc := oc.ext y9
    replace o5 := o5.ext y9
    replace o6 := o6.ext y9
    replace k10 := cell_ext k10 y9
    replace k11 := cell_ext k11 y9
    clear y9
    simp only at o7
    obtain ⟨z10, rfl, g10⟩ := id o7
    obtain ⟨a10', c10', rfl, _⟩ := g10.rd.form
    clear g10
    have y10 := ext_alloc (ext_refl W9) (.cells #[.slice a10' (xp.length) c10'] 24)
    have q10 := y10.size
    have p10 : W9.heap.size + 1 = (W9.alloc (.cells #[.slice a10' (xp.length) c10'] 24)).heap.size := by simp
    have k13 : (W9.alloc (.cells #[.slice a10' (xp.length) c10'] 24)).cell? ⟨W9.heap.size, 0, none⟩ = some (.slice a10' (xp.length) c10') := by simp
    replace X := ext_trans X y10
    replace r0 := r0.ext y10
    replace mx := mx.ext y10
    replace o3 := o3.ext y10
    replace ob := ob.ext y10
    replace oc := oc.ext y10
    replace o5 := o5.ext y10
    replace o6 := o6.ext y10
    replace k10 := cell_ext k10 y10
    replace k11 := cell_ext k11 y10
    replace o7 := o7.ext y10
    clear y10
    go_wp2_with fail
    generalize W9.alloc (.cells #[.slice a10' (xp.length) c10'] 24) = W10 at *
    clear mx
    go_wp2_with fail
    have C := specParsePattern_c (w := W10) (s := s) HS2.out
    rw [HQ.out] at C
    refine C.mono ?_
    clear C
    rintro e W11 ⟨_, rfl, ⟨u9, rfl, o8⟩, y11⟩
    have q11 := y11.size
    replace X := ext_trans X y11
    replace r0 := r0.ext y11
    replace o3 := o3.ext y11
    replace ob := ob.ext y11
    replace oc := oc.ext y11
    replace o5 := o5.ext y11
    replace o6 := o6.ext y11
    replace k10 := cell_ext k10 y11
    replace k11 := cell_ext k11 y11
    replace o7 := o7.ext y11
    replace k13 := cell_ext k13 y11
    clear y11
    simp only at o8
    obtain ⟨z12, rfl, g12⟩ := id o8
    obtain ⟨a12', c12', rfl, _⟩ := g12.rd.form
    clear g12
    have y12 := ext_alloc (ext_refl W11) (.cells #[.slice a12' (xp.length) c12'] 24)
    have q12 := y12.size
    have p12 : W11.heap.size + 1 = (W11.alloc (.cells #[.slice a12' (xp.length) c12'] 24)).heap.size := by simp
    have k15 : (W11.alloc (.cells #[.slice a12' (xp.length) c12'] 24)).cell? ⟨W11.heap.size, 0, none⟩ = some (.slice a12' (xp.length) c12') := by simp
    replace X := ext_trans X y12
    replace r0 := r0.ext y12
    replace o3 := o3.ext y12
    replace ob := ob.ext y12
    replace oc := oc.ext y12
    replace o5 := o5.ext y12
    replace o6 := o6.ext y12
    replace k10 := cell_ext k10 y12
    replace k11 := cell_ext k11 y12
    replace o7 := o7.ext y12
    replace k13 := cell_ext k13 y12
    replace o8 := o8.ext y12
    clear y12
    go_wp2_with fail
    generalize W11.alloc (.cells #[.slice a12' (xp.length) c12'] 24) = W12 at *
    go_wp2_with fail
    refine (DrawInstantiate_c r0 (by omega) (by omega)).mono ?_
    rintro e W13 ⟨_, rfl, ⟨u10, u11, fs, m2, gs, rfl, o9, o10, hfs, hm2, hgs⟩, y13⟩
    have q13 := y13.size
    replace X := ext_trans X y13
    replace r0 := r0.ext y13
    replace o3 := o3.ext y13
    replace ob := ob.ext y13
    replace oc := oc.ext y13
    replace o5 := o5.ext y13
    replace o6 := o6.ext y13
    replace k10 := cell_ext k10 y13
    replace k11 := cell_ext k11 y13
    replace o7 := o7.ext y13
    replace k13 := cell_ext k13 y13
    replace o8 := o8.ext y13
    replace k15 := cell_ext k15 y13
    clear y13
    have HFL := hid (show fs.length ≤ 1099511627776 by have := hfs.1; omega)
    have HFZ := hid (small_sz hfs.2)
    have HGZ := hid (small_sz hgs)
    have HM2 := hid (show m2 ≤ 1099511627776 by omega)
    have HFW := hid (show wt fs ≤ 1099511627776 by have := wt_small hfs; omega)
    obtain ⟨aG, cG, rfl, _⟩ := o10.form
    obtain ⟨us, good, hI⟩ : ∃ X ok, inR fs gs = (X, ok) := ⟨_, _, rfl⟩
    have hIM := mR_in (ps := fs) (ls := gs)
    have hiz := in_size HFZ.out HGZ.out
    rw [hI] at hIM
    simp only at hIM
    have HUZ : Hid (∀ t ∈ us, t.size ≤ 9223372036854775807) := by
      have e : us = (inR fs gs).1 := by rw [hI]
      rw [Hid, e]; unfold inR; split
      · exact hiz
      · intro t ht; cases ht
    have HI := hid hI
    have HIM := hid hIM
    clear hI hIM hiz hfs hgs hm2
    obtain ⟨z14, rfl, g14⟩ := id o9
    obtain ⟨a14', c14', rfl, _⟩ := g14.rd.form
    clear g14
    have y14 := ext_alloc (ext_refl W13) (.cells #[.slice a14' (fs.length) c14'] 24)
    have q14 := y14.size
    have p14 : W13.heap.size + 1 = (W13.alloc (.cells #[.slice a14' (fs.length) c14'] 24)).heap.size := by simp
    have k17 : (W13.alloc (.cells #[.slice a14' (fs.length) c14'] 24)).cell? ⟨W13.heap.size, 0, none⟩ = some (.slice a14' (fs.length) c14') := by simp
    replace X := ext_trans X y14
    replace r0 := r0.ext y14
    replace o3 := o3.ext y14
    replace ob := ob.ext y14
    replace oc := oc.ext y14
    replace o5 := o5.ext y14
    replace o6 := o6.ext y14
    replace k10 := cell_ext k10 y14
    replace k11 := cell_ext k11 y14
    replace o7 := o7.ext y14
    replace k13 := cell_ext k13 y14
    replace o8 := o8.ext y14
    replace k15 := cell_ext k15 y14
    replace o9 := o9.ext y14
    replace o10 := o10.ext y14
    clear y14
    go_wp2_with fail
    generalize W13.alloc (.cells #[.slice a14' (fs.length) c14'] 24) = W14 at *
    go_wp2_with fail
    have C := implInstantiate_c o9 o10 HFZ.out HGZ.out HM2.out HFL.out
    rw [HI.out] at C
    refine C.mono ?_
    clear C
    rintro e W15 ⟨_, rfl, ⟨u12, rfl, o11⟩, y15⟩
    have q15 := y15.size
    replace X := ext_trans X y15
    replace r0 := r0.ext y15
    replace o3 := o3.ext y15
    replace ob := ob.ext y15
    replace oc := oc.ext y15
    replace o5 := o5.ext y15
    replace o6 := o6.ext y15
    replace k10 := cell_ext k10 y15
    replace k11 := cell_ext k11 y15
    replace o7 := o7.ext y15
    replace k13 := cell_ext k13 y15
    replace o8 := o8.ext y15
    replace k15 := cell_ext k15 y15
    replace o9 := o9.ext y15
    replace o10 := o10.ext y15
    replace k17 := cell_ext k17 y15
    clear y15
    simp only at o11
    obtain ⟨z16, rfl, g16⟩ := id o11
    obtain ⟨a16', c16', rfl, _⟩ := g16.rd.form
    clear g16
    have y16 := ext_alloc (ext_refl W15) (.cells #[.slice a16' (us.length) c16'] 30)
    have q16 := y16.size
    have p16 : W15.heap.size + 1 = (W15.alloc (.cells #[.slice a16' (us.length) c16'] 30)).heap.size := by simp
    have k19 : (W15.alloc (.cells #[.slice a16' (us.length) c16'] 30)).cell? ⟨W15.heap.size, 0, none⟩ = some (.slice a16' (us.length) c16') := by simp
    replace X := ext_trans X y16
    replace r0 := r0.ext y16
    replace o3 := o3.ext y16
    replace ob := ob.ext y16
    replace oc := oc.ext y16
    replace o5 := o5.ext y16
    replace o6 := o6.ext y16
    replace k10 := cell_ext k10 y16
    replace k11 := cell_ext k11 y16
    replace o7 := o7.ext y16
    replace k13 := cell_ext k13 y16
    replace o8 := o8.ext y16
    replace k15 := cell_ext k15 y16
    replace o9 := o9.ext y16
    replace o10 := o10.ext y16
    replace k17 := cell_ext k17 y16
    replace o11 := o11.ext y16
    clear y16
    go_wp2_with fail
    generalize W15.alloc (.cells #[.slice a16' (us.length) c16'] 30) = W16 at *
    go_wp2_with fail
    have C := specInstantiate_c o9 o10 HFZ.out HGZ.out HM2.out HFL.out
    rw [HI.out] at C
    refine C.mono ?_
    clear C
    rintro e W17 ⟨_, rfl, ⟨u13, rfl, o12⟩, y17⟩
    have q17 := y17.size
    replace X := ext_trans X y17
    replace r0 := r0.ext y17
    replace o3 := o3.ext y17
    replace ob := ob.ext y17
    replace oc := oc.ext y17
    replace o5 := o5.ext y17
    replace o6 := o6.ext y17
    replace k10 := cell_ext k10 y17
    replace k11 := cell_ext k11 y17
    replace o7 := o7.ext y17
    replace k13 := cell_ext k13 y17
    replace o8 := o8.ext y17
    replace k15 := cell_ext k15 y17
    replace o9 := o9.ext y17
    replace o10 := o10.ext y17
    replace k17 := cell_ext k17 y17
    replace o11 := o11.ext y17
    replace k19 := cell_ext k19 y17
    clear y17
    simp only at o12
    obtain ⟨z18, rfl, g18⟩ := id o12
    obtain ⟨a18', c18', rfl, _⟩ := g18.rd.form
    clear g18
    have y18 := ext_alloc (ext_refl W17) (.cells #[.slice a18' (us.length) c18'] 30)
    have q18 := y18.size
    have p18 : W17.heap.size + 1 = (W17.alloc (.cells #[.slice a18' (us.length) c18'] 30)).heap.size := by simp
    have k21 : (W17.alloc (.cells #[.slice a18' (us.length) c18'] 30)).cell? ⟨W17.heap.size, 0, none⟩ = some (.slice a18' (us.length) c18') := by simp
    replace X := ext_trans X y18
    replace r0 := r0.ext y18
    replace o3 := o3.ext y18
    replace ob := ob.ext y18
    replace oc := oc.ext y18
    replace o5 := o5.ext y18
    replace o6 := o6.ext y18
    replace k10 := cell_ext k10 y18
    replace k11 := cell_ext k11 y18
    replace o7 := o7.ext y18
    replace k13 := cell_ext k13 y18
    replace o8 := o8.ext y18
    replace k15 := cell_ext k15 y18
    replace o9 := o9.ext y18
    replace o10 := o10.ext y18
    replace k17 := cell_ext k17 y18
    replace o11 := o11.ext y18
    replace k19 := cell_ext k19 y18
    replace o12 := o12.ext y18
    clear y18
    go_wp2_with fail
    generalize W17.alloc (.cells #[.slice a18' (us.length) c18'] 30) = W18 at *
    go_wp2_with fail
    refine (DrawBindingValue_c r0 (by omega) (by omega)).mono ?_
    rintro e W19 ⟨_, rfl, ⟨u14, m3, rs, key, rfl, o13, hm3, hrs, hkz⟩, y19⟩
    have q19 := y19.size
    replace X := ext_trans X y19
    replace r0 := r0.ext y19
    replace o3 := o3.ext y19
    replace ob := ob.ext y19
    replace oc := oc.ext y19
    replace o5 := o5.ext y19
    replace o6 := o6.ext y19
    replace k10 := cell_ext k10 y19
    replace k11 := cell_ext k11 y19
    replace o7 := o7.ext y19
    replace k13 := cell_ext k13 y19
    replace o8 := o8.ext y19
    replace k15 := cell_ext k15 y19
    replace o9 := o9.ext y19
    replace o10 := o10.ext y19
    replace k17 := cell_ext k17 y19
    replace o11 := o11.ext y19
    replace k19 := cell_ext k19 y19
    replace o12 := o12.ext y19
    replace k21 := cell_ext k21 y19
    clear y19
    obtain ⟨aR, cR, rfl, _⟩ := o13.form
    obtain ⟨mq, hmq⟩ : ∃ b, (mR qs ms []).2 = b := ⟨_, rfl⟩
    obtain ⟨tb, htb⟩ : ∃ b, bval rs key = b := ⟨_, rfl⟩
    obtain ⟨tf, htf⟩ : ∃ b, fmt fs = b := ⟨_, rfl⟩
    obtain ⟨vf, hvf⟩ : ∃ b, vpt fs = b := ⟨_, rfl⟩
    have HMQ := hid hmq
    have HTB := hid htb
    have HTF := hid htf
    have HVF := hid hvf
    clear hmq htb htf hvf hm3 hrs hkz
    have eB : (tb.toList == tb.toList) = true := by simp
    have eF : (tf.toList == tf.toList) = true := by simp
    go_wp2_with fail
    have y19 := Below.drew (ext_refl W19)
    have qd19 := y19.size
    replace X := ext_trans X y19
    replace r0 := r0.ext y19
    replace o3 := o3.ext y19
    replace ob := ob.ext y19
    replace oc := oc.ext y19
    replace o5 := o5.ext y19
    replace o6 := o6.ext y19
    replace k10 := cell_ext k10 y19
    replace k11 := cell_ext k11 y19
    replace o7 := o7.ext y19
    replace k13 := cell_ext k13 y19
    replace o8 := o8.ext y19
    replace k15 := cell_ext k15 y19
    replace o9 := o9.ext y19
    replace o10 := o10.ext y19
    replace k17 := cell_ext k17 y19
    replace o11 := o11.ext y19
    replace k19 := cell_ext k19 y19
    replace o12 := o12.ext y19
    replace k21 := cell_ext k21 y19
    replace o13 := o13.ext y19
    clear y19
    try simp only [List.append_eq, List.cons_append, List.nil_append]
    refine wp_region_held_drew (S := fun w' => w'.cell? ⟨W6.heap.size, 0, none⟩ = some (.slice a7_0 (qs.length) c7_0) ∧ w'.cell? ⟨W6.heap.size + 1, 0, none⟩ = some (.slice a7_1 (ms.length) c7_1) ∧ w'.cell? ⟨W9.heap.size, 0, none⟩ = some (.slice a10' (xp.length) c10') ∧ w'.cell? ⟨W11.heap.size, 0, none⟩ = some (.slice a12' (xp.length) c12') ∧ w'.cell? ⟨W13.heap.size, 0, none⟩ = some (.slice a14' (fs.length) c14') ∧ w'.cell? ⟨W15.heap.size, 0, none⟩ = some (.slice a16' (us.length) c16') ∧ w'.cell? ⟨W17.heap.size, 0, none⟩ = some (.slice a18' (us.length) c18')) (by kernel_rfl) (by exact ⟨k10, k11, k13, k15, k17, k19, k21⟩) (fun hHeld => ?_)
    refine wpAnyH_take (i := 0) (v := ?v1) rfl (by kernel_rfl) (by kernel_rfl) (by kernel_rfl) (fun _ _ _ h => h) (Or.inl ⟨by kernel_rfl, ?hy1⟩) hHeld ?rest1
    case hy1 =>
      intro w hSw
      (try dsimp only at hSw)
      go_simp
      try with_reducible rfl
    simp only [Act.put, List.getElem_toArray, List.getElem_cons_zero, List.setIfInBounds_toArray, List.set_cons_zero, List.set_cons_succ]
    refine wpAnyH_take (i := 1) (v := ?v2) rfl (by kernel_rfl) (by kernel_rfl) (by kernel_rfl) (fun _ _ _ h => h) (Or.inl ⟨by kernel_rfl, ?hy2⟩) hHeld ?rest2
    case hy2 =>
      intro w hSw
      (try dsimp only at hSw)
      go_simp
      try with_reducible rfl
    simp only [Act.put, List.getElem_toArray, List.getElem_cons_succ, List.getElem_cons_zero, List.setIfInBounds_toArray, List.set_cons_zero, List.set_cons_succ]
    refine wpAnyH_ready (rs := [2]) (by kernel_rfl) (by simp) ?_
    refine AllReadyH.cons rfl (fun K hK => ?_) AllReadyH.nil
    go_simp
    go_at_call 27
    have C := sameBinds_c ob.rd oc.rd
    rw [decide_eq_true rfl] at C
    refine C.mono ?_
    clear C
    rintro e W20 ⟨_, rfl, rfl, y20⟩
    have q20 := y20.size
    replace X := ext_trans X y20
    replace r0 := r0.ext y20
    replace o3 := o3.ext y20
    replace ob := ob.ext y20
    replace oc := oc.ext y20
    replace o5 := o5.ext y20
    replace o6 := o6.ext y20
    replace k10 := cell_ext k10 y20
    replace k11 := cell_ext k11 y20
    replace o7 := o7.ext y20
    replace k13 := cell_ext k13 y20
    replace o8 := o8.ext y20
    replace k15 := cell_ext k15 y20
    replace o9 := o9.ext y20
    replace o10 := o10.ext y20
    replace k17 := cell_ext k17 y20
    replace o11 := o11.ext y20
    replace k19 := cell_ext k19 y20
    replace o12 := o12.ext y20
    replace k21 := cell_ext k21 y20
    replace o13 := o13.ext y20
    clear y20
    refine hK.out _ _ (by exact ⟨k10, k11, k13, k15, k17, k19, k21⟩) (fun hHeld => ?_)
    clear hK K
    refine wpAnyH_take (i := 3) (v := ?v3) rfl (by kernel_rfl) (by kernel_rfl) (by kernel_rfl) (fun _ _ _ h => h) (Or.inl ⟨by kernel_rfl, ?hy3⟩) hHeld ?rest3
    case hy3 =>
      intro w hSw
      (try dsimp only at hSw)
      go_simp
      try with_reducible rfl
    simp only [Act.put, List.getElem_toArray, List.getElem_cons_succ, List.getElem_cons_zero, List.setIfInBounds_toArray, List.set_cons_zero, List.set_cons_succ]
    refine wpAnyH_take (i := 4) (v := ?v4) rfl (by kernel_rfl) (by kernel_rfl) (by kernel_rfl) (fun _ _ _ h => h) (Or.inl ⟨by kernel_rfl, ?hy4⟩) hHeld ?rest4
    case hy4 =>
      intro w hSw
      (try dsimp only at hSw)
      go_simp
      try with_reducible rfl
    simp only [Act.put, List.getElem_toArray, List.getElem_cons_succ, List.getElem_cons_zero, List.setIfInBounds_toArray, List.set_cons_zero, List.set_cons_succ]
    refine wpAnyH_take (i := 5) (v := ?v5) rfl (by kernel_rfl) (by kernel_rfl) (by kernel_rfl) (fun _ _ _ h => h) (Or.inl ⟨by kernel_rfl, ?hy5⟩) hHeld ?rest5
    case hy5 =>
      intro w hSw
      (try dsimp only at hSw)
      go_simp
      try with_reducible rfl
    simp only [Act.put, List.getElem_toArray, List.getElem_cons_succ, List.getElem_cons_zero, List.setIfInBounds_toArray, List.set_cons_zero, List.set_cons_succ]
    refine wpAnyH_take (i := 6) (v := ?v6) rfl (by kernel_rfl) (by kernel_rfl) (by kernel_rfl) (fun _ _ _ h => h) (Or.inl ⟨by kernel_rfl, ?hy6⟩) hHeld ?rest6
    case hy6 =>
      intro w hSw
      (try dsimp only at hSw)
      go_simp
      try with_reducible rfl
    simp only [Act.put, List.getElem_toArray, List.getElem_cons_succ, List.getElem_cons_zero, List.setIfInBounds_toArray, List.set_cons_zero, List.set_cons_succ]
    refine wpAnyH_take (i := 7) (v := ?v7) rfl (by kernel_rfl) (by kernel_rfl) (by kernel_rfl) (fun _ _ _ h => h) (Or.inl ⟨by kernel_rfl, ?hy7⟩) hHeld ?rest7
    case hy7 =>
      intro w hSw
      (try dsimp only at hSw)
      go_simp
      try with_reducible rfl
    simp only [Act.put, List.getElem_toArray, List.getElem_cons_succ, List.getElem_cons_zero, List.setIfInBounds_toArray, List.set_cons_zero, List.set_cons_succ]
    refine wpAnyH_take (i := 8) (v := ?v8) rfl (by kernel_rfl) (by kernel_rfl) (by kernel_rfl) (fun _ _ _ h => h) (Or.inl ⟨by kernel_rfl, ?hy8⟩) hHeld ?rest8
    case hy8 =>
      intro w hSw
      (try dsimp only at hSw)
      go_simp
      try with_reducible rfl
    simp only [Act.put, List.getElem_toArray, List.getElem_cons_succ, List.getElem_cons_zero, List.setIfInBounds_toArray, List.set_cons_zero, List.set_cons_succ]
    refine wpAnyH_take (i := 9) (v := ?v9) rfl (by kernel_rfl) (by kernel_rfl) (by kernel_rfl) (fun _ _ _ h => h) (Or.inl ⟨by kernel_rfl, ?hy9⟩) hHeld ?rest9
    case hy9 =>
      intro w hSw
      (try dsimp only at hSw)
      go_simp
      try with_reducible rfl
    simp only [Act.put, List.getElem_toArray, List.getElem_cons_succ, List.getElem_cons_zero, List.setIfInBounds_toArray, List.set_cons_zero, List.set_cons_succ]
    refine wpAnyH_take (i := 10) (v := ?v10) rfl (by kernel_rfl) (by kernel_rfl) (by kernel_rfl) (fun _ _ _ h => h) (Or.inl ⟨by kernel_rfl, ?hy10⟩) hHeld ?rest10
    case hy10 =>
      intro w hSw
      (try dsimp only at hSw)
      go_simp
      try with_reducible rfl
    simp only [Act.put, List.getElem_toArray, List.getElem_cons_succ, List.getElem_cons_zero, List.setIfInBounds_toArray, List.set_cons_zero, List.set_cons_succ]
    refine wpAnyH_take (i := 11) (v := ?v11) rfl (by kernel_rfl) (by kernel_rfl) (by kernel_rfl) (fun _ _ _ h => h) (Or.inl ⟨by kernel_rfl, ?hy11⟩) hHeld ?rest11
    case hy11 =>
      intro w hSw
      (try dsimp only at hSw)
      go_simp
      try with_reducible rfl
    simp only [Act.put, List.getElem_toArray, List.getElem_cons_succ, List.getElem_cons_zero, List.setIfInBounds_toArray, List.set_cons_zero, List.set_cons_succ]
    refine wpAnyH_take (i := 13) (v := ?v12) rfl (by kernel_rfl) (by kernel_rfl) (by kernel_rfl) (fun _ _ _ h => h) (Or.inl ⟨by kernel_rfl, ?hy12⟩) hHeld ?rest12
    case hy12 =>
      intro w hSw
      (try dsimp only at hSw)
      go_simp
      try with_reducible rfl
    simp only [Act.put, List.getElem_toArray, List.getElem_cons_succ, List.getElem_cons_zero, List.setIfInBounds_toArray, List.set_cons_zero, List.set_cons_succ]
    refine wpAnyH_take (i := 14) (v := ?v13) rfl (by kernel_rfl) (by kernel_rfl) (by kernel_rfl) (fun _ _ _ h => h) (Or.inl ⟨by kernel_rfl, ?hy13⟩) hHeld ?rest13
    case hy13 =>
      intro w hSw
      (try dsimp only at hSw)
      go_simp
      try with_reducible rfl
    simp only [Act.put, List.getElem_toArray, List.getElem_cons_succ, List.getElem_cons_zero, List.setIfInBounds_toArray, List.set_cons_zero, List.set_cons_succ]
    refine wpAnyH_ready (rs := [12]) (by kernel_rfl) (by simp) ?_
    refine AllReadyH.cons rfl (fun K hK => ?_) AllReadyH.nil
    rw [if_pos (by kernel_rfl)]
    go_simp
    go_at_call 28
    have C := implMatches_c o5 o6 HQZ.out HMZ.out HQL.out
    rw [HMQ.out] at C
    refine C.mono ?_
    clear C
    rintro e W21 ⟨_, rfl, rfl, y21⟩
    have q21 := y21.size
    replace X := ext_trans X y21
    replace r0 := r0.ext y21
    replace o3 := o3.ext y21
    replace ob := ob.ext y21
    replace oc := oc.ext y21
    replace o5 := o5.ext y21
    replace o6 := o6.ext y21
    replace k10 := cell_ext k10 y21
    replace k11 := cell_ext k11 y21
    replace o7 := o7.ext y21
    replace k13 := cell_ext k13 y21
    replace o8 := o8.ext y21
    replace k15 := cell_ext k15 y21
    replace o9 := o9.ext y21
    replace o10 := o10.ext y21
    replace k17 := cell_ext k17 y21
    replace o11 := o11.ext y21
    replace k19 := cell_ext k19 y21
    replace o12 := o12.ext y21
    replace k21 := cell_ext k21 y21
    replace o13 := o13.ext y21
    clear y21
    refine hK.out _ _ (by exact ⟨k10, k11, k13, k15, k17, k19, k21⟩) (fun hHeld => ?_)
    clear hK K
    refine wpAnyH_ready (rs := [15]) (by kernel_rfl) (by simp) ?_
    refine AllReadyH.cons rfl (fun K hK => ?_) AllReadyH.nil
    rw [if_pos (by kernel_rfl)]
    go_simp
    go_at_call 29
    have C := specMatches_c o5 o6 HQZ.out HMZ.out HQL.out
    rw [HMQ.out] at C
    refine C.mono ?_
    clear C
    rintro e W22 ⟨_, rfl, rfl, y22⟩
    have q22 := y22.size
    replace X := ext_trans X y22
    replace r0 := r0.ext y22
    replace o3 := o3.ext y22
    replace ob := ob.ext y22
    replace oc := oc.ext y22
    replace o5 := o5.ext y22
    replace o6 := o6.ext y22
    replace k10 := cell_ext k10 y22
    replace k11 := cell_ext k11 y22
    replace o7 := o7.ext y22
    replace k13 := cell_ext k13 y22
    replace o8 := o8.ext y22
    replace k15 := cell_ext k15 y22
    replace o9 := o9.ext y22
    replace o10 := o10.ext y22
    replace k17 := cell_ext k17 y22
    replace o11 := o11.ext y22
    replace k19 := cell_ext k19 y22
    replace o12 := o12.ext y22
    replace k21 := cell_ext k21 y22
    replace o13 := o13.ext y22
    clear y22
    refine hK.out _ _ (by exact ⟨k10, k11, k13, k15, k17, k19, k21⟩) (fun hHeld => ?_)
    clear hK K
    refine wpAnyH_take (i := 16) (v := ?v14) rfl (by kernel_rfl) (by kernel_rfl) (by kernel_rfl) (fun _ _ _ h => h) (Or.inl ⟨by kernel_rfl, ?hy14⟩) hHeld ?rest14
    case hy14 =>
      intro w hSw
      (try dsimp only at hSw)
      go_simp
      try with_reducible rfl
    simp only [Act.put, List.getElem_toArray, List.getElem_cons_succ, List.getElem_cons_zero, List.setIfInBounds_toArray, List.set_cons_zero, List.set_cons_succ]
    refine wpAnyH_take (i := 17) (v := ?v15) rfl (by kernel_rfl) (by kernel_rfl) (by kernel_rfl) (fun _ _ _ h => h) (Or.inl ⟨by kernel_rfl, ?hy15⟩) hHeld ?rest15
    case hy15 =>
      intro w hSw
      (try dsimp only at hSw)
      go_simp
      try with_reducible rfl
    simp only [Act.put, List.getElem_toArray, List.getElem_cons_succ, List.getElem_cons_zero, List.setIfInBounds_toArray, List.set_cons_zero, List.set_cons_succ]
    refine wpAnyH_take (i := 18) (v := ?v16) rfl (by kernel_rfl) (by kernel_rfl) (by kernel_rfl) (fun _ _ _ h => h) (Or.inl ⟨by kernel_rfl, ?hy16⟩) hHeld ?rest16
    case hy16 =>
      intro w hSw
      (try dsimp only at hSw)
      go_simp
      try with_reducible rfl
    simp only [Act.put, List.getElem_toArray, List.getElem_cons_succ, List.getElem_cons_zero, List.setIfInBounds_toArray, List.set_cons_zero, List.set_cons_succ]
    refine wpAnyH_take (i := 19) (v := ?v17) rfl (by kernel_rfl) (by kernel_rfl) (by kernel_rfl) (fun _ _ _ h => h) (Or.inl ⟨by kernel_rfl, ?hy17⟩) hHeld ?rest17
    case hy17 =>
      intro w hSw
      (try dsimp only at hSw)
      go_simp
      try with_reducible rfl
    simp only [Act.put, List.getElem_toArray, List.getElem_cons_succ, List.getElem_cons_zero, List.setIfInBounds_toArray, List.set_cons_zero, List.set_cons_succ]
    refine wpAnyH_take (i := 20) (v := ?v18) rfl (by kernel_rfl) (by kernel_rfl) (by kernel_rfl) (fun _ _ _ h => h) (Or.inl ⟨by kernel_rfl, ?hy18⟩) hHeld ?rest18
    case hy18 =>
      intro w hSw
      (try dsimp only at hSw)
      go_simp
      try with_reducible rfl
    simp only [Act.put, List.getElem_toArray, List.getElem_cons_succ, List.getElem_cons_zero, List.setIfInBounds_toArray, List.set_cons_zero, List.set_cons_succ]
    refine wpAnyH_take (i := 21) (v := ?v19) rfl (by kernel_rfl) (by kernel_rfl) (by kernel_rfl) (fun _ _ _ h => h) (Or.inl ⟨by kernel_rfl, ?hy19⟩) hHeld ?rest19
    case hy19 =>
      intro w hSw
      (try dsimp only at hSw)
      go_simp
      try with_reducible rfl
    simp only [Act.put, List.getElem_toArray, List.getElem_cons_succ, List.getElem_cons_zero, List.setIfInBounds_toArray, List.set_cons_zero, List.set_cons_succ]
    refine wpAnyH_take (i := 22) (v := ?v20) rfl (by kernel_rfl) (by kernel_rfl) (by kernel_rfl) (fun _ _ _ h => h) (Or.inl ⟨by kernel_rfl, ?hy20⟩) hHeld ?rest20
    case hy20 =>
      intro w hSw
      (try dsimp only at hSw)
      go_simp
      try with_reducible rfl
    simp only [Act.put, List.getElem_toArray, List.getElem_cons_succ, List.getElem_cons_zero, List.setIfInBounds_toArray, List.set_cons_zero, List.set_cons_succ]
    refine wpAnyH_ready (rs := [23]) (by kernel_rfl) (by simp) ?_
    refine AllReadyH.cons rfl (fun K hK => ?_) AllReadyH.nil
    rw [if_pos (by kernel_rfl)]
    go_simp
    go_at_call 30
    have C := sameTexts_c o7.rd.inner o8.inner
    rw [decide_eq_true rfl] at C
    refine C.mono ?_
    clear C
    rintro e W23 ⟨_, rfl, rfl, y23⟩
    have q23 := y23.size
    replace X := ext_trans X y23
    replace r0 := r0.ext y23
    replace o3 := o3.ext y23
    replace ob := ob.ext y23
    replace oc := oc.ext y23
    replace o5 := o5.ext y23
    replace o6 := o6.ext y23
    replace k10 := cell_ext k10 y23
    replace k11 := cell_ext k11 y23
    replace o7 := o7.ext y23
    replace k13 := cell_ext k13 y23
    replace o8 := o8.ext y23
    replace k15 := cell_ext k15 y23
    replace o9 := o9.ext y23
    replace o10 := o10.ext y23
    replace k17 := cell_ext k17 y23
    replace o11 := o11.ext y23
    replace k19 := cell_ext k19 y23
    replace o12 := o12.ext y23
    replace k21 := cell_ext k21 y23
    replace o13 := o13.ext y23
    clear y23
    refine hK.out _ _ (by exact ⟨k10, k11, k13, k15, k17, k19, k21⟩) (fun hHeld => ?_)
    clear hK K
    refine wpAnyH_take (i := 24) (v := ?v21) rfl (by kernel_rfl) (by kernel_rfl) (by kernel_rfl) (fun _ _ _ h => h) (Or.inl ⟨by kernel_rfl, ?hy21⟩) hHeld ?rest21
    case hy21 =>
      intro w hSw
      (try dsimp only at hSw)
      go_simp
      try with_reducible rfl
    simp only [Act.put, List.getElem_toArray, List.getElem_cons_succ, List.getElem_cons_zero, List.setIfInBounds_toArray, List.set_cons_zero, List.set_cons_succ]
    refine wpAnyH_take (i := 25) (v := ?v22) rfl (by kernel_rfl) (by kernel_rfl) (by kernel_rfl) (fun _ _ _ h => h) (Or.inl ⟨by kernel_rfl, ?hy22⟩) hHeld ?rest22
    case hy22 =>
      intro w hSw
      (try dsimp only at hSw)
      go_simp
      try with_reducible rfl
    simp only [Act.put, List.getElem_toArray, List.getElem_cons_succ, List.getElem_cons_zero, List.setIfInBounds_toArray, List.set_cons_zero, List.set_cons_succ]
    refine wpAnyH_take (i := 26) (v := ?v23) rfl (by kernel_rfl) (by kernel_rfl) (by kernel_rfl) (fun _ _ _ h => h) (Or.inl ⟨by kernel_rfl, ?hy23⟩) hHeld ?rest23
    case hy23 =>
      intro w hSw
      (try dsimp only at hSw)
      go_simp
      try with_reducible rfl
    simp only [Act.put, List.getElem_toArray, List.getElem_cons_succ, List.getElem_cons_zero, List.setIfInBounds_toArray, List.set_cons_zero, List.set_cons_succ]
    refine wpAnyH_take (i := 27) (v := ?v24) rfl (by kernel_rfl) (by kernel_rfl) (by kernel_rfl) (fun _ _ _ h => h) (Or.inl ⟨by kernel_rfl, ?hy24⟩) hHeld ?rest24
    case hy24 =>
      intro w hSw
      (try dsimp only at hSw)
      go_simp
      try with_reducible rfl
    simp only [Act.put, List.getElem_toArray, List.getElem_cons_succ, List.getElem_cons_zero, List.setIfInBounds_toArray, List.set_cons_zero, List.set_cons_succ]
    refine wpAnyH_take (i := 28) (v := ?v25) rfl (by kernel_rfl) (by kernel_rfl) (by kernel_rfl) (fun _ _ _ h => h) (Or.inl ⟨by kernel_rfl, ?hy25⟩) hHeld ?rest25
    case hy25 =>
      intro w hSw
      (try dsimp only at hSw)
      go_simp
      try with_reducible rfl
    simp only [Act.put, List.getElem_toArray, List.getElem_cons_succ, List.getElem_cons_zero, List.setIfInBounds_toArray, List.set_cons_zero, List.set_cons_succ]
    refine wpAnyH_take (i := 29) (v := ?v26) rfl (by kernel_rfl) (by kernel_rfl) (by kernel_rfl) (fun _ _ _ h => h) (Or.inl ⟨by kernel_rfl, ?hy26⟩) hHeld ?rest26
    case hy26 =>
      intro w hSw
      (try dsimp only at hSw)
      go_simp
      try with_reducible rfl
    simp only [Act.put, List.getElem_toArray, List.getElem_cons_succ, List.getElem_cons_zero, List.setIfInBounds_toArray, List.set_cons_zero, List.set_cons_succ]
    refine wpAnyH_take (i := 30) (v := ?v27) rfl (by kernel_rfl) (by kernel_rfl) (by kernel_rfl) (fun _ _ _ h => h) (Or.inl ⟨by kernel_rfl, ?hy27⟩) hHeld ?rest27
    case hy27 =>
      intro w hSw
      (try dsimp only at hSw)
      go_simp
      try with_reducible rfl
    simp only [Act.put, List.getElem_toArray, List.getElem_cons_succ, List.getElem_cons_zero, List.setIfInBounds_toArray, List.set_cons_zero, List.set_cons_succ]
    refine wpAnyH_take (i := 31) (v := ?v28) rfl (by kernel_rfl) (by kernel_rfl) (by kernel_rfl) (fun _ _ _ h => h) (Or.inl ⟨by kernel_rfl, ?hy28⟩) hHeld ?rest28
    case hy28 =>
      intro w hSw
      (try dsimp only at hSw)
      go_simp
      try with_reducible rfl
    simp only [Act.put, List.getElem_toArray, List.getElem_cons_succ, List.getElem_cons_zero, List.setIfInBounds_toArray, List.set_cons_zero, List.set_cons_succ]
    refine wpAnyH_take (i := 32) (v := ?v29) rfl (by kernel_rfl) (by kernel_rfl) (by kernel_rfl) (fun _ _ _ h => h) (Or.inl ⟨by kernel_rfl, ?hy29⟩) hHeld ?rest29
    case hy29 =>
      intro w hSw
      (try dsimp only at hSw)
      go_simp
      try with_reducible rfl
    simp only [Act.put, List.getElem_toArray, List.getElem_cons_succ, List.getElem_cons_zero, List.setIfInBounds_toArray, List.set_cons_zero, List.set_cons_succ]
    refine wpAnyH_take (i := 33) (v := ?v30) rfl (by kernel_rfl) (by kernel_rfl) (by kernel_rfl) (fun _ _ _ h => h) (Or.inl ⟨by kernel_rfl, ?hy30⟩) hHeld ?rest30
    case hy30 =>
      intro w hSw
      (try dsimp only at hSw)
      go_simp
      try with_reducible rfl
    simp only [Act.put, List.getElem_toArray, List.getElem_cons_succ, List.getElem_cons_zero, List.setIfInBounds_toArray, List.set_cons_zero, List.set_cons_succ]
    refine wpAnyH_ready (rs := [34]) (by kernel_rfl) (by simp) ?_
    refine AllReadyH.cons rfl (fun K hK => ?_) AllReadyH.nil
    rw [if_pos (by kernel_rfl)]
    go_simp
    go_at_call 31
    have C := sameName_c o11.rd o12.rd
    rw [decide_eq_true rfl] at C
    refine C.mono ?_
    clear C
    rintro e W24 ⟨_, rfl, rfl, y24⟩
    have q24 := y24.size
    replace X := ext_trans X y24
    replace r0 := r0.ext y24
    replace o3 := o3.ext y24
    replace ob := ob.ext y24
    replace oc := oc.ext y24
    replace o5 := o5.ext y24
    replace o6 := o6.ext y24
    replace k10 := cell_ext k10 y24
    replace k11 := cell_ext k11 y24
    replace o7 := o7.ext y24
    replace k13 := cell_ext k13 y24
    replace o8 := o8.ext y24
    replace k15 := cell_ext k15 y24
    replace o9 := o9.ext y24
    replace o10 := o10.ext y24
    replace k17 := cell_ext k17 y24
    replace o11 := o11.ext y24
    replace k19 := cell_ext k19 y24
    replace o12 := o12.ext y24
    replace k21 := cell_ext k21 y24
    replace o13 := o13.ext y24
    clear y24
    refine hK.out _ _ (by exact ⟨k10, k11, k13, k15, k17, k19, k21⟩) (fun hHeld => ?_)
    clear hK K
    refine wpAnyH_take (i := 35) (v := ?v31) rfl (by kernel_rfl) (by kernel_rfl) (by kernel_rfl) (fun _ _ _ h => h) (Or.inl ⟨by kernel_rfl, ?hy31⟩) hHeld ?rest31
    case hy31 =>
      intro w hSw
      (try dsimp only at hSw)
      go_simp
      try with_reducible rfl
    simp only [Act.put, List.getElem_toArray, List.getElem_cons_succ, List.getElem_cons_zero, List.setIfInBounds_toArray, List.set_cons_zero, List.set_cons_succ]
    refine wpAnyH_take (i := 36) (v := ?v32) rfl (by kernel_rfl) (by kernel_rfl) (by kernel_rfl) (fun _ _ _ h => h) (Or.inl ⟨by kernel_rfl, ?hy32⟩) hHeld ?rest32
    case hy32 =>
      intro w hSw
      (try dsimp only at hSw)
      go_simp
      try with_reducible rfl
    simp only [Act.put, List.getElem_toArray, List.getElem_cons_succ, List.getElem_cons_zero, List.setIfInBounds_toArray, List.set_cons_zero, List.set_cons_succ]
    refine wpAnyH_take (i := 37) (v := ?v33) rfl (by kernel_rfl) (by kernel_rfl) (by kernel_rfl) (fun _ _ _ h => h) (Or.inl ⟨by kernel_rfl, ?hy33⟩) hHeld ?rest33
    case hy33 =>
      intro w hSw
      (try dsimp only at hSw)
      go_simp
      try with_reducible rfl
    simp only [Act.put, List.getElem_toArray, List.getElem_cons_succ, List.getElem_cons_zero, List.setIfInBounds_toArray, List.set_cons_zero, List.set_cons_succ]
    refine wpAnyH_take (i := 38) (v := ?v34) rfl (by kernel_rfl) (by kernel_rfl) (by kernel_rfl) (fun _ _ _ h => h) (Or.inl ⟨by kernel_rfl, ?hy34⟩) hHeld ?rest34
    case hy34 =>
      intro w hSw
      (try dsimp only at hSw)
      go_simp
      try with_reducible rfl
    simp only [Act.put, List.getElem_toArray, List.getElem_cons_succ, List.getElem_cons_zero, List.setIfInBounds_toArray, List.set_cons_zero, List.set_cons_succ]
    refine wpAnyH_take (i := 39) (v := ?v35) rfl (by kernel_rfl) (by kernel_rfl) (by kernel_rfl) (fun _ _ _ h => h) (Or.inl ⟨by kernel_rfl, ?hy35⟩) hHeld ?rest35
    case hy35 =>
      intro w hSw
      (try dsimp only at hSw)
      go_simp
      try with_reducible rfl
    simp only [Act.put, List.getElem_toArray, List.getElem_cons_succ, List.getElem_cons_zero, List.setIfInBounds_toArray, List.set_cons_zero, List.set_cons_succ]
    refine wpAnyH_take (i := 40) (v := ?v36) rfl (by kernel_rfl) (by kernel_rfl) (by kernel_rfl) (fun _ _ _ h => h) (Or.inl ⟨by kernel_rfl, ?hy36⟩) hHeld ?rest36
    case hy36 =>
      intro w hSw
      (try dsimp only at hSw)
      go_simp
      try with_reducible rfl
    simp only [Act.put, List.getElem_toArray, List.getElem_cons_succ, List.getElem_cons_zero, List.setIfInBounds_toArray, List.set_cons_zero, List.set_cons_succ]
    refine wpAnyH_take (i := 41) (v := ?v37) rfl (by kernel_rfl) (by kernel_rfl) (by kernel_rfl) (fun _ _ _ h => h) (Or.inl ⟨by kernel_rfl, ?hy37⟩) hHeld ?rest37
    case hy37 =>
      intro w hSw
      (try dsimp only at hSw)
      go_simp
      try with_reducible rfl
    simp only [Act.put, List.getElem_toArray, List.getElem_cons_succ, List.getElem_cons_zero, List.setIfInBounds_toArray, List.set_cons_zero, List.set_cons_succ]
    refine wpAnyH_take (i := 42) (v := ?v38) rfl (by kernel_rfl) (by kernel_rfl) (by kernel_rfl) (fun _ _ _ h => h) (Or.inl ⟨by kernel_rfl, ?hy38⟩) hHeld ?rest38
    case hy38 =>
      intro w hSw
      (try dsimp only at hSw)
      go_simp
      try with_reducible rfl
    simp only [Act.put, List.getElem_toArray, List.getElem_cons_succ, List.getElem_cons_zero, List.setIfInBounds_toArray, List.set_cons_zero, List.set_cons_succ]
    refine wpAnyH_take (i := 43) (v := ?v39) rfl (by kernel_rfl) (by kernel_rfl) (by kernel_rfl) (fun _ _ _ h => h) (Or.inl ⟨by kernel_rfl, ?hy39⟩) hHeld ?rest39
    case hy39 =>
      intro w hSw
      (try dsimp only at hSw)
      go_simp
      try with_reducible rfl
    simp only [Act.put, List.getElem_toArray, List.getElem_cons_succ, List.getElem_cons_zero, List.setIfInBounds_toArray, List.set_cons_zero, List.set_cons_succ]
    refine wpAnyH_take (i := 44) (v := ?v40) rfl (by kernel_rfl) (by kernel_rfl) (by kernel_rfl) (fun _ _ _ h => h) (Or.inl ⟨by kernel_rfl, ?hy40⟩) hHeld ?rest40
    case hy40 =>
      intro w hSw
      (try dsimp only at hSw)
      go_simp
      try with_reducible rfl
    simp only [Act.put, List.getElem_toArray, List.getElem_cons_succ, List.getElem_cons_zero, List.setIfInBounds_toArray, List.set_cons_zero, List.set_cons_succ]
    refine wpAnyH_take (i := 46) (v := ?v41) rfl (by kernel_rfl) (by kernel_rfl) (by kernel_rfl) (fun _ _ _ h => h) (Or.inl ⟨by kernel_rfl, ?hy41⟩) hHeld ?rest41
    case hy41 =>
      intro w hSw
      (try dsimp only at hSw)
      go_simp
      try with_reducible rfl
    simp only [Act.put, List.getElem_toArray, List.getElem_cons_succ, List.getElem_cons_zero, List.setIfInBounds_toArray, List.set_cons_zero, List.set_cons_succ]
    refine wpAnyH_take (i := 47) (v := ?v42) rfl (by kernel_rfl) (by kernel_rfl) (by kernel_rfl) (fun _ _ _ h => h) (Or.inl ⟨by kernel_rfl, ?hy42⟩) hHeld ?rest42
    case hy42 =>
      intro w hSw
      (try dsimp only at hSw)
      go_simp
      try with_reducible rfl
    simp only [Act.put, List.getElem_toArray, List.getElem_cons_succ, List.getElem_cons_zero, List.setIfInBounds_toArray, List.set_cons_zero, List.set_cons_succ]
    refine wpAnyH_ready (rs := [45]) (by kernel_rfl) (by simp) ?_
    refine AllReadyH.cons rfl (fun K hK => ?_) AllReadyH.nil
    rw [if_pos (by kernel_rfl)]
    go_simp
    go_at_call 32
    have C := implBindingValue_c (key := key) o13
    rw [HTB.out] at C
    refine C.mono ?_
    clear C
    rintro e W25 ⟨_, rfl, rfl, y25⟩
    have q25 := y25.size
    replace X := ext_trans X y25
    replace r0 := r0.ext y25
    replace o3 := o3.ext y25
    replace ob := ob.ext y25
    replace oc := oc.ext y25
    replace o5 := o5.ext y25
    replace o6 := o6.ext y25
    replace k10 := cell_ext k10 y25
    replace k11 := cell_ext k11 y25
    replace o7 := o7.ext y25
    replace k13 := cell_ext k13 y25
    replace o8 := o8.ext y25
    replace k15 := cell_ext k15 y25
    replace o9 := o9.ext y25
    replace o10 := o10.ext y25
    replace k17 := cell_ext k17 y25
    replace o11 := o11.ext y25
    replace k19 := cell_ext k19 y25
    replace o12 := o12.ext y25
    replace k21 := cell_ext k21 y25
    replace o13 := o13.ext y25
    clear y25
    refine hK.out _ _ (by exact ⟨k10, k11, k13, k15, k17, k19, k21⟩) (fun hHeld => ?_)
    clear hK K
    refine wpAnyH_ready (rs := [48]) (by kernel_rfl) (by simp) ?_
    refine AllReadyH.cons rfl (fun K hK => ?_) AllReadyH.nil
    rw [if_pos (by kernel_rfl)]
    go_simp
    go_at_call 33
    have C := specBindingValue_c (key := key) o13
    rw [HTB.out] at C
    refine C.mono ?_
    clear C
    rintro e W26 ⟨_, rfl, rfl, y26⟩
    have q26 := y26.size
    replace X := ext_trans X y26
    replace r0 := r0.ext y26
    replace o3 := o3.ext y26
    replace ob := ob.ext y26
    replace oc := oc.ext y26
    replace o5 := o5.ext y26
    replace o6 := o6.ext y26
    replace k10 := cell_ext k10 y26
    replace k11 := cell_ext k11 y26
    replace o7 := o7.ext y26
    replace k13 := cell_ext k13 y26
    replace o8 := o8.ext y26
    replace k15 := cell_ext k15 y26
    replace o9 := o9.ext y26
    replace o10 := o10.ext y26
    replace k17 := cell_ext k17 y26
    replace o11 := o11.ext y26
    replace k19 := cell_ext k19 y26
    replace o12 := o12.ext y26
    replace k21 := cell_ext k21 y26
    replace o13 := o13.ext y26
    clear y26
    refine hK.out _ _ (by exact ⟨k10, k11, k13, k15, k17, k19, k21⟩) (fun hHeld => ?_)
    clear hK K
    refine wpAnyH_take (i := 49) (v := ?v43) rfl (by kernel_rfl) (by kernel_rfl) (by kernel_rfl) (fun _ _ _ h => h) (Or.inl ⟨by kernel_rfl, ?hy43⟩) hHeld ?rest43
    case hy43 =>
      intro w hSw
      (try dsimp only at hSw)
      go_simp
      try with_reducible rfl
    simp only [Act.put, List.getElem_toArray, List.getElem_cons_succ, List.getElem_cons_zero, List.setIfInBounds_toArray, List.set_cons_zero, List.set_cons_succ]
    refine wpAnyH_take (i := 50) (v := ?v44) rfl (by kernel_rfl) (by kernel_rfl) (by kernel_rfl) (fun _ _ _ h => h) (Or.inl ⟨by kernel_rfl, ?hy44⟩) hHeld ?rest44
    case hy44 =>
      intro w hSw
      (try dsimp only at hSw)
      go_simp
      try with_reducible rfl
    simp only [Act.put, List.getElem_toArray, List.getElem_cons_succ, List.getElem_cons_zero, List.setIfInBounds_toArray, List.set_cons_zero, List.set_cons_succ]
    refine wpAnyH_take (i := 51) (v := ?v45) rfl (by kernel_rfl) (by kernel_rfl) (by kernel_rfl) (fun _ _ _ h => h) (Or.inl ⟨by kernel_rfl, ?hy45⟩) hHeld ?rest45
    case hy45 =>
      intro w hSw
      (try dsimp only at hSw)
      go_simp
      try with_reducible rfl
    simp only [Act.put, List.getElem_toArray, List.getElem_cons_succ, List.getElem_cons_zero, List.setIfInBounds_toArray, List.set_cons_zero, List.set_cons_succ]
    refine wpAnyH_take (i := 52) (v := ?v46) rfl (by kernel_rfl) (by kernel_rfl) (by kernel_rfl) (fun _ _ _ h => h) (Or.inl ⟨by kernel_rfl, ?hy46⟩) hHeld ?rest46
    case hy46 =>
      intro w hSw
      (try dsimp only at hSw)
      go_simp
      try with_reducible rfl
    simp only [Act.put, List.getElem_toArray, List.getElem_cons_succ, List.getElem_cons_zero, List.setIfInBounds_toArray, List.set_cons_zero, List.set_cons_succ]
    refine wpAnyH_take (i := 54) (v := ?v47) rfl (by kernel_rfl) (by kernel_rfl) (by kernel_rfl) (fun _ _ _ h => h) (Or.inl ⟨by kernel_rfl, ?hy47⟩) hHeld ?rest47
    case hy47 =>
      intro w hSw
      (try dsimp only at hSw)
      go_simp
      try with_reducible rfl
    simp only [Act.put, List.getElem_toArray, List.getElem_cons_succ, List.getElem_cons_zero, List.setIfInBounds_toArray, List.set_cons_zero, List.set_cons_succ]
    refine wpAnyH_ready (rs := [53]) (by kernel_rfl) (by simp) ?_
    refine AllReadyH.cons rfl (fun K hK => ?_) AllReadyH.nil
    rw [if_pos (by kernel_rfl)]
    go_simp
    go_at_call 34
    have C := implFormatPattern_c o9 HFW.out
    rw [HTF.out] at C
    refine C.mono ?_
    clear C
    rintro e W27 ⟨_, rfl, rfl, y27⟩
    have q27 := y27.size
    replace X := ext_trans X y27
    replace r0 := r0.ext y27
    replace o3 := o3.ext y27
    replace ob := ob.ext y27
    replace oc := oc.ext y27
    replace o5 := o5.ext y27
    replace o6 := o6.ext y27
    replace k10 := cell_ext k10 y27
    replace k11 := cell_ext k11 y27
    replace o7 := o7.ext y27
    replace k13 := cell_ext k13 y27
    replace o8 := o8.ext y27
    replace k15 := cell_ext k15 y27
    replace o9 := o9.ext y27
    replace o10 := o10.ext y27
    replace k17 := cell_ext k17 y27
    replace o11 := o11.ext y27
    replace k19 := cell_ext k19 y27
    replace o12 := o12.ext y27
    replace k21 := cell_ext k21 y27
    replace o13 := o13.ext y27
    clear y27
    refine hK.out _ _ (by exact ⟨k10, k11, k13, k15, k17, k19, k21⟩) (fun hHeld => ?_)
    clear hK K
    refine wpAnyH_ready (rs := [55]) (by kernel_rfl) (by simp) ?_
    refine AllReadyH.cons rfl (fun K hK => ?_) AllReadyH.nil
    rw [if_pos (by kernel_rfl)]
    go_simp
    go_at_call 35
    have C := specFormatPattern_c o9 HFW.out
    rw [HTF.out] at C
    refine C.mono ?_
    clear C
    rintro e W28 ⟨_, rfl, rfl, y28⟩
    have q28 := y28.size
    replace X := ext_trans X y28
    replace r0 := r0.ext y28
    replace o3 := o3.ext y28
    replace ob := ob.ext y28
    replace oc := oc.ext y28
    replace o5 := o5.ext y28
    replace o6 := o6.ext y28
    replace k10 := cell_ext k10 y28
    replace k11 := cell_ext k11 y28
    replace o7 := o7.ext y28
    replace k13 := cell_ext k13 y28
    replace o8 := o8.ext y28
    replace k15 := cell_ext k15 y28
    replace o9 := o9.ext y28
    replace o10 := o10.ext y28
    replace k17 := cell_ext k17 y28
    replace o11 := o11.ext y28
    replace k19 := cell_ext k19 y28
    replace o12 := o12.ext y28
    replace k21 := cell_ext k21 y28
    replace o13 := o13.ext y28
    clear y28
    refine hK.out _ _ (by exact ⟨k10, k11, k13, k15, k17, k19, k21⟩) (fun hHeld => ?_)
    clear hK K
    refine wpAnyH_take (i := 56) (v := ?v48) rfl (by kernel_rfl) (by kernel_rfl) (by kernel_rfl) (fun _ _ _ h => h) (Or.inl ⟨by kernel_rfl, ?hy48⟩) hHeld ?rest48
    case hy48 =>
      intro w hSw
      (try dsimp only at hSw)
      go_simp
      try with_reducible rfl
    simp only [Act.put, List.getElem_toArray, List.getElem_cons_succ, List.getElem_cons_zero, List.setIfInBounds_toArray, List.set_cons_zero, List.set_cons_succ]
    refine wpAnyH_take (i := 57) (v := ?v49) rfl (by kernel_rfl) (by kernel_rfl) (by kernel_rfl) (fun _ _ _ h => h) (Or.inl ⟨by kernel_rfl, ?hy49⟩) hHeld ?rest49
    case hy49 =>
      intro w hSw
      (try dsimp only at hSw)
      go_simp
      try with_reducible rfl
    simp only [Act.put, List.getElem_toArray, List.getElem_cons_succ, List.getElem_cons_zero, List.setIfInBounds_toArray, List.set_cons_zero, List.set_cons_succ]
    refine wpAnyH_take (i := 58) (v := ?v50) rfl (by kernel_rfl) (by kernel_rfl) (by kernel_rfl) (fun _ _ _ h => h) (Or.inl ⟨by kernel_rfl, ?hy50⟩) hHeld ?rest50
    case hy50 =>
      intro w hSw
      (try dsimp only at hSw)
      go_simp
      try with_reducible rfl
    simp only [Act.put, List.getElem_toArray, List.getElem_cons_succ, List.getElem_cons_zero, List.setIfInBounds_toArray, List.set_cons_zero, List.set_cons_succ]
    refine wpAnyH_take (i := 59) (v := ?v51) rfl (by kernel_rfl) (by kernel_rfl) (by kernel_rfl) (fun _ _ _ h => h) (Or.inl ⟨by kernel_rfl, ?hy51⟩) hHeld ?rest51
    case hy51 =>
      intro w hSw
      (try dsimp only at hSw)
      go_simp
      try with_reducible rfl
    simp only [Act.put, List.getElem_toArray, List.getElem_cons_succ, List.getElem_cons_zero, List.setIfInBounds_toArray, List.set_cons_zero, List.set_cons_succ]
    refine wpAnyH_take (i := 61) (v := ?v52) rfl (by kernel_rfl) (by kernel_rfl) (by kernel_rfl) (fun _ _ _ h => h) (Or.inl ⟨by kernel_rfl, ?hy52⟩) hHeld ?rest52
    case hy52 =>
      intro w hSw
      (try dsimp only at hSw)
      go_simp
      try with_reducible rfl
    simp only [Act.put, List.getElem_toArray, List.getElem_cons_succ, List.getElem_cons_zero, List.setIfInBounds_toArray, List.set_cons_zero, List.set_cons_succ]
    refine wpAnyH_ready (rs := [60]) (by kernel_rfl) (by simp) ?_
    refine AllReadyH.cons rfl (fun K hK => ?_) AllReadyH.nil
    rw [if_pos (by kernel_rfl)]
    go_simp
    go_at_call 36
    have C := implValidPattern_c o9 HFZ.out
    rw [HVF.out] at C
    refine C.mono ?_
    clear C
    rintro e W29 ⟨_, rfl, rfl, y29⟩
    have q29 := y29.size
    replace X := ext_trans X y29
    replace r0 := r0.ext y29
    replace o3 := o3.ext y29
    replace ob := ob.ext y29
    replace oc := oc.ext y29
    replace o5 := o5.ext y29
    replace o6 := o6.ext y29
    replace k10 := cell_ext k10 y29
    replace k11 := cell_ext k11 y29
    replace o7 := o7.ext y29
    replace k13 := cell_ext k13 y29
    replace o8 := o8.ext y29
    replace k15 := cell_ext k15 y29
    replace o9 := o9.ext y29
    replace o10 := o10.ext y29
    replace k17 := cell_ext k17 y29
    replace o11 := o11.ext y29
    replace k19 := cell_ext k19 y29
    replace o12 := o12.ext y29
    replace k21 := cell_ext k21 y29
    replace o13 := o13.ext y29
    clear y29
    refine hK.out _ _ (by exact ⟨k10, k11, k13, k15, k17, k19, k21⟩) (fun hHeld => ?_)
    clear hK K
    refine wpAnyH_ready (rs := [62]) (by kernel_rfl) (by simp) ?_
    refine AllReadyH.cons rfl (fun K hK => ?_) AllReadyH.nil
    rw [if_pos (by kernel_rfl)]
    go_simp
    go_at_call 37
    have C := specValidPattern_c o9 HFZ.out
    rw [HVF.out] at C
    refine C.mono ?_
    clear C
    rintro e W30 ⟨_, rfl, rfl, y30⟩
    have q30 := y30.size
    replace X := ext_trans X y30
    replace r0 := r0.ext y30
    replace o3 := o3.ext y30
    replace ob := ob.ext y30
    replace oc := oc.ext y30
    replace o5 := o5.ext y30
    replace o6 := o6.ext y30
    replace k10 := cell_ext k10 y30
    replace k11 := cell_ext k11 y30
    replace o7 := o7.ext y30
    replace k13 := cell_ext k13 y30
    replace o8 := o8.ext y30
    replace k15 := cell_ext k15 y30
    replace o9 := o9.ext y30
    replace o10 := o10.ext y30
    replace k17 := cell_ext k17 y30
    replace o11 := o11.ext y30
    replace k19 := cell_ext k19 y30
    replace o12 := o12.ext y30
    replace k21 := cell_ext k21 y30
    replace o13 := o13.ext y30
    clear y30
    refine hK.out _ _ (by exact ⟨k10, k11, k13, k15, k17, k19, k21⟩) (fun hHeld => ?_)
    clear hK K
    refine wpAnyH_take (i := 63) (v := ?v53) rfl (by kernel_rfl) (by kernel_rfl) (by kernel_rfl) (fun _ _ _ h => h) (Or.inl ⟨by kernel_rfl, ?hy53⟩) hHeld ?rest53
    case hy53 =>
      intro w hSw
      (try dsimp only at hSw)
      go_simp
      try with_reducible rfl
    simp only [Act.put, List.getElem_toArray, List.getElem_cons_succ, List.getElem_cons_zero, List.setIfInBounds_toArray, List.set_cons_zero, List.set_cons_succ]
    refine wpAnyH_take (i := 64) (v := ?v54) rfl (by kernel_rfl) (by kernel_rfl) (by kernel_rfl) (fun _ _ _ h => h) (Or.inl ⟨by kernel_rfl, ?hy54⟩) hHeld ?rest54
    case hy54 =>
      intro w hSw
      (try dsimp only at hSw)
      go_simp
      try with_reducible rfl
    simp only [Act.put, List.getElem_toArray, List.getElem_cons_succ, List.getElem_cons_zero, List.setIfInBounds_toArray, List.set_cons_zero, List.set_cons_succ]
    refine wpAnyH_done (by kernel_rfl) ?_ _
    clear r0 oc o5 o6 k10 k11 o8 k15 o12 k21 o13
    clear eB eF
    cases good
    · skip
      clear o9 o10 o11 k17 k19
      cases ok
      · skip
        cases is
        · skip
          go_wp2_with fail
          go_ret
          exact ⟨rfl, X⟩
        · skip
          have hfs := HPB.out rfl
          have hvs := HPG.out rfl
          have HFS := hid hfs
          have HVS := hid hvs
          clear hfs hvs
          have eS : (s.toList == s.toList) = true := by simp
          go_wp2_with fail
          have C := implFormatPattern_c o7.rd HXW.out
          rw [HFS.out] at C
          refine C.mono ?_
          clear C
          rintro e W31 ⟨_, rfl, rfl, y31⟩
          have q31 := y31.size
          replace X := ext_trans X y31
          replace o3 := o3.ext y31
          replace ob := ob.ext y31
          replace o7 := o7.ext y31
          replace k13 := cell_ext k13 y31
          clear y31
          go_wp2_with fail
          have C := implValidPattern_c o7.rd HXZ.out
          rw [HVS.out] at C
          refine C.mono ?_
          clear C
          rintro e W32 ⟨_, rfl, rfl, y32⟩
          have q32 := y32.size
          replace X := ext_trans X y32
          replace o3 := o3.ext y32
          replace ob := ob.ext y32
          replace o7 := o7.ext y32
          replace k13 := cell_ext k13 y32
          clear y32
          go_wp2_with fail
          go_ret
          exact ⟨rfl, X⟩
      · skip
        obtain ⟨hb1, hb2⟩ := HLB.out
        have ot := ob.rd.head2 hb1 HL3.out HB.out
        have g0 : ¬ (nb : Int) < (m1 : Int) := by omega
        have g1 : decide ((nb : Int) < (m1 : Int)) = false := decide_eq_false g0
        have g2 : (0 : Int) ≤ (m1 : Int) := by omega
        have g3 : (m1 : Int) ≤ (nb : Int) := by omega
        have g4 : (m1 : Int) ≤ (cB : Int) := by omega
        clear hb1 hb2
        go_wp2_with fail
        have C := sameBinds_c ot o3
        rw [decide_eq_true rfl] at C
        refine C.mono ?_
        clear C
        rintro e W31 ⟨_, rfl, rfl, y31⟩
        have q31 := y31.size
        replace X := ext_trans X y31
        replace o3 := o3.ext y31
        replace o7 := o7.ext y31
        replace k13 := cell_ext k13 y31
        replace ot := ot.ext y31
        clear y31
        clear ot
        clear g0 g1 g2 g3 g4
        cases is
        · skip
          go_wp2_with fail
          go_ret
          exact ⟨rfl, X⟩
        · skip
          have hfs := HPB.out rfl
          have hvs := HPG.out rfl
          have HFS := hid hfs
          have HVS := hid hvs
          clear hfs hvs
          have eS : (s.toList == s.toList) = true := by simp
          go_wp2_with fail
          have C := implFormatPattern_c o7.rd HXW.out
          rw [HFS.out] at C
          refine C.mono ?_
          clear C
          rintro e W32 ⟨_, rfl, rfl, y32⟩
          have q32 := y32.size
          replace X := ext_trans X y32
          replace o3 := o3.ext y32
          replace o7 := o7.ext y32
          replace k13 := cell_ext k13 y32
          clear y32
          go_wp2_with fail
          have C := implValidPattern_c o7.rd HXZ.out
          rw [HVS.out] at C
          refine C.mono ?_
          clear C
          rintro e W33 ⟨_, rfl, rfl, y33⟩
          have q33 := y33.size
          replace X := ext_trans X y33
          replace o3 := o3.ext y33
          replace o7 := o7.ext y33
          replace k13 := cell_ext k13 y33
          clear y33
          go_wp2_with fail
          go_ret
          exact ⟨rfl, X⟩
    · skip
      have him := HIM.out rfl
      have HI2 := hid him
      clear him
      go_wp2_with fail
      have C := implMatch_c o9 o11.rd o10 HFZ.out HUZ.out HM2.out HFL.out
      rw [HI2.out] at C
      refine C.mono ?_
      clear C
      rintro e W31 ⟨_, rfl, ⟨u20, nd, rfl, o20⟩, y31⟩
      have q31 := y31.size
      replace X := ext_trans X y31
      replace o3 := o3.ext y31
      replace ob := ob.ext y31
      replace o7 := o7.ext y31
      replace k13 := cell_ext k13 y31
      replace o9 := o9.ext y31
      replace o10 := o10.ext y31
      replace k17 := cell_ext k17 y31
      replace o11 := o11.ext y31
      replace k19 := cell_ext k19 y31
      clear y31
      clear o20
      clear o9 o10 o11 k17 k19
      cases ok
      · skip
        cases is
        · skip
          go_wp2_with fail
          go_ret
          exact ⟨rfl, X⟩
        · skip
          have hfs := HPB.out rfl
          have hvs := HPG.out rfl
          have HFS := hid hfs
          have HVS := hid hvs
          clear hfs hvs
          have eS : (s.toList == s.toList) = true := by simp
          go_wp2_with fail
          have C := implFormatPattern_c o7.rd HXW.out
          rw [HFS.out] at C
          refine C.mono ?_
          clear C
          rintro e W32 ⟨_, rfl, rfl, y32⟩
          have q32 := y32.size
          replace X := ext_trans X y32
          replace o3 := o3.ext y32
          replace ob := ob.ext y32
          replace o7 := o7.ext y32
          replace k13 := cell_ext k13 y32
          clear y32
          go_wp2_with fail
          have C := implValidPattern_c o7.rd HXZ.out
          rw [HVS.out] at C
          refine C.mono ?_
          clear C
          rintro e W33 ⟨_, rfl, rfl, y33⟩
          have q33 := y33.size
          replace X := ext_trans X y33
          replace o3 := o3.ext y33
          replace ob := ob.ext y33
          replace o7 := o7.ext y33
          replace k13 := cell_ext k13 y33
          clear y33
          go_wp2_with fail
          go_ret
          exact ⟨rfl, X⟩
      · skip
        obtain ⟨hb1, hb2⟩ := HLB.out
        have ot := ob.rd.head2 hb1 HL3.out HB.out
        have g0 : ¬ (nb : Int) < (m1 : Int) := by omega
        have g1 : decide ((nb : Int) < (m1 : Int)) = false := decide_eq_false g0
        have g2 : (0 : Int) ≤ (m1 : Int) := by omega
        have g3 : (m1 : Int) ≤ (nb : Int) := by omega
        have g4 : (m1 : Int) ≤ (cB : Int) := by omega
        clear hb1 hb2
        go_wp2_with fail
        have C := sameBinds_c ot o3
        rw [decide_eq_true rfl] at C
        refine C.mono ?_
        clear C
        rintro e W32 ⟨_, rfl, rfl, y32⟩
        have q32 := y32.size
        replace X := ext_trans X y32
        replace o3 := o3.ext y32
        replace o7 := o7.ext y32
        replace k13 := cell_ext k13 y32
        replace ot := ot.ext y32
        clear y32
        clear ot
        clear g0 g1 g2 g3 g4
        cases is
        · skip
          go_wp2_with fail
          go_ret
          exact ⟨rfl, X⟩
        · skip
          have hfs := HPB.out rfl
          have hvs := HPG.out rfl
          have HFS := hid hfs
          have HVS := hid hvs
          clear hfs hvs
          have eS : (s.toList == s.toList) = true := by simp
          go_wp2_with fail
          have C := implFormatPattern_c o7.rd HXW.out
          rw [HFS.out] at C
          refine C.mono ?_
          clear C
          rintro e W33 ⟨_, rfl, rfl, y33⟩
          have q33 := y33.size
          replace X := ext_trans X y33
          replace o3 := o3.ext y33
          replace o7 := o7.ext y33
          replace k13 := cell_ext k13 y33
          clear y33
          go_wp2_with fail
          have C := implValidPattern_c o7.rd HXZ.out
          rw [HVS.out] at C
          refine C.mono ?_
          clear C
          rintro e W34 ⟨_, rfl, rfl, y34⟩
          have q34 := y34.size
          replace X := ext_trans X y34
          replace o3 := o3.ext y34
          replace o7 := o7.ext y34
          replace k13 := cell_ext k13 y34
          clear y34
          go_wp2_with fail
          go_ret
          exact ⟨rfl, X⟩
theorem all_met (os : Os) (args : Array Value) : laidMetH Tryd.prog Rows.fnPatsRow.laid ((World.laidAll Tryd.prog os Rows.fnPatsRow.laid).forCall (fun _ _ => 0) ⟨#[], args, []⟩).memory := by
  rw [MakeChecks.laidMetH_plain _ _ _ (by kernel_rfl)]
  exact laidMet_laidAll _ (by kernel_rfl) (by kernel_rfl)
set_option maxRecDepth 100000 in
theorem lifted (os : Os) (started : os.Started) (H : Type) (enc : TypeId × Value → H) :
    ReturnsInHanded {} Tryd.checked os 5 .any (fun w args => (Rows.fnPatsSpec.pre enc Tryd.prog Tryd.f5 [] false w args ∧ laidMetH Tryd.prog Rows.fnPatsRow.laid w) ∧ sizedMet enc Tryd.prog Tryd.f5 (OpenSpec.ofChange Rows.fnPatsSpec) false w args)
      (Rows.fnPatsSpec.post enc Tryd.prog Tryd.f5 false true false false) := by
  refine returnsInHanded_of_calls own started (by kernel_rfl)
    (ChangeSpec.witness_shaped (enc := enc) (C := Tryd.checked) (os := os) (X := fun w _ => laidMetH Tryd.prog Rows.fnPatsRow.laid w) false (World.laidAll Tryd.prog os Rows.fnPatsRow.laid) #[.slice none 0 0] 8 (World.laidAll_os _ _ _) (World.shaped_of_ZipB (by kernel_rfl) (by kernel_rfl)) (by kernel_rfl) (by kernel_rfl) (by kernel_rfl) (all_met os _)) ?_
  intro w0 tape inp _ hsh _ hok hpre _
  obtain ⟨_, _, _, fn', hfn', _, _, _, _, hval0⟩ := hok
  have efn : fn' = Tryd.f5 := Option.some.inj (hfn'.symm.trans Tryd.func5)
  subst efn
  obtain ⟨⟨⟨ds, gs, before, hw, _⟩, _⟩, _⟩ := hpre
  have hW := DataW.Whole.of_heap (w' := w0.forCall tape inp) (by rfl) hw
  have hmx : Mx (w0.forCall tape inp) := Tryd.laysM146.s1_3 _ hsh
  suffices hg : Calls Tryd.prog 5 inp.args (w0.forCall tape inp) fun e W' => ∃ v, e = .returned v ∧ Rows.fnPatsSpec.post enc Tryd.prog Tryd.f5 false true false false (w0.forCall tape inp) inp.args v W' from
    hg.mono fun e W' ⟨v, he, hp⟩ => by
      subst he
      exact ChangeSpec.post_blind hp
  generalize w0.forCall tape inp = W at *
  generalize inp.args = args at *
  clear hw hsh
  have hval : ∀ (j : Nat) t v, Tryd.f5.params[j]? = some t → args[j]? = some v → Value.okWide Tryd.prog W .any w0.heap.size t v := hval0
  have hW' := hW
  obtain ⟨p, q, hA0, hV, rfl, hfz, hnd⟩ := hW
  have hA : DataW.TrodAll enc Tryd.prog W 0 (fun _ => true) true Tryd.f5.params.toList args.toList ds p := hA0
  rw [Tryd.params5] at hA hval
  obtain ⟨v0, d0, rfl, rfl, h0⟩ := trodAll_one hA
  obtain ⟨rfl, rfl⟩ := trodVars_none hV
  have k0 := h0
  have lt0 : ∀ x ∈ p, x.block < W.heap.size := by obtain ⟨m, hm⟩ := k0; exact DataW.trod_lt m _ _ _ hm
  obtain ⟨n0, x0, r0⟩ := rd_bytes Tryd.underlying35 Tryd.underlying5 (by kernel_rfl) (hval 0 35 v0 rfl rfl) h0
  clear hA0 hval0
  simp only [List.append_nil] at hW'
  refine (walk W v0 n0 x0 r0 hmx).mono fun e W' ⟨he, bel⟩ => ?_
  subst he
  exact ⟨_, rfl, _, _, _, [], _, [], hW', trodAll_mk1 (shut_bool Tryd.underlying4 _), trodAll_mk1 (Below.trod laidOut (by kernel_rfl) (of_decide_eq_true (by kernel_rfl)) k0 bel lt0), rfl, bel.frame _, fun h => by cases h⟩
theorem said : Rows.FnPatsSaid :=
  OpenClaim.holds_of_wide 5 Tryd.f5 rfl rfl rfl rfl rfl rfl rfl ⟨rfl, rfl, rfl, rfl, rfl⟩ rfl rfl rfl rfl rfl (by kernel_rfl) Tryd.func5 (by kernel_rfl)
    (of_decide_eq_true (by kernel_rfl)) (by unfold Func.isWrapper; first | (rw [if_pos (by decide +kernel)]; kernel_rfl) | (rw [if_neg (by decide +kernel)]; exact ⟨rfl, rfl⟩))
    (fun os started H enc _ => lifted os started H enc)
theorem proved : Rows.FnPatsCardSaid :=
  Claim7.holds_tied_plain_at .later [] [.data, .pinned] true (true, "2f6ac87a5c0f4c4aadf3efdd5aac87b55a9c0793223bb03498a1cff4615abe95") false
    said (fun _ h => by cases h) (by kernel_rfl) (fun _ h => by cases h) fnPats_row_tie rfl ⟨rfl, rfl⟩ (by kernel_rfl) rfl
    (fun f fn hf hfn => by
      obtain rfl : f = 5 := Option.some.inj ((show Tryd.prog.funcNamed "loop.example/g00507/laws.FnPats" = some 5 by kernel_rfl).symm.trans hf) |>.symm
      obtain rfl : fn = Tryd.f5 := (Option.some.inj (Tryd.func5.symm.trans hfn)).symm
      exact ⟨by kernel_rfl, fun j t ht => by
        rw [Tryd.params5] at ht
        have hm : t ∈ [35] := by simpa using Array.mem_of_getElem? ht
        have hall : ([35].all fun u => !Tryd.prog.wantsStandIn u) = true := by kernel_rfl
        exact (show Tryd.prog.wantsStandIn t = false by simpa using List.all_eq_true.1 hall t hm)⟩)
    (by kernel_rfl)
end fnPats
end Go.Proofs.YtoehjfcadhgpbaaDoor
