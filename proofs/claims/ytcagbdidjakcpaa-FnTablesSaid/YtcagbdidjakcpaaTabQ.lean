/- PutEntry by the program. Conditions: the values read as a table and a name; they are not too long. -/
import Derived.Test.YtcagbdidjakcpaaTabI
set_option linter.unusedVariables false
namespace Go.Proofs.Ytcagbdidjakcpaa
open Go.RowKit
set_option maxRecDepth 100000 in
set_option maxHeartbeats 8000000 in
theorem implPutEntry_c {w : World} {lo hi lo' hi' n m : Nat} {v v' : Value} {xs : List (List ByteArray × Int)} {key : List ByteArray} {z : Int} (h : RdT w lo hi v n xs) (h' : RdN w lo' hi' v' m (key.map sv)) (hn : n ≤ 1099511627775) (hw : tw n xs ≤ 1099511627776) (hm : m ≤ 1099511627776)
    (hs : ∀ e ∈ xs, ∀ s ∈ e.1, s.size ≤ 9223372036854775807) (hk : ∀ s ∈ key, s.size ≤ 9223372036854775807) (hhi : hi ≤ w.heap.size) (hhi' : hi' ≤ w.heap.size) :
    Calls Try.prog 41 #[v, v', .int .i64 z] w (Gives w fun r w' => ∃ u, r = .tuple #[u, .bool (pe xs key z).2] ∧ OwnT w' w.heap.size w'.heap.size u (pe xs key z).1.length (pe xs key z).1) := by
  obtain ⟨p, rfl, h'⟩ := h'
  have hml : m = key.length := by have := h'.1; rw [List.length_map] at this; omega
  subst hml
  have HSZ := hid (pe_size (v := z) hs hk)
  have HWT := hid hw
  have hxl := h.1
  clear hs hk hw
  obtain ⟨W0, hW⟩ : ∃ W, W = w.alloc (.cells #[p] 26) := ⟨_, rfl⟩
  have X : Below w.heap.size w W0 := by rw [hW]; exact ext_alloc (ext_refl w) _
  have s0 := X.size
  have cP : W0.cell? ⟨w.heap.size, 0, none⟩ = some p := by rw [hW]; simp
  have r0 := h.ext X
  have r1 := h'.ext X
  obtain ⟨a, cap, rfl, hc, hcm⟩ := h.form
  clear h h'
  have C := hid (copyTable_c r0 (by omega) HWT.out)
  go_enter Try.func41, Try.ntmps41
  go_wp2_with fail
  rw [← hW]
  clear hW
  refine C.out.mono ?_
  clear C
  rintro e w1 ⟨u1, rfl, o1, y1⟩
  rw [hxl] at o1
  have s1 := y1.size
  replace r0 := r0.ext y1
  replace r1 := r1.ext y1
  replace cP := cell_ext cP y1
  replace X := ext_trans X y1
  clear y1
  have C := hid (indexOfName_c r0 (show RdN w1 lo' hi' (.agg #[p]) key.length (key.map sv) from ⟨p, rfl, r1⟩))
  go_wp2_with fail
  refine C.out.mono ?_
  clear C
  rintro e w2 ⟨_, rfl, ⟨j, rfl, hj, hjb⟩, y2⟩
  have s2 := y2.size
  replace r0 := r0.ext y2
  replace r1 := r1.ext y2
  replace cP := cell_ext cP y2
  replace X := ext_trans X y2
  replace o1 := o1.ext y2
  clear y2
  rcases hjb with rfl | ⟨hj0, hjn⟩
  · have hgi := gi_pls xs key 0 (ti_none xs key 0 (Int.le_refl _) hj)
    have hple := pls_le xs key
    rw [hxl] at hgi hple
    have HGI := hid hgi
    clear hgi
    have C := hid (indexGreater_c r0 r1 cP)
    by_cases hp : pls xs key = n
    · rw [HGI.out, if_pos hp] at C
      clear HGI
      go_wp2_with fail
      refine C.out.mono ?_
      clear C
      rintro e w3 ⟨_, rfl, rfl, y3⟩
      have s3 := y3.size
      replace r0 := r0.ext y3
      replace r1 := r1.ext y3
      replace cP := cell_ext cP y3
      replace X := ext_trans X y3
      replace o1 := o1.ext y3
      clear y3
      have C := hid (copyName_c (show RdN w3 lo' hi' (.agg #[p]) key.length (key.map sv) from ⟨p, rfl, r1⟩) (by omega))
      go_wp2_with fail
      refine C.out.mono ?_
      clear C
      rintro e w4 ⟨_, rfl, ⟨s, rfl, o4⟩, y4⟩
      have s4 := y4.size
      replace r0 := r0.ext y4
      replace X := ext_trans X y4
      replace o1 := o1.ext y4
      clear y4 r1 cP
      obtain ⟨sa, sc, rfl, _⟩ := o4.rd.form
      have ya := ext_alloc (ext_refl w4) (.cells #[.slice sa key.length sc, .int .i64 z] 80)
      have s5 := ya.size
      have hsz : (w4.alloc (.cells #[.slice sa key.length sc, .int .i64 z] 80)).heap.size = w4.heap.size + 1 := by simp
      have C := hid (insertT_c (ub := w4.heap.size) (k := n) (i := z) (o1.ext ya) (o4.ext ya) (by omega) (by omega) (by omega) (heap_alloc_new w4 _) (Nat.le_refl _) (by omega) (by omega))
      replace r0 := r0.ext ya
      replace X := ext_trans X ya
      clear o1 o4 ya
      go_wp2_with fail
      generalize w4.alloc (.cells #[.slice sa key.length sc, .int .i64 z] 80) = w5 at *
      refine C.out.mono ?_
      clear C
      rintro e w6 ⟨u6, rfl, oY, m6⟩
      have s6 := m6.size
      replace r0 := r0.mut m6 (by omega)
      replace X := Mut.ext X m6 (by omega)
      clear m6
      have HY := hid (peY_ins (v := z) hj hp)
      clear hj
      generalize xs.take n ++ (key, z) :: xs.drop n = ys at *
      have hsz := HSZ.out
      rw [HY.out] at hsz
      have C := hid (implValidTable_c oY.rd hsz)
      clear hsz
      cases hvt : vt ys
      · have HPE : Hid (pe xs key z = (xs, false)) := pe_no (by rw [HY.out]; exact hvt)
        rw [hvt] at C
        clear oY hvt HY
        go_wp2_with fail
        refine C.out.mono ?_
        clear C
        rintro e V1 ⟨_, rfl, rfl, z1⟩
        have t1 := z1.size
        replace r0 := r0.ext z1
        replace X := ext_trans X z1
        clear z1
        have C := hid (copyTable_c r0 (by omega) HWT.out)
        clear r0
        go_wp2_with fail
        refine C.out.mono ?_
        clear C
        rintro e V2 ⟨u9, rfl, o9, z2⟩
        have t2 := z2.size
        replace X := ext_trans X z2
        clear z2
        go_wp2
        go_ret2
        refine gives_of _ ⟨u9, ?_, ?_⟩ X
        · rw [HPE.out]; rfl
        · rw [HPE.out]; exact o9.mono (by omega) (Nat.le_refl _)
      · have h9 : pe xs key z = (peY xs key z, true) := pe_yes (by rw [HY.out]; exact hvt)
        rw [HY.out] at h9
        have HPE := hid h9
        clear h9
        rw [hvt] at C
        have HO := hid (fun (V : World) (zz : Below _ _ V) => oY.ext zz)
        have HYL := hid oY.1
        clear hvt HY oY
        go_wp2_with fail
        refine C.out.mono ?_
        clear C
        rintro e V1 ⟨_, rfl, rfl, z1⟩
        have t1 := z1.size
        have o9 := HO.out V1 z1
        replace X := ext_trans X z1
        clear z1 HO r0
        go_wp2
        go_ret2
        refine gives_of _ ⟨u6, ?_, ?_⟩ X
        · rw [HPE.out]; rfl
        · rw [HPE.out]; simp only; rw [HYL.out]; exact o9.mono (by omega) (by omega)
    · rw [HGI.out, if_neg hp, Int.zero_add] at C
      have hp2 : pls xs key < n := by omega
      have hp3 : ¬ ((pls xs key : Int) < 0) := by omega
      clear HGI
      go_wp2_with fail
      refine C.out.mono ?_
      clear C
      rintro e w3 ⟨_, rfl, rfl, y3⟩
      have s3 := y3.size
      replace r0 := r0.ext y3
      replace r1 := r1.ext y3
      replace cP := cell_ext cP y3
      replace X := ext_trans X y3
      replace o1 := o1.ext y3
      clear y3
      have C := hid (copyName_c (show RdN w3 lo' hi' (.agg #[p]) key.length (key.map sv) from ⟨p, rfl, r1⟩) (by omega))
      go_wp2_with fail
      refine C.out.mono ?_
      clear C
      rintro e w4 ⟨_, rfl, ⟨s, rfl, o4⟩, y4⟩
      have s4 := y4.size
      replace r0 := r0.ext y4
      replace X := ext_trans X y4
      replace o1 := o1.ext y4
      clear y4 r1 cP
      obtain ⟨sa, sc, rfl, _⟩ := o4.rd.form
      have ya := ext_alloc (ext_refl w4) (.cells #[.slice sa key.length sc, .int .i64 z] 80)
      have s5 := ya.size
      have hsz : (w4.alloc (.cells #[.slice sa key.length sc, .int .i64 z] 80)).heap.size = w4.heap.size + 1 := by simp
      have C := hid (insertT_c (ub := w4.heap.size) (k := (pls xs key)) (i := z) (o1.ext ya) (o4.ext ya) (by omega) (by omega) (by omega) (heap_alloc_new w4 _) (Nat.le_refl _) (by omega) (by omega))
      replace r0 := r0.ext ya
      replace X := ext_trans X ya
      clear o1 o4 ya
      go_wp2_with fail
      generalize w4.alloc (.cells #[.slice sa key.length sc, .int .i64 z] 80) = w5 at *
      refine C.out.mono ?_
      clear C
      rintro e w6 ⟨u6, rfl, oY, m6⟩
      have s6 := m6.size
      replace r0 := r0.mut m6 (by omega)
      replace X := Mut.ext X m6 (by omega)
      clear m6
      have HY := hid (peY_ins (v := z) hj rfl)
      clear hj
      generalize xs.take (pls xs key) ++ (key, z) :: xs.drop (pls xs key) = ys at *
      have hsz := HSZ.out
      rw [HY.out] at hsz
      have C := hid (implValidTable_c oY.rd hsz)
      clear hsz
      cases hvt : vt ys
      · have HPE : Hid (pe xs key z = (xs, false)) := pe_no (by rw [HY.out]; exact hvt)
        rw [hvt] at C
        clear oY hvt HY
        go_wp2_with fail
        refine C.out.mono ?_
        clear C
        rintro e V1 ⟨_, rfl, rfl, z1⟩
        have t1 := z1.size
        replace r0 := r0.ext z1
        replace X := ext_trans X z1
        clear z1
        have C := hid (copyTable_c r0 (by omega) HWT.out)
        clear r0
        go_wp2_with fail
        refine C.out.mono ?_
        clear C
        rintro e V2 ⟨u9, rfl, o9, z2⟩
        have t2 := z2.size
        replace X := ext_trans X z2
        clear z2
        go_wp2
        go_ret2
        refine gives_of _ ⟨u9, ?_, ?_⟩ X
        · rw [HPE.out]; rfl
        · rw [HPE.out]; exact o9.mono (by omega) (Nat.le_refl _)
      · have h9 : pe xs key z = (peY xs key z, true) := pe_yes (by rw [HY.out]; exact hvt)
        rw [HY.out] at h9
        have HPE := hid h9
        clear h9
        rw [hvt] at C
        have HO := hid (fun (V : World) (zz : Below _ _ V) => oY.ext zz)
        have HYL := hid oY.1
        clear hvt HY oY
        go_wp2_with fail
        refine C.out.mono ?_
        clear C
        rintro e V1 ⟨_, rfl, rfl, z1⟩
        have t1 := z1.size
        have o9 := HO.out V1 z1
        replace X := ext_trans X z1
        clear z1 HO r0
        go_wp2
        go_ret2
        refine gives_of _ ⟨u6, ?_, ?_⟩ X
        · rw [HPE.out]; rfl
        · rw [HPE.out]; simp only; rw [HYL.out]; exact o9.mono (by omega) (by omega)
  · obtain ⟨jj, rfl⟩ := Int.eq_ofNat_of_zero_le hj0
    obtain ⟨hjl, hkey⟩ := ti_at xs key 0 jj (by rw [show ti xs key 0 = _ from hj]; omega) (Int.le_refl _)
    obtain ⟨g, cp, s, q, hv, hcn, hcpm, hgs, hgq, c1, c2, f2, os, hq1, hq2, hcl⟩ := o1.entry hjl
    have hcl2 := hcl w2 xs[jj].1 z (Mut.refl _ _ _) os
    rw [hkey] at hcl2
    subst hv
    have HCL := hid hcl2
    have HY := hid (peY_set (v := z) hj)
    clear hcl hcl2 o1 os hj c1 r1 cP
    generalize xs[jj].2 = z9 at *
    have ix0 : (0 : Int) ≤ (jj : Int) := by omega
    have ix1 : jj < xs.length := hjl
    have ix2 : (jj : Int) < (xs.length : Int) := by omega
    have oY := (HCL.out.1).mono (Nat.le_refl W0.heap.size) (show w1.heap.size ≤ (w2.setCell ⟨g, jj * 2 + 1, none⟩ (.int .i64 z)).heap.size by simp [World.setCell]; omega)
    have m6 := HCL.out.2.1
    have s6 := m6.size
    replace r0 := r0.mut m6 (by omega)
    replace X := Mut.ext X m6 (by omega)
    have HM := hid m6
    clear HCL m6 hkey
    generalize xs.set jj (key, z) = ys at *
    obtain ⟨w6, hw6⟩ : ∃ w6, w2.setCell ⟨g, jj * 2 + 1, none⟩ (.int .i64 z) = w6 := ⟨_, rfl⟩
    rw [hw6] at oY s6 r0 X
    clear HM
    have hsz := HSZ.out
    rw [HY.out] at hsz
    have C := hid (implValidTable_c oY.rd hsz)
    clear hsz
    cases hvt : vt ys
    · have HPE : Hid (pe xs key z = (xs, false)) := pe_no (by rw [HY.out]; exact hvt)
      rw [hvt] at C
      clear oY hvt HY
      go_wp2_with fail
      clear hw6 c2 f2 ix0 ix1 ix2
      refine C.out.mono ?_
      clear C
      rintro e V1 ⟨_, rfl, rfl, z1⟩
      have t1 := z1.size
      replace r0 := r0.ext z1
      replace X := ext_trans X z1
      clear z1
      have C := hid (copyTable_c r0 (by omega) HWT.out)
      clear r0
      go_wp2_with fail
      refine C.out.mono ?_
      clear C
      rintro e V2 ⟨u9, rfl, o9, z2⟩
      have t2 := z2.size
      replace X := ext_trans X z2
      clear z2
      go_wp2
      go_ret2
      refine gives_of _ ⟨u9, ?_, ?_⟩ X
      · rw [HPE.out]; rfl
      · rw [HPE.out]; exact o9.mono (by omega) (Nat.le_refl _)
    · have h9 : pe xs key z = (peY xs key z, true) := pe_yes (by rw [HY.out]; exact hvt)
      rw [HY.out] at h9
      have HPE := hid h9
      clear h9
      rw [hvt] at C
      have HO := hid (fun (V : World) (zz : Below _ _ V) => oY.ext zz)
      have HYL := hid oY.1
      clear hvt HY oY
      go_wp2_with fail
      clear hw6 c2 f2 ix0 ix1 ix2
      refine C.out.mono ?_
      clear C
      rintro e V1 ⟨_, rfl, rfl, z1⟩
      have t1 := z1.size
      have o9 := HO.out V1 z1
      replace X := ext_trans X z1
      clear z1 HO r0
      go_wp2
      go_ret2
      refine gives_of _ ⟨(.slice (some ⟨g, 0, none⟩) n cp), ?_, ?_⟩ X
      · rw [HPE.out]; rfl
      · rw [HPE.out]; simp only; rw [HYL.out]; exact o9.mono (by omega) (by omega)
end Go.Proofs.Ytcagbdidjakcpaa
