/- Match by the reference. Condition: the values read as strings of a size that fits; they are not too many. -/
import Derived.Test.YtoehjfcadhgpbaaDoorMtP
import Derived.Test.YtoehjfcadhgpbaaDoorApp
import Derived.BigQuiet
import Derived.OwnWalk
set_option linter.unusedVariables false
namespace Go.Proofs.YtoehjfcadhgpbaaDoor
open Go.RowKit
def MtPost (base : Nat) (R : List ByteArray × Bool) (r : Value) (w' : World) : Prop := ∃ (u : Value) (n : Nat), r = .tuple #[u, .bool R.2] ∧ Own w' base w'.heap.size 74 2 u n (R.1.map sv)
theorem mtPost_mk {base base' n : Nat} {w' : World} {R : List ByteArray × Bool} {o : List ByteArray} {b : Bool} {u : Value} {hi : Nat} (h : R = (o, b)) (ho : Own w' base' hi 74 2 u n (o.map sv)) (hb : base ≤ base') (hh : hi ≤ w'.heap.size) : MtPost base R (.tuple #[u, .bool b]) w' := by
  subst h; exact ⟨u, n, rfl, ho.mono hb hh⟩
theorem st1_eq (s : ByteArray) : (s.toList == [42]) = decide (s = st1) := by
  rw [Bool.eq_iff_iff, beq_iff_eq, decide_eq_true_iff, ← str_eq, show st1.toList = [42] by rw [ByteArray.toList_eq]; rfl]
theorem st2_eq (s : ByteArray) : (s.toList == [42, 42]) = decide (s = st2) := by
  rw [Bool.eq_iff_iff, beq_iff_eq, decide_eq_true_iff, ← str_eq, show st2.toList = [42, 42] by rw [ByteArray.toList_eq]; rfl]
theorem two_one (s x : ByteArray) : ∀ u ∈ [Value.string s, Value.string x], u.oneCell' = true := by
  intro u hu
  simp only [List.mem_cons, List.not_mem_nil, or_false] at hu
  rcases hu with rfl | rfl <;> rfl
theorem map_two (o : List ByteArray) (s x : ByteArray) : o.map sv ++ [Value.string s, Value.string x] = (o ++ [s, x]).map sv := by simp [sv]
set_option maxRecDepth 100000 in
set_option maxHeartbeats 4000000 in
theorem specMatch_c {w : World} {lo hi lo' hi' lo'' hi'' m : Nat} {v v' u : Value} {ps ns ls : List ByteArray} (h : RdN w lo hi v ps.length (ps.map sv)) (h' : RdN w lo' hi' v' ns.length (ns.map sv)) (hl : Rd w lo'' hi'' 2 u m (ls.map sv))
    (hs : ∀ s ∈ ps, s.size ≤ 9223372036854775807) (hs' : ∀ s ∈ ns, s.size ≤ 9223372036854775807) (hm : m ≤ 1099511627776) (hpl : ps.length ≤ 1099511627776) :
    Calls Tryd.prog 20 #[v, v', u] w (Gives w fun r w' => MtPost w.heap.size (mR ps ns ls) r w') := by
  obtain ⟨s, rfl, h⟩ := h
  obtain ⟨s', rfl, h'⟩ := h'
  obtain ⟨i0, hi0, hz0, hz1, hz2⟩ := info_parts info_binding
  obtain ⟨W, hW⟩ : ∃ W, W = (w.alloc (.cells #[s] 24)).alloc (.cells #[s'] 30) := ⟨_, rfl⟩
  have x0 : Below w.heap.size w W := by rw [hW]; exact ext_alloc (ext_alloc (ext_refl w) _) _
  have hWs : W.heap.size = w.heap.size + 2 := by rw [hW]; simp
  have cP : W.cell? ⟨w.heap.size, 0, none⟩ = some s := by rw [hW]; simp
  have cN : W.cell? ⟨w.heap.size + 1, 0, none⟩ = some s' := by rw [hW]; simp
  have rP := h.ext x0
  have rN := h'.ext x0
  have rL := hl.ext x0
  obtain ⟨a, cap, rfl, hpn, hpc⟩ := rP.form'
  obtain ⟨a', cap', rfl, hnn, hnc⟩ := rN.form'
  obtain ⟨al, capl, rfl, _⟩ := rL.form
  have rL1 := rL.ext (ext_alloc (ext_refl W) (.cells #[] 74))
  have o0 := Own.new W #[] 74 2 0 (by decide) rfl
  rw [hWs] at o0
  have H1 := hid hs
  have H2 := hid hs'
  have HWs := hid hWs
  have hWs1 : w.heap.size + 1 < W.heap.size := by omega
  clear h h' hl hs hs' hWs
  go_enter Tryd.func20, Tryd.ntmps20
  go_wp2_with (at_builtin; rw [← hW]; clear hW; refine wpList_append_Own rfl _ _ 37 rfl 74 i0 (.agg #[.string ByteArray.empty, .string ByteArray.empty]) 2 32 Tryd.underlying37 hi0 hz0 hz1 hz2 rfl (by decide) rfl o0 rfl rL1 (sv_one ls) (by omega) (by omega) (by have := HWs.out; simp; omega) ?_)
  intro v1 w1 ho1 hmu
  rw [← HWs.out] at ho1 hmu
  have y1 := Mut.ext (ext_alloc (ext_refl W) (.cells #[] 74)) hmu (Nat.le_refl _)
  have s1 := y1.size
  have on1 : Own w1 W.heap.size w1.heap.size 74 2 v1 m (ls.map sv) := by simpa using ho1
  clear ho1 hmu o0 rL1
  have rP1 := rP.ext y1
  have rN1 := rN.ext y1
  have cP1 := cell_ext cP y1
  have cN1 := cell_ext cN y1
  have rL2 := rL.ext y1
  have C := hid (specValidPattern_c ⟨_, rfl, rP1⟩ H1.out)
  clear cP cN rP rN rL
  go_wp2_with fail
  refine C.out.mono ?_
  rintro e w2 ⟨_, rfl, rfl, y2⟩
  have z2 := ext_trans y1 y2
  have s2 := y2.size
  have on2 := on1.ext y2
  have rP2 := rP1.ext y2
  have rN2 := rN1.ext y2
  have cP2 := cell_ext cP1 y2
  have cN2 := cell_ext cN1 y2
  have rL3 := rL2.ext y2
  obtain ⟨a1, c1, rfl, _⟩ := on2.rd.form
  clear C cP1 cN1 rP1 rN1 rL2 on1 y1 y2
  rcases hvp : vpt ps with _ | _
  · have HR := hid (mR_bad (ps := ps) (ns := ns) (l := ls) (by rw [hvp]; rfl))
    clear hvp
    have HX := hid (ext_trans x0 z2)
    clear x0 z2 rP2 rN2 rL3
    go_wp2
    go_ret2
    exact gives_of _ (mtPost_mk HR.out on2 (by omega) (by omega)) HX.out
  have HVP := hid hvp
  clear hvp
  have C := hid (specValidName_c ⟨_, rfl, rN2⟩ H2.out)
  go_wp2_with fail
  refine C.out.mono ?_
  rintro e w3 ⟨_, rfl, rfl, y3⟩
  have z3 := ext_trans z2 y3
  have s3 := y3.size
  have on3 := on2.ext y3
  have rP3 := rP2.ext y3
  have rN3 := rN2.ext y3
  have cP3 := cell_ext cP2 y3
  have cN3 := cell_ext cN2 y3
  have rL4 := rL3.ext y3
  clear C cP2 cN2 rP2 rN2 rL3 on2 z2 y3
  rcases hvn : vn ns with _ | _
  · have HR := hid (mR_bad (ps := ps) (ns := ns) (l := ls) (by rw [hvn, Bool.and_false]))
    clear hvn
    have HX := hid (ext_trans x0 z3)
    clear x0 z3 rP3 rN3 rL4
    go_wp2
    go_ret2
    exact gives_of _ (mtPost_mk HR.out on3 (by omega) (by omega)) HX.out
  have HB := hid (show (vpt ps && vn ns) = true by rw [HVP.out, hvn]; rfl)
  clear hvn HVP
  have hx3 := ext_trans x0 z3
  have rL5 := rL4.ext (ext_alloc (ext_refl w3) (.cells #[] 74))
  have o0 := Own.new w3 #[] 74 2 0 (by decide) rfl
  go_wp2_with (at_builtin; refine wpList_append_Own rfl _ _ 37 rfl 74 i0 (.agg #[.string ByteArray.empty, .string ByteArray.empty]) 2 32 Tryd.underlying37 hi0 hz0 hz1 hz2 rfl (by decide) rfl o0 rfl rL5 (sv_one ls) (by omega) (by omega) (by simp) ?_)
  intro v4 w4 ho4 hmu
  have y4 := Mut.ext (ext_alloc (ext_refl w3) (.cells #[] 74)) hmu (Nat.le_refl _)
  have o4 : Own w4 w3.heap.size w4.heap.size 74 2 v4 m (ls.map sv) := by simpa using ho4
  clear ho4 hmu o0 rL5 rL4
  have HX := hid hx3
  have HRP := hid rP3
  have HRN := hid rN3
  have HON := hid on3
  clear hx3 rP3 rN3 on3 z3 x0
  go_wp2
  go_loopw [9, 10] (fun u i wr => ∃ (k q : Nat) (o : List ByteArray), k ≤ ps.length ∧ k ≤ ns.length ∧ q ≤ m + k ∧ i = .int .i64 k ∧ Own wr w3.heap.size wr.heap.size 74 2 u q (o.map sv) ∧ Hid (mg ps ns ls = mg (ps.drop k) (ns.drop k) o) ∧ Below w3.heap.size w3 wr) (fun _ i _ => ps.length - (intOf i).toNat)
  case atStart => exact ⟨0, m, ls, Nat.zero_le _, Nat.zero_le _, Nat.le_refl _, rfl, o4, hid rfl, y4⟩
  case round =>
    obtain ⟨k, q, o, hk, hkn, hq, rfl, ho, HP, hb⟩ := hrel
    clear o4 y4
    have cP' := cell_ext cP3 hb
    have cN' := cell_ext cN3 hb
    have onr := HON.out.ext hb
    have sb := hb.size
    have HXr := hid (ext_trans HX.out hb)
    obtain ⟨ao, co, rfl, hql⟩ := ho.rd.form
    by_cases hlt : k < ps.length
    · obtain ⟨_, ap, cp, hv, _, _, hat⟩ := HRP.out.ext hb
      simp only [Value.slice.injEq, true_and] at hv
      obtain ⟨rfl, rfl⟩ := hv
      obtain ⟨b, off, rfl, _, _, hbs, hcell⟩ := hat (by omega)
      have c1 : wr.cell? ⟨b, off + k, none⟩ = some (.string ps[k]) := hcell k _ (by simp [hlt, sv])
      have i0' : (0 : Int) ≤ (k : Int) := by omega
      have i1 : (k : Int) < (ps.length : Int) := by omega
      have HSt := hid (fun e => mg_star (ps := ps) (ns := ns) (out := o) hlt e)
      have HSh := hid (fun e g => mg_short (ps := ps) (ns := ns) (out := o) hlt e g)
      have HYs := hid (fun e g (r : List ByteArray) q => mg_yes (ps := ps) (ns := ns) (out := o) (o := r) hlt e g q)
      have HNo := hid (fun e g q => mg_no (ps := ps) (ns := ns) (out := o) hlt e g q)
      have E2 := st2_eq ps[k]
      have E1 := st1_eq ps[k]
      clear hcell hat
      generalize ps[k] = s at *
      by_cases g2 : s = st2
      · rw [decide_eq_true g2] at E2
        have HR := hid (mR_some HB.out (HP.out.trans (HSt.out g2)))
        clear g2 E1 HSt HSh HYs HNo
        go_wp2
        go_ret2
        exact gives_of _ (mtPost_mk HR.out ho (by omega) (Nat.le_refl _)) HXr.out
      rw [decide_eq_false g2] at E2
      by_cases hln : ns.length ≤ k
      · have HR := hid (mR_none HB.out (HP.out.trans (HSh.out g2 hln)))
        have n1 : decide ((ns.length : Int) ≤ (k : Int)) = true := decide_eq_true (by omega)
        clear g2 E1 HSt HSh HYs HNo
        go_wp2
        go_ret2
        exact gives_of _ (mtPost_mk HR.out onr (by omega) (by omega)) HXr.out
      have hltn : k < ns.length := by omega
      have n1 : decide ((ns.length : Int) ≤ (k : Int)) = false := decide_eq_false (by omega)
      have n2 : decide (ns.length ≤ k) = false := decide_eq_false hln
      have HG2 := hid g2
      have HG3 := hid hltn
      replace HYs := hid (HYs.out g2 hltn)
      replace HNo := hid (HNo.out g2 hltn)
      have j1 : (k : Int) < (ns.length : Int) := by omega
      obtain ⟨_, an, cn, hv, _, _, hat⟩ := HRN.out.ext hb
      simp only [Value.slice.injEq, true_and] at hv
      obtain ⟨rfl, rfl⟩ := hv
      obtain ⟨b', off', rfl, _, _, hbs', hcell'⟩ := hat (by omega)
      have d1 : wr.cell? ⟨b', off' + k, none⟩ = some (.string ns[k]) := hcell' k _ (by rw [List.getElem?_map, List.getElem?_eq_getElem hltn]; rfl)
      clear hcell' hat g2 HSt HSh
      generalize ns[k] = x at *
      by_cases g1 : s = st1
      · rw [decide_eq_true g1] at E1
        have HV := hid (HP.out.trans (HYs.out _ (m1_star g1)))
        clear g1 HYs HNo
        go_wp2
        go_roundw
        case rel => exact ⟨k + 1, q, o, by omega, by omega, by omega, by go_num, ho, HV, hb⟩
        case measure => simp [intOf]; omega
      rw [decide_eq_false g1] at E1
      have HG1 := hid g1
      clear g1
      go_wp2_with fail
      refine (l5Letter_c s).mono ?_
      rintro e w5 ⟨_, rfl, rfl, y5⟩
      have hb5 := ext_trans hb y5
      have ho5 := (ho.ext y5).mono (Nat.le_refl w3.heap.size) (show wr.heap.size ≤ w5.heap.size from y5.size)
      replace onr := onr.ext y5
      replace cP' := cell_ext cP' y5
      replace cN' := cell_ext cN' y5
      replace c1 := cell_ext c1 y5
      replace d1 := cell_ext d1 y5
      have HX5 := hid (ext_trans HXr.out y5)
      have s5 := y5.size
      clear y5 ho hb HXr
      cases hlt' : lt s
      · by_cases g3 : s = x
        · have e3 : (s.toList == x.toList) = true := by simp [g3]
          have e4 : (s.toList != x.toList) = false := by rw [bne, e3]; rfl
          have HV := hid (HP.out.trans (HYs.out _ (m1_lit HG1.out hlt' g3)))
          clear g3 HYs HNo hlt'
          go_wp2
          go_roundw
          case rel => exact ⟨k + 1, q, o, by omega, by omega, by omega, by go_num, ho5, HV, hb5⟩
          case measure => simp [intOf]; omega
        · have e3 : (s.toList == x.toList) = false := by simp [str_eq, g3]
          have e4 : (s.toList != x.toList) = true := by rw [bne, e3]; rfl
          have HR := hid (mR_none HB.out (HP.out.trans (HNo.out (m1_lit_no HG1.out hlt' g3))))
          clear g3 HYs HNo hlt'
          go_wp2
          go_ret2
          exact gives_of _ (mtPost_mk HR.out onr (by omega) (by omega)) HX5.out
      · have HL := hid hlt'
        clear hlt'
        have C := hid (l5Find_c (key := s) ho5.rd)
        go_wp2_with fail
        refine C.out.mono ?_
        rintro e w6 ⟨_, rfl, ⟨j, rfl, HJ, hj⟩, y6⟩
        have hb6 := ext_trans hb5 y6
        have ho6 := (ho5.ext y6).mono (Nat.le_refl w3.heap.size) (show w5.heap.size ≤ w6.heap.size from y6.size)
        replace onr := onr.ext y6
        replace cP' := cell_ext cP' y6
        replace cN' := cell_ext cN' y6
        replace c1 := cell_ext c1 y6
        replace d1 := cell_ext d1 y6
        have HX6 := hid (ext_trans HX5.out y6)
        have s6 := y6.size
        clear y6 ho5 hb5 HX5 C
        rcases hj with rfl | ⟨hj0, hj1⟩
        · have HV := hid (HP.out.trans (HYs.out _ (m1_new (x := x) HG1.out HL.out HJ.out)))
          clear HYs HNo
          go_wp2_with (at_builtin; refine wpList_append_Own rfl _ _ 37 rfl 74 i0 (.agg #[.string ByteArray.empty, .string ByteArray.empty]) 2 32 Tryd.underlying37 hi0 hz0 hz1 hz2 rfl (by decide) rfl (ho6.ext (ext_alloc (ext_refl _) _)) rfl (Rd.new _ [.string s, .string x] 74 2 1 (by decide) rfl) (two_one s x) (by omega) (by omega) (Nat.le_trans (by omega) (ext_alloc (ext_refl _) _).size) ?_)
          intro v7 w7 ho7 hmu
          have hb7 := Mut.ext (ext_trans hb6 (ext_alloc (ext_refl w6) (.cells #[.string s, .string x] 74))) hmu (Nat.le_refl _)
          rw [map_two] at ho7
          have HO := hid ho7
          have HB7 := hid hb7
          clear ho7 hb7 hmu ho6 c1 d1
          go_wp2
          go_roundw
          case rel => exact ⟨k + 1, q + 1, _, by omega, by omega, by omega, by go_num, HO.out, HV, HB7.out⟩
          case measure => simp [intOf]; omega
        · obtain ⟨jn, rfl⟩ := Int.eq_ofNat_of_zero_le hj0
          have hjq : jn < q := by omega
          have hj2 : ¬ (jn : Int) < 0 := by omega
          have hj3 : decide ((jn : Int) < 0) = false := decide_eq_false hj2
          obtain ⟨hlo, ag, cg, hv, _, _, hat⟩ := ho6.rd
          rw [List.length_map] at hlo
          simp only [Value.slice.injEq, true_and] at hv
          obtain ⟨rfl, rfl⟩ := hv
          obtain ⟨bo, oo, rfl, _, _, hbs6, hcell⟩ := hat (by omega)
          have hjx : jn * 2 + 1 < o.length := by omega
          obtain ⟨p1, p2⟩ := pair_at (n := q) hcell hjx
          have HBV := hid (bval_at HJ.out hjx)
          have HJn := hid (show ¬ bi o s 0 = -1 by rw [HJ.out]; omega)
          clear hcell hat p1 hlo
          generalize o[jn * 2 + 1] = t at *
          by_cases g3 : t = x
          · have e3 : (t.toList == x.toList) = true := by simp [g3]
            have e4 : (t.toList != x.toList) = false := by rw [bne, e3]; rfl
            have HV := hid (HP.out.trans (HYs.out _ (m1_same HG1.out HL.out HJn.out (HBV.out.trans g3))))
            clear g3 HYs HNo HJn
            go_wp2
            go_quiet (fail)
            go_wp2
            go_roundw
            case rel => exact ⟨k + 1, q, o, by omega, by omega, by omega, by go_num, (ho6.ext (ext_drewN _ _)).mono (Nat.le_refl _) (Nat.le_refl _), HV, ext_trans hb6 (ext_drewN _ _)⟩
            case measure => simp [intOf]; omega
          · have e3 : (t.toList == x.toList) = false := by simp [str_eq, g3]
            have e4 : (t.toList != x.toList) = true := by rw [bne, e3]; rfl
            have HR := hid (mR_none HB.out (HP.out.trans (HNo.out (m1_other HG1.out HL.out HJn.out (fun h => g3 (HBV.out.symm.trans h))))))
            clear g3 HYs HNo HJn
            go_wp2
            go_quiet (fail)
            go_wp2
            go_ret2
            exact gives_of _ (mtPost_mk HR.out (onr.ext (ext_drewN _ _)) (by omega) (Nat.le_trans (show w1.heap.size ≤ w6.heap.size by omega) (ext_drewN _ _).size)) (ext_trans HX6.out (ext_drewN _ _))
    · have hk2 : decide (k < ps.length) = false := decide_eq_false hlt
      have hk3 : decide ((k : Int) < (ps.length : Int)) = false := decide_eq_false (by omega)
      by_cases hln : ns.length = ps.length
      · have n1 : ((ns.length : Int) == (ps.length : Int)) = true := by rw [beq_iff_eq]; omega
        have n2 : ((ns.length : Int) != (ps.length : Int)) = false := by rw [bne, n1]; rfl
        have HR := hid (mR_some HB.out (HP.out.trans (mg_end (by omega) (by omega))))
        have HLn := hid hln
        clear hln
        go_wp2
        go_ret2
        exact gives_of _ (mtPost_mk HR.out ho (by omega) (Nat.le_refl _)) HXr.out
      · have n1 : ((ns.length : Int) == (ps.length : Int)) = false := by rw [beq_eq_false_iff_ne]; omega
        have n2 : ((ns.length : Int) != (ps.length : Int)) = true := by rw [bne, n1]; rfl
        have HR := hid (mR_none HB.out (HP.out.trans (mg_long (by omega) (by omega))))
        clear hln
        go_wp2
        go_ret2
        exact gives_of _ (mtPost_mk HR.out onr (by omega) (by omega)) HXr.out
end Go.Proofs.YtoehjfcadhgpbaaDoor
