/- Match by the program. Condition: the values read as strings of a size that fits; they are not too many. -/
import Derived.Test.YtoehjfcadhgpbaaDoorMt
import Derived.Lib.SliceRun
set_option linter.unusedVariables false
namespace Go.Proofs.YtoehjfcadhgpbaaDoor
open Go.RowKit
theorem cloneBinding_c {w : World} {lo hi n : Nat} {v : Value} {xs : List ByteArray} (h : Rd w lo hi 2 v n (xs.map sv)) (hn : n ≤ 1099511627776) :
    Calls Tryd.prog 64 #[v] w (Gives w fun r w' => Own w' w.heap.size w'.heap.size 74 2 r n (xs.map sv)) := by
  obtain ⟨i0, hi0, hz0, hz1, hz2⟩ := info_parts info_binding
  obtain ⟨a, cap, rfl, hm⟩ := h.form
  have k1 := Lib.run_eql_slice_nil (P := Tryd.prog) w 37 74 a n cap 0 0 Tryd.underlying37
  cases a with
  | none =>
    have hn0 : n = 0 := by
      obtain ⟨_, a, c', he, _, _, hat⟩ := h
      rcases Nat.eq_zero_or_pos n with h0 | h0
      · exact h0
      · obtain ⟨b, off, ha, _⟩ := hat h0
        rw [ha] at he; cases he
    subst hn0
    have hx : xs = [] := by have := h.1; simpa using this
    subst hx
    clear h
    go_enter Tryd.func64, Tryd.ntmps64
    go_wp2
    go_ret
    exact gives_of (.slice none 0 0) (Own.none_ _ _ _ _ _ _) (ext_refl _)
  | some ad =>
    have h' := h.ext (ext_alloc (ext_refl w) (.cells #[] 74))
    have o0 := Own.new w #[] 74 2 0 (by decide) rfl
    clear h
    go_enter Tryd.func64, Tryd.ntmps64
    go_wp2_with (at_builtin; refine wpList_append_Own rfl _ _ 37 rfl 74 i0 (.agg #[.string ByteArray.empty, .string ByteArray.empty]) 2 32 Tryd.underlying37 hi0 hz0 hz1 hz2 rfl (by decide) rfl o0 rfl h' (sv_one xs) (by omega) (by omega) (by simp) ?_)
    intro v' w' ho hmu
    have x := Mut.ext (ext_alloc (ext_refl w) (.cells #[] 74)) hmu (Nat.le_refl _)
    clear hmu o0 h' hi0 hz0 hz1 hz2
    go_wp2
    go_ret
    exact gives_of _ (by simpa using ho) x
set_option maxHeartbeats 1000000 in
theorem letterIs_c {w : World} {q : Addr} {a b key : ByteArray} (hc : w.cell? q = some (.string key)) :
    Calls Tryd.prog 66 #[.agg #[.string a, .string b], .pointer (some q)] w (Gives w fun r _ => r = .bool (decide (a = key))) := by
  have x0 := ext_alloc (ext_refl w) (.cells #[.string a, .string b] 74)
  have c1 := cell_ext hc x0
  have hq := World.block_lt_of_cell? w q hc
  obtain ⟨qb, qo, qs⟩ := q
  have hsp : qs = none := by simpa using World.cell?_spot hc
  subst hsp
  by_cases g : a = key
  · have e1 : (a.toList == key.toList) = true := by simp [g]
    have HG := hid (decide_eq_true g)
    clear g
    go_enter Tryd.func66, Tryd.ntmps66
    go_wp2
    go_ret
    exact gives_bool HG.out.symm x0
  · have e1 : (a.toList == key.toList) = false := by simp [str_eq, g]
    have HG := hid (decide_eq_false g)
    clear g
    go_enter Tryd.func66, Tryd.ntmps66
    go_wp2
    go_ret
    exact gives_bool HG.out.symm x0
set_option maxHeartbeats 1000000 in
theorem indexLetter_c {w : World} {lo hi n : Nat} {v : Value} {q : Addr} {ss : List ByteArray} {key : ByteArray} (h : Rd w lo hi 2 v n (ss.map sv)) (hq : w.cell? q = some (.string key)) :
    Calls Tryd.prog 65 #[v, .func (.func 66) #[] #[.pointer (some q)]] w (Gives w fun r _ => ∃ j : Int, r = .int .i64 j ∧ Hid (bi ss key 0 = j) ∧ (j = -1 ∨ 0 ≤ j ∧ j < n)) := by
  obtain ⟨hl, a, cap, rfl, hc, hm, hat⟩ := h
  rw [List.length_map] at hl
  have H1 := hid hl
  have HQ := hid hq
  clear hl hq
  go_enter Tryd.func65, Tryd.ntmps65
  go_wp2
  go_loopw [8] (fun i wr => ∃ k : Nat, k ≤ n ∧ i = .int .i64 k ∧ Hid (bi ss key 0 = bi (ss.drop (k * 2)) key k) ∧ Below w.heap.size w wr) (fun i _ => n - (intOf i).toNat)
  case atStart => exact ⟨0, Nat.zero_le _, rfl, hid (by simp), ext_refl _⟩
  case round =>
    obtain ⟨k, hk, rfl, HP, hb⟩ := hrel
    by_cases hlt : k < n
    · obtain ⟨b, off, rfl, _, _, hbs, hcell⟩ := hat (by omega)
      have hkx : k * 2 + 1 < ss.length := by rw [H1.out]; omega
      obtain ⟨c1, c2⟩ := pair_at (n := n) hcell hkx
      replace c1 := (hb.cell (by exact hbs)).trans c1
      replace c2 := (hb.cell (by exact hbs)).trans c2
      have HS := hid (bi_step (key := key) hkx)
      have cq := cell_ext HQ.out hb
      have i0' : (0 : Int) ≤ (k : Int) := by omega
      have i1 : (k : Int) < (n : Int) := by omega
      clear hcell hat
      generalize ss[k * 2] = s1 at *
      generalize ss[k * 2 + 1] = s2 at *
      have C := letterIs_c (a := s1) (b := s2) cq
      by_cases g : s1 = key
      · have HV := hid (show bi ss key 0 = k by rw [HP.out, HS.out, if_pos g])
        rw [decide_eq_true g] at C
        have HC := hid C
        clear C g HS HP
        go_wp2_with fail
        refine HC.out.mono ?_
        rintro e w2 ⟨_, rfl, rfl, y1⟩
        have x2 := ext_trans hb y1
        clear HC y1 c1 c2 cq
        go_wp2
        go_ret
        exact gives_of _ ⟨_, rfl, HV, Or.inr ⟨by omega, by omega⟩⟩ x2
      · have HV := hid (show bi ss key 0 = bi (ss.drop ((k + 1) * 2)) key ((k + 1 : Nat) : Int) by rw [HP.out, HS.out, if_neg g])
        rw [decide_eq_false g] at C
        have HC := hid C
        clear C g HS HP
        go_wp2_with fail
        refine HC.out.mono ?_
        rintro e w2 ⟨_, rfl, rfl, y1⟩
        have x2 := ext_trans hb y1
        clear HC y1 c1 c2 cq
        go_wp2
        go_roundw
        case rel => exact ⟨k + 1, by omega, by go_num, HV, x2⟩
        case measure => simp [intOf]; omega
    · have HV := hid (show bi ss key 0 = -1 by rw [HP.out, bi_end (by rw [H1.out]; omega)])
      go_wp2
      go_ret
      exact gives_of _ ⟨_, rfl, HV, Or.inl rfl⟩ hb
set_option maxRecDepth 100000 in
set_option maxHeartbeats 4000000 in
theorem implMatch_c {w : World} {lo hi lo' hi' lo'' hi'' m : Nat} {v v' u : Value} {ps ns ls : List ByteArray} (h : RdN w lo hi v ps.length (ps.map sv)) (h' : RdN w lo' hi' v' ns.length (ns.map sv)) (hl : Rd w lo'' hi'' 2 u m (ls.map sv))
    (hs : ∀ s ∈ ps, s.size ≤ 9223372036854775807) (hs' : ∀ s ∈ ns, s.size ≤ 9223372036854775807) (hm : m ≤ 1099511627776) (hpl : ps.length ≤ 1099511627776) :
    Calls Tryd.prog 19 #[v, v', u] w (Gives w fun r w' => MtPost w.heap.size (mR ps ns ls) r w') := by
  obtain ⟨s, rfl, h⟩ := h
  obtain ⟨s', rfl, h'⟩ := h'
  obtain ⟨i0, hi0, hz0, hz1, hz2⟩ := info_parts info_binding
  obtain ⟨W, hW⟩ : ∃ W, W = (w.alloc (.cells #[s] 24)).alloc (.cells #[s'] 30) := ⟨_, rfl⟩
  have x0 : Below w.heap.size w W := by rw [hW]; exact ext_alloc (ext_alloc (ext_refl w) _) _
  have hWs : W.heap.size = w.heap.size + 2 := by rw [hW]; simp
  have cP : W.cell? ⟨w.heap.size, 0, none⟩ = some s := by rw [hW]; simp
  have cN : W.cell? ⟨w.heap.size + 1, 0, none⟩ = some s' := by rw [hW]; simp
  have rP := h.ext x0
  have rN := h'.ext x0
  have rL := hl.ext x0
  obtain ⟨a, cap, rfl, hpn, hpc⟩ := rP.form'
  obtain ⟨a', cap', rfl, hnn, hnc⟩ := rN.form'
  obtain ⟨al, capl, rfl, _⟩ := rL.form
  have H1 := hid hs
  have H2 := hid hs'
  have hWs1 : w.heap.size + 1 < W.heap.size := by omega
  clear h h' hl hs hs' hWs
  have C := hid (cloneBinding_c rL (by omega))
  go_enter Tryd.func19, Tryd.ntmps19
  go_wp2_with fail
  rw [← hW]
  clear hW
  refine C.out.mono ?_
  rintro e w1 ⟨v1, rfl, on1, y1⟩
  have s1 := y1.size
  have rP1 := rP.ext y1
  have rN1 := rN.ext y1
  have cP1 := cell_ext cP y1
  have cN1 := cell_ext cN y1
  have rL2 := rL.ext y1
  have C := hid (implValidPattern_c ⟨_, rfl, rP1⟩ H1.out)
  clear cP cN
  go_wp2_with fail
  refine C.out.mono ?_
  rintro e w2 ⟨_, rfl, rfl, y2⟩
  have z2 := ext_trans y1 y2
  have s2 := y2.size
  have on2 := (on1.ext y2).mono (Nat.le_refl W.heap.size) s2
  have rP2 := rP1.ext y2
  have rN2 := rN1.ext y2
  have cP2 := cell_ext cP1 y2
  have cN2 := cell_ext cN1 y2
  have rL3 := rL2.ext y2
  obtain ⟨a1, c1, rfl, _⟩ := on2.rd.form
  clear C cP1 cN1 rP1 rN1 rL2 on1 y1 y2
  rcases hvp : vpt ps with _ | _
  · have HR := hid (mR_bad (ps := ps) (ns := ns) (l := ls) (by rw [hvp]; rfl))
    clear hvp
    have HX := hid (ext_trans x0 z2)
    clear x0 z2 rP2 rN2 rL3
    go_wp2
    go_ret2
    exact gives_of _ (mtPost_mk HR.out on2 (by omega) (by omega)) HX.out
  have HVP := hid hvp
  clear hvp
  have C := hid (implValidName_c ⟨_, rfl, rN2⟩ H2.out)
  go_wp2_with fail
  refine C.out.mono ?_
  rintro e w3 ⟨_, rfl, rfl, y3⟩
  have z3 := ext_trans z2 y3
  have s3 := y3.size
  have on3 := (on2.ext y3).mono (Nat.le_refl W.heap.size) s3
  have rP3 := rP2.ext y3
  have rN3 := rN2.ext y3
  have cP3 := cell_ext cP2 y3
  have cN3 := cell_ext cN2 y3
  have rL4 := rL3.ext y3
  clear C cP2 cN2 rP2 rN2 rL3 on2 z2 y3
  rcases hvn : vn ns with _ | _
  · have HR := hid (mR_bad (ps := ps) (ns := ns) (l := ls) (by rw [hvn, Bool.and_false]))
    clear hvn
    have HX := hid (ext_trans x0 z3)
    clear x0 z3 rP3 rN3 rL4
    go_wp2
    go_ret2
    exact gives_of _ (mtPost_mk HR.out on3 (by omega) (by omega)) HX.out
  have HB := hid (show (vpt ps && vn ns) = true by rw [HVP.out, hvn]; rfl)
  clear hvn HVP
  have HX := hid x0
  have cP4 : W.cell? ⟨w.heap.size, 0, none⟩ = some (.slice a ps.length cap) := (z3.cell (by simp only; omega)).symm.trans cP3
  have cN4 : W.cell? ⟨w.heap.size + 1, 0, none⟩ = some (.slice a' ns.length cap') := (z3.cell (by simp only; omega)).symm.trans cN3
  have HRP := hid rP
  have HRN := hid rN
  have HRL := hid rL
  clear rP3 rN3 rL4 x0
  go_wp2
  go_loopw [8, 27] (fun u i wr => ∃ (k q : Nat) (o : List ByteArray), k ≤ ps.length ∧ k ≤ ns.length ∧ q ≤ m + k ∧ i = .int .i64 k ∧ Own wr W.heap.size wr.heap.size 74 2 u q (o.map sv) ∧ Hid (mg ps ns ls = mg (ps.drop k) (ns.drop k) o) ∧ Below W.heap.size W wr) (fun _ i _ => ps.length - (intOf i).toNat)
  case atStart => exact ⟨0, m, ls, Nat.zero_le _, Nat.zero_le _, Nat.le_refl _, rfl, on3, hid rfl, z3⟩
  case round =>
    obtain ⟨k, q, o, hk, hkn, hq, rfl, ho, HP, hb⟩ := hrel
    clear on3 z3 cP3 cN3
    have sb := hb.size
    obtain ⟨ao, co, rfl, hql⟩ := ho.rd.form
    by_cases hlt : k < ps.length
    · obtain ⟨_, ap, cp, hv, _, _, hat⟩ := HRP.out.ext hb
      simp only [Value.slice.injEq, true_and] at hv
      obtain ⟨rfl, rfl⟩ := hv
      obtain ⟨b, off, rfl, _, _, hbs, hcell⟩ := hat (by omega)
      have c0 : wr.cell? ⟨b, off + k, none⟩ = some (.string ps[k]) := hcell k _ (by simp [hlt, sv])
      have i0' : (0 : Int) ≤ (k : Int) := by omega
      have i1 : (k : Int) < (ps.length : Int) := by omega
      have HSt := hid (fun e => mg_star (ps := ps) (ns := ns) (out := o) hlt e)
      have HSh := hid (fun e g => mg_short (ps := ps) (ns := ns) (out := o) hlt e g)
      have HYs := hid (fun e g (r : List ByteArray) q => mg_yes (ps := ps) (ns := ns) (out := o) (o := r) hlt e g q)
      have HNo := hid (fun e g q => mg_no (ps := ps) (ns := ns) (out := o) hlt e g q)
      have E2 := st2_eq ps[k]
      have E1 := st1_eq ps[k]
      clear hcell hat
      generalize ps[k] = s at *
      obtain ⟨V, hV⟩ : ∃ V, V = wr.alloc (.cells #[.string s] 9) := ⟨_, rfl⟩
      have yV : Below wr.heap.size wr V := by rw [hV]; exact ext_alloc (ext_refl wr) _
      have cV : V.cell? ⟨wr.heap.size, 0, none⟩ = some (.string s) := by rw [hV]; simp
      have sV : wr.heap.size + 1 = V.heap.size := by rw [hV]; simp
      have hbV := ext_trans hb yV
      have hoV := (ho.ext yV).mono (Nat.le_refl W.heap.size) yV.size
      have cP' := cell_ext cP4 hbV
      have cN' := cell_ext cN4 hbV
      have cNw := cell_ext cN4 hb
      have cNx := cN'
      rw [hV] at cNx
      have hnw : w.heap.size + 1 < wr.heap.size := by omega
      have rLV := HRL.out.ext hbV
      have HXr := hid (ext_trans HX.out hbV)
      have HV0 := hid hV
      have HsV := hid sV
      have hsV : wr.heap.size < V.heap.size := by omega
      clear sV ho
      by_cases g2 : s = st2
      · rw [decide_eq_true g2] at E2
        have HR := hid (mR_some HB.out (HP.out.trans (HSt.out g2)))
        clear g2 E1 HSt HSh HYs HNo hV hb
        go_wp2_with fail
        go_ret2
        rw [← HV0.out]
        exact gives_of _ (mtPost_mk HR.out hoV (by omega) (Nat.le_refl _)) HXr.out
      rw [decide_eq_false g2] at E2
      by_cases hln : ns.length ≤ k
      · have HR := hid (mR_none HB.out (HP.out.trans (HSh.out g2 hln)))
        have n1 : decide ((ns.length : Int) ≤ (k : Int)) = true := decide_eq_true (by omega)
        clear g2 E1 HSt HSh HYs HNo hb
        have C := hid (cloneBinding_c rLV (by omega))
        go_wp2_with fail
        rw [← hV]
        clear hV
        refine C.out.mono ?_
        rintro e w9 ⟨u9, rfl, o9, y9⟩
        have HX9 := hid (ext_trans HXr.out y9)
        have sX := HXr.out.size
        obtain ⟨a9, c9, rfl, _⟩ := o9.rd.form
        clear C y9
        go_wp2
        go_ret2
        exact gives_of _ (mtPost_mk HR.out o9 (by omega) (Nat.le_refl _)) HX9.out
      have hltn : k < ns.length := by omega
      have n1 : decide ((ns.length : Int) ≤ (k : Int)) = false := decide_eq_false (by omega)
      have n2 : decide (ns.length ≤ k) = false := decide_eq_false hln
      have HG2 := hid g2
      have HG3 := hid hltn
      replace HYs := hid (HYs.out g2 hltn)
      replace HNo := hid (HNo.out g2 hltn)
      have j1 : (k : Int) < (ns.length : Int) := by omega
      obtain ⟨_, an, cn, hv, _, _, hat⟩ := HRN.out.ext hb
      simp only [Value.slice.injEq, true_and] at hv
      obtain ⟨rfl, rfl⟩ := hv
      obtain ⟨b', off', rfl, _, _, hbs', hcell'⟩ := hat (by omega)
      have d0 : wr.cell? ⟨b', off' + k, none⟩ = some (.string ns[k]) := hcell' k _ (by rw [List.getElem?_map, List.getElem?_eq_getElem hltn]; rfl)
      have d1 := cell_ext d0 yV
      have dx := d1
      rw [hV] at dx
      clear hb
      clear hcell' hat g2 HSt HSh
      generalize ns[k] = x at *
      have C := hid (indexLetter_c (q := ⟨wr.heap.size, 0, none⟩) hoV.rd cV)
      go_wp2_with fail
      rw [← hV]
      clear hV
      refine C.out.mono ?_
      rintro e w6 ⟨_, rfl, ⟨j, rfl, HJ, hj⟩, y6⟩
      have hb6 := ext_trans hbV y6
      have ho6 := (hoV.ext y6).mono (Nat.le_refl W.heap.size) y6.size
      replace cP' := cell_ext cP' y6
      replace cN' := cell_ext cN' y6
      have c1 := cell_ext cV y6
      have rL6 := rLV.ext y6
      have HX6 := hid (ext_trans HXr.out y6)
      have s6 := y6.size
      clear y6 hoV hbV HXr C rLV cV d0 d1 dx c0 cNw cNx
      by_cases g1 : s = st1
      · rw [decide_eq_true g1] at E1
        have HV := hid (HP.out.trans (HYs.out _ (m1_star g1)))
        clear g1 HYs HNo
        go_wp2
        go_roundw
        case rel => exact ⟨k + 1, q, o, by omega, by omega, by omega, by go_num, ho6, HV, hb6⟩
        case measure => simp [intOf]; omega
      rw [decide_eq_false g1] at E1
      have HG1 := hid g1
      clear g1
      go_wp2_with fail
      refine (isVariable_c s).mono ?_
      rintro e w5 ⟨_, rfl, rfl, y5⟩
      have hb5 := ext_trans hb6 y5
      have ho5 := (ho6.ext y5).mono (Nat.le_refl W.heap.size) y5.size
      replace cP' := cell_ext cP' y5
      replace cN' := cell_ext cN' y5
      replace c1 := cell_ext c1 y5
      have rL5 := rL6.ext y5
      have HX5 := hid (ext_trans HX6.out y5)
      have s5 := y5.size
      clear y5 ho6 hb6 HX6 rL6
      cases hlt' : lt s
      · by_cases g3 : s = x
        · have e3 : (s.toList == x.toList) = true := by simp [g3]
          have e4 : (s.toList != x.toList) = false := by rw [bne, e3]; rfl
          have HV := hid (HP.out.trans (HYs.out _ (m1_lit HG1.out hlt' g3)))
          clear g3 HYs HNo hlt'
          go_wp2
          go_roundw
          case rel => exact ⟨k + 1, q, o, by omega, by omega, by omega, by go_num, ho5, HV, hb5⟩
          case measure => simp [intOf]; omega
        · have e3 : (s.toList == x.toList) = false := by simp [str_eq, g3]
          have e4 : (s.toList != x.toList) = true := by rw [bne, e3]; rfl
          have HR := hid (mR_none HB.out (HP.out.trans (HNo.out (m1_lit_no HG1.out hlt' g3))))
          clear g3 HYs HNo hlt'
          have C := hid (cloneBinding_c rL5 (by omega))
          go_wp2_with fail
          refine C.out.mono ?_
          rintro e w9 ⟨u9, rfl, o9, y9⟩
          have HX9 := hid (ext_trans HX5.out y9)
          have s9 := y9.size
          have sX := HX5.out.size
          obtain ⟨a9, c9, rfl, _⟩ := o9.rd.form
          clear C y9
          go_wp2
          go_ret2
          exact gives_of _ (mtPost_mk HR.out o9 (by omega) (Nat.le_refl _)) HX9.out
      · have HL := hid hlt'
        clear hlt'
        rcases hj with rfl | ⟨hj0, hj1⟩
        · have HV := hid (HP.out.trans (HYs.out _ (m1_new (x := x) HG1.out HL.out HJ.out)))
          clear HYs HNo
          go_wp2_with (at_builtin; refine wpList_append_Own rfl _ _ 37 rfl 74 i0 (.agg #[.string ByteArray.empty, .string ByteArray.empty]) 2 32 Tryd.underlying37 hi0 hz0 hz1 hz2 rfl (by decide) rfl (ho5.ext (ext_alloc (ext_refl _) _)) rfl (Rd.new _ [.string s, .string x] 74 2 1 (by decide) rfl) (two_one s x) (by omega) (by omega) (Nat.le_trans (by omega) (ext_alloc (ext_refl _) _).size) ?_)
          intro v7 w7 ho7 hmu
          have hb7 := Mut.ext (ext_trans hb5 (ext_alloc (ext_refl w5) (.cells #[.string s, .string x] 74))) hmu (Nat.le_refl _)
          rw [map_two] at ho7
          have HO := hid ho7
          have HB7 := hid hb7
          clear ho7 hb7 hmu ho5 c1
          go_wp2
          go_roundw
          case rel => exact ⟨k + 1, q + 1, _, by omega, by omega, by omega, by go_num, HO.out, HV, HB7.out⟩
          case measure => simp [intOf]; omega
        · obtain ⟨jn, rfl⟩ := Int.eq_ofNat_of_zero_le hj0
          have hjq : jn < q := by omega
          have hj2 : ¬ (jn : Int) < 0 := by omega
          have hj3 : decide ((jn : Int) < 0) = false := decide_eq_false hj2
          obtain ⟨hlo, ag, cg, hv, _, _, hat⟩ := ho5.rd
          rw [List.length_map] at hlo
          simp only [Value.slice.injEq, true_and] at hv
          obtain ⟨rfl, rfl⟩ := hv
          obtain ⟨bo, oo, rfl, _, _, hbs6, hcell⟩ := hat (by omega)
          have hjx : jn * 2 + 1 < o.length := by omega
          obtain ⟨p1, p2⟩ := pair_at (n := q) hcell hjx
          have HBV := hid (bval_at HJ.out hjx)
          have HJn := hid (show ¬ bi o s 0 = -1 by rw [HJ.out]; omega)
          clear hcell hat p1 hlo
          generalize o[jn * 2 + 1] = t at *
          by_cases g3 : t = x
          · have e3 : (t.toList == x.toList) = true := by simp [g3]
            have e4 : (t.toList != x.toList) = false := by rw [bne, e3]; rfl
            have HV := hid (HP.out.trans (HYs.out _ (m1_same HG1.out HL.out HJn.out (HBV.out.trans g3))))
            clear g3 HYs HNo HJn
            go_wp2
            go_roundw
            case rel => exact ⟨k + 1, q, o, by omega, by omega, by omega, by go_num, ho5, HV, hb5⟩
            case measure => simp [intOf]; omega
          · have e3 : (t.toList == x.toList) = false := by simp [str_eq, g3]
            have e4 : (t.toList != x.toList) = true := by rw [bne, e3]; rfl
            have HR := hid (mR_none HB.out (HP.out.trans (HNo.out (m1_other HG1.out HL.out HJn.out (fun h => g3 (HBV.out.symm.trans h))))))
            clear g3 HYs HNo HJn
            have C := hid (cloneBinding_c rL5 (by omega))
            go_wp2_with fail
            refine C.out.mono ?_
            rintro e w9 ⟨u9, rfl, o9, y9⟩
            have HX9 := hid (ext_trans HX5.out y9)
            have s9 := y9.size
            have sX := HX5.out.size
            obtain ⟨a9, c9, rfl, _⟩ := o9.rd.form
            clear C y9
            go_wp2
            go_ret2
            exact gives_of _ (mtPost_mk HR.out o9 (by omega) (Nat.le_refl _)) HX9.out
    · have hk2 : decide (k < ps.length) = false := decide_eq_false hlt
      have hk3 : decide ((k : Int) < (ps.length : Int)) = false := decide_eq_false (by omega)
      have cP' := cell_ext cP4 hb
      have cN' := cell_ext cN4 hb
      have HXr := hid (ext_trans HX.out hb)
      by_cases hln : ns.length ≤ ps.length
      · have n1 : decide ((ps.length : Int) < (ns.length : Int)) = false := decide_eq_false (by omega)
        have n2 : decide (ps.length < ns.length) = false := decide_eq_false (by omega)
        have HR := hid (mR_some HB.out (HP.out.trans (mg_end (by omega) (by omega))))
        go_wp2
        go_ret2
        exact gives_of _ (mtPost_mk HR.out ho (by omega) (Nat.le_refl _)) HXr.out
      · have n1 : decide ((ps.length : Int) < (ns.length : Int)) = true := decide_eq_true (by omega)
        have n2 : decide (ps.length < ns.length) = true := decide_eq_true (by omega)
        have HR := hid (mR_none HB.out (HP.out.trans (mg_long (by omega) (by omega))))
        have rLr := HRL.out.ext hb
        clear hln
        have C := hid (cloneBinding_c rLr (by omega))
        go_wp2_with fail
        refine C.out.mono ?_
        rintro e w9 ⟨u9, rfl, o9, y9⟩
        have HX9 := hid (ext_trans HXr.out y9)
        have s9 := y9.size
        have sX := HXr.out.size
        obtain ⟨a9, c9, rfl, _⟩ := o9.rd.form
        clear C y9
        go_wp2
        go_ret2
        exact gives_of _ (mtPost_mk HR.out o9 (by omega) (Nat.le_refl _)) HX9.out
end Go.Proofs.YtoehjfcadhgpbaaDoor
