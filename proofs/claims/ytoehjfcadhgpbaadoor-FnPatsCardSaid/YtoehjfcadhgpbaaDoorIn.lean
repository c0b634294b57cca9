/- Instantiate by the program and the reference. Condition: the values read as strings of a size that fits; they are not too many. -/
import Derived.Test.YtoehjfcadhgpbaaDoorMtP
import Derived.Test.YtoehjfcadhgpbaaDoorAppX
import Derived.Test.YtoehjfcadhgpbaaDoorDn
set_option linter.unusedVariables false
namespace Go.Proofs.YtoehjfcadhgpbaaDoor
open Go.RowKit
/-- A part with its variable replaced. -/
def sb (ls : List ByteArray) (s : ByteArray) : ByteArray := if lt s = true then bval ls s else s
def inN (ps ls : List ByteArray) : List ByteArray := ps.map (sb ls)
def inR (ps ls : List ByteArray) : List ByteArray × Bool := if (vpt ps && vn (inN ps ls)) = true then (inN ps ls, true) else ([], false)
theorem inR_bad {ps ls : List ByteArray} (h : (vpt ps && vn (inN ps ls)) = false) : inR ps ls = ([], false) := by unfold inR; rw [h]; rfl
theorem inR_ok {ps ls : List ByteArray} (h : (vpt ps && vn (inN ps ls)) = true) : inR ps ls = (inN ps ls, true) := by unfold inR; rw [if_pos h]
theorem in_step {ps ls : List ByteArray} {k : Nat} (h : k < ps.length) : inN (ps.take (k + 1)) ls = inN (ps.take k) ls ++ [sb ls ps[k]] := by
  unfold inN; rw [List.take_succ_eq_append_getElem h, List.map_append]; rfl
theorem in_len (ps ls : List ByteArray) (k : Nat) : (inN (ps.take k) ls).length ≤ k := by unfold inN; rw [List.length_map, List.length_take]; omega
theorem bval_size {ls : List ByteArray} (h : ∀ s ∈ ls, s.size ≤ 9223372036854775807) (s : ByteArray) : (bval ls s).size ≤ 9223372036854775807 := by
  unfold bval
  split
  · exact Nat.zero_le _
  · cases e : ls[(bi ls s 0).toNat * 2 + 1]? with
    | none => exact Nat.zero_le _
    | some t => exact h t (List.mem_of_getElem? e)
theorem in_size {ps ls : List ByteArray} (h : ∀ s ∈ ps, s.size ≤ 9223372036854775807) (h' : ∀ s ∈ ls, s.size ≤ 9223372036854775807) : ∀ s ∈ inN ps ls, s.size ≤ 9223372036854775807 := by
  intro s hs
  obtain ⟨t, ht, rfl⟩ := List.mem_map.1 hs
  unfold sb
  split
  · exact bval_size h' t
  · exact h t ht
theorem inR_len (ps ls : List ByteArray) : (inR ps ls).1.length ≤ ps.length := by
  unfold inR
  split
  · unfold inN; simp
  · simp
set_option maxRecDepth 100000 in
set_option maxHeartbeats 4000000 in
theorem specInstantiate_c {w : World} {lo hi lo' hi' m : Nat} {v u : Value} {ps ls : List ByteArray} (h : RdN w lo hi v ps.length (ps.map sv)) (hl : Rd w lo' hi' 2 u m (ls.map sv))
    (hs : ∀ s ∈ ps, s.size ≤ 9223372036854775807) (hs' : ∀ s ∈ ls, s.size ≤ 9223372036854775807) (hm : m ≤ 1099511627776) (hpl : ps.length ≤ 1099511627776) :
    Calls Tryd.prog 25 #[v, u] w (Gives w fun r w' => ApPost w.heap.size (inR ps ls) r w') := by
  obtain ⟨s, rfl, h⟩ := h
  obtain ⟨i0, hi0, hz0, hz1, hz2⟩ := info_parts info_string
  obtain ⟨W, hW⟩ : ∃ W, W = ((w.alloc (.cells #[s] 24)).alloc (.cells #[.slice none 0 0] 30)).alloc (.cells #[.slice none 0 0] 30) := ⟨_, rfl⟩
  have x0 : Below w.heap.size w W := by rw [hW]; exact ext_alloc (ext_alloc (ext_alloc (ext_refl w) _) _) _
  have hWs : W.heap.size = w.heap.size + 3 := by rw [hW]; simp
  have cP0 : W.cell? ⟨w.heap.size, 0, none⟩ = some s := by rw [hW]; exact cell_ext (cell_ext (Cell1.new w s 24).1 (ext_alloc (ext_refl _) _)) (ext_alloc (ext_refl _) _)
  have cR0 : Cell1 W ⟨w.heap.size + 1, 0, none⟩ (.slice none 0 0) := by rw [hW]; exact (show Cell1 _ ⟨(w.alloc (.cells #[s] 24)).heap.size, 0, none⟩ _ from (Cell1.new (w.alloc (.cells #[s] 24)) (.slice none 0 0) 30).ext (ext_alloc (ext_refl _) (.cells #[.slice none 0 0] 30))) |> cast (by simp)
  have cN0 : Cell1 W ⟨w.heap.size + 2, 0, none⟩ (.slice none 0 0) := by rw [hW]; have := Cell1.new ((w.alloc (.cells #[s] 24)).alloc (.cells #[.slice none 0 0] 30)) (.slice none 0 0) 30; simpa using this
  obtain ⟨a, cap, rfl, hpn, hpc⟩ := h.form'
  obtain ⟨al, capl, rfl, _⟩ := hl.form
  have H1 := hid hs
  have H2 := hid hs'
  have HP := hid h
  have HL := hid hl
  have hz3 : w.heap.size + 3 ≤ W.heap.size := by omega
  clear h hl hs hs' hWs
  go_enter Tryd.func25, Tryd.ntmps25
  go_wp2
  rw [← hW]
  clear hW
  go_loopw [7] (fun i wr => ∃ (k : Nat) (v : Value), k ≤ ps.length ∧ i = .int .i64 k ∧ Cell1 wr ⟨w.heap.size + 2, 0, none⟩ v ∧ Cell1 wr ⟨w.heap.size + 1, 0, none⟩ (.slice none 0 0) ∧ wr.cell? ⟨w.heap.size, 0, none⟩ = some (.slice a ps.length cap) ∧ Own wr (w.heap.size + 3) wr.heap.size 9 1 v (inN (ps.take k) ls).length ((inN (ps.take k) ls).map sv) ∧ w.heap.size + 3 ≤ wr.heap.size ∧ Below w.heap.size w wr) (fun i _ => ps.length - (intOf i).toNat)
  case atStart => exact ⟨0, .slice none 0 0, Nat.zero_le _, rfl, cN0, cR0, cP0, Own.none_ _ _ _ _ _ _, hz3, x0⟩
  case round =>
    obtain ⟨k, v, hk, rfl, cN, cR, cP, ho, hsz, hb⟩ := hrel
    clear cN0 cR0 cP0 x0 hz3
    have hil := in_len ps ls k
    obtain ⟨av, cv, rfl, _⟩ := ho.rd.form
    by_cases hlt : k < ps.length
    · obtain ⟨_, ap, cp, hv, _, _, hat⟩ := HP.out.ext hb
      simp only [Value.slice.injEq, true_and] at hv
      obtain ⟨rfl, rfl⟩ := hv
      obtain ⟨b, off, rfl, _, _, hbs, hcell⟩ := hat (by omega)
      have c1 : wr.cell? ⟨b, off + k, none⟩ = some (.string ps[k]) := hcell k _ (by simp [hlt, sv])
      have i0' : (0 : Int) ≤ (k : Int) := by omega
      have i1 : (k : Int) < (ps.length : Int) := by omega
      have HST := hid (in_step (ls := ls) hlt)
      have HSB : Hid (sb ls ps[k] = if lt ps[k] = true then bval ls ps[k] else ps[k]) := rfl
      have rL := HL.out.ext hb
      clear hcell hat
      generalize (inN (ps.take k) ls) = ys at *
      generalize ps[k] = s at *
      go_wp2_with fail
      refine (l5Letter_c s).mono ?_
      rintro e w1 ⟨_, rfl, rfl, y1⟩
      have q1 := y1.size
      replace cN := cN.ext y1
      replace cR := cR.ext y1
      replace cP := cell_ext cP y1
      replace ho := (ho.ext y1).mono (Nat.le_refl (w.heap.size + 3)) y1.size
      replace hb := ext_trans hb y1
      replace rL := rL.ext y1
      clear y1 c1
      cases hls : lt s
      · rw [HSB.out, if_neg (by rw [hls]; decide)] at HST
        clear hls HSB rL
        obtain ⟨cNa, cNb⟩ := id cN
        go_wp2_with (at_builtin; refine wpList_append_Own rfl _ _ 22 rfl 9 i0 (.string ByteArray.empty) 1 16 Tryd.underlying22 hi0 hz0 hz1 hz2 rfl (by decide) rfl (ho.ext (ext_alloc (ext_refl _) _)) rfl (Rd.new _ [.string (s)] 9 1 1 (by decide) rfl) (by simp; rfl) (by omega) (by omega) (Nat.le_trans (by omega) (ext_alloc (ext_refl _) _).size) ?_)
        intro v' w' ho2 hmu
        obtain ⟨a4, c4, rfl, _⟩ := ho2.rd.form
        generalize hY4 : ys.length + 1 = n4 at *
        have HY4 := hid hY4
        clear hY4
        have y4 := ext_alloc (ext_refl w1) (.cells #[.string (s)] 9)
        have s4 := y4.size
        have s5 := hmu.size
        have hu1 := (cN.ext y4).mut hmu (.inl (by simp only; omega))
        have hu2 := (cR.ext y4).mut hmu (.inl (by simp only; omega))
        have hu3 := cell_mut (cell_ext cP y4) hmu (.inl (by simp only; omega))
        have hu4 := Mut.ext (ext_trans hb y4) hmu (by omega)
        have m6 := Mut.setCell w' (lo := w.heap.size + 2) (hi := w.heap.size + 3) (p := ⟨w.heap.size + 2, 0, none⟩) (by simp) (by simp) (.slice a4 n4 c4)
        have F1 := hid (hu1.set (.slice a4 n4 c4))
        have F2 := hid (hu2.mut m6 (.inl (by simp only; omega)))
        have F3 := hid (cell_mut hu3 m6 (.inl (by simp only; omega)))
        have F4 := hid (m6.ext hu4 (by omega))
        have ho3 := (ho2.mut m6 (.inr (by omega))).mono (Nat.le_refl _) m6.size
        have F5 : Hid (Own (w'.setCell ⟨w.heap.size + 2, 0, none⟩ (.slice a4 n4 c4)) (w.heap.size + 3) (w'.setCell ⟨w.heap.size + 2, 0, none⟩ (.slice a4 n4 c4)).heap.size 9 1 (.slice a4 n4 c4) (inN (ps.take (k + 1)) ls).length ((inN (ps.take (k + 1)) ls).map sv)) := by
          rw [HST.out, List.map_append, List.length_append, List.length_singleton, HY4.out]; exact ho3
        obtain ⟨f1a, f1b⟩ := hu1
        have s6 := m6.size
        have F6 := hid (show w.heap.size + 3 ≤ (w'.setCell ⟨w.heap.size + 2, 0, none⟩ (.slice a4 n4 c4)).heap.size by omega)
        clear hu2 hu3 hu4 m6 ho3 ho2 hmu y4 cN cR cP ho hb
        go_wp2
        go_roundw
        case rel => exact ⟨k + 1, (.slice a4 n4 c4), by omega, by go_num, F1.out, F2.out, F3.out, F5.out, F6.out, F4.out⟩
        case measure => simp [intOf]; omega
      · rw [HSB.out, if_pos hls] at HST
        clear hls HSB
        have C := hid (specBindingValue_c (key := s) rL)
        go_wp2_with fail
        refine C.out.mono ?_
        rintro e w2 ⟨_, rfl, rfl, y2⟩
        have q2 := y2.size
        replace cN := cN.ext y2
        replace cR := cR.ext y2
        replace cP := cell_ext cP y2
        replace ho := (ho.ext y2).mono (Nat.le_refl (w.heap.size + 3)) y2.size
        replace hb := ext_trans hb y2
        clear y2 C rL
        generalize bval ls s = t at *
        obtain ⟨cNa, cNb⟩ := id cN
        go_wp2_with (at_builtin; refine wpList_append_Own rfl _ _ 22 rfl 9 i0 (.string ByteArray.empty) 1 16 Tryd.underlying22 hi0 hz0 hz1 hz2 rfl (by decide) rfl (ho.ext (ext_alloc (ext_refl _) _)) rfl (Rd.new _ [.string (t)] 9 1 1 (by decide) rfl) (by simp; rfl) (by omega) (by omega) (Nat.le_trans (by omega) (ext_alloc (ext_refl _) _).size) ?_)
        intro v' w' ho2 hmu
        obtain ⟨a4, c4, rfl, _⟩ := ho2.rd.form
        generalize hY4 : ys.length + 1 = n4 at *
        have HY4 := hid hY4
        clear hY4
        have y4 := ext_alloc (ext_refl w2) (.cells #[.string (t)] 9)
        have s4 := y4.size
        have s5 := hmu.size
        have hu1 := (cN.ext y4).mut hmu (.inl (by simp only; omega))
        have hu2 := (cR.ext y4).mut hmu (.inl (by simp only; omega))
        have hu3 := cell_mut (cell_ext cP y4) hmu (.inl (by simp only; omega))
        have hu4 := Mut.ext (ext_trans hb y4) hmu (by omega)
        have m6 := Mut.setCell w' (lo := w.heap.size + 2) (hi := w.heap.size + 3) (p := ⟨w.heap.size + 2, 0, none⟩) (by simp) (by simp) (.slice a4 n4 c4)
        have F1 := hid (hu1.set (.slice a4 n4 c4))
        have F2 := hid (hu2.mut m6 (.inl (by simp only; omega)))
        have F3 := hid (cell_mut hu3 m6 (.inl (by simp only; omega)))
        have F4 := hid (m6.ext hu4 (by omega))
        have ho3 := (ho2.mut m6 (.inr (by omega))).mono (Nat.le_refl _) m6.size
        have F5 : Hid (Own (w'.setCell ⟨w.heap.size + 2, 0, none⟩ (.slice a4 n4 c4)) (w.heap.size + 3) (w'.setCell ⟨w.heap.size + 2, 0, none⟩ (.slice a4 n4 c4)).heap.size 9 1 (.slice a4 n4 c4) (inN (ps.take (k + 1)) ls).length ((inN (ps.take (k + 1)) ls).map sv)) := by
          rw [HST.out, List.map_append, List.length_append, List.length_singleton, HY4.out]; exact ho3
        obtain ⟨f1a, f1b⟩ := hu1
        have s6 := m6.size
        have F6 := hid (show w.heap.size + 3 ≤ (w'.setCell ⟨w.heap.size + 2, 0, none⟩ (.slice a4 n4 c4)).heap.size by omega)
        clear hu2 hu3 hu4 m6 ho3 ho2 hmu y4 cN cR cP ho hb
        go_wp2
        go_roundw
        case rel => exact ⟨k + 1, (.slice a4 n4 c4), by omega, by go_num, F1.out, F2.out, F3.out, F5.out, F6.out, F4.out⟩
        case measure => simp [intOf]; omega
    · have hk2 : decide (k < ps.length) = false := decide_eq_false hlt
      have hk3 : decide ((k : Int) < (ps.length : Int)) = false := decide_eq_false (by omega)
      have e0 : ps.take k = ps := List.take_of_length_le (by omega)
      have hSZ := in_size H1.out H2.out
      obtain ⟨ys, hY⟩ : ∃ ys, inN ps ls = ys := ⟨_, rfl⟩
      rw [e0, hY] at ho hil cN
      rw [hY] at hSZ
      have HSZ := hid hSZ
      have HY := hid hY
      clear e0 hSZ hY
      have C := hid (specValidPattern_c ⟨_, rfl, HP.out.ext hb⟩ H1.out)
      obtain ⟨cNa, cNb⟩ := id cN
      go_wp2_with fail
      refine C.out.mono ?_
      rintro e w1 ⟨_, rfl, rfl, y1⟩
      have q1 := y1.size
      replace cN := cN.ext y1
      replace cR := cR.ext y1
      replace ho := (ho.ext y1).mono (Nat.le_refl (w.heap.size + 3)) y1.size
      replace hb := ext_trans hb y1
      clear y1 C cNa cNb cP
      obtain ⟨cNa, cNb⟩ := id cN
      obtain ⟨cRa, cRb⟩ := id cR
      rcases hvp : vpt ps with _ | _
      · have HR := hid (inR_bad (ps := ps) (ls := ls) (by rw [hvp]; rfl))
        have m6 := Mut.setCell w1 (lo := w.heap.size) (hi := w.heap.size + 3) (p := ⟨w.heap.size + 1, 0, none⟩) (by simp) (by simp) (.slice none 0 0)
        have F1 := hid (cR.set (.slice none 0 0)).1
        have F4 := hid (m6.ext hb (Nat.le_refl _))
        clear hvp m6 cN cR
        go_wp2
        exact bodyPost_ret (v := .tuple #[.agg #[.slice none 0 0], .bool false]) (by simp [results, Tryd.results25, go_sem, F1.out]) rfl (gives_of _ (apPost_mk HR.out rfl ⟨_, rfl, Own.none_ _ _ _ _ _ _⟩) F4.out)
      have HVP := hid hvp
      clear hvp
      have C := hid (specValidName_c ⟨_, rfl, ho.rd⟩ HSZ.out)
      go_wp2_with fail
      refine C.out.mono ?_
      rintro e w2 ⟨_, rfl, rfl, y1⟩
      have q2 := y1.size
      replace cN := cN.ext y1
      replace cR := cR.ext y1
      replace ho := (ho.ext y1).mono (Nat.le_refl (w.heap.size + 3)) y1.size
      replace hb := ext_trans hb y1
      clear y1 C cNa cNb cRa cRb
      obtain ⟨cNa, cNb⟩ := id cN
      obtain ⟨cRa, cRb⟩ := id cR
      rcases hvn : vn ys with _ | _
      · have HR := hid (inR_bad (ps := ps) (ls := ls) (by rw [HY.out, hvn, Bool.and_false]))
        have m6 := Mut.setCell w2 (lo := w.heap.size) (hi := w.heap.size + 3) (p := ⟨w.heap.size + 1, 0, none⟩) (by simp) (by simp) (.slice none 0 0)
        have F1 := hid (cR.set (.slice none 0 0)).1
        have F4 := hid (m6.ext hb (Nat.le_refl _))
        clear hvn m6 cN cR
        go_wp2
        exact bodyPost_ret (v := .tuple #[.agg #[.slice none 0 0], .bool false]) (by simp [results, Tryd.results25, go_sem, F1.out]) rfl (gives_of _ (apPost_mk HR.out rfl ⟨_, rfl, Own.none_ _ _ _ _ _ _⟩) F4.out)
      · have HR := hid ((inR_ok (ps := ps) (ls := ls) (by rw [HY.out, hvn, HVP.out]; rfl)).trans (by rw [HY.out]))
        have m6 := Mut.setCell w2 (lo := w.heap.size) (hi := w.heap.size + 3) (p := ⟨w.heap.size + 1, 0, none⟩) (by simp) (by simp) (.slice av ys.length cv)
        have F1 := hid (cR.set (.slice av ys.length cv)).1
        have F4 := hid (m6.ext hb (Nat.le_refl _))
        have F5 := hid ((ho.mut m6 (.inr (Nat.le_refl _))).mono (show w.heap.size ≤ w.heap.size + 3 by omega) m6.size)
        clear hvn m6 cN cR ho
        go_wp2
        exact bodyPost_ret (v := .tuple #[.agg #[.slice av ys.length cv], .bool true]) (by simp [results, Tryd.results25, go_sem, F1.out]) rfl (gives_of _ (apPost_mk HR.out rfl ⟨_, rfl, F5.out⟩) F4.out)
set_option maxRecDepth 100000 in
set_option maxHeartbeats 4000000 in
theorem implInstantiate_c {w : World} {lo hi lo' hi' m : Nat} {v u : Value} {ps ls : List ByteArray} (h : RdN w lo hi v ps.length (ps.map sv)) (hl : Rd w lo' hi' 2 u m (ls.map sv))
    (hs : ∀ s ∈ ps, s.size ≤ 9223372036854775807) (hs' : ∀ s ∈ ls, s.size ≤ 9223372036854775807) (hm : m ≤ 1099511627776) (hpl : ps.length ≤ 1099511627776) :
    Calls Tryd.prog 24 #[v, u] w (Gives w fun r w' => ApPost w.heap.size (inR ps ls) r w') := by
  obtain ⟨s, rfl, h⟩ := h
  obtain ⟨i0, hi0, hz0, hz1, hz2⟩ := info_parts info_string
  obtain ⟨W, hW⟩ : ∃ W, W = ((w.alloc (.cells #[s] 24)).alloc (.cells #[.slice none 0 0] 30)).alloc (.cells #[.slice none 0 0] 30) := ⟨_, rfl⟩
  have x0 : Below w.heap.size w W := by rw [hW]; exact ext_alloc (ext_alloc (ext_alloc (ext_refl w) _) _) _
  have hWs : W.heap.size = w.heap.size + 3 := by rw [hW]; simp
  have cP0 : W.cell? ⟨w.heap.size, 0, none⟩ = some s := by rw [hW]; exact cell_ext (cell_ext (Cell1.new w s 24).1 (ext_alloc (ext_refl _) _)) (ext_alloc (ext_refl _) _)
  have cR0 : Cell1 W ⟨w.heap.size + 1, 0, none⟩ (.slice none 0 0) := by rw [hW]; exact (show Cell1 _ ⟨(w.alloc (.cells #[s] 24)).heap.size, 0, none⟩ _ from (Cell1.new (w.alloc (.cells #[s] 24)) (.slice none 0 0) 30).ext (ext_alloc (ext_refl _) (.cells #[.slice none 0 0] 30))) |> cast (by simp)
  have cN0 : Cell1 W ⟨w.heap.size + 2, 0, none⟩ (.slice none 0 0) := by rw [hW]; have := Cell1.new ((w.alloc (.cells #[s] 24)).alloc (.cells #[.slice none 0 0] 30)) (.slice none 0 0) 30; simpa using this
  obtain ⟨a, cap, rfl, hpn, hpc⟩ := h.form'
  obtain ⟨al, capl, rfl, _⟩ := hl.form
  have H1 := hid hs
  have H2 := hid hs'
  have HP := hid h
  have HL := hid hl
  have hz3 : w.heap.size + 3 ≤ W.heap.size := by omega
  clear h hl hs hs' hWs
  go_enter Tryd.func24, Tryd.ntmps24
  go_wp2
  rw [← hW]
  clear hW
  go_loopw [13] (fun i wr => ∃ (k : Nat) (v : Value), k ≤ ps.length ∧ i = .int .i64 k ∧ Cell1 wr ⟨w.heap.size + 2, 0, none⟩ v ∧ Cell1 wr ⟨w.heap.size + 1, 0, none⟩ (.slice none 0 0) ∧ wr.cell? ⟨w.heap.size, 0, none⟩ = some (.slice a ps.length cap) ∧ Own wr (w.heap.size + 3) wr.heap.size 9 1 v (inN (ps.take k) ls).length ((inN (ps.take k) ls).map sv) ∧ w.heap.size + 3 ≤ wr.heap.size ∧ Below w.heap.size w wr) (fun i _ => ps.length - (intOf i).toNat)
  case atStart => exact ⟨0, .slice none 0 0, Nat.zero_le _, rfl, cN0, cR0, cP0, Own.none_ _ _ _ _ _ _, hz3, x0⟩
  case round =>
    obtain ⟨k, v, hk, rfl, cN, cR, cP, ho, hsz, hb⟩ := hrel
    clear cN0 cR0 cP0 x0 hz3
    have hil := in_len ps ls k
    obtain ⟨av, cv, rfl, _⟩ := ho.rd.form
    by_cases hlt : k < ps.length
    · obtain ⟨_, ap, cp, hv, _, _, hat⟩ := HP.out.ext hb
      simp only [Value.slice.injEq, true_and] at hv
      obtain ⟨rfl, rfl⟩ := hv
      obtain ⟨b, off, rfl, _, _, hbs, hcell⟩ := hat (by omega)
      have c1 : wr.cell? ⟨b, off + k, none⟩ = some (.string ps[k]) := hcell k _ (by simp [hlt, sv])
      have i0' : (0 : Int) ≤ (k : Int) := by omega
      have i1 : (k : Int) < (ps.length : Int) := by omega
      have HST := hid (in_step (ls := ls) hlt)
      have HSB : Hid (sb ls ps[k] = if lt ps[k] = true then bval ls ps[k] else ps[k]) := rfl
      have rL := HL.out.ext hb
      clear hcell hat
      generalize (inN (ps.take k) ls) = ys at *
      generalize ps[k] = s at *
      go_wp2_with fail
      refine (isVariable_c s).mono ?_
      rintro e w1 ⟨_, rfl, rfl, y1⟩
      have q1 := y1.size
      replace cN := cN.ext y1
      replace cR := cR.ext y1
      replace cP := cell_ext cP y1
      replace ho := (ho.ext y1).mono (Nat.le_refl (w.heap.size + 3)) y1.size
      replace hb := ext_trans hb y1
      replace rL := rL.ext y1
      clear y1 c1
      cases hls : lt s
      · rw [HSB.out, if_neg (by rw [hls]; decide)] at HST
        clear hls HSB rL
        obtain ⟨cNa, cNb⟩ := id cN
        go_wp2_with (at_builtin; refine wpList_append_Own rfl _ _ 22 rfl 9 i0 (.string ByteArray.empty) 1 16 Tryd.underlying22 hi0 hz0 hz1 hz2 rfl (by decide) rfl (ho.ext (ext_alloc (ext_refl _) _)) rfl (Rd.new _ [.string (s)] 9 1 1 (by decide) rfl) (by simp; rfl) (by omega) (by omega) (Nat.le_trans (by omega) (ext_alloc (ext_refl _) _).size) ?_)
        intro v' w' ho2 hmu
        obtain ⟨a4, c4, rfl, _⟩ := ho2.rd.form
        generalize hY4 : ys.length + 1 = n4 at *
        have HY4 := hid hY4
        clear hY4
        have y4 := ext_alloc (ext_refl w1) (.cells #[.string (s)] 9)
        have s4 := y4.size
        have s5 := hmu.size
        have hu1 := (cN.ext y4).mut hmu (.inl (by simp only; omega))
        have hu2 := (cR.ext y4).mut hmu (.inl (by simp only; omega))
        have hu3 := cell_mut (cell_ext cP y4) hmu (.inl (by simp only; omega))
        have hu4 := Mut.ext (ext_trans hb y4) hmu (by omega)
        have m6 := Mut.setCell w' (lo := w.heap.size + 2) (hi := w.heap.size + 3) (p := ⟨w.heap.size + 2, 0, none⟩) (by simp) (by simp) (.slice a4 n4 c4)
        have F1 := hid (hu1.set (.slice a4 n4 c4))
        have F2 := hid (hu2.mut m6 (.inl (by simp only; omega)))
        have F3 := hid (cell_mut hu3 m6 (.inl (by simp only; omega)))
        have F4 := hid (m6.ext hu4 (by omega))
        have ho3 := (ho2.mut m6 (.inr (by omega))).mono (Nat.le_refl _) m6.size
        have F5 : Hid (Own (w'.setCell ⟨w.heap.size + 2, 0, none⟩ (.slice a4 n4 c4)) (w.heap.size + 3) (w'.setCell ⟨w.heap.size + 2, 0, none⟩ (.slice a4 n4 c4)).heap.size 9 1 (.slice a4 n4 c4) (inN (ps.take (k + 1)) ls).length ((inN (ps.take (k + 1)) ls).map sv)) := by
          rw [HST.out, List.map_append, List.length_append, List.length_singleton, HY4.out]; exact ho3
        obtain ⟨f1a, f1b⟩ := hu1
        have s6 := m6.size
        have F6 := hid (show w.heap.size + 3 ≤ (w'.setCell ⟨w.heap.size + 2, 0, none⟩ (.slice a4 n4 c4)).heap.size by omega)
        clear hu2 hu3 hu4 m6 ho3 ho2 hmu y4 cN cR cP ho hb
        go_wp2
        go_roundw
        case rel => exact ⟨k + 1, (.slice a4 n4 c4), by omega, by go_num, F1.out, F2.out, F3.out, F5.out, F6.out, F4.out⟩
        case measure => simp [intOf]; omega
      · rw [HSB.out, if_pos hls] at HST
        clear hls HSB
        have C := hid (implBindingValue_c (key := s) rL)
        go_wp2_with fail
        refine C.out.mono ?_
        rintro e w2 ⟨_, rfl, rfl, y2⟩
        have q2 := y2.size
        replace cN := cN.ext y2
        replace cR := cR.ext y2
        replace cP := cell_ext cP y2
        replace ho := (ho.ext y2).mono (Nat.le_refl (w.heap.size + 3)) y2.size
        replace hb := ext_trans hb y2
        clear y2 C rL
        generalize bval ls s = t at *
        obtain ⟨cNa, cNb⟩ := id cN
        go_wp2_with (at_builtin; refine wpList_append_Own rfl _ _ 22 rfl 9 i0 (.string ByteArray.empty) 1 16 Tryd.underlying22 hi0 hz0 hz1 hz2 rfl (by decide) rfl (ho.ext (ext_alloc (ext_refl _) _)) rfl (Rd.new _ [.string (t)] 9 1 1 (by decide) rfl) (by simp; rfl) (by omega) (by omega) (Nat.le_trans (by omega) (ext_alloc (ext_refl _) _).size) ?_)
        intro v' w' ho2 hmu
        obtain ⟨a4, c4, rfl, _⟩ := ho2.rd.form
        generalize hY4 : ys.length + 1 = n4 at *
        have HY4 := hid hY4
        clear hY4
        have y4 := ext_alloc (ext_refl w2) (.cells #[.string (t)] 9)
        have s4 := y4.size
        have s5 := hmu.size
        have hu1 := (cN.ext y4).mut hmu (.inl (by simp only; omega))
        have hu2 := (cR.ext y4).mut hmu (.inl (by simp only; omega))
        have hu3 := cell_mut (cell_ext cP y4) hmu (.inl (by simp only; omega))
        have hu4 := Mut.ext (ext_trans hb y4) hmu (by omega)
        have m6 := Mut.setCell w' (lo := w.heap.size + 2) (hi := w.heap.size + 3) (p := ⟨w.heap.size + 2, 0, none⟩) (by simp) (by simp) (.slice a4 n4 c4)
        have F1 := hid (hu1.set (.slice a4 n4 c4))
        have F2 := hid (hu2.mut m6 (.inl (by simp only; omega)))
        have F3 := hid (cell_mut hu3 m6 (.inl (by simp only; omega)))
        have F4 := hid (m6.ext hu4 (by omega))
        have ho3 := (ho2.mut m6 (.inr (by omega))).mono (Nat.le_refl _) m6.size
        have F5 : Hid (Own (w'.setCell ⟨w.heap.size + 2, 0, none⟩ (.slice a4 n4 c4)) (w.heap.size + 3) (w'.setCell ⟨w.heap.size + 2, 0, none⟩ (.slice a4 n4 c4)).heap.size 9 1 (.slice a4 n4 c4) (inN (ps.take (k + 1)) ls).length ((inN (ps.take (k + 1)) ls).map sv)) := by
          rw [HST.out, List.map_append, List.length_append, List.length_singleton, HY4.out]; exact ho3
        obtain ⟨f1a, f1b⟩ := hu1
        have s6 := m6.size
        have F6 := hid (show w.heap.size + 3 ≤ (w'.setCell ⟨w.heap.size + 2, 0, none⟩ (.slice a4 n4 c4)).heap.size by omega)
        clear hu2 hu3 hu4 m6 ho3 ho2 hmu y4 cN cR cP ho hb
        go_wp2
        go_roundw
        case rel => exact ⟨k + 1, (.slice a4 n4 c4), by omega, by go_num, F1.out, F2.out, F3.out, F5.out, F6.out, F4.out⟩
        case measure => simp [intOf]; omega
    · have hk2 : decide (k < ps.length) = false := decide_eq_false hlt
      have hk3 : decide ((k : Int) < (ps.length : Int)) = false := decide_eq_false (by omega)
      have e0 : ps.take k = ps := List.take_of_length_le (by omega)
      have hSZ := in_size H1.out H2.out
      obtain ⟨ys, hY⟩ : ∃ ys, inN ps ls = ys := ⟨_, rfl⟩
      rw [e0, hY] at ho hil cN
      rw [hY] at hSZ
      have HSZ := hid hSZ
      have HY := hid hY
      clear e0 hSZ hY
      have C := hid (implValidPattern_c ⟨_, rfl, HP.out.ext hb⟩ H1.out)
      obtain ⟨cNa, cNb⟩ := id cN
      go_wp2_with fail
      refine C.out.mono ?_
      rintro e w1 ⟨_, rfl, rfl, y1⟩
      have q1 := y1.size
      replace cN := cN.ext y1
      replace cR := cR.ext y1
      replace ho := (ho.ext y1).mono (Nat.le_refl (w.heap.size + 3)) y1.size
      replace hb := ext_trans hb y1
      clear y1 C cNa cNb cP
      obtain ⟨cNa, cNb⟩ := id cN
      obtain ⟨cRa, cRb⟩ := id cR
      rcases hvp : vpt ps with _ | _
      · have HR := hid (inR_bad (ps := ps) (ls := ls) (by rw [hvp]; rfl))
        have m6 := Mut.setCell w1 (lo := w.heap.size) (hi := w.heap.size + 3) (p := ⟨w.heap.size + 1, 0, none⟩) (by simp) (by simp) (.slice none 0 0)
        have F1 := hid (cR.set (.slice none 0 0)).1
        have F4 := hid (m6.ext hb (Nat.le_refl _))
        clear hvp m6 cN cR
        go_wp2
        exact bodyPost_ret (v := .tuple #[.agg #[.slice none 0 0], .bool false]) (by simp [results, Tryd.results24, go_sem, F1.out]) rfl (gives_of _ (apPost_mk HR.out rfl ⟨_, rfl, Own.none_ _ _ _ _ _ _⟩) F4.out)
      have HVP := hid hvp
      clear hvp
      have C := hid (implValidName_c ⟨_, rfl, ho.rd⟩ HSZ.out)
      go_wp2_with fail
      refine C.out.mono ?_
      rintro e w2 ⟨_, rfl, rfl, y1⟩
      have q2 := y1.size
      replace cN := cN.ext y1
      replace cR := cR.ext y1
      replace ho := (ho.ext y1).mono (Nat.le_refl (w.heap.size + 3)) y1.size
      replace hb := ext_trans hb y1
      clear y1 C cNa cNb cRa cRb
      obtain ⟨cNa, cNb⟩ := id cN
      obtain ⟨cRa, cRb⟩ := id cR
      rcases hvn : vn ys with _ | _
      · have HR := hid (inR_bad (ps := ps) (ls := ls) (by rw [HY.out, hvn, Bool.and_false]))
        have m6 := Mut.setCell w2 (lo := w.heap.size) (hi := w.heap.size + 3) (p := ⟨w.heap.size + 1, 0, none⟩) (by simp) (by simp) (.slice none 0 0)
        have F1 := hid (cR.set (.slice none 0 0)).1
        have F4 := hid (m6.ext hb (Nat.le_refl _))
        clear hvn m6 cN cR
        go_wp2
        exact bodyPost_ret (v := .tuple #[.agg #[.slice none 0 0], .bool false]) (by simp [results, Tryd.results24, go_sem, F1.out]) rfl (gives_of _ (apPost_mk HR.out rfl ⟨_, rfl, Own.none_ _ _ _ _ _ _⟩) F4.out)
      · have HR := hid ((inR_ok (ps := ps) (ls := ls) (by rw [HY.out, hvn, HVP.out]; rfl)).trans (by rw [HY.out]))
        have m6 := Mut.setCell w2 (lo := w.heap.size) (hi := w.heap.size + 3) (p := ⟨w.heap.size + 1, 0, none⟩) (by simp) (by simp) (.slice av ys.length cv)
        have F1 := hid (cR.set (.slice av ys.length cv)).1
        have F4 := hid (m6.ext hb (Nat.le_refl _))
        have F5 := hid ((ho.mut m6 (.inr (Nat.le_refl _))).mono (show w.heap.size ≤ w.heap.size + 3 by omega) m6.size)
        clear hvn m6 cN cR ho
        go_wp2
        exact bodyPost_ret (v := .tuple #[.agg #[.slice av ys.length cv], .bool true]) (by simp [results, Tryd.results24, go_sem, F1.out]) rfl (gives_of _ (apPost_mk HR.out rfl ⟨_, rfl, F5.out⟩) F4.out)
end Go.Proofs.YtoehjfcadhgpbaaDoor
