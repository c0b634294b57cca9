/- ParseName and ParsePattern of the reference. Condition: the text is not too long. -/
import Derived.Test.YtoehjfcadhgpbaaDoorPq
import Derived.Test.YtoehjfcadhgpbaaDoorVn
import Derived.Test.YtoehjfcadhgpbaaDoorVpat
set_option linter.unusedVariables false
namespace Go.Proofs.YtoehjfcadhgpbaaDoor
open Go.RowKit
theorem bs_toList (l : List UInt8) : (bs l).toList = l := by rw [bs, ByteArray.toList_mk]
theorem drop1 {w : World} {lo hi n cap b off : Nat} {xs : List Value} (h : Rd w lo hi 1 (.slice (some ⟨b, off, none⟩) n cap) n xs) (hk : 1 ≤ n) : Rd w lo hi 1 (.slice (some ⟨b, off + 1, none⟩) (n - 1) (cap - 1)) (n - 1) (xs.drop 1) := by
  obtain ⟨h1, a', cap', e, h2, h3, h4⟩ := h
  simp only [Value.slice.injEq, true_and] at e
  obtain ⟨rfl, rfl⟩ := e
  refine ⟨by rw [List.length_drop]; omega, _, cap - 1, rfl, by omega, by omega, fun hn => ?_⟩
  obtain ⟨b', off', hb, hl, hh, hbs, hc⟩ := h4 (by omega)
  simp only [Option.some.injEq, Addr.mk.injEq, and_true] at hb
  obtain ⟨rfl, rfl⟩ := hb
  exact ⟨b, off + 1, rfl, hl, hh, hbs, fun j u hu => by rw [Nat.add_assoc]; exact hc _ u (by rwa [List.getElem?_drop] at hu)⟩
theorem Own.block {w : World} {lo hi n : Nat} {e : TypeId} {v : Value} {xs : List Value} (h : Own w lo hi e 1 v n xs) (hn : 0 < n) : ∃ g cap, v = .slice (some ⟨g, 0, none⟩) n cap ∧ n ≤ cap ∧ cap ≤ 9223372036854775807 ∧ g < w.heap.size ∧ w.cell? ⟨g, 0, none⟩ = xs[0]? := by
  obtain ⟨g, cap, rfl, h1, h2, _, _, h5, _, h7, _⟩ := h.at_ hn
  have hl := h.1
  exact ⟨g, cap, rfl, h1, h2, h5, by rw [List.getElem?_eq_getElem (by omega)]; exact h7 0 _ (List.getElem?_eq_getElem (by omega))⟩

set_option maxRecDepth 100000 in
set_option maxHeartbeats 4000000 in
theorem specParseName_c {w : World} {s : ByteArray} (hm : s.size ≤ 1099511627776) :
    Calls Tryd.prog 12 #[.string s] w (Gives w fun r w' => ∃ u, r = .tuple #[u, .bool (pnm vn s).2] ∧ RdN w' w.heap.size w'.heap.size u (pnm vn s).1.length ((pnm vn s).1.map sv)) := by
  by_cases hs : s = bs [47]
  · have HP := hid (pnm_slash (V := vn) hs)
    have e1 : (s.toList == [47]) = true := by rw [hs, bs_toList]; rfl
    clear hs
    go_enter Tryd.func12, Tryd.ntmps12
    go_wp2
    have X : Below w.heap.size w (w.alloc (.cells #[.slice none 0 0] 30)) := ext_alloc (ext_refl w) _
    have M : ∀ u, Mut w.heap.size (w.heap.size + 1) (w.alloc (.cells #[.slice none 0 0] 30)) ((w.alloc (.cells #[.slice none 0 0] 30)).setCell ⟨w.heap.size, 0, none⟩ u) := fun u => Mut.setCell _ (by simp only; omega) (by simp only; omega) _
    first
      | exact bodyPost_ret (v := .tuple #[.agg #[.slice none 0 0], .bool true]) (by simp [results, Tryd.results12, go_sem]) rfl (gives_of _ ⟨.agg #[.slice none 0 0], by rw [HP.out], by rw [HP.out]; exact ⟨_, rfl, Rd.nil _ _ _ _⟩⟩ ((M _).ext X (Nat.le_refl _)))
      | exact bodyPost_ret (v := .tuple #[.agg #[.slice none 0 0], .bool true]) (by simp [results, Tryd.results12, go_sem]) rfl (gives_of _ ⟨.agg #[.slice none 0 0], by rw [HP.out], by rw [HP.out]; exact ⟨_, rfl, Rd.nil _ _ _ _⟩⟩ X)
  have e1 : (s.toList == [47]) = false := by
    rw [beq_eq_false_iff_ne]; intro e; exact hs ((str_eq s (bs [47])).1 (by rw [e, bs_toList]))
  have HWT := wt_ps s
  have HSZ : ∀ x ∈ ps s, x.size ≤ 9223372036854775807 := fun x hx => by have := wt_mem (ps s) x hx; omega
  obtain ⟨W, hW⟩ : ∃ W, W = w.alloc (.cells #[.slice none 0 0] 30) := ⟨_, rfl⟩
  have x0 : Below w.heap.size w W := by rw [hW]; exact ext_alloc (ext_refl w) _
  have hWs : W.heap.size = w.heap.size + 1 := by rw [hW]; simp
  have cB : Cell1 W ⟨w.heap.size, 0, none⟩ (.slice none 0 0) := by rw [hW]; exact Cell1.new w _ _
  have C := hid (l4Split_c (w := W) hm)
  have hbad : Hid (pnm vn s = ([], false)) → True := fun _ => trivial
  by_cases hh : s.data.toList.head? = some 47
  · have hsp := spS_head hh
    have hpp := ps_pos s
    rw [hsp] at C
    cases hv : vn (ps s) with
    | true =>
      have HP := hid (pnm_yes (V := vn) hs hh hv)
      generalize ps s = q at *
      clear hsp hh hs hbad
      go_enter Tryd.func12, Tryd.ntmps12
      go_wp2_with fail
      rw [← hW]
      clear hW
      refine C.out.mono ?_
      clear C
      rintro e w1 ⟨u1, rfl, o1, y1⟩
      have s1 := y1.size
      have x1 := ext_trans x0 y1
      obtain ⟨g, cp, rfl, hcp, hcm, hg, hc0⟩ := o1.block (by simp)
      have rd := drop1 o1.rd (by simp)
      rw [List.length_cons] at rd hcp
      rw [List.map_cons, List.drop_succ_cons, List.drop_zero] at rd
      rw [List.map_cons] at hc0
      have c0 : w1.cell? ⟨g, 0, none⟩ = some (.string (bs [])) := hc0
      clear hc0 o1
      simp only [Nat.add_sub_cancel, Nat.zero_add] at rd
      obtain ⟨lq, hlq⟩ : ∃ l, q.length = l := ⟨_, rfl⟩
      rw [hlq] at rd hcp hpp
      have hcq : ¬ cp = 1 := by omega
      have hl2 : ¬ ((lq : Int) + 1 < 2) := by omega
      have e2 : ((bs []).toList == []) = true := by rw [bs_toList]; rfl
      generalize bs [] = b0 at c0 e2
      have ya := ext_alloc (ext_refl w1) (.cells #[.slice (some ⟨g, 1, none⟩) lq (cp - 1)] 30)
      have sa := ya.size
      have c5 : (w1.alloc (.cells #[.slice (some ⟨g, 1, none⟩) lq (cp - 1)] 30)).cell? ⟨w1.heap.size, 0, none⟩ = some (.slice (some ⟨g, 1, none⟩) lq (cp - 1)) := (Cell1.new w1 _ _).1
      have c6 := cell_ext c0 ya
      have C := hid (specValidName_c (w := w1.alloc (.cells #[.slice (some ⟨g, 1, none⟩) lq (cp - 1)] 30)) (show RdN (w1.alloc (.cells #[.slice (some ⟨g, 1, none⟩) lq (cp - 1)] 30)) W.heap.size w1.heap.size (.agg #[.slice (some ⟨g, 1, none⟩) lq (cp - 1)]) lq (q.map sv) from ⟨_, rfl, rd.ext ya⟩) HSZ)
      rw [hv] at C
      have HRD := hid (rd.ext ya)
      have x2 := ext_trans x1 ya
      obtain ⟨cB3, fB3⟩ := (cB.ext y1).ext ya
      clear rd HSZ ya y1 x1 cB
      go_wp2_with fail
      generalize w1.alloc (.cells #[.slice (some ⟨g, 1, none⟩) lq (cp - 1)] 30) = W2 at *
      refine C.out.mono ?_
      clear C
      rintro e w3 ⟨_, rfl, rfl, y3⟩
      have s3 := y3.size
      have x := ext_trans x2 y3
      have r2 := HRD.out.ext y3
      obtain ⟨cB3, fB3⟩ := Cell1.ext ⟨cB3, fB3⟩ y3
      replace c5 := cell_ext c5 y3
      clear y3 x2 HRD c0 c6
      go_wp2
      have M : ∀ u, Mut w.heap.size (w.heap.size + 1) w3 (w3.setCell ⟨w.heap.size, 0, none⟩ u) := fun u => Mut.setCell _ (by simp only; omega) (by simp only; omega) _
      exact bodyPost_ret (v := .tuple #[.agg #[.slice (some ⟨g, 1, none⟩) lq (cp - 1)], .bool true]) (by simp [results, Tryd.results12, go_sem, cB3]) rfl (gives_of _ ⟨.agg #[.slice (some ⟨g, 1, none⟩) lq (cp - 1)], by rw [HP.out], by rw [HP.out]; exact ⟨_, rfl, by rw [hlq]; exact (r2.mut (M _) (Or.inr (by omega))).mono (by omega) (by have := (M (.slice (some ⟨g, 1, none⟩) lq (cp - 1))).size; omega)⟩⟩ ((M _).ext x (Nat.le_refl _)))
    | false =>
      have HP := hid (pnm_bad (V := vn) hs hv)
      generalize ps s = q at *
      clear hsp hh hs hbad
      go_enter Tryd.func12, Tryd.ntmps12
      go_wp2_with fail
      rw [← hW]
      clear hW
      refine C.out.mono ?_
      clear C
      rintro e w1 ⟨u1, rfl, o1, y1⟩
      have s1 := y1.size
      have x1 := ext_trans x0 y1
      obtain ⟨g, cp, rfl, hcp, hcm, hg, hc0⟩ := o1.block (by simp)
      have rd := drop1 o1.rd (by simp)
      rw [List.length_cons] at rd hcp
      rw [List.map_cons, List.drop_succ_cons, List.drop_zero] at rd
      rw [List.map_cons] at hc0
      have c0 : w1.cell? ⟨g, 0, none⟩ = some (.string (bs [])) := hc0
      clear hc0 o1
      simp only [Nat.add_sub_cancel, Nat.zero_add] at rd
      obtain ⟨lq, hlq⟩ : ∃ l, q.length = l := ⟨_, rfl⟩
      rw [hlq] at rd hcp hpp
      have hcq : ¬ cp = 1 := by omega
      have hl2 : ¬ ((lq : Int) + 1 < 2) := by omega
      have e2 : ((bs []).toList == []) = true := by rw [bs_toList]; rfl
      generalize bs [] = b0 at c0 e2
      have ya := ext_alloc (ext_refl w1) (.cells #[.slice (some ⟨g, 1, none⟩) lq (cp - 1)] 30)
      have sa := ya.size
      have c5 : (w1.alloc (.cells #[.slice (some ⟨g, 1, none⟩) lq (cp - 1)] 30)).cell? ⟨w1.heap.size, 0, none⟩ = some (.slice (some ⟨g, 1, none⟩) lq (cp - 1)) := (Cell1.new w1 _ _).1
      have c6 := cell_ext c0 ya
      have C := hid (specValidName_c (w := w1.alloc (.cells #[.slice (some ⟨g, 1, none⟩) lq (cp - 1)] 30)) (show RdN (w1.alloc (.cells #[.slice (some ⟨g, 1, none⟩) lq (cp - 1)] 30)) W.heap.size w1.heap.size (.agg #[.slice (some ⟨g, 1, none⟩) lq (cp - 1)]) lq (q.map sv) from ⟨_, rfl, rd.ext ya⟩) HSZ)
      rw [hv] at C
      have HRD := hid (rd.ext ya)
      have x2 := ext_trans x1 ya
      obtain ⟨cB3, fB3⟩ := (cB.ext y1).ext ya
      clear rd HSZ ya y1 x1 cB
      go_wp2_with fail
      generalize w1.alloc (.cells #[.slice (some ⟨g, 1, none⟩) lq (cp - 1)] 30) = W2 at *
      refine C.out.mono ?_
      clear C
      rintro e w3 ⟨_, rfl, rfl, y3⟩
      have s3 := y3.size
      have x := ext_trans x2 y3
      have r2 := HRD.out.ext y3
      obtain ⟨cB3, fB3⟩ := Cell1.ext ⟨cB3, fB3⟩ y3
      replace c5 := cell_ext c5 y3
      clear y3 x2 HRD c0 c6
      go_wp2
      have M : ∀ u, Mut w.heap.size (w.heap.size + 1) w3 (w3.setCell ⟨w.heap.size, 0, none⟩ u) := fun u => Mut.setCell _ (by simp only; omega) (by simp only; omega) _
      exact bodyPost_ret (v := .tuple #[.agg #[.slice none 0 0], .bool false]) (by simp [results, Tryd.results12, go_sem, cB3]) rfl (gives_of _ ⟨.agg #[.slice none 0 0], by rw [HP.out], by rw [HP.out]; exact ⟨_, rfl, Rd.nil _ _ _ _⟩⟩ ((M _).ext x (Nat.le_refl _)))
  · have HP := hid (pnm_other (V := vn) hh)
    by_cases hl : (spS s).length = 1
    · skip
      rw [hl] at C
      clear hh hs hbad HSZ HWT
      go_enter Tryd.func12, Tryd.ntmps12
      go_wp2_with fail
      rw [← hW]
      clear hW
      refine C.out.mono ?_
      clear C
      rintro e w1 ⟨u1, rfl, o1, y1⟩
      have s1 := y1.size
      have x1 := ext_trans x0 y1
      obtain ⟨g, cp, rfl, hcp, hcm, hg, hc0⟩ := o1.block (by omega)
      clear o1 hc0
      by_cases hq : cp = 1
      · subst hq
        obtain ⟨cB3, fB3⟩ := (cB.ext y1).ext (ext_alloc (ext_refl w1) (.cells #[.slice (some ⟨g, 0, none⟩) 0 0] 30))
        have x := ext_trans x1 (ext_alloc (ext_refl w1) (.cells #[.slice (some ⟨g, 0, none⟩) 0 0] 30))
        generalize hV : w1.alloc (.cells #[.slice (some ⟨g, 0, none⟩) 0 0] 30) = V at *
        clear x1 y1 cB
        go_wp2
        have M : ∀ u, Mut w.heap.size (w.heap.size + 1) V (V.setCell ⟨w.heap.size, 0, none⟩ u) := fun u => Mut.setCell _ (by simp only; omega) (by simp only; omega) _
        exact bodyPost_ret (v := .tuple #[.agg #[.slice none 0 0], .bool false]) (by simp [results, Tryd.results12, go_sem, cB3]) rfl (gives_of _ ⟨.agg #[.slice none 0 0], by rw [HP.out], by rw [HP.out]; exact ⟨_, rfl, Rd.nil _ _ _ _⟩⟩ ((M _).ext x (Nat.le_refl _)))
      · skip
        obtain ⟨cB3, fB3⟩ := (cB.ext y1).ext (ext_alloc (ext_refl w1) (.cells #[.slice (some ⟨g, 1, none⟩) 0 (cp - 1)] 30))
        have x := ext_trans x1 (ext_alloc (ext_refl w1) (.cells #[.slice (some ⟨g, 1, none⟩) 0 (cp - 1)] 30))
        generalize hV : w1.alloc (.cells #[.slice (some ⟨g, 1, none⟩) 0 (cp - 1)] 30) = V at *
        clear x1 y1 cB
        go_wp2
        have M : ∀ u, Mut w.heap.size (w.heap.size + 1) V (V.setCell ⟨w.heap.size, 0, none⟩ u) := fun u => Mut.setCell _ (by simp only; omega) (by simp only; omega) _
        exact bodyPost_ret (v := .tuple #[.agg #[.slice none 0 0], .bool false]) (by simp [results, Tryd.results12, go_sem, cB3]) rfl (gives_of _ ⟨.agg #[.slice none 0 0], by rw [HP.out], by rw [HP.out]; exact ⟨_, rfl, Rd.nil _ _ _ _⟩⟩ ((M _).ext x (Nat.le_refl _)))
    · have hx : ∃ h t, spS s = h :: t ∧ h.size ≠ 0 := by
        rcases spS_other hh with h | h
        · exact absurd h.1 hl
        · exact h
      obtain ⟨h, t, hsp, hz⟩ := hx
      rw [hsp] at C hl
      rw [List.length_cons] at hl C
      clear hh hs hbad HSZ HWT hsp
      go_enter Tryd.func12, Tryd.ntmps12
      go_wp2_with fail
      rw [← hW]
      clear hW
      refine C.out.mono ?_
      clear C
      rintro e w1 ⟨u1, rfl, o1, y1⟩
      have s1 := y1.size
      have x1 := ext_trans x0 y1
      obtain ⟨g, cp, rfl, hcp, hcm, hg, hc0⟩ := o1.block (by omega)
      have c0 : w1.cell? ⟨g, 0, none⟩ = some (.string h) := hc0
      clear o1 hc0
      generalize t.length = lq at *
      have hcq : ¬ cp = 1 := by omega
      have hl2 : ¬ ((lq : Int) + 1 < 2) := by omega
      have e2 : (h.toList == []) = false := by
        rw [beq_eq_false_iff_ne]; intro e; exact hz (by rw [(str_eq h (bs [])).1 (by rw [e, bs_toList])]; rfl)
      clear hz
      have c6 := cell_ext c0 (ext_alloc (ext_refl w1) (.cells #[.slice (some ⟨g, 1, none⟩) lq (cp - 1)] 30))
      obtain ⟨cB3, fB3⟩ := (cB.ext y1).ext (ext_alloc (ext_refl w1) (.cells #[.slice (some ⟨g, 1, none⟩) lq (cp - 1)] 30))
      have x := ext_trans x1 (ext_alloc (ext_refl w1) (.cells #[.slice (some ⟨g, 1, none⟩) lq (cp - 1)] 30))
      generalize hV : w1.alloc (.cells #[.slice (some ⟨g, 1, none⟩) lq (cp - 1)] 30) = V at *
      clear x1 y1 cB
      go_wp2
      have M : ∀ u, Mut w.heap.size (w.heap.size + 1) V (V.setCell ⟨w.heap.size, 0, none⟩ u) := fun u => Mut.setCell _ (by simp only; omega) (by simp only; omega) _
      exact bodyPost_ret (v := .tuple #[.agg #[.slice none 0 0], .bool false]) (by simp [results, Tryd.results12, go_sem, cB3]) rfl (gives_of _ ⟨.agg #[.slice none 0 0], by rw [HP.out], by rw [HP.out]; exact ⟨_, rfl, Rd.nil _ _ _ _⟩⟩ ((M _).ext x (Nat.le_refl _)))
set_option maxRecDepth 100000 in
set_option maxHeartbeats 4000000 in
theorem specParsePattern_c {w : World} {s : ByteArray} (hm : s.size ≤ 1099511627776) :
    Calls Tryd.prog 7 #[.string s] w (Gives w fun r w' => ∃ u, r = .tuple #[u, .bool (pnm vpt s).2] ∧ RdN w' w.heap.size w'.heap.size u (pnm vpt s).1.length ((pnm vpt s).1.map sv)) := by
  by_cases hs : s = bs [47]
  · have HP := hid (pnm_slash (V := vpt) hs)
    have e1 : (s.toList == [47]) = true := by rw [hs, bs_toList]; rfl
    clear hs
    go_enter Tryd.func7, Tryd.ntmps7
    go_wp2
    have X : Below w.heap.size w (w.alloc (.cells #[.slice none 0 0] 24)) := ext_alloc (ext_refl w) _
    have M : ∀ u, Mut w.heap.size (w.heap.size + 1) (w.alloc (.cells #[.slice none 0 0] 24)) ((w.alloc (.cells #[.slice none 0 0] 24)).setCell ⟨w.heap.size, 0, none⟩ u) := fun u => Mut.setCell _ (by simp only; omega) (by simp only; omega) _
    first
      | exact bodyPost_ret (v := .tuple #[.agg #[.slice none 0 0], .bool true]) (by simp [results, Tryd.results7, go_sem]) rfl (gives_of _ ⟨.agg #[.slice none 0 0], by rw [HP.out], by rw [HP.out]; exact ⟨_, rfl, Rd.nil _ _ _ _⟩⟩ ((M _).ext X (Nat.le_refl _)))
      | exact bodyPost_ret (v := .tuple #[.agg #[.slice none 0 0], .bool true]) (by simp [results, Tryd.results7, go_sem]) rfl (gives_of _ ⟨.agg #[.slice none 0 0], by rw [HP.out], by rw [HP.out]; exact ⟨_, rfl, Rd.nil _ _ _ _⟩⟩ X)
  have e1 : (s.toList == [47]) = false := by
    rw [beq_eq_false_iff_ne]; intro e; exact hs ((str_eq s (bs [47])).1 (by rw [e, bs_toList]))
  have HWT := wt_ps s
  have HSZ : ∀ x ∈ ps s, x.size ≤ 9223372036854775807 := fun x hx => by have := wt_mem (ps s) x hx; omega
  obtain ⟨W, hW⟩ : ∃ W, W = w.alloc (.cells #[.slice none 0 0] 24) := ⟨_, rfl⟩
  have x0 : Below w.heap.size w W := by rw [hW]; exact ext_alloc (ext_refl w) _
  have hWs : W.heap.size = w.heap.size + 1 := by rw [hW]; simp
  have cB : Cell1 W ⟨w.heap.size, 0, none⟩ (.slice none 0 0) := by rw [hW]; exact Cell1.new w _ _
  have C := hid (l4Split_c (w := W) hm)
  have hbad : Hid (pnm vpt s = ([], false)) → True := fun _ => trivial
  by_cases hh : s.data.toList.head? = some 47
  · have hsp := spS_head hh
    have hpp := ps_pos s
    rw [hsp] at C
    cases hv : vpt (ps s) with
    | true =>
      have HP := hid (pnm_yes (V := vpt) hs hh hv)
      generalize ps s = q at *
      clear hsp hh hs hbad
      go_enter Tryd.func7, Tryd.ntmps7
      go_wp2_with fail
      rw [← hW]
      clear hW
      refine C.out.mono ?_
      clear C
      rintro e w1 ⟨u1, rfl, o1, y1⟩
      have s1 := y1.size
      have x1 := ext_trans x0 y1
      obtain ⟨g, cp, rfl, hcp, hcm, hg, hc0⟩ := o1.block (by simp)
      have rd := drop1 o1.rd (by simp)
      rw [List.length_cons] at rd hcp
      rw [List.map_cons, List.drop_succ_cons, List.drop_zero] at rd
      rw [List.map_cons] at hc0
      have c0 : w1.cell? ⟨g, 0, none⟩ = some (.string (bs [])) := hc0
      clear hc0 o1
      simp only [Nat.add_sub_cancel, Nat.zero_add] at rd
      obtain ⟨lq, hlq⟩ : ∃ l, q.length = l := ⟨_, rfl⟩
      rw [hlq] at rd hcp hpp
      have hcq : ¬ cp = 1 := by omega
      have hl2 : ¬ ((lq : Int) + 1 < 2) := by omega
      have e2 : ((bs []).toList == []) = true := by rw [bs_toList]; rfl
      generalize bs [] = b0 at c0 e2
      have ya := ext_alloc (ext_refl w1) (.cells #[.slice (some ⟨g, 1, none⟩) lq (cp - 1)] 24)
      have sa := ya.size
      have c5 : (w1.alloc (.cells #[.slice (some ⟨g, 1, none⟩) lq (cp - 1)] 24)).cell? ⟨w1.heap.size, 0, none⟩ = some (.slice (some ⟨g, 1, none⟩) lq (cp - 1)) := (Cell1.new w1 _ _).1
      have c6 := cell_ext c0 ya
      have C := hid (specValidPattern_c (w := w1.alloc (.cells #[.slice (some ⟨g, 1, none⟩) lq (cp - 1)] 24)) (show RdN (w1.alloc (.cells #[.slice (some ⟨g, 1, none⟩) lq (cp - 1)] 24)) W.heap.size w1.heap.size (.agg #[.slice (some ⟨g, 1, none⟩) lq (cp - 1)]) lq (q.map sv) from ⟨_, rfl, rd.ext ya⟩) HSZ)
      rw [hv] at C
      have HRD := hid (rd.ext ya)
      have x2 := ext_trans x1 ya
      obtain ⟨cB3, fB3⟩ := (cB.ext y1).ext ya
      clear rd HSZ ya y1 x1 cB
      go_wp2_with fail
      generalize w1.alloc (.cells #[.slice (some ⟨g, 1, none⟩) lq (cp - 1)] 24) = W2 at *
      refine C.out.mono ?_
      clear C
      rintro e w3 ⟨_, rfl, rfl, y3⟩
      have s3 := y3.size
      have x := ext_trans x2 y3
      have r2 := HRD.out.ext y3
      obtain ⟨cB3, fB3⟩ := Cell1.ext ⟨cB3, fB3⟩ y3
      replace c5 := cell_ext c5 y3
      clear y3 x2 HRD c0 c6
      go_wp2
      have M : ∀ u, Mut w.heap.size (w.heap.size + 1) w3 (w3.setCell ⟨w.heap.size, 0, none⟩ u) := fun u => Mut.setCell _ (by simp only; omega) (by simp only; omega) _
      exact bodyPost_ret (v := .tuple #[.agg #[.slice (some ⟨g, 1, none⟩) lq (cp - 1)], .bool true]) (by simp [results, Tryd.results7, go_sem, cB3]) rfl (gives_of _ ⟨.agg #[.slice (some ⟨g, 1, none⟩) lq (cp - 1)], by rw [HP.out], by rw [HP.out]; exact ⟨_, rfl, by rw [hlq]; exact (r2.mut (M _) (Or.inr (by omega))).mono (by omega) (by have := (M (.slice (some ⟨g, 1, none⟩) lq (cp - 1))).size; omega)⟩⟩ ((M _).ext x (Nat.le_refl _)))
    | false =>
      have HP := hid (pnm_bad (V := vpt) hs hv)
      generalize ps s = q at *
      clear hsp hh hs hbad
      go_enter Tryd.func7, Tryd.ntmps7
      go_wp2_with fail
      rw [← hW]
      clear hW
      refine C.out.mono ?_
      clear C
      rintro e w1 ⟨u1, rfl, o1, y1⟩
      have s1 := y1.size
      have x1 := ext_trans x0 y1
      obtain ⟨g, cp, rfl, hcp, hcm, hg, hc0⟩ := o1.block (by simp)
      have rd := drop1 o1.rd (by simp)
      rw [List.length_cons] at rd hcp
      rw [List.map_cons, List.drop_succ_cons, List.drop_zero] at rd
      rw [List.map_cons] at hc0
      have c0 : w1.cell? ⟨g, 0, none⟩ = some (.string (bs [])) := hc0
      clear hc0 o1
      simp only [Nat.add_sub_cancel, Nat.zero_add] at rd
      obtain ⟨lq, hlq⟩ : ∃ l, q.length = l := ⟨_, rfl⟩
      rw [hlq] at rd hcp hpp
      have hcq : ¬ cp = 1 := by omega
      have hl2 : ¬ ((lq : Int) + 1 < 2) := by omega
      have e2 : ((bs []).toList == []) = true := by rw [bs_toList]; rfl
      generalize bs [] = b0 at c0 e2
      have ya := ext_alloc (ext_refl w1) (.cells #[.slice (some ⟨g, 1, none⟩) lq (cp - 1)] 24)
      have sa := ya.size
      have c5 : (w1.alloc (.cells #[.slice (some ⟨g, 1, none⟩) lq (cp - 1)] 24)).cell? ⟨w1.heap.size, 0, none⟩ = some (.slice (some ⟨g, 1, none⟩) lq (cp - 1)) := (Cell1.new w1 _ _).1
      have c6 := cell_ext c0 ya
      have C := hid (specValidPattern_c (w := w1.alloc (.cells #[.slice (some ⟨g, 1, none⟩) lq (cp - 1)] 24)) (show RdN (w1.alloc (.cells #[.slice (some ⟨g, 1, none⟩) lq (cp - 1)] 24)) W.heap.size w1.heap.size (.agg #[.slice (some ⟨g, 1, none⟩) lq (cp - 1)]) lq (q.map sv) from ⟨_, rfl, rd.ext ya⟩) HSZ)
      rw [hv] at C
      have HRD := hid (rd.ext ya)
      have x2 := ext_trans x1 ya
      obtain ⟨cB3, fB3⟩ := (cB.ext y1).ext ya
      clear rd HSZ ya y1 x1 cB
      go_wp2_with fail
      generalize w1.alloc (.cells #[.slice (some ⟨g, 1, none⟩) lq (cp - 1)] 24) = W2 at *
      refine C.out.mono ?_
      clear C
      rintro e w3 ⟨_, rfl, rfl, y3⟩
      have s3 := y3.size
      have x := ext_trans x2 y3
      have r2 := HRD.out.ext y3
      obtain ⟨cB3, fB3⟩ := Cell1.ext ⟨cB3, fB3⟩ y3
      replace c5 := cell_ext c5 y3
      clear y3 x2 HRD c0 c6
      go_wp2
      have M : ∀ u, Mut w.heap.size (w.heap.size + 1) w3 (w3.setCell ⟨w.heap.size, 0, none⟩ u) := fun u => Mut.setCell _ (by simp only; omega) (by simp only; omega) _
      exact bodyPost_ret (v := .tuple #[.agg #[.slice none 0 0], .bool false]) (by simp [results, Tryd.results7, go_sem, cB3]) rfl (gives_of _ ⟨.agg #[.slice none 0 0], by rw [HP.out], by rw [HP.out]; exact ⟨_, rfl, Rd.nil _ _ _ _⟩⟩ ((M _).ext x (Nat.le_refl _)))
  · have HP := hid (pnm_other (V := vpt) hh)
    by_cases hl : (spS s).length = 1
    · skip
      rw [hl] at C
      clear hh hs hbad HSZ HWT
      go_enter Tryd.func7, Tryd.ntmps7
      go_wp2_with fail
      rw [← hW]
      clear hW
      refine C.out.mono ?_
      clear C
      rintro e w1 ⟨u1, rfl, o1, y1⟩
      have s1 := y1.size
      have x1 := ext_trans x0 y1
      obtain ⟨g, cp, rfl, hcp, hcm, hg, hc0⟩ := o1.block (by omega)
      clear o1 hc0
      by_cases hq : cp = 1
      · subst hq
        obtain ⟨cB3, fB3⟩ := (cB.ext y1).ext (ext_alloc (ext_refl w1) (.cells #[.slice (some ⟨g, 0, none⟩) 0 0] 24))
        have x := ext_trans x1 (ext_alloc (ext_refl w1) (.cells #[.slice (some ⟨g, 0, none⟩) 0 0] 24))
        generalize hV : w1.alloc (.cells #[.slice (some ⟨g, 0, none⟩) 0 0] 24) = V at *
        clear x1 y1 cB
        go_wp2
        have M : ∀ u, Mut w.heap.size (w.heap.size + 1) V (V.setCell ⟨w.heap.size, 0, none⟩ u) := fun u => Mut.setCell _ (by simp only; omega) (by simp only; omega) _
        exact bodyPost_ret (v := .tuple #[.agg #[.slice none 0 0], .bool false]) (by simp [results, Tryd.results7, go_sem, cB3]) rfl (gives_of _ ⟨.agg #[.slice none 0 0], by rw [HP.out], by rw [HP.out]; exact ⟨_, rfl, Rd.nil _ _ _ _⟩⟩ ((M _).ext x (Nat.le_refl _)))
      · skip
        obtain ⟨cB3, fB3⟩ := (cB.ext y1).ext (ext_alloc (ext_refl w1) (.cells #[.slice (some ⟨g, 1, none⟩) 0 (cp - 1)] 24))
        have x := ext_trans x1 (ext_alloc (ext_refl w1) (.cells #[.slice (some ⟨g, 1, none⟩) 0 (cp - 1)] 24))
        generalize hV : w1.alloc (.cells #[.slice (some ⟨g, 1, none⟩) 0 (cp - 1)] 24) = V at *
        clear x1 y1 cB
        go_wp2
        have M : ∀ u, Mut w.heap.size (w.heap.size + 1) V (V.setCell ⟨w.heap.size, 0, none⟩ u) := fun u => Mut.setCell _ (by simp only; omega) (by simp only; omega) _
        exact bodyPost_ret (v := .tuple #[.agg #[.slice none 0 0], .bool false]) (by simp [results, Tryd.results7, go_sem, cB3]) rfl (gives_of _ ⟨.agg #[.slice none 0 0], by rw [HP.out], by rw [HP.out]; exact ⟨_, rfl, Rd.nil _ _ _ _⟩⟩ ((M _).ext x (Nat.le_refl _)))
    · have hx : ∃ h t, spS s = h :: t ∧ h.size ≠ 0 := by
        rcases spS_other hh with h | h
        · exact absurd h.1 hl
        · exact h
      obtain ⟨h, t, hsp, hz⟩ := hx
      rw [hsp] at C hl
      rw [List.length_cons] at hl C
      clear hh hs hbad HSZ HWT hsp
      go_enter Tryd.func7, Tryd.ntmps7
      go_wp2_with fail
      rw [← hW]
      clear hW
      refine C.out.mono ?_
      clear C
      rintro e w1 ⟨u1, rfl, o1, y1⟩
      have s1 := y1.size
      have x1 := ext_trans x0 y1
      obtain ⟨g, cp, rfl, hcp, hcm, hg, hc0⟩ := o1.block (by omega)
      have c0 : w1.cell? ⟨g, 0, none⟩ = some (.string h) := hc0
      clear o1 hc0
      generalize t.length = lq at *
      have hcq : ¬ cp = 1 := by omega
      have hl2 : ¬ ((lq : Int) + 1 < 2) := by omega
      have e2 : (h.toList == []) = false := by
        rw [beq_eq_false_iff_ne]; intro e; exact hz (by rw [(str_eq h (bs [])).1 (by rw [e, bs_toList])]; rfl)
      clear hz
      have c6 := cell_ext c0 (ext_alloc (ext_refl w1) (.cells #[.slice (some ⟨g, 1, none⟩) lq (cp - 1)] 24))
      obtain ⟨cB3, fB3⟩ := (cB.ext y1).ext (ext_alloc (ext_refl w1) (.cells #[.slice (some ⟨g, 1, none⟩) lq (cp - 1)] 24))
      have x := ext_trans x1 (ext_alloc (ext_refl w1) (.cells #[.slice (some ⟨g, 1, none⟩) lq (cp - 1)] 24))
      generalize hV : w1.alloc (.cells #[.slice (some ⟨g, 1, none⟩) lq (cp - 1)] 24) = V at *
      clear x1 y1 cB
      go_wp2
      have M : ∀ u, Mut w.heap.size (w.heap.size + 1) V (V.setCell ⟨w.heap.size, 0, none⟩ u) := fun u => Mut.setCell _ (by simp only; omega) (by simp only; omega) _
      exact bodyPost_ret (v := .tuple #[.agg #[.slice none 0 0], .bool false]) (by simp [results, Tryd.results7, go_sem, cB3]) rfl (gives_of _ ⟨.agg #[.slice none 0 0], by rw [HP.out], by rw [HP.out]; exact ⟨_, rfl, Rd.nil _ _ _ _⟩⟩ ((M _).ext x (Nat.le_refl _)))
end Go.Proofs.YtoehjfcadhgpbaaDoor
