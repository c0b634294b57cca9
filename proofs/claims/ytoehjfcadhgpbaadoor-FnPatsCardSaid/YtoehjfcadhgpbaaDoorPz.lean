/- ParseName and ParsePattern of the program: strings.Split behind the first byte, the test, and the text written again. Conditions: the text is not too long; the variable bytealg.MaxLen holds an int. -/
import Derived.Test.YtoehjfcadhgpbaaDoorPx
import Derived.Test.YtoehjfcadhgpbaaDoorPn
import Derived.Test.YtoehjfcadhgpbaaDoorShelf
set_option linter.unusedVariables false
namespace Go.Proofs.YtoehjfcadhgpbaaDoor
open Go.RowKit
def Mx (w : World) : Prop := ∃ m : Int, w.cell? ⟨0, 0, none⟩ = some (.int .i64 m)
theorem Mx.ext {w w' : World} (h : Mx w) (b : Below w.heap.size w w') : Mx w' := let ⟨m, hm⟩ := h; ⟨m, cell_ext hm b⟩
theorem Mx.mut {w w' : World} {lo hi : Nat} (h : Mx w) (m : Mut lo hi w w') (hd : 0 < lo) : Mx w' := let ⟨z, hm⟩ := h; ⟨z, cell_mut hm m (.inl hd)⟩
theorem Mx.pos {w : World} (h : Mx w) : 0 < w.heap.size := let ⟨_, hm⟩ := h; World.block_lt_of_cell? _ _ hm
def pI (s : ByteArray) : List ByteArray := if s.size = 0 ∨ s = bs [47] then [] else ps s
theorem pI_nil {s : ByteArray} (h : s.size = 0 ∨ s = bs [47]) : pI s = [] := by unfold pI; rw [if_pos h]
theorem pI_ps {s : ByteArray} (h1 : ¬ s.size = 0) (h2 : ¬ s = bs [47]) : pI s = ps s := by unfold pI; rw [if_neg (by rintro (h | h); exact h1 h; exact h2 h)]
theorem wt_pI (s : ByteArray) : wt (pI s) ≤ s.size + 1 := by
  unfold pI
  split
  · simp [wt, wtP]
  · exact wt_ps s
theorem split_ps (s : ByteArray) : Lib.splitB ⟨#[47]⟩ 0 (Lib.countB (s.extract 1 s.size) ⟨#[47]⟩) (s.extract 1 s.size) = ps s := by
  have h := split_spl (s.extract 1 s.size)
  have e : (s.extract 1 s.size).data.toList = s.data.toList.drop 1 := by
    rw [ext_cut, bs_list, List.take_of_length_le (by simp)]
  rw [e] at h
  rw [ps, ← h, List.map_map]
  conv => lhs; rw [← List.map_id (Lib.splitB ⟨#[47]⟩ 0 (Lib.countB (s.extract 1 s.size) ⟨#[47]⟩) (s.extract 1 s.size))]
  exact List.map_congr_left fun x _ => (bs_back x).symm
theorem bs_nil (s : ByteArray) (h : s.size = 0) : s = bs [] := by
  rw [← bs_back s]
  congr 1
  exact List.eq_nil_of_length_eq_zero (by simpa using h)
set_option maxRecDepth 100000 in
theorem partsIn_c {w : World} {s : ByteArray} (hm : s.size ≤ 1048576) (mx : Mx w) :
    Calls Tryd.prog 57 #[.string s] w (Gives w fun r w' => Own w' w.heap.size w'.heap.size 9 1 r (pI s).length ((pI s).map sv)) := by
  by_cases h0 : s.size = 0
  · have HP := hid (pI_nil (.inl h0))
    have e1 : (s.toList == []) = true := by rw [bs_nil s h0, bs_toList]; rfl
    clear mx h0
    go_enter Tryd.func57, Tryd.ntmps57
    go_wp2
    go_ret
    exact gives_of _ (by rw [HP.out]; exact Own.none_ _ _ _ _ _ _) (ext_refl _)
  have e1 : (s.toList == []) = false := by
    rw [beq_eq_false_iff_ne]; intro e; exact h0 (by rw [(str_eq s (bs [])).1 (by rw [e, bs_toList])]; rfl)
  by_cases h1 : s = bs [47]
  · have HP := hid (pI_nil (.inr h1))
    have e2 : (s.toList == [47]) = true := by rw [h1, bs_toList]; rfl
    clear mx h0 h1
    go_enter Tryd.func57, Tryd.ntmps57
    go_wp2
    go_ret
    exact gives_of _ (by rw [HP.out]; exact Own.none_ _ _ _ _ _ _) (ext_refl _)
  have e2 : (s.toList == [47]) = false := by
    rw [beq_eq_false_iff_ne]; intro e; exact h1 ((str_eq s (bs [47])).1 (by rw [e, bs_toList]))
  have HP := hid (pI_ps h0 h1)
  obtain ⟨m, hmx⟩ := mx
  have hxs : (s.extract 1 s.size).size = s.size - 1 := by rw [ByteArray.size_extract]; omega
  have hle := Lib.countB_le ⟨#[47]⟩ (by decide) (s.extract 1 s.size).size (s.extract 1 s.size) (Nat.le_refl _)
  have hlen := Lib.splitB_all ⟨#[47]⟩ (by decide) 0 _ (s.extract 1 s.size) rfl
  have hsp := split_ps s
  have C := hid (Tryd.strings_Split (s.extract 1 s.size) ⟨#[47]⟩ m w (by omega) hmx (by decide))
  rw [hsp] at hlen C
  obtain ⟨k, hk⟩ : ∃ k, Lib.countB (s.extract 1 s.size) ⟨#[47]⟩ = k := ⟨_, rfl⟩
  rw [hk] at hlen C hle
  have hs1 : (1 : Int) ≤ (s.size : Int) := by omega
  have hs2 : 1 ≤ s.size := by omega
  have HO := hid (Own.new w ((ps s).map Value.string).toArray 9 1 (k + 1) (by unfold maxLen; omega) (by simp [hlen]))
  have y := ext_alloc (ext_refl w) (.cells ((ps s).map Value.string).toArray 9)
  clear h0 h1 hmx hsp hk hxs hle
  go_enter Tryd.func57, Tryd.ntmps57
  go_wp2_with fail
  refine C.out.mono ?_
  clear C
  rintro e w1 ⟨rfl, rfl⟩
  have HO2 : Hid (Own (w.alloc (.cells ((ps s).map Value.string).toArray 9)) w.heap.size (w.alloc (.cells ((ps s).map Value.string).toArray 9)).heap.size 9 1 (.slice (some ⟨w.heap.size, 0, none⟩) (k + 1) (k + 1)) (pI s).length ((pI s).map sv)) := by
    have h9 := HO.out.mono (Nat.le_refl _) (show w.heap.size + 1 ≤ (w.alloc (.cells ((ps s).map Value.string).toArray 9)).heap.size by simp)
    rw [HP.out, hlen]
    exact h9
  clear HO
  generalize w.alloc (.cells ((ps s).map Value.string).toArray 9) = w2 at *
  go_wp2
  go_ret
  exact gives_of _ HO2.out y
theorem pn_impl {V : List ByteArray → Bool} (hV : V [] = true) (s : ByteArray) : pnm V s = if V (pI s) = true ∧ fmt (pI s) = s then (pI s, true) else ([], false) := by
  by_cases h0 : s.size = 0
  · rw [pI_nil (.inl h0), if_neg (by rintro ⟨_, h⟩; rw [fmt_nil] at h; rw [← h] at h0; exact absurd h0 (by decide)), pnm_other (by rw [bs_nil s h0, bs_list]; simp)]
  · by_cases h1 : s = bs [47]
    · rw [pI_nil (.inr h1), if_pos ⟨hV, by rw [fmt_nil, h1]⟩, pnm_slash h1]
    · rw [pI_ps h0 h1]
      by_cases hh : s.data.toList.head? = some 47
      · cases hv : V (ps s) with
        | true => rw [if_pos ⟨rfl, fmt_head hh⟩, pnm_yes h1 hh hv]
        | false => rw [if_neg (by rintro ⟨h, _⟩; cases h), pnm_bad h1 hv]
      · rw [pnm_other hh, if_neg (fun h => fmt_other hh h.2)]
theorem pn_size {s : ByteArray} (hm : s.size ≤ 1048576) : ∀ x ∈ pI s, x.size ≤ 9223372036854775807 := fun x hx => by
  have := wt_mem (pI s) x hx
  have := wt_pI s
  omega

set_option maxRecDepth 100000 in
set_option maxHeartbeats 4000000 in
theorem implParseName_c {w : World} {s : ByteArray} (hm : s.size ≤ 1048576) (mx : Mx w) :
    Calls Tryd.prog 13 #[.string s] w (Gives w fun r w' => ∃ u, r = .tuple #[u, .bool (pnm vn s).2] ∧ OwnN w' w.heap.size w'.heap.size u (pnm vn s).1.length ((pnm vn s).1.map sv)) := by
  have HI := pn_impl (V := vn) (by decide) s
  have HSZ := pn_size hm
  have hwt := wt_pI s
  obtain ⟨W, hW⟩ : ∃ W, W = w.alloc (.cells #[.slice none 0 0] 30) := ⟨_, rfl⟩
  have x0 : Below w.heap.size w W := by rw [hW]; exact ext_alloc (ext_refl w) _
  have hWs : W.heap.size = w.heap.size + 1 := by rw [hW]; simp
  have cB : Cell1 W ⟨w.heap.size, 0, none⟩ (.slice none 0 0) := by rw [hW]; exact Cell1.new w _ _
  have C := hid (partsIn_c (w := W) hm (mx.ext x0))
  have HIH := hid HI
  clear mx HI
  go_enter Tryd.func13, Tryd.ntmps13
  go_wp2_with fail
  rw [← hW]
  clear hW
  refine C.out.mono ?_
  clear C
  rintro e w1 ⟨u1, rfl, o1, y1⟩
  have s1 := y1.size
  have x1 := ext_trans x0 y1
  obtain ⟨pa, pc, rfl, hpn⟩ := o1.rd.form
  have ya := ext_alloc (ext_refl w1) (.cells #[.slice pa (pI s).length pc] 30)
  have sa := ya.size
  have c5 : (w1.alloc (.cells #[.slice pa (pI s).length pc] 30)).cell? ⟨w1.heap.size, 0, none⟩ = some (.slice pa (pI s).length pc) := (Cell1.new w1 _ _).1
  have o2 := o1.ext ya
  have x2 := ext_trans x1 ya
  obtain ⟨cB3, fB3⟩ := (cB.ext y1).ext ya
  have C := hid (implValidName_c (w := w1.alloc (.cells #[.slice pa (pI s).length pc] 30)) (show RdN (w1.alloc (.cells #[.slice pa (pI s).length pc] 30)) W.heap.size w1.heap.size (.agg #[.slice pa (pI s).length pc]) (pI s).length ((pI s).map sv) from ⟨_, rfl, o2.rd⟩) HSZ)
  clear ya o1 x1 y1 cB
  go_wp2_with fail
  generalize w1.alloc (.cells #[.slice pa (pI s).length pc] 30) = W2 at *
  cases hv : vn (pI s) with
  | false =>
    have HP : Hid (pnm vn s = ([], false)) := by have h := HIH.out; rw [if_neg (by rintro ⟨h, _⟩; rw [hv] at h; cases h)] at h; exact h
    rw [hv] at C
    clear hv HIH HSZ o2
    refine C.out.mono ?_
    clear C
    rintro e w3 ⟨_, rfl, rfl, y3⟩
    have s3 := y3.size
    have x := ext_trans x2 y3
    obtain ⟨cB3, fB3⟩ := Cell1.ext ⟨cB3, fB3⟩ y3
    clear y3 x2 c5
    go_wp2
    have M : ∀ u, Mut w.heap.size (w.heap.size + 1) w3 (w3.setCell ⟨w.heap.size, 0, none⟩ u) := fun u => Mut.setCell _ (by simp only; omega) (by simp only; omega) _
    exact bodyPost_ret (v := .tuple #[.agg #[.slice none 0 0], .bool false]) (by simp [results, Tryd.results13, go_sem, cB3]) rfl (gives_of _ ⟨.agg #[.slice none 0 0], by rw [HP.out], by rw [HP.out]; exact ⟨_, rfl, Own.none_ _ _ _ _ _ _⟩⟩ ((M _).ext x (Nat.le_refl _)))
  | true =>
    rw [hv] at C
    refine C.out.mono ?_
    clear C
    rintro e w3 ⟨_, rfl, rfl, y3⟩
    have s3 := y3.size
    have x3 := ext_trans x2 y3
    have o3 := o2.ext y3
    obtain ⟨cB3, fB3⟩ := Cell1.ext ⟨cB3, fB3⟩ y3
    replace c5 := cell_ext c5 y3
    clear y3 x2 o2 HSZ
    have C := hid (implFormatName_c (w := w3) (show RdN w3 W.heap.size w1.heap.size (.agg #[.slice pa (pI s).length pc]) (pI s).length ((pI s).map sv) from ⟨_, rfl, o3.rd⟩) (by omega))
    obtain ⟨t, ht⟩ : ∃ t, fmt (pI s) = t := ⟨_, rfl⟩
    rw [ht] at C
    have HIH2 := HIH.out
    rw [ht, hv] at HIH2
    have HH := hid HIH2
    clear HIH HIH2 hv ht
    go_wp2_with fail
    refine C.out.mono ?_
    clear C
    rintro e w4 ⟨_, rfl, rfl, y4⟩
    have s4 := y4.size
    have x := ext_trans x3 y4
    have o4 := o3.ext y4
    obtain ⟨cB3, fB3⟩ := Cell1.ext ⟨cB3, fB3⟩ y4
    replace c5 := cell_ext c5 y4
    clear y4 x3 o3
    by_cases hts : t = s
    · have HP : Hid (pnm vn s = (pI s, true)) := by have h := HH.out; rw [if_pos ⟨by trivial, hts⟩] at h; exact h
      have e1 : (t.toList == s.toList) = true := by rw [hts]; simp
      clear hts HH
      go_wp2
      have M : ∀ u, Mut w.heap.size (w.heap.size + 1) w4 (w4.setCell ⟨w.heap.size, 0, none⟩ u) := fun u => Mut.setCell _ (by simp only; omega) (by simp only; omega) _
      exact bodyPost_ret (v := .tuple #[.agg #[.slice pa (pI s).length pc], .bool true]) (by simp [results, Tryd.results13, go_sem, cB3]) rfl (gives_of _ ⟨.agg #[.slice pa (pI s).length pc], by rw [HP.out], by rw [HP.out]; exact ⟨_, rfl, (o4.mut (M _) (Or.inr (by omega))).mono (by omega) (by have := (M (.slice pa (pI s).length pc)).size; omega)⟩⟩ ((M _).ext x (Nat.le_refl _)))
    · have HP : Hid (pnm vn s = ([], false)) := by have h := HH.out; rw [if_neg (fun h => hts h.2)] at h; exact h
      have e1 : (t.toList == s.toList) = false := by simp [str_eq, hts]
      clear hts HH c5 o4
      go_wp2
      have M : ∀ u, Mut w.heap.size (w.heap.size + 1) w4 (w4.setCell ⟨w.heap.size, 0, none⟩ u) := fun u => Mut.setCell _ (by simp only; omega) (by simp only; omega) _
      exact bodyPost_ret (v := .tuple #[.agg #[.slice none 0 0], .bool false]) (by simp [results, Tryd.results13, go_sem, cB3]) rfl (gives_of _ ⟨.agg #[.slice none 0 0], by rw [HP.out], by rw [HP.out]; exact ⟨_, rfl, Own.none_ _ _ _ _ _ _⟩⟩ ((M _).ext x (Nat.le_refl _)))
set_option maxRecDepth 100000 in
set_option maxHeartbeats 4000000 in
theorem implParsePattern_c {w : World} {s : ByteArray} (hm : s.size ≤ 1048576) (mx : Mx w) :
    Calls Tryd.prog 8 #[.string s] w (Gives w fun r w' => ∃ u, r = .tuple #[u, .bool (pnm vpt s).2] ∧ OwnN w' w.heap.size w'.heap.size u (pnm vpt s).1.length ((pnm vpt s).1.map sv)) := by
  have HI := pn_impl (V := vpt) (by decide) s
  have HSZ := pn_size hm
  have hwt := wt_pI s
  obtain ⟨W, hW⟩ : ∃ W, W = w.alloc (.cells #[.slice none 0 0] 24) := ⟨_, rfl⟩
  have x0 : Below w.heap.size w W := by rw [hW]; exact ext_alloc (ext_refl w) _
  have hWs : W.heap.size = w.heap.size + 1 := by rw [hW]; simp
  have cB : Cell1 W ⟨w.heap.size, 0, none⟩ (.slice none 0 0) := by rw [hW]; exact Cell1.new w _ _
  have C := hid (partsIn_c (w := W) hm (mx.ext x0))
  have HIH := hid HI
  clear mx HI
  go_enter Tryd.func8, Tryd.ntmps8
  go_wp2_with fail
  rw [← hW]
  clear hW
  refine C.out.mono ?_
  clear C
  rintro e w1 ⟨u1, rfl, o1, y1⟩
  have s1 := y1.size
  have x1 := ext_trans x0 y1
  obtain ⟨pa, pc, rfl, hpn⟩ := o1.rd.form
  have ya := ext_alloc (ext_refl w1) (.cells #[.slice pa (pI s).length pc] 24)
  have sa := ya.size
  have c5 : (w1.alloc (.cells #[.slice pa (pI s).length pc] 24)).cell? ⟨w1.heap.size, 0, none⟩ = some (.slice pa (pI s).length pc) := (Cell1.new w1 _ _).1
  have o2 := o1.ext ya
  have x2 := ext_trans x1 ya
  obtain ⟨cB3, fB3⟩ := (cB.ext y1).ext ya
  have C := hid (implValidPattern_c (w := w1.alloc (.cells #[.slice pa (pI s).length pc] 24)) (show RdN (w1.alloc (.cells #[.slice pa (pI s).length pc] 24)) W.heap.size w1.heap.size (.agg #[.slice pa (pI s).length pc]) (pI s).length ((pI s).map sv) from ⟨_, rfl, o2.rd⟩) HSZ)
  clear ya o1 x1 y1 cB
  go_wp2_with fail
  generalize w1.alloc (.cells #[.slice pa (pI s).length pc] 24) = W2 at *
  cases hv : vpt (pI s) with
  | false =>
    have HP : Hid (pnm vpt s = ([], false)) := by have h := HIH.out; rw [if_neg (by rintro ⟨h, _⟩; rw [hv] at h; cases h)] at h; exact h
    rw [hv] at C
    clear hv HIH HSZ o2
    refine C.out.mono ?_
    clear C
    rintro e w3 ⟨_, rfl, rfl, y3⟩
    have s3 := y3.size
    have x := ext_trans x2 y3
    obtain ⟨cB3, fB3⟩ := Cell1.ext ⟨cB3, fB3⟩ y3
    clear y3 x2 c5
    go_wp2
    have M : ∀ u, Mut w.heap.size (w.heap.size + 1) w3 (w3.setCell ⟨w.heap.size, 0, none⟩ u) := fun u => Mut.setCell _ (by simp only; omega) (by simp only; omega) _
    exact bodyPost_ret (v := .tuple #[.agg #[.slice none 0 0], .bool false]) (by simp [results, Tryd.results8, go_sem, cB3]) rfl (gives_of _ ⟨.agg #[.slice none 0 0], by rw [HP.out], by rw [HP.out]; exact ⟨_, rfl, Own.none_ _ _ _ _ _ _⟩⟩ ((M _).ext x (Nat.le_refl _)))
  | true =>
    rw [hv] at C
    refine C.out.mono ?_
    clear C
    rintro e w3 ⟨_, rfl, rfl, y3⟩
    have s3 := y3.size
    have x3 := ext_trans x2 y3
    have o3 := o2.ext y3
    obtain ⟨cB3, fB3⟩ := Cell1.ext ⟨cB3, fB3⟩ y3
    replace c5 := cell_ext c5 y3
    clear y3 x2 o2 HSZ
    have C := hid (implFormatPattern_c (w := w3) (show RdN w3 W.heap.size w1.heap.size (.agg #[.slice pa (pI s).length pc]) (pI s).length ((pI s).map sv) from ⟨_, rfl, o3.rd⟩) (by omega))
    obtain ⟨t, ht⟩ : ∃ t, fmt (pI s) = t := ⟨_, rfl⟩
    rw [ht] at C
    have HIH2 := HIH.out
    rw [ht, hv] at HIH2
    have HH := hid HIH2
    clear HIH HIH2 hv ht
    go_wp2_with fail
    refine C.out.mono ?_
    clear C
    rintro e w4 ⟨_, rfl, rfl, y4⟩
    have s4 := y4.size
    have x := ext_trans x3 y4
    have o4 := o3.ext y4
    obtain ⟨cB3, fB3⟩ := Cell1.ext ⟨cB3, fB3⟩ y4
    replace c5 := cell_ext c5 y4
    clear y4 x3 o3
    by_cases hts : t = s
    · have HP : Hid (pnm vpt s = (pI s, true)) := by have h := HH.out; rw [if_pos ⟨by trivial, hts⟩] at h; exact h
      have e1 : (t.toList == s.toList) = true := by rw [hts]; simp
      clear hts HH
      go_wp2
      have M : ∀ u, Mut w.heap.size (w.heap.size + 1) w4 (w4.setCell ⟨w.heap.size, 0, none⟩ u) := fun u => Mut.setCell _ (by simp only; omega) (by simp only; omega) _
      exact bodyPost_ret (v := .tuple #[.agg #[.slice pa (pI s).length pc], .bool true]) (by simp [results, Tryd.results8, go_sem, cB3]) rfl (gives_of _ ⟨.agg #[.slice pa (pI s).length pc], by rw [HP.out], by rw [HP.out]; exact ⟨_, rfl, (o4.mut (M _) (Or.inr (by omega))).mono (by omega) (by have := (M (.slice pa (pI s).length pc)).size; omega)⟩⟩ ((M _).ext x (Nat.le_refl _)))
    · have HP : Hid (pnm vpt s = ([], false)) := by have h := HH.out; rw [if_neg (fun h => hts h.2)] at h; exact h
      have e1 : (t.toList == s.toList) = false := by simp [str_eq, hts]
      clear hts HH c5 o4
      go_wp2
      have M : ∀ u, Mut w.heap.size (w.heap.size + 1) w4 (w4.setCell ⟨w.heap.size, 0, none⟩ u) := fun u => Mut.setCell _ (by simp only; omega) (by simp only; omega) _
      exact bodyPost_ret (v := .tuple #[.agg #[.slice none 0 0], .bool false]) (by simp [results, Tryd.results8, go_sem, cB3]) rfl (gives_of _ ⟨.agg #[.slice none 0 0], by rw [HP.out], by rw [HP.out]; exact ⟨_, rfl, Own.none_ _ _ _ _ _ _⟩⟩ ((M _).ext x (Nat.le_refl _)))
end Go.Proofs.YtoehjfcadhgpbaaDoor
