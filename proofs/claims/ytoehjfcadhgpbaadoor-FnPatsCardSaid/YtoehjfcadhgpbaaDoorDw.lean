/- Pairs of names that the reference draws; what DrawAppendPart and DrawHasPrefix give. Condition: the bytes read, and are not too many. -/
import Derived.Test.YtoehjfcadhgpbaaDoorDy
import Derived.Test.YtoehjfcadhgpbaaDoorTr
import Derived.Deep.RegionHeld3
set_option linter.unusedVariables false
namespace Go.Proofs.YtoehjfcadhgpbaaDoor
open Go.RowKit
theorem Rd.rd {w : World} {lo hi size n : Nat} {v : Value} {xs : List Value} (h : Rd w lo hi size v n xs) : Rd w lo hi size v n xs := h
/-- Two names, both small and new. -/
def TwoN (w : World) (N : Nat) (r : Value) (w' : World) : Prop := ∃ (v1 v2 : Value) (a b : List ByteArray), r = .tuple #[v1, v2] ∧ RdN w' w.heap.size w'.heap.size v1 a.length (a.map sv) ∧ RdN w' w.heap.size w'.heap.size v2 b.length (b.map sv) ∧ Small N a ∧ Small N b
theorem Small.take {N : Nat} {ss : List ByteArray} (h : Small N ss) (k : Nat) : Small N (ss.take k) := ⟨by have := h.1; have h2 : (ss.take k).length ≤ ss.length := (by rw [List.length_take]; omega); omega, fun s hs => h.2 s (List.mem_of_mem_take hs)⟩
set_option maxRecDepth 100000 in
set_option maxHeartbeats 4000000 in
theorem l4Two_c {w : World} {lo hi n : Nat} {cv : Value} {xs : List UInt8} (hr : Rd w lo hi 1 cv n (xs.map bv)) (hn : n ≤ 1099511627776) (hhi : hi ≤ w.heap.size) :
    Calls Tryd.prog 75 #[cv] w (Gives w (TwoN w 7)) := by
  obtain ⟨W, hW⟩ : ∃ W, W = (w.alloc (.cells #[.slice none 0 0] 30)).alloc (.cells #[.slice none 0 0] 30) := ⟨_, rfl⟩
  have x0 : Below w.heap.size w W := by rw [hW]; exact ext_alloc (ext_alloc (ext_refl w) _) _
  have hWs : W.heap.size = w.heap.size + 2 := by rw [hW]; simp
  have cR : Cell1 W ⟨w.heap.size, 0, none⟩ (.slice none 0 0) := by rw [hW]; exact (Cell1.new w (.slice none 0 0) 30).ext (ext_alloc (ext_refl _) _)
  have cQ : Cell1 W ⟨w.heap.size + 1, 0, none⟩ (.slice none 0 0) := by rw [hW]; have := Cell1.new (w.alloc (.cells #[.slice none 0 0] 30)) (.slice none 0 0) 30; simpa using this
  have C := hid (l1New_c (hr.ext x0) hn)
  have HR := hid hr
  clear hr
  go_enter Tryd.func75, Tryd.ntmps75
  go_wp2_with fail
  rw [← hW]
  clear hW
  refine C.out.mono ?_
  rintro e w1 ⟨rfl, hc1, y1⟩
  have z1 := y1.size
  have x1 := ext_trans x0 y1
  have s1 := World.block_lt_of_cell? _ _ hc1.choose_spec.choose_spec.1
  simp only at s1
  rw [hWs] at hc1 s1 ⊢
  have cR1 := cR.ext y1
  have cQ1 := cQ.ext y1
  have C := hid (l4Any_c hc1 (HR.out.ext x1) (.inr (by omega)) (by omega) s1)
  clear hc1 cR cQ y1
  go_wp2_with fail
  refine C.out.mono ?_
  rintro e w2 ⟨r, ss, rfl, ⟨s, rfl, o2⟩, hsm, hc2, m2⟩
  obtain ⟨a, cap, rfl, _⟩ := o2.rd.form
  have s2 := m2.size
  have M2 := hid (Mut.ext x1 m2 (by omega))
  have cR2 := cR1.mut m2 (.inl (by simp only; omega))
  have cQ2 := cQ1.mut m2 (.inl (by simp only; omega))
  have y2 := ext_alloc (ext_refl w2) (.cells #[.slice a ss.length cap] 30)
  obtain ⟨V, hV⟩ : ∃ V, V = w2.alloc (.cells #[.slice a ss.length cap] 30) := ⟨_, rfl⟩
  have cT : V.cell? ⟨w2.heap.size, 0, none⟩ = some (.slice a ss.length cap) := by rw [hV]; simp
  have hVs : V.heap.size = w2.heap.size + 1 := by rw [hV]; simp
  rw [← hV] at y2
  have Z := hid (ext_trans M2.out y2)
  have o3 := o2.ext y2
  have cR3 := cR2.ext y2
  have cQ3 := cQ2.ext y2
  have hr3 := HR.out.ext Z.out
  have C := hid (l1Once_c (m := 3) (hc2.ext y2) hr3 (.inr (by omega)) (by omega))
  clear hc2 hr3 o2 y2 m2 M2 cR1 cQ1 cR2 cQ2
  go_wp2_with fail
  rw [← hV]
  clear hV
  refine C.out.mono ?_
  rintro e w3 ⟨x, rfl, hc3, m3⟩
  have s3 := m3.size
  have c3 := cell_mut cT m3 (.inr (by simp only; omega))
  have o4 := o3.mut m3 (.inr (by omega))
  have cR4 := cR3.mut m3 (.inl (by simp only; omega))
  have cQ4 := cQ3.mut m3 (.inl (by simp only; omega))
  have Z3 := hid (Mut.ext Z.out m3 (by omega))
  clear C cT o3 Z m3 cR3 cQ3
  have hc := hc3.ext (Below.drew (ext_refl w3))
  have cd := cell_ext c3 (Below.drew (ext_refl w3))
  have od := o4.ext (Below.drew (ext_refl w3))
  have Rd4 := cR4.ext (Below.drew (ext_refl w3))
  have Qd4 := cQ4.ext (Below.drew (ext_refl w3))
  have Zd := ext_trans Z3.out (Below.drew (ext_refl w3))
  have hds : w3.drew.heap.size = w3.heap.size := rfl
  have HD := hid (fun (b : Nat) (h : b < w3.heap.size) => (show b < w3.drew.heap.size from h))
  clear o4 cR4 cQ4 hc3
  cases x
  · have C := hid (l4Any_c hc (HR.out.ext Zd) (.inr (by omega)) (by have := Zd.size; omega) (HD.out _ (by omega)))
    clear hc
    go_wp2_with fail
    go_region_law (first
      | (go_simp; go_at_call 74; refine C.out.mono ?_; rintro e w4 ⟨r4, tt, rfl, ⟨s4, rfl, o5⟩, hsm4, hc4, m4⟩; obtain ⟨a4, cap4, rfl, _⟩ := o5.rd.form; have q4 := m4.size; rw [hds] at q4; replace cd := cell_mut cd m4 (.inr (by simp only; omega)); have R5 := Rd4.mut m4 (.inl (by simp only; omega)); have Q5 := Qd4.mut m4 (.inl (by simp only; omega)); obtain ⟨R5a, R5b⟩ := id R5; obtain ⟨Q5a, Q5b⟩ := id Q5))
    all_goals
      have oF := od.mut m4 (.inr (by omega))
      have ZF := Mut.ext Zd m4 (by omega)
      have n1 := Mut.setCell w4 (lo := w.heap.size) (hi := w.heap.size + 2) (p := ⟨w.heap.size, 0, none⟩) (by simp) (by simp) (.slice a ss.length cap)
      have n2 := Mut.setCell (w4.setCell ⟨w.heap.size, 0, none⟩ (.slice a ss.length cap)) (lo := w.heap.size) (hi := w.heap.size + 2) (p := ⟨w.heap.size + 1, 0, none⟩) (by simp) (by simp) (.slice a4 tt.length cap4)
      have n3 := n1.trans n2
      have k1 := R5.set (.slice a ss.length cap)
      have k2 := k1.mut (Mut.setCell _ (lo := w.heap.size + 1) (hi := w.heap.size + 2) (p := ⟨w.heap.size + 1, 0, none⟩) (by simp) (by simp) (.slice a4 tt.length cap4)) (.inl (by simp))
      have k3 := (Q5.mut (Mut.setCell w4 (lo := w.heap.size) (hi := w.heap.size + 1) (p := ⟨w.heap.size, 0, none⟩) (by simp) (by simp) (.slice a ss.length cap)) (.inr (by simp))).set (.slice a4 tt.length cap4)
      have F1 := hid ((oF.rd.mut n3 (.inr (by omega))).mono (show w.heap.size ≤ _ by omega) (Nat.le_trans (show w2.heap.size ≤ w4.heap.size by omega) n3.size))
      have F2 := hid ((o5.rd.mut n3 (.inr (by omega))).mono (show w.heap.size ≤ _ by omega) n3.size)
      have F3 := hid (n3.ext ZF (Nat.le_refl _))
      obtain ⟨k2a, k2b⟩ := k2
      obtain ⟨k3a, k3b⟩ := k3
      clear oF ZF n1 n2 n3 k1 R5 Q5 C cd od Rd4 Qd4 hc4 o5 m4
      go_wp2
      exact bodyPost_ret (v := .tuple #[.agg #[.slice a ss.length cap], .agg #[.slice a4 tt.length cap4]]) (by simp [results, Tryd.results75, go_sem, k2a, k3a]) rfl (gives_of _ ⟨_, _, ss, tt, rfl, ⟨_, rfl, F1.out⟩, ⟨_, rfl, F2.out⟩, hsm, hsm4⟩ F3.out)
  · have C := hid (l1Below_c (m := 4) hc (HR.out.ext Zd) (.inr (by omega)) (by omega))
    clear hc
    go_wp2_with fail
    go_region_law (first
      | (go_simp; go_at_call 76; refine C.out.mono ?_; rintro e w4 ⟨x, rfl, xa, xb, hc4, m4⟩; have q4 := m4.size; rw [hds] at q4; have cd4 := cell_mut cd m4 (.inr (by simp only; omega)); have od4 := od.mut m4 (.inr (by omega)); have R5 := Rd4.mut m4 (.inl (by simp only; omega)); have Q5 := Qd4.mut m4 (.inl (by simp only; omega)); have Z5 := Mut.ext Zd m4 (by omega))
      | (go_simp; go_at_call 48; refine (specTruncate_c ⟨_, rfl, od4.rd⟩ (by have := hsm.1; omega)).mono ?_; rintro e w5 ⟨_, rfl, ⟨s6, rfl, o6⟩, y6⟩; obtain ⟨a6, cap6, rfl, _⟩ := o6.rd.form; have q6 := y6.size; have cd6 := cell_ext cd4 y6; have R6 := R5.ext y6; have Q6 := Q5.ext y6; obtain ⟨R6a, R6b⟩ := id R6; obtain ⟨Q6a, Q6b⟩ := id Q6))
    all_goals
      have oF := od4.ext y6
      have ZF := ext_trans Z5 y6
      have hl6 : (ss.take (trn x ss.length)).length = trn x ss.length := by rw [List.length_take]; have := trn_le x ss.length; omega
      have n1 := Mut.setCell w5 (lo := w.heap.size) (hi := w.heap.size + 2) (p := ⟨w.heap.size, 0, none⟩) (by simp) (by simp) (.slice a ss.length cap)
      have n2 := Mut.setCell (w5.setCell ⟨w.heap.size, 0, none⟩ (.slice a ss.length cap)) (lo := w.heap.size) (hi := w.heap.size + 2) (p := ⟨w.heap.size + 1, 0, none⟩) (by simp) (by simp) (.slice a6 (trn x ss.length) cap6)
      have n3 := n1.trans n2
      have k1 := R6.set (.slice a ss.length cap)
      have k2 := k1.mut (Mut.setCell _ (lo := w.heap.size + 1) (hi := w.heap.size + 2) (p := ⟨w.heap.size + 1, 0, none⟩) (by simp) (by simp) (.slice a6 (trn x ss.length) cap6)) (.inl (by simp))
      have k3 := (Q6.mut (Mut.setCell w5 (lo := w.heap.size) (hi := w.heap.size + 1) (p := ⟨w.heap.size, 0, none⟩) (by simp) (by simp) (.slice a ss.length cap)) (.inr (by simp))).set (.slice a6 (trn x ss.length) cap6)
      have F1 := hid ((oF.rd.mut n3 (.inr (by omega))).mono (show w.heap.size ≤ _ by omega) (Nat.le_trans (show w2.heap.size ≤ w5.heap.size by omega) n3.size))
      have F2 := hid ((o6.rd.mut n3 (.inr (by omega))).mono (show w.heap.size ≤ _ by omega) n3.size)
      have F3 := hid (n3.ext ZF (Nat.le_refl _))
      obtain ⟨k2a, k2b⟩ := k2
      obtain ⟨k3a, k3b⟩ := k3
      have HL := hid hl6
      clear oF ZF n1 n2 n3 k1 R5 Q5 R6 Q6 C cd cd4 cd6 od od4 Rd4 Qd4 hc4 o6 m4 y6 hl6
      go_wp2
      exact bodyPost_ret (v := .tuple #[.agg #[.slice a ss.length cap], .agg #[.slice a6 (trn x ss.length) cap6]]) (by simp [results, Tryd.results75, go_sem, k2a, k3a]) rfl (gives_of _ ⟨_, _, ss, ss.take (trn x ss.length), rfl, ⟨_, rfl, F1.out⟩, ⟨_, rfl, by rw [HL.out]; exact F2.out⟩, hsm, hsm.take _⟩ F3.out)
end Go.Proofs.YtoehjfcadhgpbaaDoor
