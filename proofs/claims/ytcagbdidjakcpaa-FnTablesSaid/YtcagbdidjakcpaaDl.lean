/- l6Pair: a table and a name that the reference draws. Condition: the code reads and is not too long. -/
import Derived.Test.YtcagbdidjakcpaaDx
set_option linter.unusedVariables false
namespace Go.Proofs.Ytcagbdidjakcpaa
open Go.RowKit

set_option maxRecDepth 100000 in
set_option maxHeartbeats 4000000 in
theorem l6Pair_c {w : World} {lo hi n : Nat} {cv : Value} {xs : List UInt8} (hr : Rd w lo hi 1 cv n (xs.map bv)) (hn : n ≤ 1099511627776) (hhi : hi ≤ w.heap.size) :
    Calls Try.prog 109 #[cv] w (Gives w (TabN w.heap.size)) := by
  obtain ⟨W, hW⟩ : ∃ W, W = w.alloc (.cells #[.slice none 0 0] 26) := ⟨_, rfl⟩
  have x0 : Below w.heap.size w W := by rw [hW]; exact ext_alloc (ext_refl w) _
  have hWs : W.heap.size = w.heap.size + 1 := by rw [hW]; simp
  have cR : Cell1 W ⟨w.heap.size, 0, none⟩ (.slice none 0 0) := by rw [hW]; exact Cell1.new w (.slice none 0 0) 26
  have C := hid (l1New_c (hr.ext x0) hn)
  have HR := hid hr
  clear hr
  go_enter Try.func109, Try.ntmps109
  go_wp2_with fail
  rw [← hW]
  clear hW
  refine C.out.mono ?_
  clear C
  rintro e w1 ⟨rfl, hc1, y1⟩
  have z1 := y1.size
  have x1 := ext_trans x0 y1
  have s1 := World.block_lt_of_cell? _ _ hc1.choose_spec.choose_spec.1
  simp only at s1
  rw [hWs] at hc1 s1 ⊢
  have cR1 := cR.ext y1
  have C := hid (l6Any_c hc1 (HR.out.ext x1) (.inr (by omega)) (by omega) s1)
  clear hc1 cR y1
  go_wp2_with fail
  refine C.out.mono ?_
  clear C
  rintro e w2 ⟨u1, rfl, ⟨ts, rt, hlt, hts⟩, hc2, m2⟩
  have s2 := m2.size
  have X2 := Mut.ext x1 m2 (by omega)
  have cR2 := cR1.mut m2 (.inl (by simp only; omega))
  have HTS := hid hts
  obtain ⟨a1, q1, rfl, _⟩ := rt.form
  clear m2 cR1 hts
  by_cases h0 : ts.length = 0
  · have hl0 : ¬ (0 : Int) < (ts.length : Int) := by omega
    have hl1 : decide ((0 : Int) < (ts.length : Int)) = false := decide_eq_false hl0
    have hl2 : decide (0 < ts.length) = false := decide_eq_false (by omega)
    have hl3 : ¬ 0 < ts.length := by omega
    clear h0
    have C := hid (l4Any_c hc2 (HR.out.ext X2) (.inr (by omega)) (by omega) (by omega))
    clear hc2
    go_wp2_with fail
    refine C.out.mono ?_
    clear C
    rintro e w3 ⟨_, ss, rfl, ⟨s9, rfl, o9⟩, hsm, hcz, mz⟩
    have sz3 := mz.size
    have rtz := rt.mut mz (.inr (by omega))
    have cRz := cR2.mut mz (.inl (by simp only; omega))
    have Xz := Mut.ext X2 mz (by omega)
    obtain ⟨a9, c9, rfl, _⟩ := o9.rd.form
    clear mz hcz cR2 rt X2
    have n3 := Mut.setCell w3 (lo := w.heap.size) (hi := w.heap.size + 1) (p := ⟨w.heap.size, 0, none⟩) (by simp) (by simp) (.slice a9 ss.length c9)
    obtain ⟨R5a, R5b⟩ := id cRz
    have k2 := cRz.set (.slice a9 ss.length c9)
    have F1 := hid ((o9.rd.mut n3 (.inr (by omega))).mono (show w.heap.size ≤ _ by omega) (Nat.le_trans (by omega) n3.size))
    have F2 := hid ((rtz.mut n3 (.inr (by omega))).mono (show w.heap.size ≤ _ by omega) (Nat.le_trans (by omega) n3.size))
    have F3 := hid (n3.ext Xz (Nat.le_refl _))
    obtain ⟨k2a, k2b⟩ := k2
    clear n3 Xz cRz
    go_wp2
    exact bodyPost_ret (v := .tuple #[.slice a1 ts.length q1, .agg #[.slice a9 ss.length c9]]) (by simp [results, Try.results109, go_sem, k2a]) rfl (gives_of _ ⟨_, _, ts, ss, rfl, F2.out, hlt, HTS.out, ⟨_, rfl, F1.out⟩, hsm.up (by decide)⟩ F3.out)
  have hp : 0 < ts.length := by omega
  have hp1 : (0 : Int) < (ts.length : Int) := by omega
  have C := hid (l1Once_c (m := 2) hc2 (HR.out.ext X2) (.inr (by omega)) (by omega))
  clear hc2
  go_wp2_with fail
  refine C.out.mono ?_
  clear C
  rintro e w3 ⟨b, rfl, hc3, m3⟩
  have s3 := m3.size
  have rt3 := rt.mut m3 (.inr (by omega))
  have cR3 := cR2.mut m3 (.inl (by simp only; omega))
  have X3 := Mut.ext X2 m3 (by omega)
  clear m3 rt cR2 X2
  cases b
  · skip
    have C := hid (l4Any_c hc3 (HR.out.ext X3) (.inr (by omega)) (by omega) (by omega))
    clear hc3
    go_wp2_with fail
    refine C.out.mono ?_
    clear C
    rintro e w4 ⟨_, ss, rfl, ⟨s9, rfl, o9⟩, hsm, hcz, mz⟩
    have sz4 := mz.size
    have rtz := rt3.mut mz (.inr (by omega))
    have cRz := cR3.mut mz (.inl (by simp only; omega))
    have Xz := Mut.ext X3 mz (by omega)
    obtain ⟨a9, c9, rfl, _⟩ := o9.rd.form
    clear mz hcz cR3 rt3 X3
    have n3 := Mut.setCell w4 (lo := w.heap.size) (hi := w.heap.size + 1) (p := ⟨w.heap.size, 0, none⟩) (by simp) (by simp) (.slice a9 ss.length c9)
    obtain ⟨R5a, R5b⟩ := id cRz
    have k2 := cRz.set (.slice a9 ss.length c9)
    have F1 := hid ((o9.rd.mut n3 (.inr (by omega))).mono (show w.heap.size ≤ _ by omega) (Nat.le_trans (by omega) n3.size))
    have F2 := hid ((rtz.mut n3 (.inr (by omega))).mono (show w.heap.size ≤ _ by omega) (Nat.le_trans (by omega) n3.size))
    have F3 := hid (n3.ext Xz (Nat.le_refl _))
    obtain ⟨k2a, k2b⟩ := k2
    clear n3 Xz cRz
    go_wp2
    exact bodyPost_ret (v := .tuple #[.slice a1 ts.length q1, .agg #[.slice a9 ss.length c9]]) (by simp [results, Try.results109, go_sem, k2a]) rfl (gives_of _ ⟨_, _, ts, ss, rfl, F2.out, hlt, HTS.out, ⟨_, rfl, F1.out⟩, hsm.up (by decide)⟩ F3.out)
  · have C := hid (l1Below_c (m := (ts.length : Int)) hc3 (HR.out.ext X3) (.inr (by omega)) (by omega))
    clear hc3
    go_wp2_with fail
    refine C.out.mono ?_
    clear C
    rintro e w4 ⟨z, rfl, z0, z1', hc4, m4⟩
    have s4 := m4.size
    have rt4 := rt3.mut m4 (.inr (by omega))
    have cR4 := cR3.mut m4 (.inl (by simp only; omega))
    have X4 := Mut.ext X3 m4 (by omega)
    clear m4 rt3 cR3 X3
    obtain ⟨k, rfl⟩ := Int.eq_ofNat_of_zero_le z0
    have hk : k < ts.length := by omega
    have hk1 : (k : Int) < (ts.length : Int) := by omega
    obtain ⟨b', off, cp, sv', hv, _, _, hbs, d0, _, r9⟩ := rt4.at_ hk
    simp only [Value.slice.injEq, true_and] at hv
    obtain ⟨rfl, rfl⟩ := hv
    have hsk := HTS.out _ (List.getElem_mem hk)
    have hskl := hsk.1
    have C := hid (l4Copy_c (w := w4) (show RdN w4 w1.heap.size w2.heap.size (.agg #[sv']) ts[k].1.length (ts[k].1.map sv) from ⟨_, rfl, r9⟩) (by omega))
    have HSK := hid hsk
    obtain ⟨p9, q9, rfl, _⟩ := r9.form
    generalize ts[k].1 = ss at *
    clear r9 hsk
    go_wp2_with fail
    refine C.out.mono ?_
    clear C
    rintro e w5 ⟨_, rfl, ⟨s9, rfl, o9⟩, y5⟩
    have s5 := y5.size
    have rt5 := rt4.ext y5
    have cR5 := cR4.ext y5
    have X5 := ext_trans X4 y5
    have hc5 := hc4.ext y5
    obtain ⟨a9, c9, rfl, _⟩ := o9.rd.form
    clear y5 rt4 cR4 X4 hc4 d0
    have y6 := ext_alloc (ext_refl w5) (.cells #[.slice a9 ss.length c9] 26)
    obtain ⟨w6, hV⟩ : ∃ V, V = w5.alloc (.cells #[.slice a9 ss.length c9] 26) := ⟨_, rfl⟩
    have cT : Cell1 w6 ⟨w5.heap.size, 0, none⟩ (.slice a9 ss.length c9) := by rw [hV]; exact Cell1.new w5 _ 26
    have hVs : w6.heap.size = w5.heap.size + 1 := by rw [hV]; simp
    rw [← hV] at y6
    have rt6 := rt5.ext y6
    have cR6 := cR5.ext y6
    have X6 := ext_trans X5 y6
    have o6 := o9.ext y6
    have hV1 : w5.heap.size < w6.heap.size := by omega
    have C := hid (l1Once_c (m := 2) (hc5.ext y6) (HR.out.ext X6) (.inr (by omega)) (by omega))
    clear hVs y6 rt5 cR5 X5 o9 hc5
    go_wp2_with fail
    rw [← hV]
    clear hV
    refine C.out.mono ?_
    clear C
    rintro e w7 ⟨b2, rfl, hc7, m7⟩
    have s7 := m7.size
    have rt7 := rt6.mut m7 (.inr (by omega))
    have cR7 := cR6.mut m7 (.inl (by simp only; omega))
    have cT7 := cT.mut m7 (.inr (by simp only; omega))
    have X7 := Mut.ext X6 m7 (by omega)
    have o7 := o6.mut m7 (.inr (by omega))
    clear m7 rt6 cR6 cT X6 o6 hc7
    cases b2
    · obtain ⟨cT7a, cT7b⟩ := cT7
      have k3 := cR7.set (.slice a9 ss.length c9)
      obtain ⟨k3a, k3b⟩ := k3
      have yd : Below w7.heap.size w7 w7.drew := Below.drew (ext_refl _)
      have rtd := rt7.ext yd
      have od := o7.ext yd
      have cRd := cR7.ext yd
      have Xd := ext_trans X7 yd
      have qd : w7.heap.size ≤ w7.drew.heap.size := Nat.le_refl _
      obtain ⟨cR7a, cR7b⟩ := id cR7
      clear rt7 o7 cR7 X7 yd
      go_wp2_with fail
      go_region
      all_goals
        have n3 := Mut.setCell w7.drew (lo := w.heap.size) (hi := w.heap.size + 1) (p := ⟨w.heap.size, 0, none⟩) (by simp) (by simp) (.slice a9 ss.length c9)
        obtain ⟨R5a, R5b⟩ := id cRd
        have k2 := cRd.set (.slice a9 ss.length c9)
        have F1 := hid ((od.rd.mut n3 (.inr (by omega))).mono (show w.heap.size ≤ _ by omega) (Nat.le_trans (by omega) n3.size))
        have F2 := hid ((rtd.mut n3 (.inr (by omega))).mono (show w.heap.size ≤ _ by omega) (Nat.le_trans (by omega) n3.size))
        have F3 := hid (n3.ext Xd (Nat.le_refl _))
        obtain ⟨k2a, k2b⟩ := k2
        clear n3 Xd cRd
        go_wp2
        exact bodyPost_ret (v := .tuple #[.slice (some ⟨b', off, none⟩) ts.length q1, .agg #[.slice a9 ss.length c9]]) (by simp [results, Try.results109, go_sem, k3a]) rfl (gives_of _ ⟨_, _, ts, ss, rfl, F2.out, hlt, HTS.out, ⟨_, rfl, F1.out⟩, HSK.out.up (by decide)⟩ F3.out)
    · obtain ⟨i0, hi0, hz0, hz1, hz2⟩ := info_parts info_string
      have hX1 : ∀ u ∈ [Value.string { data := #[113] }], u.oneCell' = true := by
        intro u hu
        rw [List.mem_singleton.1 hu]; rfl
      have y8 := ext_alloc (ext_refl w7) (.cells #[.string { data := #[113] }] 9)
      have t8 := y8.size
      obtain ⟨cT7a, cT7b⟩ := id cT7
      go_wp2_with (at_builtin; refine wpList_append_exact rfl _ _ 24 rfl 9 i0 (.string ByteArray.empty) 1 16 Try.underlying24 hi0 hz0 hz1 hz2 rfl (by decide) rfl (o7.ext (ext_alloc (ext_refl _) _)) rfl (Rd.new _ [.string { data := #[113] }] 9 1 1 (by decide) rfl) hX1 (by decide) (by omega) (by omega) ?_)
      intro v8 w8 oa ob hcase h8 m8
      have s8 := m8.size
      obtain ⟨a8, c8, rfl, _⟩ := h8.rd.form
      have cT8 := (cT7.ext y8).mut m8 (.inr (by simp only; omega))
      have cR8 := (cR7.ext y8).mut m8 (.inl (by simp only; omega))
      have rt8 := (rt7.ext y8).mut m8 (.inl (by omega))
      have X8 := Mut.ext (ext_trans X7 y8) m8 (by omega)
      have n9 := Mut.setCell w8 (lo := w5.heap.size) (hi := w5.heap.size + 1) (p := ⟨w5.heap.size, 0, none⟩) (by simp) (by simp) (.slice a8 (ss.length + 1) c8)
      have HLO := hid (show w.heap.size + 1 ≤ oa by rcases hcase.out with ⟨rfl, rfl⟩ | ⟨rfl, rfl⟩ <;> omega)
      have HHI := hid (show ob ≤ w8.heap.size by rcases hcase.out with ⟨rfl, rfl⟩ | ⟨rfl, rfl⟩ <;> omega)
      have h9 := h8.mut n9 (by rcases hcase.out with ⟨rfl, rfl⟩ | ⟨rfl, rfl⟩ <;> omega)
      have cR9 := cR8.mut n9 (.inl (by simp only; omega))
      have rt9 := rt8.mut n9 (.inl (by omega))
      have X9 := n9.ext X8 (by omega)
      have k9 := cT8.set (.slice a8 (ss.length + 1) c8)
      have t9 := n9.size
      obtain ⟨cT8a, cT8b⟩ := cT8
      obtain ⟨w9, hW9⟩ : ∃ V, w8.setCell ⟨w5.heap.size, 0, none⟩ (.slice a8 (ss.length + 1) c8) = V := ⟨_, rfl⟩
      rw [hW9] at h9 cR9 rt9 X9 k9 t9
      obtain ⟨cT9a, cT9b⟩ := k9
      have k3 := cR9.set (.slice a8 (ss.length + 1) c8)
      obtain ⟨k3a, k3b⟩ := k3
      have yd : Below w9.heap.size w9 w9.drew := Below.drew (ext_refl _)
      have rtd := rt9.ext yd
      have od := h9.ext yd
      have cRd := cR9.ext yd
      have Xd := ext_trans X9 yd
      have qd : w9.heap.size ≤ w9.drew.heap.size := Nat.le_refl _
      obtain ⟨cR9a, cR9b⟩ := id cR9
      have hlo := HLO.out
      have hhi2 := HHI.out
      clear rt7 o7 cR7 X7 yd hcase n9 h8 h9 m8 y8 cT7 cR8 rt8 X8 rt9 cR9 X9
      go_wp2_with fail
      go_region
      all_goals
        have n3 := Mut.setCell w9.drew (lo := w.heap.size) (hi := w.heap.size + 1) (p := ⟨w.heap.size, 0, none⟩) (by simp) (by simp) (.slice a8 (ss.length + 1) c8)
        obtain ⟨R5a, R5b⟩ := id cRd
        have k2 := cRd.set (.slice a8 (ss.length + 1) c8)
        have F1 := hid ((od.rd.mut n3 (.inr (by omega))).mono (show w.heap.size ≤ _ by omega) (Nat.le_trans (by omega) n3.size))
        have F2 := hid ((rtd.mut n3 (.inr (by omega))).mono (show w.heap.size ≤ _ by omega) (Nat.le_trans (by omega) n3.size))
        have F3 := hid (n3.ext Xd (Nat.le_refl _))
        obtain ⟨k2a, k2b⟩ := k2
        clear n3 Xd cRd
        go_wp2
        exact bodyPost_ret (v := .tuple #[.slice (some ⟨b', off, none⟩) ts.length q1, .agg #[.slice a8 (ss.length + 1) c8]]) (by simp [results, Try.results109, go_sem, k3a]) rfl (gives_of _ ⟨_, _, ts, ss ++ [⟨#[113]⟩], rfl, F2.out, hlt, HTS.out, ⟨_, rfl, by rw [List.length_append, List.map_append]; exact F1.out⟩, HSK.out.push (by decide)⟩ F3.out)
end Go.Proofs.Ytcagbdidjakcpaa
