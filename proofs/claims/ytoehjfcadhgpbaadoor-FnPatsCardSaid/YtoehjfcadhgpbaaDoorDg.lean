/- What the Draw functions of patterns give. Condition: the bytes read, and are not too many. -/
import Derived.Test.YtoehjfcadhgpbaaDoorDq
import Derived.Test.YtoehjfcadhgpbaaDoorDf
set_option linter.unusedVariables false
set_option linter.unusedSimpArgs false
namespace Go.Proofs.YtoehjfcadhgpbaaDoor
open Go.RowKit
def MatchD (w : World) (r : Value) (w' : World) : Prop := ∃ (v1 v2 v3 : Value) (a b : List ByteArray) (m : Nat) (ss : List ByteArray), r = .tuple #[v1, v2, v3] ∧ RdN w' w.heap.size w'.heap.size v1 a.length (a.map sv) ∧ RdN w' w.heap.size w'.heap.size v2 b.length (b.map sv) ∧ Rd w' w.heap.size w'.heap.size 2 v3 m (ss.map sv) ∧ Small 7 a ∧ Small 7 b ∧ m ≤ 3 ∧ (∀ s ∈ ss, s.size ≤ 16)
def InstD (w : World) (r : Value) (w' : World) : Prop := ∃ (v1 v3 : Value) (a : List ByteArray) (m : Nat) (ss : List ByteArray), r = .tuple #[v1, v3] ∧ RdN w' w.heap.size w'.heap.size v1 a.length (a.map sv) ∧ Rd w' w.heap.size w'.heap.size 2 v3 m (ss.map sv) ∧ Small 7 a ∧ m ≤ 3 ∧ (∀ s ∈ ss, s.size ≤ 16)
def BindD (w : World) (r : Value) (w' : World) : Prop := ∃ (v : Value) (m : Nat) (ss : List ByteArray) (k : ByteArray), r = .tuple #[v, .string k] ∧ Rd w' w.heap.size w'.heap.size 2 v m (ss.map sv) ∧ m ≤ 3 ∧ (∀ s ∈ ss, s.size ≤ 16) ∧ k.size ≤ 16
set_option maxRecDepth 100000 in
set_option maxHeartbeats 4000000 in
theorem DrawMatches_c {w : World} {lo hi n : Nat} {cv : Value} {xs : List UInt8} (hr : Rd w lo hi 1 cv n (xs.map bv)) (hn : n ≤ 1099511627776) (hhi : hi ≤ w.heap.size) :
    Calls Tryd.prog 21 #[cv] w (Gives w (fun r w' => TwoP w.heap.size r w')) := by
  obtain ⟨W, hW⟩ : ∃ W, W = (w.alloc (.cells #[.slice none 0 0] 24)).alloc (.cells #[.slice none 0 0] 30) := ⟨_, rfl⟩
  have x0 : Below w.heap.size w W := by rw [hW]; exact ext_alloc (ext_alloc (ext_refl w) _) _
  have hWs : W.heap.size = w.heap.size + 2 := by rw [hW]; simp
  have cR : Cell1 W ⟨w.heap.size, 0, none⟩ (.slice none 0 0) := by rw [hW]; exact (Cell1.new w (.slice none 0 0) 24).ext (ext_alloc (ext_refl _) _)
  have cQ : Cell1 W ⟨w.heap.size + 1, 0, none⟩ (.slice none 0 0) := by rw [hW]; have := Cell1.new (w.alloc (.cells #[.slice none 0 0] 24)) (.slice none 0 0) 30; simpa using this
  have C := hid (l1New_c (hr.ext x0) hn)
  have HR := hid hr
  clear hr
  go_enter Tryd.func21, Tryd.ntmps21
  go_wp2_with fail
  rw [← hW]
  clear hW
  refine C.out.mono ?_
  rintro e w1 ⟨rfl, hc1, y1⟩
  have z1 := y1.size
  have x1 := ext_trans x0 y1
  have s1 := World.block_lt_of_cell? _ _ hc1.choose_spec.choose_spec.1
  simp only at s1
  rw [hWs] at hc1 s1 ⊢
  have R1 := cR.ext y1
  have Q1 := cQ.ext y1
  have C := hid (l5Pair_c hc1 (HR.out.ext x1) (.inr (by omega)) (by omega) s1)
  clear hc1 cR cQ y1
  go_wp2_with fail
  refine C.out.mono ?_
  rintro e w2 ⟨_, rfl, ⟨_, _, ss, tt, rfl, ⟨s2, rfl, o1⟩, ⟨s3, rfl, o2⟩, hsm, hsm2⟩, hc2, m2⟩
  obtain ⟨a, cap, rfl, _⟩ := o1.form
  obtain ⟨a6, cap6, rfl, _⟩ := o2.form
  have s2 := m2.size
  have M2 := Mut.ext x1 m2 (by omega)
  have R2 := R1.mut m2 (.inl (by simp only; omega))
  have Q2 := Q1.mut m2 (.inl (by simp only; omega))
  clear R1 Q1 m2 C x1 x0
  have F := two_set R2 Q2 o1 o2 (by omega) (by omega) (Nat.le_refl _) (Nat.le_refl _)
  obtain ⟨F0, F1, F2, F3, F4⟩ := F
  have G1 : Hid (TwoP _ _ _) := ⟨_, _, ss, tt, rfl, F0, F1, hsm, hsm2⟩
  have G3 := hid (F4.ext M2 (Nat.le_refl _))
  have E2 := F2.out
  have E3 := F3.out
  obtain ⟨R2a, R2b⟩ := R2
  obtain ⟨Q2a, Q2b⟩ := Q2
  clear F0 F1 F2 F3 F4 M2 o1 o2 hc2
  go_wp2
  exact bodyPost_ret (v := .tuple #[.agg #[.slice a ss.length cap], .agg #[.slice a6 tt.length cap6]]) (by simp [results, Tryd.results21, go_sem, E2, E3]) rfl (gives_of _ G1.out G3.out)
set_option maxRecDepth 100000 in
set_option maxHeartbeats 4000000 in
theorem DrawMatch_c {w : World} {lo hi n : Nat} {cv : Value} {xs : List UInt8} (hr : Rd w lo hi 1 cv n (xs.map bv)) (hn : n ≤ 1099511627776) (hhi : hi ≤ w.heap.size) :
    Calls Tryd.prog 18 #[cv] w (Gives w (MatchD w)) := by
  obtain ⟨W, hW⟩ : ∃ W, W = (w.alloc (.cells #[.slice none 0 0] 24)).alloc (.cells #[.slice none 0 0] 30) := ⟨_, rfl⟩
  have x0 : Below w.heap.size w W := by rw [hW]; exact ext_alloc (ext_alloc (ext_refl w) _) _
  have hWs : W.heap.size = w.heap.size + 2 := by rw [hW]; simp
  have cR : Cell1 W ⟨w.heap.size, 0, none⟩ (.slice none 0 0) := by rw [hW]; exact (Cell1.new w (.slice none 0 0) 24).ext (ext_alloc (ext_refl _) _)
  have cQ : Cell1 W ⟨w.heap.size + 1, 0, none⟩ (.slice none 0 0) := by rw [hW]; have := Cell1.new (w.alloc (.cells #[.slice none 0 0] 24)) (.slice none 0 0) 30; simpa using this
  have C := hid (l1New_c (hr.ext x0) hn)
  have HR := hid hr
  clear hr
  go_enter Tryd.func18, Tryd.ntmps18
  go_wp2_with fail
  rw [← hW]
  clear hW
  refine C.out.mono ?_
  rintro e w1 ⟨rfl, hc1, y1⟩
  have z1 := y1.size
  have x1 := ext_trans x0 y1
  have s1 := World.block_lt_of_cell? _ _ hc1.choose_spec.choose_spec.1
  simp only at s1
  rw [hWs] at hc1 s1 ⊢
  have R1 := cR.ext y1
  have Q1 := cQ.ext y1
  have C := hid (l5Pair_c hc1 (HR.out.ext x1) (.inr (by omega)) (by omega) s1)
  clear hc1 cR cQ y1
  go_wp2_with fail
  refine C.out.mono ?_
  rintro e w2 ⟨_, rfl, ⟨_, _, ss, tt, rfl, ⟨s2, rfl, o1⟩, ⟨s3, rfl, o2⟩, hsm, hsm2⟩, hc2, m2⟩
  obtain ⟨a, cap, rfl, _⟩ := o1.form
  obtain ⟨a6, cap6, rfl, _⟩ := o2.form
  have s2 := m2.size
  have M2 := Mut.ext x1 m2 (by omega)
  have R2 := R1.mut m2 (.inl (by simp only; omega))
  have Q2 := Q1.mut m2 (.inl (by simp only; omega))
  clear R1 Q1 m2 C x1 x0
  obtain ⟨V, hV⟩ : ∃ V, V = (w2.alloc (.cells #[.slice a ss.length cap] 24)).alloc (.cells #[.slice a6 tt.length cap6] 30) := ⟨_, rfl⟩
  have y2 : Below w2.heap.size w2 V := by rw [hV]; exact ext_alloc (ext_alloc (ext_refl w2) _) _
  have hVs : V.heap.size = w2.heap.size + 2 := by rw [hV]; simp
  have cT : Cell1 V ⟨w2.heap.size, 0, none⟩ (.slice a ss.length cap) := by rw [hV]; exact (Cell1.new w2 _ 24).ext (ext_alloc (ext_refl _) _)
  have cB : Cell1 V ⟨w2.heap.size + 1, 0, none⟩ (.slice a6 tt.length cap6) := by rw [hV]; have := Cell1.new (w2.alloc (.cells #[.slice a ss.length cap] 24)) (.slice a6 tt.length cap6) 30; simpa using this
  have yd : Below w2.heap.size w2 V.drew := Below.drew y2
  have ye : Below V.heap.size V V.drew := Below.drew (ext_refl _)
  have qd : V.drew.heap.size = w2.heap.size + 2 := hVs
  have P3 := o1.ext yd
  have N3 := o2.ext yd
  have R3 := R2.ext yd
  have Q3 := Q2.ext yd
  have T3 := cT.ext ye
  have B3 := cB.ext ye
  have M3 := ext_trans M2 yd
  have hc3 := hc2.ext yd
  have hr3 := HR.out.ext M3
  have C := hid (l5Binds_c hc3 hr3 (.inr (by omega)) (by omega) (by omega))
  obtain ⟨T3a, T3b⟩ := id T3
  obtain ⟨B3a, B3b⟩ := id B3
  obtain ⟨T2a, T2b⟩ := id cT
  obtain ⟨B2a, B2b⟩ := id cB
  have hl3 : w2.heap.size < V.heap.size := by omega
  have hl4 : w2.heap.size + 1 < V.heap.size := by omega
  clear hVs hc3 hr3 hc2 o1 o2 y2 yd ye M2 R2 Q2
  go_wp2_with fail
  rw [← hV]
  clear hV
  go_region_law (first
    | (go_simp; go_at_call 63; refine C.out.mono ?_; rintro e w4 ⟨r4, m, bs, rfl, o5, hm, hbs, hc4, m4⟩; obtain ⟨a4, cap4, rfl, _⟩ := o5.rd.form; have q4 := m4.size; have R5 := R3.mut m4 (.inl (by simp only; omega)); have Q5 := Q3.mut m4 (.inl (by simp only; omega)); have T5 := T3.mut m4 (.inr (by simp only; omega)); have B5 := B3.mut m4 (.inr (by simp only; omega)); obtain ⟨R5a, R5b⟩ := id R5; obtain ⟨Q5a, Q5b⟩ := id Q5; obtain ⟨T5a, T5b⟩ := id T5; obtain ⟨B5a, B5b⟩ := id B5))
  all_goals
    have F := two_set R5 Q5 (P3.mut m4 (.inr (by omega))) (N3.mut m4 (.inr (by omega))) (by omega) (by omega) (by omega) (by omega)
    obtain ⟨F0, F1, F2, F3, F4⟩ := F
    have o6 := (o5.rd.mut F4 (.inr (by omega))).mono (show w.heap.size ≤ V.drew.heap.size by omega) F4.size
    have G1 : Hid (MatchD w _ _) := ⟨_, _, _, ss, tt, m, bs, rfl, F0, F1, o6, hsm, hsm2, by omega, hbs⟩
    have G3 := hid (F4.ext (Mut.ext M3 m4 (by omega)) (Nat.le_refl _))
    have E2 := F2.out
    have E3 := F3.out
    clear F0 F1 F2 F3 F4 M3 o5 o6 hc4 C m4 R3 Q3 T3 B3 R5 Q5 T5 B5 P3 N3
    go_wp2
    exact bodyPost_ret (v := .tuple #[.agg #[.slice a ss.length cap], .agg #[.slice a6 tt.length cap6], .slice a4 m cap4]) (by simp [results, Tryd.results18, go_sem, E2, E3]) rfl (gives_of _ G1.out G3.out)
set_option maxRecDepth 100000 in
set_option maxHeartbeats 4000000 in
theorem DrawInstantiate_c {w : World} {lo hi n : Nat} {cv : Value} {xs : List UInt8} (hr : Rd w lo hi 1 cv n (xs.map bv)) (hn : n ≤ 1099511627776) (hhi : hi ≤ w.heap.size) :
    Calls Tryd.prog 23 #[cv] w (Gives w (InstD w)) := by
  obtain ⟨i0, hi0, hz0, hz1, hz2⟩ := info_parts info_binding
  obtain ⟨W, hW⟩ : ∃ W, W = w.alloc (.cells #[.slice none 0 0] 24) := ⟨_, rfl⟩
  have x0 : Below w.heap.size w W := by rw [hW]; exact ext_alloc (ext_refl w) _
  have hWs : W.heap.size = w.heap.size + 1 := by rw [hW]; simp
  have cR : Cell1 W ⟨w.heap.size, 0, none⟩ (.slice none 0 0) := by rw [hW]; exact Cell1.new w (.slice none 0 0) 24
  have C := hid (l1New_c (hr.ext x0) hn)
  have HR := hid hr
  clear hr
  go_enter Tryd.func23, Tryd.ntmps23
  go_wp2_with fail
  rw [← hW]
  clear hW
  refine C.out.mono ?_
  rintro e w1 ⟨rfl, hc1, y1⟩
  have z1 := y1.size
  have x1 := ext_trans x0 y1
  have s1 := World.block_lt_of_cell? _ _ hc1.choose_spec.choose_spec.1
  simp only at s1
  rw [hWs] at hc1 s1 ⊢
  have R1 := cR.ext y1
  have C := hid (l5Any_c hc1 (HR.out.ext x1) (.inr (by omega)) (by omega) s1)
  clear hc1 cR y1
  go_wp2_with fail
  refine C.out.mono ?_
  rintro e w2 ⟨_, ss, rfl, ⟨s2, rfl, o1⟩, hsm, hc2, m2⟩
  obtain ⟨a, cap, rfl, _⟩ := o1.rd.form
  have s2 := m2.size
  have M2 := Mut.ext x1 m2 (by omega)
  have R2 := R1.mut m2 (.inl (by simp only; omega))
  clear R1 m2 C x1 x0
  obtain ⟨V, hV⟩ : ∃ V, V = w2.alloc (.cells #[.slice a ss.length cap] 24) := ⟨_, rfl⟩
  have y2 : Below w2.heap.size w2 V := by rw [hV]; exact ext_alloc (ext_refl w2) _
  have hVs : V.heap.size = w2.heap.size + 1 := by rw [hV]; simp
  have cT : Cell1 V ⟨w2.heap.size, 0, none⟩ (.slice a ss.length cap) := by rw [hV]; exact Cell1.new w2 _ 24
  obtain ⟨U, hU⟩ : ∃ U, U = V.alloc (.cells #[.string (⟨#[63, 120]⟩ : ByteArray), .string (⟨#[113]⟩ : ByteArray)] 74) := ⟨_, rfl⟩
  have yu : Below V.heap.size V U := by rw [hU]; exact ext_alloc (ext_refl V) _
  have hUs : U.heap.size = V.heap.size + 1 := by rw [hU]; simp
  have rB0 : Rd U V.heap.size (V.heap.size + 1) 2 (.slice (some ⟨V.heap.size, 0, none⟩) 1 1) 1 [.string (⟨#[63, 120]⟩ : ByteArray), .string (⟨#[113]⟩ : ByteArray)] := by rw [hU]; exact Rd.new V [.string (⟨#[63, 120]⟩ : ByteArray), .string (⟨#[113]⟩ : ByteArray)] 74 2 1 (by decide) rfl
  have yd : Below w2.heap.size w2 V.drew := Below.drew y2
  have ye : Below V.heap.size V V.drew := Below.drew (ext_refl _)
  have yf : Below w2.heap.size w2 U.drew := Below.drew (ext_trans y2 yu)
  have yg : Below V.heap.size V U.drew := Below.drew yu
  have yh : Below U.heap.size U U.drew := Below.drew (ext_refl _)
  have qd : w2.heap.size + 1 ≤ V.drew.heap.size ∧ V.drew.heap.size ≤ w2.heap.size + 1 := ⟨Nat.le_of_eq hVs.symm, Nat.le_of_eq hVs⟩
  have qe : V.heap.size + 1 ≤ U.drew.heap.size ∧ U.drew.heap.size ≤ V.heap.size + 1 := ⟨Nat.le_of_eq hUs.symm, Nat.le_of_eq hUs⟩
  obtain ⟨qd1, qd2⟩ := qd
  obtain ⟨qe1, qe2⟩ := qe
  have hl3 : w2.heap.size < V.heap.size := by omega
  have P3 := o1.rd.ext yd
  have R3 := R2.ext yd
  have T3 := cT.ext ye
  have M3 := ext_trans M2 yd
  have hc3 := hc2.ext yd
  have hr3 := HR.out.ext M3
  have P4 := o1.rd.ext yf
  have R4 := R2.ext yf
  have T4 := cT.ext yg
  have M4 := ext_trans M2 yf
  have hc4 := hc2.ext yf
  have hr4 := HR.out.ext M4
  have B4 := rB0.ext yh
  have CA := hid (l5Binds_c hc3 hr3 (.inr (by omega)) (by omega) (by omega))
  have CB := hid (l5Binds_c hc4 hr4 (.inr (by omega)) (by omega) (by omega))
  obtain ⟨T3a, T3b⟩ := id T3
  obtain ⟨T2a, T2b⟩ := id cT
  rw [hU] at yu rB0 yf yg yh qe1 qe2 P4 R4 T4 M4 hc4 hr4 B4 CB
  obtain ⟨T4a, T4b⟩ := id T4
  clear hVs hUs hU hc3 hr3 hc4 hr4 hc2 o1 y2 yd ye yu yf yg yh M2 R2 rB0
  go_wp2_with fail
  rw [← hV]
  clear hV
  go_region_law (first
    | (refine step_append_Own rfl (.tmp 12) (.tmp 14) 37 rfl 74 i0 (.agg #[.string ByteArray.empty, .string ByteArray.empty]) 2 32 Tryd.underlying37 hi0 hz0 hz1 hz2 rfl (by decide) rfl o5 rfl B5 (two_cells _ _) (by omega) (by omega) q4 ?_; intro v' w' ho2 hmu; have s6 := hmu.size; have R6 := R5.mut hmu (.inl (by simp only; omega)); have T6 := T5.mut hmu (.inl (by simp only; omega)); have P6 := P5.mut hmu (.inl (by omega)); have M6 := Mut.ext M5 hmu (by omega); have qF : w2.heap.size ≤ w'.heap.size := (by omega); have o6 := ho2.rd.mono (show w.heap.size + 1 ≤ _ by omega) (Nat.le_refl _); obtain ⟨R6a, R6b⟩ := id R6; obtain ⟨T6a, T6b⟩ := id T6; clear R5 T5 P5 M5 hmu ho2 o5 B5)
    | (refine step_append_Own rfl (.tmp 12) (.tmp 14) 37 rfl 74 i0 (.agg #[.string ByteArray.empty, .string ByteArray.empty]) 2 32 Tryd.underlying37 hi0 hz0 hz1 hz2 rfl (by decide) rfl (o5.ext (ext_alloc (ext_refl _) _)) rfl (Rd.new _ [.string (⟨#[63, 120]⟩ : ByteArray), .string (⟨#[113]⟩ : ByteArray)] 74 2 1 (by decide) rfl) (two_cells _ _) (by omega) (by omega) (Nat.le_trans q4 (ext_alloc (ext_refl _) _).size) ?_; intro v' w' ho2 hmu; have y5 := ext_alloc (ext_refl w4) (.cells #[.string (⟨#[63, 120]⟩ : ByteArray), .string (⟨#[113]⟩ : ByteArray)] 74); have s5 := y5.size; have s6 := hmu.size; have R6 := (R5.ext y5).mut hmu (.inl (by simp only; omega)); have T6 := (T5.ext y5).mut hmu (.inl (by simp only; omega)); have P6 := (P5.ext y5).mut hmu (.inl (by omega)); have M6 := Mut.ext (ext_trans M5 y5) hmu (by omega); have qF : w2.heap.size ≤ w'.heap.size := (by omega); have o6 := ho2.rd.mono (show w.heap.size + 1 ≤ _ by omega) (Nat.le_refl _); obtain ⟨R6a, R6b⟩ := id R6; obtain ⟨T6a, T6b⟩ := id T6; clear y5 R5 T5 P5 M5 hmu ho2 o5)
    | (go_simp; go_at_call 63; (with_reducible refine CA.out.mono ?_); rintro e w4 ⟨r4, m, bs, rfl, o5, hm, hbs, hc4, m4⟩; obtain ⟨a4, cap4, rfl, _⟩ := o5.rd.form; have q4 := m4.size; have R5 := R3.mut m4 (.inl (by simp only; omega)); have T5 := T3.mut m4 (.inr (by simp only; omega)); have P5 := P3.mut m4 (.inr (by omega)); have M5 := Mut.ext M3 m4 (by omega); obtain ⟨R5a, R5b⟩ := id R5; obtain ⟨T5a, T5b⟩ := id T5; have hl6 : w2.heap.size < w4.heap.size := (by omega); have hl7 : w.heap.size < w4.heap.size := (by omega); clear m4 R3 T3 P3 M3 R4 T4 P4 M4 B4 CA CB hc4)
    | (go_simp; go_at_call 63; (with_reducible refine CB.out.mono ?_); rintro e w4 ⟨r4, m, bs, rfl, o5, hm, hbs, hc4, m4⟩; obtain ⟨a4, cap4, rfl, _⟩ := o5.rd.form; have q4 := m4.size; have R5 := R4.mut m4 (.inl (by simp only; omega)); have T5 := T4.mut m4 (.inr (by simp only; omega)); have P5 := P4.mut m4 (.inr (by omega)); have B5 := B4.mut m4 (.inr (by omega)); have M5 := Mut.ext M4 m4 (by omega); obtain ⟨R5a, R5b⟩ := id R5; obtain ⟨T5a, T5b⟩ := id T5; have hl6 : w2.heap.size < w4.heap.size := (by omega); have hl7 : w.heap.size < w4.heap.size := (by omega); clear m4 R3 T3 P3 M3 R4 T4 P4 M4 B4 CA CB hc4))
  all_goals
    have n3 := Mut.setCell w' (lo := w.heap.size) (hi := w.heap.size + 1) (p := ⟨w.heap.size, 0, none⟩) (by simp) (by simp) (.slice a ss.length cap)
    have k2 := R6.set (.slice a ss.length cap)
    have F0 := (P6.mut n3 (.inr (by omega))).mono (show w.heap.size ≤ _ by omega) (Nat.le_trans qF n3.size)
    have o7 := (o6.mut n3 (.inr (Nat.le_refl _))).mono (show w.heap.size ≤ w.heap.size + 1 by omega) n3.size
    rw [map_pair] at o7
    have G1 : Hid (InstD w _ _) := ⟨_, _, ss, m + 1, _, rfl, ⟨_, rfl, F0⟩, o7, hsm, by omega, mem_pair hbs (by decide) (by decide)⟩
    have G3 := hid (n3.ext M6 (Nat.le_refl _))
    obtain ⟨k2a, k2b⟩ := k2
    clear F0 M6 o6 o7 R6 T6 P6 n3
    go_wp2
    exact bodyPost_ret (v := .tuple #[.agg #[.slice a ss.length cap], v']) (by simp [results, Tryd.results23, go_sem, k2a]) rfl (gives_of _ G1.out G3.out)
def xqL : List ByteArray := [⟨#[63, 120]⟩, ⟨#[63, 121]⟩, ⟨#[63, 113]⟩, ⟨#[]⟩]
theorem xqL_small : ∀ s ∈ xqL, s.size ≤ 16 := by decide
set_option maxRecDepth 100000 in
set_option maxHeartbeats 4000000 in
theorem DrawBindingValue_c {w : World} {lo hi n : Nat} {cv : Value} {xs : List UInt8} (hr : Rd w lo hi 1 cv n (xs.map bv)) (hn : n ≤ 1099511627776) (hhi : hi ≤ w.heap.size) :
    Calls Tryd.prog 26 #[cv] w (Gives w (BindD w)) := by
  have C := hid (l1New_c hr hn)
  have HR := hid hr
  clear hr
  go_enter Tryd.func26, Tryd.ntmps26
  go_wp2_with fail
  refine C.out.mono ?_
  rintro e w1 ⟨rfl, hc1, y1⟩
  have z1 := y1.size
  have s1 := World.block_lt_of_cell? _ _ hc1.choose_spec.choose_spec.1
  simp only at s1
  have C := hid (l5Binds_c hc1 (HR.out.ext y1) (.inr (by omega)) (by omega) s1)
  clear hc1
  go_wp2_with fail
  refine C.out.mono ?_
  rintro e w2 ⟨_, m, bs, rfl, o5, hm, hbs, hc2, m2⟩
  obtain ⟨a4, cap4, rfl, _⟩ := o5.rd.form
  have s2 := m2.size
  have M2 := Mut.ext y1 m2 (Nat.le_refl _)
  have HB := hid hbs
  clear m2 C y1 hbs
  have yb : Below w2.heap.size w2 (w2.alloc (.cells #[.string { data := #[63, 120] }, .string { data := #[63, 121] }, .string { data := #[63, 113] }, .string { data := #[] }] 9)) := ext_alloc (ext_refl w2) _
  have rl : Rd (w2.alloc (.cells #[.string { data := #[63, 120] }, .string { data := #[63, 121] }, .string { data := #[63, 113] }, .string { data := #[] }] 9)) w2.heap.size (w2.heap.size + 1) 1 (.slice (some ⟨w2.heap.size, 0, none⟩) 4 4) 4 (xqL.map sv) := Rd.new w2 (xqL.map sv) 9 1 4 (by decide) rfl
  have CS := hid (l1Str_c (hc2.ext yb) ((HR.out.ext M2).ext yb) (.inr (by omega)) rl (.inl (by omega)) (by decide))
  have oX := o5.rd.ext yb
  have MX := ext_trans M2 yb
  have sX := yb.size
  clear hc2 o5 M2
  go_wp2_with fail
  refine CS.out.mono ?_
  rintro e w3 ⟨t, ht, rfl, hc3, m3⟩
  have o3 := hid ((oX.mut m3 (.inr (by omega))).mono (show w.heap.size ≤ _ by omega) (show w2.heap.size ≤ w3.heap.size from Nat.le_trans sX m3.size))
  have M3 := hid (Mut.ext MX m3 (Nat.le_refl _))
  have HT := hid (xqL_small t ht)
  clear CS oX MX rl yb m3 ht hc3
  go_wp2
  go_ret2
  exact gives_of _ ⟨_, m, bs, t, rfl, o3.out, by omega, HB.out, HT.out⟩ M3.out
set_option maxRecDepth 100000 in
set_option maxHeartbeats 2000000 in
theorem DrawParsePattern_c {w : World} {lo hi n : Nat} {cv : Value} {xs : List UInt8} (hr : Rd w lo hi 1 cv n (xs.map bv)) (hn : n ≤ 1099511627776) (hhi : hi ≤ w.heap.size) :
    Calls Tryd.prog 22 #[cv] w (Gives w (fun r w' => ∃ s : ByteArray, r = .string s ∧ s.size ≤ 150)) := by
  have C := hid (l1New_c hr hn)
  go_enter Tryd.func22, Tryd.ntmps22
  go_wp2_with fail
  refine C.out.mono ?_
  clear C
  rintro e w0 ⟨rfl, hc, y0⟩
  have hcs := World.block_lt_of_cell? _ _ hc.choose_spec.choose_spec.1
  simp only at hcs
  replace hr := hr.ext y0
  have X := hid y0
  clear y0
  have hd : w.heap.size < lo ∨ hi ≤ w.heap.size := .inr hhi
  have M := Mut.refl w.heap.size (w.heap.size + 1) w0
  have C := hid (l1Once_c (m := 3) hc hr hd (by omega))
  clear hc
  go_wp2_with fail
  refine C.out.mono ?_
  clear C
  rintro e w1 ⟨b, rfl, hc, m1⟩
  have s1 := m1.size
  replace hr := hr.mut m1 (by omega)
  replace M := M.trans m1
  clear m1
  cases b
  · have C := hid (l5Any_c hc hr hd (by omega) (by omega))
    clear hc
    go_wp2_with fail
    refine C.out.mono ?_
    clear C
    rintro e w2 ⟨v9, ss, rfl, oN, hsm, hc, m2⟩
    have s2 := m2.size
    replace hr := hr.mut m2 (by omega)
    replace M := M.trans m2
    clear m2
    have hwt := wt_small hsm
    have HSZ := hid (fmt_small hsm)
    obtain ⟨z9, rfl, _⟩ := id oN
    have C := hid (specFormatPattern_c oN.rd (by omega))
    go_wp2_with fail
    refine C.out.mono ?_
    clear C
    rintro e w3 ⟨_, rfl, rfl, y3⟩
    have s3 := y3.size
    replace hc := hc.ext y3
    replace hr := hr.ext y3
    replace M := M.trans (Mut.of_ext y3)
    replace oN := oN.ext y3
    clear y3
    have XF := hid (Mut.ext X.out M (Nat.le_refl _))
    go_wp2
    go_ret
    exact gives_of _ ⟨_, rfl, HSZ.out⟩ XF.out
  · have yb := ext_alloc (ext_refl w1) (.cells #[.string { data := #[] }, .string { data := #[47] }, .string { data := #[47, 42, 42, 47, 97] }, .string { data := #[47, 63, 120, 47, 97] }, .string { data := #[47, 42, 47, 42, 42] }, .string { data := #[47, 63] }, .string { data := #[97, 47, 42] }, .string { data := #[47, 97, 47] }] 9)
    have sb := yb.size
    have rl : Rd (w1.alloc (.cells #[.string { data := #[] }, .string { data := #[47] }, .string { data := #[47, 42, 42, 47, 97] }, .string { data := #[47, 63, 120, 47, 97] }, .string { data := #[47, 42, 47, 42, 42] }, .string { data := #[47, 63] }, .string { data := #[97, 47, 42] }, .string { data := #[47, 97, 47] }] 9)) w1.heap.size (w1.heap.size + 1) 1 (.slice (some ⟨w1.heap.size, 0, none⟩) 8 8) 8 (([⟨#[]⟩, ⟨#[47]⟩, ⟨#[47, 42, 42, 47, 97]⟩, ⟨#[47, 63, 120, 47, 97]⟩, ⟨#[47, 42, 47, 42, 42]⟩, ⟨#[47, 63]⟩, ⟨#[97, 47, 42]⟩, ⟨#[47, 97, 47]⟩] : List ByteArray).map sv) := Rd.new w1 (([⟨#[]⟩, ⟨#[47]⟩, ⟨#[47, 42, 42, 47, 97]⟩, ⟨#[47, 63, 120, 47, 97]⟩, ⟨#[47, 42, 47, 42, 42]⟩, ⟨#[47, 63]⟩, ⟨#[97, 47, 42]⟩, ⟨#[47, 97, 47]⟩] : List ByteArray).map sv) 9 1 8 (by decide) rfl
    have hss : ∀ s ∈ ([⟨#[]⟩, ⟨#[47]⟩, ⟨#[47, 42, 42, 47, 97]⟩, ⟨#[47, 63, 120, 47, 97]⟩, ⟨#[47, 42, 47, 42, 42]⟩, ⟨#[47, 63]⟩, ⟨#[97, 47, 42]⟩, ⟨#[47, 97, 47]⟩] : List ByteArray), s.size ≤ 16 := by decide
    have HSS := hid hss
    clear hss
    replace hc := hc.ext yb
    replace hr := hr.ext yb
    replace M := M.trans (Mut.of_ext yb)
    clear yb
    have C := hid (l1Str_c hc hr hd rl (.inl (by omega)) (by decide))
    clear hc
    go_wp2_with fail
    refine C.out.mono ?_
    clear C
    rintro e w4 ⟨t, ht, rfl, hc, m4⟩
    have s4 := m4.size
    replace hr := hr.mut m4 (by omega)
    replace M := M.trans m4
    clear m4
    have hts := HSS.out t ht
    clear rl ht HSS
    have XF := hid (Mut.ext X.out M (Nat.le_refl _))
    go_wp2
    go_ret
    exact gives_of _ ⟨_, rfl, Nat.le_trans hts (by decide)⟩ XF.out
end Go.Proofs.YtoehjfcadhgpbaaDoor