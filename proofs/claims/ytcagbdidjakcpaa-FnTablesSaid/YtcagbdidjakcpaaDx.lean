/- What the reference draws for FnTables, for a code of bytes: its shape and its size. Condition: the code reads and is not too long. -/
import Derived.Test.YtcagbdidjakcpaaDv
set_option linter.unusedVariables false
namespace Go.Proofs.Ytcagbdidjakcpaa
open Go.RowKit
/-- A table and a name. -/
def TabN (base : Nat) (r : Value) (w' : World) : Prop := ∃ (v1 v2 : Value) (ts : List (List ByteArray × Int)) (ss : List ByteArray), r = .tuple #[v1, v2] ∧ RdT w' base w'.heap.size v1 ts.length ts ∧ ts.length ≤ 21 ∧ TS ts ∧ RdN w' base w'.heap.size v2 ss.length (ss.map sv) ∧ Small 8 ss
def TabNI (base : Nat) (r : Value) (w' : World) : Prop := ∃ (v1 v2 : Value) (ts : List (List ByteArray × Int)) (ss : List ByteArray) (z : Int), r = .tuple #[v1, v2, .int .i64 z] ∧ RdT w' base w'.heap.size v1 ts.length ts ∧ ts.length ≤ 21 ∧ TS ts ∧ RdN w' base w'.heap.size v2 ss.length (ss.map sv) ∧ Small 7 ss
def TabTab (base : Nat) (r : Value) (w' : World) : Prop := ∃ (v1 v2 : Value) (ts tt : List (List ByteArray × Int)), r = .tuple #[v1, v2] ∧ RdT w' base w'.heap.size v1 ts.length ts ∧ ts.length ≤ 21 ∧ TS ts ∧ RdT w' base w'.heap.size v2 tt.length tt ∧ tt.length ≤ 21 ∧ TS tt
theorem RdT.mono {w : World} {lo hi lo' hi' n : Nat} {v : Value} {xs : List (List ByteArray × Int)} (h : RdT w lo hi v n xs) (h1 : lo' ≤ lo) (h2 : hi ≤ hi') : RdT w lo' hi' v n xs := by
  obtain ⟨g1, a, cap, rfl, g2, g3, g4⟩ := h
  refine ⟨g1, a, cap, rfl, g2, g3, fun hn => ?_⟩
  obtain ⟨b, off, rfl, k1, k2, k3, k4⟩ := g4 hn
  refine ⟨b, off, rfl, by omega, by omega, k3, fun k e he => ?_⟩
  obtain ⟨s, c1, c2, r⟩ := k4 k e he
  exact ⟨s, c1, c2, r.mono h1 h2⟩

set_option maxRecDepth 100000 in
set_option maxHeartbeats 4000000 in
theorem DrawEntriesUnder_c {w : World} {lo hi n : Nat} {cv : Value} {xs : List UInt8} (hr : Rd w lo hi 1 cv n (xs.map bv)) (hn : n ≤ 1099511627776) (hhi : hi ≤ w.heap.size) :
    Calls Try.prog 48 #[cv] w (Gives w (TabN w.heap.size)) := by
  obtain ⟨W, hW⟩ : ∃ W, W = w.alloc (.cells #[.slice none 0 0] 26) := ⟨_, rfl⟩
  have x0 : Below w.heap.size w W := by rw [hW]; exact ext_alloc (ext_refl w) _
  have hWs : W.heap.size = w.heap.size + 1 := by rw [hW]; simp
  have cR : Cell1 W ⟨w.heap.size, 0, none⟩ (.slice none 0 0) := by rw [hW]; exact Cell1.new w (.slice none 0 0) 26
  have C := hid (l1New_c (hr.ext x0) hn)
  have HR := hid hr
  clear hr
  go_enter Try.func48, Try.ntmps48
  go_wp2_with fail
  rw [← hW]
  clear hW
  refine C.out.mono ?_
  clear C
  rintro e w1 ⟨rfl, hc1, y1⟩
  have z1 := y1.size
  have x1 := ext_trans x0 y1
  have s1 := World.block_lt_of_cell? _ _ hc1.choose_spec.choose_spec.1
  simp only at s1
  rw [hWs] at hc1 s1 ⊢
  have cR1 := cR.ext y1
  have C := hid (l6Any_c hc1 (HR.out.ext x1) (.inr (by omega)) (by omega) s1)
  clear hc1 cR y1
  go_wp2_with fail
  refine C.out.mono ?_
  clear C
  rintro e w2 ⟨u1, rfl, ⟨ts, rt, hlt, hts⟩, hc2, m2⟩
  have s2 := m2.size
  have X2 := Mut.ext x1 m2 (by omega)
  have cR2 := cR1.mut m2 (.inl (by simp only; omega))
  have HTS := hid hts
  obtain ⟨a1, q1, rfl, _⟩ := rt.form
  clear m2 cR1 hts
  have C := hid (l4Name_c hc2 (HR.out.ext X2) (.inr (by omega)) (by omega) (by omega))
  clear hc2
  go_wp2_with fail
  refine C.out.mono ?_
  clear C
  rintro e w3 ⟨_, ss, rfl, ⟨s9, rfl, o9⟩, hsm, hc3, m3⟩
  have s3 := m3.size
  have rt3 := rt.mut m3 (.inr (by omega))
  have cR3 := cR2.mut m3 (.inl (by simp only; omega))
  have X3 := Mut.ext X2 m3 (by omega)
  obtain ⟨a9, c9, rfl, _⟩ := o9.rd.form
  clear m3 cR2 rt X2
  clear hc3
  have n3 := Mut.setCell w3 (lo := w.heap.size) (hi := w.heap.size + 1) (p := ⟨w.heap.size, 0, none⟩) (by simp) (by simp) (.slice a9 ss.length c9)
  obtain ⟨R5a, R5b⟩ := id cR3
  have k2 := cR3.set (.slice a9 ss.length c9)
  have F1 := hid ((o9.rd.mut n3 (.inr (by omega))).mono (show w.heap.size ≤ _ by omega) (Nat.le_trans (by omega) n3.size))
  have F2 := hid ((rt3.mut n3 (.inr (by omega))).mono (show w.heap.size ≤ _ by omega) (Nat.le_trans (by omega) n3.size))
  have F3 := hid (n3.ext X3 (Nat.le_refl _))
  obtain ⟨k2a, k2b⟩ := k2
  clear n3 X3 cR3
  go_wp2
  exact bodyPost_ret (v := .tuple #[.slice a1 ts.length q1, .agg #[.slice a9 ss.length c9]]) (by simp [results, Try.results48, go_sem, k2a]) rfl (gives_of _ ⟨_, _, ts, ss, rfl, F2.out, hlt, HTS.out, ⟨_, rfl, F1.out⟩, hsm.up (by decide)⟩ F3.out)
set_option maxRecDepth 100000 in
set_option maxHeartbeats 4000000 in
theorem DrawPutEntry_c {w : World} {lo hi n : Nat} {cv : Value} {xs : List UInt8} (hr : Rd w lo hi 1 cv n (xs.map bv)) (hn : n ≤ 1099511627776) (hhi : hi ≤ w.heap.size) :
    Calls Try.prog 45 #[cv] w (Gives w (TabNI w.heap.size)) := by
  obtain ⟨W, hW⟩ : ∃ W, W = w.alloc (.cells #[.slice none 0 0] 26) := ⟨_, rfl⟩
  have x0 : Below w.heap.size w W := by rw [hW]; exact ext_alloc (ext_refl w) _
  have hWs : W.heap.size = w.heap.size + 1 := by rw [hW]; simp
  have cR : Cell1 W ⟨w.heap.size, 0, none⟩ (.slice none 0 0) := by rw [hW]; exact Cell1.new w (.slice none 0 0) 26
  have C := hid (l1New_c (hr.ext x0) hn)
  have HR := hid hr
  clear hr
  go_enter Try.func45, Try.ntmps45
  go_wp2_with fail
  rw [← hW]
  clear hW
  refine C.out.mono ?_
  clear C
  rintro e w1 ⟨rfl, hc1, y1⟩
  have z1 := y1.size
  have x1 := ext_trans x0 y1
  have s1 := World.block_lt_of_cell? _ _ hc1.choose_spec.choose_spec.1
  simp only at s1
  rw [hWs] at hc1 s1 ⊢
  have cR1 := cR.ext y1
  have C := hid (l6Any_c hc1 (HR.out.ext x1) (.inr (by omega)) (by omega) s1)
  clear hc1 cR y1
  go_wp2_with fail
  refine C.out.mono ?_
  clear C
  rintro e w2 ⟨u1, rfl, ⟨ts, rt, hlt, hts⟩, hc2, m2⟩
  have s2 := m2.size
  have X2 := Mut.ext x1 m2 (by omega)
  have cR2 := cR1.mut m2 (.inl (by simp only; omega))
  have HTS := hid hts
  obtain ⟨a1, q1, rfl, _⟩ := rt.form
  clear m2 cR1 hts
  have C := hid (l4Any_c hc2 (HR.out.ext X2) (.inr (by omega)) (by omega) (by omega))
  clear hc2
  go_wp2_with fail
  refine C.out.mono ?_
  clear C
  rintro e w3 ⟨_, ss, rfl, ⟨s9, rfl, o9⟩, hsm, hc3, m3⟩
  have s3 := m3.size
  have rt3 := rt.mut m3 (.inr (by omega))
  have cR3 := cR2.mut m3 (.inl (by simp only; omega))
  have X3 := Mut.ext X2 m3 (by omega)
  obtain ⟨a9, c9, rfl, _⟩ := o9.rd.form
  clear m3 cR2 rt X2
  have y2 := ext_alloc (ext_refl w3) (.cells #[.slice a9 ss.length c9] 26)
  obtain ⟨w4, hV⟩ : ∃ V, V = w3.alloc (.cells #[.slice a9 ss.length c9] 26) := ⟨_, rfl⟩
  have cT : w4.cell? ⟨w3.heap.size, 0, none⟩ = some (.slice a9 ss.length c9) := by rw [hV]; simp
  have hVs : w4.heap.size = w3.heap.size + 1 := by rw [hV]; simp
  rw [← hV] at y2
  have yb : Below w4.heap.size w4 w4.drew := Below.drew (ext_refl w4)
  have X4 := ext_trans (ext_trans X3 y2) yb
  have CS := hid (l1Below_c (m := 9) ((hc3.ext y2).ext yb) (HR.out.ext X4) (.inr (by omega)) (by omega))
  have cd := cell_ext cT yb
  have od := (o9.ext y2).ext yb
  have rd4 := (rt3.ext y2).ext yb
  have R4 := (cR3.ext y2).ext yb
  have hV1 : w3.heap.size < w4.heap.size := by omega
  have qb := yb.size
  clear hVs hc3 o9 y2 cR3 cT rt3 yb X3
  go_wp2_with fail
  rw [← hV]
  clear hV
  go_region_law (first
    | (go_simp; go_at_call 108; refine CS.out.mono ?_; rintro e w5 ⟨z, rfl, z0, z1', hc5, m5⟩; have q5 := m5.size; replace cd := cell_mut cd m5 (.inr (by simp only; omega)); have R5 := R4.mut m5 (.inl (by simp only; omega)); obtain ⟨R5a, R5b⟩ := id R5))
  all_goals
    have oF := od.mut m5 (.inr (by omega))
    have rF := rd4.mut m5 (.inr (by omega))
    have XF := Mut.ext X4 m5 (by omega)
    clear CS cd od rd4 R4 hc5 m5
    have n3 := Mut.setCell w5 (lo := w.heap.size) (hi := w.heap.size + 1) (p := ⟨w.heap.size, 0, none⟩) (by simp) (by simp) (.slice a9 ss.length c9)
    obtain ⟨R5a, R5b⟩ := id R5
    have k2 := R5.set (.slice a9 ss.length c9)
    have F1 := hid ((oF.rd.mut n3 (.inr (by omega))).mono (show w.heap.size ≤ _ by omega) (Nat.le_trans (by omega) n3.size))
    have F2 := hid ((rF.mut n3 (.inr (by omega))).mono (show w.heap.size ≤ _ by omega) (Nat.le_trans (by omega) n3.size))
    have F3 := hid (n3.ext XF (Nat.le_refl _))
    obtain ⟨k2a, k2b⟩ := k2
    clear n3 XF R5
    go_wp2
    exact bodyPost_ret (v := .tuple #[.slice a1 ts.length q1, .agg #[.slice a9 ss.length c9], .int .i64 z]) (by simp [results, Try.results45, go_sem, k2a]) rfl (gives_of _ ⟨_, _, ts, ss, z, rfl, F2.out, hlt, HTS.out, ⟨_, rfl, F1.out⟩, hsm⟩ F3.out)
set_option maxRecDepth 100000 in
set_option maxHeartbeats 2000000 in
theorem DrawRemoveEntry_c {w : World} {lo hi n : Nat} {cv : Value} {xs : List UInt8} (hP : ∀ W : World, Rd W lo hi 1 cv n (xs.map bv) → hi ≤ W.heap.size → Calls Try.prog 109 #[cv] W (Gives W (TabN W.heap.size))) (hr : Rd w lo hi 1 cv n (xs.map bv)) (hn : n ≤ 1099511627776) (hhi : hi ≤ w.heap.size) :
    Calls Try.prog 47 #[cv] w (Gives w (TabN w.heap.size)) := by
  obtain ⟨W, hW⟩ : ∃ W, W = w.alloc (.cells #[.slice none 0 0] 26) := ⟨_, rfl⟩
  have x0 : Below w.heap.size w W := by rw [hW]; exact ext_alloc (ext_refl w) _
  have hWs : W.heap.size = w.heap.size + 1 := by rw [hW]; simp
  have cR : Cell1 W ⟨w.heap.size, 0, none⟩ (.slice none 0 0) := by rw [hW]; exact Cell1.new w (.slice none 0 0) 26
  have C := hid (hP W (hr.ext x0) (by omega))
  clear hr hP
  go_enter Try.func47, Try.ntmps47
  go_wp2_with fail
  rw [← hW]
  clear hW
  refine C.out.mono ?_
  clear C
  rintro e w3 ⟨_, rfl, ⟨_, _, ts, ss, rfl, rt3, hlt, hts, ⟨s9, rfl, o9⟩, hsm⟩, y1⟩
  have z1 := y1.size
  have X3 := ext_trans x0 y1
  have cR3 := cR.ext y1
  have HTS := hid hts
  obtain ⟨a1, q1, rfl, _⟩ := rt3.form
  obtain ⟨a9, c9, rfl, _⟩ := o9.form
  clear y1 x0 cR hts
  have n3 := Mut.setCell w3 (lo := w.heap.size) (hi := w.heap.size + 1) (p := ⟨w.heap.size, 0, none⟩) (by simp) (by simp) (.slice a9 ss.length c9)
  obtain ⟨R5a, R5b⟩ := id cR3
  have k2 := cR3.set (.slice a9 ss.length c9)
  have F1 := hid ((o9.mut n3 (.inr (by omega))).mono (show w.heap.size ≤ _ by omega) (Nat.le_trans (by omega) n3.size))
  have F2 := hid ((rt3.mut n3 (.inr (by omega))).mono (show w.heap.size ≤ _ by omega) (Nat.le_trans (by omega) n3.size))
  have F3 := hid (n3.ext X3 (Nat.le_refl _))
  obtain ⟨k2a, k2b⟩ := k2
  clear n3 X3 cR3
  go_wp2
  exact bodyPost_ret (v := .tuple #[.slice a1 ts.length q1, .agg #[.slice a9 ss.length c9]]) (by simp [results, Try.results47, go_sem, k2a]) rfl (gives_of _ ⟨_, _, ts, ss, rfl, F2.out, hlt, HTS.out, ⟨_, rfl, F1.out⟩, hsm⟩ F3.out)
set_option maxRecDepth 100000 in
set_option maxHeartbeats 2000000 in
theorem DrawLookupEntry_c {w : World} {lo hi n : Nat} {cv : Value} {xs : List UInt8} (hP : ∀ W : World, Rd W lo hi 1 cv n (xs.map bv) → hi ≤ W.heap.size → Calls Try.prog 109 #[cv] W (Gives W (TabN W.heap.size))) (hr : Rd w lo hi 1 cv n (xs.map bv)) (hn : n ≤ 1099511627776) (hhi : hi ≤ w.heap.size) :
    Calls Try.prog 50 #[cv] w (Gives w (TabN w.heap.size)) := by
  obtain ⟨W, hW⟩ : ∃ W, W = w.alloc (.cells #[.slice none 0 0] 26) := ⟨_, rfl⟩
  have x0 : Below w.heap.size w W := by rw [hW]; exact ext_alloc (ext_refl w) _
  have hWs : W.heap.size = w.heap.size + 1 := by rw [hW]; simp
  have cR : Cell1 W ⟨w.heap.size, 0, none⟩ (.slice none 0 0) := by rw [hW]; exact Cell1.new w (.slice none 0 0) 26
  have C := hid (hP W (hr.ext x0) (by omega))
  clear hr hP
  go_enter Try.func50, Try.ntmps50
  go_wp2_with fail
  rw [← hW]
  clear hW
  refine C.out.mono ?_
  clear C
  rintro e w3 ⟨_, rfl, ⟨_, _, ts, ss, rfl, rt3, hlt, hts, ⟨s9, rfl, o9⟩, hsm⟩, y1⟩
  have z1 := y1.size
  have X3 := ext_trans x0 y1
  have cR3 := cR.ext y1
  have HTS := hid hts
  obtain ⟨a1, q1, rfl, _⟩ := rt3.form
  obtain ⟨a9, c9, rfl, _⟩ := o9.form
  clear y1 x0 cR hts
  have n3 := Mut.setCell w3 (lo := w.heap.size) (hi := w.heap.size + 1) (p := ⟨w.heap.size, 0, none⟩) (by simp) (by simp) (.slice a9 ss.length c9)
  obtain ⟨R5a, R5b⟩ := id cR3
  have k2 := cR3.set (.slice a9 ss.length c9)
  have F1 := hid ((o9.mut n3 (.inr (by omega))).mono (show w.heap.size ≤ _ by omega) (Nat.le_trans (by omega) n3.size))
  have F2 := hid ((rt3.mut n3 (.inr (by omega))).mono (show w.heap.size ≤ _ by omega) (Nat.le_trans (by omega) n3.size))
  have F3 := hid (n3.ext X3 (Nat.le_refl _))
  obtain ⟨k2a, k2b⟩ := k2
  clear n3 X3 cR3
  go_wp2
  exact bodyPost_ret (v := .tuple #[.slice a1 ts.length q1, .agg #[.slice a9 ss.length c9]]) (by simp [results, Try.results50, go_sem, k2a]) rfl (gives_of _ ⟨_, _, ts, ss, rfl, F2.out, hlt, HTS.out, ⟨_, rfl, F1.out⟩, hsm⟩ F3.out)
set_option maxRecDepth 100000 in
set_option maxHeartbeats 2000000 in
theorem DrawLongestPrefix_c {w : World} {lo hi n : Nat} {cv : Value} {xs : List UInt8} (hP : ∀ W : World, Rd W lo hi 1 cv n (xs.map bv) → hi ≤ W.heap.size → Calls Try.prog 109 #[cv] W (Gives W (TabN W.heap.size))) (hr : Rd w lo hi 1 cv n (xs.map bv)) (hn : n ≤ 1099511627776) (hhi : hi ≤ w.heap.size) :
    Calls Try.prog 46 #[cv] w (Gives w (TabN w.heap.size)) := by
  obtain ⟨W, hW⟩ : ∃ W, W = w.alloc (.cells #[.slice none 0 0] 26) := ⟨_, rfl⟩
  have x0 : Below w.heap.size w W := by rw [hW]; exact ext_alloc (ext_refl w) _
  have hWs : W.heap.size = w.heap.size + 1 := by rw [hW]; simp
  have cR : Cell1 W ⟨w.heap.size, 0, none⟩ (.slice none 0 0) := by rw [hW]; exact Cell1.new w (.slice none 0 0) 26
  have C := hid (hP W (hr.ext x0) (by omega))
  clear hr hP
  go_enter Try.func46, Try.ntmps46
  go_wp2_with fail
  rw [← hW]
  clear hW
  refine C.out.mono ?_
  clear C
  rintro e w3 ⟨_, rfl, ⟨_, _, ts, ss, rfl, rt3, hlt, hts, ⟨s9, rfl, o9⟩, hsm⟩, y1⟩
  have z1 := y1.size
  have X3 := ext_trans x0 y1
  have cR3 := cR.ext y1
  have HTS := hid hts
  obtain ⟨a1, q1, rfl, _⟩ := rt3.form
  obtain ⟨a9, c9, rfl, _⟩ := o9.form
  clear y1 x0 cR hts
  have n3 := Mut.setCell w3 (lo := w.heap.size) (hi := w.heap.size + 1) (p := ⟨w.heap.size, 0, none⟩) (by simp) (by simp) (.slice a9 ss.length c9)
  obtain ⟨R5a, R5b⟩ := id cR3
  have k2 := cR3.set (.slice a9 ss.length c9)
  have F1 := hid ((o9.mut n3 (.inr (by omega))).mono (show w.heap.size ≤ _ by omega) (Nat.le_trans (by omega) n3.size))
  have F2 := hid ((rt3.mut n3 (.inr (by omega))).mono (show w.heap.size ≤ _ by omega) (Nat.le_trans (by omega) n3.size))
  have F3 := hid (n3.ext X3 (Nat.le_refl _))
  obtain ⟨k2a, k2b⟩ := k2
  clear n3 X3 cR3
  go_wp2
  exact bodyPost_ret (v := .tuple #[.slice a1 ts.length q1, .agg #[.slice a9 ss.length c9]]) (by simp [results, Try.results46, go_sem, k2a]) rfl (gives_of _ ⟨_, _, ts, ss, rfl, F2.out, hlt, HTS.out, ⟨_, rfl, F1.out⟩, hsm⟩ F3.out)
set_option maxRecDepth 100000 in
set_option maxHeartbeats 4000000 in
theorem DrawEqualTables_c {w : World} {lo hi n : Nat} {cv : Value} {xs : List UInt8} (hr : Rd w lo hi 1 cv n (xs.map bv)) (hn : n ≤ 1099511627776) (hhi : hi ≤ w.heap.size) :
    Calls Try.prog 49 #[cv] w (Gives w (TabTab w.heap.size)) := by
  have C := hid (l1New_c hr hn)
  have HR := hid hr
  clear hr
  go_enter Try.func49, Try.ntmps49
  go_wp2_with fail
  refine C.out.mono ?_
  clear C
  rintro e w1 ⟨rfl, hc1, y1⟩
  have z1 := y1.size
  have s1 := World.block_lt_of_cell? _ _ hc1.choose_spec.choose_spec.1
  simp only at s1
  have C := hid (l6Any_c hc1 (HR.out.ext y1) (.inr (by omega)) (by omega) s1)
  clear hc1
  go_wp2_with fail
  refine C.out.mono ?_
  clear C
  rintro e w2 ⟨u1, rfl, ⟨ts, rt, hlt, hts⟩, hc2, m2⟩
  have s2 := m2.size
  have X2 := Mut.ext y1 m2 (Nat.le_refl _)
  have HTS := hid hts
  have htw := hts.tw
  obtain ⟨a1, q1, rfl, _⟩ := rt.form
  have C := hid (l1Once_c (m := 2) hc2 (HR.out.ext X2) (.inr (by omega)) (by omega))
  clear hc2 m2 hts
  go_wp2_with fail
  refine C.out.mono ?_
  clear C
  rintro e w3 ⟨b, rfl, hc3, m3⟩
  have s3 := m3.size
  have X3 := Mut.ext X2 m3 (Nat.le_refl _)
  have rt3 := rt.mut m3 (.inr (by omega))
  clear m3 rt X2
  cases b
  · have C := hid (l6Any_c hc3 (HR.out.ext X3) (.inr (by omega)) (by omega) (by omega))
    clear hc3
    go_wp2_with fail
    refine C.out.mono ?_
    clear C
    rintro e w4 ⟨u2, rfl, ⟨tt, rt2, hlt2, htt⟩, hc4, m4⟩
    have s4 := m4.size
    have X4 := Mut.ext X3 m4 (Nat.le_refl _)
    have F1 := hid ((rt3.mut m4 (.inr (by omega))).mono (show w.heap.size ≤ _ by omega) (Nat.le_trans s3 s4))
    have F2 := hid (rt2.mono (show w.heap.size ≤ _ by omega) (Nat.le_refl _))
    clear m4 hc4 X3 rt3 rt2
    go_wp2
    go_ret2
    exact gives_of _ ⟨_, _, ts, tt, rfl, F1.out, hlt, HTS.out, F2.out, hlt2, htt⟩ X4
  · have C := hid (l6Copy_c rt3 (by omega) (by omega))
    go_wp2_with fail
    refine C.out.mono ?_
    clear C
    rintro e w4 ⟨u2, rfl, oc, y4⟩
    have s4 := y4.size
    have X4 := ext_trans X3 y4
    have F1 := hid ((rt3.ext y4).mono (show w.heap.size ≤ _ by omega) (Nat.le_trans s3 s4))
    have F2 := hid (oc.rd.mono (show w.heap.size ≤ _ by omega) (Nat.le_refl _))
    clear y4 hc3 X3 rt3 oc
    go_wp2
    go_ret2
    exact gives_of _ ⟨_, _, ts, ts, rfl, F1.out, hlt, HTS.out, F2.out, hlt, HTS.out⟩ X4
end Go.Proofs.Ytcagbdidjakcpaa
