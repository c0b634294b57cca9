/- What the reference draws for FnNames, for a code of bytes: its shape and its size. Condition: the code reads and is not too long. -/
import Derived.Test.YtoehjfcadhgpbaaDoorDw
import Derived.Test.YtoehjfcadhgpbaaDoorJn
set_option linter.unusedVariables false
namespace Go.Proofs.YtoehjfcadhgpbaaDoor
open Go.RowKit
theorem sum_le (l : List Nat) (B : Nat) (h : ∀ x ∈ l, x ≤ B) : l.sum ≤ l.length * B := by
  induction l with
  | nil => simp
  | cons a l ih =>
    have h1 := h a (List.mem_cons_self ..)
    have h2 := ih fun x hx => h x (List.mem_cons_of_mem _ hx)
    rw [List.sum_cons, List.length_cons, Nat.succ_mul]
    omega
theorem wt_small {ss : List ByteArray} (h : Small 7 ss) : wt ss ≤ 119 := by
  unfold wt wtP
  rw [List.take_length]
  have h1 := sum_le (ss.map fun s => s.size) 16 (by intro x hx; obtain ⟨s, hs, rfl⟩ := List.mem_map.1 hx; exact h.2 s hs)
  rw [List.length_map] at h1
  have := h.1
  omega
theorem fmt_small {ss : List ByteArray} (h : Small 7 ss) : (fmt ss).size ≤ 150 := by
  by_cases h0 : ss.length = 0
  · rw [fmt_zero h0]; decide
  · rw [fmt_pos h0]
    have h1 := fm_le ss ss.length (Nat.le_refl _)
    have h2 := wt_small h
    show (fm ss ss.length).length ≤ 150
    omega
set_option maxRecDepth 100000 in
set_option maxHeartbeats 2000000 in
theorem DrawValidPart_c {w : World} {lo hi n : Nat} {cv : Value} {xs : List UInt8} (hr : Rd w lo hi 1 cv n (xs.map bv)) (hn : n ≤ 1099511627776) (hhi : hi ≤ w.heap.size) :
    Calls Tryd.prog 43 #[cv] w (Gives w (fun r w' => ∃ s : ByteArray, r = .string s ∧ s.size ≤ 16)) := by
  have C := hid (l1New_c hr hn)
  go_enter Tryd.func43, Tryd.ntmps43
  go_wp2_with fail
  refine C.out.mono ?_
  clear C
  rintro e w0 ⟨rfl, hc, y0⟩
  have hcs := World.block_lt_of_cell? _ _ hc.choose_spec.choose_spec.1
  simp only at hcs
  replace hr := hr.ext y0
  have X := hid y0
  clear y0
  have hd : w.heap.size < lo ∨ hi ≤ w.heap.size := .inr hhi
  have M := Mut.refl w.heap.size (w.heap.size + 1) w0
  have yb := ext_alloc (ext_refl w0) (.cells #[.string { data := #[97] }, .string { data := #[122, 57, 45] }, .string { data := #[] }, .string { data := #[65] }, .string { data := #[101, 105, 103, 104, 116, 56, 56, 56] }, .string { data := #[110, 105, 110, 101, 57, 57, 57, 57, 57] }, .string { data := #[97, 32, 98] }, .string { data := #[47] }, .string { data := #[126] }] 9)
  have sb := yb.size
  have rl : Rd (w0.alloc (.cells #[.string { data := #[97] }, .string { data := #[122, 57, 45] }, .string { data := #[] }, .string { data := #[65] }, .string { data := #[101, 105, 103, 104, 116, 56, 56, 56] }, .string { data := #[110, 105, 110, 101, 57, 57, 57, 57, 57] }, .string { data := #[97, 32, 98] }, .string { data := #[47] }, .string { data := #[126] }] 9)) w0.heap.size (w0.heap.size + 1) 1 (.slice (some ⟨w0.heap.size, 0, none⟩) 9 9) 9 (([⟨#[97]⟩, ⟨#[122, 57, 45]⟩, ⟨#[]⟩, ⟨#[65]⟩, ⟨#[101, 105, 103, 104, 116, 56, 56, 56]⟩, ⟨#[110, 105, 110, 101, 57, 57, 57, 57, 57]⟩, ⟨#[97, 32, 98]⟩, ⟨#[47]⟩, ⟨#[126]⟩] : List ByteArray).map sv) := Rd.new w0 (([⟨#[97]⟩, ⟨#[122, 57, 45]⟩, ⟨#[]⟩, ⟨#[65]⟩, ⟨#[101, 105, 103, 104, 116, 56, 56, 56]⟩, ⟨#[110, 105, 110, 101, 57, 57, 57, 57, 57]⟩, ⟨#[97, 32, 98]⟩, ⟨#[47]⟩, ⟨#[126]⟩] : List ByteArray).map sv) 9 1 9 (by decide) rfl
  have hss : ∀ s ∈ ([⟨#[97]⟩, ⟨#[122, 57, 45]⟩, ⟨#[]⟩, ⟨#[65]⟩, ⟨#[101, 105, 103, 104, 116, 56, 56, 56]⟩, ⟨#[110, 105, 110, 101, 57, 57, 57, 57, 57]⟩, ⟨#[97, 32, 98]⟩, ⟨#[47]⟩, ⟨#[126]⟩] : List ByteArray), s.size ≤ 16 := by decide
  have HSS := hid hss
  clear hss
  replace hc := hc.ext yb
  replace hr := hr.ext yb
  replace M := M.trans (Mut.of_ext yb)
  clear yb
  have C := hid (l1Str_c hc hr hd rl (.inl (by omega)) (by decide))
  clear hc
  go_wp2_with fail
  refine C.out.mono ?_
  clear C
  rintro e w1 ⟨t, ht, rfl, hc, m1⟩
  have s1 := m1.size
  replace hr := hr.mut m1 (by omega)
  replace M := M.trans m1
  clear m1
  have hts := HSS.out t ht
  clear rl ht HSS
  have XF := hid (Mut.ext X.out M (Nat.le_refl _))
  go_wp2
  go_ret
  exact gives_of _ ⟨_, rfl, hts⟩ XF.out
set_option maxRecDepth 100000 in
set_option maxHeartbeats 2000000 in
theorem DrawParseName_c {w : World} {lo hi n : Nat} {cv : Value} {xs : List UInt8} (hr : Rd w lo hi 1 cv n (xs.map bv)) (hn : n ≤ 1099511627776) (hhi : hi ≤ w.heap.size) :
    Calls Tryd.prog 39 #[cv] w (Gives w (fun r w' => ∃ s : ByteArray, r = .string s ∧ s.size ≤ 150)) := by
  have C := hid (l1New_c hr hn)
  go_enter Tryd.func39, Tryd.ntmps39
  go_wp2_with fail
  refine C.out.mono ?_
  clear C
  rintro e w0 ⟨rfl, hc, y0⟩
  have hcs := World.block_lt_of_cell? _ _ hc.choose_spec.choose_spec.1
  simp only at hcs
  replace hr := hr.ext y0
  have X := hid y0
  clear y0
  have hd : w.heap.size < lo ∨ hi ≤ w.heap.size := .inr hhi
  have M := Mut.refl w.heap.size (w.heap.size + 1) w0
  have C := hid (l1Once_c (m := 3) hc hr hd (by omega))
  clear hc
  go_wp2_with fail
  refine C.out.mono ?_
  clear C
  rintro e w1 ⟨b, rfl, hc, m1⟩
  have s1 := m1.size
  replace hr := hr.mut m1 (by omega)
  replace M := M.trans m1
  clear m1
  cases b
  · have C := hid (l4Any_c hc hr hd (by omega) (by omega))
    clear hc
    go_wp2_with fail
    refine C.out.mono ?_
    clear C
    rintro e w2 ⟨v9, ss, rfl, oN, hsm, hc, m2⟩
    have s2 := m2.size
    replace hr := hr.mut m2 (by omega)
    replace M := M.trans m2
    clear m2
    have hwt := wt_small hsm
    have HSZ := hid (fmt_small hsm)
    obtain ⟨z9, rfl, _⟩ := id oN
    have C := hid (specFormatName_c oN.rd (by omega))
    go_wp2_with fail
    refine C.out.mono ?_
    clear C
    rintro e w3 ⟨_, rfl, rfl, y3⟩
    have s3 := y3.size
    replace hc := hc.ext y3
    replace hr := hr.ext y3
    replace M := M.trans (Mut.of_ext y3)
    replace oN := oN.ext y3
    clear y3
    have XF := hid (Mut.ext X.out M (Nat.le_refl _))
    go_wp2
    go_ret
    exact gives_of _ ⟨_, rfl, HSZ.out⟩ XF.out
  · have yb := ext_alloc (ext_refl w1) (.cells #[.string { data := #[] }, .string { data := #[47] }, .string { data := #[47, 47] }, .string { data := #[97] }, .string { data := #[47, 97, 47] }, .string { data := #[47, 97, 47, 47, 98] }, .string { data := #[47, 65] }, .string { data := #[47, 97, 47, 98] }, .string { data := #[47, 97, 47, 98, 47, 99, 47, 100, 47, 101, 47, 102, 47, 103] }] 9)
    have sb := yb.size
    have rl : Rd (w1.alloc (.cells #[.string { data := #[] }, .string { data := #[47] }, .string { data := #[47, 47] }, .string { data := #[97] }, .string { data := #[47, 97, 47] }, .string { data := #[47, 97, 47, 47, 98] }, .string { data := #[47, 65] }, .string { data := #[47, 97, 47, 98] }, .string { data := #[47, 97, 47, 98, 47, 99, 47, 100, 47, 101, 47, 102, 47, 103] }] 9)) w1.heap.size (w1.heap.size + 1) 1 (.slice (some ⟨w1.heap.size, 0, none⟩) 9 9) 9 (([⟨#[]⟩, ⟨#[47]⟩, ⟨#[47, 47]⟩, ⟨#[97]⟩, ⟨#[47, 97, 47]⟩, ⟨#[47, 97, 47, 47, 98]⟩, ⟨#[47, 65]⟩, ⟨#[47, 97, 47, 98]⟩, ⟨#[47, 97, 47, 98, 47, 99, 47, 100, 47, 101, 47, 102, 47, 103]⟩] : List ByteArray).map sv) := Rd.new w1 (([⟨#[]⟩, ⟨#[47]⟩, ⟨#[47, 47]⟩, ⟨#[97]⟩, ⟨#[47, 97, 47]⟩, ⟨#[47, 97, 47, 47, 98]⟩, ⟨#[47, 65]⟩, ⟨#[47, 97, 47, 98]⟩, ⟨#[47, 97, 47, 98, 47, 99, 47, 100, 47, 101, 47, 102, 47, 103]⟩] : List ByteArray).map sv) 9 1 9 (by decide) rfl
    have hss : ∀ s ∈ ([⟨#[]⟩, ⟨#[47]⟩, ⟨#[47, 47]⟩, ⟨#[97]⟩, ⟨#[47, 97, 47]⟩, ⟨#[47, 97, 47, 47, 98]⟩, ⟨#[47, 65]⟩, ⟨#[47, 97, 47, 98]⟩, ⟨#[47, 97, 47, 98, 47, 99, 47, 100, 47, 101, 47, 102, 47, 103]⟩] : List ByteArray), s.size ≤ 16 := by decide
    have HSS := hid hss
    clear hss
    replace hc := hc.ext yb
    replace hr := hr.ext yb
    replace M := M.trans (Mut.of_ext yb)
    clear yb
    have C := hid (l1Str_c hc hr hd rl (.inl (by omega)) (by decide))
    clear hc
    go_wp2_with fail
    refine C.out.mono ?_
    clear C
    rintro e w4 ⟨t, ht, rfl, hc, m4⟩
    have s4 := m4.size
    replace hr := hr.mut m4 (by omega)
    replace M := M.trans m4
    clear m4
    have hts := HSS.out t ht
    clear rl ht HSS
    have XF := hid (Mut.ext X.out M (Nat.le_refl _))
    go_wp2
    go_ret
    exact gives_of _ ⟨_, rfl, Nat.le_trans hts (by decide)⟩ XF.out
def NameD (w : World) (N : Nat) (r : Value) (w' : World) : Prop := ∃ (a : List ByteArray), RdN w' w.heap.size w'.heap.size r a.length (a.map sv) ∧ Small N a
def NameI (w : World) (N : Nat) (r : Value) (w' : World) : Prop := ∃ (v1 : Value) (a : List ByteArray) (k : Int), r = .tuple #[v1, .int .i64 k] ∧ RdN w' w.heap.size w'.heap.size v1 a.length (a.map sv) ∧ Small N a ∧ -2 ≤ k ∧ k ≤ 6
set_option maxRecDepth 100000 in
set_option maxHeartbeats 4000000 in
theorem DrawFormatName_c {w : World} {lo hi n : Nat} {cv : Value} {xs : List UInt8} (hr : Rd w lo hi 1 cv n (xs.map bv)) (hn : n ≤ 1099511627776) (hhi : hi ≤ w.heap.size) :
    Calls Tryd.prog 38 #[cv] w (Gives w (NameD w 7)) := by
  obtain ⟨W, hW⟩ : ∃ W, W = w.alloc (.cells #[.slice none 0 0] 30) := ⟨_, rfl⟩
  have x0 : Below w.heap.size w W := by rw [hW]; exact ext_alloc (ext_refl w) _
  have hWs : W.heap.size = w.heap.size + 1 := by rw [hW]; simp
  have cR : Cell1 W ⟨w.heap.size, 0, none⟩ (.slice none 0 0) := by rw [hW]; exact Cell1.new w (.slice none 0 0) 30
  have C := hid (l1New_c (hr.ext x0) hn)
  have HR := hid hr
  clear hr
  go_enter Tryd.func38, Tryd.ntmps38
  go_wp2_with fail
  rw [← hW]
  clear hW
  refine C.out.mono ?_
  rintro e w1 ⟨rfl, hc1, y1⟩
  have z1 := y1.size
  have x1 := ext_trans x0 y1
  have s1 := World.block_lt_of_cell? _ _ hc1.choose_spec.choose_spec.1
  simp only at s1
  rw [hWs] at hc1 s1 ⊢
  have cR1 := cR.ext y1
  have C := hid (l4Any_c hc1 (HR.out.ext x1) (.inr (by omega)) (by omega) s1)
  clear hc1 cR y1
  go_wp2_with fail
  refine C.out.mono ?_
  rintro e w2 ⟨r, ss, rfl, ⟨s, rfl, o2⟩, hsm, hc2, m2⟩
  obtain ⟨a, cap, rfl, _⟩ := o2.rd.form
  have s2 := m2.size
  have M2 := Mut.ext x1 m2 (by omega)
  have R5 := cR1.mut m2 (.inl (by simp only; omega))
  obtain ⟨R5a, R5b⟩ := id R5
  have n3 := Mut.setCell w2 (lo := w.heap.size) (hi := w.heap.size + 1) (p := ⟨w.heap.size, 0, none⟩) (by simp) (by simp) (.slice a ss.length cap)
  have k2 := R5.set (.slice a ss.length cap)
  have F1 := hid ((o2.rd.mut n3 (.inr (by omega))).mono (show w.heap.size ≤ _ by omega) n3.size)
  have F3 := hid (n3.ext M2 (Nat.le_refl _))
  obtain ⟨k2a, k2b⟩ := k2
  clear M2 n3 R5 o2 m2 hc2 cR1
  go_wp2
  exact bodyPost_ret (v := .agg #[.slice a ss.length cap]) (by simp [results, Tryd.results38, go_sem, k2a]) rfl (gives_of _ ⟨ss, ⟨_, rfl, F1.out⟩, hsm⟩ F3.out)
set_option maxRecDepth 100000 in
set_option maxHeartbeats 4000000 in
theorem DrawTruncate_c {w : World} {lo hi n : Nat} {cv : Value} {xs : List UInt8} (hr : Rd w lo hi 1 cv n (xs.map bv)) (hn : n ≤ 1099511627776) (hhi : hi ≤ w.heap.size) :
    Calls Tryd.prog 42 #[cv] w (Gives w (NameI w 7)) := by
  obtain ⟨W, hW⟩ : ∃ W, W = w.alloc (.cells #[.slice none 0 0] 30) := ⟨_, rfl⟩
  have x0 : Below w.heap.size w W := by rw [hW]; exact ext_alloc (ext_refl w) _
  have hWs : W.heap.size = w.heap.size + 1 := by rw [hW]; simp
  have cR : Cell1 W ⟨w.heap.size, 0, none⟩ (.slice none 0 0) := by rw [hW]; exact Cell1.new w (.slice none 0 0) 30
  have C := hid (l1New_c (hr.ext x0) hn)
  have HR := hid hr
  clear hr
  go_enter Tryd.func42, Tryd.ntmps42
  go_wp2_with fail
  rw [← hW]
  clear hW
  refine C.out.mono ?_
  rintro e w1 ⟨rfl, hc1, y1⟩
  have z1 := y1.size
  have x1 := ext_trans x0 y1
  have s1 := World.block_lt_of_cell? _ _ hc1.choose_spec.choose_spec.1
  simp only at s1
  rw [hWs] at hc1 s1 ⊢
  have cR1 := cR.ext y1
  have C := hid (l4Any_c hc1 (HR.out.ext x1) (.inr (by omega)) (by omega) s1)
  clear hc1 cR y1
  go_wp2_with fail
  refine C.out.mono ?_
  rintro e w2 ⟨r, ss, rfl, ⟨s, rfl, o2⟩, hsm, hc2, m2⟩
  obtain ⟨a, cap, rfl, _⟩ := o2.rd.form
  have s2 := m2.size
  have M2 := hid (Mut.ext x1 m2 (by omega))
  have cR2 := cR1.mut m2 (.inl (by simp only; omega))
  have y2 := ext_alloc (ext_refl w2) (.cells #[.slice a ss.length cap] 30)
  obtain ⟨w3, hV⟩ : ∃ V, V = w2.alloc (.cells #[.slice a ss.length cap] 30) := ⟨_, rfl⟩
  have cT : w3.cell? ⟨w2.heap.size, 0, none⟩ = some (.slice a ss.length cap) := by rw [hV]; simp
  have hVs : w3.heap.size = w2.heap.size + 1 := by rw [hV]; simp
  rw [← hV] at y2
  have Z := hid (ext_trans M2.out y2)
  have o3 := o2.ext y2
  have cR3 := cR2.ext y2
  have hc3 := hc2.ext y2
  have yb : Below w3.heap.size w3 w3.drew := Below.drew (ext_refl w3)
  have hrV := HR.out.ext (ext_trans Z.out yb)
  have CS := hid (l1Below_c (m := 9) (hc3.ext yb) hrV (.inr (by omega)) (by omega))
  have cd := cell_ext cT yb
  have cda := cell_ext cT (Below.drew (ext_refl w3))
  have od := o3.ext yb
  have Rd4 := cR3.ext yb
  have Zd := ext_trans Z.out yb
  have qb := yb.size
  have hV1 : w2.heap.size < w3.heap.size := by omega
  have hV2 : w.heap.size + 1 < w3.heap.size := by omega
  have hV3 : w.heap.size < w3.heap.size := by omega
  clear hVs
  clear hc2 o2 y2 m2 M2 cR1 cR2 hrV hc3 cT o3 Z yb
  go_wp2_with fail
  rw [← hV]
  clear hV
  go_region_law (first
    | (go_simp; go_at_call 76; refine CS.out.mono ?_; rintro e w4 ⟨t, rfl, ht0, ht1, hc4, m4⟩; have q4 := m4.size; replace cd := cell_mut cd m4 (.inr (by simp only; omega)); have R5 := Rd4.mut m4 (.inl (by simp only; omega)); obtain ⟨R5a, R5b⟩ := id R5))
  all_goals
    have htw : -2 ≤ t - 2 ∧ t - 2 ≤ 6 := by omega
    have hwr : IntKind.i64.wrap (t - 2) = t - 2 := by rw [IntKind.wrap_i64]; omega
    have oF := od.mut m4 (.inr (by omega))
    have ZF := Mut.ext Zd m4 (by omega)
    have n3 := Mut.setCell w4 (lo := w.heap.size) (hi := w.heap.size + 1) (p := ⟨w.heap.size, 0, none⟩) (by simp) (by simp) (.slice a ss.length cap)
    have k2 := R5.set (.slice a ss.length cap)
    have F1 := hid ((oF.rd.mut n3 (.inr (by omega))).mono (show w.heap.size ≤ _ by omega) (Nat.le_trans (show w2.heap.size ≤ w4.heap.size by omega) n3.size))
    have F3 := hid (n3.ext ZF (Nat.le_refl _))
    obtain ⟨k2a, k2b⟩ := k2
    clear oF ZF n3 R5 CS cd od Rd4 hc4 m4
    go_wp2
    exact bodyPost_ret (v := .tuple #[.agg #[.slice a ss.length cap], .int .i64 (t - 2)]) (by simp [results, Tryd.results42, go_sem, k2a, hwr]) rfl (gives_of _ ⟨_, ss, t - 2, rfl, ⟨_, rfl, F1.out⟩, hsm, htw⟩ F3.out)
set_option maxHeartbeats 1000000 in
theorem DrawCompareNames_c {w : World} {lo hi n : Nat} {cv : Value} {xs : List UInt8} (hr : Rd w lo hi 1 cv n (xs.map bv)) (hn : n ≤ 1099511627776) (hhi : hi ≤ w.heap.size) :
    Calls Tryd.prog 41 #[cv] w (Gives w (TwoN w 7)) := by
  obtain ⟨W, hW⟩ : ∃ W, W = (w.alloc (.cells #[.slice none 0 0] 30)).alloc (.cells #[.slice none 0 0] 30) := ⟨_, rfl⟩
  have x0 : Below w.heap.size w W := by rw [hW]; exact ext_alloc (ext_alloc (ext_refl w) _) _
  have hWs : W.heap.size = w.heap.size + 2 := by rw [hW]; simp
  have cR : Cell1 W ⟨w.heap.size, 0, none⟩ (.slice none 0 0) := by rw [hW]; exact (Cell1.new w (.slice none 0 0) 30).ext (ext_alloc (ext_refl _) _)
  have cQ : Cell1 W ⟨w.heap.size + 1, 0, none⟩ (.slice none 0 0) := by rw [hW]; have := Cell1.new (w.alloc (.cells #[.slice none 0 0] 30)) (.slice none 0 0) 30; simpa using this
  have C := hid (l4Two_c (hr.ext x0) hn (by omega))
  clear hr
  go_enter Tryd.func41, Tryd.ntmps41
  go_wp2_with fail
  rw [← hW]
  clear hW
  refine C.out.mono ?_
  rintro e w5 ⟨_, rfl, ⟨_, _, ss, tt, rfl, ⟨s1, rfl, o1⟩, ⟨s2, rfl, o2⟩, hsm, hsm4⟩, y1⟩
  have z1 := y1.size
  have ZF := ext_trans x0 y1
  have R6 := cR.ext y1
  have Q6 := cQ.ext y1
  obtain ⟨a, cap, rfl, _⟩ := o1.form
  obtain ⟨a6, cap6, rfl, _⟩ := o2.form
  have n1 := Mut.setCell w5 (lo := w.heap.size) (hi := w.heap.size + 2) (p := ⟨w.heap.size, 0, none⟩) (by simp) (by simp) (.slice a ss.length cap)
  have n2 := Mut.setCell (w5.setCell ⟨w.heap.size, 0, none⟩ (.slice a ss.length cap)) (lo := w.heap.size) (hi := w.heap.size + 2) (p := ⟨w.heap.size + 1, 0, none⟩) (by simp) (by simp) (.slice a6 tt.length cap6)
  have n3 := n1.trans n2
  have k1 := R6.set (.slice a ss.length cap)
  have k2 := k1.mut (Mut.setCell _ (lo := w.heap.size + 1) (hi := w.heap.size + 2) (p := ⟨w.heap.size + 1, 0, none⟩) (by simp) (by simp) (.slice a6 tt.length cap6)) (.inl (by simp))
  have k3 := (Q6.mut (Mut.setCell w5 (lo := w.heap.size) (hi := w.heap.size + 1) (p := ⟨w.heap.size, 0, none⟩) (by simp) (by simp) (.slice a ss.length cap)) (.inr (by simp))).set (.slice a6 tt.length cap6)
  have F1 := hid ((o1.mut n3 (.inr (by omega))).mono (show w.heap.size ≤ _ by omega) n3.size)
  have F2 := hid ((o2.mut n3 (.inr (by omega))).mono (show w.heap.size ≤ _ by omega) n3.size)
  have F3 := hid (n3.ext ZF (Nat.le_refl _))
  obtain ⟨R6a, R6b⟩ := R6
  obtain ⟨Q6a, Q6b⟩ := Q6
  obtain ⟨k2a, k2b⟩ := k2
  obtain ⟨k3a, k3b⟩ := k3
  clear ZF n1 n2 n3 k1 C cR cQ o1 o2 y1 x0
  go_wp2
  exact bodyPost_ret (v := .tuple #[.agg #[.slice a ss.length cap], .agg #[.slice a6 tt.length cap6]]) (by simp [results, Tryd.results41, go_sem, k2a, k3a]) rfl (gives_of _ ⟨_, _, ss, tt, rfl, ⟨_, rfl, F1.out⟩, ⟨_, rfl, F2.out⟩, hsm, hsm4⟩ F3.out)
end Go.Proofs.YtoehjfcadhgpbaaDoor
