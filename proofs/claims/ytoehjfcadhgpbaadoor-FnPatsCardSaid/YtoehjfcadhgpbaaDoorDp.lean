/- Patterns that the reference draws (l5Pat, l5Any): few parts, each short. Condition: the cursor lies in a block of its own and reads its bytes. -/
import Derived.Test.YtoehjfcadhgpbaaDoorDy
set_option linter.unusedVariables false
set_option linter.unusedSimpArgs false
namespace Go.Proofs.YtoehjfcadhgpbaaDoor
open Go.RowKit
def patL : List ByteArray := [⟨#[97]⟩, ⟨#[98]⟩, ⟨#[110, 101, 119, 115]⟩, ⟨#[42]⟩, ⟨#[63, 120]⟩, ⟨#[63, 121]⟩, ⟨#[63, 120]⟩, ⟨#[107, 101, 121]⟩]
theorem patL_small : ∀ s ∈ patL, s.size ≤ 16 := by decide
def panL : List ByteArray := [⟨#[]⟩, ⟨#[63]⟩, ⟨#[63, 120, 120]⟩, ⟨#[63, 65]⟩, ⟨#[65]⟩, ⟨#[42, 42, 42]⟩]
theorem panL_small : ∀ s ∈ panL, s.size ≤ 16 := by decide
def abL : List ByteArray := [⟨#[97]⟩, ⟨#[98]⟩, ⟨#[49]⟩]
theorem abL_small : ∀ s ∈ abL, s.size ≤ 16 := by decide
set_option maxRecDepth 100000 in
set_option maxHeartbeats 4000000 in
theorem l5Pat_c {w : World} {c lo hi n : Nat} {cv : Value} {xs : List UInt8} (hc : CurAt w c cv n) (hr : Rd w lo hi 1 cv n (xs.map bv)) (hd : c < lo ∨ hi ≤ c) (hhi : hi ≤ w.heap.size) (hcs : c < w.heap.size) :
    Calls Tryd.prog 90 #[.pointer (some ⟨c, 0, none⟩)] w fun e w' => ∃ (r : Value) (ss : List ByteArray), e = .returned r ∧ OwnN w' w.heap.size w'.heap.size r ss.length (ss.map sv) ∧ Small 4 ss ∧ CurAt w' c cv n ∧ Mut c (c + 1) w w' := by
  obtain ⟨i0, hi0, hz0, hz1, hz2⟩ := info_parts info_string
  obtain ⟨W, hW⟩ : ∃ W, W = (w.alloc (.cells #[.slice none 0 0] 24)).alloc (.cells #[.slice none 0 0] 24) := ⟨_, rfl⟩
  have x0 : Below w.heap.size w W := by rw [hW]; exact ext_alloc (ext_alloc (ext_refl w) _) _
  have hWs : W.heap.size = w.heap.size + 2 := by rw [hW]; simp
  have cR : Cell1 W ⟨w.heap.size, 0, none⟩ (.slice none 0 0) := by rw [hW]; exact (Cell1.new w (.slice none 0 0) 24).ext (ext_alloc (ext_refl _) _)
  have cV : Cell1 W ⟨w.heap.size + 1, 0, none⟩ (.slice none 0 0) := by rw [hW]; simpa using Cell1.new (w.alloc (.cells #[.slice none 0 0] 24)) (.slice none 0 0) 24
  have C := hid (l1Below_c (m := 4) (hc.ext x0) (hr.ext x0) hd (by omega))
  have HR := hid hr
  have HF : Hid (∀ (w5 : World) (v5 : Value) (n5 : Nat) (ss5 : List ByteArray), n5 = ss5.length → Own w5 (w.heap.size + 2) w5.heap.size 9 1 v5 n5 (ss5.map sv) → Small 4 ss5 → CurAt w5 c cv n → Mut c (c + 1) w w5 →
      ∃ (r : Value) (ss : List ByteArray), Ending.returned (.agg #[v5]) = .returned r ∧ OwnN (w5.setCell ⟨w.heap.size, 0, none⟩ v5) w.heap.size (w5.setCell ⟨w.heap.size, 0, none⟩ v5).heap.size r ss.length (ss.map sv) ∧ Small 4 ss ∧ CurAt (w5.setCell ⟨w.heap.size, 0, none⟩ v5) c cv n ∧ Mut c (c + 1) w (w5.setCell ⟨w.heap.size, 0, none⟩ v5)) := by
    intro w5 v5 n5 ss5 e5 h1 h4 h5 h6
    subst e5
    have m5 := Mut.setCell w5 (lo := w.heap.size) (hi := w.heap.size + 1) (p := ⟨w.heap.size, 0, none⟩) (by simp) (by simp) v5
    exact ⟨_, ss5, rfl, ⟨_, rfl, (h1.mut m5 (.inr (by omega))).mono (by omega) m5.size⟩, h4, h5.mut m5 (.inl (by omega)), h6.after m5 (Nat.le_refl _)⟩
  clear hc hr
  go_enter Tryd.func90, Tryd.ntmps90
  go_wp2_with fail
  rw [← hW]
  clear hW
  refine C.out.mono ?_
  rintro e w1 ⟨x, rfl, xa, xb, hc1, m1⟩
  have hx4 : x ≤ 3 := by omega
  obtain ⟨x, rfl⟩ := Int.eq_ofNat_of_zero_le xa
  have cR1 := cR.mut m1 (.inr (by simp only; omega))
  have cV1 := cV.mut m1 (.inr (by simp only; omega))
  have s1 := m1.size
  have M1 := (Mut.of_ext (lo := c) (hi := c + 1) x0).trans m1
  clear C cR cV
  go_wp2
  go_loopw [4] (fun i wr => ∃ (k : Nat) (ss : List ByteArray) (v : Value), k ≤ 3 ∧ i = .int .i64 k ∧ Cell1 wr ⟨w.heap.size + 1, 0, none⟩ v ∧ Own wr (w.heap.size + 2) wr.heap.size 9 1 v ss.length (ss.map sv) ∧ Small (3 - k) ss ∧ CurAt wr c cv n ∧ Cell1 wr ⟨w.heap.size, 0, none⟩ (.slice none 0 0) ∧ w.heap.size + 2 ≤ wr.heap.size ∧ Mut c (c + 1) w wr) (fun i _ => (intOf i).toNat)
  case atStart => exact ⟨x, [], .slice none 0 0, by omega, rfl, cV1, Own.none_ _ _ _ _ _ _, ⟨by simp, by simp⟩, hc1, cR1, by omega, M1⟩
  case round =>
    obtain ⟨k, ss, v, hk, rfl, hV, ho, hsm, hcu, hRb, hsz, hM⟩ := hrel
    clear hc1 cR1 cV1 M1 m1 s1
    obtain ⟨a, cap, rfl, _⟩ := ho.rd.form
    by_cases hk0 : 0 < k
    · obtain ⟨j, rfl⟩ : ∃ j, k = j + 1 := ⟨k - 1, by omega⟩
      have yb : Below wr.heap.size wr (wr.alloc (.cells #[.string { data := #[97] }, .string { data := #[98] }, .string { data := #[110, 101, 119, 115] }, .string { data := #[42] }, .string { data := #[63, 120] }, .string { data := #[63, 121] }, .string { data := #[63, 120] }, .string { data := #[107, 101, 121] }] 9)).drew := Below.drew (ext_alloc (ext_refl wr) _)
      have rl : Rd (wr.alloc (.cells #[.string { data := #[97] }, .string { data := #[98] }, .string { data := #[110, 101, 119, 115] }, .string { data := #[42] }, .string { data := #[63, 120] }, .string { data := #[63, 121] }, .string { data := #[63, 120] }, .string { data := #[107, 101, 121] }] 9)).drew wr.heap.size (wr.heap.size + 1) 1 (.slice (some ⟨wr.heap.size, 0, none⟩) 8 8) 8 (patL.map sv) := (Rd.new wr (patL.map sv) 9 1 8 (by decide) rfl).ext (Below.drew (ext_refl _))
      have hrV := (HR.out.mut hM (by omega)).ext yb
      have CS := hid (l1Str_c (hcu.ext yb) hrV hd rl (.inl (by omega)) (by decide))
      have oX := ho.ext yb
      have tX := hV.ext yb
      have rX := hRb.ext yb
      have MX := hM.trans (Mut.of_ext yb)
      have sX := yb.size
      have hl := hsm.1
      obtain ⟨tXa, tXb⟩ := id tX
      obtain ⟨tYa, tYb⟩ := id hV
      clear hrV
      go_wp2_with fail
      go_region_law (first
        | (refine step_append_Own rfl (.tmp 13) (.tmp 17) 22 rfl 9 i0 (.string ByteArray.empty) 1 16 Tryd.underlying22 hi0 hz0 hz1 hz2 rfl (by decide) rfl (o3.ext (ext_alloc (ext_refl _) _)) rfl (Rd.new _ [.string t] 9 1 1 (by decide) rfl) (by simp; rfl) (by omega) (by omega) (by simp; omega) ?_; intro v' w' ho2 hmu; obtain ⟨a4, c4, rfl, _⟩ := ho2.rd.form; have t4 := (t3.ext (ext_alloc (ext_refl _) _)).mut hmu (.inl (by simp only; omega)); obtain ⟨t4a, t4b⟩ := id t4)
        | (go_simp; go_at_call 71; refine CS.out.mono ?_; rintro e w3 ⟨t, ht, rfl, hc3, m3⟩; have o3 := oX.mut m3 (.inr (by omega)); have t3 := tX.mut m3 (.inr (by simp only; omega)); have r3 := rX.mut m3 (.inr (by simp only; omega)); have s3 := m3.size; have hl3 : w.heap.size + 1 < w3.heap.size := (by omega); have hts := patL_small t ht; obtain ⟨t3a, t3b⟩ := id t3))
      all_goals
        have y4 := ext_alloc (ext_refl w3) (.cells #[.string t] 9)
        have s4 := y4.size
        have s5 := hmu.size
        have m6 := Mut.setCell w' (lo := w.heap.size + 1) (hi := w.heap.size + 2) (p := ⟨w.heap.size + 1, 0, none⟩) (by simp) (by simp) (.slice a4 (ss.length + 1) c4)
        have hS4 := hid (hsm.push hts)
        have hR4 := hid (((r3.ext y4).mut hmu (.inl (by simp only; omega))).mut m6 (.inl (by simp only; omega)))
        have hT4 := hid (t4.set (.slice a4 (ss.length + 1) c4))
        have hO4 : Hid (Own (w'.setCell ⟨w.heap.size + 1, 0, none⟩ (.slice a4 (ss.length + 1) c4)) (w.heap.size + 2) (w'.setCell ⟨w.heap.size + 1, 0, none⟩ (.slice a4 (ss.length + 1) c4)).heap.size 9 1 (.slice a4 (ss.length + 1) c4) (ss ++ [t]).length ((ss ++ [t]).map sv)) := by rw [List.map_append, List.length_append]; exact (ho2.mut m6 (.inr (Nat.le_refl _))).mono (Nat.le_refl _) m6.size
        have hc4 := hid (((hc3.ext y4).mut hmu (.inl (by omega))).mut m6 (.inl (by omega)))
        have hM4 := hid ((((MX.trans m3).trans (Mut.of_ext y4)).after hmu (by omega)).after m6 (by omega))
        have s6 := m6.size
        have HZ := hid (show w.heap.size + 2 ≤ (w'.setCell ⟨w.heap.size + 1, 0, none⟩ (.slice a4 (ss.length + 1) c4)).heap.size by omega)
        clear ho2 hmu m6 t4 t4a t4b t3 t3a t3b r3 o3 m3 hc3 tX tXa tXb oX rX MX CS rl yb y4 tYa tYb hV hRb ho hcu hM
        go_wp2
        go_roundw
        case rel => exact ⟨j, ss ++ [t], _, by omega, (by first | rfl | go_num), hT4.out, hO4.out, by have := hS4.out; rwa [show 3 - (j + 1) + 1 = 3 - j by omega] at this, hc4.out, hR4.out, HZ.out, hM4.out⟩
        case measure => simp [intOf]
    · have hk00 : k = 0 := by omega
      subst hk00
      have C := hid (l1Once_c (m := 4) hcu (HR.out.mut hM (by omega)) hd (by omega))
      go_wp2_with fail
      refine C.out.mono ?_
      rintro e w2 ⟨b, rfl, hc2, m2⟩
      have o2 := ho.mut m2 (.inr (by omega))
      have V2 := hV.mut m2 (.inr (by simp only; omega))
      have R2 := hRb.mut m2 (.inr (by simp only; omega))
      have M2 := hM.trans m2
      have s2 := m2.size
      have hl := hsm.1
      clear C hcu ho hV hRb hM m2
      obtain ⟨V2a, V2b⟩ := id V2
      obtain ⟨R2a, R2b⟩ := id R2
      cases b
      · have H6 := hid (HF.out w2 _ _ ss rfl (o2.mono (Nat.le_refl _) s2) ⟨by omega, hsm.2⟩ hc2 M2)
        go_wp2
        exact bodyPost_ret (v := .agg #[_]) (by simp [results, Tryd.results90, go_sem, R2a]) rfl H6.out
      · go_wp2_with (at_builtin; refine wpList_append_Own rfl _ _ 22 rfl 9 i0 (.string ByteArray.empty) 1 16 Tryd.underlying22 hi0 hz0 hz1 hz2 rfl (by decide) rfl (o2.ext (ext_alloc (ext_refl _) _)) rfl (Rd.new _ [.string (⟨#[42, 42]⟩ : ByteArray)] 9 1 1 (by decide) rfl) (by simp; rfl) (by omega) (by omega) (by simp; omega) ?_)
        intro v' w' ho2 hmu
        obtain ⟨a4, c4, rfl, _⟩ := ho2.rd.form
        have y4 := ext_alloc (ext_refl w2) (.cells #[.string (⟨#[42, 42]⟩ : ByteArray)] 9)
        have s4 := y4.size
        have s5 := hmu.size
        have t4 := (V2.ext y4).mut hmu (.inl (by simp only; omega))
        have m6 := Mut.setCell w' (lo := w.heap.size + 1) (hi := w.heap.size + 2) (p := ⟨w.heap.size + 1, 0, none⟩) (by simp) (by simp) (.slice a4 (ss.length + 1) c4)
        have hS4 := hid (hsm.push (s := (⟨#[42, 42]⟩ : ByteArray)) (by decide))
        have hR4 := ((R2.ext y4).mut hmu (.inl (by simp only; omega))).mut m6 (.inl (by simp only; omega))
        have hT4 := t4.set (.slice a4 (ss.length + 1) c4)
        have hO4 : Hid (Own (w'.setCell ⟨w.heap.size + 1, 0, none⟩ (.slice a4 (ss.length + 1) c4)) (w.heap.size + 2) (w'.setCell ⟨w.heap.size + 1, 0, none⟩ (.slice a4 (ss.length + 1) c4)).heap.size 9 1 (.slice a4 (ss.length + 1) c4) (ss.length + 1) ((ss ++ [(⟨#[42, 42]⟩ : ByteArray)]).map sv)) := by rw [List.map_append]; exact (ho2.mut m6 (.inr (Nat.le_refl _))).mono (Nat.le_refl _) m6.size
        have hc4 := hid (((hc2.ext y4).mut hmu (.inl (by omega))).mut m6 (.inl (by omega)))
        have hM4 := hid (((M2.trans (Mut.of_ext y4)).after hmu (by omega)).after m6 (by omega))
        have H6 := hid (HF.out _ _ _ (ss ++ [(⟨#[42, 42]⟩ : ByteArray)]) (by simp) hO4.out ⟨by have := hS4.out.1; omega, hS4.out.2⟩ hc4.out hM4.out)
        obtain ⟨R4a, R4b⟩ := hR4
        obtain ⟨T4a, T4b⟩ := hT4
        obtain ⟨t4a, t4b⟩ := t4
        clear ho2 hmu m6 R2 V2 R2a R2b V2a V2b o2 hc2 y4 hO4 hc4 hM4
        go_wp2
        exact bodyPost_ret (v := .agg #[_]) (by simp [results, Tryd.results90, go_sem, R4a]) rfl H6.out
set_option maxRecDepth 100000 in
set_option maxHeartbeats 4000000 in
theorem l5Any_c {w : World} {c lo hi n : Nat} {cv : Value} {xs : List UInt8} (hc : CurAt w c cv n) (hr : Rd w lo hi 1 cv n (xs.map bv)) (hd : c < lo ∨ hi ≤ c) (hhi : hi ≤ w.heap.size) (hcs : c < w.heap.size) :
    Calls Tryd.prog 72 #[.pointer (some ⟨c, 0, none⟩)] w fun e w' => ∃ (r : Value) (ss : List ByteArray), e = .returned r ∧ OwnN w' w.heap.size w'.heap.size r ss.length (ss.map sv) ∧ Small 7 ss ∧ CurAt w' c cv n ∧ Mut c (c + 1) w w' := by
  obtain ⟨i0, hi0, hz0, hz1, hz2⟩ := info_parts info_string
  obtain ⟨W, hW⟩ : ∃ W, W = w.alloc (.cells #[.slice none 0 0] 24) := ⟨_, rfl⟩
  have x0 : Below w.heap.size w W := by rw [hW]; exact ext_alloc (ext_refl w) _
  have hWs : W.heap.size = w.heap.size + 1 := by rw [hW]; simp
  have cR : Cell1 W ⟨w.heap.size, 0, none⟩ (.slice none 0 0) := by rw [hW]; exact Cell1.new w (.slice none 0 0) 24
  have C := hid (l5Pat_c (hc.ext x0) (hr.ext x0) hd (by omega) (by omega))
  have HR := hid hr
  clear hc hr
  go_enter Tryd.func72, Tryd.ntmps72
  go_wp2_with fail
  rw [← hW]
  clear hW
  refine C.out.mono ?_
  rintro e w1 ⟨r, ss, rfl, ⟨s, rfl, o1⟩, hsm, hc1, m1⟩
  obtain ⟨a, cap, rfl, _⟩ := o1.rd.form
  have s1 := m1.size
  have cR1 := cR.mut m1 (.inr (by simp only; omega))
  have M1 := (Mut.of_ext (lo := c) (hi := c + 1) x0).trans m1
  clear C cR m1
  have y1 := ext_alloc (ext_refl w1) (.cells #[.slice a ss.length cap] 24)
  obtain ⟨V, hV⟩ : ∃ V, V = w1.alloc (.cells #[.slice a ss.length cap] 24) := ⟨_, rfl⟩
  have cT : Cell1 V ⟨w1.heap.size, 0, none⟩ (.slice a ss.length cap) := by rw [hV]; exact Cell1.new w1 _ 24
  have hVs : V.heap.size = w1.heap.size + 1 := by rw [hV]; simp
  rw [← hV] at y1
  have hr1 := (HR.out.mut M1 (by omega)).ext y1
  have C := hid (l1Below_c (m := 10) (hc1.ext y1) hr1 hd (by omega))
  clear hr1
  go_wp2_with fail
  rw [← hV]
  clear hV
  refine C.out.mono ?_
  rintro e w2 ⟨x, rfl, x0', x1', hc2, m2⟩
  have hx8 : x ≤ 9 := by omega
  have s2 := m2.size
  have o2 := (o1.ext y1).mut m2 (.inr (by omega))
  have cR2 := (cR1.ext y1).mut m2 (.inr (by simp only; omega))
  have cT2 := cT.mut m2 (.inr (by simp only; omega))
  have M2 := (M1.trans (Mut.of_ext y1)).trans m2
  have hsz2 : w1.heap.size < w2.heap.size := by omega
  have hTw : w.heap.size < w1.heap.size := by omega
  have HFin : ∀ (w5 : World) (v5 : Value) (ss5 : List ByteArray) (o : Nat × Nat), Own w5 o.1 o.2 9 1 v5 ss5.length (ss5.map sv) → w.heap.size < o.1 → o.2 ≤ w5.heap.size → Small 7 ss5 → CurAt w5 c cv n → Mut c (c + 1) w w5 →
      ∃ (r : Value) (ss : List ByteArray), Ending.returned (.agg #[v5]) = .returned r ∧ OwnN (w5.setCell ⟨w.heap.size, 0, none⟩ v5) w.heap.size (w5.setCell ⟨w.heap.size, 0, none⟩ v5).heap.size r ss.length (ss.map sv) ∧ Small 7 ss ∧ CurAt (w5.setCell ⟨w.heap.size, 0, none⟩ v5) c cv n ∧ Mut c (c + 1) w (w5.setCell ⟨w.heap.size, 0, none⟩ v5) := by
    intro w5 v5 ss5 o h1 h2 h3 h4 h5 h6
    have m5 := Mut.setCell w5 (lo := w.heap.size) (hi := w.heap.size + 1) (p := ⟨w.heap.size, 0, none⟩) (by simp) (by simp) v5
    exact ⟨_, ss5, rfl, ⟨_, rfl, (h1.mut m5 (.inr (by omega))).mono (by omega) (Nat.le_trans h3 m5.size)⟩, h4, h5.mut m5 (.inl (by omega)), h6.after m5 (Nat.le_refl _)⟩
  have HF := hid HFin
  clear HFin C hc1 cR1 M1 cT y1 o1 m2
  by_cases hx0 : x = 0
  · subst hx0
    have yb : Below w2.heap.size w2 (w2.alloc (.cells #[.string { data := #[] }, .string { data := #[63] }, .string { data := #[63, 120, 120] }, .string { data := #[63, 65] }, .string { data := #[65] }, .string { data := #[42, 42, 42] }] 9)).drew := Below.drew (ext_alloc (ext_refl w2) _)
    have rl : Rd (w2.alloc (.cells #[.string { data := #[] }, .string { data := #[63] }, .string { data := #[63, 120, 120] }, .string { data := #[63, 65] }, .string { data := #[65] }, .string { data := #[42, 42, 42] }] 9)).drew w2.heap.size (w2.heap.size + 1) 1 (.slice (some ⟨w2.heap.size, 0, none⟩) 6 6) 6 (panL.map sv) := (Rd.new w2 (panL.map sv) 9 1 6 (by decide) rfl).ext (Below.drew (ext_refl _))
    have hrV := (HR.out.mut M2 (by omega)).ext yb
    have CS := hid (l1Str_c (hc2.ext yb) hrV hd rl (.inl (by omega)) (by decide))
    have oX := o2.ext yb
    have tX := cT2.ext yb
    have rX := cR2.ext yb
    have MX := M2.trans (Mut.of_ext yb)
    have sX := yb.size
    obtain ⟨tXa, tXb⟩ := id tX
    obtain ⟨tYa, tYb⟩ := id cT2
    clear hrV
    go_wp2_with fail
    go_region_law (first
      | (refine step_append_exact rfl (.tmp 11) (.tmp 15) 22 rfl 9 i0 (.string ByteArray.empty) 1 16 Tryd.underlying22 hi0 hz0 hz1 hz2 rfl (by decide) rfl (o3.ext (ext_alloc (ext_refl _) _)) rfl (Rd.new _ [.string t] 9 1 1 (by decide) rfl) (by simp; rfl) (by decide) (by have := hsm.1; omega) (by have := hsm.1; omega) ?_; intro v' w' o' hcase ho2 hmu; obtain ⟨a4, c4, rfl, _⟩ := ho2.rd.form; have t4 := (t3.ext (ext_alloc (ext_refl _) _)).mut hmu (.inr (by simp only; omega)); obtain ⟨t4a, t4b⟩ := id t4)
      | (go_simp; go_at_call 71; refine CS.out.mono ?_; rintro e w3 ⟨t, ht, rfl, hc3, m3⟩; have o3 := oX.mut m3 (.inr (by omega)); have t3 := tX.mut m3 (.inr (by simp only; omega)); have r3 := rX.mut m3 (.inr (by simp only; omega)); have s3 := m3.size; have hl3 : w1.heap.size < w3.heap.size := (by omega); have hts := panL_small t ht; obtain ⟨t3a, t3b⟩ := id t3))
    all_goals
      have y4 := ext_alloc (ext_refl w3) (.cells #[.string t] 9)
      have s4 := y4.size
      have s5 := hmu.size
      have m6 := Mut.setCell w' (lo := w1.heap.size) (hi := w1.heap.size + 1) (p := ⟨w1.heap.size, 0, none⟩) (by simp) (by simp) (.slice a4 (ss.length + 1) c4)
      have ho' : w.heap.size < o'.1 ∧ o'.2 ≤ w'.heap.size ∧ (o'.2 ≤ w1.heap.size ∨ w1.heap.size + 1 ≤ o'.1) := by
        rcases hcase with rfl | rfl
        · simp only; omega
        · simp only; omega
      have hS4 := hid (hsm.push hts)
      have hR4 := hid (((r3.ext y4).mut hmu (.inl (by simp only; omega))).mut m6 (.inl (by simp only; omega)))
      have hT4 := hid (t4.set (.slice a4 (ss.length + 1) c4))
      have hO4 : Hid (Own (w'.setCell ⟨w1.heap.size, 0, none⟩ (.slice a4 (ss.length + 1) c4)) o'.1 o'.2 9 1 (.slice a4 (ss.length + 1) c4) (ss ++ [t]).length ((ss ++ [t]).map sv)) := by rw [List.map_append, List.length_append]; exact ho2.mut m6 (by omega)
      have hc4 := hid (((hc3.ext y4).mut hmu (.inl (by omega))).mut m6 (.inl (by omega)))
      have hM4 := hid ((((MX.trans m3).trans (Mut.of_ext y4)).after hmu (by omega)).after m6 (by omega))
      have s6 := m6.size
      have H6 := hid (HF.out _ _ (ss ++ [t]) o' hO4.out ho'.1 (by omega) ⟨by have := hS4.out.1; omega, hS4.out.2⟩ hc4.out hM4.out)
      obtain ⟨R4a, R4b⟩ := hR4.out
      obtain ⟨T4a, T4b⟩ := hT4.out
      clear hcase ho2 hmu m6 t4 t4a t4b t3 t3a t3b r3 o3 m3 hc3 tX tXa tXb oX rX MX CS rl yb y4 hO4 hc4 hM4 hR4 hT4 tYa tYb cT2 cR2 o2 hc2
      go_wp2
      exact bodyPost_ret (v := .agg #[_]) (by simp [results, Tryd.results72, go_sem, R4a]) rfl H6.out
  have h01 : (x == 0) = false := beq_eq_false_iff_ne.2 hx0
  have h02 : decide (x = 0) = false := decide_eq_false hx0
  by_cases hx1 : x = 1
  · subst hx1
    clear h01 h02
    have y4 := ext_alloc (ext_refl w2) (.cells #[.string (⟨#[42, 42]⟩ : ByteArray)] 9)
    have oN := Own.new w2 #[.string (⟨#[42, 42]⟩ : ByteArray)] 9 1 1 (by decide) rfl
    have r4 := o2.rd.ext y4
    have cT2' := cT2.ext y4
    have cR2' := cR2.ext y4
    obtain ⟨cTa, cTb⟩ := id cT2'
    have hl := hsm.1
    go_wp2_with (at_builtin; refine wpList_append_Own rfl _ _ 22 rfl 9 i0 (.string ByteArray.empty) 1 16 Tryd.underlying22 hi0 hz0 hz1 hz2 rfl (by decide) rfl oN rfl r4 (sv_one ss) (by omega) (by omega) (by simp) ?_)
    intro v' w' ho2 hmu
    obtain ⟨ss4, hss4⟩ : ∃ s, s = (⟨#[42, 42]⟩ : ByteArray) :: ss := ⟨_, rfl⟩
    obtain ⟨n4, hn4⟩ : ∃ k, k = 1 + ss.length := ⟨_, rfl⟩
    rw [← hn4] at ho2
    obtain ⟨a4, c4, rfl, _⟩ := ho2.rd.form
    have s4 := y4.size
    have s5 := hmu.size
    have t4 := cT2'.mut hmu (.inl (by simp only; omega))
    have m6 := Mut.setCell w' (lo := w1.heap.size) (hi := w1.heap.size + 1) (p := ⟨w1.heap.size, 0, none⟩) (by simp) (by simp) (.slice a4 n4 c4)
    have hS4 : Small 7 ss4 := by
      rw [hss4]
      refine ⟨by simp; omega, fun s hs => ?_⟩
      rcases List.mem_cons.1 hs with rfl | hs
      · decide
      · exact hsm.2 s hs
    have hR4 := (cR2'.mut hmu (.inl (by simp only; omega))).mut m6 (.inl (by simp only; omega))
    have hT4 := t4.set (.slice a4 n4 c4)
    have hO4 : Own (w'.setCell ⟨w1.heap.size, 0, none⟩ (.slice a4 n4 c4)) w2.heap.size w'.heap.size 9 1 (.slice a4 n4 c4) n4 (ss4.map sv) := by rw [hss4]; exact ho2.mut m6 (.inr (by omega))
    have hc4 := ((hc2.ext y4).mut hmu (.inl (by omega))).mut m6 (.inl (by omega))
    have hM4 := ((M2.trans (Mut.of_ext y4)).after hmu (by omega)).after m6 (by omega)
    have s6 := m6.size
    have hn5 : n4 = ss4.length := by rw [hss4, hn4]; simp; omega
    have H6 := hid (HF.out (w'.setCell ⟨w1.heap.size, 0, none⟩ (.slice a4 n4 c4)) (.slice a4 n4 c4) ss4 (w2.heap.size, w'.heap.size) (by rw [← hn5]; exact hO4) (by simp only; omega) (by simp only; exact s6) hS4 hc4 hM4)
    obtain ⟨R4a, R4b⟩ := hR4
    obtain ⟨T4a, T4b⟩ := hT4
    clear ho2 hmu m6 hO4 hc4 hM4 oN r4 y4 cT2' cR2' cTa cTb cT2 cR2 o2 hc2 hn4 hn5 hss4
    obtain ⟨t4a, t4b⟩ := t4
    go_wp2
    exact bodyPost_ret (v := .agg #[_]) (by simp [results, Tryd.results72, go_sem, R4a]) rfl H6.out
  have h11 : (x == 1) = false := beq_eq_false_iff_ne.2 hx1
  have h12 : decide (x = 1) = false := decide_eq_false hx1
  by_cases hx2 : x = 2
  · subst hx2
    clear h01 h02 h11 h12
    obtain ⟨cT2a, cT2b⟩ := id cT2
    go_wp2
    go_loopw [] (fun wr => ∃ (ss : List ByteArray) (v : Value) (o : Nat × Nat), Own wr o.1 o.2 9 1 v ss.length (ss.map sv) ∧ w.heap.size < o.1 ∧ o.2 ≤ wr.heap.size ∧ (o.2 ≤ w1.heap.size ∨ w1.heap.size + 1 ≤ o.1) ∧ Small 7 ss ∧ Cell1 wr ⟨w1.heap.size, 0, none⟩ v ∧ Cell1 wr ⟨w.heap.size, 0, none⟩ (.slice none 0 0) ∧ CurAt wr c cv n ∧ w1.heap.size < wr.heap.size ∧ Mut c (c + 1) w wr) (fun wr => 8 - lenAt wr w1.heap.size)
    case atStart => exact ⟨ss, _, (W.heap.size, w1.heap.size), o2, by simp only; omega, by simp only; omega, .inl (Nat.le_refl _), ⟨by have := hsm.1; omega, hsm.2⟩, cT2, cR2, hc2, hsz2, M2⟩
    case round =>
      obtain ⟨ss, v, o, h1, h2, h3, h4, h5, h6, h7, h8, h9, hM⟩ := hrel
      clear cT2 cR2 hc2 M2 o2 hsm cT2a cT2b
      obtain ⟨a, cap, rfl, _⟩ := h1.rd.form
      have yd := Below.drew (ext_refl wr)
      have hr1 := (HR.out.mut hM (by omega)).ext yd
      have C := hid (l1Below_c (m := 3) (h8.ext yd) hr1 hd (by omega))
      have h6d := h6.ext yd
      have h7d := h7.ext yd
      have h1d := h1.ext yd
      have hMd := hM.trans (Mut.of_ext yd)
      obtain ⟨h6a, h6b⟩ := id h6
      obtain ⟨h6e, h6f⟩ := id h6d
      have hm0 := lenAt_of h6a
      have hl := h5.1
      clear hr1
      go_wp2_with fail
      go_region_law (first
        | (go_simp; go_at_call 76; refine C.out.mono ?_; rintro e w3 ⟨x, rfl, xa, xb, hc3, m3⟩; have hx3 : x ≤ 2 := (by omega); have t3 := h6d.mut m3 (.inr (by simp only; omega)); obtain ⟨t3a, t3b⟩ := id t3))
      all_goals
        have R3 := h7d.mut m3 (.inr (by simp only; omega))
        have o3 := h1d.mut m3 (by omega)
        have M3 := hMd.trans m3
        have s3 := m3.size
        have hl3 : w1.heap.size < w3.heap.size := by have := yd.size; omega
        have hb3 : o.2 ≤ w3.heap.size := by have := yd.size; omega
        obtain ⟨R3a, R3b⟩ := id R3
        clear h1 h6 h7 h8 hM h6d h7d h1d hMd h6a h6b h6e h6f C m3 yd
        have hwr : IntKind.i64.wrap (5 + x) = 5 + x := by rw [IntKind.wrap_i64]; omega
        rw [hwr]
        clear hwr
        by_cases hlt : (ss.length : Int) < 5 + x
        · have hl7 : ss.length < 7 := by omega
          go_wp2_with (at_builtin; refine wpList_append_exact rfl _ _ 22 rfl 9 i0 (.string ByteArray.empty) 1 16 Tryd.underlying22 hi0 hz0 hz1 hz2 rfl (by decide) rfl (o3.ext (ext_alloc (ext_refl _) _)) rfl (Rd.new _ [.string (⟨#[42]⟩ : ByteArray)] 9 1 1 (by decide) rfl) (by simp; rfl) (by decide) (by omega) (by omega) ?_; intro v' w' o' hcase ho2 hmu; obtain ⟨a4, c4, rfl, _⟩ := ho2.rd.form; have t4 := (t3.ext (ext_alloc (ext_refl _) _)).mut hmu (by simp only; omega); obtain ⟨t4a, t4b⟩ := id t4)
          replace hcase := hcase.out
          have y4 := ext_alloc (ext_refl w3) (.cells #[.string (⟨#[42]⟩ : ByteArray)] 9)
          have s4 := y4.size
          have s5 := hmu.size
          have m6 := Mut.setCell w' (lo := w1.heap.size) (hi := w1.heap.size + 1) (p := ⟨w1.heap.size, 0, none⟩) (by simp) (by simp) (.slice a4 (ss.length + 1) c4)
          have ho' : w.heap.size < o'.1 ∧ o'.2 ≤ w'.heap.size ∧ (o'.2 ≤ w1.heap.size ∨ w1.heap.size + 1 ≤ o'.1) := by
            rcases hcase with rfl | rfl
            · simp only; omega
            · simp only; omega
          have hS4 := hid (h5.push (s := (⟨#[42]⟩ : ByteArray)) (by decide))
          have hR4 := hid (((R3.ext y4).mut hmu (.inl (by simp only; omega))).mut m6 (.inl (by simp only; omega)))
          have hT4 := hid (t4.set (.slice a4 (ss.length + 1) c4))
          have hO4 : Hid (Own (w'.setCell ⟨w1.heap.size, 0, none⟩ (.slice a4 (ss.length + 1) c4)) o'.1 o'.2 9 1 (.slice a4 (ss.length + 1) c4) (ss ++ [(⟨#[42]⟩ : ByteArray)]).length ((ss ++ [(⟨#[42]⟩ : ByteArray)]).map sv)) := by rw [List.map_append, List.length_append]; exact ho2.mut m6 (by omega)
          have hc4 := hid (((hc3.ext y4).mut hmu (.inl (by omega))).mut m6 (.inl (by omega)))
          have hM4 := hid (((M3.trans (Mut.of_ext y4)).after hmu (by omega)).after m6 (by omega))
          have s6 := m6.size
          have hm1 := lenAt_of hT4.out.1
          clear hcase ho2 hmu m6 t4 t3 t3a t3b R3 o3 hc3 y4 M3 R3a R3b t4a t4b
          go_roundw
          case rel => exact ⟨ss ++ [(⟨#[42]⟩ : ByteArray)], _, o', hO4.out, ho'.1, by omega, ho'.2.2, ⟨by simp; omega, hS4.out.2⟩, hT4.out, hR4.out, hc4.out, by omega, hM4.out⟩
          case measure => rw [hm0, hm1]; omega
        · have hl0 : decide ((ss.length : Int) < 5 + x) = false := decide_eq_false hlt
          have H6 := hid (HF.out w3 _ ss o o3 h2 hb3 h5 hc3 M3)
          obtain ⟨r9, ss9, h9a, h9b⟩ := H6.out
          clear H6
          go_wp2
          exact bodyPost_ret (v := .agg #[.slice a ss.length cap]) (by simp [results, Tryd.results72, go_sem, R3a]) rfl (by first | exact ⟨r9, h9a, ss9, h9b⟩ | exact ⟨r9, ss9, h9a, h9b⟩)
  · have h21 : (x == 2) = false := beq_eq_false_iff_ne.2 hx2
    have h22 : decide (x = 2) = false := decide_eq_false hx2
    have H6 := hid (HF.out w2 _ ss (W.heap.size, w1.heap.size) o2 (by simp only; omega) (by simp only; omega) ⟨by have := hsm.1; omega, hsm.2⟩ hc2 M2)
    obtain ⟨R2a, R2b⟩ := cR2
    obtain ⟨cT2a, cT2b⟩ := cT2
    go_wp2
    exact bodyPost_ret (v := .agg #[_]) (by simp [results, Tryd.results72, go_sem, R2a]) rfl H6.out
end Go.Proofs.YtoehjfcadhgpbaaDoor