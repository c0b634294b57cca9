/- Pairs and bindings that the reference draws for patterns (l5Pair, l5Binds). Condition: the cursor lies in a block of its own and reads its bytes. -/
import Derived.Test.YtoehjfcadhgpbaaDoorDp
import Derived.Test.YtoehjfcadhgpbaaDoorBind
set_option linter.unusedVariables false
set_option linter.unusedSimpArgs false
namespace Go.Proofs.YtoehjfcadhgpbaaDoor
open Go.RowKit
/-- A pattern and a name, both small and new. -/
def TwoP (base : Nat) (r : Value) (w' : World) : Prop := ∃ (v1 v2 : Value) (a b : List ByteArray), r = .tuple #[v1, v2] ∧ RdN w' base w'.heap.size v1 a.length (a.map sv) ∧ RdN w' base w'.heap.size v2 b.length (b.map sv) ∧ Small 7 a ∧ Small 7 b
theorem two_set {w5 : World} {base l1 h1 l2 h2 : Nat} {z1 z2 v1 v2 : Value} {a b : List ByteArray} (R : Cell1 w5 ⟨base, 0, none⟩ z1) (Q : Cell1 w5 ⟨base + 1, 0, none⟩ z2)
    (o1 : Rd w5 l1 h1 1 v1 a.length (a.map sv)) (o2 : Rd w5 l2 h2 1 v2 b.length (b.map sv)) (g1 : base + 2 ≤ l1) (g2 : base + 2 ≤ l2) (e1 : h1 ≤ w5.heap.size) (e2 : h2 ≤ w5.heap.size) :
    RdN ((w5.setCell ⟨base, 0, none⟩ v1).setCell ⟨base + 1, 0, none⟩ v2) base ((w5.setCell ⟨base, 0, none⟩ v1).setCell ⟨base + 1, 0, none⟩ v2).heap.size (.agg #[v1]) a.length (a.map sv) ∧
    RdN ((w5.setCell ⟨base, 0, none⟩ v1).setCell ⟨base + 1, 0, none⟩ v2) base ((w5.setCell ⟨base, 0, none⟩ v1).setCell ⟨base + 1, 0, none⟩ v2).heap.size (.agg #[v2]) b.length (b.map sv) ∧
    Hid (((w5.setCell ⟨base, 0, none⟩ v1).setCell ⟨base + 1, 0, none⟩ v2).cell? ⟨base, 0, none⟩ = some v1) ∧
    Hid (((w5.setCell ⟨base, 0, none⟩ v1).setCell ⟨base + 1, 0, none⟩ v2).cell? ⟨base + 1, 0, none⟩ = some v2) ∧
    Mut base (base + 2) w5 ((w5.setCell ⟨base, 0, none⟩ v1).setCell ⟨base + 1, 0, none⟩ v2) := by
  have n1 := Mut.setCell w5 (lo := base) (hi := base + 2) (p := ⟨base, 0, none⟩) (by simp) (by simp) v1
  have n2 := Mut.setCell (w5.setCell ⟨base, 0, none⟩ v1) (lo := base) (hi := base + 2) (p := ⟨base + 1, 0, none⟩) (by simp) (by simp) v2
  have n3 := n1.trans n2
  have k1 := R.set v1
  have k2 := k1.mut (Mut.setCell _ (lo := base + 1) (hi := base + 2) (p := ⟨base + 1, 0, none⟩) (by simp) (by simp) v2) (.inl (by simp))
  have k3 := (Q.mut (Mut.setCell w5 (lo := base) (hi := base + 1) (p := ⟨base, 0, none⟩) (by simp) (by simp) v1) (.inr (by simp))).set v2
  exact ⟨⟨_, rfl, (o1.mut n3 (.inr (by omega))).mono (by omega) (Nat.le_trans e1 n3.size)⟩, ⟨_, rfl, (o2.mut n3 (.inr (by omega))).mono (by omega) (Nat.le_trans e2 n3.size)⟩, k2.1, k3.1, n3⟩
set_option maxRecDepth 100000 in
set_option maxHeartbeats 4000000 in
theorem l5Pair_c {w : World} {c lo hi n : Nat} {cv : Value} {xs : List UInt8} (hc : CurAt w c cv n) (hr : Rd w lo hi 1 cv n (xs.map bv)) (hd : c < lo ∨ hi ≤ c) (hhi : hi ≤ w.heap.size) (hcs : c < w.heap.size) :
    Calls Tryd.prog 62 #[.pointer (some ⟨c, 0, none⟩)] w fun e w' => ∃ (r : Value), e = .returned r ∧ TwoP w.heap.size r w' ∧ CurAt w' c cv n ∧ Mut c (c + 1) w w' := by
  obtain ⟨i0, hi0, hz0, hz1, hz2⟩ := info_parts info_string
  obtain ⟨W, hW⟩ : ∃ W, W = (w.alloc (.cells #[.slice none 0 0] 24)).alloc (.cells #[.slice none 0 0] 30) := ⟨_, rfl⟩
  have x0 : Below w.heap.size w W := by rw [hW]; exact ext_alloc (ext_alloc (ext_refl w) _) _
  have hWs : W.heap.size = w.heap.size + 2 := by rw [hW]; simp
  have cR : Cell1 W ⟨w.heap.size, 0, none⟩ (.slice none 0 0) := by rw [hW]; exact (Cell1.new w (.slice none 0 0) 24).ext (ext_alloc (ext_refl _) _)
  have cQ : Cell1 W ⟨w.heap.size + 1, 0, none⟩ (.slice none 0 0) := by rw [hW]; simpa using Cell1.new (w.alloc (.cells #[.slice none 0 0] 24)) (.slice none 0 0) 30
  have C := hid (l5Any_c (hc.ext x0) (hr.ext x0) hd (by omega) (by omega))
  have HR := hid hr
  clear hc hr
  go_enter Tryd.func62, Tryd.ntmps62
  go_wp2_with fail
  rw [← hW]
  clear hW
  refine C.out.mono ?_
  rintro e w1 ⟨r, ps, rfl, ⟨s, rfl, o1⟩, hsm, hc1, m1⟩
  obtain ⟨a, cap, rfl, _⟩ := o1.rd.form
  have s1 := m1.size
  have R1 := cR.mut m1 (.inr (by simp only; omega))
  have Q1 := cQ.mut m1 (.inr (by simp only; omega))
  have M1 := (Mut.of_ext (lo := c) (hi := c + 1) x0).trans m1
  have hpl := hsm.1
  have HSM := hid hsm
  obtain ⟨V, hV⟩ : ∃ V, V = (w1.alloc (.cells #[.slice a ps.length cap] 24)).alloc (.cells #[.slice none 0 0] 30) := ⟨_, rfl⟩
  have y1 : Below w1.heap.size w1 V := by rw [hV]; exact ext_alloc (ext_alloc (ext_refl w1) _) _
  have hVs : V.heap.size = w1.heap.size + 2 := by rw [hV]; simp
  have cT : Cell1 V ⟨w1.heap.size, 0, none⟩ (.slice a ps.length cap) := by rw [hV]; exact (Cell1.new w1 _ 24).ext (ext_alloc (ext_refl _) _)
  have cB : Cell1 V ⟨w1.heap.size + 1, 0, none⟩ (.slice none 0 0) := by rw [hV]; simpa using Cell1.new (w1.alloc (.cells #[.slice a ps.length cap] 24)) (.slice none 0 0) 30
  clear C hsm cR cQ m1 x0
  have yb : Below V.heap.size V (V.alloc (.cells #[.string { data := #[97] }, .string { data := #[98] }, .string { data := #[49] }] 9)) := ext_alloc (ext_refl V) _
  have rl : Rd (V.alloc (.cells #[.string { data := #[97] }, .string { data := #[98] }, .string { data := #[49] }] 9)) V.heap.size (V.heap.size + 1) 1 (.slice (some ⟨V.heap.size, 0, none⟩) 3 3) 3 (abL.map sv) := Rd.new V (abL.map sv) 9 1 3 (by decide) rfl
  have hc3 := (hc1.ext y1).ext yb
  have hr3 := ((HR.out.mut M1 (by omega)).ext y1).ext yb
  have CS := hid (l1Str_c hc3 hr3 hd rl (.inl (by omega)) (by decide))
  rw [show V.heap.size = w1.heap.size + 1 + 1 by omega] at CS
  have P3 := (o1.rd.ext y1).ext yb
  have R3 := (R1.ext y1).ext yb
  have Q3 := (Q1.ext y1).ext yb
  have C3 := cT.ext yb
  have B3 := cB.ext yb
  have M3 := (M1.trans (Mut.of_ext y1)).trans (Mut.of_ext yb)
  have sb := yb.size
  replace sb : w1.heap.size + 2 ≤ (V.alloc (.cells #[.string { data := #[97] }, .string { data := #[98] }, .string { data := #[49] }] 9)).heap.size := by omega
  clear hVs
  clear hc3 hr3 hc1 o1 R1 Q1 M1 y1 cT cB yb rl
  go_wp2_with fail
  rw [← hV]
  clear hV
  refine CS.out.mono ?_
  rintro e w2 ⟨x, hx, rfl, hc2, m2⟩
  have hxs := abL_small x hx
  have P2 := P3.mut m2 (.inr (by omega))
  have R2 := R3.mut m2 (.inr (by simp only; omega))
  have Q2 := Q3.mut m2 (.inr (by simp only; omega))
  have C2 := C3.mut m2 (.inr (by simp only; omega))
  have B2 := B3.mut m2 (.inr (by simp only; omega))
  have M2 := M3.trans m2
  have s2 := m2.size
  have hz2' : w1.heap.size + 2 ≤ w2.heap.size := by omega
  clear CS P3 R3 Q3 C3 B3 M3 m2 hx
  have HXS := hid hxs
  clear hxs
  go_wp2
  go_loopw [7] (fun i wr => ∃ (k : Nat) (ss : List ByteArray) (v : Value), k ≤ ps.length ∧ i = .int .i64 k ∧ Cell1 wr ⟨w1.heap.size + 1, 0, none⟩ v ∧ Own wr (w1.heap.size + 2) wr.heap.size 9 1 v ss.length (ss.map sv) ∧ Small k ss ∧ CurAt wr c cv n ∧ Cell1 wr ⟨w1.heap.size, 0, none⟩ (.slice a ps.length cap) ∧ Rd wr W.heap.size w1.heap.size 1 (.slice a ps.length cap) ps.length (ps.map sv) ∧ Cell1 wr ⟨w.heap.size, 0, none⟩ (.slice none 0 0) ∧ Cell1 wr ⟨w.heap.size + 1, 0, none⟩ (.slice none 0 0) ∧ w1.heap.size + 2 ≤ wr.heap.size ∧ Mut c (c + 1) w wr) (fun i _ => ps.length - (intOf i).toNat)
  case atStart => exact ⟨0, [], .slice none 0 0, Nat.zero_le _, rfl, B2, Own.none_ _ _ _ _ _ _, ⟨by simp, by simp⟩, hc2, C2, P2, R2, Q2, hz2', M2⟩
  case round =>
    obtain ⟨k, ss, v, hk, rfl, hT, ho, hS, hcu, hC, hP, hR, hQ, hsz, hM⟩ := hrel
    clear hc2 P2 R2 Q2 C2 B2 M2 hz2' s2
    obtain ⟨av, cv', rfl, _⟩ := ho.rd.form
    have hl := hS.1
    obtain ⟨hCa, hCb⟩ := id hC
    by_cases hlt : k < ps.length
    · obtain ⟨_, ap, cp, hv, _, _, hat⟩ := id hP
      simp only [Value.slice.injEq, true_and] at hv
      obtain ⟨rfl, rfl⟩ := hv
      obtain ⟨b, off, rfl, _, _, hbs, hcell⟩ := hat (by omega)
      have d1 : wr.cell? ⟨b, off + k, none⟩ = some (.string ps[k]) := hcell k _ (by simp [hlt, sv])
      have j0 : (0 : Int) ≤ (k : Int) := by omega
      have j1 : (k : Int) < (ps.length : Int) := by omega
      have HPK := hid (HSM.out.2 _ (List.getElem_mem hlt))
      clear hcell hat
      generalize ps[k] = s at d1 HPK
      cases e1 : (s.toList == [42, 42])
      · cases e2 : (s.toList == [63, 120])
        · cases e3 : (s.toList == [63, 121])
          · cases e4 : (s.toList == [42])
            · skip
              have gR := hR
              have gQ := hQ
              have gC := hC
              have gP := hP
              have gc := hcu
              have gM := hM
              obtain ⟨hTa, hTb⟩ := id hT
              go_wp2_with (at_builtin; refine wpList_append_Own rfl _ _ 22 rfl 9 i0 (.string ByteArray.empty) 1 16 Tryd.underlying22 hi0 hz0 hz1 hz2 rfl (by decide) rfl (ho.ext (ext_alloc (ext_refl _) _)) rfl (Rd.new _ [.string s] 9 1 1 (by decide) rfl) (by simp; rfl) (by omega) (by omega) (by simp; omega) ?_)
              intro v' w' ho2 hmu
              obtain ⟨a4, c4, rfl, _⟩ := ho2.rd.form
              have t4 := (hT.ext (ext_alloc (ext_refl wr) (.cells #[.string s] 9))).mut hmu (.inl (by simp only; omega))
              have y4 := ext_alloc (ext_refl wr) (.cells #[.string s] 9)
              have s4 := y4.size
              have s5 := hmu.size
              have m6 := Mut.setCell w' (lo := w1.heap.size + 1) (hi := w1.heap.size + 2) (p := ⟨w1.heap.size + 1, 0, none⟩) (by simp) (by simp) (.slice a4 (ss.length + 1) c4)
              have GS := hid (hS.push (s := s) HPK.out)
              have GR := hid (((gR.ext y4).mut hmu (.inl (by simp only; omega))).mut m6 (.inl (by simp only; omega)))
              have GQ := hid (((gQ.ext y4).mut hmu (.inl (by simp only; omega))).mut m6 (.inl (by simp only; omega)))
              have GC := hid (((gC.ext y4).mut hmu (.inl (by simp only; omega))).mut m6 (.inl (by simp only; omega)))
              have GP := hid (((gP.ext y4).mut hmu (.inl (by omega))).mut m6 (.inl (by omega)))
              have GT := hid (t4.set (.slice a4 (ss.length + 1) c4))
              have GO : Hid (Own (w'.setCell ⟨w1.heap.size + 1, 0, none⟩ (.slice a4 (ss.length + 1) c4)) (w1.heap.size + 2) (w'.setCell ⟨w1.heap.size + 1, 0, none⟩ (.slice a4 (ss.length + 1) c4)).heap.size 9 1 (.slice a4 (ss.length + 1) c4) (ss ++ [s]).length ((ss ++ [s]).map sv)) := by rw [List.map_append, List.length_append]; exact (ho2.mut m6 (.inr (Nat.le_refl _))).mono (Nat.le_refl _) m6.size
              have Gc := hid (((gc.ext y4).mut hmu (.inl (by omega))).mut m6 (.inl (by omega)))
              have GM := hid (((gM.trans (Mut.of_ext y4)).after hmu (by omega)).after m6 (by omega))
              have s6 := m6.size
              have GZ := hid (show w1.heap.size + 2 ≤ (w'.setCell ⟨w1.heap.size + 1, 0, none⟩ (.slice a4 (ss.length + 1) c4)).heap.size by omega)
              obtain ⟨t4a, t4b⟩ := id t4
              clear ho2 hmu m6 t4 hT hTa hTb gR gQ gC gP gc gM hR hQ hC hP hcu hM ho y4
              go_wp2
              go_roundw
              case rel => exact ⟨k + 1, ss ++ [s], _, by omega, by go_num, GT.out, GO.out, GS.out, Gc.out, GC.out, GP.out, GR.out, GQ.out, GZ.out, GM.out⟩
              case measure => simp [intOf]; omega
            · skip
              have yb : Below wr.heap.size wr (wr.alloc (.cells #[.string { data := #[97] }, .string { data := #[98] }, .string { data := #[49] }] 9)).drew := Below.drew (ext_alloc (ext_refl wr) _)
              have rl : Rd (wr.alloc (.cells #[.string { data := #[97] }, .string { data := #[98] }, .string { data := #[49] }] 9)).drew wr.heap.size (wr.heap.size + 1) 1 (.slice (some ⟨wr.heap.size, 0, none⟩) 3 3) 3 (abL.map sv) := (Rd.new wr (abL.map sv) 9 1 3 (by decide) rfl).ext (Below.drew (ext_refl _))
              have hrV := (HR.out.mut hM (by omega)).ext yb
              have CS := hid (l1Str_c (hcu.ext yb) hrV hd rl (.inl (by omega)) (by decide))
              have oX := ho.ext yb
              have tX := hT.ext yb
              have rX := hR.ext yb
              have qX := hQ.ext yb
              have cX := hC.ext yb
              have pX := hP.ext yb
              have MX := hM.trans (Mut.of_ext yb)
              have sX := yb.size
              obtain ⟨tXa, tXb⟩ := id tX
              obtain ⟨tYa, tYb⟩ := id hT
              clear hrV
              go_wp2_with fail
              go_region_law (first
                | (refine step_append_Own rfl (.tmp 58) (.tmp 62) 22 rfl 9 i0 (.string ByteArray.empty) 1 16 Tryd.underlying22 hi0 hz0 hz1 hz2 rfl (by decide) rfl (o3.ext (ext_alloc (ext_refl _) _)) rfl (Rd.new _ [.string t] 9 1 1 (by decide) rfl) (by simp; rfl) (by omega) (by omega) (by simp; omega) ?_; intro v' w' ho2 hmu; obtain ⟨a4, c4, rfl, _⟩ := ho2.rd.form; have t4 := (t3.ext (ext_alloc (ext_refl _) _)).mut hmu (.inl (by simp only; omega)); obtain ⟨t4a, t4b⟩ := id t4)
                | (go_simp; go_at_call 71; refine CS.out.mono ?_; rintro e w3 ⟨t, ht, rfl, gc, m3⟩; have o3 := oX.mut m3 (.inr (by omega)); have t3 := tX.mut m3 (.inr (by simp only; omega)); have gR := rX.mut m3 (.inr (by simp only; omega)); have gQ := qX.mut m3 (.inr (by simp only; omega)); have gC := cX.mut m3 (.inr (by simp only; omega)); have gP := pX.mut m3 (.inr (by omega)); have gM := MX.trans m3; have s3 := m3.size; have hl3 : w1.heap.size + 1 < w3.heap.size := (by omega); have hl4 : w1.heap.size < w3.heap.size := (by omega); have hl5 : w.heap.size < w3.heap.size := (by omega); have hts := abL_small t ht; obtain ⟨t3a, t3b⟩ := id t3))
              all_goals
                have y4 := ext_alloc (ext_refl w3) (.cells #[.string t] 9)
                have s4 := y4.size
                have s5 := hmu.size
                have m6 := Mut.setCell w' (lo := w1.heap.size + 1) (hi := w1.heap.size + 2) (p := ⟨w1.heap.size + 1, 0, none⟩) (by simp) (by simp) (.slice a4 (ss.length + 1) c4)
                have GS := hid (hS.push (s := t) hts)
                have GR := hid (((gR.ext y4).mut hmu (.inl (by simp only; omega))).mut m6 (.inl (by simp only; omega)))
                have GQ := hid (((gQ.ext y4).mut hmu (.inl (by simp only; omega))).mut m6 (.inl (by simp only; omega)))
                have GC := hid (((gC.ext y4).mut hmu (.inl (by simp only; omega))).mut m6 (.inl (by simp only; omega)))
                have GP := hid (((gP.ext y4).mut hmu (.inl (by omega))).mut m6 (.inl (by omega)))
                have GT := hid (t4.set (.slice a4 (ss.length + 1) c4))
                have GO : Hid (Own (w'.setCell ⟨w1.heap.size + 1, 0, none⟩ (.slice a4 (ss.length + 1) c4)) (w1.heap.size + 2) (w'.setCell ⟨w1.heap.size + 1, 0, none⟩ (.slice a4 (ss.length + 1) c4)).heap.size 9 1 (.slice a4 (ss.length + 1) c4) (ss ++ [t]).length ((ss ++ [t]).map sv)) := by rw [List.map_append, List.length_append]; exact (ho2.mut m6 (.inr (Nat.le_refl _))).mono (Nat.le_refl _) m6.size
                have Gc := hid (((gc.ext y4).mut hmu (.inl (by omega))).mut m6 (.inl (by omega)))
                have GM := hid (((gM.trans (Mut.of_ext y4)).after hmu (by omega)).after m6 (by omega))
                have s6 := m6.size
                have GZ := hid (show w1.heap.size + 2 ≤ (w'.setCell ⟨w1.heap.size + 1, 0, none⟩ (.slice a4 (ss.length + 1) c4)).heap.size by omega)
                obtain ⟨t4a, t4b⟩ := id t4
                clear ho2 hmu m6 t4 t3 t3a t3b o3 m3 tX tXa tXb oX rX qX cX pX MX CS rl yb y4 tYa tYb hT hR hQ hC hP hcu hM ho gR gQ gC gP gc gM
                go_wp2
                go_roundw
                case rel => exact ⟨k + 1, ss ++ [t], _, by omega, by go_num, GT.out, GO.out, GS.out, Gc.out, GC.out, GP.out, GR.out, GQ.out, GZ.out, GM.out⟩
                case measure => simp [intOf]; omega
          · skip
            have gR := hR
            have gQ := hQ
            have gC := hC
            have gP := hP
            have gc := hcu
            have gM := hM
            obtain ⟨hTa, hTb⟩ := id hT
            go_wp2_with (at_builtin; refine wpList_append_Own rfl _ _ 22 rfl 9 i0 (.string ByteArray.empty) 1 16 Tryd.underlying22 hi0 hz0 hz1 hz2 rfl (by decide) rfl (ho.ext (ext_alloc (ext_refl _) _)) rfl (Rd.new _ [.string x] 9 1 1 (by decide) rfl) (by simp; rfl) (by omega) (by omega) (by simp; omega) ?_)
            intro v' w' ho2 hmu
            obtain ⟨a4, c4, rfl, _⟩ := ho2.rd.form
            have t4 := (hT.ext (ext_alloc (ext_refl wr) (.cells #[.string x] 9))).mut hmu (.inl (by simp only; omega))
            have y4 := ext_alloc (ext_refl wr) (.cells #[.string x] 9)
            have s4 := y4.size
            have s5 := hmu.size
            have m6 := Mut.setCell w' (lo := w1.heap.size + 1) (hi := w1.heap.size + 2) (p := ⟨w1.heap.size + 1, 0, none⟩) (by simp) (by simp) (.slice a4 (ss.length + 1) c4)
            have GS := hid (hS.push (s := x) HXS.out)
            have GR := hid (((gR.ext y4).mut hmu (.inl (by simp only; omega))).mut m6 (.inl (by simp only; omega)))
            have GQ := hid (((gQ.ext y4).mut hmu (.inl (by simp only; omega))).mut m6 (.inl (by simp only; omega)))
            have GC := hid (((gC.ext y4).mut hmu (.inl (by simp only; omega))).mut m6 (.inl (by simp only; omega)))
            have GP := hid (((gP.ext y4).mut hmu (.inl (by omega))).mut m6 (.inl (by omega)))
            have GT := hid (t4.set (.slice a4 (ss.length + 1) c4))
            have GO : Hid (Own (w'.setCell ⟨w1.heap.size + 1, 0, none⟩ (.slice a4 (ss.length + 1) c4)) (w1.heap.size + 2) (w'.setCell ⟨w1.heap.size + 1, 0, none⟩ (.slice a4 (ss.length + 1) c4)).heap.size 9 1 (.slice a4 (ss.length + 1) c4) (ss ++ [x]).length ((ss ++ [x]).map sv)) := by rw [List.map_append, List.length_append]; exact (ho2.mut m6 (.inr (Nat.le_refl _))).mono (Nat.le_refl _) m6.size
            have Gc := hid (((gc.ext y4).mut hmu (.inl (by omega))).mut m6 (.inl (by omega)))
            have GM := hid (((gM.trans (Mut.of_ext y4)).after hmu (by omega)).after m6 (by omega))
            have s6 := m6.size
            have GZ := hid (show w1.heap.size + 2 ≤ (w'.setCell ⟨w1.heap.size + 1, 0, none⟩ (.slice a4 (ss.length + 1) c4)).heap.size by omega)
            obtain ⟨t4a, t4b⟩ := id t4
            clear ho2 hmu m6 t4 hT hTa hTb gR gQ gC gP gc gM hR hQ hC hP hcu hM ho y4
            go_wp2
            go_roundw
            case rel => exact ⟨k + 1, ss ++ [x], _, by omega, by go_num, GT.out, GO.out, GS.out, Gc.out, GC.out, GP.out, GR.out, GQ.out, GZ.out, GM.out⟩
            case measure => simp [intOf]; omega
        · skip
          have gR := hR
          have gQ := hQ
          have gC := hC
          have gP := hP
          have gc := hcu
          have gM := hM
          obtain ⟨hTa, hTb⟩ := id hT
          go_wp2_with (at_builtin; refine wpList_append_Own rfl _ _ 22 rfl 9 i0 (.string ByteArray.empty) 1 16 Tryd.underlying22 hi0 hz0 hz1 hz2 rfl (by decide) rfl (ho.ext (ext_alloc (ext_refl _) _)) rfl (Rd.new _ [.string x] 9 1 1 (by decide) rfl) (by simp; rfl) (by omega) (by omega) (by simp; omega) ?_)
          intro v' w' ho2 hmu
          obtain ⟨a4, c4, rfl, _⟩ := ho2.rd.form
          have t4 := (hT.ext (ext_alloc (ext_refl wr) (.cells #[.string x] 9))).mut hmu (.inl (by simp only; omega))
          have y4 := ext_alloc (ext_refl wr) (.cells #[.string x] 9)
          have s4 := y4.size
          have s5 := hmu.size
          have m6 := Mut.setCell w' (lo := w1.heap.size + 1) (hi := w1.heap.size + 2) (p := ⟨w1.heap.size + 1, 0, none⟩) (by simp) (by simp) (.slice a4 (ss.length + 1) c4)
          have GS := hid (hS.push (s := x) HXS.out)
          have GR := hid (((gR.ext y4).mut hmu (.inl (by simp only; omega))).mut m6 (.inl (by simp only; omega)))
          have GQ := hid (((gQ.ext y4).mut hmu (.inl (by simp only; omega))).mut m6 (.inl (by simp only; omega)))
          have GC := hid (((gC.ext y4).mut hmu (.inl (by simp only; omega))).mut m6 (.inl (by simp only; omega)))
          have GP := hid (((gP.ext y4).mut hmu (.inl (by omega))).mut m6 (.inl (by omega)))
          have GT := hid (t4.set (.slice a4 (ss.length + 1) c4))
          have GO : Hid (Own (w'.setCell ⟨w1.heap.size + 1, 0, none⟩ (.slice a4 (ss.length + 1) c4)) (w1.heap.size + 2) (w'.setCell ⟨w1.heap.size + 1, 0, none⟩ (.slice a4 (ss.length + 1) c4)).heap.size 9 1 (.slice a4 (ss.length + 1) c4) (ss ++ [x]).length ((ss ++ [x]).map sv)) := by rw [List.map_append, List.length_append]; exact (ho2.mut m6 (.inr (Nat.le_refl _))).mono (Nat.le_refl _) m6.size
          have Gc := hid (((gc.ext y4).mut hmu (.inl (by omega))).mut m6 (.inl (by omega)))
          have GM := hid (((gM.trans (Mut.of_ext y4)).after hmu (by omega)).after m6 (by omega))
          have s6 := m6.size
          have GZ := hid (show w1.heap.size + 2 ≤ (w'.setCell ⟨w1.heap.size + 1, 0, none⟩ (.slice a4 (ss.length + 1) c4)).heap.size by omega)
          obtain ⟨t4a, t4b⟩ := id t4
          clear ho2 hmu m6 t4 hT hTa hTb gR gQ gC gP gc gM hR hQ hC hP hcu hM ho y4
          go_wp2
          go_roundw
          case rel => exact ⟨k + 1, ss ++ [x], _, by omega, by go_num, GT.out, GO.out, GS.out, Gc.out, GC.out, GP.out, GR.out, GQ.out, GZ.out, GM.out⟩
          case measure => simp [intOf]; omega
      · skip
        have gR := hR
        have gQ := hQ
        have gC := hC
        have gP := hP
        have gc := hcu
        have gM := hM
        obtain ⟨hTa, hTb⟩ := id hT
        go_wp2_with (at_builtin; refine wpList_append_Own rfl _ _ 22 rfl 9 i0 (.string ByteArray.empty) 1 16 Tryd.underlying22 hi0 hz0 hz1 hz2 rfl (by decide) rfl (ho.ext (ext_alloc (ext_refl _) _)) rfl (Rd.new _ [.string (⟨#[97]⟩ : ByteArray)] 9 1 1 (by decide) rfl) (by simp; rfl) (by omega) (by omega) (by simp; omega) ?_)
        intro v' w' ho2 hmu
        obtain ⟨a4, c4, rfl, _⟩ := ho2.rd.form
        have t4 := (hT.ext (ext_alloc (ext_refl wr) (.cells #[.string (⟨#[97]⟩ : ByteArray)] 9))).mut hmu (.inl (by simp only; omega))
        have y4 := ext_alloc (ext_refl wr) (.cells #[.string (⟨#[97]⟩ : ByteArray)] 9)
        have s4 := y4.size
        have s5 := hmu.size
        have m6 := Mut.setCell w' (lo := w1.heap.size + 1) (hi := w1.heap.size + 2) (p := ⟨w1.heap.size + 1, 0, none⟩) (by simp) (by simp) (.slice a4 (ss.length + 1) c4)
        have GS := hid (hS.push (s := (⟨#[97]⟩ : ByteArray)) (by decide))
        have GR := hid (((gR.ext y4).mut hmu (.inl (by simp only; omega))).mut m6 (.inl (by simp only; omega)))
        have GQ := hid (((gQ.ext y4).mut hmu (.inl (by simp only; omega))).mut m6 (.inl (by simp only; omega)))
        have GC := hid (((gC.ext y4).mut hmu (.inl (by simp only; omega))).mut m6 (.inl (by simp only; omega)))
        have GP := hid (((gP.ext y4).mut hmu (.inl (by omega))).mut m6 (.inl (by omega)))
        have GT := hid (t4.set (.slice a4 (ss.length + 1) c4))
        have GO : Hid (Own (w'.setCell ⟨w1.heap.size + 1, 0, none⟩ (.slice a4 (ss.length + 1) c4)) (w1.heap.size + 2) (w'.setCell ⟨w1.heap.size + 1, 0, none⟩ (.slice a4 (ss.length + 1) c4)).heap.size 9 1 (.slice a4 (ss.length + 1) c4) (ss ++ [(⟨#[97]⟩ : ByteArray)]).length ((ss ++ [(⟨#[97]⟩ : ByteArray)]).map sv)) := by rw [List.map_append, List.length_append]; exact (ho2.mut m6 (.inr (Nat.le_refl _))).mono (Nat.le_refl _) m6.size
        have Gc := hid (((gc.ext y4).mut hmu (.inl (by omega))).mut m6 (.inl (by omega)))
        have GM := hid (((gM.trans (Mut.of_ext y4)).after hmu (by omega)).after m6 (by omega))
        have s6 := m6.size
        have GZ := hid (show w1.heap.size + 2 ≤ (w'.setCell ⟨w1.heap.size + 1, 0, none⟩ (.slice a4 (ss.length + 1) c4)).heap.size by omega)
        obtain ⟨t4a, t4b⟩ := id t4
        clear ho2 hmu m6 t4 hT hTa hTb gR gQ gC gP gc gM hR hQ hC hP hcu hM ho y4
        go_wp2
        go_roundw
        case rel => exact ⟨k + 1, ss ++ [(⟨#[97]⟩ : ByteArray)], _, by omega, by go_num, GT.out, GO.out, GS.out, Gc.out, GC.out, GP.out, GR.out, GQ.out, GZ.out, GM.out⟩
        case measure => simp [intOf]; omega
    · have hk2 : decide (k < ps.length) = false := decide_eq_false hlt
      have hk3 : decide ((k : Int) < (ps.length : Int)) = false := decide_eq_false (by omega)
      have C := hid (l1Once_c (m := 3) hcu (HR.out.mut hM (by omega)) hd (by omega))
      go_wp2_with fail
      refine C.out.mono ?_
      rintro e w3 ⟨b, rfl, hc3, m3⟩
      have o3 := (ho.mut m3 (.inr (by omega))).rd
      have T3 := hT.mut m3 (.inr (by simp only; omega))
      have C3 := hC.mut m3 (.inr (by simp only; omega))
      have R3 := hR.mut m3 (.inr (by simp only; omega))
      have Q3 := hQ.mut m3 (.inr (by simp only; omega))
      have P3 := hP.mut m3 (.inr (by omega))
      have M3 := hM.trans m3
      have s3 := m3.size
      clear C hcu ho hT hC hR hQ hP hM m3 hCa hCb
      have yd : Below w3.heap.size w3 w3.drew := Below.drew (ext_refl _)
      have qd : w3.heap.size ≤ w3.drew.heap.size := Nat.le_refl _
      have od := o3.ext yd
      have Pd := P3.ext yd
      have Rd' := R3.ext yd
      have Qd := Q3.ext yd
      have Td := T3.ext yd
      have Cd := C3.ext yd
      have cd := hc3.ext yd
      have Md := M3.trans (Mut.of_ext yd)
      obtain ⟨T3a, T3b⟩ := id T3
      obtain ⟨C3a, C3b⟩ := id C3
      obtain ⟨R3a, R3b⟩ := id R3
      obtain ⟨Q3a, Q3b⟩ := id Q3
      obtain ⟨Tda, Tdb⟩ := id Td
      obtain ⟨Cda, Cdb⟩ := id Cd
      cases b
      · skip
        have F := two_set (w5 := w3) (base := w.heap.size) (a := ps) (b := ss) R3 Q3 P3 o3 (by omega) (by omega) (by omega) (by omega)
        obtain ⟨F0, F1, F2, F3, F4⟩ := F
        have yD := Below.drew (ext_refl ((w3.setCell ⟨w.heap.size, 0, none⟩ (.slice a ps.length cap)).setCell ⟨w.heap.size + 1, 0, none⟩ (.slice av ss.length cv')))
        replace F0 := F0.ext yD
        replace F1 := F1.ext yD
        have G1 : Hid (TwoP _ _ _) := ⟨_, _, ps, ss, rfl, F0, F1, HSM.out, ⟨by omega, hS.2⟩⟩
        have G2 := hid ((hc3.mut F4 (.inl (by omega))).ext yD)
        have G3 := hid ((M3.after F4 (Nat.le_refl _)).trans (Mut.of_ext yD))
        have E2 := cell_ext F2.out yD
        have E3 := cell_ext F3.out yD
        clear F0 F1 F2 F3 F4 Md cd od Pd o3 P3 M3 yd yD
        go_wp2_with fail
        go_region
        all_goals
          go_wp2
          exact bodyPost_ret (v := .tuple #[.agg #[.slice a ps.length cap], .agg #[.slice av ss.length cv']]) (by simp [results, Tryd.results62, go_sem, E2, E3]) rfl ⟨_, rfl, G1.out, G2.out, G3.out⟩
      · skip
        have hrd := (HR.out.mut M3 (by omega)).ext yd
        have C := hid (l4Any_c cd hrd hd (by omega) (by omega))
        clear hrd
        go_wp2_with fail
        go_region_law (first
          | (go_simp; go_at_call 74; refine C.out.mono ?_; rintro e w4 ⟨r4, tt, rfl, ⟨s4, rfl, o5⟩, hsm4, hc4, m4⟩; obtain ⟨a4, cap4, rfl, _⟩ := o5.rd.form; have q4 := m4.size; have R5 := Rd'.mut m4 (.inr (by simp only; omega)); have Q5 := Qd.mut m4 (.inr (by simp only; omega)); have C5 := Cd.mut m4 (.inr (by simp only; omega)); obtain ⟨R5a, R5b⟩ := id R5; obtain ⟨Q5a, Q5b⟩ := id Q5; obtain ⟨C5a, C5b⟩ := id C5))
        all_goals
          have F := two_set (w5 := w4) (base := w.heap.size) (a := ps) (b := tt) R5 Q5 (Pd.mut m4 (.inr (by omega))) o5.rd (by omega) (by omega) (by omega) (by omega)
          obtain ⟨F0, F1, F2, F3, F4⟩ := F
          have G1 : Hid (TwoP _ _ _) := ⟨_, _, ps, tt, rfl, F0, F1, HSM.out, hsm4⟩
          have G2 := hid (hc4.mut F4 (.inl (by omega)))
          have G3 := hid ((Md.trans m4).after F4 (Nat.le_refl _))
          have E2 := F2.out
          have E3 := F3.out
          clear F0 F1 F2 F3 F4 Md cd od Pd o3 P3 M3 yd hc4 o5 m4 C R5 Q5 C5
          go_wp2
          exact bodyPost_ret (v := .tuple #[.agg #[.slice a ps.length cap], .agg #[.slice a4 tt.length cap4]]) (by simp [results, Tryd.results62, go_sem, E2, E3]) rfl ⟨_, rfl, G1.out, G2.out, G3.out⟩
def xyL : List ByteArray := [⟨#[63, 120]⟩, ⟨#[63, 121]⟩, ⟨#[63, 122]⟩]
theorem xyL_small : ∀ s ∈ xyL, s.size ≤ 16 := by decide
theorem two_cells (s x : ByteArray) : ∀ u ∈ [Value.string s, Value.string x], u.oneCell' = true := by
  intro u hu
  rcases List.mem_cons.1 hu with rfl | hu
  · rfl
  · rw [List.mem_singleton.1 hu]; rfl
theorem map_pair (o : List ByteArray) (s x : ByteArray) : o.map sv ++ [Value.string s, Value.string x] = (o ++ [s, x]).map sv := by simp [sv]
theorem mem_pair {o : List ByteArray} {s x : ByteArray} (h : ∀ t ∈ o, t.size ≤ 16) (hs : s.size ≤ 16) (hx : x.size ≤ 16) : ∀ t ∈ o ++ [s, x], t.size ≤ 16 := by
  intro t ht
  rcases List.mem_append.1 ht with h1 | h1
  · exact h t h1
  · rcases List.mem_cons.1 h1 with rfl | h1
    · exact hs
    · rw [List.mem_singleton.1 h1]; exact hx
set_option maxRecDepth 100000 in
set_option maxHeartbeats 4000000 in
theorem l5Binds_c {w : World} {c lo hi n : Nat} {cv : Value} {xs : List UInt8} (hc : CurAt w c cv n) (hr : Rd w lo hi 1 cv n (xs.map bv)) (hd : c < lo ∨ hi ≤ c) (hhi : hi ≤ w.heap.size) (hcs : c < w.heap.size) :
    Calls Tryd.prog 63 #[.pointer (some ⟨c, 0, none⟩)] w fun e w' => ∃ (r : Value) (m : Nat) (ss : List ByteArray), e = .returned r ∧ Own w' w.heap.size w'.heap.size 74 2 r m (ss.map sv) ∧ m ≤ 2 ∧ (∀ s ∈ ss, s.size ≤ 16) ∧ CurAt w' c cv n ∧ Mut c (c + 1) w w' := by
  obtain ⟨i0, hi0, hz0, hz1, hz2⟩ := info_parts info_binding
  obtain ⟨W, hW⟩ : ∃ W, W = w.alloc (.cells #[] 74) := ⟨_, rfl⟩
  have x0 : Below w.heap.size w W := by rw [hW]; exact ext_alloc (ext_refl w) _
  have hWs : W.heap.size = w.heap.size + 1 := by rw [hW]; simp
  have oW : Own W w.heap.size W.heap.size 74 2 (.slice (some ⟨w.heap.size, 0, none⟩) 0 0) 0 [] := by
    rw [hWs, hW]; exact Own.new w #[] 74 2 0 (by decide) rfl
  have C := hid (l1Below_c (m := 3) (hc.ext x0) (hr.ext x0) hd (by omega))
  have HR := hid hr
  clear hc hr
  go_enter Tryd.func63, Tryd.ntmps63
  go_wp2_with fail
  rw [← hW]
  clear hW
  refine C.out.mono ?_
  rintro e w1 ⟨x, rfl, xa, xb, hc1, m1⟩
  have hx4 : x ≤ 2 := by omega
  obtain ⟨x, rfl⟩ := Int.eq_ofNat_of_zero_le xa
  have s1 := m1.size
  have o1 := (oW.mut m1 (.inr (by omega))).mono (Nat.le_refl _) s1
  have M1 := (Mut.of_ext (lo := c) (hi := c + 1) x0).trans m1
  have z1 : w.heap.size ≤ w1.heap.size := by omega
  clear C oW x0 m1
  go_wp2
  go_loopw [3, 4] (fun u i wr => ∃ (k m : Nat) (ss : List ByteArray), k + m ≤ 2 ∧ i = .int .i64 k ∧ Own wr w.heap.size wr.heap.size 74 2 u m (ss.map sv) ∧ (∀ s ∈ ss, s.size ≤ 16) ∧ CurAt wr c cv n ∧ w.heap.size ≤ wr.heap.size ∧ Mut c (c + 1) w wr) (fun _ i _ => (intOf i).toNat)
  case atStart => exact ⟨x, 0, [], by omega, rfl, o1, by simp, hc1, z1, M1⟩
  case round =>
    obtain ⟨k, m, ss, hk, rfl, ho, hS, hcu, hsz, hM⟩ := hrel
    have HS := hid hS
    clear hc1 o1 M1 hS z1 s1
    obtain ⟨av, cv', rfl, _⟩ := ho.rd.form
    by_cases hk0 : 0 < k
    · obtain ⟨j, rfl⟩ : ∃ j, k = j + 1 := ⟨k - 1, by omega⟩
      have yb : Below wr.heap.size wr (wr.alloc (.cells #[.string { data := #[63, 120] }, .string { data := #[63, 121] }, .string { data := #[63, 122] }] 9)) := ext_alloc (ext_refl wr) _
      have rl : Rd (wr.alloc (.cells #[.string { data := #[63, 120] }, .string { data := #[63, 121] }, .string { data := #[63, 122] }] 9)) wr.heap.size (wr.heap.size + 1) 1 (.slice (some ⟨wr.heap.size, 0, none⟩) 3 3) 3 (xyL.map sv) := Rd.new wr (xyL.map sv) 9 1 3 (by decide) rfl
      have hrV := (HR.out.mut hM (by omega)).ext yb
      have CS := hid (l1Str_c (hcu.ext yb) hrV hd rl (.inl (by omega)) (by decide))
      have oX := ho.ext yb
      have MX := hM.trans (Mut.of_ext yb)
      have sX := yb.size
      clear hrV hcu ho hM
      go_wp2_with fail
      refine CS.out.mono ?_
      rintro e w2 ⟨t, ht, rfl, hc2, m2⟩
      have o2 := oX.mut m2 (.inr (by omega))
      have M2 := MX.trans m2
      have s2 := m2.size
      have HT := hid (xyL_small t ht)
      clear CS oX MX rl yb m2 ht
      have yb : Below w2.heap.size w2 (w2.alloc (.cells #[.string { data := #[97] }, .string { data := #[98] }, .string { data := #[49] }] 9)) := ext_alloc (ext_refl w2) _
      have rl : Rd (w2.alloc (.cells #[.string { data := #[97] }, .string { data := #[98] }, .string { data := #[49] }] 9)) w2.heap.size (w2.heap.size + 1) 1 (.slice (some ⟨w2.heap.size, 0, none⟩) 3 3) 3 (abL.map sv) := Rd.new w2 (abL.map sv) 9 1 3 (by decide) rfl
      have hrV := (HR.out.mut M2 (by omega)).ext yb
      have CS := hid (l1Str_c (hc2.ext yb) hrV hd rl (.inl (by omega)) (by decide))
      have oX := o2.ext yb
      have MX := M2.trans (Mut.of_ext yb)
      have sX2 := yb.size
      clear hrV hc2 o2 M2
      go_wp2_with fail
      refine CS.out.mono ?_
      rintro e w3 ⟨t', ht, rfl, hc3, m3⟩
      have o3 := oX.mut m3 (.inr (by omega))
      have M3 := MX.trans m3
      have s3 := m3.size
      have HT' := hid (abL_small t' ht)
      have z3 : w.heap.size ≤ w3.heap.size := by omega
      have z4 : wr.heap.size ≤ w3.heap.size := by omega
      clear CS oX MX rl yb m3 ht
      go_wp2_with (at_builtin; refine wpList_append_Own rfl _ _ 37 rfl 74 i0 (.agg #[.string ByteArray.empty, .string ByteArray.empty]) 2 32 Tryd.underlying37 hi0 hz0 hz1 hz2 rfl (by decide) rfl (o3.ext (ext_alloc (ext_refl _) _)) rfl (Rd.new _ [.string t, .string t'] 74 2 1 (by decide) rfl) (two_cells t t') (by omega) (by omega) (Nat.le_trans (by omega) (ext_alloc (ext_refl _) _).size) ?_)
      intro v7 w7 ho7 hmu
      have y4 := ext_alloc (ext_refl w3) (.cells #[.string t, .string t'] 74)
      rw [map_pair] at ho7
      have HO := hid ho7
      have HC := hid ((hc3.ext y4).mut hmu (.inl (by omega)))
      have HM := hid ((M3.trans (Mut.of_ext y4)).after hmu (Nat.le_refl _))
      have HZ := hid (show w.heap.size ≤ w7.heap.size from Nat.le_trans z3 (Nat.le_trans y4.size hmu.size))
      have HSP := hid (mem_pair HS.out HT.out HT'.out)
      clear ho7 hmu o3 M3 hc3 y4
      go_wp2
      go_roundw
      case rel => exact ⟨j, m + 1, _, by omega, (by first | rfl | go_num), HO.out, HSP.out, HC.out, HZ.out, HM.out⟩
      case measure => simp [intOf]
    · have hk00 : k = 0 := by omega
      subst hk00
      go_wp2
      go_ret
      exact ⟨_, m, ss, rfl, ho, by omega, HS.out, hcu, hM⟩
end Go.Proofs.YtoehjfcadhgpbaaDoor