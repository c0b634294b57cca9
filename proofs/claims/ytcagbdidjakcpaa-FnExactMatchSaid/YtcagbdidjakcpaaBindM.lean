/- The laws' marks on slices of bindings (markBindingS, heldBindingS), and their copy by slices.Clone. Condition: the marks are small. -/
import Derived.Test.YtcagbdidjakcpaaBind
import Derived.Test.YtcagbdidjakcpaaMark
import Derived.Test.YtcagbdidjakcpaaStrsS
set_option linter.unusedVariables false
namespace Go.Proofs.Ytcagbdidjakcpaa
open Go.RowKit
set_option maxRecDepth 100000 in
set_option maxHeartbeats 2000000 in
theorem markBindingS_c {w : World} {lo hi n : Nat} {v : Value} {zs : List Value} (h : Own w lo hi 96 2 v n zs) {k0 : Nat} (h1 : 0 < k0) (h2 : k0 ≤ 100000000000) (hn : n ≤ 50000000000) :
    Calls Try.prog 32 #[v, .int .i64 k0] w fun e w' => e = .returned (.int .i64 ((k0 + n * 2 : Nat) : Int)) ∧ Own w' lo hi 96 2 v n (marksString k0 (n * 2)) ∧ Mut lo hi w w' := by
  have hl := h.1
  have H0 := hid hl
  have HL : Hid (zs.length = (marksString k0 (n * 2)).length) := by rw [Hid, marksString_len, hl]
  clear hl
  have hr := h.rd
  obtain ⟨_, a, cap, rfl, hc, hm, _⟩ := hr
  go_enter Try.func32, Try.ntmps32
  go_wp2
  go_loopw [1, 5] (fun q i wr => ∃ k : Nat, k ≤ n ∧ i = .int .i64 k ∧ q = .int .i64 ((k0 + k * 2 : Nat) : Int) ∧ Own wr lo hi 96 2 (.slice a n cap) n (mix (marksString k0 (n * 2)) zs (k * 2)) ∧ Mut lo hi w wr) (fun _ i _ => n - (intOf i).toNat)
  case atStart => exact ⟨0, Nat.zero_le _, rfl, by simp, by rw [Nat.zero_mul, mix_zero]; exact h, Mut.refl _ _ _⟩
  case round =>
    obtain ⟨k, hk, rfl, rfl, ho, hb⟩ := hrel
    clear h
    by_cases hlt : k < n
    · have HM := hid (marksString_at k0 (n * 2) (k * 2) (by omega))
      have HM' := hid (marksString_at k0 (n * 2) (k * 2 + 1) (by omega))
      obtain ⟨j, hj⟩ : ∃ j, j = k0 + k * 2 := ⟨_, rfl⟩
      rw [show k0 + (k * 2 + 1) = j + 1 by omega] at HM'
      rw [← hj] at HM ⊢
      have hj1 : 0 < j := by omega
      have hj2 : j + 1 ≤ 1000000000000 := by omega
      have HJ := hid hj
      clear hj
      have e2 : (j : Int) + 1 = ((j + 1 : Nat) : Int) := by omega
      have HE := hid e2
      clear e2
      have C := hid (fun (V : World) => markText_c (w := V) hj1 (by omega))
      have C' := hid (fun (V : World) => markText_c (w := V) (k := j + 1) (by omega) hj2)
      go_wp2_with fail
      refine (C.out _).mono ?_
      rintro e w1 ⟨_, rfl, rfl, y1⟩
      have ho1 := ho.ext y1
      have hb1 := hb.trans (Mut.of_ext y1)
      clear ho y1
      obtain ⟨g, cp, hv, _, _, _, _, hgs, hfz, hcl, hst⟩ := ho1.at_ (by omega)
      simp only [Value.slice.injEq, true_and] at hv
      obtain ⟨rfl, rfl⟩ := hv
      have f1 := hfz (k * 2)
      obtain ⟨z, hz⟩ : ∃ z, zs[k * 2]? = some z := ⟨_, List.getElem?_eq_getElem (by rw [H0.out]; omega)⟩
      have c2 := hcl (k * 2) z (by rw [mix_get _ _ (k * 2) (by rw [marksString_len]; omega)]; exact hz)
      obtain ⟨ho', hmu⟩ := hst (k * 2) (.string (mt j))
      rw [mix_set _ _ (k * 2) HL.out _ HM.out] at ho'
      have hb2 := hb1.trans hmu
      clear hfz hcl hst ho1 hz hb1 hmu
      go_wp2_with fail
      first
        | rw [HE.out]
        | skip
      refine (C'.out _).mono ?_
      rintro e w2 ⟨_, rfl, rfl, y2⟩
      have ho3 := ho'.ext y2
      have hb3 := hb2.trans (Mut.of_ext y2)
      clear ho' y2 hb2 c2 f1
      obtain ⟨g', cp', hv, _, _, _, _, hgs', hfz, hcl, hst⟩ := ho3.at_ (by omega)
      simp only [Value.slice.injEq, Option.some.injEq, Addr.mk.injEq, and_true, true_and] at hv
      obtain ⟨rfl, rfl⟩ := hv
      have f1 := hfz (k * 2 + 1)
      obtain ⟨z, hz⟩ : ∃ z, zs[k * 2 + 1]? = some z := ⟨_, List.getElem?_eq_getElem (by rw [H0.out]; omega)⟩
      have c2 := hcl (k * 2 + 1) z (by rw [mix_get _ _ (k * 2 + 1) (by rw [marksString_len]; omega)]; exact hz)
      obtain ⟨ho', hmu⟩ := hst (k * 2 + 1) (.string (mt (j + 1)))
      rw [mix_set _ _ (k * 2 + 1) HL.out _ HM'.out] at ho'
      have hb2 := hb3.trans hmu
      clear hfz hcl hst ho3 hz hb3 hmu C C'
      go_wp2
      go_roundw
      case rel => exact ⟨k + 1, by omega, by go_num, by rw [HJ.out]; go_num, by rw [show (k + 1) * 2 = k * 2 + 1 + 1 by omega]; exact ho', hb2⟩
      case measure => simp [intOf]; omega
    · have hkn : k = n := by omega
      subst hkn
      go_wp2
      go_ret
      refine ⟨rfl, ?_, hb⟩
      rwa [mix_all _ _ (k * 2) (by rw [marksString_len]; omega) (by rw [H0.out]; omega)] at ho
set_option maxRecDepth 100000 in
set_option maxHeartbeats 2000000 in
theorem heldBindingS_c {w : World} {lo hi n : Nat} {v : Value} {k0 : Nat} (h : Rd w lo hi 2 v n (marksString k0 (n * 2))) (h1 : 0 < k0) (h2 : k0 ≤ 100000000000) (hn : n ≤ 50000000000) :
    Calls Try.prog 37 #[v, .int .i64 k0] w (Gives w fun r _ => r = .int .i64 ((k0 + n * 2 : Nat) : Int)) := by
  obtain ⟨_, a, cap, rfl, hc, hm, hat⟩ := h
  go_enter Try.func37, Try.ntmps37
  go_wp2
  go_loopw [1, 5] (fun q i wr => ∃ k : Nat, k ≤ n ∧ i = .int .i64 k ∧ q = .int .i64 ((k0 + k * 2 : Nat) : Int) ∧ Below w.heap.size w wr) (fun _ i _ => n - (intOf i).toNat)
  case atStart => exact ⟨0, Nat.zero_le _, rfl, by simp, ext_refl _⟩
  case round =>
    obtain ⟨k, hk, rfl, rfl, hb⟩ := hrel
    by_cases hlt : k < n
    · obtain ⟨b, off, rfl, _, _, hbs, hcell⟩ := hat (by omega)
      have c1 : wr.cell? ⟨b, off + k * 2, none⟩ = some (.string (mt (k0 + k * 2))) := (hb.cell (by exact hbs)).trans (hcell (k * 2) _ (marksString_at k0 (n * 2) (k * 2) (by omega)))
      have d1 : wr.cell? ⟨b, off + k * 2 + 1, none⟩ = some (.string (mt (k0 + k * 2 + 1))) := (hb.cell (by exact hbs)).trans (by rw [Nat.add_assoc]; exact hcell (k * 2 + 1) _ (marksString_at k0 (n * 2) (k * 2 + 1) (by omega)))
      have hbr : b < wr.heap.size := Nat.lt_of_lt_of_le hbs hb.size
      clear hcell hat
      obtain ⟨j, hj⟩ : ∃ j, j = k0 + k * 2 := ⟨_, rfl⟩
      rw [← hj] at c1 d1 ⊢
      have hj1 : 0 < j := by omega
      have hj2 : j + 1 ≤ 1000000000000 := by omega
      have HJ := hid hj
      clear hj
      have C := hid (fun (V : World) => markText_c (w := V) hj1 (by omega))
      have C0 := fun (V : World) => markText_c (w := V) (k := j + 1) (by omega) hj2
      simp only [show ((j + 1 : Nat) : Int) = (j : Int) + 1 by omega] at C0
      have C' := hid C0
      clear C0
      have i0 : (0 : Int) ≤ (k : Int) := by omega
      have i1 : (k : Int) < (n : Int) := by omega
      have e1 : ((mt j).toList == (mt j).toList) = true := by simp
      have e2 : ((mt (j + 1)).toList == (mt (j + 1)).toList) = true := by simp
      have yd := Below.drew hb
      replace c1 := cell_ext c1 (Below.drew (ext_refl wr))
      replace d1 := cell_ext d1 (Below.drew (ext_refl wr))
      go_wp2_with fail
      go_region_held3 (fun w' => w'.cell? ⟨b, off + k * 2, none⟩ = some (.string (mt j)) ∧ w'.cell? ⟨b, off + k * 2 + 1, none⟩ = some (.string (mt (j + 1))))
        (first | exact ⟨c1, d1⟩)
        (first
          | (go_at_call 89; refine (C.out _).mono ?_; rintro e w1 ⟨_, rfl, rfl, y1⟩; replace yd := ext_trans yd y1; replace c1 := cell_ext c1 y1; replace d1 := cell_ext d1 y1))
      clear y1 hb
      have yd2 := Below.drew yd
      replace d1 := cell_ext d1 (Below.drew (ext_refl w1))
      have hbr2 : b < w1.heap.size := World.block_lt_of_cell? w1 _ d1
      go_wp2_with fail
      go_region_held3 (fun w' => w'.cell? ⟨b, off + k * 2 + 1, none⟩ = some (.string (mt (j + 1))))
        (first | exact d1)
        (first
          | (go_at_call 89; refine (C'.out _).mono ?_; rintro e w2 ⟨_, rfl, rfl, y2⟩; replace yd2 := ext_trans yd2 y2; replace d1 := cell_ext d1 y2))
      clear y2 c1 d1 C C'
      go_wp2
      go_roundw
      case rel => exact ⟨k + 1, by omega, by go_num, by rw [HJ.out]; go_num, yd2⟩
      case measure => simp [intOf]; omega
    · have hkn : k = n := by omega
      subst hkn
      go_wp2
      go_ret
      exact gives_int rfl hb
end Go.Proofs.Ytcagbdidjakcpaa
