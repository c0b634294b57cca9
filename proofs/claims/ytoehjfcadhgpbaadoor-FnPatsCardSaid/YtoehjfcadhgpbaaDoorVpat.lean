/- ValidPattern by the program and the reference. Condition: the value reads as strings of a size that fits. -/
import Derived.Test.YtoehjfcadhgpbaaDoorName
import Derived.Test.YtoehjfcadhgpbaaDoorPart
import Derived.Test.YtoehjfcadhgpbaaDoorLt
set_option linter.unusedVariables false
namespace Go.Proofs.YtoehjfcadhgpbaaDoor
open Go.RowKit
/-- The part at place k of n is right. -/
def po (n k : Nat) (s : ByteArray) : Bool := vp s || s.toList == [42] || lt s || (s.toList == [42, 42] && decide (n ≤ k + 1))
def vpAll (xs : List ByteArray) : Bool := decide (∀ k, (h : k < xs.length) → po xs.length k xs[k] = true)
def vpt (xs : List ByteArray) : Bool := vpAll xs && decide (xs.length ≤ 6)
def Good (xs : List ByteArray) (k : Nat) : Prop := ∀ j, (h : j < xs.length) → j < k → po xs.length j xs[j] = true
theorem good_zero (xs : List ByteArray) : Good xs 0 := fun j h hj => absurd hj (by omega)
theorem good_step {xs : List ByteArray} {k : Nat} (h : k < xs.length) (g : Good xs k) (hp : po xs.length k xs[k] = true) : Good xs (k + 1) := fun j hj hk => by
  by_cases e : j = k
  · subst e; exact hp
  · exact g j hj (by omega)
theorem good_end {xs : List ByteArray} {k : Nat} (h : xs.length ≤ k) (g : Good xs k) : vpAll xs = true := decide_eq_true fun j hj => g j hj (by omega)
theorem good_bad {xs : List ByteArray} {k : Nat} (h : k < xs.length) (hp : po xs.length k xs[k] = false) : vpAll xs = false := decide_eq_false fun g => by rw [g k h] at hp; cases hp
set_option maxHeartbeats 1000000 in
theorem specValidPattern_c {w : World} {lo hi n : Nat} {v : Value} {xs : List ByteArray} (h : RdN w lo hi v n (xs.map sv)) (hs : ∀ s ∈ xs, s.size ≤ 9223372036854775807) :
    Calls Tryd.prog 37 #[v] w (Gives w fun r _ => r = .bool (vpt xs)) := by
  obtain ⟨s, rfl, h⟩ := h
  obtain ⟨W, hW⟩ : ∃ W, W = w.alloc (.cells #[s] 24) := ⟨_, rfl⟩
  have x0 : Below w.heap.size w W := by rw [hW]; exact ext_alloc (ext_refl w) _
  have cS : W.cell? ⟨w.heap.size, 0, none⟩ = some s := by rw [hW]; simp
  have hWs : W.heap.size = w.heap.size + 1 := by rw [hW]; simp
  have r1 := h.ext x0
  clear h
  obtain ⟨hl, a, cap, rfl, hc, hm, hat⟩ := r1
  simp only [List.length_map, Nat.mul_one] at hl
  have H1 := hid hl
  have HWs := hid hWs
  have HW := hid hW
  have HS := hid hs
  clear hl hWs hW hs
  go_enter Tryd.func37, Tryd.ntmps37
  go_wp2
  rw [← HW.out]
  go_loopw [3] (fun i wr => ∃ k : Nat, k ≤ n ∧ i = .int .i64 k ∧ Hid (Good xs k) ∧ Below W.heap.size W wr) (fun i _ => n - (intOf i).toNat)
  case atStart => exact ⟨0, Nat.zero_le _, rfl, hid (good_zero xs), ext_refl _⟩
  case round =>
    obtain ⟨k, hk, rfl, HC, hb⟩ := hrel
    have cS' := (hb.cell (p := ⟨w.heap.size, 0, none⟩) (by rw [HWs.out]; simp only; omega)).trans cS
    have x := ext_trans x0 hb
    by_cases hlt : k < n
    · obtain ⟨b, off, rfl, _, _, hbs, hcell⟩ := hat (by omega)
      have hkx : k < xs.length := by rw [H1.out]; exact hlt
      have c1 : wr.cell? ⟨b, off + k, none⟩ = some (.string xs[k]) := (hb.cell (by exact hbs)).trans (hcell k _ (by simp [hkx, sv]))
      have HB := hid (fun hv => good_bad hkx hv)
      have HN := hid (fun hv => good_step hkx HC.out hv)
      have hsz := HS.out xs[k] (List.getElem_mem hkx)
      have i0 : (0 : Int) ≤ (k : Int) := by omega
      have i1 : (k : Int) < (n : Int) := by omega
      clear hcell hat
      rw [H1.out] at HB HN
      generalize xs[k] = x1 at c1 HB HN hsz
      go_wp2_with fail
      refine (specValidPart_c hsz).mono ?_
      rintro e w1 ⟨_, rfl, rfl, y1⟩
      have hb1 := ext_trans hb y1
      have hx1 := ext_trans x y1
      replace cS' := cell_ext cS' y1
      clear y1 c1
      have HP : Hid (po n k x1 = (vp x1 || x1.toList == [42] || lt x1 || (x1.toList == [42, 42] && decide (n ≤ k + 1)))) := rfl
      cases hv : vp x1
      · rw [hv] at HP
        clear hv
        cases e1 : (x1.toList == [42])
        · rw [e1] at HP
          go_wp2_with fail
          refine (l5Letter_c x1).mono ?_
          rintro e w2 ⟨_, rfl, rfl, y2⟩
          have hb2 := ext_trans hb1 y2
          have hx2 := ext_trans hx1 y2
          replace cS' := cell_ext cS' y2
          clear y2
          cases hv : lt x1
          · rw [hv] at HP
            clear hv
            cases e2 : (x1.toList == [42, 42])
            · rw [e2] at HP
              have HF := hid (HB.out (by rw [HP.out]; rfl))
              clear HB HN HP
              go_wp2
              go_ret
              exact gives_bool (by unfold vpt; rw [HF.out]; rfl) hx2
            · rw [e2] at HP
              by_cases hl : n ≤ k + 1
              · have HF := hid (HN.out (by rw [HP.out, decide_eq_true hl]; rfl))
                have g1 : ¬ (k : Int) < (n : Int) - 1 := by omega
                have g2 : decide ((k : Int) < (n : Int) - 1) = false := decide_eq_false g1
                clear HB HN HP
                go_wp2
                go_roundw
                case rel => exact ⟨k + 1, by omega, by go_num, HF, hb2⟩
                case measure => simp [intOf]; omega
              · have HF := hid (HB.out (by rw [HP.out, decide_eq_false hl]; rfl))
                have g1 : (k : Int) < (n : Int) - 1 := by omega
                have g2 : decide ((k : Int) < (n : Int) - 1) = true := decide_eq_true g1
                clear HB HN HP
                go_wp2
                go_ret
                exact gives_bool (by unfold vpt; rw [HF.out]; rfl) hx2
          · rw [hv] at HP
            clear hv
            have HF := hid (HN.out (by rw [HP.out]; rfl))
            clear HB HN HP
            go_wp2
            go_roundw
            case rel => exact ⟨k + 1, by omega, by go_num, HF, hb2⟩
            case measure => simp [intOf]; omega
        · rw [e1] at HP
          have HF := hid (HN.out (by rw [HP.out]; rfl))
          clear HB HN HP
          go_wp2
          go_roundw
          case rel => exact ⟨k + 1, by omega, by go_num, HF, hb1⟩
          case measure => simp [intOf]; omega
      · rw [hv] at HP
        have HF := hid (HN.out (by rw [HP.out]; rfl))
        clear HB HN hv HP
        go_wp2
        go_roundw
        case rel => exact ⟨k + 1, by omega, by go_num, HF, hb1⟩
        case measure => simp [intOf]; omega
    · have hk2 : decide (k < n) = false := decide_eq_false hlt
      have HF := hid (good_end (by rw [H1.out]; omega) HC.out)
      go_wp2
      go_ret
      exact gives_bool (by unfold vpt; rw [HF.out, H1.out]; simp; omega) x
set_option maxHeartbeats 1000000 in
theorem implValidPattern_c {w : World} {lo hi n : Nat} {v : Value} {xs : List ByteArray} (h : RdN w lo hi v n (xs.map sv)) (hs : ∀ s ∈ xs, s.size ≤ 9223372036854775807) :
    Calls Tryd.prog 36 #[v] w (Gives w fun r _ => r = .bool (vpt xs)) := by
  obtain ⟨s, rfl, h⟩ := h
  obtain ⟨W, hW⟩ : ∃ W, W = w.alloc (.cells #[s] 24) := ⟨_, rfl⟩
  have x0 : Below w.heap.size w W := by rw [hW]; exact ext_alloc (ext_refl w) _
  have cS : W.cell? ⟨w.heap.size, 0, none⟩ = some s := by rw [hW]; simp
  have hWs : W.heap.size = w.heap.size + 1 := by rw [hW]; simp
  have r1 := h.ext x0
  clear h
  obtain ⟨hl, a, cap, rfl, hc, hm, hat⟩ := r1
  simp only [List.length_map, Nat.mul_one] at hl
  have H1 := hid hl
  have HWs := hid hWs
  have HW := hid hW
  have HS := hid hs
  clear hl hWs hW hs
  go_enter Tryd.func36, Tryd.ntmps36
  go_wp2
  rw [← HW.out]
  go_loopw [8] (fun i wr => ∃ k : Nat, k ≤ n ∧ i = .int .i64 k ∧ Hid (Good xs k) ∧ Below W.heap.size W wr) (fun i _ => n - (intOf i).toNat)
  case atStart => exact ⟨0, Nat.zero_le _, rfl, hid (good_zero xs), ext_refl _⟩
  case round =>
    obtain ⟨k, hk, rfl, HC, hb⟩ := hrel
    have cS' := (hb.cell (p := ⟨w.heap.size, 0, none⟩) (by rw [HWs.out]; simp only; omega)).trans cS
    have x := ext_trans x0 hb
    by_cases hlt : k < n
    · obtain ⟨b, off, rfl, _, _, hbs, hcell⟩ := hat (by omega)
      have hkx : k < xs.length := by rw [H1.out]; exact hlt
      have c1 : wr.cell? ⟨b, off + k, none⟩ = some (.string xs[k]) := (hb.cell (by exact hbs)).trans (hcell k _ (by simp [hkx, sv]))
      have HB := hid (fun hv => good_bad hkx hv)
      have HN := hid (fun hv => good_step hkx HC.out hv)
      have hsz := HS.out xs[k] (List.getElem_mem hkx)
      have i0 : (0 : Int) ≤ (k : Int) := by omega
      have i1 : (k : Int) < (n : Int) := by omega
      clear hcell hat
      rw [H1.out] at HB HN
      generalize xs[k] = x1 at c1 HB HN hsz
      go_wp2_with fail
      refine (implValidPart_c hsz).mono ?_
      rintro e w1 ⟨_, rfl, rfl, y1⟩
      have hb1 := ext_trans hb y1
      have hx1 := ext_trans x y1
      replace cS' := cell_ext cS' y1
      clear y1 c1
      have HP : Hid (po n k x1 = (vp x1 || x1.toList == [42] || lt x1 || (x1.toList == [42, 42] && decide (n ≤ k + 1)))) := rfl
      cases hv : vp x1
      · rw [hv] at HP
        clear hv
        cases e1 : (x1.toList == [42])
        · rw [e1] at HP
          go_wp2_with fail
          refine (isVariable_c x1).mono ?_
          rintro e w2 ⟨_, rfl, rfl, y2⟩
          have hb2 := ext_trans hb1 y2
          have hx2 := ext_trans hx1 y2
          replace cS' := cell_ext cS' y2
          clear y2
          cases hv : lt x1
          · rw [hv] at HP
            clear hv
            cases e2 : (x1.toList == [42, 42])
            · rw [e2] at HP
              have HF := hid (HB.out (by rw [HP.out]; rfl))
              clear HB HN HP
              go_wp2
              go_ret
              exact gives_bool (by unfold vpt; rw [HF.out]; rfl) hx2
            · rw [e2] at HP
              by_cases hl : n ≤ k + 1
              · have HF := hid (HN.out (by rw [HP.out, decide_eq_true hl]; rfl))
                have g1 : ((k : Int) == (n : Int) - 1) = true := by simp; omega
                have g2 : ((k : Int) != (n : Int) - 1) = false := by simp; omega
                clear HB HN HP
                go_wp2
                go_roundw
                case rel => exact ⟨k + 1, by omega, by go_num, HF, hb2⟩
                case measure => simp [intOf]; omega
              · have HF := hid (HB.out (by rw [HP.out, decide_eq_false hl]; rfl))
                have g1 : ((k : Int) == (n : Int) - 1) = false := by simp; omega
                have g2 : ((k : Int) != (n : Int) - 1) = true := by simp; omega
                clear HB HN HP
                go_wp2
                go_ret
                exact gives_bool (by unfold vpt; rw [HF.out]; rfl) hx2
          · rw [hv] at HP
            clear hv
            have HF := hid (HN.out (by rw [HP.out]; rfl))
            clear HB HN HP
            go_wp2
            go_roundw
            case rel => exact ⟨k + 1, by omega, by go_num, HF, hb2⟩
            case measure => simp [intOf]; omega
        · rw [e1] at HP
          have HF := hid (HN.out (by rw [HP.out]; rfl))
          clear HB HN HP
          go_wp2
          go_roundw
          case rel => exact ⟨k + 1, by omega, by go_num, HF, hb1⟩
          case measure => simp [intOf]; omega
      · rw [hv] at HP
        have HF := hid (HN.out (by rw [HP.out]; rfl))
        clear HB HN hv HP
        go_wp2
        go_roundw
        case rel => exact ⟨k + 1, by omega, by go_num, HF, hb1⟩
        case measure => simp [intOf]; omega
    · have hk2 : decide (k < n) = false := decide_eq_false hlt
      have HF := hid (good_end (by rw [H1.out]; omega) HC.out)
      go_wp2
      go_ret
      exact gives_bool (by unfold vpt; rw [HF.out, H1.out]; simp; omega) x
end Go.Proofs.YtoehjfcadhgpbaaDoor
