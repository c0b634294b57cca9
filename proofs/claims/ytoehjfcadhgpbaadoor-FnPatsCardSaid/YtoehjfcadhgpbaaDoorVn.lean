/- ValidName by the program and the reference. Condition: the value reads as strings of a size that fits. -/
import Derived.Test.YtoehjfcadhgpbaaDoorName
import Derived.Test.YtoehjfcadhgpbaaDoorPart
set_option linter.unusedVariables false
namespace Go.Proofs.YtoehjfcadhgpbaaDoor
open Go.RowKit
/-- A name is valid: each part is, and there are at most six. -/
def vn (xs : List ByteArray) : Bool := xs.all vp && decide (xs.length ≤ 6)
theorem vn_bad {xs : List ByteArray} {k : Nat} (h : k < xs.length) (hb : vp xs[k] = false) : xs.all vp = false := by
  rw [List.all_eq_false]
  exact ⟨xs[k], List.getElem_mem h, by simp [hb]⟩
theorem vn_step {xs : List ByteArray} {k : Nat} (h : k < xs.length) (ha : (xs.take k).all vp = true) (hb : vp xs[k] = true) : (xs.take (k + 1)).all vp = true := by
  rw [List.take_succ_eq_append_getElem h, List.all_append, ha]
  simp [hb]
theorem vn_end {xs : List ByteArray} {k : Nat} (h : xs.length ≤ k) (ha : (xs.take k).all vp = true) : xs.all vp = true := by
  rw [List.take_of_length_le h] at ha
  exact ha
set_option maxHeartbeats 1000000 in
theorem specValidName_c {w : World} {lo hi n : Nat} {v : Value} {xs : List ByteArray} (h : RdN w lo hi v n (xs.map sv)) (hs : ∀ s ∈ xs, s.size ≤ 9223372036854775807) :
    Calls Tryd.prog 52 #[v] w (Gives w fun r _ => r = .bool (vn xs)) := by
  obtain ⟨s, rfl, h⟩ := h
  obtain ⟨W, hW⟩ : ∃ W, W = w.alloc (.cells #[s] 30) := ⟨_, rfl⟩
  have x0 : Below w.heap.size w W := by rw [hW]; exact ext_alloc (ext_refl w) _
  have cS : W.cell? ⟨w.heap.size, 0, none⟩ = some s := by rw [hW]; simp
  have hWs : W.heap.size = w.heap.size + 1 := by rw [hW]; simp
  have r1 := h.ext x0
  clear h
  obtain ⟨hl, a, cap, rfl, hc, hm, hat⟩ := r1
  simp only [List.length_map, Nat.mul_one] at hl
  have H1 := hid hl
  have HWs := hid hWs
  have HW := hid hW
  have HS := hid hs
  clear hl hWs hW hs
  go_enter Tryd.func52, Tryd.ntmps52
  go_wp2
  rw [← HW.out]
  go_loopw [3] (fun i wr => ∃ k : Nat, k ≤ n ∧ i = .int .i64 k ∧ Hid ((xs.take k).all vp = true) ∧ Below W.heap.size W wr) (fun i _ => n - (intOf i).toNat)
  case atStart => exact ⟨0, Nat.zero_le _, rfl, hid (by simp), ext_refl _⟩
  case round =>
    obtain ⟨k, hk, rfl, HC, hb⟩ := hrel
    have cS' := (hb.cell (p := ⟨w.heap.size, 0, none⟩) (by rw [HWs.out]; simp only; omega)).trans cS
    have x := ext_trans x0 hb
    clear cS
    by_cases hlt : k < n
    · obtain ⟨b, off, rfl, _, _, hbs, hcell⟩ := hat (by omega)
      have hkx : k < xs.length := by rw [H1.out]; exact hlt
      have c1 : wr.cell? ⟨b, off + k, none⟩ = some (.string xs[k]) := (hb.cell (by exact hbs)).trans (hcell k _ (by simp [hkx, sv]))
      have HB := hid (fun hv => vn_bad hkx hv)
      have HN := hid (fun hv => vn_step hkx HC.out hv)
      have hsz := HS.out xs[k] (List.getElem_mem hkx)
      have i0 : (0 : Int) ≤ (k : Int) := by omega
      have i1 : (k : Int) < (n : Int) := by omega
      clear hcell hat
      generalize xs[k] = x1 at c1 HB HN hsz
      go_wp2_with fail
      refine (specValidPart_c hsz).mono ?_
      rintro e w1 ⟨_, rfl, rfl, y1⟩
      have hb1 := ext_trans hb y1
      have hx1 := ext_trans x y1
      clear y1 c1 cS'
      cases hv : vp x1
      · have HF := hid (HB.out hv)
        clear HB HN hv
        go_wp2
        go_ret
        exact gives_bool (by unfold vn; rw [HF.out]; rfl) hx1
      · have HF := hid (HN.out hv)
        clear HB HN hv
        go_wp2
        go_roundw
        case rel => exact ⟨k + 1, by omega, by go_num, HF, hb1⟩
        case measure => simp [intOf]; omega
    · have hk2 : decide (k < n) = false := decide_eq_false hlt
      have HF := hid (vn_end (by rw [H1.out]; omega) HC.out)
      go_wp2
      go_ret
      exact gives_bool (by unfold vn; rw [HF.out, H1.out]; simp; omega) x
set_option maxHeartbeats 1000000 in
theorem notPart_c {w : World} {s : ByteArray} (hm : s.size ≤ 9223372036854775807) :
    Calls Tryd.prog 85 #[.string s] w (Gives w fun r _ => r = .bool (!(vp s))) := by
  go_enter Tryd.func85, Tryd.ntmps85
  go_wp2_with fail
  refine (implValidPart_c hm).mono ?_
  rintro e w1 ⟨_, rfl, rfl, y1⟩
  go_wp2
  go_ret
  exact gives_bool rfl y1
set_option maxHeartbeats 1000000 in
theorem indexNotPart_c {w : World} {lo hi n : Nat} {v : Value} {xs : List ByteArray} (h : Rd w lo hi 1 v n (xs.map sv)) (hs : ∀ s ∈ xs, s.size ≤ 9223372036854775807) :
    Calls Tryd.prog 95 #[v, .func (.func 85) #[] #[]] w (Gives w fun r _ => ∃ j : Int, r = .int .i64 j ∧ Hid (xs.all vp = decide (j < 0)) ∧ -1 ≤ j ∧ j ≤ 9223372036854775807) := by
  obtain ⟨hl, a, cap, rfl, hc, hm, hat⟩ := h
  simp only [List.length_map, Nat.mul_one] at hl
  have H1 := hid hl
  have HS := hid hs
  clear hl hs
  go_enter Tryd.func95, Tryd.ntmps95
  go_wp2
  go_loopw [8] (fun i wr => ∃ k : Nat, k ≤ n ∧ i = .int .i64 k ∧ Hid ((xs.take k).all vp = true) ∧ Below w.heap.size w wr) (fun i _ => n - (intOf i).toNat)
  case atStart => exact ⟨0, Nat.zero_le _, rfl, hid (by simp), ext_refl _⟩
  case round =>
    obtain ⟨k, hk, rfl, HC, hb⟩ := hrel
    by_cases hlt : k < n
    · obtain ⟨b, off, rfl, _, _, hbs, hcell⟩ := hat (by omega)
      have hkx : k < xs.length := by rw [H1.out]; exact hlt
      have c1 : wr.cell? ⟨b, off + k, none⟩ = some (.string xs[k]) := (hb.cell (by exact hbs)).trans (hcell k _ (by simp [hkx, sv]))
      have HB := hid (fun hv => vn_bad hkx hv)
      have HN := hid (fun hv => vn_step hkx HC.out hv)
      have hsz := HS.out xs[k] (List.getElem_mem hkx)
      have i0 : (0 : Int) ≤ (k : Int) := by omega
      have i1 : (k : Int) < (n : Int) := by omega
      clear hcell hat
      generalize xs[k] = x1 at c1 HB HN hsz
      go_wp2_with fail
      refine (notPart_c hsz).mono ?_
      rintro e w1 ⟨_, rfl, rfl, y1⟩
      have hb1 := ext_trans hb y1
      clear y1 c1
      cases hv : vp x1
      · have HF := hid (HB.out hv)
        clear HB HN hv
        go_wp2
        go_ret
        exact gives_of _ ⟨_, rfl, hid (by rw [HF.out, decide_eq_false (by omega)]), by omega, by omega⟩ hb1
      · have HF := hid (HN.out hv)
        clear HB HN hv
        go_wp2
        go_roundw
        case rel => exact ⟨k + 1, by omega, by go_num, HF, hb1⟩
        case measure => simp [intOf]; omega
    · have hk2 : decide (k < n) = false := decide_eq_false hlt
      have HF := hid (vn_end (by rw [H1.out]; omega) HC.out)
      go_wp2
      go_ret
      exact gives_of _ ⟨_, rfl, hid (by rw [HF.out]; rfl), by omega, by omega⟩ hb
set_option maxHeartbeats 1000000 in
theorem anyNotPart_c {w : World} {lo hi n : Nat} {v : Value} {xs : List ByteArray} (h : Rd w lo hi 1 v n (xs.map sv)) (hs : ∀ s ∈ xs, s.size ≤ 9223372036854775807) :
    Calls Tryd.prog 84 #[v, .func (.func 85) #[] #[]] w (Gives w fun r _ => r = .bool (!(xs.all vp))) := by
  go_enter Tryd.func84, Tryd.ntmps84
  go_wp2_with fail
  refine (indexNotPart_c h hs).mono ?_
  rintro e w1 ⟨_, rfl, ⟨j, rfl, HJ, j0, j1⟩, y1⟩
  by_cases hj : 0 ≤ j
  · have HF := hid (show xs.all vp = false by rw [HJ.out, decide_eq_false (by omega)])
    clear HJ
    go_wp2
    go_ret
    exact gives_bool (by rw [HF.out]; rfl) y1
  · have HF := hid (show xs.all vp = true by rw [HJ.out, decide_eq_true (by omega)])
    have hj0 : decide (0 ≤ j) = false := decide_eq_false hj
    clear HJ
    go_wp2
    go_ret
    exact gives_bool (by rw [HF.out]; rfl) y1
set_option maxHeartbeats 1000000 in
theorem implValidName_c {w : World} {lo hi n : Nat} {v : Value} {xs : List ByteArray} (h : RdN w lo hi v n (xs.map sv)) (hs : ∀ s ∈ xs, s.size ≤ 9223372036854775807) :
    Calls Tryd.prog 51 #[v] w (Gives w fun r _ => r = .bool (vn xs)) := by
  obtain ⟨s, rfl, h⟩ := h
  have x0 : Below w.heap.size w (w.alloc (.cells #[s] 30)) := ext_alloc (ext_refl w) _
  have C := hid (anyNotPart_c (h.ext x0) hs)
  obtain ⟨hl, a, cap, rfl, hc, hm, hat⟩ := h
  simp only [List.length_map, Nat.mul_one] at hl
  have H1 := hid hl
  clear hl hat
  go_enter Tryd.func51, Tryd.ntmps51
  by_cases h6 : n ≤ 6
  · have h6' : (n : Int) ≤ 6 := by omega
    go_wp2_with fail
    refine C.out.mono ?_
    rintro e w1 ⟨_, rfl, rfl, y1⟩
    have x := ext_trans x0 y1
    clear C y1
    have HV : Hid (vn xs = xs.all vp) := hid (by unfold vn; rw [H1.out, decide_eq_true h6]; simp)
    generalize xs.all vp = B at HV ⊢
    go_wp2
    go_ret
    exact gives_bool (by rw [HV.out]) x
  · have h6' : ¬ (n : Int) ≤ 6 := by omega
    have h6'' : decide ((n : Int) ≤ 6) = false := decide_eq_false h6'
    have h6n : decide (n ≤ 6) = false := decide_eq_false h6
    go_wp2
    go_ret
    exact gives_bool (by unfold vn; rw [H1.out, h6n]; simp) x0
end Go.Proofs.YtoehjfcadhgpbaaDoor
