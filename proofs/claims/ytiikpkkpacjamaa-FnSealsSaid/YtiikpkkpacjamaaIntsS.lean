/- Slices of ints: what the laws' helpers toIntS, eqIntS, markIntS, heldIntS and the library's Equal and Clone do. Conditions: the slice reads as the ints; where it is copied its length is bounded. -/
import Derived.Test.YtiikpkkpacjamaaRows
import Derived.Test.YtiikpkkpacjamaaBase
import Derived.Test.YtiikpkkpacjamaaNum
import Derived.Test.YtiikpkkpacjamaaApp
import Derived.WalkSpells
import Derived.Deep.QuietTactic
import Derived.BigQuiet
namespace Go.Proofs.Ytiikpkkpacjamaa
open Go.RowKit
theorem info_int : (Try.prog.info? 3).map (fun i => (i.zero, i.size, i.bytes)) = some (some (.int .i64 0), 1, 8) := by kernel_rfl



theorem slicesEqualInt_c {w : World} {lo hi lo' hi' n m : Nat} {v v' : Value} {xs ys : List Int} (h : Rd w lo hi 1 v n (xs.map iv)) (h' : Rd w lo' hi' 1 v' m (ys.map iv)) :
    Calls Try.prog 72 #[v, v'] w (Gives w fun r _ => r = .bool (decide (xs = ys))) := by
  obtain ⟨hl, a, cap, rfl, hc, hm, hat⟩ := h
  obtain ⟨hl', a', cap', rfl, hc', hm', hat'⟩ := h'
  simp only [List.length_map, Nat.mul_one] at hl hl'
  by_cases hnm : n = m
  · subst hnm
    have H1 := hid hl
    have H2 := hid hl'
    clear hl hl'
    go_enter Try.func72, Try.ntmps72
    go_wp2
    go_loopw [13] (fun i wr => ∃ k : Nat, k ≤ n ∧ i = .int .i64 k ∧ xs.take k = ys.take k ∧ Below w.heap.size w wr) (fun i _ => n - (intOf i).toNat)
    case atStart => exact ⟨0, Nat.zero_le _, rfl, rfl, ext_refl w⟩
    case round =>
      obtain ⟨k, hk, rfl, hpre, hb⟩ := hrel
      have HP := hid hpre
      clear hpre
      by_cases hlt : k < n
      · obtain ⟨b, off, rfl, _, _, hbs, hcell⟩ := hat (by omega)
        obtain ⟨b', off', rfl, _, _, hbs', hcell'⟩ := hat' (by omega)
        have hkx : k < xs.length := by rw [H1.out]; exact hlt
        have hky : k < ys.length := by rw [H2.out]; exact hlt
        have c1 : wr.cell? ⟨b, off + k, none⟩ = some (iv xs[k]) := (hb.cell (by exact hbs)).trans (hcell k _ (by simp [hkx]))
        have c2 : wr.cell? ⟨b', off' + k, none⟩ = some (iv ys[k]) := (hb.cell (by exact hbs')).trans (hcell' k _ (by simp [hky]))
        clear hcell hcell' hat hat'
        unfold iv at c1 c2
        by_cases e : xs[k] = ys[k]
        · have e1 : (xs[k] != ys[k]) = false := by simp [e]
          go_wp2
          go_quiet (fail)
          go_wp2
          go_roundw
          case rel => exact ⟨k + 1, by omega, by go_num, take_step HP.out hkx hky e, ext_trans hb (ext_drewN _ _)⟩
          case measure => simp [intOf]; omega
        · have e1 : (xs[k] != ys[k]) = true := by simpa using e
          go_wp2
          go_quiet (fail)
          go_wp2
          go_ret
          exact gives_bool (by rw [decide_eq_false (take_ne hkx hky e)]) (ext_trans hb (ext_drewN _ _))
      · go_wp2
        go_ret
        exact gives_bool (by rw [decide_eq_true (take_all HP.out (by rw [H1.out]; omega) (by rw [H2.out]; omega))]) hb
  · have hne : (((n : Int)) != (m : Int)) = true := by simp; omega
    go_enter Try.func72, Try.ntmps72
    go_wp2
    go_ret
    exact gives_bool (by rw [decide_eq_false (by intro e; subst e; omega)]) (ext_refl _)


theorem sameInts_c {w : World} {lo hi lo' hi' n m : Nat} {v v' : Value} {xs ys : List Int} (h : Rd w lo hi 1 v n (xs.map iv)) (h' : Rd w lo' hi' 1 v' m (ys.map iv)) :
    Calls Try.prog 27 #[v, v'] w (Gives w fun r _ => r = .bool (decide (xs = ys))) := by
  obtain ⟨hl, a, cap, rfl, hc, hm, hat⟩ := h
  obtain ⟨hl', a', cap', rfl, hc', hm', hat'⟩ := h'
  simp only [List.length_map, Nat.mul_one] at hl hl'
  by_cases hnm : n = m
  · subst hnm
    have H1 := hid hl
    have H2 := hid hl'
    clear hl hl'
    go_enter Try.func27, Try.ntmps27
    go_wp2
    go_loopw [5] (fun i wr => ∃ k : Nat, k ≤ n ∧ i = .int .i64 k ∧ xs.take k = ys.take k ∧ Below w.heap.size w wr) (fun i _ => n - (intOf i).toNat)
    case atStart => exact ⟨0, Nat.zero_le _, rfl, rfl, ext_refl w⟩
    case round =>
      obtain ⟨k, hk, rfl, hpre, hb⟩ := hrel
      have HP := hid hpre
      clear hpre
      by_cases hlt : k < n
      · obtain ⟨b, off, rfl, _, _, hbs, hcell⟩ := hat (by omega)
        obtain ⟨b', off', rfl, _, _, hbs', hcell'⟩ := hat' (by omega)
        have hkx : k < xs.length := by rw [H1.out]; exact hlt
        have hky : k < ys.length := by rw [H2.out]; exact hlt
        have c1 : wr.cell? ⟨b, off + k, none⟩ = some (iv xs[k]) := (hb.cell (by exact hbs)).trans (hcell k _ (by simp [hkx]))
        have c2 : wr.cell? ⟨b', off' + k, none⟩ = some (iv ys[k]) := (hb.cell (by exact hbs')).trans (hcell' k _ (by simp [hky]))
        clear hcell hcell' hat hat'
        unfold iv at c1 c2
        by_cases e : xs[k] = ys[k]
        · have e1 : (xs[k] != ys[k]) = false := by simp [e]
          go_wp2
          go_quiet (fail)
          go_wp2
          go_roundw
          case rel => exact ⟨k + 1, by omega, by go_num, take_step HP.out hkx hky e, ext_trans hb (ext_drewN _ _)⟩
          case measure => simp [intOf]; omega
        · have e1 : (xs[k] != ys[k]) = true := by simpa using e
          go_wp2
          go_quiet (fail)
          go_wp2
          go_ret
          exact gives_bool (by rw [decide_eq_false (take_ne hkx hky e)]) (ext_trans hb (ext_drewN _ _))
      · go_wp2
        go_ret
        exact gives_bool (by rw [decide_eq_true (take_all HP.out (by rw [H1.out]; omega) (by rw [H2.out]; omega))]) hb
  · have hne : (((n : Int)) != (m : Int)) = true := by simp; omega
    go_enter Try.func27, Try.ntmps27
    go_wp2
    go_ret
    exact gives_bool (by rw [decide_eq_false (by intro e; subst e; omega)]) (ext_refl _)

/-- The marks from k on. -/
def markInt (k : Int) : Value := .int .i64 (k)
def marksInt (k : Int) (n : Nat) : List Value := (List.range n).map fun (i : Nat) => markInt (k + (i : Int))
theorem marksInt_len (k : Int) (n : Nat) : (marksInt k n).length = n := by simp [marksInt]
theorem marksInt_at (k : Int) (n i : Nat) (h : i < n) : (marksInt k n)[i]? = some (markInt (k + (i : Int))) := by simp [marksInt, h]

end Go.Proofs.Ytiikpkkpacjamaa
