/- sameBinds: two slices of bindings agree. Condition: both read as bindings. -/
import Derived.Test.YtoehjfcadhgpbaaDoorBind
import Derived.BigQuiet
set_option linter.unusedVariables false
set_option linter.unusedSimpArgs false
namespace Go.Proofs.YtoehjfcadhgpbaaDoor
open Go.RowKit
set_option maxRecDepth 100000 in
set_option maxHeartbeats 2000000 in
theorem sameBinds_c {w : World} {lo hi lo' hi' n m : Nat} {v v' : Value} {ss tt : List ByteArray} (h : Rd w lo hi 2 v n (ss.map sv)) (h' : Rd w lo' hi' 2 v' m (tt.map sv)) :
    Calls Tryd.prog 27 #[v, v'] w (Gives w fun r _ => r = .bool (decide (ss = tt))) := by
  obtain ⟨hl, a, cap, rfl, hc, hm, hat⟩ := h
  obtain ⟨hl', a', cap', rfl, hc', hm', hat'⟩ := h'
  rw [List.length_map] at hl hl'
  by_cases hnm : n = m
  · subst hnm
    have H1 := hid hl
    have H2 := hid hl'
    clear hl hl'
    go_enter Tryd.func27, Tryd.ntmps27
    go_wp2
    go_loopw [5] (fun i wr => ∃ k : Nat, k ≤ n ∧ i = .int .i64 k ∧ Hid (ss.take (k * 2) = tt.take (k * 2)) ∧ Below w.heap.size w wr) (fun i _ => n - (intOf i).toNat)
    case atStart => exact ⟨0, Nat.zero_le _, rfl, hid (by simp), ext_refl w⟩
    case round =>
      obtain ⟨k, hk, rfl, HP, hb⟩ := hrel
      by_cases hlt : k < n
      · obtain ⟨b, off, rfl, _, _, hbs, hcell⟩ := hat (by omega)
        obtain ⟨b', off', rfl, _, _, hbs', hcell'⟩ := hat' (by omega)
        have hkx : k * 2 + 1 < ss.length := by rw [H1.out]; omega
        have hky : k * 2 + 1 < tt.length := by rw [H2.out]; omega
        obtain ⟨c1, c2⟩ := pair_at (n := n) hcell hkx
        obtain ⟨d1, d2⟩ := pair_at (n := n) hcell' hky
        replace c1 := (hb.cell (by exact hbs)).trans c1
        replace c2 := (hb.cell (by exact hbs)).trans c2
        replace d1 := (hb.cell (by exact hbs')).trans d1
        replace d2 := (hb.cell (by exact hbs')).trans d2
        have HE := hid (fun (e1 : ss[k * 2] = tt[k * 2]) (e2 : ss[k * 2 + 1] = tt[k * 2 + 1]) => take_step (take_step HP.out (by omega) (by omega) e1) hkx hky e2)
        have HF1 := hid (fun e : ss[k * 2] ≠ tt[k * 2] => take_ne (xs := ss) (ys := tt) (k := k * 2) (by omega) (by omega) e)
        have HF2 := hid (fun e : ss[k * 2 + 1] ≠ tt[k * 2 + 1] => take_ne (xs := ss) (ys := tt) (k := k * 2 + 1) hkx hky e)
        have i0 : (0 : Int) ≤ (k : Int) := by omega
        have i1 : (k : Int) < (n : Int) := by omega
        clear hcell hcell' hat hat' HP
        generalize ss[k * 2] = s1 at *
        generalize ss[k * 2 + 1] = s2 at *
        generalize tt[k * 2] = t1 at *
        generalize tt[k * 2 + 1] = t2 at *
        by_cases g1 : s1 = t1
        · have e1 : (s1.toList == t1.toList) = true := by simp [g1]
          by_cases g2 : s2 = t2
          · have e2 : (s2.toList == t2.toList) = true := by simp [g2]
            have HG := hid (HE.out g1 g2)
            clear HE HF1 HF2 g1 g2
            go_wp2
            go_quiet (fail)
            go_wp2
            go_roundw
            case rel => exact ⟨k + 1, by omega, by go_num, hid (by rw [show (k + 1) * 2 = k * 2 + 1 + 1 by omega]; exact HG.out), ext_trans hb (ext_drewN _ _)⟩
            case measure => simp [intOf]; omega
          · have e2 : (s2.toList == t2.toList) = false := by simp [str_eq, g2]
            have HG := hid (HF2.out g2)
            clear HE HF1 HF2 g1 g2
            go_wp2
            go_quiet (fail)
            go_wp2
            go_ret
            exact gives_bool (by rw [decide_eq_false HG.out]) (ext_trans hb (ext_drewN _ _))
        · have e1 : (s1.toList == t1.toList) = false := by simp [str_eq, g1]
          have HG := hid (HF1.out g1)
          clear HE HF1 HF2 g1
          go_wp2
          go_quiet (fail)
          go_wp2
          go_ret
          exact gives_bool (by rw [decide_eq_false HG.out]) (ext_trans hb (ext_drewN _ _))
      · go_wp2
        go_ret
        exact gives_bool (by rw [decide_eq_true (take_all HP.out (by rw [H1.out]; omega) (by rw [H2.out]; omega))]) hb
  · have hne : (((n : Int)) != (m : Int)) = true := by simp; omega
    go_enter Tryd.func27, Tryd.ntmps27
    go_wp2
    go_ret
    exact gives_bool (by rw [decide_eq_false (by intro e; subst e; omega)]) (ext_refl _)
end Go.Proofs.YtoehjfcadhgpbaaDoor
