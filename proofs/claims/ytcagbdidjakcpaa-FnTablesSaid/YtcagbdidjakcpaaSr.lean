/- The laws' comparison of two tables. Condition: both read as entries. -/
import Derived.Test.YtcagbdidjakcpaaTabE
import Derived.Deep.RegionHeld3
set_option linter.unusedVariables false
namespace Go.Proofs.Ytcagbdidjakcpaa
open Go.RowKit
set_option maxRecDepth 100000 in
set_option maxHeartbeats 1000000 in
theorem sameRows_c {w : World} {lo hi lo' hi' n m : Nat} {v v' : Value} {xs ys : List (List ByteArray × Int)} (h : RdT w lo hi v n xs) (h' : RdT w lo' hi' v' m ys) :
    Calls Try.prog 54 #[v, v'] w (Gives w fun r _ => r = .bool (decide (xs = ys))) := by
  have H1 := hid h.1
  have H2 := hid h'.1
  have HR := hid h
  have HR' := hid h'
  obtain ⟨a, cap, rfl, hc, hm⟩ := h.form
  obtain ⟨a', cap', rfl, hc', hm'⟩ := h'.form
  clear h h'
  by_cases hnm : n = m
  · subst hnm
    go_enter Try.func54, Try.ntmps54
    go_wp2
    go_loopw [5] (fun i wr => ∃ k : Nat, k ≤ n ∧ i = .int .i64 k ∧ Hid (xs.take k = ys.take k) ∧ Below w.heap.size w wr) (fun i _ => n - (intOf i).toNat)
    case atStart => exact ⟨0, Nat.zero_le _, rfl, hid (by simp), ext_refl w⟩
    case round =>
      obtain ⟨k, hk, rfl, HP, hb⟩ := hrel
      by_cases hlt : k < n
      · have hkx : k < xs.length := by rw [H1.out]; exact hlt
        have hky : k < ys.length := by rw [H2.out]; exact hlt
        have yd := Below.drew hb
        obtain ⟨b, off, cp, s, hv, _, _, hbs, c1, c2, r1⟩ := (HR.out.ext yd).at_ hkx
        obtain ⟨b', off', cp', s', hv', _, _, hbs', d1, d2, r2⟩ := (HR'.out.ext yd).at_ hky
        simp only [Value.slice.injEq, true_and] at hv hv'
        obtain ⟨rfl, rfl⟩ := hv
        obtain ⟨rfl, rfl⟩ := hv'
        have key := ent_two hkx hky HP.out
        have i0 : (0 : Int) ≤ (k : Int) := by omega
        have i1 : (k : Int) < (n : Int) := by omega
        clear HP
        generalize xs[k] = e1 at *
        generalize ys[k] = e2 at *
        obtain ⟨ss, i⟩ := e1
        obtain ⟨tt, j⟩ := e2
        simp only at c2 d2 r1 r2 key
        by_cases hij : i = j
        · have n1 : (i != j) = false := by simp [hij]
          rw [decide_eq_true hij, Bool.and_true] at key
          have C0 := hid (fun (W : World) (q1 : Rd W lo hi 1 s ss.length (ss.map sv)) (q2 : Rd W lo' hi' 1 s' tt.length (tt.map sv)) => sameName_c ⟨s, rfl, q1⟩ ⟨s', rfl, q2⟩)
          generalize decide (ss = tt) = q at C0 key
          clear hij
          rcases key with ⟨hr, HG⟩ | ⟨hr, HG⟩
          all_goals
            subst hr
            go_wp2_with fail
            go_region_held3 (fun w' => w'.cell? ⟨b, off + k * 2, none⟩ = some s ∧ w'.cell? ⟨b, off + k * 2 + 1, none⟩ = some (.int .i64 i) ∧ w'.cell? ⟨b', off' + k * 2, none⟩ = some s' ∧ w'.cell? ⟨b', off' + k * 2 + 1, none⟩ = some (.int .i64 j))
              (first | exact ⟨c1, c2, d1, d2⟩)
              (first
                | (go_at_call 14; have C := C0.out _ r1 r2; (with_reducible refine C.mono ?_); clear C; rintro e w2 ⟨_, rfl, rfl, y1⟩; replace yd := ext_trans yd y1; replace c1 := cell_ext c1 y1; replace c2 := cell_ext c2 y1; replace d1 := cell_ext d1 y1; replace d2 := cell_ext d2 y1))
            clear c1 c2 d1 d2 C0
            go_wp2
          · go_roundw
            case rel => exact ⟨k + 1, by omega, by go_num, HG, yd⟩
            case measure => simp [intOf]; omega
          · go_ret
            exact gives_bool (by rw [decide_eq_false HG.out]) yd
        · have n1 : (i != j) = true := by simp [hij]
          rw [decide_eq_false hij, Bool.and_false] at key
          have HG : Hid (¬ xs = ys) := by
            rcases key with ⟨hr, _⟩ | ⟨_, HG⟩
            · cases hr
            · exact HG
          replace c2 : wr.cell? ⟨b, off + k * 2 + 1, none⟩ = some (.int .i64 i) := c2
          replace d2 : wr.cell? ⟨b', off' + k * 2 + 1, none⟩ = some (.int .i64 j) := d2
          clear key hij r1 r2 c1 d1
          go_wp2
          go_quiet (fail)
          go_wp2
          go_ret
          exact gives_bool (by rw [decide_eq_false HG.out]) (ext_trans hb (ext_drewN _ _))
      · go_wp2
        go_ret
        exact gives_bool (by rw [decide_eq_true (take_all HP.out (by rw [H1.out]; omega) (by rw [H2.out]; omega))]) hb
  · have hne : (((n : Int)) != (m : Int)) = true := by simp; omega
    go_enter Try.func54, Try.ntmps54
    go_wp2
    go_ret
    exact gives_bool (by rw [decide_eq_false (by intro e; subst e; have := H1.out; have := H2.out; omega)]) (ext_refl _)
end Go.Proofs.Ytcagbdidjakcpaa
