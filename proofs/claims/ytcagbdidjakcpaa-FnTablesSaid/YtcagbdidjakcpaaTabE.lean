/- Tables compared: the laws' helper eqTableEntryS; EqualTables of both sides. Condition: the values read as entries. -/
import Derived.Test.YtcagbdidjakcpaaTab
import Derived.Test.YtcagbdidjakcpaaCmp
set_option linter.unusedVariables false
namespace Go.Proofs.Ytcagbdidjakcpaa
open Go.RowKit
set_option maxHeartbeats 1000000 in
theorem eqTableEntry_c {w : World} {lo hi lo' hi' n m : Nat} {s s' : Value} {ss tt : List ByteArray} {i j : Int} (h : Rd w lo hi 1 s n (ss.map sv)) (h' : Rd w lo' hi' 1 s' m (tt.map sv)) {q : Bool} (hq : (decide (ss = tt) && decide (i = j)) = q) :
    Calls Try.prog 106 #[.agg #[s, .int .i64 i], .agg #[s', .int .i64 j]] w (Gives w fun r _ => r = .bool q) := by
  have HQ := hid hq
  clear hq
  obtain ⟨W, hW⟩ : ∃ W, W = (w.alloc (.cells #[s, .int .i64 i] 80)).alloc (.cells #[s', .int .i64 j] 80) := ⟨_, rfl⟩
  have x0 : Below w.heap.size w W := by rw [hW]; exact ext_alloc (ext_alloc (ext_refl w) _) _
  have C := hid (eqName_c ⟨s, rfl, h.ext x0⟩ ⟨s', rfl, h'.ext x0⟩)
  have p1 : W.cell? ⟨w.heap.size, 1, none⟩ = some (.int .i64 i) := by rw [hW]; exact cell_ext (Cell1.newAt w _ _ 1 _ rfl).1 (ext_alloc (ext_refl _) _)
  have q1 : W.cell? ⟨w.heap.size + 1, 1, none⟩ = some (.int .i64 j) := by rw [hW]; simp
  generalize decide (ss = tt) = e0 at C HQ
  clear h h'
  go_enter Try.func106, Try.ntmps106
  go_wp2_with fail
  rw [← hW]
  clear hW
  refine C.out.mono ?_
  rintro e w1 ⟨_, rfl, rfl, y1⟩
  have x := ext_trans x0 y1
  replace p1 := cell_ext p1 y1
  replace q1 := cell_ext q1 y1
  clear C y1 x0
  cases e0
  · go_wp2
    go_ret
    exact gives_bool (by rw [← HQ.out]; rfl) x
  by_cases hij : i = j
  · have n1 : (i != j) = false := by simp [hij]
    have HV := hid (show true = q by rw [← HQ.out, decide_eq_true hij]; rfl)
    clear hij
    go_wp2
    go_ret
    exact gives_bool HV.out x
  · have n1 : (i != j) = true := by simp [hij]
    have HV := hid (show false = q by rw [← HQ.out, decide_eq_false hij]; rfl)
    clear hij
    go_wp2
    go_ret
    exact gives_bool HV.out x
theorem ent_two {xs ys : List (List ByteArray × Int)} {k : Nat} (hx : k < xs.length) (hy : k < ys.length) (HP : xs.take k = ys.take k) :
    ((decide (xs[k].1 = ys[k].1) && decide (xs[k].2 = ys[k].2)) = true ∧ Hid (xs.take (k + 1) = ys.take (k + 1))) ∨ ((decide (xs[k].1 = ys[k].1) && decide (xs[k].2 = ys[k].2)) = false ∧ Hid (¬ xs = ys)) := by
  by_cases h : xs[k] = ys[k]
  · exact .inl ⟨by simp [h], hid (take_step HP hx hy h)⟩
  · refine .inr ⟨?_, hid (take_ne hx hy h)⟩
    rw [Bool.and_eq_false_iff]
    by_cases h1 : xs[k].1 = ys[k].1
    · exact .inr (decide_eq_false fun h2 => h (Prod.ext h1 h2))
    · exact .inl (decide_eq_false h1)
set_option maxRecDepth 100000 in
set_option maxHeartbeats 1000000 in
theorem eqTableEntryS_c {w : World} {lo hi lo' hi' n m : Nat} {v v' : Value} {xs ys : List (List ByteArray × Int)} (h : RdT w lo hi v n xs) (h' : RdT w lo' hi' v' m ys) :
    Calls Try.prog 42 #[v, v'] w (Gives w fun r _ => r = .bool (decide (xs = ys))) := by
  have H1 := hid h.1
  have H2 := hid h'.1
  have HR := hid h
  have HR' := hid h'
  obtain ⟨a, cap, rfl, hc, hm⟩ := h.form
  obtain ⟨a', cap', rfl, hc', hm'⟩ := h'.form
  clear h h'
  by_cases hnm : n = m
  · subst hnm
    go_enter Try.func42, Try.ntmps42
    go_wp2
    go_loopw [5] (fun i wr => ∃ k : Nat, k ≤ n ∧ i = .int .i64 k ∧ Hid (xs.take k = ys.take k) ∧ Below w.heap.size w wr) (fun i _ => n - (intOf i).toNat)
    case atStart => exact ⟨0, Nat.zero_le _, rfl, hid (by simp), ext_refl w⟩
    case round =>
      obtain ⟨k, hk, rfl, HP, hb⟩ := hrel
      by_cases hlt : k < n
      · have hkx : k < xs.length := by rw [H1.out]; exact hlt
        have hky : k < ys.length := by rw [H2.out]; exact hlt
        have yd := Below.drew hb
        obtain ⟨b, off, cp, s, hv, _, _, hbs, c1, c2, r1⟩ := (HR.out.ext yd).at_ hkx
        obtain ⟨b', off', cp', s', hv', _, _, hbs', d1, d2, r2⟩ := (HR'.out.ext yd).at_ hky
        simp only [Value.slice.injEq, true_and] at hv hv'
        obtain ⟨rfl, rfl⟩ := hv
        obtain ⟨rfl, rfl⟩ := hv'
        have key := ent_two hkx hky HP.out
        have i0 : (0 : Int) ≤ (k : Int) := by omega
        have i1 : (k : Int) < (n : Int) := by omega
        clear HP
        generalize xs[k] = e1 at *
        generalize ys[k] = e2 at *
        obtain ⟨ss, i⟩ := e1
        obtain ⟨tt, j⟩ := e2
        simp only at c2 d2 r1 r2 key
        rcases key with ⟨hr, HG⟩ | ⟨hr, HG⟩
        all_goals
          have HQ := hid hr
          clear hr
          go_wp2_with fail
          go_region_held3 (fun w' => w'.cell? ⟨b, off + k * 2, none⟩ = some s ∧ w'.cell? ⟨b, off + k * 2 + 1, none⟩ = some (.int .i64 i) ∧ w'.cell? ⟨b', off' + k * 2, none⟩ = some s' ∧ w'.cell? ⟨b', off' + k * 2 + 1, none⟩ = some (.int .i64 j))
            (first | exact ⟨c1, c2, d1, d2⟩)
            (first
              | (go_at_call 106; have C := eqTableEntry_c r1 r2 HQ.out; (with_reducible refine C.mono ?_); clear C; rintro e w2 ⟨_, rfl, rfl, y1⟩; replace yd := ext_trans yd y1; replace c1 := cell_ext c1 y1; replace c2 := cell_ext c2 y1; replace d1 := cell_ext d1 y1; replace d2 := cell_ext d2 y1))
          clear c1 c2 d1 d2
          go_wp2
        · go_roundw
          case rel => exact ⟨k + 1, by omega, by go_num, HG, yd⟩
          case measure => simp [intOf]; omega
        · go_ret
          exact gives_bool (by rw [decide_eq_false HG.out]) yd
      · go_wp2
        go_ret
        exact gives_bool (by rw [decide_eq_true (take_all HP.out (by rw [H1.out]; omega) (by rw [H2.out]; omega))]) hb
  · have hne : (((n : Int)) != (m : Int)) = true := by simp; omega
    go_enter Try.func42, Try.ntmps42
    go_wp2
    go_ret
    exact gives_bool (by rw [decide_eq_false (by intro e; subst e; have := H1.out; have := H2.out; omega)]) (ext_refl _)
set_option maxHeartbeats 1000000 in
theorem sameEntry_c {w : World} {lo hi lo' hi' n m : Nat} {s s' : Value} {ss tt : List ByteArray} {i j : Int} (h : Rd w lo hi 1 s n (ss.map sv)) (h' : Rd w lo' hi' 1 s' m (tt.map sv)) {q : Bool} (hq : (decide (ss = tt) && decide (i = j)) = q) :
    Calls Try.prog 119 #[.agg #[s, .int .i64 i], .agg #[s', .int .i64 j]] w (Gives w fun r _ => r = .bool q) := by
  have HQ := hid hq
  clear hq
  obtain ⟨W, hW⟩ : ∃ W, W = (w.alloc (.cells #[s, .int .i64 i] 80)).alloc (.cells #[s', .int .i64 j] 80) := ⟨_, rfl⟩
  have x0 : Below w.heap.size w W := by rw [hW]; exact ext_alloc (ext_alloc (ext_refl w) _) _
  have C := hid (implEqualNames_c ⟨s, rfl, h.ext x0⟩ ⟨s', rfl, h'.ext x0⟩)
  have p1 : W.cell? ⟨w.heap.size, 1, none⟩ = some (.int .i64 i) := by rw [hW]; exact cell_ext (Cell1.newAt w _ _ 1 _ rfl).1 (ext_alloc (ext_refl _) _)
  have q1 : W.cell? ⟨w.heap.size + 1, 1, none⟩ = some (.int .i64 j) := by rw [hW]; simp
  generalize decide (ss = tt) = e0 at C HQ
  clear h h'
  go_enter Try.func119, Try.ntmps119
  go_wp2_with fail
  rw [← hW]
  clear hW
  refine C.out.mono ?_
  rintro e w1 ⟨_, rfl, rfl, y1⟩
  have x := ext_trans x0 y1
  replace p1 := cell_ext p1 y1
  replace q1 := cell_ext q1 y1
  clear C y1 x0
  cases e0
  · go_wp2
    go_ret
    exact gives_bool (by rw [← HQ.out]; rfl) x
  by_cases hij : i = j
  · have n1 : (i == j) = true := by simp [hij]
    have HV := hid (show true = q by rw [← HQ.out, decide_eq_true hij]; rfl)
    clear hij
    go_wp2
    go_ret
    exact gives_bool HV.out x
  · have n1 : (i == j) = false := by simp [hij]
    have HV := hid (show false = q by rw [← HQ.out, decide_eq_false hij]; rfl)
    clear hij
    go_wp2
    go_ret
    exact gives_bool HV.out x
set_option maxRecDepth 100000 in
set_option maxHeartbeats 1000000 in
theorem equalFunc_c {w : World} {lo hi lo' hi' n m : Nat} {v v' : Value} {xs ys : List (List ByteArray × Int)} (h : RdT w lo hi v n xs) (h' : RdT w lo' hi' v' m ys) :
    Calls Try.prog 118 #[v, v', .func (.func 119) #[] #[]] w (Gives w fun r _ => r = .bool (decide (xs = ys))) := by
  have H1 := hid h.1
  have H2 := hid h'.1
  have HR := hid h
  have HR' := hid h'
  obtain ⟨a, cap, rfl, hc, hm⟩ := h.form
  obtain ⟨a', cap', rfl, hc', hm'⟩ := h'.form
  clear h h'
  by_cases hnm : n = m
  · subst hnm
    go_enter Try.func118, Try.ntmps118
    go_wp2
    go_loopw [17] (fun i wr => ∃ k : Nat, k ≤ n ∧ i = .int .i64 k ∧ Hid (xs.take k = ys.take k) ∧ Below w.heap.size w wr) (fun i _ => n - (intOf i).toNat)
    case atStart => exact ⟨0, Nat.zero_le _, rfl, hid (by simp), ext_refl w⟩
    case round =>
      obtain ⟨k, hk, rfl, HP, hb⟩ := hrel
      by_cases hlt : k < n
      · have hkx : k < xs.length := by rw [H1.out]; exact hlt
        have hky : k < ys.length := by rw [H2.out]; exact hlt
        obtain ⟨b, off, cp, s, hv, _, _, hbs, c1, c2, r1⟩ := (HR.out.ext hb).at_ hkx
        obtain ⟨b', off', cp', s', hv', _, _, hbs', d1, d2, r2⟩ := (HR'.out.ext hb).at_ hky
        simp only [Value.slice.injEq, true_and] at hv hv'
        obtain ⟨rfl, rfl⟩ := hv
        obtain ⟨rfl, rfl⟩ := hv'
        have key := ent_two hkx hky HP.out
        have i0 : (0 : Int) ≤ (k : Int) := by omega
        have i1 : (k : Int) < (n : Int) := by omega
        clear HP
        generalize xs[k] = e1 at *
        generalize ys[k] = e2 at *
        obtain ⟨ss, i⟩ := e1
        obtain ⟨tt, j⟩ := e2
        simp only at c2 d2 r1 r2 key
        obtain ⟨p1, q1, rfl, _⟩ := r1.form
        obtain ⟨p2, q2, rfl, _⟩ := r2.form
        have y1 := ext_alloc (ext_refl wr) (.cells #[.slice p1 ss.length q1, .int .i64 i] 80)
        have d1' := cell_ext d1 y1
        have d2' := cell_ext d2 y1
        have y2 := ext_alloc y1 (.cells #[.slice p2 tt.length q2, .int .i64 j] 80)
        have x2 := ext_trans hb y2
        replace r1 := r1.ext y2
        replace r2 := r2.ext y2
        have HY := hid x2
        clear y1 y2 x2
        rcases key with ⟨hr, HG⟩ | ⟨hr, HG⟩
        all_goals
          have C := hid (sameEntry_c r1 r2 hr)
          clear hr r1 r2
          go_wp2_with fail
          refine C.out.mono ?_
          rintro e w2 ⟨_, rfl, rfl, y3⟩
          have x3 := ext_trans HY.out y3
          clear C HY y3 c1 c2 d1 d2 d1' d2'
          go_wp2
        · go_roundw
          case rel => exact ⟨k + 1, by omega, by go_num, HG, x3⟩
          case measure => simp [intOf]; omega
        · go_ret
          exact gives_bool (by rw [decide_eq_false HG.out]) x3
      · go_wp2
        go_ret
        exact gives_bool (by rw [decide_eq_true (take_all HP.out (by rw [H1.out]; omega) (by rw [H2.out]; omega))]) hb
  · have hne : (((n : Int)) != (m : Int)) = true := by simp; omega
    go_enter Try.func118, Try.ntmps118
    go_wp2
    go_ret
    exact gives_bool (by rw [decide_eq_false (by intro e; subst e; have := H1.out; have := H2.out; omega)]) (ext_refl _)
theorem implEqualTables_c {w : World} {lo hi lo' hi' n m : Nat} {v v' : Value} {xs ys : List (List ByteArray × Int)} (h : RdT w lo hi v n xs) (h' : RdT w lo' hi' v' m ys) :
    Calls Try.prog 60 #[v, v'] w (Gives w fun r _ => r = .bool (decide (xs = ys))) := by
  go_enter Try.func60, Try.ntmps60
  go_wp2_with fail
  refine (equalFunc_c h h').mono ?_
  rintro e w1 ⟨_, rfl, rfl, y1⟩
  clear h h'
  go_wp2
  go_ret
  exact gives_bool rfl y1
end Go.Proofs.Ytcagbdidjakcpaa
