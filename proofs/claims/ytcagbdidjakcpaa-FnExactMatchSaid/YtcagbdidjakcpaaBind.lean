/- Bindings (structs of two strings) and slices of them: what the laws' helpers do, and BindingValue of both sides. A slice of n bindings reads as a list of 2 n strings. Condition: the values read as strings of a size that fits. -/
import Derived.Test.YtcagbdidjakcpaaName
import Derived.Deep.RegionHeld3
set_option linter.unusedVariables false
namespace Go.Proofs.Ytcagbdidjakcpaa
open Go.RowKit
theorem info_binding : (Try.prog.info? 96).map (fun i => (i.zero, i.size, i.bytes)) = some (some (.agg #[.string ByteArray.empty, .string ByteArray.empty]), 2, 32) := by kernel_rfl
/-- How much n bindings weigh: n and the size of each string. -/
def bwP (n : Nat) (ss : List ByteArray) (j : Nat) : Nat := n + ((ss.take j).map fun s => s.size).sum
def bw (n : Nat) (ss : List ByteArray) : Nat := bwP n ss ss.length
theorem bwP_step (n : Nat) (ss : List ByteArray) (j : Nat) (h : j < ss.length) : bwP n ss (j + 1) = bwP n ss j + ss[j].size := by
  unfold bwP; rw [List.take_succ_eq_append_getElem h]; simp only [List.map_append, List.sum_append, List.map_cons, List.map_nil, List.sum_cons, List.sum_nil]; omega
theorem bwP_two (n : Nat) (ss : List ByteArray) (k : Nat) (h : k * 2 + 1 < ss.length) : bwP n ss ((k + 1) * 2) = bwP n ss (k * 2) + (ss[k * 2].size + ss[k * 2 + 1].size) := by
  rw [show (k + 1) * 2 = k * 2 + 1 + 1 by omega, bwP_step n ss (k * 2 + 1) h, bwP_step n ss (k * 2) (by omega)]; omega
theorem bwP_le (n : Nat) (ss : List ByteArray) (k : Nat) : bwP n ss k ≤ bw n ss := by
  unfold bw bwP
  rw [List.take_length]
  have e := congrArg (fun l : List ByteArray => (l.map fun s => s.size).sum) (List.take_append_drop k ss)
  simp only [List.map_append, List.sum_append] at e
  omega
theorem bw_len (n : Nat) (ss : List ByteArray) : n ≤ bw n ss := by have := bwP_le n ss 0; unfold bwP at this; omega
theorem szBinding_c {w : World} {s t : ByteArray} {left : Int} (hs : s.size ≤ 9223372036854775807) (ht : t.size ≤ 9223372036854775807) (h0 : 0 ≤ left) (h1 : left ≤ 1048576) :
    Calls Try.prog 79 #[.agg #[.string s, .string t], .int .i64 left] w (Gives w fun r _ => r = .int .i64 (szS left (s.size + t.size))) := by
  have x := ext_alloc (ext_refl w) (.cells #[.string s, .string t] 93)
  by_cases g1 : left - (s.size : Int) < 0
  · have HV := hid (show szS left (s.size + t.size) = -1 by rw [szS, if_pos (by omega)])
    go_enter Try.func79, Try.ntmps79
    go_wp2
    go_ret
    exact gives_int HV.out.symm x
  · by_cases g2 : left - (s.size : Int) - (t.size : Int) < 0
    · have HV := hid (show szS left (s.size + t.size) = -1 by rw [szS, if_pos (by omega)])
      go_enter Try.func79, Try.ntmps79
      go_wp2
      go_ret
      exact gives_int HV.out.symm x
    · have HV := hid (show szS left (s.size + t.size) = left - (s.size : Int) - (t.size : Int) by rw [szS, if_neg (by omega)]; omega)
      go_enter Try.func79, Try.ntmps79
      go_wp2
      go_ret
      exact gives_int HV.out.symm x
set_option maxHeartbeats 1000000 in
theorem szBindingS_c {w : World} {lo hi n : Nat} {v : Value} {ss : List ByteArray} {left : Int} (h : Rd w lo hi 2 v n (ss.map sv)) (hs : ∀ s ∈ ss, s.size ≤ 9223372036854775807) (h0 : 0 ≤ left) (h1 : left ≤ 1048576) :
    Calls Try.prog 26 #[v, .int .i64 left] w (Gives w fun r _ => r = .int .i64 (szS left (bw n ss))) := by
  obtain ⟨hl, a, cap, rfl, hc, hm, hat⟩ := h
  rw [List.length_map] at hl
  have HS := hid hs
  clear hs
  have hwl := bw_len n ss
  have HN := hid hl
  clear hl
  by_cases hl : left - (n : Int) < 0
  · have HV := hid (show szS left (bw n ss) = -1 by rw [szS, if_pos (by omega)])
    go_enter Try.func26, Try.ntmps26
    go_wp2
    go_ret
    exact gives_int HV.out.symm (ext_refl _)
  · go_enter Try.func26, Try.ntmps26
    go_wp2
    go_loopw [1, 5] (fun q i wr => ∃ k : Nat, k ≤ n ∧ i = .int .i64 k ∧ q = .int .i64 (left - (bwP n ss (k * 2) : Nat)) ∧ (bwP n ss (k * 2) : Nat) ≤ left ∧ Below w.heap.size w wr) (fun _ i _ => n - (intOf i).toNat)
    case atStart => exact ⟨0, Nat.zero_le _, rfl, by simp [bwP], by simp [bwP]; omega, ext_refl _⟩
    case round =>
      obtain ⟨k, hk, rfl, rfl, hle, hb⟩ := hrel
      by_cases hlt : k < n
      · obtain ⟨b, off, rfl, _, _, hbs, hcell⟩ := hat (by omega)
        have hkx : k * 2 + 1 < ss.length := by rw [HN.out]; omega
        have c1 : wr.cell? ⟨b, off + k * 2, none⟩ = some (.string ss[k * 2]) := (hb.cell (by exact hbs)).trans (hcell (k * 2) _ (by simp [sv, show k * 2 < ss.length by omega]))
        have c2 : wr.cell? ⟨b, off + k * 2 + 1, none⟩ = some (.string ss[k * 2 + 1]) := (hb.cell (by exact hbs)).trans (by rw [Nat.add_assoc]; exact hcell (k * 2 + 1) _ (by simp [sv, hkx]))
        have hz1 := HS.out ss[k * 2] (List.getElem_mem _)
        have hz2 := HS.out ss[k * 2 + 1] (List.getElem_mem _)
        have HT := hid (bwP_two n ss k hkx)
        have HW := hid (bwP_le n ss ((k + 1) * 2))
        clear hcell hat
        generalize ss[k * 2] = t1 at c1 hz1 HT
        generalize ss[k * 2 + 1] = t2 at c2 hz2 HT
        generalize ht1 : bwP n ss ((k + 1) * 2) = y at HT HW
        have HY := hid ht1
        clear ht1
        generalize bwP n ss (k * 2) = x at hle HT ⊢
        go_wp2_with fail
        refine (szBinding_c hz1 hz2 (by omega) (by omega)).mono ?_
        rintro e w1 ⟨_, rfl, rfl, y1⟩
        have hb1 := ext_trans hb y1
        clear y1 c1 c2
        by_cases hneg : left - (x : Int) < ((t1.size + t2.size : Nat) : Int)
        · have HV := hid (show szS left (bw n ss) = -1 by rw [szS, if_pos (by have := HT.out; have := HW.out; omega)])
          rw [show szS (left - (x : Int)) (t1.size + t2.size) = -1 by rw [szS, if_pos hneg]]
          go_wp2
          go_ret
          exact gives_int HV.out.symm hb1
        · rw [show szS (left - (x : Int)) (t1.size + t2.size) = left - (x : Int) - (t1.size : Int) - (t2.size : Int) by rw [szS, if_neg hneg]; omega]
          have hn1 : ¬ left - (x : Int) - (t1.size : Int) - (t2.size : Int) < 0 := by omega
          have hn2 : decide (left - (x : Int) - (t1.size : Int) - (t2.size : Int) < 0) = false := decide_eq_false hn1
          go_wp2
          go_roundw
          case rel => exact ⟨k + 1, by omega, by go_num, by rw [HY.out, HT.out]; go_num, by rw [HY.out, HT.out]; omega, hb1⟩
          case measure => simp [intOf]; omega
      · have HV := hid (show szS left (bw n ss) = left - (bwP n ss (k * 2) : Nat) by
          have : bw n ss = bwP n ss (k * 2) := by unfold bw; rw [show k * 2 = ss.length by rw [HN.out]; omega]
          rw [szS, this, if_neg (by omega)])
        go_wp2
        go_ret
        exact gives_int HV.out.symm hb
set_option maxHeartbeats 1000000 in
theorem toBinding_c {w : World} {s t : ByteArray} :
    Calls Try.prog 83 #[.agg #[.string s, .string t]] w (Gives w fun r _ => r = .agg #[.string s, .string t]) := by
  go_enter Try.func83, Try.ntmps83
  go_wp2
  exact bodyPost_ret (v := .agg #[.string s, .string t]) (by simp [results, Try.results83, go_sem]) rfl (gives_of _ rfl (ext_alloc (ext_alloc (ext_alloc (ext_refl w) _) _) _))
theorem pair_at {w : World} {b off n k : Nat} {ss : List ByteArray} (hcell : ∀ j u, (ss.map sv)[j]? = some u → w.cell? ⟨b, off + j, none⟩ = some u) (hk : k * 2 + 1 < ss.length) :
    w.cell? ⟨b, off + k * 2, none⟩ = some (.string ss[k * 2]) ∧ w.cell? ⟨b, off + k * 2 + 1, none⟩ = some (.string ss[k * 2 + 1]) :=
  ⟨hcell (k * 2) _ (by simp [sv, show k * 2 < ss.length by omega]), by rw [Nat.add_assoc]; exact hcell (k * 2 + 1) _ (by simp [sv, hk])⟩
set_option maxRecDepth 100000 in
set_option maxHeartbeats 1000000 in
theorem toBindingS_c {w : World} {lo hi n : Nat} {v : Value} {ss : List ByteArray} (h : Rd w lo hi 2 v n (ss.map sv)) (hn : n ≤ 1099511627776) :
    Calls Try.prog 28 #[v] w (Gives w fun r w' => Own w' w.heap.size w'.heap.size 96 2 r n (ss.map sv)) := by
  obtain ⟨hl, a, cap, rfl, hc, hm, hat⟩ := h
  have H0 := hid hl
  clear hl
  obtain ⟨i0, hi0, hz0, hz1, hz2⟩ := info_parts info_binding
  go_enter Try.func28, Try.ntmps28
  go_wp2_with (at_make; refine wpList_make_full _ rfl _ _ 49 rfl w.heap.size 96 i0 (.agg #[.string ByteArray.empty, .string ByteArray.empty]) 2 Try.underlying49 hi0 hz0 hz1 _ _ _ _ n rfl rfl rfl rfl (by rw [hz2]; omega) (by unfold maxLen; omega) (Nat.le_refl _) ?_)
  intro w1 ho hg
  have x1 : Below w.heap.size w w1 := (ext_refl w).grown hg (Nat.le_refl _) (fun k hk => by cases hk)
  obtain ⟨zs, hzs, hzl⟩ : ∃ zs : List Value, Own w1 w.heap.size w1.heap.size 96 2 (.slice (some ⟨w.heap.size, 0, none⟩) n n) n zs ∧ Hid (zs.length = n * 2) := ⟨_, Own.of_row ho, ho.1⟩
  have hlen : Hid (zs.length = (ss.map sv).length) := by rw [Hid, hzl.out, H0.out]
  clear hg ho hi0 hz0 hz1 hz2
  go_wp2
  go_loopw [4] (fun i wr => ∃ k : Nat, k ≤ n ∧ i = .int .i64 k ∧ Own wr w.heap.size wr.heap.size 96 2 (.slice (some ⟨w.heap.size, 0, none⟩) n n) n (mix (ss.map sv) zs (k * 2)) ∧ Below w.heap.size w wr) (fun i _ => n - (intOf i).toNat)
  case atStart => exact ⟨0, Nat.zero_le _, rfl, by rw [Nat.zero_mul, mix_zero]; exact hzs, x1⟩
  case round =>
    obtain ⟨k, hk, rfl, ho, hb⟩ := hrel
    clear hzs x1
    by_cases hlt : k < n
    · obtain ⟨b, off, rfl, _, _, hbs, hcell⟩ := hat (by omega)
      have hkx : k * 2 + 1 < ss.length := by have := H0.out; rw [List.length_map] at this; omega
      obtain ⟨c1, c2⟩ := pair_at (n := n) hcell hkx
      replace c1 := (hb.cell (by exact hbs)).trans c1
      replace c2 := (hb.cell (by exact hbs)).trans c2
      have hu : (ss.map sv)[k * 2]? = some (.string ss[k * 2]) := by simp [sv, show k * 2 < ss.length by omega]
      have hu2 : (ss.map sv)[k * 2 + 1]? = some (.string ss[k * 2 + 1]) := by simp [sv, hkx]
      clear hcell hat
      go_wp2_with fail
      refine toBinding_c.mono ?_
      rintro e w2 ⟨_, rfl, rfl, y1⟩
      have ho1 := ho.ext y1
      have hb1 := ext_trans hb y1
      have q1 := y1.size
      clear ho y1 c1 c2
      obtain ⟨g, cp, hv, _, _, _, _, hgs, hfz, hcl, hst⟩ := ho1.at_ (by omega)
      simp only [Value.slice.injEq, Option.some.injEq, Addr.mk.injEq, and_true, true_and] at hv
      obtain ⟨rfl, rfl⟩ := hv
      have f1 := hfz (k * 2)
      have f2 := hfz (k * 2 + 1)
      obtain ⟨z, hz⟩ : ∃ z, zs[k * 2]? = some z := ⟨_, List.getElem?_eq_getElem (by rw [hzl.out]; omega)⟩
      obtain ⟨z', hz'⟩ : ∃ z, zs[k * 2 + 1]? = some z := ⟨_, List.getElem?_eq_getElem (by rw [hzl.out]; omega)⟩
      have d1 := hcl (k * 2) z (by rw [mix_get _ _ (k * 2) (by rw [H0.out]; omega)]; exact hz)
      have hst1 := hst (k * 2) (.string ss[k * 2])
      rw [mix_set _ _ (k * 2) hlen.out _ hu] at hst1
      obtain ⟨ho2, hm2⟩ := hst1
      obtain ⟨g', cp', hv', _, _, _, _, _, hfz', hcl', hst'⟩ := ho2.at_ (by omega)
      simp only [Value.slice.injEq, Option.some.injEq, Addr.mk.injEq, and_true, true_and] at hv'
      obtain ⟨rfl, rfl⟩ := hv'
      have d2 := hcl' (k * 2 + 1) z' (by rw [mix_get _ _ (k * 2 + 1) (by rw [H0.out]; omega)]; exact hz')
      have hst2 := hst' (k * 2 + 1) (.string ss[k * 2 + 1])
      rw [mix_set _ _ (k * 2 + 1) hlen.out _ hu2] at hst2
      obtain ⟨ho3, hm3⟩ := hst2
      clear hfz hcl hst hfz' hcl' hst' ho1 ho2 hu hu2 hz hz'
      generalize ss[k * 2] = t1 at *
      generalize ss[k * 2 + 1] = t2 at *
      go_wp2
      go_roundw
      case rel => exact ⟨k + 1, by omega, by go_num, by rw [show (k + 1) * 2 = k * 2 + 1 + 1 by omega]; exact ho3.mono (Nat.le_refl _) (by simp [World.setCell]; omega), hm3.ext (hm2.ext hb1 (Nat.le_refl _)) (Nat.le_refl _)⟩
      case measure => simp [intOf]; omega
    · go_wp2
      go_ret
      refine gives_of _ ?_ hb
      rwa [mix_all _ _ (k * 2) (by rw [H0.out]; omega) (by rw [hzl.out]; omega)] at ho
set_option maxHeartbeats 1000000 in
theorem eqBinding_c {w : World} (a b c d : ByteArray) {q : Bool} (hq : (decide (a = c) && decide (b = d)) = q) :
    Calls Try.prog 87 #[.agg #[.string a, .string b], .agg #[.string c, .string d]] w (Gives w fun r _ => r = .bool q) := by
  have HQ := hid hq
  clear hq
  have x := ext_alloc (ext_alloc (ext_refl w) (.cells #[.string a, .string b] 96)) (.cells #[.string c, .string d] 96)
  by_cases h1 : a = c
  · have e1 : (a.toList == c.toList) = true := by simp [h1]
    have HA := hid (decide_eq_true h1)
    by_cases h2 : b = d
    · have e2 : (b.toList == d.toList) = true := by simp [h2]
      have HB := hid (decide_eq_true h2)
      clear h1 h2
      go_enter Try.func87, Try.ntmps87
      go_wp2
      go_ret
      exact gives_bool (by rw [← HQ.out, HA.out, HB.out]; rfl) x
    · have e2 : (b.toList == d.toList) = false := by simp [str_eq, h2]
      have HB := hid (decide_eq_false h2)
      clear h1 h2
      go_enter Try.func87, Try.ntmps87
      go_wp2
      go_ret
      exact gives_bool (by rw [← HQ.out, HA.out, HB.out]; rfl) x
  · have e1 : (a.toList == c.toList) = false := by simp [str_eq, h1]
    have HA := hid (decide_eq_false h1)
    clear h1
    go_enter Try.func87, Try.ntmps87
    go_wp2
    go_ret
    exact gives_bool (by rw [← HQ.out, HA.out]; rfl) x
set_option maxRecDepth 100000 in
set_option maxHeartbeats 1000000 in
theorem eqBindingS_c {w : World} {lo hi lo' hi' n m : Nat} {v v' : Value} {ss tt : List ByteArray} (h : Rd w lo hi 2 v n (ss.map sv)) (h' : Rd w lo' hi' 2 v' m (tt.map sv)) :
    Calls Try.prog 30 #[v, v'] w (Gives w fun r _ => r = .bool (decide (ss = tt))) := by
  obtain ⟨hl, a, cap, rfl, hc, hm, hat⟩ := h
  obtain ⟨hl', a', cap', rfl, hc', hm', hat'⟩ := h'
  rw [List.length_map] at hl hl'
  by_cases hnm : n = m
  · subst hnm
    have H1 := hid hl
    have H2 := hid hl'
    clear hl hl'
    go_enter Try.func30, Try.ntmps30
    go_wp2
    go_loopw [5] (fun i wr => ∃ k : Nat, k ≤ n ∧ i = .int .i64 k ∧ Hid (ss.take (k * 2) = tt.take (k * 2)) ∧ Below w.heap.size w wr) (fun i _ => n - (intOf i).toNat)
    case atStart => exact ⟨0, Nat.zero_le _, rfl, hid (by simp), ext_refl w⟩
    case round =>
      obtain ⟨k, hk, rfl, HP, hb⟩ := hrel
      by_cases hlt : k < n
      · obtain ⟨b, off, rfl, _, _, hbs, hcell⟩ := hat (by omega)
        obtain ⟨b', off', rfl, _, _, hbs', hcell'⟩ := hat' (by omega)
        have hkx : k * 2 + 1 < ss.length := by rw [H1.out]; omega
        have hky : k * 2 + 1 < tt.length := by rw [H2.out]; omega
        obtain ⟨c1, c2⟩ := pair_at (n := n) hcell hkx
        obtain ⟨d1, d2⟩ := pair_at (n := n) hcell' hky
        have yd := Below.drew hb
        replace c1 := (yd.cell (by exact hbs)).trans c1
        replace c2 := (yd.cell (by exact hbs)).trans c2
        replace d1 := (yd.cell (by exact hbs')).trans d1
        replace d2 := (yd.cell (by exact hbs')).trans d2
        have HE := hid (fun (e1 : ss[k * 2] = tt[k * 2]) (e2 : ss[k * 2 + 1] = tt[k * 2 + 1]) => take_step (take_step HP.out (by omega) (by omega) e1) hkx hky e2)
        have HF1 := hid (fun e : ss[k * 2] ≠ tt[k * 2] => take_ne (xs := ss) (ys := tt) (k := k * 2) (by omega) (by omega) e)
        have HF2 := hid (fun e : ss[k * 2 + 1] ≠ tt[k * 2 + 1] => take_ne (xs := ss) (ys := tt) (k := k * 2 + 1) hkx hky e)
        have i0 : (0 : Int) ≤ (k : Int) := by omega
        have i1 : (k : Int) < (n : Int) := by omega
        clear hcell hcell' hat hat' HP
        generalize ss[k * 2] = s1 at *
        generalize ss[k * 2 + 1] = s2 at *
        generalize tt[k * 2] = t1 at *
        generalize tt[k * 2 + 1] = t2 at *
        have key : ((decide (s1 = t1) && decide (s2 = t2)) = true ∧ Hid (ss.take (k * 2 + 1 + 1) = tt.take (k * 2 + 1 + 1))) ∨ ((decide (s1 = t1) && decide (s2 = t2)) = false ∧ Hid (¬ ss = tt)) := by
          by_cases g1 : s1 = t1
          · by_cases g2 : s2 = t2
            · exact .inl ⟨by simp [g1, g2], hid (HE.out g1 g2)⟩
            · exact .inr ⟨by simp [g2], hid (HF2.out g2)⟩
          · exact .inr ⟨by simp [g1], hid (HF1.out g1)⟩
        clear HE HF1 HF2
        rcases key with ⟨hr, HG⟩ | ⟨hr, HG⟩
        · have HR := hid hr
          clear hr
          go_wp2_with fail
          go_region_held3 (fun w' => w'.cell? ⟨b, off + k * 2, none⟩ = some (.string s1) ∧ w'.cell? ⟨b, off + k * 2 + 1, none⟩ = some (.string s2) ∧ w'.cell? ⟨b', off' + k * 2, none⟩ = some (.string t1) ∧ w'.cell? ⟨b', off' + k * 2 + 1, none⟩ = some (.string t2))
            (first | exact ⟨c1, c2, d1, d2⟩)
            (first
              | (go_at_call 87; (with_reducible refine (eqBinding_c s1 s2 t1 t2 HR.out).mono ?_); rintro e w2 ⟨_, rfl, rfl, y1⟩; replace yd := ext_trans yd y1; replace c1 := cell_ext c1 y1; replace c2 := cell_ext c2 y1; replace d1 := cell_ext d1 y1; replace d2 := cell_ext d2 y1))
          clear c1 c2 d1 d2
          go_wp2
          go_roundw
          case rel => exact ⟨k + 1, by omega, by go_num, hid (by rw [show (k + 1) * 2 = k * 2 + 1 + 1 by omega]; exact HG.out), yd⟩
          case measure => simp [intOf]; omega
        · have HR := hid hr
          clear hr
          go_wp2_with fail
          go_region_held3 (fun w' => w'.cell? ⟨b, off + k * 2, none⟩ = some (.string s1) ∧ w'.cell? ⟨b, off + k * 2 + 1, none⟩ = some (.string s2) ∧ w'.cell? ⟨b', off' + k * 2, none⟩ = some (.string t1) ∧ w'.cell? ⟨b', off' + k * 2 + 1, none⟩ = some (.string t2))
            (first | exact ⟨c1, c2, d1, d2⟩)
            (first
              | (go_at_call 87; (with_reducible refine (eqBinding_c s1 s2 t1 t2 HR.out).mono ?_); rintro e w2 ⟨_, rfl, rfl, y1⟩; replace yd := ext_trans yd y1; replace c1 := cell_ext c1 y1; replace c2 := cell_ext c2 y1; replace d1 := cell_ext d1 y1; replace d2 := cell_ext d2 y1))
          clear c1 c2 d1 d2
          go_wp2
          go_ret
          exact gives_bool (by rw [decide_eq_false HG.out]) yd
      · go_wp2
        go_ret
        exact gives_bool (by rw [decide_eq_true (take_all HP.out (by rw [H1.out]; omega) (by rw [H2.out]; omega))]) hb
  · have hne : (((n : Int)) != (m : Int)) = true := by simp; omega
    go_enter Try.func30, Try.ntmps30
    go_wp2
    go_ret
    exact gives_bool (by rw [decide_eq_false (by intro e; subst e; omega)]) (ext_refl _)
/-- The place of the first binding of a letter, from place k on; -1 if none is. -/
def bi : List ByteArray → ByteArray → Int → Int
  | a :: _ :: r, key, k => if a = key then k else bi r key (k + 1)
  | _, _, _ => -1
theorem bi_step {ss : List ByteArray} {key : ByteArray} {k : Nat} (h : k * 2 + 1 < ss.length) : bi (ss.drop (k * 2)) key k = if ss[k * 2] = key then (k : Int) else bi (ss.drop ((k + 1) * 2)) key ((k + 1 : Nat) : Int) := by
  rw [List.drop_eq_getElem_cons (show k * 2 < ss.length by omega), List.drop_eq_getElem_cons h, bi, show (k + 1) * 2 = k * 2 + 1 + 1 by omega]
  rfl
theorem bi_end {ss : List ByteArray} {key : ByteArray} {k : Nat} (h : ss.length ≤ k * 2) : bi (ss.drop (k * 2)) key k = -1 := by
  rw [List.drop_eq_nil_of_le h, bi]
  simp
/-- The value of the first binding of a letter. -/
def bval (ss : List ByteArray) (key : ByteArray) : ByteArray := if bi ss key 0 < 0 then ByteArray.empty else (ss[(bi ss key 0).toNat * 2 + 1]?).getD ByteArray.empty
theorem bval_at {ss : List ByteArray} {key : ByteArray} {k : Nat} (h : bi ss key 0 = (k : Int)) (hk : k * 2 + 1 < ss.length) : bval ss key = ss[k * 2 + 1] := by
  unfold bval
  rw [h, if_neg (by omega), Int.toNat_natCast, List.getElem?_eq_getElem hk]
  rfl
theorem bval_no {ss : List ByteArray} {key : ByteArray} (h : bi ss key 0 = -1) : bval ss key = ByteArray.empty := by
  unfold bval
  rw [h, if_pos (by omega)]
theorem ba_empty : (⟨#[]⟩ : ByteArray) = ByteArray.empty := rfl
set_option maxHeartbeats 1000000 in
theorem l5Find_c {w : World} {lo hi n : Nat} {v : Value} {ss : List ByteArray} {key : ByteArray} (h : Rd w lo hi 2 v n (ss.map sv)) :
    Calls Try.prog 91 #[v, .string key] w (Gives w fun r _ => ∃ j : Int, r = .int .i64 j ∧ Hid (bi ss key 0 = j) ∧ (j = -1 ∨ 0 ≤ j ∧ j < n)) := by
  obtain ⟨hl, a, cap, rfl, hc, hm, hat⟩ := h
  rw [List.length_map] at hl
  have H1 := hid hl
  clear hl
  go_enter Try.func91, Try.ntmps91
  go_wp2
  go_loop [5] (fun i => ∃ k : Nat, k ≤ n ∧ i = .int .i64 k ∧ Hid (bi ss key 0 = bi (ss.drop (k * 2)) key k)) (fun i => n - (intOf i).toNat)
  case atStart => exact ⟨0, Nat.zero_le _, rfl, hid (by simp)⟩
  case round =>
    obtain ⟨k, hk, rfl, HP⟩ := hrel
    by_cases hlt : k < n
    · obtain ⟨b, off, rfl, _, _, hbs, hcell⟩ := hat (by omega)
      have hkx : k * 2 + 1 < ss.length := by rw [H1.out]; omega
      obtain ⟨c1, c2⟩ := pair_at (n := n) hcell hkx
      have HS := hid (bi_step (key := key) hkx)
      clear hcell hat
      generalize ss[k * 2] = s1 at *
      by_cases g : s1 = key
      · have e1 : (s1.toList == key.toList) = true := by simp [g]
        have HV := hid (show bi ss key 0 = k by rw [HP.out, HS.out, if_pos g])
        clear g HS
        go_wp2
        go_ret
        exact gives_of _ ⟨_, rfl, HV, Or.inr ⟨by omega, by omega⟩⟩ (ext_refl _)
      · have e1 : (s1.toList == key.toList) = false := by simp [str_eq, g]
        have HV := hid (show bi ss key 0 = bi (ss.drop ((k + 1) * 2)) key ((k + 1 : Nat) : Int) by rw [HP.out, HS.out, if_neg g])
        clear g HS
        go_wp2
        go_round
        case rel => exact ⟨k + 1, by omega, by go_num, HV⟩
        case measure => simp [intOf]; omega
    · have HV := hid (show bi ss key 0 = -1 by rw [HP.out, bi_end (by rw [H1.out]; omega)])
      go_wp2
      go_ret
      exact gives_of _ ⟨_, rfl, HV, Or.inl rfl⟩ (ext_refl _)
set_option maxHeartbeats 1000000 in
theorem specBindingValue_c {w : World} {lo hi n : Nat} {v : Value} {ss : List ByteArray} {key : ByteArray} (h : Rd w lo hi 2 v n (ss.map sv)) :
    Calls Try.prog 81 #[v, .string key] w (Gives w fun r _ => r = .string (bval ss key)) := by
  have C := hid (l5Find_c (key := key) h)
  obtain ⟨hl, a, cap, rfl, hc, hm, hat⟩ := h
  rw [List.length_map] at hl
  have H1 := hid hl
  clear hl
  go_enter Try.func81, Try.ntmps81
  go_wp2_with fail
  refine C.out.mono ?_
  rintro e w1 ⟨_, rfl, ⟨j, rfl, HJ, hj⟩, y1⟩
  clear C
  rcases hj with rfl | ⟨hj0, hj1⟩
  · have HV := hid (bval_no HJ.out)
    go_wp2
    go_ret
    exact gives_string (by rw [HV.out]; rfl) y1
  · obtain ⟨k, rfl⟩ := Int.eq_ofNat_of_zero_le hj0
    have hlt : k < n := by omega
    obtain ⟨b, off, rfl, _, _, hbs, hcell⟩ := hat (by omega)
    have hkx : k * 2 + 1 < ss.length := by rw [H1.out]; omega
    have HV := hid (bval_at HJ.out hkx)
    obtain ⟨c1, c2⟩ := pair_at (n := n) hcell hkx
    replace c2 := (y1.cell (by exact hbs)).trans c2
    have hn : decide ((k : Int) < 0) = false := decide_eq_false (by omega)
    clear hcell hat c1 HJ
    generalize ss[k * 2 + 1] = t at *
    go_wp2
    go_ret
    exact gives_string HV.out.symm y1
set_option maxHeartbeats 1000000 in
theorem implBindingValue_c {w : World} {lo hi n : Nat} {v : Value} {ss : List ByteArray} {key : ByteArray} (h : Rd w lo hi 2 v n (ss.map sv)) :
    Calls Try.prog 85 #[v, .string key] w (Gives w fun r _ => r = .string (bval ss key)) := by
  obtain ⟨hl, a, cap, rfl, hc, hm, hat⟩ := h
  rw [List.length_map] at hl
  have H1 := hid hl
  clear hl
  go_enter Try.func85, Try.ntmps85
  go_wp2
  go_loopw [9] (fun i wr => ∃ k : Nat, k ≤ n ∧ i = .int .i64 k ∧ Hid (bi ss key 0 = bi (ss.drop (k * 2)) key k) ∧ Below w.heap.size w wr) (fun i _ => n - (intOf i).toNat)
  case atStart => exact ⟨0, Nat.zero_le _, rfl, hid (by simp), ext_refl _⟩
  case round =>
    obtain ⟨k, hk, rfl, HP, hb⟩ := hrel
    by_cases hlt : k < n
    · obtain ⟨b, off, rfl, _, _, hbs, hcell⟩ := hat (by omega)
      have hkx : k * 2 + 1 < ss.length := by rw [H1.out]; omega
      obtain ⟨c1, c2⟩ := pair_at (n := n) hcell hkx
      replace c1 := (hb.cell (by exact hbs)).trans c1
      replace c2 := (hb.cell (by exact hbs)).trans c2
      have HS := hid (bi_step (key := key) hkx)
      have HB := hid (fun h => bval_at (ss := ss) (key := key) (k := k) h hkx)
      clear hcell hat
      generalize ss[k * 2] = s1 at *
      generalize ss[k * 2 + 1] = s2 at *
      have x2 := ext_alloc hb (.cells #[.string s1, .string s2] 96)
      by_cases g : s1 = key
      · have e1 : (s1.toList == key.toList) = true := by simp [g]
        have HV := hid (HB.out (show bi ss key 0 = k by rw [HP.out, HS.out, if_pos g]))
        clear g HS HB
        go_wp2
        go_ret
        exact gives_string HV.out.symm x2
      · have e1 : (s1.toList == key.toList) = false := by simp [str_eq, g]
        have HV := hid (show bi ss key 0 = bi (ss.drop ((k + 1) * 2)) key ((k + 1 : Nat) : Int) by rw [HP.out, HS.out, if_neg g])
        clear g HS HB
        go_wp2
        go_roundw
        case rel => exact ⟨k + 1, by omega, by go_num, HV, x2⟩
        case measure => simp [intOf]; omega
    · have HV := hid (bval_no (show bi ss key 0 = -1 by rw [HP.out, bi_end (by rw [H1.out]; omega)]))
      go_wp2
      go_ret
      exact gives_string (by rw [HV.out]; rfl) hb
end Go.Proofs.Ytcagbdidjakcpaa
