/- Slices of ints: what the laws' helpers toIntS, eqIntS, markIntS, heldIntS and the library's Equal and Clone do. Conditions: the slice reads as the ints; where it is copied its length is bounded. -/
import Derived.Test.YtgikhoamickloaaRows
import Derived.Test.YtgikhoamickloaaBase
import Derived.Test.YtgikhoamickloaaNum
import Derived.Test.YtgikhoamickloaaApp
import Derived.WalkSpells
import Derived.Deep.QuietTactic
import Derived.BigQuiet
namespace Go.Proofs.Ytgikhoamickloaa
open Go.RowKit
theorem info_int : (Try.prog.info? 3).map (fun i => (i.zero, i.size, i.bytes)) = some (some (.int .i64 0), 1, 8) := by kernel_rfl

theorem toIntS_c {w : World} {lo hi n : Nat} {v : Value} {xs : List Int} (h : Rd w lo hi 1 v n (xs.map iv)) (hn : n ≤ 17592186044416) :
    Calls Try.prog 30 #[v] w (Gives w fun r w' => Own w' w.heap.size w'.heap.size 3 1 r n (xs.map iv)) := by
  obtain ⟨hl, a, cap, rfl, hc, hm, hat⟩ := h
  rw [Nat.mul_one] at hl
  have H0 := hid hl
  clear hl
  obtain ⟨i0, hi0, hz0, hz1, hz2⟩ := info_parts info_int
  go_enter Try.func30, Try.ntmps30
  go_wp2_with (at_make; refine wpList_make_full _ rfl _ _ 23 rfl w.heap.size 3 i0 (.int .i64 0) 1 Try.underlying23 hi0 hz0 hz1 _ _ _ _ n rfl rfl rfl rfl (by rw [hz2]; omega) (by unfold maxLen; omega) (Nat.le_refl _) ?_)
  intro w1 ho hg
  have x1 : Below w.heap.size w w1 := (ext_refl w).grown hg (Nat.le_refl _) (fun k hk => by cases hk)
  obtain ⟨zs, hzs, hzl⟩ : ∃ zs : List Value, Own w1 w.heap.size w1.heap.size 3 1 (.slice (some ⟨w.heap.size, 0, none⟩) n n) n zs ∧ Hid (zs.length = n) := ⟨_, Own.of_row ho, by have := ho.1; rwa [Nat.mul_one] at this⟩
  have hlen : Hid (zs.length = (xs.map iv).length) := by rw [Hid, hzl.out, H0.out]
  clear hg ho hi0 hz0 hz1 hz2
  go_wp2
  go_loopw [4] (fun i wr => ∃ k : Nat, k ≤ n ∧ i = .int .i64 k ∧ Own wr w.heap.size wr.heap.size 3 1 (.slice (some ⟨w.heap.size, 0, none⟩) n n) n (mix (xs.map iv) zs k) ∧ Below w.heap.size w wr) (fun i _ => n - (intOf i).toNat)
  case atStart => exact ⟨0, Nat.zero_le _, rfl, by rw [mix_zero]; exact hzs, x1⟩
  case round =>
    obtain ⟨k, hk, rfl, ho, hb⟩ := hrel
    clear hzs x1
    by_cases hlt : k < n
    · obtain ⟨b, off, rfl, _, _, hbs, hcell⟩ := hat (by omega)
      have hkx : k < xs.length := by have := H0.out; rw [List.length_map] at this; omega
      have hu : (xs.map iv)[k]? = some (iv xs[k]) := by simp [hkx]
      have c1 : wr.cell? ⟨b, off + k, none⟩ = some (iv xs[k]) := (hb.cell (by exact hbs)).trans (hcell k _ hu)
      obtain ⟨g, cp, hv, _, _, _, _, hgs, hfz, hcl, hst⟩ := ho.at_ (by omega)
      simp only [Value.slice.injEq, Option.some.injEq, Addr.mk.injEq, and_true, true_and] at hv
      obtain ⟨rfl, rfl⟩ := hv
      have f1 := hfz k
      obtain ⟨z, hz⟩ : ∃ z, zs[k]? = some z := ⟨_, List.getElem?_eq_getElem (by rw [hzl.out]; exact hlt)⟩
      have c2 := hcl k z (by rw [mix_get _ _ k (by rw [H0.out]; exact hlt)]; exact hz)
      obtain ⟨ho', hm'⟩ := hst k (iv xs[k])
      rw [mix_set _ _ k hlen.out _ hu] at ho'
      clear hcell hat hfz hcl hst ho hu hz
      unfold iv at c1
      go_wp2
      go_roundw
      case rel => exact ⟨k + 1, by omega, by go_num, ho'.mono (Nat.le_refl _) (by simp [World.setCell]), hm'.ext hb (Nat.le_refl _)⟩
      case measure => simp [intOf]; omega
    · go_wp2
      go_ret
      refine gives_of _ ?_ hb
      rwa [mix_all _ _ k (by rw [H0.out]; omega) (by rw [hzl.out]; omega)] at ho

theorem eqIntS_c {w : World} {lo hi lo' hi' n m : Nat} {v v' : Value} {xs ys : List Int} (h : Rd w lo hi 1 v n (xs.map iv)) (h' : Rd w lo' hi' 1 v' m (ys.map iv)) :
    Calls Try.prog 19 #[v, v'] w (Gives w fun r _ => r = .bool (decide (xs = ys))) := by
  obtain ⟨hl, a, cap, rfl, hc, hm, hat⟩ := h
  obtain ⟨hl', a', cap', rfl, hc', hm', hat'⟩ := h'
  simp only [List.length_map, Nat.mul_one] at hl hl'
  by_cases hnm : n = m
  · subst hnm
    have H1 := hid hl
    have H2 := hid hl'
    clear hl hl'
    go_enter Try.func19, Try.ntmps19
    go_wp2
    go_loopw [5] (fun i wr => ∃ k : Nat, k ≤ n ∧ i = .int .i64 k ∧ xs.take k = ys.take k ∧ Below w.heap.size w wr) (fun i _ => n - (intOf i).toNat)
    case atStart => exact ⟨0, Nat.zero_le _, rfl, rfl, ext_refl w⟩
    case round =>
      obtain ⟨k, hk, rfl, hpre, hb⟩ := hrel
      have HP := hid hpre
      clear hpre
      by_cases hlt : k < n
      · obtain ⟨b, off, rfl, _, _, hbs, hcell⟩ := hat (by omega)
        obtain ⟨b', off', rfl, _, _, hbs', hcell'⟩ := hat' (by omega)
        have hkx : k < xs.length := by rw [H1.out]; exact hlt
        have hky : k < ys.length := by rw [H2.out]; exact hlt
        have c1 : wr.cell? ⟨b, off + k, none⟩ = some (iv xs[k]) := (hb.cell (by exact hbs)).trans (hcell k _ (by simp [hkx]))
        have c2 : wr.cell? ⟨b', off' + k, none⟩ = some (iv ys[k]) := (hb.cell (by exact hbs')).trans (hcell' k _ (by simp [hky]))
        clear hcell hcell' hat hat'
        unfold iv at c1 c2
        by_cases e : xs[k] = ys[k]
        · have e1 : (xs[k] != ys[k]) = false := by simp [e]
          go_wp2
          go_quiet (fail)
          go_wp2
          go_roundw
          case rel => exact ⟨k + 1, by omega, by go_num, take_step HP.out hkx hky e, ext_trans hb (ext_drewN _ _)⟩
          case measure => simp [intOf]; omega
        · have e1 : (xs[k] != ys[k]) = true := by simpa using e
          go_wp2
          go_quiet (fail)
          go_wp2
          go_ret
          exact gives_bool (by rw [decide_eq_false (take_ne hkx hky e)]) (ext_trans hb (ext_drewN _ _))
      · go_wp2
        go_ret
        exact gives_bool (by rw [decide_eq_true (take_all HP.out (by rw [H1.out]; omega) (by rw [H2.out]; omega))]) hb
  · have hne : (((n : Int)) != (m : Int)) = true := by simp; omega
    go_enter Try.func19, Try.ntmps19
    go_wp2
    go_ret
    exact gives_bool (by rw [decide_eq_false (by intro e; subst e; omega)]) (ext_refl _)

theorem slicesEqualInt_c {w : World} {lo hi lo' hi' n m : Nat} {v v' : Value} {xs ys : List Int} (h : Rd w lo hi 1 v n (xs.map iv)) (h' : Rd w lo' hi' 1 v' m (ys.map iv)) :
    Calls Try.prog 91 #[v, v'] w (Gives w fun r _ => r = .bool (decide (xs = ys))) := by
  obtain ⟨hl, a, cap, rfl, hc, hm, hat⟩ := h
  obtain ⟨hl', a', cap', rfl, hc', hm', hat'⟩ := h'
  simp only [List.length_map, Nat.mul_one] at hl hl'
  by_cases hnm : n = m
  · subst hnm
    have H1 := hid hl
    have H2 := hid hl'
    clear hl hl'
    go_enter Try.func91, Try.ntmps91
    go_wp2
    go_loopw [13] (fun i wr => ∃ k : Nat, k ≤ n ∧ i = .int .i64 k ∧ xs.take k = ys.take k ∧ Below w.heap.size w wr) (fun i _ => n - (intOf i).toNat)
    case atStart => exact ⟨0, Nat.zero_le _, rfl, rfl, ext_refl w⟩
    case round =>
      obtain ⟨k, hk, rfl, hpre, hb⟩ := hrel
      have HP := hid hpre
      clear hpre
      by_cases hlt : k < n
      · obtain ⟨b, off, rfl, _, _, hbs, hcell⟩ := hat (by omega)
        obtain ⟨b', off', rfl, _, _, hbs', hcell'⟩ := hat' (by omega)
        have hkx : k < xs.length := by rw [H1.out]; exact hlt
        have hky : k < ys.length := by rw [H2.out]; exact hlt
        have c1 : wr.cell? ⟨b, off + k, none⟩ = some (iv xs[k]) := (hb.cell (by exact hbs)).trans (hcell k _ (by simp [hkx]))
        have c2 : wr.cell? ⟨b', off' + k, none⟩ = some (iv ys[k]) := (hb.cell (by exact hbs')).trans (hcell' k _ (by simp [hky]))
        clear hcell hcell' hat hat'
        unfold iv at c1 c2
        by_cases e : xs[k] = ys[k]
        · have e1 : (xs[k] != ys[k]) = false := by simp [e]
          go_wp2
          go_quiet (fail)
          go_wp2
          go_roundw
          case rel => exact ⟨k + 1, by omega, by go_num, take_step HP.out hkx hky e, ext_trans hb (ext_drewN _ _)⟩
          case measure => simp [intOf]; omega
        · have e1 : (xs[k] != ys[k]) = true := by simpa using e
          go_wp2
          go_quiet (fail)
          go_wp2
          go_ret
          exact gives_bool (by rw [decide_eq_false (take_ne hkx hky e)]) (ext_trans hb (ext_drewN _ _))
      · go_wp2
        go_ret
        exact gives_bool (by rw [decide_eq_true (take_all HP.out (by rw [H1.out]; omega) (by rw [H2.out]; omega))]) hb
  · have hne : (((n : Int)) != (m : Int)) = true := by simp; omega
    go_enter Try.func91, Try.ntmps91
    go_wp2
    go_ret
    exact gives_bool (by rw [decide_eq_false (by intro e; subst e; omega)]) (ext_refl _)


theorem sameInts_c {w : World} {lo hi lo' hi' n m : Nat} {v v' : Value} {xs ys : List Int} (h : Rd w lo hi 1 v n (xs.map iv)) (h' : Rd w lo' hi' 1 v' m (ys.map iv)) :
    Calls Try.prog 55 #[v, v'] w (Gives w fun r _ => r = .bool (decide (xs = ys))) := by
  obtain ⟨hl, a, cap, rfl, hc, hm, hat⟩ := h
  obtain ⟨hl', a', cap', rfl, hc', hm', hat'⟩ := h'
  simp only [List.length_map, Nat.mul_one] at hl hl'
  by_cases hnm : n = m
  · subst hnm
    have H1 := hid hl
    have H2 := hid hl'
    clear hl hl'
    go_enter Try.func55, Try.ntmps55
    go_wp2
    go_loopw [5] (fun i wr => ∃ k : Nat, k ≤ n ∧ i = .int .i64 k ∧ xs.take k = ys.take k ∧ Below w.heap.size w wr) (fun i _ => n - (intOf i).toNat)
    case atStart => exact ⟨0, Nat.zero_le _, rfl, rfl, ext_refl w⟩
    case round =>
      obtain ⟨k, hk, rfl, hpre, hb⟩ := hrel
      have HP := hid hpre
      clear hpre
      by_cases hlt : k < n
      · obtain ⟨b, off, rfl, _, _, hbs, hcell⟩ := hat (by omega)
        obtain ⟨b', off', rfl, _, _, hbs', hcell'⟩ := hat' (by omega)
        have hkx : k < xs.length := by rw [H1.out]; exact hlt
        have hky : k < ys.length := by rw [H2.out]; exact hlt
        have c1 : wr.cell? ⟨b, off + k, none⟩ = some (iv xs[k]) := (hb.cell (by exact hbs)).trans (hcell k _ (by simp [hkx]))
        have c2 : wr.cell? ⟨b', off' + k, none⟩ = some (iv ys[k]) := (hb.cell (by exact hbs')).trans (hcell' k _ (by simp [hky]))
        clear hcell hcell' hat hat'
        unfold iv at c1 c2
        by_cases e : xs[k] = ys[k]
        · have e1 : (xs[k] != ys[k]) = false := by simp [e]
          go_wp2
          go_quiet (fail)
          go_wp2
          go_roundw
          case rel => exact ⟨k + 1, by omega, by go_num, take_step HP.out hkx hky e, ext_trans hb (ext_drewN _ _)⟩
          case measure => simp [intOf]; omega
        · have e1 : (xs[k] != ys[k]) = true := by simpa using e
          go_wp2
          go_quiet (fail)
          go_wp2
          go_ret
          exact gives_bool (by rw [decide_eq_false (take_ne hkx hky e)]) (ext_trans hb (ext_drewN _ _))
      · go_wp2
        go_ret
        exact gives_bool (by rw [decide_eq_true (take_all HP.out (by rw [H1.out]; omega) (by rw [H2.out]; omega))]) hb
  · have hne : (((n : Int)) != (m : Int)) = true := by simp; omega
    go_enter Try.func55, Try.ntmps55
    go_wp2
    go_ret
    exact gives_bool (by rw [decide_eq_false (by intro e; subst e; omega)]) (ext_refl _)

/-- The marks from k on. -/
def markInt (k : Int) : Value := .int .i64 (k)
def marksInt (k : Int) (n : Nat) : List Value := (List.range n).map fun (i : Nat) => markInt (k + (i : Int))
theorem marksInt_len (k : Int) (n : Nat) : (marksInt k n).length = n := by simp [marksInt]
theorem marksInt_at (k : Int) (n i : Nat) (h : i < n) : (marksInt k n)[i]? = some (markInt (k + (i : Int))) := by simp [marksInt, h]
theorem markIntS_c {w : World} {lo hi n : Nat} {v : Value} {zs : List Value} (h : Own w lo hi 3 1 v n zs) {k0 : Int} (h1 : 0 ≤ k0) (h2 : k0 ≤ 1000000000000) (hn : n ≤ 1000000000000) :
    Calls Try.prog 22 #[v, .int .i64 k0] w fun e w' => e = .returned (.int .i64 (k0 + n)) ∧ Own w' lo hi 3 1 v n (marksInt k0 n) ∧ Mut lo hi w w' := by
  have hl := h.1
  rw [Nat.mul_one] at hl
  have H0 := hid hl
  have HL : Hid (zs.length = (marksInt k0 n).length) := by rw [Hid, marksInt_len, hl]
  clear hl
  have hr := h.rd
  obtain ⟨_, a, cap, rfl, hc, hm, _⟩ := hr
  go_enter Try.func22, Try.ntmps22
  go_wp2
  go_loopw [1, 5] (fun q i wr => ∃ k : Nat, k ≤ n ∧ i = .int .i64 k ∧ q = .int .i64 (k0 + (k : Int)) ∧ Own wr lo hi 3 1 (.slice a n cap) n (mix (marksInt k0 n) zs k) ∧ Mut lo hi w wr) (fun _ i _ => n - (intOf i).toNat)
  case atStart => exact ⟨0, Nat.zero_le _, rfl, by simp, by rw [mix_zero]; exact h, Mut.refl _ _ _⟩
  case round =>
    obtain ⟨k, hk, rfl, rfl, ho, hb⟩ := hrel
    clear h
    by_cases hlt : k < n
    · obtain ⟨g, cp, hv, _, _, _, _, hgs, hfz, hcl, hst⟩ := ho.at_ (by omega)
      simp only [Value.slice.injEq, true_and] at hv
      obtain ⟨rfl, rfl⟩ := hv
      have f1 := hfz k
      obtain ⟨z, hz⟩ : ∃ z, zs[k]? = some z := ⟨_, List.getElem?_eq_getElem (by rw [H0.out]; exact hlt)⟩
      have c2 := hcl k z (by rw [mix_get _ _ k (by rw [marksInt_len]; exact hlt)]; exact hz)
      obtain ⟨ho', hm'⟩ := hst k (markInt (k0 + (k : Int)))
      rw [mix_set _ _ k HL.out _ (marksInt_at k0 n k hlt)] at ho'
      clear hfz hcl hst ho hz
      go_wp2
      go_roundw
      case rel => exact ⟨k + 1, by omega, by go_num, by go_num, ho', hb.trans hm'⟩
      case measure => simp [intOf]; omega
    · have hkn : k = n := by omega
      subst hkn
      go_wp2
      go_ret
      refine ⟨rfl, ?_, hb⟩
      rwa [mix_all _ _ k (by rw [marksInt_len]; omega) (by rw [H0.out]; omega)] at ho
theorem heldIntS_c {w : World} {lo hi n : Nat} {v : Value} {k0 : Int} (h : Rd w lo hi 1 v n (marksInt k0 n)) (h1 : 0 ≤ k0) (h2 : k0 ≤ 1000000000000) (hn : n ≤ 1000000000000) :
    Calls Try.prog 23 #[v, .int .i64 k0] w (Gives w fun r _ => r = .int .i64 (k0 + n)) := by
  obtain ⟨_, a, cap, rfl, hc, hm, hat⟩ := h
  go_enter Try.func23, Try.ntmps23
  go_wp2
  go_loopw [1, 5] (fun q i wr => ∃ k : Nat, k ≤ n ∧ i = .int .i64 k ∧ q = .int .i64 (k0 + (k : Int)) ∧ Below w.heap.size w wr) (fun _ i _ => n - (intOf i).toNat)
  case atStart => exact ⟨0, Nat.zero_le _, rfl, by simp, ext_refl _⟩
  case round =>
    obtain ⟨k, hk, rfl, rfl, hb⟩ := hrel
    by_cases hlt : k < n
    · obtain ⟨b, off, rfl, _, _, hbs, hcell⟩ := hat (by omega)
      have c1 : wr.cell? ⟨b, off + k, none⟩ = some (markInt (k0 + (k : Int))) := (hb.cell (by exact hbs)).trans (hcell k _ (marksInt_at k0 n k hlt))
      unfold markInt at c1
      clear hcell hat
      go_wp2
      go_roundw
      case rel => exact ⟨k + 1, by omega, by go_num, by go_num, hb⟩
      case measure => simp [intOf]; omega
    · have hkn : k = n := by omega
      subst hkn
      go_wp2
      go_ret
      exact gives_int rfl hb

end Go.Proofs.Ytgikhoamickloaa
