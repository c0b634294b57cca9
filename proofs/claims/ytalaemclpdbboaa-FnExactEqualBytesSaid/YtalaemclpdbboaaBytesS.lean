/- Slices of bytes: what the laws' helpers toByteS, eqByteS, markByteS, heldByteS and the library's Equal and Clone do. Conditions: the slice reads as the bytes; where it is copied its length is bounded. -/
import Derived.Test.YtalaemclpdbboaaRows
import Derived.Test.YtalaemclpdbboaaBase
import Derived.Deep.QuietTactic
import Derived.BigQuiet
namespace Go.Proofs.Ytalaemclpdbboaa
open Go.RowKit
def bv (b : UInt8) : Value := .int .u8 (b.toNat : Int)
theorem info_byte : (Try.prog.info? 5).map (fun i => (i.zero, i.size, i.bytes)) = some (some (.int .u8 0), 1, 1) := by kernel_rfl
theorem bv_one (xs : List UInt8) : ∀ u ∈ xs.map bv, u.oneCell' = true := by
  intro u hu; obtain ⟨_, _, rfl⟩ := List.mem_map.1 hu; rfl

theorem toByteS_c {w : World} {lo hi n : Nat} {v : Value} {xs : List UInt8} (h : Rd w lo hi 1 v n (xs.map bv)) (hn : n ≤ 140737488355328) :
    Calls Try.prog 30 #[v] w (Gives w fun r w' => Own w' w.heap.size w'.heap.size 5 1 r n (xs.map bv)) := by
  obtain ⟨hl, a, cap, rfl, hc, hm, hat⟩ := h
  rw [Nat.mul_one] at hl
  have H0 := hid hl
  clear hl
  obtain ⟨i0, hi0, hz0, hz1, hz2⟩ := info_parts info_byte
  go_enter Try.func30, Try.ntmps30
  go_wp2_with (at_make; refine wpList_make_full _ rfl _ _ 28 rfl w.heap.size 5 i0 (.int .u8 0) 1 Try.underlying28 hi0 hz0 hz1 _ _ _ _ n rfl rfl rfl rfl (by rw [hz2]; omega) (by unfold maxLen; omega) (Nat.le_refl _) ?_)
  intro w1 ho hg
  have x1 : Below w.heap.size w w1 := (ext_refl w).grown hg (Nat.le_refl _) (fun k hk => by cases hk)
  obtain ⟨zs, hzs, hzl⟩ : ∃ zs : List Value, Own w1 w.heap.size w1.heap.size 5 1 (.slice (some ⟨w.heap.size, 0, none⟩) n n) n zs ∧ Hid (zs.length = n) := ⟨_, Own.of_row ho, by have := ho.1; rwa [Nat.mul_one] at this⟩
  have hlen : Hid (zs.length = (xs.map bv).length) := by rw [Hid, hzl.out, H0.out]
  clear hg ho hi0 hz0 hz1 hz2
  go_wp2
  go_loopw [4] (fun i wr => ∃ k : Nat, k ≤ n ∧ i = .int .i64 k ∧ Own wr w.heap.size wr.heap.size 5 1 (.slice (some ⟨w.heap.size, 0, none⟩) n n) n (mix (xs.map bv) zs k) ∧ Below w.heap.size w wr) (fun i _ => n - (intOf i).toNat)
  case atStart => exact ⟨0, Nat.zero_le _, rfl, by rw [mix_zero]; exact hzs, x1⟩
  case round =>
    obtain ⟨k, hk, rfl, ho, hb⟩ := hrel
    clear hzs x1
    by_cases hlt : k < n
    · obtain ⟨b, off, rfl, _, _, hbs, hcell⟩ := hat (by omega)
      have hkx : k < xs.length := by have := H0.out; rw [List.length_map] at this; omega
      have hu : (xs.map bv)[k]? = some (bv xs[k]) := by simp [hkx]
      have c1 : wr.cell? ⟨b, off + k, none⟩ = some (bv xs[k]) := (hb.cell (by exact hbs)).trans (hcell k _ hu)
      obtain ⟨g, cp, hv, _, _, _, _, hgs, hfz, hcl, hst⟩ := ho.at_ (by omega)
      simp only [Value.slice.injEq, Option.some.injEq, Addr.mk.injEq, and_true, true_and] at hv
      obtain ⟨rfl, rfl⟩ := hv
      have f1 := hfz k
      obtain ⟨z, hz⟩ : ∃ z, zs[k]? = some z := ⟨_, List.getElem?_eq_getElem (by rw [hzl.out]; exact hlt)⟩
      have c2 := hcl k z (by rw [mix_get _ _ k (by rw [H0.out]; exact hlt)]; exact hz)
      obtain ⟨ho', hm'⟩ := hst k (bv xs[k])
      rw [mix_set _ _ k hlen.out _ hu] at ho'
      clear hcell hat hfz hcl hst ho hu hz
      unfold bv at c1
      go_wp2
      go_roundw
      case rel => exact ⟨k + 1, by omega, by go_num, ho'.mono (Nat.le_refl _) (by simp [World.setCell]), hm'.ext hb (Nat.le_refl _)⟩
      case measure => simp [intOf]; omega
    · go_wp2
      go_ret
      refine gives_of _ ?_ hb
      rwa [mix_all _ _ k (by rw [H0.out]; omega) (by rw [hzl.out]; omega)] at ho

theorem eqByteS_c {w : World} {lo hi lo' hi' n m : Nat} {v v' : Value} {xs ys : List UInt8} (h : Rd w lo hi 1 v n (xs.map bv)) (h' : Rd w lo' hi' 1 v' m (ys.map bv)) :
    Calls Try.prog 32 #[v, v'] w (Gives w fun r _ => r = .bool (decide (xs = ys))) := by
  obtain ⟨hl, a, cap, rfl, hc, hm, hat⟩ := h
  obtain ⟨hl', a', cap', rfl, hc', hm', hat'⟩ := h'
  simp only [List.length_map, Nat.mul_one] at hl hl'
  by_cases hnm : n = m
  · subst hnm
    have H1 := hid hl
    have H2 := hid hl'
    clear hl hl'
    go_enter Try.func32, Try.ntmps32
    go_wp2
    go_loopw [5] (fun i wr => ∃ k : Nat, k ≤ n ∧ i = .int .i64 k ∧ xs.take k = ys.take k ∧ Below w.heap.size w wr) (fun i _ => n - (intOf i).toNat)
    case atStart => exact ⟨0, Nat.zero_le _, rfl, rfl, ext_refl w⟩
    case round =>
      obtain ⟨k, hk, rfl, hpre, hb⟩ := hrel
      have HP := hid hpre
      clear hpre
      by_cases hlt : k < n
      · obtain ⟨b, off, rfl, _, _, hbs, hcell⟩ := hat (by omega)
        obtain ⟨b', off', rfl, _, _, hbs', hcell'⟩ := hat' (by omega)
        have hkx : k < xs.length := by rw [H1.out]; exact hlt
        have hky : k < ys.length := by rw [H2.out]; exact hlt
        have c1 : wr.cell? ⟨b, off + k, none⟩ = some (bv xs[k]) := (hb.cell (by exact hbs)).trans (hcell k _ (by simp [hkx]))
        have c2 : wr.cell? ⟨b', off' + k, none⟩ = some (bv ys[k]) := (hb.cell (by exact hbs')).trans (hcell' k _ (by simp [hky]))
        clear hcell hcell' hat hat'
        unfold bv at c1 c2
        by_cases e : xs[k] = ys[k]
        · have e1 : (((xs[k].toNat : Int)) != (ys[k].toNat : Int)) = false := by simp [e]
          go_wp2
          go_quiet (fail)
          go_wp2
          go_roundw
          case rel => exact ⟨k + 1, by omega, by go_num, take_step HP.out hkx hky e, ext_trans hb (ext_drewN _ _)⟩
          case measure => simp [intOf]; omega
        · have e1 : (((xs[k].toNat : Int)) != (ys[k].toNat : Int)) = true := by simpa [bne, Int.ofNat_inj, UInt8.toNat_inj] using e
          go_wp2
          go_quiet (fail)
          go_wp2
          go_ret
          exact gives_bool (by rw [decide_eq_false (take_ne hkx hky e)]) (ext_trans hb (ext_drewN _ _))
      · go_wp2
        go_ret
        exact gives_bool (by rw [decide_eq_true (take_all HP.out (by rw [H1.out]; omega) (by rw [H2.out]; omega))]) hb
  · have hne : (((n : Int)) != (m : Int)) = true := by simp; omega
    go_enter Try.func32, Try.ntmps32
    go_wp2
    go_ret
    exact gives_bool (by rw [decide_eq_false (by intro e; subst e; omega)]) (ext_refl _)

theorem slicesEqualByte_c {w : World} {lo hi lo' hi' n m : Nat} {v v' : Value} {xs ys : List UInt8} (h : Rd w lo hi 1 v n (xs.map bv)) (h' : Rd w lo' hi' 1 v' m (ys.map bv)) :
    Calls Try.prog 42 #[v, v'] w (Gives w fun r _ => r = .bool (decide (xs = ys))) := by
  obtain ⟨hl, a, cap, rfl, hc, hm, hat⟩ := h
  obtain ⟨hl', a', cap', rfl, hc', hm', hat'⟩ := h'
  simp only [List.length_map, Nat.mul_one] at hl hl'
  by_cases hnm : n = m
  · subst hnm
    have H1 := hid hl
    have H2 := hid hl'
    clear hl hl'
    go_enter Try.func42, Try.ntmps42
    go_wp2
    go_loopw [13] (fun i wr => ∃ k : Nat, k ≤ n ∧ i = .int .i64 k ∧ xs.take k = ys.take k ∧ Below w.heap.size w wr) (fun i _ => n - (intOf i).toNat)
    case atStart => exact ⟨0, Nat.zero_le _, rfl, rfl, ext_refl w⟩
    case round =>
      obtain ⟨k, hk, rfl, hpre, hb⟩ := hrel
      have HP := hid hpre
      clear hpre
      by_cases hlt : k < n
      · obtain ⟨b, off, rfl, _, _, hbs, hcell⟩ := hat (by omega)
        obtain ⟨b', off', rfl, _, _, hbs', hcell'⟩ := hat' (by omega)
        have hkx : k < xs.length := by rw [H1.out]; exact hlt
        have hky : k < ys.length := by rw [H2.out]; exact hlt
        have c1 : wr.cell? ⟨b, off + k, none⟩ = some (bv xs[k]) := (hb.cell (by exact hbs)).trans (hcell k _ (by simp [hkx]))
        have c2 : wr.cell? ⟨b', off' + k, none⟩ = some (bv ys[k]) := (hb.cell (by exact hbs')).trans (hcell' k _ (by simp [hky]))
        clear hcell hcell' hat hat'
        unfold bv at c1 c2
        by_cases e : xs[k] = ys[k]
        · have e1 : (((xs[k].toNat : Int)) != (ys[k].toNat : Int)) = false := by simp [e]
          go_wp2
          go_quiet (fail)
          go_wp2
          go_roundw
          case rel => exact ⟨k + 1, by omega, by go_num, take_step HP.out hkx hky e, ext_trans hb (ext_drewN _ _)⟩
          case measure => simp [intOf]; omega
        · have e1 : (((xs[k].toNat : Int)) != (ys[k].toNat : Int)) = true := by simpa [bne, Int.ofNat_inj, UInt8.toNat_inj] using e
          go_wp2
          go_quiet (fail)
          go_wp2
          go_ret
          exact gives_bool (by rw [decide_eq_false (take_ne hkx hky e)]) (ext_trans hb (ext_drewN _ _))
      · go_wp2
        go_ret
        exact gives_bool (by rw [decide_eq_true (take_all HP.out (by rw [H1.out]; omega) (by rw [H2.out]; omega))]) hb
  · have hne : (((n : Int)) != (m : Int)) = true := by simp; omega
    go_enter Try.func42, Try.ntmps42
    go_wp2
    go_ret
    exact gives_bool (by rw [decide_eq_false (by intro e; subst e; omega)]) (ext_refl _)


/-- The marks from k on. -/
def markByte (k : Int) : Value := .int .u8 (IntKind.u8.wrap (k))
def marksByte (k : Int) (n : Nat) : List Value := (List.range n).map fun (i : Nat) => markByte (k + (i : Int))
theorem marksByte_len (k : Int) (n : Nat) : (marksByte k n).length = n := by simp [marksByte]
theorem marksByte_at (k : Int) (n i : Nat) (h : i < n) : (marksByte k n)[i]? = some (markByte (k + (i : Int))) := by simp [marksByte, h]
end Go.Proofs.Ytalaemclpdbboaa
