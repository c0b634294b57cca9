/- Slices of bytes: what the laws' helpers toByteS, eqByteS, markByteS, heldByteS and the library's Equal and Clone do. Conditions: the slice reads as the bytes; where it is copied its length is bounded. -/
import Derived.Test.YtiikpkkpacjamaaRows
import Derived.Test.YtiikpkkpacjamaaBase
import Derived.Test.YtiikpkkpacjamaaApp
import Derived.WalkSpells
import Derived.Deep.QuietTactic
import Derived.BigQuiet
namespace Go.Proofs.Ytiikpkkpacjamaa
open Go.RowKit
def bv (b : UInt8) : Value := .int .u8 (b.toNat : Int)
theorem info_byte : (Try.prog.info? 5).map (fun i => (i.zero, i.size, i.bytes)) = some (some (.int .u8 0), 1, 1) := by kernel_rfl
theorem bv_one (xs : List UInt8) : ∀ u ∈ xs.map bv, u.oneCell' = true := by
  intro u hu; obtain ⟨_, _, rfl⟩ := List.mem_map.1 hu; rfl



theorem slicesEqualByte_c {w : World} {lo hi lo' hi' n m : Nat} {v v' : Value} {xs ys : List UInt8} (h : Rd w lo hi 1 v n (xs.map bv)) (h' : Rd w lo' hi' 1 v' m (ys.map bv)) :
    Calls Try.prog 66 #[v, v'] w (Gives w fun r _ => r = .bool (decide (xs = ys))) := by
  obtain ⟨hl, a, cap, rfl, hc, hm, hat⟩ := h
  obtain ⟨hl', a', cap', rfl, hc', hm', hat'⟩ := h'
  simp only [List.length_map, Nat.mul_one] at hl hl'
  by_cases hnm : n = m
  · subst hnm
    have H1 := hid hl
    have H2 := hid hl'
    clear hl hl'
    go_enter Try.func66, Try.ntmps66
    go_wp2
    go_loopw [13] (fun i wr => ∃ k : Nat, k ≤ n ∧ i = .int .i64 k ∧ xs.take k = ys.take k ∧ Below w.heap.size w wr) (fun i _ => n - (intOf i).toNat)
    case atStart => exact ⟨0, Nat.zero_le _, rfl, rfl, ext_refl w⟩
    case round =>
      obtain ⟨k, hk, rfl, hpre, hb⟩ := hrel
      have HP := hid hpre
      clear hpre
      by_cases hlt : k < n
      · obtain ⟨b, off, rfl, _, _, hbs, hcell⟩ := hat (by omega)
        obtain ⟨b', off', rfl, _, _, hbs', hcell'⟩ := hat' (by omega)
        have hkx : k < xs.length := by rw [H1.out]; exact hlt
        have hky : k < ys.length := by rw [H2.out]; exact hlt
        have c1 : wr.cell? ⟨b, off + k, none⟩ = some (bv xs[k]) := (hb.cell (by exact hbs)).trans (hcell k _ (by simp [hkx]))
        have c2 : wr.cell? ⟨b', off' + k, none⟩ = some (bv ys[k]) := (hb.cell (by exact hbs')).trans (hcell' k _ (by simp [hky]))
        clear hcell hcell' hat hat'
        unfold bv at c1 c2
        by_cases e : xs[k] = ys[k]
        · have e1 : (((xs[k].toNat : Int)) != (ys[k].toNat : Int)) = false := by simp [e]
          go_wp2
          go_quiet (fail)
          go_wp2
          go_roundw
          case rel => exact ⟨k + 1, by omega, by go_num, take_step HP.out hkx hky e, ext_trans hb (ext_drewN _ _)⟩
          case measure => simp [intOf]; omega
        · have e1 : (((xs[k].toNat : Int)) != (ys[k].toNat : Int)) = true := by simpa [bne, Int.ofNat_inj, UInt8.toNat_inj] using e
          go_wp2
          go_quiet (fail)
          go_wp2
          go_ret
          exact gives_bool (by rw [decide_eq_false (take_ne hkx hky e)]) (ext_trans hb (ext_drewN _ _))
      · go_wp2
        go_ret
        exact gives_bool (by rw [decide_eq_true (take_all HP.out (by rw [H1.out]; omega) (by rw [H2.out]; omega))]) hb
  · have hne : (((n : Int)) != (m : Int)) = true := by simp; omega
    go_enter Try.func66, Try.ntmps66
    go_wp2
    go_ret
    exact gives_bool (by rw [decide_eq_false (by intro e; subst e; omega)]) (ext_refl _)

theorem same_c {w : World} {lo hi lo' hi' n m : Nat} {v v' : Value} {xs ys : List UInt8} (h : Rd w lo hi 1 v n (xs.map bv)) (h' : Rd w lo' hi' 1 v' m (ys.map bv)) :
    Calls Try.prog 17 #[v, v'] w (Gives w fun r _ => r = .bool (decide (xs = ys))) := by
  obtain ⟨hl, a, cap, rfl, hc, hm, hat⟩ := h
  obtain ⟨hl', a', cap', rfl, hc', hm', hat'⟩ := h'
  simp only [List.length_map, Nat.mul_one] at hl hl'
  by_cases hnm : n = m
  · subst hnm
    have H1 := hid hl
    have H2 := hid hl'
    clear hl hl'
    go_enter Try.func17, Try.ntmps17
    go_wp2
    go_loopw [5] (fun i wr => ∃ k : Nat, k ≤ n ∧ i = .int .i64 k ∧ xs.take k = ys.take k ∧ Below w.heap.size w wr) (fun i _ => n - (intOf i).toNat)
    case atStart => exact ⟨0, Nat.zero_le _, rfl, rfl, ext_refl w⟩
    case round =>
      obtain ⟨k, hk, rfl, hpre, hb⟩ := hrel
      have HP := hid hpre
      clear hpre
      by_cases hlt : k < n
      · obtain ⟨b, off, rfl, _, _, hbs, hcell⟩ := hat (by omega)
        obtain ⟨b', off', rfl, _, _, hbs', hcell'⟩ := hat' (by omega)
        have hkx : k < xs.length := by rw [H1.out]; exact hlt
        have hky : k < ys.length := by rw [H2.out]; exact hlt
        have c1 : wr.cell? ⟨b, off + k, none⟩ = some (bv xs[k]) := (hb.cell (by exact hbs)).trans (hcell k _ (by simp [hkx]))
        have c2 : wr.cell? ⟨b', off' + k, none⟩ = some (bv ys[k]) := (hb.cell (by exact hbs')).trans (hcell' k _ (by simp [hky]))
        clear hcell hcell' hat hat'
        unfold bv at c1 c2
        by_cases e : xs[k] = ys[k]
        · have e1 : (((xs[k].toNat : Int)) != (ys[k].toNat : Int)) = false := by simp [e]
          go_wp2
          go_quiet (fail)
          go_wp2
          go_roundw
          case rel => exact ⟨k + 1, by omega, by go_num, take_step HP.out hkx hky e, ext_trans hb (ext_drewN _ _)⟩
          case measure => simp [intOf]; omega
        · have e1 : (((xs[k].toNat : Int)) != (ys[k].toNat : Int)) = true := by simpa [bne, Int.ofNat_inj, UInt8.toNat_inj] using e
          go_wp2
          go_quiet (fail)
          go_wp2
          go_ret
          exact gives_bool (by rw [decide_eq_false (take_ne hkx hky e)]) (ext_trans hb (ext_drewN _ _))
      · go_wp2
        go_ret
        exact gives_bool (by rw [decide_eq_true (take_all HP.out (by rw [H1.out]; omega) (by rw [H2.out]; omega))]) hb
  · have hne : (((n : Int)) != (m : Int)) = true := by simp; omega
    go_enter Try.func17, Try.ntmps17
    go_wp2
    go_ret
    exact gives_bool (by rw [decide_eq_false (by intro e; subst e; omega)]) (ext_refl _)

/-- The marks from k on. -/
def markByte (k : Int) : Value := .int .u8 (IntKind.u8.wrap (k))
def marksByte (k : Int) (n : Nat) : List Value := (List.range n).map fun (i : Nat) => markByte (k + (i : Int))
theorem marksByte_len (k : Int) (n : Nat) : (marksByte k n).length = n := by simp [marksByte]
theorem marksByte_at (k : Int) (n i : Nat) (h : i < n) : (marksByte k n)[i]? = some (markByte (k + (i : Int))) := by simp [marksByte, h]

theorem cloneByte_c {w : World} {lo hi n : Nat} {v : Value} {xs : List UInt8} (h : Rd w lo hi 1 v n (xs.map bv)) (hn : n ≤ 140737488355328) :
    Calls Try.prog 57 #[v] w (Gives w fun r w' => Own w' w.heap.size w'.heap.size 5 1 r n (xs.map bv)) := by
  obtain ⟨i0, hi0, hz0, hz1, hz2⟩ := info_parts info_byte
  obtain ⟨a, cap, rfl, hm⟩ := h.form
  have k1 := Lib.run_eql_slice_nil (P := Try.prog) w 22 5 a n cap 0 0 Try.underlying22
  cases a with
  | none =>
    have hn0 : n = 0 := by
      obtain ⟨_, a, c', he, _, _, hat⟩ := h
      rcases Nat.eq_zero_or_pos n with h0 | h0
      · exact h0
      · obtain ⟨b, off, ha, _⟩ := hat h0
        rw [ha] at he; cases he
    subst hn0
    have hx : xs = [] := by have := h.1; simpa using this
    subst hx
    clear h
    go_enter Try.func57, Try.ntmps57
    go_wp2
    go_ret
    exact gives_of (.slice none 0 0) (Own.none_ _ _ _ _ _ _) (ext_refl _)
  | some ad =>
    have h' := h.ext (ext_alloc (ext_refl w) (.cells #[] 5))
    have o0 := Own.new w #[] 5 1 0 (by decide) rfl
    clear h
    go_enter Try.func57, Try.ntmps57
    go_wp2_with (at_builtin; refine wpList_append_Own rfl _ _ 22 rfl 5 i0 (.int .u8 0) 1 1 Try.underlying22 hi0 hz0 hz1 hz2 rfl (by decide) rfl o0 rfl h' (bv_one xs) (by omega) (by omega) (by simp) ?_)
    intro v' w' ho hmu
    have x := Mut.ext (ext_alloc (ext_refl w) (.cells #[] 5)) hmu (Nat.le_refl _)
    clear hmu o0 h' hi0 hz0 hz1 hz2
    go_wp2
    go_ret
    exact gives_of _ (by simpa using ho) x
end Go.Proofs.Ytiikpkkpacjamaa
