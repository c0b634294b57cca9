/- Slices of strings: what the laws' helpers toStringS, eqStringS, markStringS, heldStringS and the library's Equal and Clone do. Conditions: the slice reads as the strings; where it is copied its length is bounded. -/
import Derived.Test.YtoehjfcadhgpbaaDoorRows
import Derived.Test.YtoehjfcadhgpbaaDoorBase
import Derived.Test.YtoehjfcadhgpbaaDoorApp
import Derived.WalkSpells
import Derived.Deep.QuietTactic
import Derived.BigQuiet
namespace Go.Proofs.YtoehjfcadhgpbaaDoor
open Go.RowKit
def sv (s : ByteArray) : Value := .string s
theorem info_string : (Tryd.prog.info? 9).map (fun i => (i.zero, i.size, i.bytes)) = some (some (.string ByteArray.empty), 1, 16) := by kernel_rfl
theorem sv_one (xs : List ByteArray) : ∀ u ∈ xs.map sv, u.oneCell' = true := by
  intro u hu; obtain ⟨_, _, rfl⟩ := List.mem_map.1 hu; rfl


theorem eqStringS_c {w : World} {lo hi lo' hi' n m : Nat} {v v' : Value} {xs ys : List ByteArray} (h : Rd w lo hi 1 v n (xs.map sv)) (h' : Rd w lo' hi' 1 v' m (ys.map sv)) :
    Calls Tryd.prog 58 #[v, v'] w (Gives w fun r _ => r = .bool (decide (xs = ys))) := by
  obtain ⟨hl, a, cap, rfl, hc, hm, hat⟩ := h
  obtain ⟨hl', a', cap', rfl, hc', hm', hat'⟩ := h'
  simp only [List.length_map, Nat.mul_one] at hl hl'
  by_cases hnm : n = m
  · subst hnm
    have H1 := hid hl
    have H2 := hid hl'
    clear hl hl'
    go_enter Tryd.func58, Tryd.ntmps58
    go_wp2
    go_loopw [5] (fun i wr => ∃ k : Nat, k ≤ n ∧ i = .int .i64 k ∧ xs.take k = ys.take k ∧ Below w.heap.size w wr) (fun i _ => n - (intOf i).toNat)
    case atStart => exact ⟨0, Nat.zero_le _, rfl, rfl, ext_refl w⟩
    case round =>
      obtain ⟨k, hk, rfl, hpre, hb⟩ := hrel
      have HP := hid hpre
      clear hpre
      by_cases hlt : k < n
      · obtain ⟨b, off, rfl, _, _, hbs, hcell⟩ := hat (by omega)
        obtain ⟨b', off', rfl, _, _, hbs', hcell'⟩ := hat' (by omega)
        have hkx : k < xs.length := by rw [H1.out]; exact hlt
        have hky : k < ys.length := by rw [H2.out]; exact hlt
        have c1 : wr.cell? ⟨b, off + k, none⟩ = some (sv xs[k]) := (hb.cell (by exact hbs)).trans (hcell k _ (by simp [hkx]))
        have c2 : wr.cell? ⟨b', off' + k, none⟩ = some (sv ys[k]) := (hb.cell (by exact hbs')).trans (hcell' k _ (by simp [hky]))
        clear hcell hcell' hat hat'
        unfold sv at c1 c2
        by_cases e : xs[k] = ys[k]
        · have e1 : (xs[k].toList == ys[k].toList) = true := by simp [e]
          go_wp2
          go_quiet (fail)
          go_wp2
          go_roundw
          case rel => exact ⟨k + 1, by omega, by go_num, take_step HP.out hkx hky e, ext_trans hb (ext_drewN _ _)⟩
          case measure => simp [intOf]; omega
        · have e1 : (xs[k].toList == ys[k].toList) = false := by simp [str_eq, e]
          go_wp2
          go_quiet (fail)
          go_wp2
          go_ret
          exact gives_bool (by rw [decide_eq_false (take_ne hkx hky e)]) (ext_trans hb (ext_drewN _ _))
      · go_wp2
        go_ret
        exact gives_bool (by rw [decide_eq_true (take_all HP.out (by rw [H1.out]; omega) (by rw [H2.out]; omega))]) hb
  · have hne : (((n : Int)) != (m : Int)) = true := by simp; omega
    go_enter Tryd.func58, Tryd.ntmps58
    go_wp2
    go_ret
    exact gives_bool (by rw [decide_eq_false (by intro e; subst e; omega)]) (ext_refl _)

theorem slicesEqualString_c {w : World} {lo hi lo' hi' n m : Nat} {v v' : Value} {xs ys : List ByteArray} (h : Rd w lo hi 1 v n (xs.map sv)) (h' : Rd w lo' hi' 1 v' m (ys.map sv)) :
    Calls Tryd.prog 86 #[v, v'] w (Gives w fun r _ => r = .bool (decide (xs = ys))) := by
  obtain ⟨hl, a, cap, rfl, hc, hm, hat⟩ := h
  obtain ⟨hl', a', cap', rfl, hc', hm', hat'⟩ := h'
  simp only [List.length_map, Nat.mul_one] at hl hl'
  by_cases hnm : n = m
  · subst hnm
    have H1 := hid hl
    have H2 := hid hl'
    clear hl hl'
    go_enter Tryd.func86, Tryd.ntmps86
    go_wp2
    go_loopw [13] (fun i wr => ∃ k : Nat, k ≤ n ∧ i = .int .i64 k ∧ xs.take k = ys.take k ∧ Below w.heap.size w wr) (fun i _ => n - (intOf i).toNat)
    case atStart => exact ⟨0, Nat.zero_le _, rfl, rfl, ext_refl w⟩
    case round =>
      obtain ⟨k, hk, rfl, hpre, hb⟩ := hrel
      have HP := hid hpre
      clear hpre
      by_cases hlt : k < n
      · obtain ⟨b, off, rfl, _, _, hbs, hcell⟩ := hat (by omega)
        obtain ⟨b', off', rfl, _, _, hbs', hcell'⟩ := hat' (by omega)
        have hkx : k < xs.length := by rw [H1.out]; exact hlt
        have hky : k < ys.length := by rw [H2.out]; exact hlt
        have c1 : wr.cell? ⟨b, off + k, none⟩ = some (sv xs[k]) := (hb.cell (by exact hbs)).trans (hcell k _ (by simp [hkx]))
        have c2 : wr.cell? ⟨b', off' + k, none⟩ = some (sv ys[k]) := (hb.cell (by exact hbs')).trans (hcell' k _ (by simp [hky]))
        clear hcell hcell' hat hat'
        unfold sv at c1 c2
        by_cases e : xs[k] = ys[k]
        · have e1 : (xs[k].toList == ys[k].toList) = true := by simp [e]
          go_wp2
          go_quiet (fail)
          go_wp2
          go_roundw
          case rel => exact ⟨k + 1, by omega, by go_num, take_step HP.out hkx hky e, ext_trans hb (ext_drewN _ _)⟩
          case measure => simp [intOf]; omega
        · have e1 : (xs[k].toList == ys[k].toList) = false := by simp [str_eq, e]
          go_wp2
          go_quiet (fail)
          go_wp2
          go_ret
          exact gives_bool (by rw [decide_eq_false (take_ne hkx hky e)]) (ext_trans hb (ext_drewN _ _))
      · go_wp2
        go_ret
        exact gives_bool (by rw [decide_eq_true (take_all HP.out (by rw [H1.out]; omega) (by rw [H2.out]; omega))]) hb
  · have hne : (((n : Int)) != (m : Int)) = true := by simp; omega
    go_enter Tryd.func86, Tryd.ntmps86
    go_wp2
    go_ret
    exact gives_bool (by rw [decide_eq_false (by intro e; subst e; omega)]) (ext_refl _)

theorem sameTexts_c {w : World} {lo hi lo' hi' n m : Nat} {v v' : Value} {xs ys : List ByteArray} (h : Rd w lo hi 1 v n (xs.map sv)) (h' : Rd w lo' hi' 1 v' m (ys.map sv)) :
    Calls Tryd.prog 30 #[v, v'] w (Gives w fun r _ => r = .bool (decide (xs = ys))) := by
  obtain ⟨hl, a, cap, rfl, hc, hm, hat⟩ := h
  obtain ⟨hl', a', cap', rfl, hc', hm', hat'⟩ := h'
  simp only [List.length_map, Nat.mul_one] at hl hl'
  by_cases hnm : n = m
  · subst hnm
    have H1 := hid hl
    have H2 := hid hl'
    clear hl hl'
    go_enter Tryd.func30, Tryd.ntmps30
    go_wp2
    go_loopw [5] (fun i wr => ∃ k : Nat, k ≤ n ∧ i = .int .i64 k ∧ xs.take k = ys.take k ∧ Below w.heap.size w wr) (fun i _ => n - (intOf i).toNat)
    case atStart => exact ⟨0, Nat.zero_le _, rfl, rfl, ext_refl w⟩
    case round =>
      obtain ⟨k, hk, rfl, hpre, hb⟩ := hrel
      have HP := hid hpre
      clear hpre
      by_cases hlt : k < n
      · obtain ⟨b, off, rfl, _, _, hbs, hcell⟩ := hat (by omega)
        obtain ⟨b', off', rfl, _, _, hbs', hcell'⟩ := hat' (by omega)
        have hkx : k < xs.length := by rw [H1.out]; exact hlt
        have hky : k < ys.length := by rw [H2.out]; exact hlt
        have c1 : wr.cell? ⟨b, off + k, none⟩ = some (sv xs[k]) := (hb.cell (by exact hbs)).trans (hcell k _ (by simp [hkx]))
        have c2 : wr.cell? ⟨b', off' + k, none⟩ = some (sv ys[k]) := (hb.cell (by exact hbs')).trans (hcell' k _ (by simp [hky]))
        clear hcell hcell' hat hat'
        unfold sv at c1 c2
        by_cases e : xs[k] = ys[k]
        · have e1 : (xs[k].toList == ys[k].toList) = true := by simp [e]
          go_wp2
          go_quiet (fail)
          go_wp2
          go_roundw
          case rel => exact ⟨k + 1, by omega, by go_num, take_step HP.out hkx hky e, ext_trans hb (ext_drewN _ _)⟩
          case measure => simp [intOf]; omega
        · have e1 : (xs[k].toList == ys[k].toList) = false := by simp [str_eq, e]
          go_wp2
          go_quiet (fail)
          go_wp2
          go_ret
          exact gives_bool (by rw [decide_eq_false (take_ne hkx hky e)]) (ext_trans hb (ext_drewN _ _))
      · go_wp2
        go_ret
        exact gives_bool (by rw [decide_eq_true (take_all HP.out (by rw [H1.out]; omega) (by rw [H2.out]; omega))]) hb
  · have hne : (((n : Int)) != (m : Int)) = true := by simp; omega
    go_enter Tryd.func30, Tryd.ntmps30
    go_wp2
    go_ret
    exact gives_bool (by rw [decide_eq_false (by intro e; subst e; omega)]) (ext_refl _)

theorem cloneString_c {w : World} {lo hi n : Nat} {v : Value} {xs : List ByteArray} (h : Rd w lo hi 1 v n (xs.map sv)) (hn : n ≤ 8796093022208) :
    Calls Tryd.prog 79 #[v] w (Gives w fun r w' => Own w' w.heap.size w'.heap.size 9 1 r n (xs.map sv)) := by
  obtain ⟨i0, hi0, hz0, hz1, hz2⟩ := info_parts info_string
  obtain ⟨a, cap, rfl, hm⟩ := h.form
  have k1 := Lib.run_eql_slice_nil (P := Tryd.prog) w 22 9 a n cap 0 0 Tryd.underlying22
  cases a with
  | none =>
    have hn0 : n = 0 := by
      obtain ⟨_, a, c', he, _, _, hat⟩ := h
      rcases Nat.eq_zero_or_pos n with h0 | h0
      · exact h0
      · obtain ⟨b, off, ha, _⟩ := hat h0
        rw [ha] at he; cases he
    subst hn0
    have hx : xs = [] := by have := h.1; simpa using this
    subst hx
    clear h
    go_enter Tryd.func79, Tryd.ntmps79
    go_wp2
    go_ret
    exact gives_of (.slice none 0 0) (Own.none_ _ _ _ _ _ _) (ext_refl _)
  | some ad =>
    have h' := h.ext (ext_alloc (ext_refl w) (.cells #[] 9))
    have o0 := Own.new w #[] 9 1 0 (by decide) rfl
    clear h
    go_enter Tryd.func79, Tryd.ntmps79
    go_wp2_with (at_builtin; refine wpList_append_Own rfl _ _ 22 rfl 9 i0 (.string ByteArray.empty) 1 16 Tryd.underlying22 hi0 hz0 hz1 hz2 rfl (by decide) rfl o0 rfl h' (sv_one xs) (by omega) (by omega) (by simp) ?_)
    intro v' w' ho hmu
    have x := Mut.ext (ext_alloc (ext_refl w) (.cells #[] 9)) hmu (Nat.le_refl _)
    clear hmu o0 h' hi0 hz0 hz1 hz2
    go_wp2
    go_ret
    exact gives_of _ (by simpa using ho) x
end Go.Proofs.YtoehjfcadhgpbaaDoor
