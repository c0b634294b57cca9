/- Bindings (structs of two strings) and slices of them: what the laws' helpers do, and BindingValue of both sides. A slice of n bindings reads as a list of 2 n strings. Condition: the values read as strings of a size that fits. -/
import Derived.Test.YtoehjfcadhgpbaaDoorName
import Derived.Deep.RegionHeld3
set_option linter.unusedVariables false
namespace Go.Proofs.YtoehjfcadhgpbaaDoor
open Go.RowKit
theorem info_binding : (Tryd.prog.info? 74).map (fun i => (i.zero, i.size, i.bytes)) = some (some (.agg #[.string ByteArray.empty, .string ByteArray.empty]), 2, 32) := by kernel_rfl
/-- How much n bindings weigh: n and the size of each string. -/
def bwP (n : Nat) (ss : List ByteArray) (j : Nat) : Nat := n + ((ss.take j).map fun s => s.size).sum
def bw (n : Nat) (ss : List ByteArray) : Nat := bwP n ss ss.length
theorem bwP_step (n : Nat) (ss : List ByteArray) (j : Nat) (h : j < ss.length) : bwP n ss (j + 1) = bwP n ss j + ss[j].size := by
  unfold bwP; rw [List.take_succ_eq_append_getElem h]; simp only [List.map_append, List.sum_append, List.map_cons, List.map_nil, List.sum_cons, List.sum_nil]; omega
theorem bwP_two (n : Nat) (ss : List ByteArray) (k : Nat) (h : k * 2 + 1 < ss.length) : bwP n ss ((k + 1) * 2) = bwP n ss (k * 2) + (ss[k * 2].size + ss[k * 2 + 1].size) := by
  rw [show (k + 1) * 2 = k * 2 + 1 + 1 by omega, bwP_step n ss (k * 2 + 1) h, bwP_step n ss (k * 2) (by omega)]; omega
theorem bwP_le (n : Nat) (ss : List ByteArray) (k : Nat) : bwP n ss k ≤ bw n ss := by
  unfold bw bwP
  rw [List.take_length]
  have e := congrArg (fun l : List ByteArray => (l.map fun s => s.size).sum) (List.take_append_drop k ss)
  simp only [List.map_append, List.sum_append] at e
  omega
theorem bw_len (n : Nat) (ss : List ByteArray) : n ≤ bw n ss := by have := bwP_le n ss 0; unfold bwP at this; omega
theorem pair_at {w : World} {b off n k : Nat} {ss : List ByteArray} (hcell : ∀ j u, (ss.map sv)[j]? = some u → w.cell? ⟨b, off + j, none⟩ = some u) (hk : k * 2 + 1 < ss.length) :
    w.cell? ⟨b, off + k * 2, none⟩ = some (.string ss[k * 2]) ∧ w.cell? ⟨b, off + k * 2 + 1, none⟩ = some (.string ss[k * 2 + 1]) :=
  ⟨hcell (k * 2) _ (by simp [sv, show k * 2 < ss.length by omega]), by rw [Nat.add_assoc]; exact hcell (k * 2 + 1) _ (by simp [sv, hk])⟩
/-- The place of the first binding of a letter, from place k on; -1 if none is. -/
def bi : List ByteArray → ByteArray → Int → Int
  | a :: _ :: r, key, k => if a = key then k else bi r key (k + 1)
  | _, _, _ => -1
theorem bi_step {ss : List ByteArray} {key : ByteArray} {k : Nat} (h : k * 2 + 1 < ss.length) : bi (ss.drop (k * 2)) key k = if ss[k * 2] = key then (k : Int) else bi (ss.drop ((k + 1) * 2)) key ((k + 1 : Nat) : Int) := by
  rw [List.drop_eq_getElem_cons (show k * 2 < ss.length by omega), List.drop_eq_getElem_cons h, bi, show (k + 1) * 2 = k * 2 + 1 + 1 by omega]
  rfl
theorem bi_end {ss : List ByteArray} {key : ByteArray} {k : Nat} (h : ss.length ≤ k * 2) : bi (ss.drop (k * 2)) key k = -1 := by
  rw [List.drop_eq_nil_of_le h, bi]
  simp
/-- The value of the first binding of a letter. -/
def bval (ss : List ByteArray) (key : ByteArray) : ByteArray := if bi ss key 0 < 0 then ByteArray.empty else (ss[(bi ss key 0).toNat * 2 + 1]?).getD ByteArray.empty
theorem bval_at {ss : List ByteArray} {key : ByteArray} {k : Nat} (h : bi ss key 0 = (k : Int)) (hk : k * 2 + 1 < ss.length) : bval ss key = ss[k * 2 + 1] := by
  unfold bval
  rw [h, if_neg (by omega), Int.toNat_natCast, List.getElem?_eq_getElem hk]
  rfl
theorem bval_no {ss : List ByteArray} {key : ByteArray} (h : bi ss key 0 = -1) : bval ss key = ByteArray.empty := by
  unfold bval
  rw [h, if_pos (by omega)]
theorem ba_empty : (⟨#[]⟩ : ByteArray) = ByteArray.empty := rfl
set_option maxHeartbeats 1000000 in
theorem l5Find_c {w : World} {lo hi n : Nat} {v : Value} {ss : List ByteArray} {key : ByteArray} (h : Rd w lo hi 2 v n (ss.map sv)) :
    Calls Tryd.prog 69 #[v, .string key] w (Gives w fun r _ => ∃ j : Int, r = .int .i64 j ∧ Hid (bi ss key 0 = j) ∧ (j = -1 ∨ 0 ≤ j ∧ j < n)) := by
  obtain ⟨hl, a, cap, rfl, hc, hm, hat⟩ := h
  rw [List.length_map] at hl
  have H1 := hid hl
  clear hl
  go_enter Tryd.func69, Tryd.ntmps69
  go_wp2
  go_loop [5] (fun i => ∃ k : Nat, k ≤ n ∧ i = .int .i64 k ∧ Hid (bi ss key 0 = bi (ss.drop (k * 2)) key k)) (fun i => n - (intOf i).toNat)
  case atStart => exact ⟨0, Nat.zero_le _, rfl, hid (by simp)⟩
  case round =>
    obtain ⟨k, hk, rfl, HP⟩ := hrel
    by_cases hlt : k < n
    · obtain ⟨b, off, rfl, _, _, hbs, hcell⟩ := hat (by omega)
      have hkx : k * 2 + 1 < ss.length := by rw [H1.out]; omega
      obtain ⟨c1, c2⟩ := pair_at (n := n) hcell hkx
      have HS := hid (bi_step (key := key) hkx)
      clear hcell hat
      generalize ss[k * 2] = s1 at *
      by_cases g : s1 = key
      · have e1 : (s1.toList == key.toList) = true := by simp [g]
        have HV := hid (show bi ss key 0 = k by rw [HP.out, HS.out, if_pos g])
        clear g HS
        go_wp2
        go_ret
        exact gives_of _ ⟨_, rfl, HV, Or.inr ⟨by omega, by omega⟩⟩ (ext_refl _)
      · have e1 : (s1.toList == key.toList) = false := by simp [str_eq, g]
        have HV := hid (show bi ss key 0 = bi (ss.drop ((k + 1) * 2)) key ((k + 1 : Nat) : Int) by rw [HP.out, HS.out, if_neg g])
        clear g HS
        go_wp2
        go_round
        case rel => exact ⟨k + 1, by omega, by go_num, HV⟩
        case measure => simp [intOf]; omega
    · have HV := hid (show bi ss key 0 = -1 by rw [HP.out, bi_end (by rw [H1.out]; omega)])
      go_wp2
      go_ret
      exact gives_of _ ⟨_, rfl, HV, Or.inl rfl⟩ (ext_refl _)
set_option maxHeartbeats 1000000 in
theorem specBindingValue_c {w : World} {lo hi n : Nat} {v : Value} {ss : List ByteArray} {key : ByteArray} (h : Rd w lo hi 2 v n (ss.map sv)) :
    Calls Tryd.prog 33 #[v, .string key] w (Gives w fun r _ => r = .string (bval ss key)) := by
  have C := hid (l5Find_c (key := key) h)
  obtain ⟨hl, a, cap, rfl, hc, hm, hat⟩ := h
  rw [List.length_map] at hl
  have H1 := hid hl
  clear hl
  go_enter Tryd.func33, Tryd.ntmps33
  go_wp2_with fail
  refine C.out.mono ?_
  rintro e w1 ⟨_, rfl, ⟨j, rfl, HJ, hj⟩, y1⟩
  clear C
  rcases hj with rfl | ⟨hj0, hj1⟩
  · have HV := hid (bval_no HJ.out)
    go_wp2
    go_ret
    exact gives_string (by rw [HV.out]; rfl) y1
  · obtain ⟨k, rfl⟩ := Int.eq_ofNat_of_zero_le hj0
    have hlt : k < n := by omega
    obtain ⟨b, off, rfl, _, _, hbs, hcell⟩ := hat (by omega)
    have hkx : k * 2 + 1 < ss.length := by rw [H1.out]; omega
    have HV := hid (bval_at HJ.out hkx)
    obtain ⟨c1, c2⟩ := pair_at (n := n) hcell hkx
    replace c2 := (y1.cell (by exact hbs)).trans c2
    have hn : decide ((k : Int) < 0) = false := decide_eq_false (by omega)
    clear hcell hat c1 HJ
    generalize ss[k * 2 + 1] = t at *
    go_wp2
    go_ret
    exact gives_string HV.out.symm y1
set_option maxHeartbeats 1000000 in
theorem implBindingValue_c {w : World} {lo hi n : Nat} {v : Value} {ss : List ByteArray} {key : ByteArray} (h : Rd w lo hi 2 v n (ss.map sv)) :
    Calls Tryd.prog 32 #[v, .string key] w (Gives w fun r _ => r = .string (bval ss key)) := by
  obtain ⟨hl, a, cap, rfl, hc, hm, hat⟩ := h
  rw [List.length_map] at hl
  have H1 := hid hl
  clear hl
  go_enter Tryd.func32, Tryd.ntmps32
  go_wp2
  go_loopw [9] (fun i wr => ∃ k : Nat, k ≤ n ∧ i = .int .i64 k ∧ Hid (bi ss key 0 = bi (ss.drop (k * 2)) key k) ∧ Below w.heap.size w wr) (fun i _ => n - (intOf i).toNat)
  case atStart => exact ⟨0, Nat.zero_le _, rfl, hid (by simp), ext_refl _⟩
  case round =>
    obtain ⟨k, hk, rfl, HP, hb⟩ := hrel
    by_cases hlt : k < n
    · obtain ⟨b, off, rfl, _, _, hbs, hcell⟩ := hat (by omega)
      have hkx : k * 2 + 1 < ss.length := by rw [H1.out]; omega
      obtain ⟨c1, c2⟩ := pair_at (n := n) hcell hkx
      replace c1 := (hb.cell (by exact hbs)).trans c1
      replace c2 := (hb.cell (by exact hbs)).trans c2
      have HS := hid (bi_step (key := key) hkx)
      have HB := hid (fun h => bval_at (ss := ss) (key := key) (k := k) h hkx)
      clear hcell hat
      generalize ss[k * 2] = s1 at *
      generalize ss[k * 2 + 1] = s2 at *
      have x2 := ext_alloc hb (.cells #[.string s1, .string s2] 74)
      by_cases g : s1 = key
      · have e1 : (s1.toList == key.toList) = true := by simp [g]
        have HV := hid (HB.out (show bi ss key 0 = k by rw [HP.out, HS.out, if_pos g]))
        clear g HS HB
        go_wp2
        go_ret
        exact gives_string HV.out.symm x2
      · have e1 : (s1.toList == key.toList) = false := by simp [str_eq, g]
        have HV := hid (show bi ss key 0 = bi (ss.drop ((k + 1) * 2)) key ((k + 1 : Nat) : Int) by rw [HP.out, HS.out, if_neg g])
        clear g HS HB
        go_wp2
        go_roundw
        case rel => exact ⟨k + 1, by omega, by go_num, HV, x2⟩
        case measure => simp [intOf]; omega
    · have HV := hid (bval_no (show bi ss key 0 = -1 by rw [HP.out, bi_end (by rw [H1.out]; omega)]))
      go_wp2
      go_ret
      exact gives_string (by rw [HV.out]; rfl) hb
end Go.Proofs.YtoehjfcadhgpbaaDoor
