/- Mod and Digest of the program and of the reference. Mod: the remainder that is not below zero. Condition: the modulus is from 1 to 10^12. -/
import Derived.Test.YtiikpkkpacjamaaRows
import Derived.Test.YtiikpkkpacjamaaBase
namespace Go.Proofs.Ytiikpkkpacjamaa
open Go.RowKit
def iv (z : Int) : Value := .int .i64 z
theorem iv_one (xs : List Int) : ∀ u ∈ xs.map iv, u.oneCell' = true := by
  intro u hu; obtain ⟨_, _, rfl⟩ := List.mem_map.1 hu; rfl
/-- Each number is an int. -/
def InI (l : List Int) : Prop := ∀ z ∈ l, -9223372036854775808 ≤ z ∧ z ≤ 9223372036854775807
theorem tmod_up (x m : Int) : (x.tmod m + m) % m = x % m := by
  rw [Int.add_emod_right, Int.tmod_def, Int.sub_mul_emod_self_left]
theorem ret_int {k : IntKind} {a b : Int} (h : a = b) : Ending.returned (.int k a) = .returned (.int k b) := by rw [h]
theorem specMod_c {x m : Int} {w : World} (h1 : 1 ≤ m) (h2 : m ≤ 1000000000000) :
    Calls Try.prog 71 #[.int .i64 x, .int .i64 m] w fun e w' => e = .returned (.int .i64 (x % m)) ∧ w = w' := by
  have b1 := Int.tmod_lt_of_pos x (show 0 < m by omega)
  have b2 : -m < x.tmod m := by have := Int.lt_tmod_of_pos x (show 0 < m by omega); omega
  have H := hid (tmod_up x m)
  go_enter Try.func71, Try.ntmps71
  go_wp2
  go_ret
  exact ⟨ret_int H.out, rfl⟩
theorem implMod_c {x m : Int} {w : World} (h1 : 1 ≤ m) (h2 : m ≤ 1000000000000) :
    Calls Try.prog 52 #[.int .i64 x, .int .i64 m] w fun e w' => e = .returned (.int .i64 (x % m)) ∧ w = w' := by
  have b1 := Int.tmod_lt_of_pos x (show 0 < m by omega)
  have b2 : -m < x.tmod m := by have := Int.lt_tmod_of_pos x (show 0 < m by omega); omega
  have H := hid (tmod_up x m)
  go_enter Try.func52, Try.ntmps52
  go_wp2
  go_ret
  exact ⟨ret_int H.out, rfl⟩

/-! ### Between two bounds -/
theorem specIn_c {x a b : Int} {w : World} (r : Bool) (h : decide (a ≤ x ∧ x ≤ b) = r) :
    Calls Try.prog 63 #[.int .i64 x, .int .i64 a, .int .i64 b] w fun e w' => e = .returned (.bool r) ∧ w = w' := by
  by_cases h1 : a ≤ x
  · by_cases h2 : x ≤ b
    · have hr : r = true := by rw [← h]; exact decide_eq_true ⟨h1, h2⟩
      subst hr
      clear h
      go_enter Try.func63, Try.ntmps63
      go_wp2
      go_ret
      exact ⟨rfl, rfl⟩
    · have hr : r = false := by rw [← h]; exact decide_eq_false fun k => h2 k.2
      subst hr
      clear h
      have h3 : decide (x ≤ b) = false := decide_eq_false h2
      go_enter Try.func63, Try.ntmps63
      go_wp2
      go_ret
      exact ⟨rfl, rfl⟩
  · have hr : r = false := by rw [← h]; exact decide_eq_false fun k => h1 k.1
    subst hr
    clear h
    have h3 : decide (a ≤ x) = false := decide_eq_false h1
    go_enter Try.func63, Try.ntmps63
    go_wp2
    go_ret
    exact ⟨rfl, rfl⟩
theorem implIn_c {x a b : Int} {w : World} (r : Bool) (h : decide (a ≤ x ∧ x ≤ b) = r) :
    Calls Try.prog 58 #[.int .i64 x, .int .i64 a, .int .i64 b] w fun e w' => e = .returned (.bool r) ∧ w = w' := by
  by_cases h1 : a ≤ x
  · by_cases h2 : x ≤ b
    · have hr : r = true := by rw [← h]; exact decide_eq_true ⟨h1, h2⟩
      subst hr
      clear h
      go_enter Try.func58, Try.ntmps58
      go_wp2
      go_ret
      exact ⟨rfl, rfl⟩
    · have hr : r = false := by rw [← h]; exact decide_eq_false fun k => h2 k.2
      subst hr
      clear h
      have h3 : decide (x ≤ b) = false := decide_eq_false h2
      go_enter Try.func58, Try.ntmps58
      go_wp2
      go_ret
      exact ⟨rfl, rfl⟩
  · have hr : r = false := by rw [← h]; exact decide_eq_false fun k => h1 k.1
    subst hr
    clear h
    have h3 : decide (a ≤ x) = false := decide_eq_false h1
    go_enter Try.func58, Try.ntmps58
    go_wp2
    go_ret
    exact ⟨rfl, rfl⟩

/-! ### Digest -/
def dgStep (d x : Int) : Int := (d * 1000003 + x % 2147483647 + 13) % 2147483647
def dg (l : List Int) : Int := l.foldl dgStep 11
theorem dgStep_bd (d x : Int) : 0 ≤ dgStep d x ∧ dgStep d x < 2147483647 := by unfold dgStep; omega
theorem dg_bd (l : List Int) : 0 ≤ dg l ∧ dg l < 2147483647 := by
  unfold dg
  rcases List.eq_nil_or_concat l with rfl | ⟨l', x, rfl⟩
  · decide
  · rw [List.concat_eq_append, List.foldl_append]; exact dgStep_bd _ _
theorem dg_take (l : List Int) (k : Nat) (h : k < l.length) : dg (l.take (k + 1)) = dgStep (dg (l.take k)) l[k] := by
  unfold dg
  rw [List.take_succ_eq_append_getElem h, List.foldl_append]; rfl
theorem specDigest_c {w : World} {lo hi n : Nat} {v : Value} {xs : List Int} (h : Rd w lo hi 1 v n (xs.map iv)) :
    Calls Try.prog 39 #[v] w (Gives w fun r _ => r = .int .i64 (dg xs)) := by
  obtain ⟨hl, a, cap, rfl, hc, hm, hat⟩ := h
  rw [List.length_map, Nat.mul_one] at hl
  have H0 := hid hl
  clear hl
  go_enter Try.func39, Try.ntmps39
  go_wp2
  go_loop [3, 4] (fun d i => ∃ k : Nat, k ≤ n ∧ i = .int .i64 k ∧ d = .int .i64 (dg (xs.take k))) (fun _ i => n - (intOf i).toNat)
  case atStart => exact ⟨0, Nat.zero_le _, rfl, rfl⟩
  case round =>
    obtain ⟨k, hk, rfl, rfl⟩ := hrel
    by_cases hlt : k < n
    · obtain ⟨b, off, rfl, _, _, hbs, hcell⟩ := hat (by omega)
      have hkx : k < xs.length := by rw [H0.out]; exact hlt
      have c1 : w.cell? ⟨b, off + k, none⟩ = some (.int .i64 xs[k]) := hcell k _ (by simp [hkx, iv])
      have hd := dg_bd (xs.take k)
      obtain ⟨hd1, hd2⟩ := hd
      have hs := hid (dg_take xs k hkx)
      clear hcell hat
      generalize xs[k] = x at c1 hs
      generalize dg (xs.take k) = d at hd1 hd2 hs ⊢
      generalize hz : dg (xs.take (k + 1)) = d' at hs
      have HZ := hid hz
      clear hz
      go_wp2_with (go_at_call 71; refine (specMod_c (by omega) (by omega)).mono ?_; rintro e w' ⟨rfl, rfl⟩)
      go_round
      case rel => exact ⟨k + 1, by omega, by go_num, by rw [HZ.out, hs.out]; rfl⟩
      case measure => simp [intOf]; omega
    · go_wp2
      go_ret
      exact gives_int (by rw [List.take_of_length_le (by rw [H0.out]; omega)]) (ext_refl _)
theorem implDigest_c {w : World} {lo hi n : Nat} {v : Value} {xs : List Int} (h : Rd w lo hi 1 v n (xs.map iv)) :
    Calls Try.prog 38 #[v] w (Gives w fun r _ => r = .int .i64 (dg xs)) := by
  obtain ⟨hl, a, cap, rfl, hc, hm, hat⟩ := h
  rw [List.length_map, Nat.mul_one] at hl
  have H0 := hid hl
  clear hl
  go_enter Try.func38, Try.ntmps38
  go_wp2
  go_loop [3, 8] (fun d i => ∃ k : Nat, k ≤ n ∧ i = .int .i64 k ∧ d = .int .i64 (dg (xs.take k))) (fun _ i => n - (intOf i).toNat)
  case atStart => exact ⟨0, Nat.zero_le _, rfl, rfl⟩
  case round =>
    obtain ⟨k, hk, rfl, rfl⟩ := hrel
    by_cases hlt : k < n
    · obtain ⟨b, off, rfl, _, _, hbs, hcell⟩ := hat (by omega)
      have hkx : k < xs.length := by rw [H0.out]; exact hlt
      have c1 : w.cell? ⟨b, off + k, none⟩ = some (.int .i64 xs[k]) := hcell k _ (by simp [hkx, iv])
      have hd := dg_bd (xs.take k)
      obtain ⟨hd1, hd2⟩ := hd
      have hs := hid (dg_take xs k hkx)
      clear hcell hat
      generalize xs[k] = x at c1 hs
      generalize dg (xs.take k) = d at hd1 hd2 hs ⊢
      generalize hz : dg (xs.take (k + 1)) = d' at hs
      have HZ := hid hz
      clear hz
      go_wp2_with (go_at_call 52; refine (implMod_c (by omega) (by omega)).mono ?_; rintro e w' ⟨rfl, rfl⟩)
      go_round
      case rel => exact ⟨k + 1, by omega, by go_num, by rw [HZ.out, hs.out]; rfl⟩
      case measure => simp [intOf]; omega
    · go_wp2
      go_ret
      exact gives_int (by rw [List.take_of_length_le (by rw [H0.out]; omega)]) (ext_refl _)
end Go.Proofs.Ytiikpkkpacjamaa
