/- ReadVarint of the program and of the reference: both read a number of at most six bytes, seven bits a byte. Condition: the slice reads as bytes. -/
import Derived.Test.YtiikpkkpacjamaaBytesS
namespace Go.Proofs.Ytiikpkkpacjamaa
open Go.RowKit
/-- A number read from bytes, seven bits a byte, from place k on, acc read so far; f more bytes may be read. -/
def rvGo : Nat → Nat → Nat → List UInt8 → Option (Nat × Nat)
  | 0, _, _, _ => none
  | _ + 1, _, _, [] => none
  | f + 1, k, acc, c :: cs =>
    if c.toNat < 128 then if c.toNat = 0 ∧ 0 < k ∨ 1000000000000 < acc + c.toNat % 128 * 128 ^ k then none else some (acc + c.toNat % 128 * 128 ^ k, k + 1)
    else rvGo f (k + 1) (acc + c.toNat % 128 * 128 ^ k) cs
def rv (xs : List UInt8) (at_ : Int) : Option (Nat × Nat) := if at_ < 0 then none else rvGo 6 0 0 (xs.drop at_.toNat)
def rvVal (at_ : Int) : Option (Nat × Nat) → Value
  | none => .tuple #[.int .i64 0, .int .i64 0, .bool false]
  | some (n, c) => .tuple #[.int .i64 n, .int .i64 (at_ + c), .bool true]

theorem and127 (c : Nat) (h : c < 256) : bits .and .i64 (c : Int) 127 = ((c % 128 : Nat) : Int) := by
  have : ∀ d : Fin 256, bits .and .i64 ((d.val : Nat) : Int) 127 = ((d.val % 128 : Nat) : Int) := by decide +kernel
  exact this ⟨c, h⟩
theorem ofInt64 (a : Nat) (ha : a < 9223372036854775808) : (BitVec.ofInt 64 (a : Int)).toNat = a := by
  rw [BitVec.ofInt_natCast, BitVec.toNat_ofNat]; exact Nat.mod_eq_of_lt (by omega)
theorem or_shift (acc m k : Nat) (hk : k ≤ 5) (hm : m < 128) (ha : acc < 128 ^ k) : bits .or .i64 (acc : Int) ((m * 128 ^ k : Nat) : Int) = ((acc + m * 128 ^ k : Nat) : Int) := by
  have e : (128 : Nat) ^ k = 2 ^ (7 * k) := by rw [show (128 : Nat) = 2 ^ 7 by decide, ← Nat.pow_mul]
  have hk2 : (128 : Nat) ^ k ≤ 128 ^ 5 := Nat.pow_le_pow_right (by omega) hk
  have hp : m * 128 ^ k ≤ 127 * 128 ^ 5 := Nat.mul_le_mul (by omega) hk2
  have h1 : acc ||| m * 128 ^ k = acc + m * 128 ^ k := by
    rw [Nat.or_comm, Nat.mul_comm, e, ← Nat.two_pow_add_eq_or_of_lt (by rw [← e]; exact ha)]
    omega
  show IntKind.i64.wrap ((BitVec.ofInt 64 (acc : Int) ||| BitVec.ofInt 64 ((m * 128 ^ k : Nat) : Int)).toNat : Int) = _
  have hb : (128 : Nat) ^ 5 = 34359738368 := by decide
  rw [hb] at hk2 hp
  rw [BitVec.toNat_or, ofInt64 _ (by omega), ofInt64 _ (by omega), h1, IntKind.wrap_i64]
  omega
theorem shl7 (m k : Nat) (hk : k ≤ 5) (hm : m < 128) : wrap64 ((m : Int) * 2 ^ (7 * k)) = ((m * 128 ^ k : Nat) : Int) := by
  have e : ((2 : Int) ^ (7 * k)) = ((128 ^ k : Nat) : Int) := by
    rw [show (128 : Nat) = 2 ^ 7 by decide, ← Nat.pow_mul]; simp
  have hk2 : (128 : Nat) ^ k ≤ 128 ^ 5 := Nat.pow_le_pow_right (by omega) hk
  have hp : m * 128 ^ k ≤ 127 * 128 ^ 5 := Nat.mul_le_mul (by omega) hk2
  have hb : (128 : Nat) ^ 5 = 34359738368 := by decide
  rw [hb] at hp
  rw [e, ← Int.natCast_mul]
  generalize m * 128 ^ k = q at hp
  exact IntWalk.wrap64_in _ (by omega)
theorem pow_step (acc m k : Nat) (hm : m < 128) (ha : acc < 128 ^ k) : acc + m * 128 ^ k < 128 ^ (k + 1) := by
  have : m * 128 ^ k ≤ 127 * 128 ^ k := Nat.mul_le_mul_right _ (by omega)
  rw [Nat.pow_succ]; omega
theorem rvGo_end (f k acc : Nat) : rvGo f k acc [] = none := by cases f <;> rfl
theorem drop_cons {α : Type} (xs : List α) (j : Nat) (h : j < xs.length) : xs.drop j = xs[j] :: xs.drop (j + 1) := List.drop_eq_getElem_cons h

set_option maxRecDepth 100000 in
set_option maxHeartbeats 1000000 in
theorem specReadVarint_c {w : World} {lo hi n : Nat} {v : Value} {xs : List UInt8} (h : Rd w lo hi 1 v n (xs.map bv)) {at_ : Int} :
    Calls Try.prog 11 #[v, .int .i64 at_] w (Gives w fun r _ => r = rvVal at_ (rv xs at_)) := by
  obtain ⟨hl, a, cap, rfl, hc, hm, hat⟩ := h
  rw [List.length_map, Nat.mul_one] at hl
  have H0 := hid hl
  clear hl
  by_cases h0 : at_ < 0
  · go_enter Try.func11, Try.ntmps11
    go_wp2
    go_loop [7, 8] (fun m i => m = .int .i64 0 ∧ i = .int .i64 0) (fun _ _ => 0)
    case atStart => exact ⟨rfl, rfl⟩
    case round =>
      obtain ⟨rfl, rfl⟩ := hrel
      go_wp2
      go_ret3
      exact gives_of _ (by simp [rv, h0, rvVal]) (ext_refl _)
  · obtain ⟨p, rfl⟩ := Int.eq_ofNat_of_zero_le (show 0 ≤ at_ by omega)
    clear h0
    by_cases hpn : p < n
    · go_enter Try.func11, Try.ntmps11
      go_wp2
      go_loop [7, 8] (fun m i => ∃ k acc : Nat, k ≤ 6 ∧ p + k ≤ n ∧ i = .int .i64 k ∧ m = .int .i64 acc ∧ Hid (acc < 128 ^ k) ∧ Hid (rv xs p = rvGo (6 - k) k acc (xs.drop (p + k)))) (fun _ i => 6 - (intOf i).toNat)
      case atStart => exact ⟨0, 0, by omega, by omega, rfl, rfl, by show 0 < 128 ^ 0; decide, by show rv xs (p : Int) = _; unfold rv; rw [if_neg (by omega)]; rfl⟩
      case round =>
        obtain ⟨k, acc, hk, hpk, rfl, rfl, HA, HR⟩ := hrel
        by_cases hk6 : k < 6
        · by_cases hp : p + k < n
          · obtain ⟨b, off, rfl, _, _, hbs, hcell⟩ := hat (by omega)
            have hkx : p + k < xs.length := by rw [H0.out]; exact hp
            have c1 : w.cell? ⟨b, off + (p + k), none⟩ = some (.int .u8 (xs[p + k].toNat : Int)) := hcell (p + k) _ (by simp [hkx, bv])
            have hcb : xs[p + k].toNat < 256 := UInt8.toNat_lt _
            have HD : Hid (rv xs p = rvGo (6 - k) k acc (xs[p + k] :: xs.drop (p + k + 1))) := by rw [Hid, HR.out, ← drop_cons xs (p + k) hkx]
            have HE : Hid (∀ f, 6 - k = f + 1 → rv xs p = if xs[p + k].toNat < 128 then if xs[p + k].toNat = 0 ∧ 0 < k ∨ 1000000000000 < acc + xs[p + k].toNat % 128 * 128 ^ k then none else some (acc + xs[p + k].toNat % 128 * 128 ^ k, k + 1) else rvGo f (k + 1) (acc + xs[p + k].toNat % 128 * 128 ^ k) (xs.drop (p + k + 1))) := by
              intro f hf
              rw [HD.out, hf]; rfl
            clear hcell hat HR HD
            generalize xs[p + k].toNat = c at c1 hcb HE
            have r1 := and127 c hcb
            have hmm : c % 128 < 128 := Nat.mod_lt _ (by omega)
            have r2 := shl7 (c % 128) k (by omega) hmm
            have r3 := or_shift acc (c % 128) k (by omega) hmm HA.out
            have HP := hid (pow_step acc (c % 128) k hmm HA.out)
            have HE2 := hid (HE.out (5 - k) (by omega))
            clear HE
            by_cases hc : c < 128
            · by_cases hz : c = 0
              · by_cases hk0 : k = 0
                · have hz1 : ((c : Int) == 0) = true := by simp; exact hz
                  have hkk : decide (0 < k) = false := by simp; exact hk0
                  have HV : Hid (acc + c % 128 * 128 ^ k = 0) := by show acc + c % 128 * 128 ^ k = 0; have := HA.out; subst hk0; subst hz; simpa using this
                  have HZ := hid hz
                  have HK := hid hk0
                  clear hz hk0
                  generalize c % 128 = m7 at r1 r2 r3 HE2 HP HV
                  generalize m7 * 128 ^ k = y at r2 r3 HE2 HP HV
                  generalize acc + y = s at r3 HE2 HP HV
                  have hM1 : ¬ (1000000000000 : Int) < (s : Int) := by have := HV.out; omega
                  go_wp2
                  go_ret3
                  exact gives_of _ (by rw [HE2.out, if_pos hc, if_neg (by have := HV.out; have := HK.out; omega)]; simp only [rvVal]; rw [show ((k + 1 : Nat) : Int) = (k : Int) + 1 by omega, ← Int.add_assoc]; rfl) (ext_refl _)
                · subst hz
                  have hk1 : 0 < k := by omega
                  clear r1 r2 r3
                  go_wp2
                  go_ret3
                  exact gives_of _ (by rw [HE2.out, if_pos (by omega), if_pos (by simp [hk1])]; rfl) (ext_refl _)
              · have hz1 : ((c : Int) == 0) = false := by simp; exact hz
                generalize c % 128 = m7 at r1 r2 r3 HE2 HP
                generalize m7 * 128 ^ k = y at r2 r3 HE2 HP
                have hz2 : 0 < c := by omega
                clear hz
                by_cases hM : 1000000000000 < acc + y
                · have hM1 : (1000000000000 : Int) < ((acc + y : Nat) : Int) := by omega
                  generalize acc + y = s at r3 HE2 hM hM1 HP
                  go_wp2
                  go_ret3
                  exact gives_of _ (by rw [HE2.out, if_pos hc, if_pos (.inr hM)]; rfl) (ext_refl _)
                · have hM1 : ¬ (1000000000000 : Int) < ((acc + y : Nat) : Int) := by omega
                  generalize acc + y = s at r3 HE2 hM hM1 HP
                  go_wp2
                  go_ret3
                  exact gives_of _ (by rw [HE2.out, if_pos hc, if_neg (by omega)]; simp only [rvVal]; rw [show ((k + 1 : Nat) : Int) = (k : Int) + 1 by omega, ← Int.add_assoc]; rfl) (ext_refl _)
            · generalize c % 128 = m7 at r1 r2 r3 HE2 HP
              generalize m7 * 128 ^ k = y at r2 r3 HE2 HP
              generalize hs : acc + y = s at r3 HE2 HP
              clear hs
              go_wp2
              go_round
              case rel => exact ⟨k + 1, s, by omega, by omega, by go_num, rfl, HP, by rw [Hid, HE2.out, if_neg hc, show 6 - (k + 1) = 5 - k by omega]; rfl⟩
              case measure => simp [intOf]; omega
          · have hx : xs.length ≤ p + k := by rw [H0.out]; omega
            have HN := hid (show rv xs p = none by rw [HR.out, List.drop_eq_nil_of_le hx, rvGo_end])
            clear HR hx
            go_wp2
            go_ret3
            exact gives_of _ (by rw [HN.out]; rfl) (ext_refl _)
        · have hk7 : k = 6 := by omega
          subst hk7
          have HN := hid (show rv xs p = none by rw [HR.out]; rfl)
          clear HR
          go_wp2
          go_ret3
          exact gives_of _ (by rw [HN.out]; rfl) (ext_refl _)
    · have HN := hid (show rv xs p = none by unfold rv; rw [if_neg (by omega), Int.toNat_natCast, List.drop_eq_nil_of_le (by rw [H0.out]; omega), rvGo_end])
      go_enter Try.func11, Try.ntmps11
      go_wp2
      go_loop [7, 8] (fun m i => m = .int .i64 0 ∧ i = .int .i64 0) (fun _ _ => 0)
      case atStart => exact ⟨rfl, rfl⟩
      case round =>
        obtain ⟨rfl, rfl⟩ := hrel
        go_wp2
        go_ret3
        exact gives_of _ (by rw [HN.out]; rfl) (ext_refl _)

set_option maxRecDepth 100000 in
set_option maxHeartbeats 1000000 in
theorem implReadVarint_c {w : World} {lo hi n : Nat} {v : Value} {xs : List UInt8} (h : Rd w lo hi 1 v n (xs.map bv)) {at_ : Int} :
    Calls Try.prog 10 #[v, .int .i64 at_] w (Gives w fun r _ => r = rvVal at_ (rv xs at_)) := by
  obtain ⟨hl, a, cap, rfl, hc, hm, hat⟩ := h
  rw [List.length_map, Nat.mul_one] at hl
  have H0 := hid hl
  clear hl
  by_cases h0 : at_ < 0
  · go_enter Try.func10, Try.ntmps10
    go_wp2
    go_ret3
    exact gives_of _ (by simp [rv, h0, rvVal]) (ext_refl _)
  · obtain ⟨p, rfl⟩ := Int.eq_ofNat_of_zero_le (show 0 ≤ at_ by omega)
    clear h0
    by_cases hpn : p < n
    · go_enter Try.func10, Try.ntmps10
      go_wp2
      go_loop [1, 7, 8] (fun q m i => ∃ k acc : Nat, k ≤ 6 ∧ p + k ≤ n ∧ q = .int .i64 ((p + k : Nat) : Int) ∧ i = .int .i64 k ∧ m = .int .i64 acc ∧ Hid (acc < 128 ^ k) ∧ Hid (rv xs p = rvGo (6 - k) k acc (xs.drop (p + k)))) (fun _ _ i => 6 - (intOf i).toNat)
      case atStart => exact ⟨0, 0, by omega, by omega, by simp, rfl, rfl, by show 0 < 128 ^ 0; decide, by show rv xs (p : Int) = _; unfold rv; rw [if_neg (by omega)]; rfl⟩
      case round =>
        obtain ⟨k, acc, hk, hpk, rfl, rfl, rfl, HA, HR⟩ := hrel
        by_cases hk6 : k < 6
        · by_cases hp : p + k < n
          · obtain ⟨b, off, rfl, _, _, hbs, hcell⟩ := hat (by omega)
            have hkx : p + k < xs.length := by rw [H0.out]; exact hp
            have c1 : w.cell? ⟨b, off + (p + k), none⟩ = some (.int .u8 (xs[p + k].toNat : Int)) := hcell (p + k) _ (by simp [hkx, bv])
            have hcb : xs[p + k].toNat < 256 := UInt8.toNat_lt _
            have HD : Hid (rv xs p = rvGo (6 - k) k acc (xs[p + k] :: xs.drop (p + k + 1))) := by rw [Hid, HR.out, ← drop_cons xs (p + k) hkx]
            have HE : Hid (∀ f, 6 - k = f + 1 → rv xs p = if xs[p + k].toNat < 128 then if xs[p + k].toNat = 0 ∧ 0 < k ∨ 1000000000000 < acc + xs[p + k].toNat % 128 * 128 ^ k then none else some (acc + xs[p + k].toNat % 128 * 128 ^ k, k + 1) else rvGo f (k + 1) (acc + xs[p + k].toNat % 128 * 128 ^ k) (xs.drop (p + k + 1))) := by
              intro f hf
              rw [HD.out, hf]; rfl
            clear hcell hat HR HD
            generalize xs[p + k].toNat = c at c1 hcb HE
            have r1 := and127 c hcb
            have hmm : c % 128 < 128 := Nat.mod_lt _ (by omega)
            have r2 := shl7 (c % 128) k (by omega) hmm
            have r3 := or_shift acc (c % 128) k (by omega) hmm HA.out
            have HP := hid (pow_step acc (c % 128) k hmm HA.out)
            have HE2 := hid (HE.out (5 - k) (by omega))
            clear HE
            by_cases hc : c < 128
            · by_cases hz : c = 0
              · by_cases hk0 : k = 0
                · have hz1 : ((c : Int) == 0) = true := by simp; exact hz
                  have hkk : decide (0 < k) = false := by simp; exact hk0
                  have HV : Hid (acc + c % 128 * 128 ^ k = 0) := by show acc + c % 128 * 128 ^ k = 0; have := HA.out; subst hk0; subst hz; simpa using this
                  have HZ := hid hz
                  have HK := hid hk0
                  clear hz hk0
                  generalize c % 128 = m7 at r1 r2 r3 HE2 HP HV
                  generalize m7 * 128 ^ k = y at r2 r3 HE2 HP HV
                  generalize acc + y = s at r3 HE2 HP HV
                  have hM1 : ¬ (1000000000000 : Int) < (s : Int) := by have := HV.out; omega
                  go_wp2
                  go_ret3
                  exact gives_of _ (by rw [HE2.out, if_pos hc, if_neg (by have := HV.out; have := HK.out; omega)]; simp only [rvVal]; rw [show ((k + 1 : Nat) : Int) = (k : Int) + 1 by omega, ← Int.add_assoc]; first | rfl | (rw [show ((p + k : Nat) : Int) = (p : Int) + (k : Int) by omega]; rfl)) (ext_refl _)
                · subst hz
                  have hk1 : 0 < k := by omega
                  clear r1 r2 r3
                  go_wp2
                  go_ret3
                  exact gives_of _ (by rw [HE2.out, if_pos (by omega), if_pos (by simp [hk1])]; rfl) (ext_refl _)
              · have hz1 : ((c : Int) == 0) = false := by simp; exact hz
                generalize c % 128 = m7 at r1 r2 r3 HE2 HP
                generalize m7 * 128 ^ k = y at r2 r3 HE2 HP
                have hz2 : 0 < c := by omega
                clear hz
                by_cases hM : 1000000000000 < acc + y
                · have hM1 : (1000000000000 : Int) < ((acc + y : Nat) : Int) := by omega
                  generalize acc + y = s at r3 HE2 hM hM1 HP
                  go_wp2
                  go_ret3
                  exact gives_of _ (by rw [HE2.out, if_pos hc, if_pos (.inr hM)]; rfl) (ext_refl _)
                · have hM1 : ¬ (1000000000000 : Int) < ((acc + y : Nat) : Int) := by omega
                  generalize acc + y = s at r3 HE2 hM hM1 HP
                  go_wp2
                  go_ret3
                  exact gives_of _ (by rw [HE2.out, if_pos hc, if_neg (by omega)]; simp only [rvVal]; rw [show ((k + 1 : Nat) : Int) = (k : Int) + 1 by omega, ← Int.add_assoc]; first | rfl | (rw [show ((p + k : Nat) : Int) = (p : Int) + (k : Int) by omega]; rfl)) (ext_refl _)
            · generalize c % 128 = m7 at r1 r2 r3 HE2 HP
              generalize m7 * 128 ^ k = y at r2 r3 HE2 HP
              generalize hs : acc + y = s at r3 HE2 HP
              clear hs
              go_wp2
              go_round
              case rel => exact ⟨k + 1, s, by omega, by omega, by go_num, by go_num, rfl, HP, by rw [Hid, HE2.out, if_neg hc, show 6 - (k + 1) = 5 - k by omega]; rfl⟩
              case measure => simp [intOf]; omega
          · have hx : xs.length ≤ p + k := by rw [H0.out]; omega
            have HN := hid (show rv xs p = none by rw [HR.out, List.drop_eq_nil_of_le hx, rvGo_end])
            clear HR hx
            go_wp2
            go_ret3
            exact gives_of _ (by rw [HN.out]; rfl) (ext_refl _)
        · have hk7 : k = 6 := by omega
          subst hk7
          have HN := hid (show rv xs p = none by rw [HR.out]; rfl)
          clear HR
          go_wp2
          go_ret3
          exact gives_of _ (by rw [HN.out]; rfl) (ext_refl _)
    · have HN := hid (show rv xs p = none by unfold rv; rw [if_neg (by omega), Int.toNat_natCast, List.drop_eq_nil_of_le (by rw [H0.out]; omega), rvGo_end])
      go_enter Try.func10, Try.ntmps10
      go_wp2
      go_loop [1, 7, 8] (fun q m i => q = .int .i64 p ∧ m = .int .i64 0 ∧ i = .int .i64 0) (fun _ _ _ => 0)
      case atStart => exact ⟨rfl, rfl, rfl⟩
      case round =>
        obtain ⟨rfl, rfl, rfl⟩ := hrel
        go_wp2
        go_ret3
        exact gives_of _ (by rw [HN.out]; rfl) (ext_refl _)
end Go.Proofs.Ytiikpkkpacjamaa
