/- ValidPart of the program and of the reference: one to eight bytes, each a small letter, a digit or a hyphen. Condition: none beyond that the string is no longer than an int. -/
import Derived.Test.YtoehjfcadhgpbaaDoorRows
import Derived.Test.YtoehjfcadhgpbaaDoorBase
namespace Go.Proofs.YtoehjfcadhgpbaaDoor
open Go.RowKit
def okc (c : Nat) : Bool := decide (97 ≤ c ∧ c ≤ 122 ∨ 48 ≤ c ∧ c ≤ 57 ∨ c = 45)
def vp (s : ByteArray) : Bool := decide (1 ≤ s.size ∧ s.size ≤ 8) && s.data.toList.all (fun b => okc b.toNat)
theorem vp_bad (s : ByteArray) (k : Nat) (h : k < s.size) (hb : okc s[k].toNat = false) : vp s = false := by
  have hm : s[k] ∈ s.data.toList := by rw [Array.mem_toList_iff]; exact Array.getElem_mem h
  have : s.data.toList.all (fun b => okc b.toNat) = false := by
    rw [List.all_eq_false]
    exact ⟨_, hm, by simp [hb]⟩
  simp [vp, this]
theorem vp_take (s : ByteArray) (k : Nat) (h : k < s.size) (ha : (s.data.toList.take k).all (fun b => okc b.toNat) = true) (hb : okc s[k].toNat = true) : (s.data.toList.take (k + 1)).all (fun b => okc b.toNat) = true := by
  rw [List.take_succ_eq_append_getElem (by simpa using h), List.all_append, ha]
  simpa [show s.data[k] = s[k] from rfl] using hb
theorem vp_end (s : ByteArray) (k : Nat) (h : s.size ≤ k) (ha : (s.data.toList.take k).all (fun b => okc b.toNat) = true) : vp s = decide (1 ≤ s.size ∧ s.size ≤ 8) := by
  rw [List.take_of_length_le (by simpa using h)] at ha
  simp [vp, ha]
theorem vp_len (s : ByteArray) (h : ¬ (1 ≤ s.size ∧ s.size ≤ 8)) : vp s = false := by simp [vp, h]
/-- Where a byte lies. -/
theorem okc_cases (c : Nat) (hc : c < 256) : (okc c = true ∧ ((97 ≤ (c : Int) ∧ (c : Int) ≤ 122 ∧ decide (97 ≤ (c : Int)) = true ∧ decide ((c : Int) ≤ 122) = true ∧ decide (48 ≤ (c : Int)) = true ∧ decide ((c : Int) ≤ 57) = false ∧ ((c : Int) == 45) = false ∧ ((c : Int) != 45) = true) ∨ (48 ≤ (c : Int) ∧ (c : Int) ≤ 57 ∧ decide (97 ≤ (c : Int)) = false ∧ decide ((c : Int) ≤ 122) = true ∧ decide (48 ≤ (c : Int)) = true ∧ decide ((c : Int) ≤ 57) = true ∧ ((c : Int) == 45) = false ∧ ((c : Int) != 45) = true) ∨ (45 ≤ (c : Int) ∧ (c : Int) ≤ 45 ∧ decide (97 ≤ (c : Int)) = false ∧ decide ((c : Int) ≤ 122) = true ∧ decide (48 ≤ (c : Int)) = false ∧ decide ((c : Int) ≤ 57) = true ∧ ((c : Int) == 45) = true ∧ ((c : Int) != 45) = false))) ∨
    (okc c = false ∧ ((0 ≤ (c : Int) ∧ (c : Int) ≤ 44 ∧ decide (97 ≤ (c : Int)) = false ∧ decide ((c : Int) ≤ 122) = true ∧ decide (48 ≤ (c : Int)) = false ∧ decide ((c : Int) ≤ 57) = true ∧ ((c : Int) == 45) = false ∧ ((c : Int) != 45) = true) ∨ (46 ≤ (c : Int) ∧ (c : Int) ≤ 47 ∧ decide (97 ≤ (c : Int)) = false ∧ decide ((c : Int) ≤ 122) = true ∧ decide (48 ≤ (c : Int)) = false ∧ decide ((c : Int) ≤ 57) = true ∧ ((c : Int) == 45) = false ∧ ((c : Int) != 45) = true) ∨ (58 ≤ (c : Int) ∧ (c : Int) ≤ 96 ∧ decide (97 ≤ (c : Int)) = false ∧ decide ((c : Int) ≤ 122) = true ∧ decide (48 ≤ (c : Int)) = true ∧ decide ((c : Int) ≤ 57) = false ∧ ((c : Int) == 45) = false ∧ ((c : Int) != 45) = true) ∨ (123 ≤ (c : Int) ∧ (c : Int) ≤ 255 ∧ decide (97 ≤ (c : Int)) = true ∧ decide ((c : Int) ≤ 122) = false ∧ decide (48 ≤ (c : Int)) = true ∧ decide ((c : Int) ≤ 57) = false ∧ ((c : Int) == 45) = false ∧ ((c : Int) != 45) = true))) := by
  by_cases h : 97 ≤ c ∧ c ≤ 122 ∨ 48 ≤ c ∧ c ≤ 57 ∨ c = 45
  · refine .inl ⟨decide_eq_true h, ?_⟩
    rcases h with h | h | h
    · refine .inl ?_; simp; omega
    · refine .inr (.inl ?_); simp; omega
    · refine .inr (.inr ?_); simp; omega
  · refine .inr ⟨decide_eq_false h, ?_⟩
    by_cases h1 : c ≤ 44
    · refine .inl ?_; simp; omega
    · by_cases h2 : c ≤ 47
      · refine .inr (.inl ?_); simp; omega
      · by_cases h3 : c ≤ 96
        · refine .inr (.inr (.inl ?_)); simp; omega
        · refine .inr (.inr (.inr ?_)); simp; omega
set_option maxRecDepth 100000 in
set_option maxHeartbeats 1000000 in
theorem specValidPart_c {w : World} {s : ByteArray} (hm : s.size ≤ 9223372036854775807) :
    Calls Tryd.prog 50 #[.string s] w (Gives w fun r _ => r = .bool (vp s)) := by
  by_cases hsz : 1 ≤ s.size ∧ s.size ≤ 8
  · obtain ⟨hs1, hs2⟩ := hsz
    have g1 : 1 ≤ (s.size : Int) := by omega
    have g2 : (s.size : Int) ≤ 8 := by omega
    go_enter Tryd.func50, Tryd.ntmps50
    go_wp2
    go_loop [3] (fun i => ∃ k : Nat, k ≤ s.size ∧ i = .int .i64 k ∧ Hid ((s.data.toList.take k).all (fun b => okc b.toNat) = true)) (fun i => s.size - (intOf i).toNat)
    case atStart => exact ⟨0, Nat.zero_le _, rfl, by simp [Hid]⟩
    case round =>
      obtain ⟨k, hk, rfl, HA⟩ := hrel
      by_cases hlt : k < s.size
      · rcases okc_cases s[k].toNat (UInt8.toNat_lt _) with ⟨hok, hreg⟩ | ⟨hok, hreg⟩
        · have HB := hid (vp_take s k hlt HA.out hok)
          clear hok HA
          rcases hreg with ⟨h1, h2, h3, h4, h5, h6, h7, h8⟩ | ⟨h1, h2, h3, h4, h5, h6, h7, h8⟩ | ⟨h1, h2, h3, h4, h5, h6, h7, h8⟩
          all_goals
            go_wp2
            go_round
            case rel => exact ⟨k + 1, by omega, by go_num, HB⟩
            case measure => simp [intOf]; omega
        · have HB := hid (vp_bad s k hlt hok)
          clear hok HA
          rcases hreg with ⟨h1, h2, h3, h4, h5, h6, h7, h8⟩ | ⟨h1, h2, h3, h4, h5, h6, h7, h8⟩ | ⟨h1, h2, h3, h4, h5, h6, h7, h8⟩ | ⟨h1, h2, h3, h4, h5, h6, h7, h8⟩
          all_goals
            go_wp2
            go_ret
            exact gives_bool HB.out.symm (ext_refl _)
      · have HB := hid (vp_end s k (by omega) HA.out)
        clear HA
        go_wp2
        go_ret
        exact gives_bool (by rw [HB.out, decide_eq_true ⟨hs1, hs2⟩]) (ext_refl _)
  · have HB := hid (vp_len s hsz)
    by_cases hs1 : 1 ≤ s.size
    · have hs2 : 9 ≤ s.size := by omega
      have g1 : 1 ≤ (s.size : Int) := by omega
      have g2 : ¬ (s.size : Int) ≤ 8 := by omega
      clear hsz
      go_enter Tryd.func50, Tryd.ntmps50
      go_wp2
      go_ret
      exact gives_bool HB.out.symm (ext_refl _)
    · have hs2 : s.size < 1 := by omega
      have g1 : ¬ 1 ≤ (s.size : Int) := by omega
      clear hsz hs1
      go_enter Tryd.func50, Tryd.ntmps50
      go_wp2
      go_ret
      exact gives_bool HB.out.symm (ext_refl _)
set_option maxRecDepth 100000 in
set_option maxHeartbeats 1000000 in
theorem implValidPart_c {w : World} {s : ByteArray} (hm : s.size ≤ 9223372036854775807) :
    Calls Tryd.prog 49 #[.string s] w (Gives w fun r _ => r = .bool (vp s)) := by
  go_enter Tryd.func49, Tryd.ntmps49
  go_wp2
  go_loop [7] (fun i => ∃ k : Nat, k ≤ s.size ∧ i = .int .i64 k ∧ Hid ((s.data.toList.take k).all (fun b => okc b.toNat) = true)) (fun i => s.size - (intOf i).toNat)
  case atStart => exact ⟨0, Nat.zero_le _, rfl, by simp [Hid]⟩
  case round =>
    obtain ⟨k, hk, rfl, HA⟩ := hrel
    by_cases hlt : k < s.size
    · rcases okc_cases s[k].toNat (UInt8.toNat_lt _) with ⟨hok, hreg⟩ | ⟨hok, hreg⟩
      · have HB := hid (vp_take s k hlt HA.out hok)
        clear hok HA
        rcases hreg with ⟨h1, h2, h3, h4, h5, h6, h7, h8⟩ | ⟨h1, h2, h3, h4, h5, h6, h7, h8⟩ | ⟨h1, h2, h3, h4, h5, h6, h7, h8⟩
        all_goals
          go_wp2
          go_round
          case rel => exact ⟨k + 1, by omega, by go_num, HB⟩
          case measure => simp [intOf]; omega
      · have HB := hid (vp_bad s k hlt hok)
        clear hok HA
        rcases hreg with ⟨h1, h2, h3, h4, h5, h6, h7, h8⟩ | ⟨h1, h2, h3, h4, h5, h6, h7, h8⟩ | ⟨h1, h2, h3, h4, h5, h6, h7, h8⟩ | ⟨h1, h2, h3, h4, h5, h6, h7, h8⟩
        all_goals
          go_wp2
          go_ret
          exact gives_bool HB.out.symm (ext_refl _)
    · have HB := hid (vp_end s k (by omega) HA.out)
      clear HA
      by_cases hs1 : (1 : Int) ≤ (s.size : Int) <;> by_cases hs2 : (s.size : Int) ≤ 8
      all_goals
        go_wp2
        go_ret
        exact gives_bool (by rw [HB.out]; symm; first | (apply decide_eq_true; omega) | (apply decide_eq_false; omega)) (ext_refl _)
end Go.Proofs.YtoehjfcadhgpbaaDoor
