/- BytesToInts of the program and of the reference: the length, then each byte as an int. Condition: the slice reads as bytes and is of at most 2^40 bytes. -/
import Derived.Test.YtiikpkkpacjamaaBytesS
import Derived.Test.YtiikpkkpacjamaaIntsS
namespace Go.Proofs.Ytiikpkkpacjamaa
open Go.RowKit
def bti (xs : List UInt8) : List Int := (xs.length : Int) :: xs.map fun b => (b.toNat : Int)
theorem bti_len (xs : List UInt8) : (bti xs).length = 1 + xs.length := by simp [bti]; omega
/-- BytesToInts under way: k bytes are laid. -/
def btiP (xs : List UInt8) (k : Nat) : List Value := ((xs.length : Int) :: (xs.take k).map fun b => (b.toNat : Int)).map iv
theorem btiP_zero (xs : List UInt8) : btiP xs 0 = [.int .i64 (xs.length : Int)] := by simp [btiP, iv]
theorem btiP_all (xs : List UInt8) (k : Nat) (h : xs.length ≤ k) : btiP xs k = (bti xs).map iv := by simp [btiP, bti, List.take_of_length_le h]
theorem btiP_step (xs : List UInt8) (k : Nat) (h : k < xs.length) : btiP xs (k + 1) = btiP xs k ++ [.int .i64 (xs[k].toNat : Int)] := by
  unfold btiP
  rw [List.take_succ_eq_append_getElem h, List.map_append, ← List.cons_append, List.map_append]; rfl
theorem specBytesToInts_c {w : World} {lo hi n : Nat} {v : Value} {xs : List UInt8} (h : Rd w lo hi 1 v n (xs.map bv)) (hn : n ≤ 1099511627776) :
    Calls Try.prog 48 #[v] w (Gives w fun r w' => Own w' w.heap.size w'.heap.size 3 1 r (1 + n) ((bti xs).map iv)) := by
  obtain ⟨hl, a, cap, rfl, hc, hm, hat⟩ := h
  rw [List.length_map, Nat.mul_one] at hl
  have H0 := hid hl
  clear hl
  obtain ⟨i0, hi0, hz0, hz1, hz2⟩ := info_parts info_int
  have o0 := Own.new w #[.int .i64 (n : Int)] 3 1 1 (by decide) rfl
  go_enter Try.func48, Try.ntmps48
  go_wp2
  go_loopw [3, 4] (fun u i wr => ∃ k : Nat, k ≤ n ∧ i = .int .i64 k ∧ Own wr w.heap.size wr.heap.size 3 1 u (1 + k) (btiP xs k) ∧ Below w.heap.size w wr) (fun _ i _ => n - (intOf i).toNat)
  case atStart => exact ⟨0, Nat.zero_le _, rfl, by rw [btiP_zero, H0.out]; exact o0.mono (Nat.le_refl _) (by simp), ext_alloc (ext_refl w) _⟩
  case round =>
    obtain ⟨k, hk, rfl, ho, hb⟩ := hrel
    clear o0
    by_cases hlt : k < n
    · obtain ⟨b, off, rfl, _, _, hbs, hcell⟩ := hat (by omega)
      have hkx : k < xs.length := by rw [H0.out]; exact hlt
      have hcb : xs[k].toNat < 256 := UInt8.toNat_lt _
      have c1 : wr.cell? ⟨b, off + k, none⟩ = some (.int .u8 (xs[k].toNat : Int)) := (hb.cell (by exact hbs)).trans (hcell k _ (by simp [hkx, bv]))
      have HS := hid (btiP_step xs k hkx)
      clear hcell hat
      generalize xs[k].toNat = c at c1 hcb HS
      have hw : w.heap.size ≤ (wr.alloc (.cells #[.int .i64 (c : Int)] 3)).heap.size := by have := hb.size; simp; omega
      have ho' := ho.ext (ext_alloc (ext_refl wr) (.cells #[.int .i64 (c : Int)] 3))
      have hr := Rd.new wr [.int .i64 (c : Int)] 3 1 1 (by decide) rfl
      clear ho
      go_wp2_with (at_builtin; refine wpList_append_Own rfl _ _ 37 rfl 3 i0 (.int .i64 0) 1 8 Try.underlying37 hi0 hz0 hz1 hz2 rfl (by decide) rfl ho' rfl hr (by simp; rfl) (by omega) (by omega) hw ?_)
      intro v' w' ho hmu
      have x := hmu.ext (ext_alloc hb (.cells #[.int .i64 (c : Int)] 3)) (Nat.le_refl _)
      rw [← HS.out] at ho
      clear hmu ho' hr hw HS
      go_wp2
      go_roundw
      case rel => exact ⟨k + 1, by omega, by go_num, by rw [show 1 + (k + 1) = 1 + k + 1 by omega]; exact ho, x⟩
      case measure => simp [intOf]; omega
    · have hkn : k = n := by omega
      subst hkn
      rw [btiP_all _ _ (by rw [H0.out]; omega)] at ho
      go_wp2
      go_ret
      exact gives_of _ ho hb
theorem implBytesToInts_c {w : World} {lo hi n : Nat} {v : Value} {xs : List UInt8} (h : Rd w lo hi 1 v n (xs.map bv)) (hn : n ≤ 1099511627776) :
    Calls Try.prog 47 #[v] w (Gives w fun r w' => Own w' w.heap.size w'.heap.size 3 1 r (1 + n) ((bti xs).map iv)) := by
  obtain ⟨hl, a, cap, rfl, hc, hm, hat⟩ := h
  rw [List.length_map, Nat.mul_one] at hl
  have H0 := hid hl
  clear hl
  obtain ⟨i0, hi0, hz0, hz1, hz2⟩ := info_parts info_int
  have o0 := Own.new w #[.int .i64 (n : Int)] 3 1 1 (by decide) rfl
  go_enter Try.func47, Try.ntmps47
  go_wp2
  go_loopw [3, 11] (fun u i wr => ∃ k : Nat, k ≤ n ∧ i = .int .i64 k ∧ Own wr w.heap.size wr.heap.size 3 1 u (1 + k) (btiP xs k) ∧ Below w.heap.size w wr) (fun _ i _ => n - (intOf i).toNat)
  case atStart => exact ⟨0, Nat.zero_le _, rfl, by rw [btiP_zero, H0.out]; exact o0.mono (Nat.le_refl _) (by simp), ext_alloc (ext_refl w) _⟩
  case round =>
    obtain ⟨k, hk, rfl, ho, hb⟩ := hrel
    clear o0
    by_cases hlt : k < n
    · obtain ⟨b, off, rfl, _, _, hbs, hcell⟩ := hat (by omega)
      have hkx : k < xs.length := by rw [H0.out]; exact hlt
      have hcb : xs[k].toNat < 256 := UInt8.toNat_lt _
      have c1 : wr.cell? ⟨b, off + k, none⟩ = some (.int .u8 (xs[k].toNat : Int)) := (hb.cell (by exact hbs)).trans (hcell k _ (by simp [hkx, bv]))
      have HS := hid (btiP_step xs k hkx)
      clear hcell hat
      generalize xs[k].toNat = c at c1 hcb HS
      have hw : w.heap.size ≤ (wr.alloc (.cells #[.int .i64 (c : Int)] 3)).heap.size := by have := hb.size; simp; omega
      have ho' := ho.ext (ext_alloc (ext_refl wr) (.cells #[.int .i64 (c : Int)] 3))
      have hr := Rd.new wr [.int .i64 (c : Int)] 3 1 1 (by decide) rfl
      clear ho
      go_wp2_with (at_builtin; refine wpList_append_Own rfl _ _ 37 rfl 3 i0 (.int .i64 0) 1 8 Try.underlying37 hi0 hz0 hz1 hz2 rfl (by decide) rfl ho' rfl hr (by simp; rfl) (by omega) (by omega) hw ?_)
      intro v' w' ho hmu
      have x := hmu.ext (ext_alloc hb (.cells #[.int .i64 (c : Int)] 3)) (Nat.le_refl _)
      rw [← HS.out] at ho
      clear hmu ho' hr hw HS
      go_wp2
      go_roundw
      case rel => exact ⟨k + 1, by omega, by go_num, by rw [show 1 + (k + 1) = 1 + k + 1 by omega]; exact ho, x⟩
      case measure => simp [intOf]; omega
    · have hkn : k = n := by omega
      subst hkn
      rw [btiP_all _ _ (by rw [H0.out]; omega)] at ho
      go_wp2
      go_ret
      exact gives_of _ ho hb
end Go.Proofs.Ytiikpkkpacjamaa
