/- AppendVarint and AppendBytes of the program and of the reference. Conditions: the slice reads as bytes, and is of at most 2^40 bytes. -/
import Derived.Test.YtiikpkkpacjamaaBytesS
import Derived.Test.YtiikpkkpacjamaaNum
namespace Go.Proofs.Ytiikpkkpacjamaa
open Go.RowKit
/-- The bytes of a number, seven bits a byte, with f bytes beyond the first at most. -/
def vbF : Nat → Nat → List UInt8
  | 0, m => [UInt8.ofNat m]
  | f + 1, m => if m < 128 then [UInt8.ofNat m] else UInt8.ofNat (m % 128 + 128) :: vbF f (m / 128)
def vb (m : Nat) : List UInt8 := vbF 6 m
def av (xs : List UInt8) (n : Int) : List UInt8 := if 0 ≤ n ∧ n ≤ 1000000000000 then xs ++ vb n.toNat else xs
theorem vbF_len (f m : Nat) : 1 ≤ (vbF f m).length ∧ (vbF f m).length ≤ f + 1 := by
  induction f generalizing m with
  | zero => simp [vbF]
  | succ f ih =>
    unfold vbF
    split
    · simp
    · have := ih (m / 128); simp; omega
theorem and127' (m : Nat) (h : m ≤ 1000000000000) : bits .and .i64 (m : Int) 127 = ((m % 128 : Nat) : Int) := by
  have e : m &&& 127 = m % 128 := Nat.and_two_pow_sub_one_eq_mod m 7
  have h1 : (BitVec.ofInt 64 (m : Int)).toNat = m := by rw [BitVec.ofInt_natCast, BitVec.toNat_ofNat]; exact Nat.mod_eq_of_lt (by omega)
  show IntKind.i64.wrap ((BitVec.ofInt 64 (m : Int) &&& BitVec.ofInt 64 127).toNat : Int) = _
  rw [BitVec.toNat_and, h1, show (BitVec.ofInt 64 127).toNat = 127 by decide, e, IntKind.wrap_i64]
  omega
theorem or128 (c : Nat) (h : c < 128) : bits .or .i64 (c : Int) 128 = ((c + 128 : Nat) : Int) := by
  have : ∀ d : Fin 128, bits .or .i64 ((d.val : Nat) : Int) 128 = ((d.val + 128 : Nat) : Int) := by decide +kernel
  exact this ⟨c, h⟩
theorem or128u (m : Nat) : bits .or .u8 ((m : Int) % 256) 128 = ((m % 128 + 128 : Nat) : Int) := by
  have : ∀ d : Fin 256, bits .or .u8 ((d.val : Nat) : Int) 128 = ((d.val % 128 + 128 : Nat) : Int) := by decide +kernel
  have e : (m : Int) % 256 = ((m % 256 : Nat) : Int) := by omega
  rw [e, this ⟨m % 256, Nat.mod_lt _ (by omega)⟩]
  show (((m % 256) % 128 + 128 : Nat) : Int) = _
  omega
theorem u8_byte (c : Nat) (h : c < 256) : Value.int .u8 (c : Int) = bv (UInt8.ofNat c) := by
  unfold bv
  rw [UInt8.toNat_ofNat']
  congr 1
  omega
/-- The cells of xs and of l behind it. -/
def two (xs l : List UInt8) : List Value := (xs ++ l).map bv
theorem two_nil (xs : List UInt8) : two xs [] = xs.map bv := by simp [two]
theorem two_step (xs l : List UInt8) (c : Nat) (h : c < 256) : two xs (l ++ [UInt8.ofNat c]) = two xs l ++ [.int .u8 (c : Int)] := by
  unfold two
  rw [← List.append_assoc, List.map_append, u8_byte c h]; rfl
/-- A loop under way: l is laid, m is left, f bytes are to come at most. -/
structure Av (n0 m f : Nat) (l : List UInt8) : Prop where
  all : vb n0 = l ++ vbF f m
  room : m < 128 ^ (f + 1)
  len : l.length + f = 6
theorem Av.start (n0 : Nat) (h : n0 ≤ 1000000000000) : Av n0 n0 6 [] := ⟨rfl, by rw [show (128 : Nat) ^ (6 + 1) = 562949953421312 by decide]; omega, rfl⟩
theorem Av.next {n0 m f : Nat} {l : List UInt8} (h : Av n0 m f l) (hm : 128 ≤ m) : ∃ f', f = f' + 1 ∧ Av n0 (m / 128) f' (l ++ [UInt8.ofNat (m % 128 + 128)]) := by
  obtain ⟨h1, h2, h3⟩ := h
  cases f with
  | zero => simp at h2; omega
  | succ f =>
    refine ⟨f, rfl, ?_, ?_, by simp; omega⟩
    · rw [h1, vbF, if_neg (by omega)]; simp
    · rw [Nat.pow_succ] at h2; omega
theorem Av.done {n0 m f : Nat} {l : List UInt8} (h : Av n0 m f l) (hm : m < 128) : vb n0 = l ++ [UInt8.ofNat m] := by
  rw [h.all]
  cases f with
  | zero => rfl
  | succ f => rw [vbF, if_pos hm]
set_option maxRecDepth 100000 in
set_option maxHeartbeats 1000000 in
theorem specAppendVarint_c {w : World} {lo hi k : Nat} {v : Value} {xs : List UInt8} (h : Rd w lo hi 1 v k (xs.map bv)) {n : Int} (hk : k ≤ 1099511627776) :
    Calls Try.prog 18 #[v, .int .i64 n] w (Gives w fun r w' => Own w' w.heap.size w'.heap.size 5 1 r (av xs n).length ((av xs n).map bv)) := by
  have hxl : Hid (xs.length = k) := by have := h.1; simpa [Hid] using this
  obtain ⟨i0, hi0, hz0, hz1, hz2⟩ := info_parts info_byte
  obtain ⟨a, cap, rfl, hm⟩ := h.form
  by_cases hr : ¬ (0 ≤ n ∧ n ≤ 1000000000000)
  · have HV := hid (show av xs n = xs by rw [av, if_neg hr])
    have h1 := h.ext (ext_alloc (ext_refl w) (.cells #[] 5))
    have o0 := Own.new w #[] 5 1 0 (by decide) rfl
    go_enter Try.func18, Try.ntmps18
    go_wp2_with (at_builtin; refine wpList_append_Own rfl _ _ 22 rfl 5 i0 (.int .u8 0) 1 1 Try.underlying22 hi0 hz0 hz1 hz2 rfl (by decide) rfl o0 rfl h1 (bv_one xs) (by omega) (by omega) (by simp) ?_)
    intro v1 w1 ho hmu
    have x := Mut.ext (ext_alloc (ext_refl w) (.cells #[] 5)) hmu (Nat.le_refl _)
    clear hmu o0 h1
    obtain ⟨zs, hzs, hz⟩ : ∃ zs, Own w1 w.heap.size w1.heap.size 5 1 v1 k zs ∧ Hid (zs = xs.map bv) := ⟨_, by simpa using ho, rfl⟩
    clear ho
    go_wp2_with fail
    refine (specIn_c false (decide_eq_false hr)).mono ?_
    rintro e w' ⟨rfl, rfl⟩
    go_wp2
    go_ret
    exact gives_of _ (by rw [HV.out, hxl.out, ← hz.out]; exact hzs) x
  obtain ⟨g1, g2⟩ := Classical.not_not.1 hr
  clear hr
  obtain ⟨n0, rfl⟩ := Int.eq_ofNat_of_zero_le g1
  have HV := hid (show av xs (n0 : Int) = xs ++ vb n0 by rw [av, if_pos ⟨g1, g2⟩, Int.toNat_natCast])
  have h1 := h.ext (ext_alloc (ext_refl w) (.cells #[] 5))
  have o0 := Own.new w #[] 5 1 0 (by decide) rfl
  go_enter Try.func18, Try.ntmps18
  go_wp2_with (at_builtin; refine wpList_append_Own rfl _ _ 22 rfl 5 i0 (.int .u8 0) 1 1 Try.underlying22 hi0 hz0 hz1 hz2 rfl (by decide) rfl o0 rfl h1 (bv_one xs) (by omega) (by omega) (by simp) ?_)
  intro v1 w1 ho hmu
  have x := Mut.ext (ext_alloc (ext_refl w) (.cells #[] 5)) hmu (Nat.le_refl _)
  clear hmu o0 h1
  obtain ⟨zs, hzs, hz⟩ : ∃ zs, Own w1 w.heap.size w1.heap.size 5 1 v1 k zs ∧ Hid (zs = xs.map bv) := ⟨_, by simpa using ho, rfl⟩
  clear ho
  go_wp2_with fail
  refine (specIn_c true (decide_eq_true ⟨g1, g2⟩)).mono ?_
  rintro e w' ⟨rfl, rfl⟩
  go_wp2
  go_loopw [1, 5] (fun i u wr => ∃ (m f : Nat) (l : List UInt8), m ≤ 1000000000000 ∧ l.length ≤ 6 ∧ i = .int .i64 m ∧ Own wr w.heap.size wr.heap.size 5 1 u (k + l.length) (two xs l) ∧ Hid (Av n0 m f l) ∧ Below w.heap.size w wr) (fun i _ _ => (intOf i).toNat)
  case atStart => exact ⟨n0, 6, [], by omega, by simp, rfl, by rw [two_nil, ← hz.out]; exact hzs, Av.start n0 (by omega), x⟩
  case round =>
    obtain ⟨m, f, l, hm2, hl6, rfl, ho, HA, hb⟩ := hrel
    clear hzs x hz
    by_cases hlt : m < 128
    · have HS := hid (two_step xs l m (by omega))
      have HD := hid (HA.out.done hlt)
      have hw : w.heap.size ≤ (wr.alloc (.cells #[.int .u8 (m : Int)] 5)).heap.size := by have := hb.size; simp; omega
      have ho' := ho.ext (ext_alloc (ext_refl wr) (.cells #[.int .u8 (m : Int)] 5))
      have hr := Rd.new wr [.int .u8 (m : Int)] 5 1 1 (by decide) rfl
      have r0 : (m : Int) % 256 = (m : Int) := by omega
      have hlt1 : (m : Int) < 128 := by omega
      clear ho
      go_wp2_with (at_builtin; refine wpList_append_Own rfl _ _ 22 rfl 5 i0 (.int .u8 0) 1 1 Try.underlying22 hi0 hz0 hz1 hz2 rfl (by decide) rfl ho' rfl hr (by simp; rfl) (by omega) (by omega) hw ?_)
      intro v' w' ho hmu
      have x := hmu.ext (ext_alloc hb (.cells #[.int .u8 (m : Int)] 5)) (Nat.le_refl _)
      clear hmu ho' hr hw
      rw [← HS.out] at ho
      go_wp2
      go_ret
      refine gives_of _ ?_ x
      rw [HV.out, HD.out, List.length_append, hxl.out, List.length_append]
      exact ho
    · obtain ⟨f', hf, hn⟩ := HA.out.next (by omega)
      have hf' : l.length < 6 := by have := HA.out.len; omega
      have hlt1 : (128 : Int) ≤ (m : Int) := by omega
      have hc : m % 128 + 128 < 256 := by omega
      have HS := hid (two_step xs l (m % 128 + 128) hc)
      clear hf HA
      have r1 := and127' m hm2
      have r2 := or128 (m % 128) (Nat.mod_lt _ (by omega))
      have r3 : ((m % 128 + 128 : Nat) : Int) % 256 = ((m % 128 + 128 : Nat) : Int) := by omega
      generalize m % 128 = d at r1 r2 r3 hc HS hn
      generalize d + 128 = c at r2 r3 hc HS hn
      have HN := hid hn
      clear hn
      have hw : w.heap.size ≤ (wr.alloc (.cells #[.int .u8 (c : Int)] 5)).heap.size := by have := hb.size; simp; omega
      have ho' := ho.ext (ext_alloc (ext_refl wr) (.cells #[.int .u8 (c : Int)] 5))
      have hr := Rd.new wr [.int .u8 (c : Int)] 5 1 1 (by decide) rfl
      clear ho
      go_wp2_with (at_builtin; refine wpList_append_Own rfl _ _ 22 rfl 5 i0 (.int .u8 0) 1 1 Try.underlying22 hi0 hz0 hz1 hz2 rfl (by decide) rfl ho' rfl hr (by simp; rfl) (by omega) (by omega) hw ?_)
      intro v' w' ho hmu
      have x := hmu.ext (ext_alloc hb (.cells #[.int .u8 (c : Int)] 5)) (Nat.le_refl _)
      clear hmu ho' hr hw
      rw [← HS.out] at ho
      go_wp2
      go_roundw
      case rel => exact ⟨m / 128, f', l ++ [UInt8.ofNat c], by omega, by simp; omega, by go_num, by rw [List.length_append]; exact ho, HN.out, x⟩
      case measure => simp [intOf]; omega
set_option maxRecDepth 100000 in
set_option maxHeartbeats 1000000 in
theorem implAppendVarint_c {w : World} {lo hi k : Nat} {v : Value} {xs : List UInt8} (h : Rd w lo hi 1 v k (xs.map bv)) {n : Int} (hk : k ≤ 1099511627776) :
    Calls Try.prog 8 #[v, .int .i64 n] w (Gives w fun r w' => Own w' w.heap.size w'.heap.size 5 1 r (av xs n).length ((av xs n).map bv)) := by
  have hxl : Hid (xs.length = k) := by have := h.1; simpa [Hid] using this
  obtain ⟨i0, hi0, hz0, hz1, hz2⟩ := info_parts info_byte
  obtain ⟨a, cap, rfl, hm⟩ := h.form
  by_cases hr : ¬ (0 ≤ n ∧ n ≤ 1000000000000)
  · have HV := hid (show av xs n = xs by rw [av, if_neg hr])
    go_enter Try.func8, Try.ntmps8
    go_wp2_with fail
    refine (cloneByte_c h (by omega)).mono ?_
    rintro e w1 ⟨v1, rfl, ho, x⟩
    obtain ⟨zs, hzs, hz⟩ : ∃ zs, Own w1 w.heap.size w1.heap.size 5 1 v1 k zs ∧ Hid (zs = xs.map bv) := ⟨_, ho, rfl⟩
    clear ho
    go_wp2_with fail
    refine (implIn_c false (decide_eq_false hr)).mono ?_
    rintro e w' ⟨rfl, rfl⟩
    go_wp2
    go_ret
    exact gives_of _ (by rw [HV.out, hxl.out, ← hz.out]; exact hzs) x
  obtain ⟨g1, g2⟩ := Classical.not_not.1 hr
  clear hr
  obtain ⟨n0, rfl⟩ := Int.eq_ofNat_of_zero_le g1
  have HV := hid (show av xs (n0 : Int) = xs ++ vb n0 by rw [av, if_pos ⟨g1, g2⟩, Int.toNat_natCast])
  go_enter Try.func8, Try.ntmps8
  go_wp2_with fail
  refine (cloneByte_c h (by omega)).mono ?_
  rintro e w1 ⟨v1, rfl, ho, x⟩
  obtain ⟨zs, hzs, hz⟩ : ∃ zs, Own w1 w.heap.size w1.heap.size 5 1 v1 k zs ∧ Hid (zs = xs.map bv) := ⟨_, ho, rfl⟩
  clear ho
  go_wp2_with fail
  refine (implIn_c true (decide_eq_true ⟨g1, g2⟩)).mono ?_
  rintro e w' ⟨rfl, rfl⟩
  go_wp2
  go_loopw [1, 5] (fun i u wr => ∃ (m f : Nat) (l : List UInt8), m ≤ 1000000000000 ∧ l.length ≤ 6 ∧ i = .int .i64 m ∧ Own wr w.heap.size wr.heap.size 5 1 u (k + l.length) (two xs l) ∧ Hid (Av n0 m f l) ∧ Below w.heap.size w wr) (fun i _ _ => (intOf i).toNat)
  case atStart => exact ⟨n0, 6, [], by omega, by simp, rfl, by rw [two_nil, ← hz.out]; exact hzs, Av.start n0 (by omega), x⟩
  case round =>
    obtain ⟨m, f, l, hm2, hl6, rfl, ho, HA, hb⟩ := hrel
    clear hzs x hz
    by_cases hlt : m < 128
    · have HS := hid (two_step xs l m (by omega))
      have HD := hid (HA.out.done hlt)
      have hw : w.heap.size ≤ (wr.alloc (.cells #[.int .u8 (m : Int)] 5)).heap.size := by have := hb.size; simp; omega
      have ho' := ho.ext (ext_alloc (ext_refl wr) (.cells #[.int .u8 (m : Int)] 5))
      have hr := Rd.new wr [.int .u8 (m : Int)] 5 1 1 (by decide) rfl
      have r0 : (m : Int) % 256 = (m : Int) := by omega
      have hlt1 : (m : Int) < 128 := by omega
      clear ho
      go_wp2_with (at_builtin; refine wpList_append_Own rfl _ _ 22 rfl 5 i0 (.int .u8 0) 1 1 Try.underlying22 hi0 hz0 hz1 hz2 rfl (by decide) rfl ho' rfl hr (by simp; rfl) (by omega) (by omega) hw ?_)
      intro v' w' ho hmu
      have x := hmu.ext (ext_alloc hb (.cells #[.int .u8 (m : Int)] 5)) (Nat.le_refl _)
      clear hmu ho' hr hw
      rw [← HS.out] at ho
      go_wp2
      go_ret
      refine gives_of _ ?_ x
      rw [HV.out, HD.out, List.length_append, hxl.out, List.length_append]
      exact ho
    · obtain ⟨f', hf, hn⟩ := HA.out.next (by omega)
      have hf' : l.length < 6 := by have := HA.out.len; omega
      have hlt1 : (128 : Int) ≤ (m : Int) := by omega
      have hc : m % 128 + 128 < 256 := by omega
      have HS := hid (two_step xs l (m % 128 + 128) hc)
      clear hf HA
      have r1 := or128u m
      generalize m % 128 + 128 = c at r1 hc HS hn
      have HN := hid hn
      clear hn
      have hw : w.heap.size ≤ (wr.alloc (.cells #[.int .u8 (c : Int)] 5)).heap.size := by have := hb.size; simp; omega
      have ho' := ho.ext (ext_alloc (ext_refl wr) (.cells #[.int .u8 (c : Int)] 5))
      have hr := Rd.new wr [.int .u8 (c : Int)] 5 1 1 (by decide) rfl
      clear ho
      go_wp2_with (at_builtin; refine wpList_append_Own rfl _ _ 22 rfl 5 i0 (.int .u8 0) 1 1 Try.underlying22 hi0 hz0 hz1 hz2 rfl (by decide) rfl ho' rfl hr (by simp; rfl) (by omega) (by omega) hw ?_)
      intro v' w' ho hmu
      have x := hmu.ext (ext_alloc hb (.cells #[.int .u8 (c : Int)] 5)) (Nat.le_refl _)
      clear hmu ho' hr hw
      rw [← HS.out] at ho
      go_wp2
      go_roundw
      case rel => exact ⟨m / 128, f', l ++ [UInt8.ofNat c], by omega, by simp; omega, by go_num, by rw [List.length_append]; exact ho, HN.out, x⟩
      case measure => simp [intOf]; omega
end Go.Proofs.Ytiikpkkpacjamaa
