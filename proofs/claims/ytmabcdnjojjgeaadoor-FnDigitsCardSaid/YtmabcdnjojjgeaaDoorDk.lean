/- Numbers and bytes that the reference draws: their shape and their size, no more. Condition: the cursor lies in a block of its own and reads its bytes. -/
import Derived.Test.YtmabcdnjojjgeaaDoorDr
import Derived.Test.YtmabcdnjojjgeaaDoorCur
import Derived.Test.YtmabcdnjojjgeaaDoorApp
import Derived.Test.YtmabcdnjojjgeaaDoorIntsS
import Derived.OwnWalk
set_option linter.unusedVariables false
namespace Go.Proofs.YtmabcdnjojjgeaaDoor
open Go.RowKit
theorem byte_of {z : Int} (h0 : 0 ≤ z) (h1 : z ≤ 255) : Value.int .u8 z = bv (UInt8.ofNat z.toNat) := by
  unfold bv
  rw [UInt8.toNat_ofNat', Nat.mod_eq_of_lt (by omega)]
  congr 1
  omega
theorem Rd.takeB {w : World} {lo hi n k cap : Nat} {a : Option Addr} {xs : List Value} (h : Rd w lo hi 1 (.slice a n cap) n xs) (hk : k ≤ n) : Rd w lo hi 1 (.slice a k cap) k (xs.take k) := by
  obtain ⟨h1, a', cap', e, h2, h3, h4⟩ := h
  simp only [Value.slice.injEq, true_and] at e
  obtain ⟨rfl, rfl⟩ := e
  refine ⟨by rw [List.length_take]; omega, a, cap, rfl, by omega, h3, fun hn => ?_⟩
  obtain ⟨b, off, hb, hl, hh, hbs, hc⟩ := h4 (by omega)
  exact ⟨b, off, hb, hl, hh, hbs, fun j u hu => hc j u (by rw [List.getElem?_take] at hu; split at hu; exact hu; cases hu)⟩
set_option maxHeartbeats 1000000 in
theorem l1Int_c {w : World} {c lo hi n : Nat} {cv : Value} {xs : List UInt8} (hc : CurAt w c cv n) (hr : Rd w lo hi 1 cv n (xs.map bv)) (hd : c < lo ∨ hi ≤ c) {lo' hi' m : Nat} {v : Value} {zs : List Int} (h : Rd w lo' hi' 1 v m (zs.map iv)) (hd' : c < lo' ∨ hi' ≤ c) (hm : 0 < m) :
    Calls Tryd.prog 34 #[.pointer (some ⟨c, 0, none⟩), v] w fun e w' => ∃ z ∈ zs, e = .returned (.int .i64 z) ∧ CurAt w' c cv n ∧ Mut c (c + 1) w w' := by
  have hl : zs.length = m := by have := h.1; simpa using this
  obtain ⟨a, cap, rfl, hmm⟩ := h.form
  go_enter Tryd.func34, Tryd.ntmps34
  go_wp2_with fail
  refine (l1Below_c (m := (m : Int)) hc hr hd (by omega)).mono ?_
  rintro e w1 ⟨x, rfl, x0, x1, hc1, m1⟩
  have h1 := h.mut m1 (by omega)
  clear hc hr h
  obtain ⟨k, rfl⟩ := Int.eq_ofNat_of_zero_le x0
  have hk : k < m := by omega
  have hkx : k < zs.length := by omega
  obtain ⟨_, a', cap', e1, _, _, hat⟩ := h1
  simp only [Value.slice.injEq, true_and] at e1
  obtain ⟨rfl, rfl⟩ := e1
  obtain ⟨b, off, rfl, _, _, hbs, hcell⟩ := hat hm
  have c1 : w1.cell? ⟨b, off + k, none⟩ = some (.int .i64 zs[k]) := hcell k _ (by simp [hkx, iv])
  have HM := hid (List.getElem_mem hkx)
  clear hcell hat
  generalize zs[k] = t at *
  go_wp2
  go_ret
  exact ⟨t, HM.out, rfl, hc1, m1⟩
set_option maxRecDepth 100000 in
set_option maxHeartbeats 2000000 in
theorem l1Odd_c {w : World} {c lo hi n : Nat} {cv : Value} {xs : List UInt8} (hc : CurAt w c cv n) (hr : Rd w lo hi 1 cv n (xs.map bv)) (hd : c < lo ∨ hi ≤ c) (hhi : hi ≤ w.heap.size) (hcs : c < w.heap.size) :
    Calls Tryd.prog 46 #[.pointer (some ⟨c, 0, none⟩)] w fun e w' => ∃ z : Int, e = .returned (.int .i64 z) ∧ -9223372036854775808 ≤ z ∧ z ≤ 9223372036854775807 ∧ CurAt w' c cv n ∧ Mut c (c + 1) w w' := by
  have M := Mut.refl c (c + 1) w
  go_enter Tryd.func46, Tryd.ntmps46
  have yb1 := ext_alloc (ext_refl w) (.cells #[.int .i64 (-1), .int .i64 0, .int .i64 1, .int .i64 2, .int .i64 255, .int .i64 256, .int .i64 65535, .int .i64 2147483647, .int .i64 2147483648, .int .i64 4294967295, .int .i64 4294967296, .int .i64 (-2147483648), .int .i64 9223372036854775807, .int .i64 (-9223372036854775808)] 3)
  have sb1 := yb1.size
  have rl : Rd (w.alloc (.cells #[.int .i64 (-1), .int .i64 0, .int .i64 1, .int .i64 2, .int .i64 255, .int .i64 256, .int .i64 65535, .int .i64 2147483647, .int .i64 2147483648, .int .i64 4294967295, .int .i64 4294967296, .int .i64 (-2147483648), .int .i64 9223372036854775807, .int .i64 (-9223372036854775808)] 3)) w.heap.size (w.heap.size + 1) 1 (.slice (some ⟨w.heap.size, 0, none⟩) 14 14) 14 (([-1, 0, 1, 2, 255, 256, 65535, 2147483647, 2147483648, 4294967295, 4294967296, -2147483648, 9223372036854775807, -9223372036854775808] : List Int).map iv) := Rd.new w (([-1, 0, 1, 2, 255, 256, 65535, 2147483647, 2147483648, 4294967295, 4294967296, -2147483648, 9223372036854775807, -9223372036854775808] : List Int).map iv) 3 1 14 (by decide) rfl
  replace hc := hc.ext yb1
  replace hr := hr.ext yb1
  replace M := M.trans (Mut.of_ext yb1)
  clear yb1
  have C := hid (l1Int_c hc hr hd rl (.inl (by omega)) (by decide))
  clear hc
  go_wp2_with fail
  refine C.out.mono ?_
  clear C
  rintro e w2 ⟨z, hz, rfl, hc, m2⟩
  have s2 := m2.size
  replace hr := hr.mut m2 (by omega)
  replace M := M.trans m2
  clear m2
  clear rl
  have zb : -9223372036854775808 ≤ z ∧ z ≤ 9223372036854775807 := by simp at hz; omega
  obtain ⟨zb0, zb1⟩ := zb
  clear hz
  go_wp2
  go_ret
  exact ⟨_, rfl, (by omega), (by omega), hc, M⟩
set_option maxRecDepth 100000 in
set_option maxHeartbeats 2000000 in
theorem l1Num_c {w : World} {c lo hi n : Nat} {cv : Value} {xs : List UInt8} (hc : CurAt w c cv n) (hr : Rd w lo hi 1 cv n (xs.map bv)) (hd : c < lo ∨ hi ≤ c) (hhi : hi ≤ w.heap.size) (hcs : c < w.heap.size) :
    Calls Tryd.prog 32 #[.pointer (some ⟨c, 0, none⟩)] w fun e w' => ∃ z : Int, e = .returned (.int .i64 z) ∧ 0 ≤ z ∧ z ≤ 1000000000000 ∧ CurAt w' c cv n ∧ Mut c (c + 1) w w' := by
  have M := Mut.refl c (c + 1) w
  go_enter Tryd.func32, Tryd.ntmps32
  have C := hid (l1Below_c (m := 4) hc hr hd (by omega))
  clear hc
  go_wp2_with fail
  refine C.out.mono ?_
  clear C
  rintro e w1 ⟨x, rfl, x0, x1, hc, m1⟩
  have s1 := m1.size
  replace hr := hr.mut m1 (by omega)
  replace M := M.trans m1
  clear m1
  by_cases g0 : x = 0
  · subst g0
    have C := hid (l1Below_c (m := 2000) hc hr hd (by omega))
    clear hc
    go_wp2_with fail
    refine C.out.mono ?_
    clear C
    rintro e w2 ⟨y, rfl, y0, y1, hc, m2⟩
    have s2 := m2.size
    replace hr := hr.mut m2 (by omega)
    replace M := M.trans m2
    clear m2
    go_wp2
    go_ret
    exact ⟨_, rfl, (by omega), (by omega), hc, M⟩
  have e0 : (x == 0) = false := beq_eq_false_iff_ne.2 g0
  have f0 : decide (x = 0) = false := decide_eq_false g0
  clear g0
  by_cases g1 : x = 1
  · subst g1
    have yb3 := ext_alloc (ext_refl w1) (.cells #[.int .i64 0, .int .i64 1, .int .i64 127, .int .i64 128, .int .i64 2147483646, .int .i64 2147483647, .int .i64 1000000000000] 3)
    have sb3 := yb3.size
    have rl : Rd (w1.alloc (.cells #[.int .i64 0, .int .i64 1, .int .i64 127, .int .i64 128, .int .i64 2147483646, .int .i64 2147483647, .int .i64 1000000000000] 3)) w1.heap.size (w1.heap.size + 1) 1 (.slice (some ⟨w1.heap.size, 0, none⟩) 7 7) 7 (([0, 1, 127, 128, 2147483646, 2147483647, 1000000000000] : List Int).map iv) := Rd.new w1 (([0, 1, 127, 128, 2147483646, 2147483647, 1000000000000] : List Int).map iv) 3 1 7 (by decide) rfl
    replace hc := hc.ext yb3
    replace hr := hr.ext yb3
    replace M := M.trans (Mut.of_ext yb3)
    clear yb3
    have C := hid (l1Int_c hc hr hd rl (.inl (by omega)) (by decide))
    clear hc
    go_wp2_with fail
    refine C.out.mono ?_
    clear C
    rintro e w4 ⟨z, hz, rfl, hc, m4⟩
    have s4 := m4.size
    replace hr := hr.mut m4 (by omega)
    replace M := M.trans m4
    clear m4
    clear rl
    have zb : 0 ≤ z ∧ z ≤ 1000000000000 := by simp at hz; omega
    obtain ⟨zb0, zb1⟩ := zb
    clear hz
    go_wp2
    go_ret
    exact ⟨_, rfl, (by omega), (by omega), hc, M⟩
  have e1 : (x == 1) = false := beq_eq_false_iff_ne.2 g1
  have f1 : decide (x = 1) = false := decide_eq_false g1
  clear g1
  by_cases g2 : x = 2
  · subst g2
    have C := hid (l1Below_c (m := 1000000) hc hr hd (by omega))
    clear hc
    go_wp2_with fail
    refine C.out.mono ?_
    clear C
    rintro e w5 ⟨y, rfl, y0, y1, hc, m5⟩
    have s5 := m5.size
    replace hr := hr.mut m5 (by omega)
    replace M := M.trans m5
    clear m5
    have C := hid (l1Below_c (m := 1000000) hc hr hd (by omega))
    clear hc
    go_wp2_with fail
    refine C.out.mono ?_
    clear C
    rintro e w6 ⟨t, rfl, t0, t1, hc, m6⟩
    have s6 := m6.size
    replace hr := hr.mut m6 (by omega)
    replace M := M.trans m6
    clear m6
    have p0 := Int.mul_nonneg y0 t0
    have p1 : y * t ≤ 1000000 * 1000000 := Int.mul_le_mul (by omega) (by omega) t0 (by omega)
    go_wp2
    go_ret
    exact ⟨_, rfl, (by omega), (by omega), hc, M⟩
  have e2 : (x == 2) = false := beq_eq_false_iff_ne.2 g2
  have f2 : decide (x = 2) = false := decide_eq_false g2
  clear g2
  have C := hid (l1Below_c (m := 20) hc hr hd (by omega))
  clear hc
  go_wp2_with fail
  refine C.out.mono ?_
  clear C
  rintro e w7 ⟨y, rfl, y0, y1, hc, m7⟩
  have s7 := m7.size
  replace hr := hr.mut m7 (by omega)
  replace M := M.trans m7
  clear m7
  go_wp2
  go_ret
  exact ⟨_, rfl, (by omega), (by omega), hc, M⟩
set_option maxRecDepth 100000 in
set_option maxHeartbeats 2000000 in
theorem l1Raw_c {w : World} {c lo hi n : Nat} {cv : Value} {xs : List UInt8} (hc : CurAt w c cv n) (hr : Rd w lo hi 1 cv n (xs.map bv)) (hd : c < lo ∨ hi ≤ c) (hhi : hi ≤ w.heap.size) (hcs : c < w.heap.size) :
    Calls Tryd.prog 38 #[.pointer (some ⟨c, 0, none⟩)] w fun e w' => ∃ z : Int, e = .returned (.int .i64 z) ∧ -9223372036854775808 ≤ z ∧ z ≤ 9223372036854775807 ∧ CurAt w' c cv n ∧ Mut c (c + 1) w w' := by
  have M := Mut.refl c (c + 1) w
  go_enter Tryd.func38, Tryd.ntmps38
  have C := hid (l1Once_c (m := 2) hc hr hd (by omega))
  clear hc
  go_wp2_with fail
  refine C.out.mono ?_
  clear C
  rintro e w1 ⟨b, rfl, hc, m1⟩
  have s1 := m1.size
  replace hr := hr.mut m1 (by omega)
  replace M := M.trans m1
  clear m1
  cases b
  · have yb2 := ext_alloc (ext_refl w1) (.cells #[.int .i64 (-1), .int .i64 1000000000000, .int .i64 1000000000001] 3)
    have sb2 := yb2.size
    have rl : Rd (w1.alloc (.cells #[.int .i64 (-1), .int .i64 1000000000000, .int .i64 1000000000001] 3)) w1.heap.size (w1.heap.size + 1) 1 (.slice (some ⟨w1.heap.size, 0, none⟩) 3 3) 3 (([-1, 1000000000000, 1000000000001] : List Int).map iv) := Rd.new w1 (([-1, 1000000000000, 1000000000001] : List Int).map iv) 3 1 3 (by decide) rfl
    replace hc := hc.ext yb2
    replace hr := hr.ext yb2
    replace M := M.trans (Mut.of_ext yb2)
    clear yb2
    have C := hid (l1Int_c hc hr hd rl (.inl (by omega)) (by decide))
    clear hc
    go_wp2_with fail
    refine C.out.mono ?_
    clear C
    rintro e w3 ⟨z, hz, rfl, hc, m3⟩
    have s3 := m3.size
    replace hr := hr.mut m3 (by omega)
    replace M := M.trans m3
    clear m3
    clear rl
    have zb : -1 ≤ z ∧ z ≤ 1000000000001 := by simp at hz; omega
    obtain ⟨zb0, zb1⟩ := zb
    clear hz
    go_wp2
    go_ret
    exact ⟨_, rfl, (by omega), (by omega), hc, M⟩
  · have C := hid (l1Odd_c hc hr hd (by omega) (by omega))
    clear hc
    go_wp2_with fail
    refine C.out.mono ?_
    clear C
    rintro e w4 ⟨z, rfl, z0, z1, hc, m4⟩
    have s4 := m4.size
    replace hr := hr.mut m4 (by omega)
    replace M := M.trans m4
    clear m4
    go_wp2
    go_ret
    exact ⟨_, rfl, (by omega), (by omega), hc, M⟩
set_option maxRecDepth 100000 in
set_option maxHeartbeats 2000000 in
theorem l1One_c {w : World} {c lo hi n : Nat} {cv : Value} {xs : List UInt8} (hc : CurAt w c cv n) (hr : Rd w lo hi 1 cv n (xs.map bv)) (hd : c < lo ∨ hi ≤ c) (hhi : hi ≤ w.heap.size) (hcs : c < w.heap.size) :
    Calls Tryd.prog 29 #[.pointer (some ⟨c, 0, none⟩)] w fun e w' => ∃ z : Int, e = .returned (.int .i64 z) ∧ -9223372036854775808 ≤ z ∧ z ≤ 9223372036854775807 ∧ CurAt w' c cv n ∧ Mut c (c + 1) w w' := by
  have M := Mut.refl c (c + 1) w
  go_enter Tryd.func29, Tryd.ntmps29
  have C := hid (l1Once_c (m := 6) hc hr hd (by omega))
  clear hc
  go_wp2_with fail
  refine C.out.mono ?_
  clear C
  rintro e w1 ⟨b, rfl, hc, m1⟩
  have s1 := m1.size
  replace hr := hr.mut m1 (by omega)
  replace M := M.trans m1
  clear m1
  cases b
  · have C := hid (l1Num_c hc hr hd (by omega) (by omega))
    clear hc
    go_wp2_with fail
    refine C.out.mono ?_
    clear C
    rintro e w2 ⟨z, rfl, z0, z1, hc, m2⟩
    have s2 := m2.size
    replace hr := hr.mut m2 (by omega)
    replace M := M.trans m2
    clear m2
    go_wp2
    go_ret
    exact ⟨_, rfl, (by omega), (by omega), hc, M⟩
  · have C := hid (l1Raw_c hc hr hd (by omega) (by omega))
    clear hc
    go_wp2_with fail
    refine C.out.mono ?_
    clear C
    rintro e w3 ⟨z, rfl, z0, z1, hc, m3⟩
    have s3 := m3.size
    replace hr := hr.mut m3 (by omega)
    replace M := M.trans m3
    clear m3
    go_wp2
    go_ret
    exact ⟨_, rfl, (by omega), (by omega), hc, M⟩
end Go.Proofs.YtmabcdnjojjgeaaDoor
