/- Numbers and bytes that the reference draws: their shape and their size, no more. Condition: the cursor lies in a block of its own and reads its bytes. -/
import Derived.Test.YtiikpkkpacjamaaDr
import Derived.Test.YtiikpkkpacjamaaCur
import Derived.Test.YtiikpkkpacjamaaApp
import Derived.Test.YtiikpkkpacjamaaIntsS
import Derived.OwnWalk
set_option linter.unusedVariables false
namespace Go.Proofs.Ytiikpkkpacjamaa
open Go.RowKit
theorem byte_of {z : Int} (h0 : 0 ≤ z) (h1 : z ≤ 255) : Value.int .u8 z = bv (UInt8.ofNat z.toNat) := by
  unfold bv
  rw [UInt8.toNat_ofNat', Nat.mod_eq_of_lt (by omega)]
  congr 1
  omega
theorem Rd.takeB {w : World} {lo hi n k cap : Nat} {a : Option Addr} {xs : List Value} (h : Rd w lo hi 1 (.slice a n cap) n xs) (hk : k ≤ n) : Rd w lo hi 1 (.slice a k cap) k (xs.take k) := by
  obtain ⟨h1, a', cap', e, h2, h3, h4⟩ := h
  simp only [Value.slice.injEq, true_and] at e
  obtain ⟨rfl, rfl⟩ := e
  refine ⟨by rw [List.length_take]; omega, a, cap, rfl, by omega, h3, fun hn => ?_⟩
  obtain ⟨b, off, hb, hl, hh, hbs, hc⟩ := h4 (by omega)
  exact ⟨b, off, hb, hl, hh, hbs, fun j u hu => hc j u (by rw [List.getElem?_take] at hu; split at hu; exact hu; cases hu)⟩
set_option maxHeartbeats 1000000 in
theorem l1Int_c {w : World} {c lo hi n : Nat} {cv : Value} {xs : List UInt8} (hc : CurAt w c cv n) (hr : Rd w lo hi 1 cv n (xs.map bv)) (hd : c < lo ∨ hi ≤ c) {lo' hi' m : Nat} {v : Value} {zs : List Int} (h : Rd w lo' hi' 1 v m (zs.map iv)) (hd' : c < lo' ∨ hi' ≤ c) (hm : 0 < m) :
    Calls Try.prog 61 #[.pointer (some ⟨c, 0, none⟩), v] w fun e w' => ∃ z ∈ zs, e = .returned (.int .i64 z) ∧ CurAt w' c cv n ∧ Mut c (c + 1) w w' := by
  have hl : zs.length = m := by have := h.1; simpa using this
  obtain ⟨a, cap, rfl, hmm⟩ := h.form
  go_enter Try.func61, Try.ntmps61
  go_wp2_with fail
  refine (l1Below_c (m := (m : Int)) hc hr hd (by omega)).mono ?_
  rintro e w1 ⟨x, rfl, x0, x1, hc1, m1⟩
  have h1 := h.mut m1 (by omega)
  clear hc hr h
  obtain ⟨k, rfl⟩ := Int.eq_ofNat_of_zero_le x0
  have hk : k < m := by omega
  have hkx : k < zs.length := by omega
  obtain ⟨_, a', cap', e1, _, _, hat⟩ := h1
  simp only [Value.slice.injEq, true_and] at e1
  obtain ⟨rfl, rfl⟩ := e1
  obtain ⟨b, off, rfl, _, _, hbs, hcell⟩ := hat hm
  have c1 : w1.cell? ⟨b, off + k, none⟩ = some (.int .i64 zs[k]) := hcell k _ (by simp [hkx, iv])
  have HM := hid (List.getElem_mem hkx)
  clear hcell hat
  generalize zs[k] = t at *
  go_wp2
  go_ret
  exact ⟨t, HM.out, rfl, hc1, m1⟩
set_option maxRecDepth 100000 in
set_option maxHeartbeats 2000000 in
theorem l1Odd_c {w : World} {c lo hi n : Nat} {cv : Value} {xs : List UInt8} (hc : CurAt w c cv n) (hr : Rd w lo hi 1 cv n (xs.map bv)) (hd : c < lo ∨ hi ≤ c) (hhi : hi ≤ w.heap.size) (hcs : c < w.heap.size) :
    Calls Try.prog 75 #[.pointer (some ⟨c, 0, none⟩)] w fun e w' => ∃ z : Int, e = .returned (.int .i64 z) ∧ CurAt w' c cv n ∧ Mut c (c + 1) w w' := by
  have M := Mut.refl c (c + 1) w
  go_enter Try.func75, Try.ntmps75
  have yb1 := ext_alloc (ext_refl w) (.cells #[.int .i64 (-1), .int .i64 0, .int .i64 1, .int .i64 2, .int .i64 255, .int .i64 256, .int .i64 65535, .int .i64 2147483647, .int .i64 2147483648, .int .i64 4294967295, .int .i64 4294967296, .int .i64 (-2147483648), .int .i64 9223372036854775807, .int .i64 (-9223372036854775808)] 3)
  have sb1 := yb1.size
  have rl : Rd (w.alloc (.cells #[.int .i64 (-1), .int .i64 0, .int .i64 1, .int .i64 2, .int .i64 255, .int .i64 256, .int .i64 65535, .int .i64 2147483647, .int .i64 2147483648, .int .i64 4294967295, .int .i64 4294967296, .int .i64 (-2147483648), .int .i64 9223372036854775807, .int .i64 (-9223372036854775808)] 3)) w.heap.size (w.heap.size + 1) 1 (.slice (some ⟨w.heap.size, 0, none⟩) 14 14) 14 (([-1, 0, 1, 2, 255, 256, 65535, 2147483647, 2147483648, 4294967295, 4294967296, -2147483648, 9223372036854775807, -9223372036854775808] : List Int).map iv) := Rd.new w (([-1, 0, 1, 2, 255, 256, 65535, 2147483647, 2147483648, 4294967295, 4294967296, -2147483648, 9223372036854775807, -9223372036854775808] : List Int).map iv) 3 1 14 (by decide) rfl
  replace hc := hc.ext yb1
  replace hr := hr.ext yb1
  replace M := M.trans (Mut.of_ext yb1)
  clear yb1
  have C := hid (l1Int_c hc hr hd rl (.inl (by omega)) (by decide))
  clear hc
  go_wp2_with fail
  refine C.out.mono ?_
  clear C
  rintro e w2 ⟨z, hz, rfl, hc, m2⟩
  have s2 := m2.size
  replace hr := hr.mut m2 (by omega)
  replace M := M.trans m2
  clear m2
  clear rl
  go_wp2
  go_ret
  exact ⟨_, rfl, hc, M⟩
set_option maxRecDepth 100000 in
set_option maxHeartbeats 2000000 in
theorem l1Num_c {w : World} {c lo hi n : Nat} {cv : Value} {xs : List UInt8} (hc : CurAt w c cv n) (hr : Rd w lo hi 1 cv n (xs.map bv)) (hd : c < lo ∨ hi ≤ c) (hhi : hi ≤ w.heap.size) (hcs : c < w.heap.size) :
    Calls Try.prog 60 #[.pointer (some ⟨c, 0, none⟩)] w fun e w' => ∃ z : Int, e = .returned (.int .i64 z) ∧ CurAt w' c cv n ∧ Mut c (c + 1) w w' := by
  have M := Mut.refl c (c + 1) w
  go_enter Try.func60, Try.ntmps60
  have C := hid (l1Below_c (m := 4) hc hr hd (by omega))
  clear hc
  go_wp2_with fail
  refine C.out.mono ?_
  clear C
  rintro e w1 ⟨x, rfl, x0, x1, hc, m1⟩
  have s1 := m1.size
  replace hr := hr.mut m1 (by omega)
  replace M := M.trans m1
  clear m1
  by_cases g0 : x = 0
  · subst g0
    have C := hid (l1Below_c (m := 2000) hc hr hd (by omega))
    clear hc
    go_wp2_with fail
    refine C.out.mono ?_
    clear C
    rintro e w2 ⟨y, rfl, y0, y1, hc, m2⟩
    have s2 := m2.size
    replace hr := hr.mut m2 (by omega)
    replace M := M.trans m2
    clear m2
    go_wp2
    go_ret
    exact ⟨_, rfl, hc, M⟩
  have e0 : (x == 0) = false := beq_eq_false_iff_ne.2 g0
  have f0 : decide (x = 0) = false := decide_eq_false g0
  clear g0
  by_cases g1 : x = 1
  · subst g1
    have yb3 := ext_alloc (ext_refl w1) (.cells #[.int .i64 0, .int .i64 1, .int .i64 127, .int .i64 128, .int .i64 2147483646, .int .i64 2147483647, .int .i64 1000000000000] 3)
    have sb3 := yb3.size
    have rl : Rd (w1.alloc (.cells #[.int .i64 0, .int .i64 1, .int .i64 127, .int .i64 128, .int .i64 2147483646, .int .i64 2147483647, .int .i64 1000000000000] 3)) w1.heap.size (w1.heap.size + 1) 1 (.slice (some ⟨w1.heap.size, 0, none⟩) 7 7) 7 (([0, 1, 127, 128, 2147483646, 2147483647, 1000000000000] : List Int).map iv) := Rd.new w1 (([0, 1, 127, 128, 2147483646, 2147483647, 1000000000000] : List Int).map iv) 3 1 7 (by decide) rfl
    replace hc := hc.ext yb3
    replace hr := hr.ext yb3
    replace M := M.trans (Mut.of_ext yb3)
    clear yb3
    have C := hid (l1Int_c hc hr hd rl (.inl (by omega)) (by decide))
    clear hc
    go_wp2_with fail
    refine C.out.mono ?_
    clear C
    rintro e w4 ⟨z, hz, rfl, hc, m4⟩
    have s4 := m4.size
    replace hr := hr.mut m4 (by omega)
    replace M := M.trans m4
    clear m4
    clear rl
    go_wp2
    go_ret
    exact ⟨_, rfl, hc, M⟩
  have e1 : (x == 1) = false := beq_eq_false_iff_ne.2 g1
  have f1 : decide (x = 1) = false := decide_eq_false g1
  clear g1
  by_cases g2 : x = 2
  · subst g2
    have C := hid (l1Below_c (m := 1000000) hc hr hd (by omega))
    clear hc
    go_wp2_with fail
    refine C.out.mono ?_
    clear C
    rintro e w5 ⟨y, rfl, y0, y1, hc, m5⟩
    have s5 := m5.size
    replace hr := hr.mut m5 (by omega)
    replace M := M.trans m5
    clear m5
    have C := hid (l1Below_c (m := 1000000) hc hr hd (by omega))
    clear hc
    go_wp2_with fail
    refine C.out.mono ?_
    clear C
    rintro e w6 ⟨t, rfl, t0, t1, hc, m6⟩
    have s6 := m6.size
    replace hr := hr.mut m6 (by omega)
    replace M := M.trans m6
    clear m6
    go_wp2
    go_ret
    exact ⟨_, rfl, hc, M⟩
  have e2 : (x == 2) = false := beq_eq_false_iff_ne.2 g2
  have f2 : decide (x = 2) = false := decide_eq_false g2
  clear g2
  have C := hid (l1Below_c (m := 20) hc hr hd (by omega))
  clear hc
  go_wp2_with fail
  refine C.out.mono ?_
  clear C
  rintro e w7 ⟨y, rfl, y0, y1, hc, m7⟩
  have s7 := m7.size
  replace hr := hr.mut m7 (by omega)
  replace M := M.trans m7
  clear m7
  go_wp2
  go_ret
  exact ⟨_, rfl, hc, M⟩
set_option maxRecDepth 100000 in
set_option maxHeartbeats 2000000 in
theorem l1Raw_c {w : World} {c lo hi n : Nat} {cv : Value} {xs : List UInt8} (hc : CurAt w c cv n) (hr : Rd w lo hi 1 cv n (xs.map bv)) (hd : c < lo ∨ hi ≤ c) (hhi : hi ≤ w.heap.size) (hcs : c < w.heap.size) :
    Calls Try.prog 65 #[.pointer (some ⟨c, 0, none⟩)] w fun e w' => ∃ z : Int, e = .returned (.int .i64 z) ∧ CurAt w' c cv n ∧ Mut c (c + 1) w w' := by
  have M := Mut.refl c (c + 1) w
  go_enter Try.func65, Try.ntmps65
  have C := hid (l1Once_c (m := 2) hc hr hd (by omega))
  clear hc
  go_wp2_with fail
  refine C.out.mono ?_
  clear C
  rintro e w1 ⟨b, rfl, hc, m1⟩
  have s1 := m1.size
  replace hr := hr.mut m1 (by omega)
  replace M := M.trans m1
  clear m1
  cases b
  · have yb2 := ext_alloc (ext_refl w1) (.cells #[.int .i64 (-1), .int .i64 1000000000000, .int .i64 1000000000001] 3)
    have sb2 := yb2.size
    have rl : Rd (w1.alloc (.cells #[.int .i64 (-1), .int .i64 1000000000000, .int .i64 1000000000001] 3)) w1.heap.size (w1.heap.size + 1) 1 (.slice (some ⟨w1.heap.size, 0, none⟩) 3 3) 3 (([-1, 1000000000000, 1000000000001] : List Int).map iv) := Rd.new w1 (([-1, 1000000000000, 1000000000001] : List Int).map iv) 3 1 3 (by decide) rfl
    replace hc := hc.ext yb2
    replace hr := hr.ext yb2
    replace M := M.trans (Mut.of_ext yb2)
    clear yb2
    have C := hid (l1Int_c hc hr hd rl (.inl (by omega)) (by decide))
    clear hc
    go_wp2_with fail
    refine C.out.mono ?_
    clear C
    rintro e w3 ⟨z, hz, rfl, hc, m3⟩
    have s3 := m3.size
    replace hr := hr.mut m3 (by omega)
    replace M := M.trans m3
    clear m3
    clear rl
    go_wp2
    go_ret
    exact ⟨_, rfl, hc, M⟩
  · have C := hid (l1Odd_c hc hr hd (by omega) (by omega))
    clear hc
    go_wp2_with fail
    refine C.out.mono ?_
    clear C
    rintro e w4 ⟨z, rfl, hc, m4⟩
    have s4 := m4.size
    replace hr := hr.mut m4 (by omega)
    replace M := M.trans m4
    clear m4
    go_wp2
    go_ret
    exact ⟨_, rfl, hc, M⟩
set_option maxRecDepth 100000 in
set_option maxHeartbeats 2000000 in
theorem l1One_c {w : World} {c lo hi n : Nat} {cv : Value} {xs : List UInt8} (hc : CurAt w c cv n) (hr : Rd w lo hi 1 cv n (xs.map bv)) (hd : c < lo ∨ hi ≤ c) (hhi : hi ≤ w.heap.size) (hcs : c < w.heap.size) :
    Calls Try.prog 56 #[.pointer (some ⟨c, 0, none⟩)] w fun e w' => ∃ z : Int, e = .returned (.int .i64 z) ∧ CurAt w' c cv n ∧ Mut c (c + 1) w w' := by
  have M := Mut.refl c (c + 1) w
  go_enter Try.func56, Try.ntmps56
  have C := hid (l1Once_c (m := 6) hc hr hd (by omega))
  clear hc
  go_wp2_with fail
  refine C.out.mono ?_
  clear C
  rintro e w1 ⟨b, rfl, hc, m1⟩
  have s1 := m1.size
  replace hr := hr.mut m1 (by omega)
  replace M := M.trans m1
  clear m1
  cases b
  · have C := hid (l1Num_c hc hr hd (by omega) (by omega))
    clear hc
    go_wp2_with fail
    refine C.out.mono ?_
    clear C
    rintro e w2 ⟨z, rfl, hc, m2⟩
    have s2 := m2.size
    replace hr := hr.mut m2 (by omega)
    replace M := M.trans m2
    clear m2
    go_wp2
    go_ret
    exact ⟨_, rfl, hc, M⟩
  · have C := hid (l1Raw_c hc hr hd (by omega) (by omega))
    clear hc
    go_wp2_with fail
    refine C.out.mono ?_
    clear C
    rintro e w3 ⟨z, rfl, hc, m3⟩
    have s3 := m3.size
    replace hr := hr.mut m3 (by omega)
    replace M := M.trans m3
    clear m3
    go_wp2
    go_ret
    exact ⟨_, rfl, hc, M⟩
set_option maxRecDepth 100000 in
set_option maxHeartbeats 2000000 in
theorem l3Word_c {w : World} {c lo hi n : Nat} {cv : Value} {xs : List UInt8} (hc : CurAt w c cv n) (hr : Rd w lo hi 1 cv n (xs.map bv)) (hd : c < lo ∨ hi ≤ c) (hhi : hi ≤ w.heap.size) (hcs : c < w.heap.size) :
    Calls Try.prog 67 #[.pointer (some ⟨c, 0, none⟩)] w fun e w' => ∃ z : Int, e = .returned (.int .i64 z) ∧ CurAt w' c cv n ∧ Mut c (c + 1) w w' := by
  have M := Mut.refl c (c + 1) w
  go_enter Try.func67, Try.ntmps67
  have C := hid (l1Once_c (m := 10) hc hr hd (by omega))
  clear hc
  go_wp2_with fail
  refine C.out.mono ?_
  clear C
  rintro e w1 ⟨b, rfl, hc, m1⟩
  have s1 := m1.size
  replace hr := hr.mut m1 (by omega)
  replace M := M.trans m1
  clear m1
  cases b
  · have C := hid (l1Once_c (m := 4) hc hr hd (by omega))
    clear hc
    go_wp2_with fail
    refine C.out.mono ?_
    clear C
    rintro e w2 ⟨b, rfl, hc, m2⟩
    have s2 := m2.size
    replace hr := hr.mut m2 (by omega)
    replace M := M.trans m2
    clear m2
    cases b
    · have C := hid (l1Below_c (m := 1000000) hc hr hd (by omega))
      clear hc
      go_wp2_with fail
      refine C.out.mono ?_
      clear C
      rintro e w3 ⟨y, rfl, y0, y1, hc, m3⟩
      have s3 := m3.size
      replace hr := hr.mut m3 (by omega)
      replace M := M.trans m3
      clear m3
      have C := hid (l1Below_c (m := 2000) hc hr hd (by omega))
      clear hc
      go_wp2_with fail
      refine C.out.mono ?_
      clear C
      rintro e w4 ⟨t, rfl, t0, t1, hc, m4⟩
      have s4 := m4.size
      replace hr := hr.mut m4 (by omega)
      replace M := M.trans m4
      clear m4
      go_wp2
      go_ret
      exact ⟨_, rfl, hc, M⟩
    · have yb5 := ext_alloc (ext_refl w2) (.cells #[.int .i64 0, .int .i64 1, .int .i64 2147483646] 3)
      have sb5 := yb5.size
      have rl : Rd (w2.alloc (.cells #[.int .i64 0, .int .i64 1, .int .i64 2147483646] 3)) w2.heap.size (w2.heap.size + 1) 1 (.slice (some ⟨w2.heap.size, 0, none⟩) 3 3) 3 (([0, 1, 2147483646] : List Int).map iv) := Rd.new w2 (([0, 1, 2147483646] : List Int).map iv) 3 1 3 (by decide) rfl
      replace hc := hc.ext yb5
      replace hr := hr.ext yb5
      replace M := M.trans (Mut.of_ext yb5)
      clear yb5
      have C := hid (l1Int_c hc hr hd rl (.inl (by omega)) (by decide))
      clear hc
      go_wp2_with fail
      refine C.out.mono ?_
      clear C
      rintro e w6 ⟨z, hz, rfl, hc, m6⟩
      have s6 := m6.size
      replace hr := hr.mut m6 (by omega)
      replace M := M.trans m6
      clear m6
      clear rl
      go_wp2
      go_ret
      exact ⟨_, rfl, hc, M⟩
  · have yb7 := ext_alloc (ext_refl w1) (.cells #[.int .i64 (-1), .int .i64 2147483647, .int .i64 2147483648] 3)
    have sb7 := yb7.size
    have rl : Rd (w1.alloc (.cells #[.int .i64 (-1), .int .i64 2147483647, .int .i64 2147483648] 3)) w1.heap.size (w1.heap.size + 1) 1 (.slice (some ⟨w1.heap.size, 0, none⟩) 3 3) 3 (([-1, 2147483647, 2147483648] : List Int).map iv) := Rd.new w1 (([-1, 2147483647, 2147483648] : List Int).map iv) 3 1 3 (by decide) rfl
    replace hc := hc.ext yb7
    replace hr := hr.ext yb7
    replace M := M.trans (Mut.of_ext yb7)
    clear yb7
    have C := hid (l1Int_c hc hr hd rl (.inl (by omega)) (by decide))
    clear hc
    go_wp2_with fail
    refine C.out.mono ?_
    clear C
    rintro e w8 ⟨z, hz, rfl, hc, m8⟩
    have s8 := m8.size
    replace hr := hr.mut m8 (by omega)
    replace M := M.trans m8
    clear m8
    clear rl
    go_wp2
    go_ret
    exact ⟨_, rfl, hc, M⟩
set_option maxRecDepth 100000 in
set_option maxHeartbeats 2000000 in
theorem l1Bytes_c {w : World} {c lo hi n : Nat} {cv : Value} {xs : List UInt8} (hc : CurAt w c cv n) (hr : Rd w lo hi 1 cv n (xs.map bv)) (hd : c < lo ∨ hi ≤ c) (hhi : hi ≤ w.heap.size) (hcs : c < w.heap.size) {m : Int} (hm : m ≤ 1000000) :
    Calls Try.prog 54 #[.pointer (some ⟨c, 0, none⟩), .int .i64 m] w fun e w' => ∃ (r : Value) (bs : List UInt8), e = .returned r ∧ Own w' w.heap.size w'.heap.size 5 1 r bs.length (bs.map bv) ∧ bs.length ≤ m.toNat ∧ CurAt w' c cv n ∧ Mut c (c + 1) w w' := by
  have y0 := ext_alloc (ext_refl w) (.cells #[] 5)
  have oe := Own.new w #[] 5 1 0 (by decide) rfl
  have he : (w.alloc (.cells #[] 5)).heap.size = w.heap.size + 1 := by simp
  have HC := hid hc
  have HR := hid hr
  clear hc hr
  go_enter Try.func54, Try.ntmps54
  go_wp2
  go_loopw [5, 6] (fun u i wr => ∃ (k : Nat) (bs : List UInt8), (k = 0 ∨ (k : Int) ≤ m) ∧ bs.length ≤ k ∧ i = .int .i64 k ∧ Own wr w.heap.size wr.heap.size 5 1 u bs.length (bs.map bv) ∧ CurAt wr c cv n ∧ w.heap.size ≤ wr.heap.size ∧ Mut c (c + 1) w wr) (fun _ i _ => (m - intOf i).toNat)
  case atStart => exact ⟨0, [], .inl rfl, Nat.zero_le _, rfl, oe.mono (Nat.le_refl _) (by omega), HC.out.ext y0, by omega, Mut.of_ext y0⟩
  case round =>
    obtain ⟨k, bs, hk, hl, rfl, o1, hc, hsz, M⟩ := hrel
    clear y0 oe he
    have hr := HR.out.mut M (by omega)
    obtain ⟨a1, c1, rfl, _⟩ := o1.rd.form
    by_cases hlt : (k : Int) < m
    · have C := hid (l1Byte_c hc hr hd)
      clear hc
      go_wp2_with fail
      refine C.out.mono ?_
      clear C
      rintro e w1 ⟨x, rfl, x0, x1, hc, m1⟩
      have s1 := m1.size
      replace M := M.trans m1
      replace o1 := (o1.mut m1 (by omega)).mono (Nat.le_refl w.heap.size) s1
      clear m1 hr
      have HX := hid (byte_of x0 x1)
      obtain ⟨i0, hi0, hz0, hz1, hz2⟩ := info_parts info_byte
      go_wp2_with (at_builtin; refine wpList_append_Own rfl _ _ 22 rfl 5 i0 (.int .u8 0) 1 1 Try.underlying22 hi0 hz0 hz1 hz2 rfl (by decide) rfl (o1.ext (ext_alloc (ext_refl _) _)) rfl (Rd.new _ [.int .u8 x] 5 1 1 (by decide) rfl) (by simp; rfl) (by omega) (by omega) (Nat.le_trans (by omega) (ext_alloc (ext_refl _) _).size) ?_)
      intro v2 w2 ho2 m2
      have yb := ext_alloc (ext_refl w1) (.cells #[.int .u8 x] 5)
      have sb := yb.size
      have s2 := m2.size
      have HC2 := hid ((hc.ext yb).mut m2 (.inl (by omega)))
      have HM2 := hid ((M.trans (Mut.of_ext yb)).after m2 (by omega))
      have HO2 : Hid (Own w2 w.heap.size w2.heap.size 5 1 v2 (bs ++ [UInt8.ofNat x.toNat]).length ((bs ++ [UInt8.ofNat x.toNat]).map bv)) := by rw [List.length_append, List.map_append, List.map_cons, List.map_nil, ← HX.out]; exact ho2
      have hl2 : (bs ++ [UInt8.ofNat x.toNat]).length ≤ k + 1 := by simp; omega
      have HL2 := hid hl2
      clear yb m2 ho2 o1 hi0 hz0 hz1 hz2 hc M HX hl2
      go_wp2
      go_roundw
      case rel => exact ⟨k + 1, _, .inr (by omega), HL2.out, by go_num, HO2.out, HC2.out, by omega, HM2.out⟩
      case measure => simp [intOf]; omega
    · have e1 : decide ((k : Int) < m) = false := decide_eq_false hlt
      go_wp2
      go_ret
      first | exact ⟨_, bs, rfl, o1, by omega, hc, M⟩ | exact ⟨_, rfl, bs, o1, by omega, hc, M⟩
set_option maxRecDepth 100000 in
set_option maxHeartbeats 2000000 in
theorem l2Ints_c {w : World} {c lo hi n : Nat} {cv : Value} {xs : List UInt8} (hc : CurAt w c cv n) (hr : Rd w lo hi 1 cv n (xs.map bv)) (hd : c < lo ∨ hi ≤ c) (hhi : hi ≤ w.heap.size) (hcs : c < w.heap.size) {q : Int} (hq0 : 0 ≤ q) (hq : q ≤ 1000) :
    Calls Try.prog 64 #[.pointer (some ⟨c, 0, none⟩), .int .i64 q] w fun e w' => ∃ (r : Value) (zs : List Int), e = .returned r ∧ Own w' w.heap.size w'.heap.size 3 1 r zs.length (zs.map iv) ∧ (zs.length : Int) ≤ q ∧ CurAt w' c cv n ∧ Mut c (c + 1) w w' := by
  have y0 := ext_alloc (ext_refl w) (.cells #[] 3)
  have oe := Own.new w #[] 3 1 0 (by decide) rfl
  have he : (w.alloc (.cells #[] 3)).heap.size = w.heap.size + 1 := by simp
  have M0 := Mut.of_ext (lo := c) (hi := c + 1) y0
  have s0 := y0.size
  replace hc := hc.ext y0
  replace hr := hr.ext y0
  have HR := hid hr
  have C := hid (l1Below_c (m := q + 1) hc hr hd (by omega))
  clear hc y0
  obtain ⟨W, hW⟩ : ∃ W, W = w.alloc (.cells #[] 3) := ⟨_, rfl⟩
  rw [← hW] at hr M0 s0 HR C oe he
  go_enter Try.func64, Try.ntmps64
  go_wp2_with fail
  rw [← hW]
  clear hW
  refine C.out.mono ?_
  clear C
  rintro e w1 ⟨x, rfl, x0, x1, hc, m1⟩
  have s1 := m1.size
  have M := M0.trans m1
  have o1 := (oe.mono (Nat.le_refl w.heap.size) (show w.heap.size + 1 ≤ w1.heap.size by omega)).mut m1 (by omega)
  have hr1 := hr.mut m1 (by omega)
  have HR1 := hid hr1
  have hx : x ≤ q := by omega
  obtain ⟨kx, rfl⟩ := Int.eq_ofNat_of_zero_le x0
  clear m1 oe M0 hr hr1 HR he
  go_wp2
  go_loopw [5, 6] (fun u i wr => ∃ (k : Nat) (zs : List Int), k ≤ kx ∧ zs.length + k ≤ kx ∧ i = .int .i64 k ∧ Own wr w.heap.size wr.heap.size 3 1 u zs.length (zs.map iv) ∧ CurAt wr c cv n ∧ w1.heap.size ≤ wr.heap.size ∧ Hid (∀ V, Mut c (c + 1) wr V → Rd V lo hi 1 cv n (xs.map bv)) ∧ Mut c (c + 1) w wr) (fun _ i _ => (intOf i).toNat)
  case atStart => exact ⟨kx, [], Nat.le_refl _, by simp, rfl, o1, hc, Nat.le_refl _, hid (fun V q => HR1.out.mut q (by omega)), M⟩
  case round =>
    obtain ⟨k, zs, hk, hl, rfl, o1', hc', hsz, HRr, M'⟩ := hrel
    clear hc M o1
    obtain ⟨a1, c1, rfl, _⟩ := o1'.rd.form
    have hr := HRr.out wr (Mut.refl _ _ _)
    by_cases hlt : 0 < k
    · have hlt1 : (0 : Int) < (k : Int) := by omega
      have C := hid (l1Num_c hc' hr hd (by omega) (by omega))
      clear hc'
      go_wp2_with fail
      refine C.out.mono ?_
      clear C
      rintro e w2 ⟨z, rfl, hc, m2⟩
      have s2 := m2.size
      have hr2 := hr.mut m2 (by omega)
      have M := M'.trans m2
      have o2 := (o1'.mut m2 (by omega)).mono (Nat.le_refl w.heap.size) s2
      clear m2 M' o1' hr HRr
      obtain ⟨i0, hi0, hz0, hz1, hz2⟩ := info_parts info_int
      go_wp2_with (at_builtin; refine wpList_append_Own rfl _ _ 37 rfl 3 i0 (.int .i64 0) 1 8 Try.underlying37 hi0 hz0 hz1 hz2 rfl (by decide) rfl (o2.ext (ext_alloc (ext_refl _) _)) rfl (Rd.new _ [.int .i64 z] 3 1 1 (by decide) rfl) (by simp; rfl) (by omega) (by omega) (Nat.le_trans (by omega) (ext_alloc (ext_refl _) _).size) ?_)
      intro v3 w3 ho3 m3
      have yb := ext_alloc (ext_refl w2) (.cells #[.int .i64 z] 3)
      have sb := yb.size
      have s3 := m3.size
      have HC2 := hid ((hc.ext yb).mut m3 (.inl (by omega)))
      have hr3 := (hr2.ext yb).mut m3 (by omega)
      have HR3 := hid (fun V (q : Mut c (c + 1) w3 V) => hr3.mut q (by omega))
      have HM2 := hid ((M.trans (Mut.of_ext yb)).after m3 (by omega))
      have HO2 : Hid (Own w3 w.heap.size w3.heap.size 3 1 v3 (zs ++ [z]).length ((zs ++ [z]).map iv)) := by rw [List.length_append, List.map_append]; exact ho3
      obtain ⟨j, rfl⟩ : ∃ j, k = j + 1 := ⟨k - 1, by omega⟩
      have HL2 := hid (show (zs ++ [z]).length + j ≤ kx by simp; omega)
      clear yb m3 ho3 o2 hi0 hz0 hz1 hz2 hc M hr2 hr3
      go_wp2
      go_roundw
      case rel => exact ⟨j, zs ++ [z], by omega, HL2.out, (by first | rfl | go_num), HO2.out, HC2.out, by omega, HR3, HM2.out⟩
      case measure => simp [intOf]
    · have hk0 : k = 0 := by omega
      subst hk0
      go_wp2
      go_ret
      first | exact ⟨_, zs, rfl, o1', by omega, hc', M'⟩ | exact ⟨_, rfl, zs, o1', by omega, hc', M'⟩
set_option maxRecDepth 100000 in
set_option maxHeartbeats 2000000 in
theorem l3Words_c {w : World} {c lo hi n : Nat} {cv : Value} {xs : List UInt8} (hc : CurAt w c cv n) (hr : Rd w lo hi 1 cv n (xs.map bv)) (hd : c < lo ∨ hi ≤ c) (hhi : hi ≤ w.heap.size) (hcs : c < w.heap.size) :
    Calls Try.prog 68 #[.pointer (some ⟨c, 0, none⟩)] w fun e w' => ∃ (r : Value) (zs : List Int), e = .returned r ∧ Own w' w.heap.size w'.heap.size 3 1 r zs.length (zs.map iv) ∧ (zs.length : Int) ≤ 4 ∧ CurAt w' c cv n ∧ Mut c (c + 1) w w' := by
  have y0 := ext_alloc (ext_refl w) (.cells #[] 3)
  have oe := Own.new w #[] 3 1 0 (by decide) rfl
  have he : (w.alloc (.cells #[] 3)).heap.size = w.heap.size + 1 := by simp
  have M0 := Mut.of_ext (lo := c) (hi := c + 1) y0
  have s0 := y0.size
  replace hc := hc.ext y0
  replace hr := hr.ext y0
  have HR := hid hr
  have C := hid (l1Below_c (m := 5) hc hr hd (by omega))
  clear hc y0
  obtain ⟨W, hW⟩ : ∃ W, W = w.alloc (.cells #[] 3) := ⟨_, rfl⟩
  rw [← hW] at hr M0 s0 HR C oe he
  go_enter Try.func68, Try.ntmps68
  go_wp2_with fail
  rw [← hW]
  clear hW
  refine C.out.mono ?_
  clear C
  rintro e w1 ⟨x, rfl, x0, x1, hc, m1⟩
  have s1 := m1.size
  have M := M0.trans m1
  have o1 := (oe.mono (Nat.le_refl w.heap.size) (show w.heap.size + 1 ≤ w1.heap.size by omega)).mut m1 (by omega)
  have hr1 := hr.mut m1 (by omega)
  have HR1 := hid hr1
  have hx : x ≤ 4 := by omega
  obtain ⟨kx, rfl⟩ := Int.eq_ofNat_of_zero_le x0
  clear m1 oe M0 hr hr1 HR he
  go_wp2
  go_loopw [3, 4] (fun u i wr => ∃ (k : Nat) (zs : List Int), k ≤ kx ∧ zs.length + k ≤ kx ∧ i = .int .i64 k ∧ Own wr w.heap.size wr.heap.size 3 1 u zs.length (zs.map iv) ∧ CurAt wr c cv n ∧ w1.heap.size ≤ wr.heap.size ∧ Hid (∀ V, Mut c (c + 1) wr V → Rd V lo hi 1 cv n (xs.map bv)) ∧ Mut c (c + 1) w wr) (fun _ i _ => (intOf i).toNat)
  case atStart => exact ⟨kx, [], Nat.le_refl _, by simp, rfl, o1, hc, Nat.le_refl _, hid (fun V q => HR1.out.mut q (by omega)), M⟩
  case round =>
    obtain ⟨k, zs, hk, hl, rfl, o1', hc', hsz, HRr, M'⟩ := hrel
    clear hc M o1
    obtain ⟨a1, c1, rfl, _⟩ := o1'.rd.form
    have hr := HRr.out wr (Mut.refl _ _ _)
    by_cases hlt : 0 < k
    · have hlt1 : (0 : Int) < (k : Int) := by omega
      have C := hid (l3Word_c hc' hr hd (by omega) (by omega))
      clear hc'
      go_wp2_with fail
      refine C.out.mono ?_
      clear C
      rintro e w2 ⟨z, rfl, hc, m2⟩
      have s2 := m2.size
      have hr2 := hr.mut m2 (by omega)
      have M := M'.trans m2
      have o2 := (o1'.mut m2 (by omega)).mono (Nat.le_refl w.heap.size) s2
      clear m2 M' o1' hr HRr
      obtain ⟨i0, hi0, hz0, hz1, hz2⟩ := info_parts info_int
      go_wp2_with (at_builtin; refine wpList_append_Own rfl _ _ 37 rfl 3 i0 (.int .i64 0) 1 8 Try.underlying37 hi0 hz0 hz1 hz2 rfl (by decide) rfl (o2.ext (ext_alloc (ext_refl _) _)) rfl (Rd.new _ [.int .i64 z] 3 1 1 (by decide) rfl) (by simp; rfl) (by omega) (by omega) (Nat.le_trans (by omega) (ext_alloc (ext_refl _) _).size) ?_)
      intro v3 w3 ho3 m3
      have yb := ext_alloc (ext_refl w2) (.cells #[.int .i64 z] 3)
      have sb := yb.size
      have s3 := m3.size
      have HC2 := hid ((hc.ext yb).mut m3 (.inl (by omega)))
      have hr3 := (hr2.ext yb).mut m3 (by omega)
      have HR3 := hid (fun V (q : Mut c (c + 1) w3 V) => hr3.mut q (by omega))
      have HM2 := hid ((M.trans (Mut.of_ext yb)).after m3 (by omega))
      have HO2 : Hid (Own w3 w.heap.size w3.heap.size 3 1 v3 (zs ++ [z]).length ((zs ++ [z]).map iv)) := by rw [List.length_append, List.map_append]; exact ho3
      obtain ⟨j, rfl⟩ : ∃ j, k = j + 1 := ⟨k - 1, by omega⟩
      have HL2 := hid (show (zs ++ [z]).length + j ≤ kx by simp; omega)
      clear yb m3 ho3 o2 hi0 hz0 hz1 hz2 hc M hr2 hr3
      go_wp2
      go_roundw
      case rel => exact ⟨j, zs ++ [z], by omega, HL2.out, (by first | rfl | go_num), HO2.out, HC2.out, by omega, HR3, HM2.out⟩
      case measure => simp [intOf]
    · have hk0 : k = 0 := by omega
      subst hk0
      go_wp2
      go_ret
      first | exact ⟨_, zs, rfl, o1', by omega, hc', M'⟩ | exact ⟨_, rfl, zs, o1', by omega, hc', M'⟩
set_option maxRecDepth 100000 in
set_option maxHeartbeats 4000000 in
theorem l1Bent_c {w : World} {c lo hi n : Nat} {cv : Value} {xs : List UInt8} (hc : CurAt w c cv n) (hr : Rd w lo hi 1 cv n (xs.map bv)) (hd : c < lo ∨ hi ≤ c) (hhi : hi ≤ w.heap.size) (hcs : c < w.heap.size) {lo' hi' q : Nat} {v : Value} {ys : List UInt8} (hb : Rd w lo' hi' 1 v q (ys.map bv)) (hdb : c < lo' ∨ hi' ≤ c) (hhb : hi' ≤ w.heap.size) (hq : q ≤ 1000000) :
    Calls Try.prog 62 #[.pointer (some ⟨c, 0, none⟩), v] w fun e w' => ∃ (r : Value) (bs : List UInt8), e = .returned r ∧ Rd w' w.heap.size w'.heap.size 1 r bs.length (bs.map bv) ∧ bs.length ≤ q + 1 ∧ CurAt w' c cv n ∧ Mut c (c + 1) w w' := by
  have M := Mut.refl c (c + 1) w
  go_enter Try.func62, Try.ntmps62
  have hl0 : ys.length = q := by have := hb.1; simpa using this
  obtain ⟨i0, hi0, hz0, hz1, hz2⟩ := info_parts info_byte
  have yb1 := ext_alloc (ext_refl w) (.cells #[] 5)
  have sb1 := yb1.size
  have oe1 := Own.new w #[] 5 1 0 (by decide) rfl
  go_wp2_with (at_builtin; refine wpList_append_Own rfl _ _ 22 rfl 5 i0 (.int .u8 0) 1 1 Try.underlying22 hi0 hz0 hz1 hz2 rfl (by decide) rfl oe1 rfl (hb.ext yb1) (bv_one _) (by omega) (by omega) (by simp) ?_)
  intro v1 w1 ho1 m1
  have s1 := m1.size
  replace hc := (hc.ext yb1).mut m1 (.inl (by omega))
  replace hr := (hr.ext yb1).mut m1 (by omega)
  replace M := (M.trans (Mut.of_ext yb1)).after m1 (by omega)
  replace hb := (hb.ext yb1).mut m1 (by omega)
  clear yb1 m1 oe1 hi0 hz0 hz1 hz2
  try rw [List.nil_append, Nat.zero_add] at ho1
  have o1 := ho1
  clear ho1
  clear hb
  replace o1 : Own w1 w.heap.size w1.heap.size 5 1 v1 ys.length (ys.map bv) := by rw [hl0]; exact o1
  obtain ⟨a1, c1, rfl, _⟩ := o1.rd.form
  have HQ := hid hl0
  have hyl : ys.length ≤ q := by omega
  clear hl0
  have C := hid (l1Below_c (m := 6) hc hr hd (by omega))
  clear hc
  go_wp2_with fail
  refine C.out.mono ?_
  clear C
  rintro e w2 ⟨x, rfl, x0, x1, hc, m2⟩
  have s2 := m2.size
  replace hr := hr.mut m2 (by omega)
  replace M := M.trans m2
  replace o1 := o1.mut m2 (by omega)
  clear m2
  by_cases g0 : x = 0
  · subst g0
    by_cases hq : 0 < ys.length
    · have hq1 : (0 : Int) < (ys.length : Int) := by omega
      have C := hid (l1Below_c (m := (ys.length : Int)) hc hr hd (by omega))
      clear hc
      go_wp2_with fail
      refine C.out.mono ?_
      clear C
      rintro e w3 ⟨y, rfl, y0, y1, hc, m3⟩
      have s3 := m3.size
      replace hr := hr.mut m3 (by omega)
      replace M := M.trans m3
      replace o1 := o1.mut m3 (by omega)
      clear m3
      have C := hid (l1Below_c (m := 256) hc hr hd (by omega))
      clear hc
      go_wp2_with fail
      refine C.out.mono ?_
      clear C
      rintro e w4 ⟨t, rfl, t0, t1, hc, m4⟩
      have s4 := m4.size
      replace hr := hr.mut m4 (by omega)
      replace M := M.trans m4
      replace o1 := o1.mut m4 (by omega)
      clear m4
      obtain ⟨j, rfl⟩ := Int.eq_ofNat_of_zero_le y0
      have hj : j < ys.length := by omega
      have HX := hid (byte_of t0 (show t ≤ 255 by omega))
      obtain ⟨g, cp, hv, _, _, _, _, hgs, hfz, hcl, hst⟩ := o1.at_ hq
      simp only [Value.slice.injEq, true_and] at hv
      obtain ⟨rfl, rfl⟩ := hv
      have f1 := hfz j
      have c2 := hcl j _ (by rw [List.getElem?_map, List.getElem?_eq_getElem hj]; rfl)
      obtain ⟨ho', hmu⟩ := hst j (.int .u8 t)
      have HM := hid (M.after hmu (Nat.le_refl _))
      have HC := hid (hc.mut hmu (.inl (by omega)))
      have HO : Hid (Rd (w4.setCell ⟨g, j, none⟩ (.int .u8 t)) w.heap.size (w4.setCell ⟨g, j, none⟩ (.int .u8 t)).heap.size 1 (.slice (some ⟨g, 0, none⟩) ys.length c1) (ys.set j (UInt8.ofNat t.toNat)).length ((ys.set j (UInt8.ofNat t.toNat)).map bv)) := by rw [List.length_set, List.map_set, ← HX.out]; exact ho'.rd.mono (Nat.le_refl _) (Nat.le_trans (by omega) hmu.size)
      have HL := hid (show (ys.set j (UInt8.ofNat t.toNat)).length ≤ q + 1 by rw [List.length_set]; omega)
      unfold bv at c2
      have i0' : (0 : Int) ≤ (j : Int) := by omega
      have i1' : (j : Int) < (ys.length : Int) := by omega
      clear hst hfz hcl ho' hmu o1 hc M hr HX
      go_wp2
      go_ret
      first | exact ⟨_, _, rfl, HO.out, HL.out, HC.out, HM.out⟩ | exact ⟨_, rfl, _, HO.out, HL.out, HC.out, HM.out⟩
    · have hq2 : decide ((0 : Int) < (ys.length : Int)) = false := decide_eq_false (by omega)
      have hq3 : decide (0 < ys.length) = false := decide_eq_false hq
      have hq4 : ¬ (0 : Int) < (ys.length : Int) := by omega
      go_wp2
      go_ret
      first | exact ⟨_, _, rfl, o1.rd.mono (by omega) (by omega), by omega, hc, M⟩ | exact ⟨_, rfl, _, o1.rd.mono (by omega) (by omega), by omega, hc, M⟩
  have e0 : (x == 0) = false := beq_eq_false_iff_ne.2 g0
  have f0 : decide (x = 0) = false := decide_eq_false g0
  clear g0
  by_cases g1 : x = 1
  · subst g1
    have C := hid (l1Below_c (m := ((ys.length : Int) + 1)) hc hr hd (by omega))
    clear hc
    go_wp2_with fail
    refine C.out.mono ?_
    clear C
    rintro e w5 ⟨y, rfl, y0, y1, hc, m5⟩
    have s5 := m5.size
    replace hr := hr.mut m5 (by omega)
    replace M := M.trans m5
    replace o1 := o1.mut m5 (by omega)
    clear m5
    obtain ⟨j, rfl⟩ := Int.eq_ofNat_of_zero_le y0
    have hj : j ≤ ys.length := by omega
    have i0' : (0 : Int) ≤ (j : Int) := by omega
    have i1' : (j : Int) ≤ (ys.length : Int) := by omega
    obtain ⟨_, _, hv9, hlc⟩ := o1.rd.form'
    simp only [Value.slice.injEq, true_and] at hv9
    obtain ⟨rfl, rfl⟩ := hv9
    have i2' : (j : Int) ≤ (c1 : Int) := by omega
    have rT := o1.rd.takeB hj
    rw [← List.map_take] at rT
    have hlT : (ys.take j).length = j := by rw [List.length_take]; omega
    have HO : Hid (Rd w5 w.heap.size w5.heap.size 1 (.slice a1 j c1) (ys.take j).length ((ys.take j).map bv)) := by rw [hlT]; exact rT.mono (Nat.le_refl _) (by omega)
    have HL := hid (show (ys.take j).length ≤ q + 1 by omega)
    clear rT hlT o1 hr
    go_wp2
    go_ret
    first | exact ⟨_, _, rfl, HO.out, HL.out, hc, M⟩ | exact ⟨_, rfl, _, HO.out, HL.out, hc, M⟩
  have e1 : (x == 1) = false := beq_eq_false_iff_ne.2 g1
  have f1 : decide (x = 1) = false := decide_eq_false g1
  clear g1
  by_cases g2 : x = 2
  · subst g2
    have yb6 := ext_alloc (ext_refl w2) (.cells #[.int .i64 0, .int .i64 1, .int .i64 128, .int .i64 255] 3)
    have sb6 := yb6.size
    have rl : Rd (w2.alloc (.cells #[.int .i64 0, .int .i64 1, .int .i64 128, .int .i64 255] 3)) w2.heap.size (w2.heap.size + 1) 1 (.slice (some ⟨w2.heap.size, 0, none⟩) 4 4) 4 (([0, 1, 128, 255] : List Int).map iv) := Rd.new w2 (([0, 1, 128, 255] : List Int).map iv) 3 1 4 (by decide) rfl
    replace hc := hc.ext yb6
    replace hr := hr.ext yb6
    replace M := M.trans (Mut.of_ext yb6)
    replace o1 := o1.ext yb6
    clear yb6
    have C := hid (l1Int_c hc hr hd rl (.inl (by omega)) (by decide))
    clear hc
    go_wp2_with fail
    refine C.out.mono ?_
    clear C
    rintro e w7 ⟨z, hz, rfl, hc, m7⟩
    have s7 := m7.size
    replace hr := hr.mut m7 (by omega)
    replace M := M.trans m7
    replace o1 := o1.mut m7 (by omega)
    clear m7
    clear rl
    have hz1 : 0 ≤ z ∧ z ≤ 255 := by simp at hz; omega
    obtain ⟨z0, z1⟩ := hz1
    clear hz
    have HX := hid (byte_of z0 z1)
    obtain ⟨i0, hi0, hz0, hz1, hz2⟩ := info_parts info_byte
    go_wp2_with (at_builtin; refine wpList_append_Own rfl _ _ 22 rfl 5 i0 (.int .u8 0) 1 1 Try.underlying22 hi0 hz0 hz1 hz2 rfl (by decide) rfl (o1.ext (ext_alloc (ext_refl _) _)) rfl (Rd.new _ [.int .u8 z] 5 1 1 (by decide) rfl) (by simp; rfl) (by omega) (by omega) (Nat.le_trans (by omega) (ext_alloc (ext_refl _) _).size) ?_)
    intro v8 w8 ho8 m8
    have yb8 := ext_alloc (ext_refl w7) (.cells #[.int .u8 z] 5)
    have sb8 := yb8.size
    have s8 := m8.size
    replace hc := (hc.ext yb8).mut m8 (.inl (by omega))
    replace hr := (hr.ext yb8).mut m8 (by omega)
    replace M := (M.trans (Mut.of_ext yb8)).after m8 (by omega)
    clear o1 yb8 m8 hi0 hz0 hz1 hz2
    have o2 := ho8
    clear ho8
    have HO : Hid (Own w8 w.heap.size w8.heap.size 5 1 v8 (ys ++ [UInt8.ofNat z.toNat]).length ((ys ++ [UInt8.ofNat z.toNat]).map bv)) := by rw [List.length_append, List.map_append, List.map_cons, List.map_nil, ← HX.out]; exact o2
    have HL := hid (show (ys ++ [UInt8.ofNat z.toNat]).length ≤ q + 1 by simp; omega)
    clear o2 HX
    go_wp2
    go_ret
    first | exact ⟨_, _, rfl, HO.out.rd, HL.out, hc, M⟩ | exact ⟨_, rfl, _, HO.out.rd, HL.out, hc, M⟩
  have e2 : (x == 2) = false := beq_eq_false_iff_ne.2 g2
  have f2 : decide (x = 2) = false := decide_eq_false g2
  clear g2
  go_wp2
  go_ret
  first | exact ⟨_, _, rfl, o1.rd.mono (by omega) (by omega), by omega, hc, M⟩ | exact ⟨_, rfl, _, o1.rd.mono (by omega) (by omega), by omega, hc, M⟩
end Go.Proofs.Ytiikpkkpacjamaa
