/- What the reference draws of numbers, for a code of bytes: its shape and its bounds. Condition: the code reads and is not too long. -/
import Derived.Test.YtmabcdnjojjgeaaDoorDk
import Derived.Test.YtmabcdnjojjgeaaDoorPii
import Derived.Test.YtmabcdnjojjgeaaDoorPj
import Derived.Test.YtmabcdnjojjgeaaDoorStrsS
set_option linter.unusedVariables false
namespace Go.Proofs.YtmabcdnjojjgeaaDoor
open Go.RowKit
def I64 (z : Int) : Prop := -9223372036854775808 ≤ z ∧ z ≤ 9223372036854775807
theorem dsize (l : List UInt8) : (dst l).size = l.length := by simp [dst, ByteArray.size]
set_option maxRecDepth 100000 in
set_option maxHeartbeats 2000000 in
theorem DrawFormatInt_c {w : World} {lo hi n : Nat} {cv : Value} {xs : List UInt8} (hr : Rd w lo hi 1 cv n (xs.map bv)) (hn : n ≤ 1099511627776) (hhi : hi ≤ w.heap.size) :
    Calls Tryd.prog 11 #[cv] w (Gives w (fun r w' => ∃ z : Int, r = .int .i64 z ∧ I64 z)) := by
  have C := hid (l1New_c hr hn)
  go_enter Tryd.func11, Tryd.ntmps11
  go_wp2_with fail
  refine C.out.mono ?_
  clear C
  rintro e w0 ⟨rfl, hc, y0⟩
  have hcs := World.block_lt_of_cell? _ _ hc.choose_spec.choose_spec.1
  simp only at hcs
  replace hr := hr.ext y0
  have X := hid y0
  clear y0
  have hd : w.heap.size < lo ∨ hi ≤ w.heap.size := .inr hhi
  have M := Mut.refl w.heap.size (w.heap.size + 1) w0
  have C := hid (l1One_c hc hr hd (by omega) (by omega))
  clear hc
  go_wp2_with fail
  refine C.out.mono ?_
  clear C
  rintro e w1 ⟨z, rfl, z0, z1, hc, m1⟩
  have s1 := m1.size
  replace hr := hr.mut m1 (by omega)
  replace M := M.trans m1
  clear m1
  have XF := hid (Mut.ext X.out M (Nat.le_refl _))
  go_wp2
  go_ret
  exact gives_of _ ⟨_, rfl, z0, z1⟩ XF.out
set_option maxRecDepth 100000 in
set_option maxHeartbeats 2000000 in
theorem DrawCeilDiv_c {w : World} {lo hi n : Nat} {cv : Value} {xs : List UInt8} (hr : Rd w lo hi 1 cv n (xs.map bv)) (hn : n ≤ 1099511627776) (hhi : hi ≤ w.heap.size) :
    Calls Tryd.prog 13 #[cv] w (Gives w (fun r w' => ∃ z y : Int, r = .tuple #[.int .i64 z, .int .i64 y] ∧ I64 z ∧ I64 y)) := by
  have C := hid (l1New_c hr hn)
  go_enter Tryd.func13, Tryd.ntmps13
  go_wp2_with fail
  refine C.out.mono ?_
  clear C
  rintro e w0 ⟨rfl, hc, y0⟩
  have hcs := World.block_lt_of_cell? _ _ hc.choose_spec.choose_spec.1
  simp only at hcs
  replace hr := hr.ext y0
  have X := hid y0
  clear y0
  have hd : w.heap.size < lo ∨ hi ≤ w.heap.size := .inr hhi
  have M := Mut.refl w.heap.size (w.heap.size + 1) w0
  have C := hid (l1One_c hc hr hd (by omega) (by omega))
  clear hc
  go_wp2_with fail
  refine C.out.mono ?_
  clear C
  rintro e w1 ⟨z, rfl, z0, z1, hc, m1⟩
  have s1 := m1.size
  replace hr := hr.mut m1 (by omega)
  replace M := M.trans m1
  clear m1
  have C := hid (l1One_c hc hr hd (by omega) (by omega))
  clear hc
  go_wp2_with fail
  refine C.out.mono ?_
  clear C
  rintro e w2 ⟨y, rfl, y0, y1, hc, m2⟩
  have s2 := m2.size
  replace hr := hr.mut m2 (by omega)
  replace M := M.trans m2
  clear m2
  have XF := hid (Mut.ext X.out M (Nat.le_refl _))
  go_wp2
  go_ret2
  exact gives_of _ ⟨_, _, rfl, ⟨z0, z1⟩, y0, y1⟩ XF.out
set_option maxRecDepth 100000 in
set_option maxHeartbeats 2000000 in
theorem DrawMin_c {w : World} {lo hi n : Nat} {cv : Value} {xs : List UInt8} (hr : Rd w lo hi 1 cv n (xs.map bv)) (hn : n ≤ 1099511627776) (hhi : hi ≤ w.heap.size) :
    Calls Tryd.prog 15 #[cv] w (Gives w (fun r w' => ∃ z y : Int, r = .tuple #[.int .i64 z, .int .i64 y] ∧ I64 z ∧ I64 y)) := by
  have C := hid (l1New_c hr hn)
  go_enter Tryd.func15, Tryd.ntmps15
  go_wp2_with fail
  refine C.out.mono ?_
  clear C
  rintro e w0 ⟨rfl, hc, y0⟩
  have hcs := World.block_lt_of_cell? _ _ hc.choose_spec.choose_spec.1
  simp only at hcs
  replace hr := hr.ext y0
  have X := hid y0
  clear y0
  have hd : w.heap.size < lo ∨ hi ≤ w.heap.size := .inr hhi
  have M := Mut.refl w.heap.size (w.heap.size + 1) w0
  have C := hid (l1One_c hc hr hd (by omega) (by omega))
  clear hc
  go_wp2_with fail
  refine C.out.mono ?_
  clear C
  rintro e w1 ⟨z, rfl, z0, z1, hc, m1⟩
  have s1 := m1.size
  replace hr := hr.mut m1 (by omega)
  replace M := M.trans m1
  clear m1
  have C := hid (l1One_c hc hr hd (by omega) (by omega))
  clear hc
  go_wp2_with fail
  refine C.out.mono ?_
  clear C
  rintro e w2 ⟨y, rfl, y0, y1, hc, m2⟩
  have s2 := m2.size
  replace hr := hr.mut m2 (by omega)
  replace M := M.trans m2
  clear m2
  have XF := hid (Mut.ext X.out M (Nat.le_refl _))
  go_wp2
  go_ret2
  exact gives_of _ ⟨_, _, rfl, ⟨z0, z1⟩, y0, y1⟩ XF.out
set_option maxRecDepth 100000 in
set_option maxHeartbeats 2000000 in
theorem DrawParseInt_c {w : World} {lo hi n : Nat} {cv : Value} {xs : List UInt8} (hr : Rd w lo hi 1 cv n (xs.map bv)) (hn : n ≤ 1099511627776) (hhi : hi ≤ w.heap.size) :
    Calls Tryd.prog 12 #[cv] w (Gives w (fun r w' => ∃ s : ByteArray, r = .string s ∧ s.size ≤ 20)) := by
  have C := hid (l1New_c hr hn)
  go_enter Tryd.func12, Tryd.ntmps12
  go_wp2_with fail
  refine C.out.mono ?_
  clear C
  rintro e w0 ⟨rfl, hc, y0⟩
  have hcs := World.block_lt_of_cell? _ _ hc.choose_spec.choose_spec.1
  simp only at hcs
  replace hr := hr.ext y0
  have X := hid y0
  clear y0
  have hd : w.heap.size < lo ∨ hi ≤ w.heap.size := .inr hhi
  have M := Mut.refl w.heap.size (w.heap.size + 1) w0
  have C := hid (l1Once_c (m := 2) hc hr hd (by omega))
  clear hc
  go_wp2_with fail
  refine C.out.mono ?_
  clear C
  rintro e w1 ⟨b, rfl, hc, m1⟩
  have s1 := m1.size
  replace hr := hr.mut m1 (by omega)
  replace M := M.trans m1
  clear m1
  cases b
  · have C := hid (l1Num_c hc hr hd (by omega) (by omega))
    clear hc
    go_wp2_with fail
    refine C.out.mono ?_
    clear C
    rintro e w2 ⟨z, rfl, z0, z1, hc, m2⟩
    have s2 := m2.size
    replace hr := hr.mut m2 (by omega)
    replace M := M.trans m2
    clear m2
    obtain ⟨u, rfl⟩ := Int.eq_ofNat_of_zero_le z0
    have hsz := itoa_size (u := u) (by omega)
    have HSZ := hid hsz
    clear hsz
    have C := hid (specFormatInt_c (w := w2) (n := (u : Int)) (by omega) (by omega))
    go_wp2_with fail
    refine C.out.mono ?_
    clear C
    rintro e w3 ⟨_, rfl, rfl, y3⟩
    have s3 := y3.size
    replace hc := hc.ext y3
    replace hr := hr.ext y3
    replace M := M.trans (Mut.of_ext y3)
    clear y3
    have XF := hid (Mut.ext X.out M (Nat.le_refl _))
    go_wp2
    go_ret
    exact gives_of _ ⟨_, rfl, Nat.le_trans HSZ.out (by decide)⟩ XF.out
  · have yb := ext_alloc (ext_refl w1) (.cells #[.string { data := #[] }, .string { data := #[48] }, .string { data := #[48, 48] }, .string { data := #[45, 49] }, .string { data := #[48, 49] }, .string { data := #[55] }, .string { data := #[49, 48, 48, 48, 48, 48, 48, 48, 48, 48, 48, 48, 48] }, .string { data := #[49, 48, 48, 48, 48, 48, 48, 48, 48, 48, 48, 48, 49] }, .string { data := #[57, 57, 57, 57, 57, 57, 57, 57, 57, 57, 57, 57, 57, 57] }, .string { data := #[49, 120] }, .string { data := #[32, 49] }] 9)
    have sb := yb.size
    have rl : Rd (w1.alloc (.cells #[.string { data := #[] }, .string { data := #[48] }, .string { data := #[48, 48] }, .string { data := #[45, 49] }, .string { data := #[48, 49] }, .string { data := #[55] }, .string { data := #[49, 48, 48, 48, 48, 48, 48, 48, 48, 48, 48, 48, 48] }, .string { data := #[49, 48, 48, 48, 48, 48, 48, 48, 48, 48, 48, 48, 49] }, .string { data := #[57, 57, 57, 57, 57, 57, 57, 57, 57, 57, 57, 57, 57, 57] }, .string { data := #[49, 120] }, .string { data := #[32, 49] }] 9)) w1.heap.size (w1.heap.size + 1) 1 (.slice (some ⟨w1.heap.size, 0, none⟩) 11 11) 11 (([⟨#[]⟩, ⟨#[48]⟩, ⟨#[48, 48]⟩, ⟨#[45, 49]⟩, ⟨#[48, 49]⟩, ⟨#[55]⟩, ⟨#[49, 48, 48, 48, 48, 48, 48, 48, 48, 48, 48, 48, 48]⟩, ⟨#[49, 48, 48, 48, 48, 48, 48, 48, 48, 48, 48, 48, 49]⟩, ⟨#[57, 57, 57, 57, 57, 57, 57, 57, 57, 57, 57, 57, 57, 57]⟩, ⟨#[49, 120]⟩, ⟨#[32, 49]⟩] : List ByteArray).map sv) := Rd.new w1 (([⟨#[]⟩, ⟨#[48]⟩, ⟨#[48, 48]⟩, ⟨#[45, 49]⟩, ⟨#[48, 49]⟩, ⟨#[55]⟩, ⟨#[49, 48, 48, 48, 48, 48, 48, 48, 48, 48, 48, 48, 48]⟩, ⟨#[49, 48, 48, 48, 48, 48, 48, 48, 48, 48, 48, 48, 49]⟩, ⟨#[57, 57, 57, 57, 57, 57, 57, 57, 57, 57, 57, 57, 57, 57]⟩, ⟨#[49, 120]⟩, ⟨#[32, 49]⟩] : List ByteArray).map sv) 9 1 11 (by decide) rfl
    have hss : ∀ s ∈ ([⟨#[]⟩, ⟨#[48]⟩, ⟨#[48, 48]⟩, ⟨#[45, 49]⟩, ⟨#[48, 49]⟩, ⟨#[55]⟩, ⟨#[49, 48, 48, 48, 48, 48, 48, 48, 48, 48, 48, 48, 48]⟩, ⟨#[49, 48, 48, 48, 48, 48, 48, 48, 48, 48, 48, 48, 49]⟩, ⟨#[57, 57, 57, 57, 57, 57, 57, 57, 57, 57, 57, 57, 57, 57]⟩, ⟨#[49, 120]⟩, ⟨#[32, 49]⟩] : List ByteArray), s.size ≤ 20 := by decide
    have HSS := hid hss
    clear hss
    replace hc := hc.ext yb
    replace hr := hr.ext yb
    replace M := M.trans (Mut.of_ext yb)
    clear yb
    have C := hid (l1Str_c hc hr hd rl (.inl (by omega)) (by decide))
    clear hc
    go_wp2_with fail
    refine C.out.mono ?_
    clear C
    rintro e w4 ⟨t, ht, rfl, hc, m4⟩
    have s4 := m4.size
    replace hr := hr.mut m4 (by omega)
    replace M := M.trans m4
    clear m4
    have hts := HSS.out t ht
    clear rl ht HSS
    have XF := hid (Mut.ext X.out M (Nat.le_refl _))
    go_wp2
    go_ret
    exact gives_of _ ⟨_, rfl, hts⟩ XF.out
set_option maxRecDepth 100000 in
set_option maxHeartbeats 2000000 in
theorem DrawMod_c {w : World} {lo hi n : Nat} {cv : Value} {xs : List UInt8} (hr : Rd w lo hi 1 cv n (xs.map bv)) (hn : n ≤ 1099511627776) (hhi : hi ≤ w.heap.size) :
    Calls Tryd.prog 14 #[cv] w (Gives w (fun r w' => ∃ z y : Int, r = .tuple #[.int .i64 z, .int .i64 y] ∧ I64 z ∧ I64 y)) := by
  have C := hid (l1New_c hr hn)
  go_enter Tryd.func14, Tryd.ntmps14
  go_wp2_with fail
  refine C.out.mono ?_
  clear C
  rintro e w0 ⟨rfl, hc, y0⟩
  have hcs := World.block_lt_of_cell? _ _ hc.choose_spec.choose_spec.1
  simp only at hcs
  replace hr := hr.ext y0
  have X := hid y0
  clear y0
  have hd : w.heap.size < lo ∨ hi ≤ w.heap.size := .inr hhi
  have M := Mut.refl w.heap.size (w.heap.size + 1) w0
  have C := hid (l1One_c hc hr hd (by omega) (by omega))
  clear hc
  go_wp2_with fail
  refine C.out.mono ?_
  clear C
  rintro e w1 ⟨z, rfl, z0, z1, hc, m1⟩
  have s1 := m1.size
  replace hr := hr.mut m1 (by omega)
  replace M := M.trans m1
  clear m1
  have C := hid (l1Below_c (m := 9) hc hr hd (by omega))
  clear hc
  go_wp2_with fail
  refine C.out.mono ?_
  clear C
  rintro e w2 ⟨x, rfl, x0, x1, hc, m2⟩
  have s2 := m2.size
  replace hr := hr.mut m2 (by omega)
  replace M := M.trans m2
  clear m2
  by_cases hA : -9223372036854775808 ≤ z - x
  · have hB : z - x ≤ 9223372036854775807 := by omega
    have yb3 := ext_alloc (ext_refl w2) (.cells #[.int .i64 1, .int .i64 2, .int .i64 7, .int .i64 251, .int .i64 0, .int .i64 (-3)] 3)
    have sb3 := yb3.size
    have rl : Rd (w2.alloc (.cells #[.int .i64 1, .int .i64 2, .int .i64 7, .int .i64 251, .int .i64 0, .int .i64 (-3)] 3)) w2.heap.size (w2.heap.size + 1) 1 (.slice (some ⟨w2.heap.size, 0, none⟩) 6 6) 6 (([1, 2, 7, 251, 0, -3] : List Int).map iv) := Rd.new w2 (([1, 2, 7, 251, 0, -3] : List Int).map iv) 3 1 6 (by decide) rfl
    replace hc := hc.ext yb3
    replace hr := hr.ext yb3
    replace M := M.trans (Mut.of_ext yb3)
    clear yb3
    have C := hid (l1Int_c hc hr hd rl (.inl (by omega)) (by decide))
    clear hc
    go_wp2_with fail
    refine C.out.mono ?_
    clear C
    rintro e w4 ⟨y, hy, rfl, hc, m4⟩
    have s4 := m4.size
    replace hr := hr.mut m4 (by omega)
    replace M := M.trans m4
    clear m4
    clear rl
    have hy1 : -3 ≤ y ∧ y ≤ 251 := by simp at hy; omega
    clear hy
    have XF := hid (Mut.ext X.out M (Nat.le_refl _))
    go_wp2
    go_ret2
    exact gives_of _ ⟨_, _, rfl, ⟨by omega, by omega⟩, ⟨by omega, by omega⟩⟩ XF.out
  · have hw : IntKind.wrap .i64 (z - x) = z - x + 18446744073709551616 := by rw [IntKind.wrap_i64]; omega
    have yb5 := ext_alloc (ext_refl w2) (.cells #[.int .i64 1, .int .i64 2, .int .i64 7, .int .i64 251, .int .i64 0, .int .i64 (-3)] 3)
    have sb5 := yb5.size
    have rl : Rd (w2.alloc (.cells #[.int .i64 1, .int .i64 2, .int .i64 7, .int .i64 251, .int .i64 0, .int .i64 (-3)] 3)) w2.heap.size (w2.heap.size + 1) 1 (.slice (some ⟨w2.heap.size, 0, none⟩) 6 6) 6 (([1, 2, 7, 251, 0, -3] : List Int).map iv) := Rd.new w2 (([1, 2, 7, 251, 0, -3] : List Int).map iv) 3 1 6 (by decide) rfl
    replace hc := hc.ext yb5
    replace hr := hr.ext yb5
    replace M := M.trans (Mut.of_ext yb5)
    clear yb5
    have C := hid (l1Int_c hc hr hd rl (.inl (by omega)) (by decide))
    clear hc
    go_wp2_with fail
    refine C.out.mono ?_
    clear C
    rintro e w6 ⟨y, hy, rfl, hc, m6⟩
    have s6 := m6.size
    replace hr := hr.mut m6 (by omega)
    replace M := M.trans m6
    clear m6
    clear rl
    have hy1 : -3 ≤ y ∧ y ≤ 251 := by simp at hy; omega
    clear hy
    have XF := hid (Mut.ext X.out M (Nat.le_refl _))
    go_wp2
    go_ret2
    exact gives_of _ ⟨_, _, rfl, ⟨by omega, by omega⟩, ⟨by omega, by omega⟩⟩ XF.out
end Go.Proofs.YtmabcdnjojjgeaaDoor
