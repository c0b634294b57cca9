/- What the reference draws of bytes and numbers, for a code of bytes: its shape and its size. Condition: the code reads and is not too long. -/
import Derived.Test.YtiikpkkpacjamaaDb
import Derived.Test.YtiikpkkpacjamaaRb
import Derived.Test.YtiikpkkpacjamaaEi
set_option linter.unusedVariables false
namespace Go.Proofs.Ytiikpkkpacjamaa
open Go.RowKit
def PB (w : World) (N : Nat) (r : Value) (w' : World) : Prop := ∃ bs : List UInt8, Rd w' w.heap.size w'.heap.size 1 r bs.length (bs.map bv) ∧ bs.length ≤ N
def PL (w : World) (N : Nat) (r : Value) (w' : World) : Prop := ∃ zs : List Int, Rd w' w.heap.size w'.heap.size 1 r zs.length (zs.map iv) ∧ zs.length ≤ N
def PI (r : Value) (w' : World) : Prop := ∃ z : Int, r = .int .i64 z
def PBI (w : World) (N : Nat) (r : Value) (w' : World) : Prop := ∃ (v : Value) (z : Int), r = .tuple #[v, .int .i64 z] ∧ PB w N v w'
def PBII (w : World) (N : Nat) (r : Value) (w' : World) : Prop := ∃ (v : Value) (z y : Int), r = .tuple #[v, .int .i64 z, .int .i64 y] ∧ PB w N v w'
def PBB (w : World) (N : Nat) (r : Value) (w' : World) : Prop := ∃ v u : Value, r = .tuple #[v, u] ∧ PB w N v w' ∧ PB w N u w'
def PIB (w : World) (N : Nat) (r : Value) (w' : World) : Prop := ∃ (v : Value) (z : Int), r = .tuple #[.int .i64 z, v] ∧ PB w N v w'
def PIL (w : World) (N : Nat) (r : Value) (w' : World) : Prop := ∃ (v : Value) (z : Int), r = .tuple #[.int .i64 z, v] ∧ PL w N v w'
def PLL (w : World) (N : Nat) (r : Value) (w' : World) : Prop := ∃ v u : Value, r = .tuple #[v, u] ∧ PL w N v w' ∧ PL w N u w'
def PIS (r : Value) (w' : World) : Prop := ∃ (z : Int) (s : ByteArray), r = .tuple #[.int .i64 z, .string s] ∧ s.size ≤ 16
set_option maxRecDepth 100000 in
set_option maxHeartbeats 2000000 in
theorem DrawAppendVarint_c {w : World} {lo hi n : Nat} {cv : Value} {xs : List UInt8} (hr : Rd w lo hi 1 cv n (xs.map bv)) (hn : n ≤ 1099511627776) (hhi : hi ≤ w.heap.size) :
    Calls Try.prog 7 #[cv] w (Gives w (PBI w 10)) := by
  have C := hid (l1New_c hr hn)
  go_enter Try.func7, Try.ntmps7
  go_wp2_with fail
  refine C.out.mono ?_
  clear C
  rintro e w0 ⟨rfl, hc, y0⟩
  have hcs := World.block_lt_of_cell? _ _ hc.choose_spec.choose_spec.1
  simp only at hcs
  replace hr := hr.ext y0
  have X := hid y0
  clear y0
  have hd : w.heap.size < lo ∨ hi ≤ w.heap.size := .inr hhi
  have M := Mut.refl w.heap.size (w.heap.size + 1) w0
  have C := hid (l1Below_c (m := 3) hc hr hd (by omega))
  clear hc
  go_wp2_with fail
  refine C.out.mono ?_
  clear C
  rintro e w1 ⟨x, rfl, x0, x1, hc, m1⟩
  have s1 := m1.size
  replace hr := hr.mut m1 (by omega)
  replace M := M.trans m1
  clear m1
  have C := hid (l1Bytes_c (m := x) hc hr hd (by omega) (by omega) (by omega))
  clear hc
  go_wp2_with fail
  refine C.out.mono ?_
  clear C
  rintro e w2 ⟨r1, b1, rfl, o1, l1, hc, m2⟩
  have s2 := m2.size
  replace hr := hr.mut m2 (by omega)
  replace M := M.trans m2
  clear m2
  have C := hid (l1One_c hc hr hd (by omega) (by omega))
  clear hc
  go_wp2_with fail
  refine C.out.mono ?_
  clear C
  rintro e w3 ⟨z, rfl, hc, m3⟩
  have s3 := m3.size
  replace hr := hr.mut m3 (by omega)
  replace M := M.trans m3
  replace o1 := o1.mut m3 (by omega)
  clear m3
  have XF := hid (Mut.ext X.out M (Nat.le_refl _))
  go_wp2
  go_ret2
  exact gives_of _ ⟨_, _, rfl, ⟨_, o1.rd.mono (by omega) (by omega), by omega⟩⟩ XF.out
set_option maxRecDepth 100000 in
set_option maxHeartbeats 2000000 in
theorem DrawReadVarint_c {w : World} {lo hi n : Nat} {cv : Value} {xs : List UInt8} (hr : Rd w lo hi 1 cv n (xs.map bv)) (hn : n ≤ 1099511627776) (hhi : hi ≤ w.heap.size) :
    Calls Try.prog 9 #[cv] w (Gives w (PBI w 20)) := by
  have C := hid (l1New_c hr hn)
  go_enter Try.func9, Try.ntmps9
  go_wp2_with fail
  refine C.out.mono ?_
  clear C
  rintro e w0 ⟨rfl, hc, y0⟩
  have hcs := World.block_lt_of_cell? _ _ hc.choose_spec.choose_spec.1
  simp only at hcs
  replace hr := hr.ext y0
  have X := hid y0
  clear y0
  have hd : w.heap.size < lo ∨ hi ≤ w.heap.size := .inr hhi
  have M := Mut.refl w.heap.size (w.heap.size + 1) w0
  have C := hid (l1Once_c (m := 2) hc hr hd (by omega))
  clear hc
  go_wp2_with fail
  refine C.out.mono ?_
  clear C
  rintro e w1 ⟨b, rfl, hc, m1⟩
  have s1 := m1.size
  replace hr := hr.mut m1 (by omega)
  replace M := M.trans m1
  clear m1
  cases b
  · have y9 := ext_alloc (ext_refl w1) (.cells #[] 5)
    have s9 := y9.size
    have oe := Own.new w1 #[] 5 1 0 (by decide) rfl
    have he : (w1.alloc (.cells #[] 5)).heap.size = w1.heap.size + 1 := by simp
    replace hc := hc.ext y9
    replace hr := hr.ext y9
    replace M := M.trans (Mut.of_ext y9)
    clear y9
    obtain ⟨V, hV⟩ : ∃ V, V = w1.alloc (.cells #[] 5) := ⟨_, rfl⟩
    rw [← hV] at hc hr M s9 oe he
    have C := hid (l1Below_c (m := 8) hc hr hd (by omega))
    clear hc
    go_wp2_with fail
    rw [← hV]
    refine C.out.mono ?_
    clear C
    rintro e w2 ⟨x, rfl, x0, x1, hc, m2⟩
    have s2 := m2.size
    replace hr := hr.mut m2 (by omega)
    replace M := M.trans m2
    replace oe := oe.mut m2 (by omega)
    clear m2
    clear hV
    obtain ⟨kx, rfl⟩ := Int.eq_ofNat_of_zero_le x0
    have o1 := oe.mono (Nat.le_refl w1.heap.size) (show w1.heap.size + 1 ≤ w2.heap.size by omega)
    have hw1 : w1.heap.size < w2.heap.size := by omega
    clear oe he
    go_wp2
    go_loopw [5, 6] (fun u i wr => ∃ (k : Nat) (bs : List UInt8), k ≤ kx ∧ bs.length + k ≤ kx ∧ i = .int .i64 k ∧ Own wr w1.heap.size wr.heap.size 5 1 u bs.length (bs.map bv) ∧ CurAt wr w.heap.size cv n ∧ w2.heap.size ≤ wr.heap.size ∧ Rd wr lo hi 1 cv n (xs.map bv) ∧ Mut w.heap.size (w.heap.size + 1) w0 wr) (fun _ i _ => (intOf i).toNat)
    case atStart => exact ⟨kx, [], Nat.le_refl _, by simp, rfl, o1, hc, Nat.le_refl _, hr, M⟩
    case round =>
      obtain ⟨k, bs, hk, hl, rfl, o1', hc', hsz, hr', M'⟩ := hrel
      clear o1 hc hr M
      have o1 := o1'
      have hc := hc'
      have hr := hr'
      have M := M'
      clear o1' hc' hr' M'
      obtain ⟨a1, c1, rfl, _⟩ := o1.rd.form
      by_cases hlt : 0 < k
      · have hlt1 : (0 : Int) < (k : Int) := by omega
        have yb3 := ext_alloc (ext_refl wr) (.cells #[.int .i64 128, .int .i64 255, .int .i64 0, .int .i64 1, .int .i64 127] 3)
        have sb3 := yb3.size
        have rl : Rd (wr.alloc (.cells #[.int .i64 128, .int .i64 255, .int .i64 0, .int .i64 1, .int .i64 127] 3)) wr.heap.size (wr.heap.size + 1) 1 (.slice (some ⟨wr.heap.size, 0, none⟩) 5 5) 5 (([128, 255, 0, 1, 127] : List Int).map iv) := Rd.new wr (([128, 255, 0, 1, 127] : List Int).map iv) 3 1 5 (by decide) rfl
        replace hc := hc.ext yb3
        replace hr := hr.ext yb3
        replace M := M.trans (Mut.of_ext yb3)
        replace o1 := o1.ext yb3
        clear yb3
        have C := hid (l1Int_c hc hr hd rl (.inl (by omega)) (by decide))
        clear hc
        go_wp2_with fail
        refine C.out.mono ?_
        clear C
        rintro e w4 ⟨z, hz, rfl, hc, m4⟩
        have s4 := m4.size
        replace hr := hr.mut m4 (by omega)
        replace M := M.trans m4
        replace o1 := o1.mut m4 (by omega)
        clear m4
        clear rl
        have hz1 : 0 ≤ z ∧ z ≤ 255 := by simp at hz; omega
        obtain ⟨z0, z1⟩ := hz1
        clear hz
        have HX := hid (byte_of z0 z1)
        obtain ⟨i0, hi0, hz0, hz1, hz2⟩ := info_parts info_byte
        go_wp2_with (at_builtin; refine wpList_append_Own rfl _ _ 22 rfl 5 i0 (.int .u8 0) 1 1 Try.underlying22 hi0 hz0 hz1 hz2 rfl (by decide) rfl (o1.ext (ext_alloc (ext_refl _) _)) rfl (Rd.new _ [.int .u8 z] 5 1 1 (by decide) rfl) (by simp; rfl) (by omega) (by omega) (Nat.le_trans (by omega) (ext_alloc (ext_refl _) _).size) ?_)
        intro v5 w5 ho5 m5
        have yb5 := ext_alloc (ext_refl w4) (.cells #[.int .u8 z] 5)
        have sb5 := yb5.size
        have s5 := m5.size
        replace hc := (hc.ext yb5).mut m5 (.inl (by omega))
        replace hr := (hr.ext yb5).mut m5 (by omega)
        replace M := (M.trans (Mut.of_ext yb5)).after m5 (by omega)
        clear o1 yb5 m5 hi0 hz0 hz1 hz2
        have o2 := ho5
        clear ho5
        have HO : Hid (Own w5 w1.heap.size w5.heap.size 5 1 v5 (bs ++ [UInt8.ofNat z.toNat]).length ((bs ++ [UInt8.ofNat z.toNat]).map bv)) := by rw [List.length_append, List.map_append, List.map_cons, List.map_nil, ← HX.out]; exact o2.mono (Nat.le_refl _) (by omega)
        obtain ⟨j, rfl⟩ : ∃ j, k = j + 1 := ⟨k - 1, by omega⟩
        have HL := hid (show (bs ++ [UInt8.ofNat z.toNat]).length + j ≤ kx by simp; omega)
        have HC := hid hc
        have HR := hid hr
        have HM := hid M
        clear o2 HX hc hr M
        go_wp2
        go_roundw
        case rel => exact ⟨j, _, by omega, HL.out, (by first | rfl | go_num), HO.out, HC.out, by omega, HR.out, HM.out⟩
        case measure => simp [intOf]
      · have hk0 : k = 0 := by omega
        subst hk0
        have C := hid (l1Below_c (m := 4) hc hr hd (by omega))
        clear hc
        go_wp2_with fail
        refine C.out.mono ?_
        clear C
        rintro e w6 ⟨y, rfl, y0, y1, hc, m6⟩
        have s6 := m6.size
        replace hr := hr.mut m6 (by omega)
        replace M := M.trans m6
        replace o1 := o1.mut m6 (by omega)
        clear m6
        have XF := hid (Mut.ext X.out M (Nat.le_refl _))
        go_wp2
        go_ret2
        exact gives_of _ ⟨_, _, rfl, ⟨_, o1.rd.mono (by omega) (by omega), by omega⟩⟩ XF.out
  · have C := hid (l1Bytes_c (m := 1) hc hr hd (by omega) (by omega) (by omega))
    clear hc
    go_wp2_with fail
    refine C.out.mono ?_
    clear C
    rintro e w7 ⟨r1, b1, rfl, o1, l1, hc, m7⟩
    have s7 := m7.size
    replace hr := hr.mut m7 (by omega)
    replace M := M.trans m7
    clear m7
    have C := hid (l1Num_c hc hr hd (by omega) (by omega))
    clear hc
    go_wp2_with fail
    refine C.out.mono ?_
    clear C
    rintro e w8 ⟨z, rfl, hc, m8⟩
    have s8 := m8.size
    replace hr := hr.mut m8 (by omega)
    replace M := M.trans m8
    replace o1 := o1.mut m8 (by omega)
    clear m8
    have C := hid (specAppendVarint_c (n := z) o1.rd (by omega))
    go_wp2_with fail
    refine C.out.mono ?_
    clear C
    rintro e w9 ⟨u, rfl, o2, y9⟩
    have s9 := y9.size
    replace hc := hc.ext y9
    replace hr := hr.ext y9
    replace M := M.trans (Mut.of_ext y9)
    replace o1 := o1.ext y9
    clear y9
    have hl9 := av_len b1 z
    have XF := hid (Mut.ext X.out M (Nat.le_refl _))
    go_wp2
    go_ret2
    exact gives_of _ ⟨_, _, rfl, ⟨_, o2.rd.mono (by omega) (by omega), by omega⟩⟩ XF.out
set_option maxRecDepth 100000 in
set_option maxHeartbeats 2000000 in
theorem DrawAppendBytes_c {w : World} {lo hi n : Nat} {cv : Value} {xs : List UInt8} (hr : Rd w lo hi 1 cv n (xs.map bv)) (hn : n ≤ 1099511627776) (hhi : hi ≤ w.heap.size) :
    Calls Try.prog 12 #[cv] w (Gives w (PBB w 10)) := by
  have C := hid (l1New_c hr hn)
  go_enter Try.func12, Try.ntmps12
  go_wp2_with fail
  refine C.out.mono ?_
  clear C
  rintro e w0 ⟨rfl, hc, y0⟩
  have hcs := World.block_lt_of_cell? _ _ hc.choose_spec.choose_spec.1
  simp only at hcs
  replace hr := hr.ext y0
  have X := hid y0
  clear y0
  have hd : w.heap.size < lo ∨ hi ≤ w.heap.size := .inr hhi
  have M := Mut.refl w.heap.size (w.heap.size + 1) w0
  have C := hid (l1Below_c (m := 3) hc hr hd (by omega))
  clear hc
  go_wp2_with fail
  refine C.out.mono ?_
  clear C
  rintro e w1 ⟨x, rfl, x0, x1, hc, m1⟩
  have s1 := m1.size
  replace hr := hr.mut m1 (by omega)
  replace M := M.trans m1
  clear m1
  have C := hid (l1Bytes_c (m := x) hc hr hd (by omega) (by omega) (by omega))
  clear hc
  go_wp2_with fail
  refine C.out.mono ?_
  clear C
  rintro e w2 ⟨r1, b1, rfl, o1, l1, hc, m2⟩
  have s2 := m2.size
  replace hr := hr.mut m2 (by omega)
  replace M := M.trans m2
  clear m2
  have C := hid (l1Below_c (m := 6) hc hr hd (by omega))
  clear hc
  go_wp2_with fail
  refine C.out.mono ?_
  clear C
  rintro e w3 ⟨y, rfl, y0, y1, hc, m3⟩
  have s3 := m3.size
  replace hr := hr.mut m3 (by omega)
  replace M := M.trans m3
  replace o1 := o1.mut m3 (by omega)
  clear m3
  have C := hid (l1Bytes_c (m := y) hc hr hd (by omega) (by omega) (by omega))
  clear hc
  go_wp2_with fail
  refine C.out.mono ?_
  clear C
  rintro e w4 ⟨r2, b2, rfl, o2, l2, hc, m4⟩
  have s4 := m4.size
  replace hr := hr.mut m4 (by omega)
  replace M := M.trans m4
  replace o1 := o1.mut m4 (by omega)
  clear m4
  have XF := hid (Mut.ext X.out M (Nat.le_refl _))
  go_wp2
  go_ret2
  exact gives_of _ ⟨_, _, rfl, ⟨_, o1.rd.mono (by omega) (by omega), by omega⟩, ⟨_, o2.rd.mono (by omega) (by omega), by omega⟩⟩ XF.out
set_option maxRecDepth 100000 in
set_option maxHeartbeats 2000000 in
theorem DrawReadBytes_c {w : World} {lo hi n : Nat} {cv : Value} {xs : List UInt8} (hr : Rd w lo hi 1 cv n (xs.map bv)) (hn : n ≤ 1099511627776) (hhi : hi ≤ w.heap.size) :
    Calls Try.prog 14 #[cv] w (Gives w (PBII w 40)) := by
  have C := hid (l1New_c hr hn)
  go_enter Try.func14, Try.ntmps14
  go_wp2_with fail
  refine C.out.mono ?_
  clear C
  rintro e w0 ⟨rfl, hc, y0⟩
  have hcs := World.block_lt_of_cell? _ _ hc.choose_spec.choose_spec.1
  simp only at hcs
  replace hr := hr.ext y0
  have X := hid y0
  clear y0
  have hd : w.heap.size < lo ∨ hi ≤ w.heap.size := .inr hhi
  have M := Mut.refl w.heap.size (w.heap.size + 1) w0
  have C := hid (l1Bytes_c (m := 1) hc hr hd (by omega) (by omega) (by omega))
  clear hc
  go_wp2_with fail
  refine C.out.mono ?_
  clear C
  rintro e w1 ⟨r1, b1, rfl, o1, l1, hc, m1⟩
  have s1 := m1.size
  replace hr := hr.mut m1 (by omega)
  replace M := M.trans m1
  clear m1
  have C := hid (l1Below_c (m := 6) hc hr hd (by omega))
  clear hc
  go_wp2_with fail
  refine C.out.mono ?_
  clear C
  rintro e w2 ⟨x, rfl, x0, x1, hc, m2⟩
  have s2 := m2.size
  replace hr := hr.mut m2 (by omega)
  replace M := M.trans m2
  replace o1 := o1.mut m2 (by omega)
  clear m2
  have C := hid (l1Bytes_c (m := x) hc hr hd (by omega) (by omega) (by omega))
  clear hc
  go_wp2_with fail
  refine C.out.mono ?_
  clear C
  rintro e w3 ⟨r2, b2, rfl, o2, l2, hc, m3⟩
  have s3 := m3.size
  replace hr := hr.mut m3 (by omega)
  replace M := M.trans m3
  replace o1 := o1.mut m3 (by omega)
  clear m3
  have C := hid (specAppendBytes_c o1.rd o2.rd (by omega) (by omega))
  go_wp2_with fail
  refine C.out.mono ?_
  clear C
  rintro e w4 ⟨u, rfl, o3, y4⟩
  have s4 := y4.size
  replace hc := hc.ext y4
  replace hr := hr.ext y4
  replace M := M.trans (Mut.of_ext y4)
  replace o1 := o1.ext y4
  replace o2 := o2.ext y4
  clear y4
  have hl9 := av_len b1 (b2.length : Int)
  have hl8 : (av b1 (b2.length : Int) ++ b2).length ≤ 30 := by rw [List.length_append]; omega
  have C := hid (l1Bent_c hc hr hd (by omega) (by omega) o3.rd (.inl (by omega)) (by omega) (by omega))
  clear hc
  go_wp2_with fail
  refine C.out.mono ?_
  clear C
  rintro e w5 ⟨r4, b4, rfl, o4, l4, hc, m5⟩
  have s5 := m5.size
  replace hr := hr.mut m5 (by omega)
  replace M := M.trans m5
  replace o1 := o1.mut m5 (by omega)
  replace o2 := o2.mut m5 (by omega)
  replace o3 := o3.mut m5 (by omega)
  clear m5
  have yb6 := ext_alloc (ext_refl w5) (.cells #[.int .i64 1, .int .i64 1, .int .i64 1, .int .i64 0, .int .i64 9, .int .i64 (-1)] 3)
  have sb6 := yb6.size
  have rl : Rd (w5.alloc (.cells #[.int .i64 1, .int .i64 1, .int .i64 1, .int .i64 0, .int .i64 9, .int .i64 (-1)] 3)) w5.heap.size (w5.heap.size + 1) 1 (.slice (some ⟨w5.heap.size, 0, none⟩) 6 6) 6 (([1, 1, 1, 0, 9, -1] : List Int).map iv) := Rd.new w5 (([1, 1, 1, 0, 9, -1] : List Int).map iv) 3 1 6 (by decide) rfl
  replace hc := hc.ext yb6
  replace hr := hr.ext yb6
  replace M := M.trans (Mut.of_ext yb6)
  replace o1 := o1.ext yb6
  replace o2 := o2.ext yb6
  replace o3 := o3.ext yb6
  replace o4 := o4.ext yb6
  clear yb6
  have C := hid (l1Int_c hc hr hd rl (.inl (by omega)) (by decide))
  clear hc
  go_wp2_with fail
  refine C.out.mono ?_
  clear C
  rintro e w7 ⟨z, hz, rfl, hc, m7⟩
  have s7 := m7.size
  replace hr := hr.mut m7 (by omega)
  replace M := M.trans m7
  replace o1 := o1.mut m7 (by omega)
  replace o2 := o2.mut m7 (by omega)
  replace o3 := o3.mut m7 (by omega)
  replace o4 := o4.mut m7 (by omega)
  clear m7
  clear rl
  have yb8 := ext_alloc (ext_refl w7) (.cells #[.int .i64 9, .int .i64 9, .int .i64 3, .int .i64 0, .int .i64 (-1)] 3)
  have sb8 := yb8.size
  have rl : Rd (w7.alloc (.cells #[.int .i64 9, .int .i64 9, .int .i64 3, .int .i64 0, .int .i64 (-1)] 3)) w7.heap.size (w7.heap.size + 1) 1 (.slice (some ⟨w7.heap.size, 0, none⟩) 5 5) 5 (([9, 9, 3, 0, -1] : List Int).map iv) := Rd.new w7 (([9, 9, 3, 0, -1] : List Int).map iv) 3 1 5 (by decide) rfl
  replace hc := hc.ext yb8
  replace hr := hr.ext yb8
  replace M := M.trans (Mut.of_ext yb8)
  replace o1 := o1.ext yb8
  replace o2 := o2.ext yb8
  replace o3 := o3.ext yb8
  replace o4 := o4.ext yb8
  clear yb8
  have C := hid (l1Int_c hc hr hd rl (.inl (by omega)) (by decide))
  clear hc
  go_wp2_with fail
  refine C.out.mono ?_
  clear C
  rintro e w9 ⟨y, hy, rfl, hc, m9⟩
  have s9 := m9.size
  replace hr := hr.mut m9 (by omega)
  replace M := M.trans m9
  replace o1 := o1.mut m9 (by omega)
  replace o2 := o2.mut m9 (by omega)
  replace o3 := o3.mut m9 (by omega)
  replace o4 := o4.mut m9 (by omega)
  clear m9
  clear rl
  have XF := hid (Mut.ext X.out M (Nat.le_refl _))
  go_wp2
  go_ret3
  exact gives_of _ ⟨_, _, _, rfl, ⟨_, o4.mono (by omega) (by omega), by omega⟩⟩ XF.out
set_option maxRecDepth 100000 in
set_option maxHeartbeats 2000000 in
theorem DrawEncodeInts_c {w : World} {lo hi n : Nat} {cv : Value} {xs : List UInt8} (hr : Rd w lo hi 1 cv n (xs.map bv)) (hn : n ≤ 1099511627776) (hhi : hi ≤ w.heap.size) :
    Calls Try.prog 20 #[cv] w (Gives w (PL w 10)) := by
  have C := hid (l1New_c hr hn)
  go_enter Try.func20, Try.ntmps20
  go_wp2_with fail
  refine C.out.mono ?_
  clear C
  rintro e w0 ⟨rfl, hc, y0⟩
  have hcs := World.block_lt_of_cell? _ _ hc.choose_spec.choose_spec.1
  simp only at hcs
  replace hr := hr.ext y0
  have X := hid y0
  clear y0
  have hd : w.heap.size < lo ∨ hi ≤ w.heap.size := .inr hhi
  have M := Mut.refl w.heap.size (w.heap.size + 1) w0
  have C := hid (l2Ints_c hc hr hd (by omega) (by omega) (q := 5) (by omega) (by omega))
  clear hc
  go_wp2_with fail
  refine C.out.mono ?_
  clear C
  rintro e w1 ⟨r1, z1, rfl, o1, l1, hc, m1⟩
  have s1 := m1.size
  replace hr := hr.mut m1 (by omega)
  replace M := M.trans m1
  clear m1
  have C := hid (l1Once_c (m := 6) hc hr hd (by omega))
  clear hc
  go_wp2_with fail
  refine C.out.mono ?_
  clear C
  rintro e w2 ⟨b, rfl, hc, m2⟩
  have s2 := m2.size
  replace hr := hr.mut m2 (by omega)
  replace M := M.trans m2
  replace o1 := o1.mut m2 (by omega)
  clear m2
  cases b
  · have XF := hid (Mut.ext X.out M (Nat.le_refl _))
    go_wp2
    go_ret
    exact gives_of _ ⟨_, o1.rd.mono (by omega) (by omega), by omega⟩ XF.out
  · have C := hid (l1Raw_c hc hr hd (by omega) (by omega))
    clear hc
    go_wp2_with fail
    refine C.out.mono ?_
    clear C
    rintro e w3 ⟨z, rfl, hc, m3⟩
    have s3 := m3.size
    replace hr := hr.mut m3 (by omega)
    replace M := M.trans m3
    replace o1 := o1.mut m3 (by omega)
    clear m3
    obtain ⟨i0, hi0, hz0, hz1, hz2⟩ := info_parts info_int
    go_wp2_with (at_builtin; refine wpList_append_Own rfl _ _ 37 rfl 3 i0 (.int .i64 0) 1 8 Try.underlying37 hi0 hz0 hz1 hz2 rfl (by decide) rfl (o1.ext (ext_alloc (ext_refl _) _)) rfl (Rd.new _ [.int .i64 z] 3 1 1 (by decide) rfl) (by simp; rfl) (by omega) (by omega) (Nat.le_trans (by omega) (ext_alloc (ext_refl _) _).size) ?_)
    intro v4 w4 ho4 m4
    have yb4 := ext_alloc (ext_refl w3) (.cells #[.int .i64 z] 3)
    have sb4 := yb4.size
    have s4 := m4.size
    replace hc := (hc.ext yb4).mut m4 (.inl (by omega))
    replace hr := (hr.ext yb4).mut m4 (by omega)
    replace M := (M.trans (Mut.of_ext yb4)).after m4 (by omega)
    clear o1 yb4 m4 hi0 hz0 hz1 hz2
    have o2 := ho4
    clear ho4
    have HO := hid (show Own w4 _ w4.heap.size 3 1 v4 (z1 ++ [z]).length ((z1 ++ [z]).map iv) by rw [List.length_append, List.map_append]; exact o2)
    have HL := hid (show (z1 ++ [z]).length ≤ 10 by simp; omega)
    clear o2
    have XF := hid (Mut.ext X.out M (Nat.le_refl _))
    go_wp2
    go_ret
    exact gives_of _ ⟨_, HO.out.rd.mono (by omega) (by omega), HL.out⟩ XF.out
set_option maxRecDepth 100000 in
set_option maxHeartbeats 2000000 in
theorem DrawDecodeInts_c {w : World} {lo hi n : Nat} {cv : Value} {xs : List UInt8} (hr : Rd w lo hi 1 cv n (xs.map bv)) (hn : n ≤ 1099511627776) (hhi : hi ≤ w.heap.size) :
    Calls Try.prog 21 #[cv] w (Gives w (PBII w 60)) := by
  have C := hid (l1New_c hr hn)
  go_enter Try.func21, Try.ntmps21
  go_wp2_with fail
  refine C.out.mono ?_
  clear C
  rintro e w0 ⟨rfl, hc, y0⟩
  have hcs := World.block_lt_of_cell? _ _ hc.choose_spec.choose_spec.1
  simp only at hcs
  replace hr := hr.ext y0
  have X := hid y0
  clear y0
  have hd : w.heap.size < lo ∨ hi ≤ w.heap.size := .inr hhi
  have M := Mut.refl w.heap.size (w.heap.size + 1) w0
  have C := hid (l2Ints_c hc hr hd (by omega) (by omega) (q := 5) (by omega) (by omega))
  clear hc
  go_wp2_with fail
  refine C.out.mono ?_
  clear C
  rintro e w1 ⟨r1, z1, rfl, o1, l1, hc, m1⟩
  have s1 := m1.size
  replace hr := hr.mut m1 (by omega)
  replace M := M.trans m1
  clear m1
  have C := hid (specEncodeInts_c o1.rd (by omega))
  go_wp2_with fail
  refine C.out.mono ?_
  clear C
  rintro e w2 ⟨u, rfl, o2, y2⟩
  have s2 := y2.size
  replace hc := hc.ext y2
  replace hr := hr.ext y2
  replace M := M.trans (Mut.of_ext y2)
  replace o1 := o1.ext y2
  clear y2
  have hl9 := ei_len z1 z1.length
  rw [List.take_length] at hl9
  have C := hid (l1Bent_c hc hr hd (by omega) (by omega) o2.rd (.inl (by omega)) (by omega) (by omega))
  clear hc
  go_wp2_with fail
  refine C.out.mono ?_
  clear C
  rintro e w3 ⟨r4, b4, rfl, o4, l4, hc, m3⟩
  have s3 := m3.size
  replace hr := hr.mut m3 (by omega)
  replace M := M.trans m3
  replace o1 := o1.mut m3 (by omega)
  replace o2 := o2.mut m3 (by omega)
  clear m3
  obtain ⟨a1, c1, rfl, _⟩ := o1.rd.form
  have C := hid (l1Once_c (m := 4) hc hr hd (by omega))
  clear hc
  go_wp2_with fail
  refine C.out.mono ?_
  clear C
  rintro e w4 ⟨b, rfl, hc, m4⟩
  have s4 := m4.size
  replace hr := hr.mut m4 (by omega)
  replace M := M.trans m4
  replace o1 := o1.mut m4 (by omega)
  replace o2 := o2.mut m4 (by omega)
  replace o4 := o4.mut m4 (by omega)
  clear m4
  cases b
  · have yb5 := ext_alloc (ext_refl w4) (.cells #[.int .i64 0, .int .i64 0, .int .i64 0, .int .i64 1, .int .i64 (-1), .int .i64 99] 3)
    have sb5 := yb5.size
    have rl : Rd (w4.alloc (.cells #[.int .i64 0, .int .i64 0, .int .i64 0, .int .i64 1, .int .i64 (-1), .int .i64 99] 3)) w4.heap.size (w4.heap.size + 1) 1 (.slice (some ⟨w4.heap.size, 0, none⟩) 6 6) 6 (([0, 0, 0, 1, -1, 99] : List Int).map iv) := Rd.new w4 (([0, 0, 0, 1, -1, 99] : List Int).map iv) 3 1 6 (by decide) rfl
    replace hc := hc.ext yb5
    replace hr := hr.ext yb5
    replace M := M.trans (Mut.of_ext yb5)
    replace o1 := o1.ext yb5
    replace o2 := o2.ext yb5
    replace o4 := o4.ext yb5
    clear yb5
    have C := hid (l1Int_c hc hr hd rl (.inl (by omega)) (by decide))
    clear hc
    go_wp2_with fail
    refine C.out.mono ?_
    clear C
    rintro e w6 ⟨y, hy, rfl, hc, m6⟩
    have s6 := m6.size
    replace hr := hr.mut m6 (by omega)
    replace M := M.trans m6
    replace o1 := o1.mut m6 (by omega)
    replace o2 := o2.mut m6 (by omega)
    replace o4 := o4.mut m6 (by omega)
    clear m6
    clear rl
    have XF := hid (Mut.ext X.out M (Nat.le_refl _))
    go_wp2
    go_ret3
    exact gives_of _ ⟨_, _, _, rfl, ⟨_, o4.mono (by omega) (by omega), by omega⟩⟩ XF.out
  · have yb7 := ext_alloc (ext_refl w4) (.cells #[.int .i64 0, .int .i64 1, .int .i64 6, .int .i64 (-1), .int .i64 101] 3)
    have sb7 := yb7.size
    have rl : Rd (w4.alloc (.cells #[.int .i64 0, .int .i64 1, .int .i64 6, .int .i64 (-1), .int .i64 101] 3)) w4.heap.size (w4.heap.size + 1) 1 (.slice (some ⟨w4.heap.size, 0, none⟩) 5 5) 5 (([0, 1, 6, -1, 101] : List Int).map iv) := Rd.new w4 (([0, 1, 6, -1, 101] : List Int).map iv) 3 1 5 (by decide) rfl
    replace hc := hc.ext yb7
    replace hr := hr.ext yb7
    replace M := M.trans (Mut.of_ext yb7)
    replace o1 := o1.ext yb7
    replace o2 := o2.ext yb7
    replace o4 := o4.ext yb7
    clear yb7
    have C := hid (l1Int_c hc hr hd rl (.inl (by omega)) (by decide))
    clear hc
    go_wp2_with fail
    refine C.out.mono ?_
    clear C
    rintro e w8 ⟨z, hz, rfl, hc, m8⟩
    have s8 := m8.size
    replace hr := hr.mut m8 (by omega)
    replace M := M.trans m8
    replace o1 := o1.mut m8 (by omega)
    replace o2 := o2.mut m8 (by omega)
    replace o4 := o4.mut m8 (by omega)
    clear m8
    clear rl
    have yb9 := ext_alloc (ext_refl w8) (.cells #[.int .i64 0, .int .i64 0, .int .i64 0, .int .i64 1, .int .i64 (-1), .int .i64 99] 3)
    have sb9 := yb9.size
    have rl : Rd (w8.alloc (.cells #[.int .i64 0, .int .i64 0, .int .i64 0, .int .i64 1, .int .i64 (-1), .int .i64 99] 3)) w8.heap.size (w8.heap.size + 1) 1 (.slice (some ⟨w8.heap.size, 0, none⟩) 6 6) 6 (([0, 0, 0, 1, -1, 99] : List Int).map iv) := Rd.new w8 (([0, 0, 0, 1, -1, 99] : List Int).map iv) 3 1 6 (by decide) rfl
    replace hc := hc.ext yb9
    replace hr := hr.ext yb9
    replace M := M.trans (Mut.of_ext yb9)
    replace o1 := o1.ext yb9
    replace o2 := o2.ext yb9
    replace o4 := o4.ext yb9
    clear yb9
    have C := hid (l1Int_c hc hr hd rl (.inl (by omega)) (by decide))
    clear hc
    go_wp2_with fail
    refine C.out.mono ?_
    clear C
    rintro e w10 ⟨y, hy, rfl, hc, m10⟩
    have s10 := m10.size
    replace hr := hr.mut m10 (by omega)
    replace M := M.trans m10
    replace o1 := o1.mut m10 (by omega)
    replace o2 := o2.mut m10 (by omega)
    replace o4 := o4.mut m10 (by omega)
    clear m10
    clear rl
    have XF := hid (Mut.ext X.out M (Nat.le_refl _))
    go_wp2
    go_ret3
    exact gives_of _ ⟨_, _, _, rfl, ⟨_, o4.mono (by omega) (by omega), by omega⟩⟩ XF.out
set_option maxRecDepth 100000 in
set_option maxHeartbeats 2000000 in
theorem DrawEqualBytes_c {w : World} {lo hi n : Nat} {cv : Value} {xs : List UInt8} (hr : Rd w lo hi 1 cv n (xs.map bv)) (hn : n ≤ 1099511627776) (hhi : hi ≤ w.heap.size) :
    Calls Try.prog 24 #[cv] w (Gives w (PBB w 10)) := by
  have C := hid (l1New_c hr hn)
  go_enter Try.func24, Try.ntmps24
  go_wp2_with fail
  refine C.out.mono ?_
  clear C
  rintro e w0 ⟨rfl, hc, y0⟩
  have hcs := World.block_lt_of_cell? _ _ hc.choose_spec.choose_spec.1
  simp only at hcs
  replace hr := hr.ext y0
  have X := hid y0
  clear y0
  have hd : w.heap.size < lo ∨ hi ≤ w.heap.size := .inr hhi
  have M := Mut.refl w.heap.size (w.heap.size + 1) w0
  have C := hid (l1Below_c (m := 5) hc hr hd (by omega))
  clear hc
  go_wp2_with fail
  refine C.out.mono ?_
  clear C
  rintro e w1 ⟨x, rfl, x0, x1, hc, m1⟩
  have s1 := m1.size
  replace hr := hr.mut m1 (by omega)
  replace M := M.trans m1
  clear m1
  have C := hid (l1Bytes_c (m := x) hc hr hd (by omega) (by omega) (by omega))
  clear hc
  go_wp2_with fail
  refine C.out.mono ?_
  clear C
  rintro e w2 ⟨r1, b1, rfl, o1, l1, hc, m2⟩
  have s2 := m2.size
  replace hr := hr.mut m2 (by omega)
  replace M := M.trans m2
  clear m2
  have C := hid (l1Once_c (m := 2) hc hr hd (by omega))
  clear hc
  go_wp2_with fail
  refine C.out.mono ?_
  clear C
  rintro e w3 ⟨b, rfl, hc, m3⟩
  have s3 := m3.size
  replace hr := hr.mut m3 (by omega)
  replace M := M.trans m3
  replace o1 := o1.mut m3 (by omega)
  clear m3
  cases b
  · have C := hid (l1Bent_c hc hr hd (by omega) (by omega) o1.rd (.inl (by omega)) (by omega) (by omega))
    clear hc
    go_wp2_with fail
    refine C.out.mono ?_
    clear C
    rintro e w4 ⟨r2, b2, rfl, o2, l2, hc, m4⟩
    have s4 := m4.size
    replace hr := hr.mut m4 (by omega)
    replace M := M.trans m4
    replace o1 := o1.mut m4 (by omega)
    clear m4
    have XF := hid (Mut.ext X.out M (Nat.le_refl _))
    go_wp2
    go_ret2
    exact gives_of _ ⟨_, _, rfl, ⟨_, o1.rd.mono (by omega) (by omega), by omega⟩, ⟨_, o2.mono (by omega) (by omega), by omega⟩⟩ XF.out
  · obtain ⟨a1, c1, rfl, _⟩ := o1.rd.form
    have o1r := o1.rd
    clear o1
    obtain ⟨i0, hi0, hz0, hz1, hz2⟩ := info_parts info_byte
    have yb5 := ext_alloc (ext_refl w3) (.cells #[] 5)
    have sb5 := yb5.size
    have oe5 := Own.new w3 #[] 5 1 0 (by decide) rfl
    go_wp2_with (at_builtin; refine wpList_append_Own rfl _ _ 22 rfl 5 i0 (.int .u8 0) 1 1 Try.underlying22 hi0 hz0 hz1 hz2 rfl (by decide) rfl oe5 rfl (o1r.ext yb5) (bv_one _) (by omega) (by omega) (by simp) ?_)
    intro v5 w5 ho5 m5
    have s5 := m5.size
    replace hc := (hc.ext yb5).mut m5 (.inl (by omega))
    replace hr := (hr.ext yb5).mut m5 (by omega)
    replace M := (M.trans (Mut.of_ext yb5)).after m5 (by omega)
    replace o1r := (o1r.ext yb5).mut m5 (by omega)
    clear yb5 m5 oe5 hi0 hz0 hz1 hz2
    try rw [List.nil_append, Nat.zero_add] at ho5
    have o2 := ho5
    clear ho5
    have XF := hid (Mut.ext X.out M (Nat.le_refl _))
    go_wp2
    go_ret2
    exact gives_of _ ⟨_, _, rfl, ⟨_, o1r.mono (by omega) (by omega), by omega⟩, ⟨_, o2.rd.mono (by omega) (by omega), by omega⟩⟩ XF.out
set_option maxRecDepth 100000 in
set_option maxHeartbeats 2000000 in
theorem DrawDigest_c {w : World} {lo hi n : Nat} {cv : Value} {xs : List UInt8} (hr : Rd w lo hi 1 cv n (xs.map bv)) (hn : n ≤ 1099511627776) (hhi : hi ≤ w.heap.size) :
    Calls Try.prog 30 #[cv] w (Gives w (PL w 10)) := by
  have C := hid (l1New_c hr hn)
  go_enter Try.func30, Try.ntmps30
  go_wp2_with fail
  refine C.out.mono ?_
  clear C
  rintro e w0 ⟨rfl, hc, y0⟩
  have hcs := World.block_lt_of_cell? _ _ hc.choose_spec.choose_spec.1
  simp only at hcs
  replace hr := hr.ext y0
  have X := hid y0
  clear y0
  have hd : w.heap.size < lo ∨ hi ≤ w.heap.size := .inr hhi
  have M := Mut.refl w.heap.size (w.heap.size + 1) w0
  have C := hid (l3Words_c hc hr hd (by omega) (by omega))
  clear hc
  go_wp2_with fail
  refine C.out.mono ?_
  clear C
  rintro e w1 ⟨r1, z1, rfl, o1, l1, hc, m1⟩
  have s1 := m1.size
  replace hr := hr.mut m1 (by omega)
  replace M := M.trans m1
  clear m1
  have C := hid (l1One_c hc hr hd (by omega) (by omega))
  clear hc
  go_wp2_with fail
  refine C.out.mono ?_
  clear C
  rintro e w2 ⟨z, rfl, hc, m2⟩
  have s2 := m2.size
  replace hr := hr.mut m2 (by omega)
  replace M := M.trans m2
  replace o1 := o1.mut m2 (by omega)
  clear m2
  obtain ⟨i0, hi0, hz0, hz1, hz2⟩ := info_parts info_int
  go_wp2_with (at_builtin; refine wpList_append_Own rfl _ _ 37 rfl 3 i0 (.int .i64 0) 1 8 Try.underlying37 hi0 hz0 hz1 hz2 rfl (by decide) rfl (o1.ext (ext_alloc (ext_refl _) _)) rfl (Rd.new _ [.int .i64 z] 3 1 1 (by decide) rfl) (by simp; rfl) (by omega) (by omega) (Nat.le_trans (by omega) (ext_alloc (ext_refl _) _).size) ?_)
  intro v3 w3 ho3 m3
  have yb3 := ext_alloc (ext_refl w2) (.cells #[.int .i64 z] 3)
  have sb3 := yb3.size
  have s3 := m3.size
  replace hc := (hc.ext yb3).mut m3 (.inl (by omega))
  replace hr := (hr.ext yb3).mut m3 (by omega)
  replace M := (M.trans (Mut.of_ext yb3)).after m3 (by omega)
  clear o1 yb3 m3 hi0 hz0 hz1 hz2
  have o2 := ho3
  clear ho3
  have HO := hid (show Own w3 _ w3.heap.size 3 1 v3 (z1 ++ [z]).length ((z1 ++ [z]).map iv) by rw [List.length_append, List.map_append]; exact o2)
  have HL := hid (show (z1 ++ [z]).length ≤ 10 by simp; omega)
  clear o2
  have XF := hid (Mut.ext X.out M (Nat.le_refl _))
  go_wp2
  go_ret
  exact gives_of _ ⟨_, HO.out.rd.mono (by omega) (by omega), HL.out⟩ XF.out
set_option maxRecDepth 100000 in
set_option maxHeartbeats 2000000 in
theorem DrawComputeMAC_c {w : World} {lo hi n : Nat} {cv : Value} {xs : List UInt8} (hr : Rd w lo hi 1 cv n (xs.map bv)) (hn : n ≤ 1099511627776) (hhi : hi ≤ w.heap.size) :
    Calls Try.prog 29 #[cv] w (Gives w (PIL w 10)) := by
  have C := hid (l1New_c hr hn)
  go_enter Try.func29, Try.ntmps29
  go_wp2_with fail
  refine C.out.mono ?_
  clear C
  rintro e w0 ⟨rfl, hc, y0⟩
  have hcs := World.block_lt_of_cell? _ _ hc.choose_spec.choose_spec.1
  simp only at hcs
  replace hr := hr.ext y0
  have X := hid y0
  clear y0
  have hd : w.heap.size < lo ∨ hi ≤ w.heap.size := .inr hhi
  have M := Mut.refl w.heap.size (w.heap.size + 1) w0
  have C := hid (l3Word_c hc hr hd (by omega) (by omega))
  clear hc
  go_wp2_with fail
  refine C.out.mono ?_
  clear C
  rintro e w1 ⟨z, rfl, hc, m1⟩
  have s1 := m1.size
  replace hr := hr.mut m1 (by omega)
  replace M := M.trans m1
  clear m1
  have C := hid (l3Words_c hc hr hd (by omega) (by omega))
  clear hc
  go_wp2_with fail
  refine C.out.mono ?_
  clear C
  rintro e w2 ⟨r1, z1, rfl, o1, l1, hc, m2⟩
  have s2 := m2.size
  replace hr := hr.mut m2 (by omega)
  replace M := M.trans m2
  clear m2
  have XF := hid (Mut.ext X.out M (Nat.le_refl _))
  go_wp2
  go_ret2
  exact gives_of _ ⟨_, _, rfl, ⟨_, o1.rd.mono (by omega) (by omega), by omega⟩⟩ XF.out
set_option maxRecDepth 100000 in
set_option maxHeartbeats 2000000 in
theorem DrawValidSecret_c {w : World} {lo hi n : Nat} {cv : Value} {xs : List UInt8} (hr : Rd w lo hi 1 cv n (xs.map bv)) (hn : n ≤ 1099511627776) (hhi : hi ≤ w.heap.size) :
    Calls Try.prog 31 #[cv] w (Gives w (PI)) := by
  have C := hid (l1New_c hr hn)
  go_enter Try.func31, Try.ntmps31
  go_wp2_with fail
  refine C.out.mono ?_
  clear C
  rintro e w0 ⟨rfl, hc, y0⟩
  have hcs := World.block_lt_of_cell? _ _ hc.choose_spec.choose_spec.1
  simp only at hcs
  replace hr := hr.ext y0
  have X := hid y0
  clear y0
  have hd : w.heap.size < lo ∨ hi ≤ w.heap.size := .inr hhi
  have M := Mut.refl w.heap.size (w.heap.size + 1) w0
  have C := hid (l3Word_c hc hr hd (by omega) (by omega))
  clear hc
  go_wp2_with fail
  refine C.out.mono ?_
  clear C
  rintro e w1 ⟨z, rfl, hc, m1⟩
  have s1 := m1.size
  replace hr := hr.mut m1 (by omega)
  replace M := M.trans m1
  clear m1
  have XF := hid (Mut.ext X.out M (Nat.le_refl _))
  go_wp2
  go_ret
  exact gives_of _ ⟨_, rfl⟩ XF.out
set_option maxRecDepth 100000 in
set_option maxHeartbeats 2000000 in
theorem DrawBytesToInts_c {w : World} {lo hi n : Nat} {cv : Value} {xs : List UInt8} (hr : Rd w lo hi 1 cv n (xs.map bv)) (hn : n ≤ 1099511627776) (hhi : hi ≤ w.heap.size) :
    Calls Try.prog 34 #[cv] w (Gives w (PB w 10)) := by
  have C := hid (l1New_c hr hn)
  go_enter Try.func34, Try.ntmps34
  go_wp2_with fail
  refine C.out.mono ?_
  clear C
  rintro e w0 ⟨rfl, hc, y0⟩
  have hcs := World.block_lt_of_cell? _ _ hc.choose_spec.choose_spec.1
  simp only at hcs
  replace hr := hr.ext y0
  have X := hid y0
  clear y0
  have hd : w.heap.size < lo ∨ hi ≤ w.heap.size := .inr hhi
  have M := Mut.refl w.heap.size (w.heap.size + 1) w0
  have C := hid (l1Below_c (m := 6) hc hr hd (by omega))
  clear hc
  go_wp2_with fail
  refine C.out.mono ?_
  clear C
  rintro e w1 ⟨x, rfl, x0, x1, hc, m1⟩
  have s1 := m1.size
  replace hr := hr.mut m1 (by omega)
  replace M := M.trans m1
  clear m1
  have C := hid (l1Bytes_c (m := x) hc hr hd (by omega) (by omega) (by omega))
  clear hc
  go_wp2_with fail
  refine C.out.mono ?_
  clear C
  rintro e w2 ⟨r1, b1, rfl, o1, l1, hc, m2⟩
  have s2 := m2.size
  replace hr := hr.mut m2 (by omega)
  replace M := M.trans m2
  clear m2
  have XF := hid (Mut.ext X.out M (Nat.le_refl _))
  go_wp2
  go_ret
  exact gives_of _ ⟨_, o1.rd.mono (by omega) (by omega), by omega⟩ XF.out
set_option maxRecDepth 100000 in
set_option maxHeartbeats 2000000 in
theorem DrawEncrypt_c {w : World} {lo hi n : Nat} {cv : Value} {xs : List UInt8} (hr : Rd w lo hi 1 cv n (xs.map bv)) (hn : n ≤ 1099511627776) (hhi : hi ≤ w.heap.size) :
    Calls Try.prog 32 #[cv] w (Gives w (PIB w 10)) := by
  have C := hid (l1New_c hr hn)
  go_enter Try.func32, Try.ntmps32
  go_wp2_with fail
  refine C.out.mono ?_
  clear C
  rintro e w0 ⟨rfl, hc, y0⟩
  have hcs := World.block_lt_of_cell? _ _ hc.choose_spec.choose_spec.1
  simp only at hcs
  replace hr := hr.ext y0
  have X := hid y0
  clear y0
  have hd : w.heap.size < lo ∨ hi ≤ w.heap.size := .inr hhi
  have M := Mut.refl w.heap.size (w.heap.size + 1) w0
  have C := hid (l3Word_c hc hr hd (by omega) (by omega))
  clear hc
  go_wp2_with fail
  refine C.out.mono ?_
  clear C
  rintro e w1 ⟨z, rfl, hc, m1⟩
  have s1 := m1.size
  replace hr := hr.mut m1 (by omega)
  replace M := M.trans m1
  clear m1
  have C := hid (l1Below_c (m := 8) hc hr hd (by omega))
  clear hc
  go_wp2_with fail
  refine C.out.mono ?_
  clear C
  rintro e w2 ⟨x, rfl, x0, x1, hc, m2⟩
  have s2 := m2.size
  replace hr := hr.mut m2 (by omega)
  replace M := M.trans m2
  clear m2
  have C := hid (l1Bytes_c (m := x) hc hr hd (by omega) (by omega) (by omega))
  clear hc
  go_wp2_with fail
  refine C.out.mono ?_
  clear C
  rintro e w3 ⟨r1, b1, rfl, o1, l1, hc, m3⟩
  have s3 := m3.size
  replace hr := hr.mut m3 (by omega)
  replace M := M.trans m3
  clear m3
  have XF := hid (Mut.ext X.out M (Nat.le_refl _))
  go_wp2
  go_ret2
  exact gives_of _ ⟨_, _, rfl, ⟨_, o1.rd.mono (by omega) (by omega), by omega⟩⟩ XF.out
set_option maxRecDepth 100000 in
set_option maxHeartbeats 2000000 in
theorem DrawDeriveSecret_c {w : World} {lo hi n : Nat} {cv : Value} {xs : List UInt8} (hr : Rd w lo hi 1 cv n (xs.map bv)) (hn : n ≤ 1099511627776) (hhi : hi ≤ w.heap.size) :
    Calls Try.prog 35 #[cv] w (Gives w (PIS)) := by
  have C := hid (l1New_c hr hn)
  go_enter Try.func35, Try.ntmps35
  go_wp2_with fail
  refine C.out.mono ?_
  clear C
  rintro e w0 ⟨rfl, hc, y0⟩
  have hcs := World.block_lt_of_cell? _ _ hc.choose_spec.choose_spec.1
  simp only at hcs
  replace hr := hr.ext y0
  have X := hid y0
  clear y0
  have hd : w.heap.size < lo ∨ hi ≤ w.heap.size := .inr hhi
  have M := Mut.refl w.heap.size (w.heap.size + 1) w0
  have C := hid (l3Word_c hc hr hd (by omega) (by omega))
  clear hc
  go_wp2_with fail
  refine C.out.mono ?_
  clear C
  rintro e w1 ⟨z, rfl, hc, m1⟩
  have s1 := m1.size
  replace hr := hr.mut m1 (by omega)
  replace M := M.trans m1
  clear m1
  have yb := ext_alloc (ext_refl w1) (.cells #[.string { data := #[] }, .string { data := #[97] }, .string { data := #[98] }, .string { data := #[97, 98] }, .string { data := #[110, 101, 119, 115] }, .string { data := #[120] }] 9)
  have sb := yb.size
  have rl : Rd (w1.alloc (.cells #[.string { data := #[] }, .string { data := #[97] }, .string { data := #[98] }, .string { data := #[97, 98] }, .string { data := #[110, 101, 119, 115] }, .string { data := #[120] }] 9)) w1.heap.size (w1.heap.size + 1) 1 (.slice (some ⟨w1.heap.size, 0, none⟩) 6 6) 6 (([⟨#[]⟩, ⟨#[97]⟩, ⟨#[98]⟩, ⟨#[97, 98]⟩, ⟨#[110, 101, 119, 115]⟩, ⟨#[120]⟩] : List ByteArray).map sv) := Rd.new w1 (([⟨#[]⟩, ⟨#[97]⟩, ⟨#[98]⟩, ⟨#[97, 98]⟩, ⟨#[110, 101, 119, 115]⟩, ⟨#[120]⟩] : List ByteArray).map sv) 9 1 6 (by decide) rfl
  have hss : ∀ s ∈ ([⟨#[]⟩, ⟨#[97]⟩, ⟨#[98]⟩, ⟨#[97, 98]⟩, ⟨#[110, 101, 119, 115]⟩, ⟨#[120]⟩] : List ByteArray), s.size ≤ 16 := by decide
  have HSS := hid hss
  clear hss
  replace hc := hc.ext yb
  replace hr := hr.ext yb
  replace M := M.trans (Mut.of_ext yb)
  clear yb
  have C := hid (l1Str_c hc hr hd rl (.inl (by omega)) (by decide))
  clear hc
  go_wp2_with fail
  refine C.out.mono ?_
  clear C
  rintro e w3 ⟨t, ht, rfl, hc, m3⟩
  have s3 := m3.size
  replace hr := hr.mut m3 (by omega)
  replace M := M.trans m3
  clear m3
  have hts := HSS.out t ht
  clear rl ht HSS
  have XF := hid (Mut.ext X.out M (Nat.le_refl _))
  go_wp2
  go_ret2
  exact gives_of _ ⟨_, _, rfl, hts⟩ XF.out
set_option maxRecDepth 100000 in
set_option maxHeartbeats 2000000 in
theorem DrawEqualInts_c {w : World} {lo hi n : Nat} {cv : Value} {xs : List UInt8} (hr : Rd w lo hi 1 cv n (xs.map bv)) (hn : n ≤ 1099511627776) (hhi : hi ≤ w.heap.size) :
    Calls Try.prog 33 #[cv] w (Gives w (PLL w 10)) := by
  have C := hid (l1New_c hr hn)
  go_enter Try.func33, Try.ntmps33
  go_wp2_with fail
  refine C.out.mono ?_
  clear C
  rintro e w0 ⟨rfl, hc, y0⟩
  have hcs := World.block_lt_of_cell? _ _ hc.choose_spec.choose_spec.1
  simp only at hcs
  replace hr := hr.ext y0
  have X := hid y0
  clear y0
  have hd : w.heap.size < lo ∨ hi ≤ w.heap.size := .inr hhi
  have M := Mut.refl w.heap.size (w.heap.size + 1) w0
  have C := hid (l2Ints_c hc hr hd (by omega) (by omega) (q := 4) (by omega) (by omega))
  clear hc
  go_wp2_with fail
  refine C.out.mono ?_
  clear C
  rintro e w1 ⟨r1, z1, rfl, o1, l1, hc, m1⟩
  have s1 := m1.size
  replace hr := hr.mut m1 (by omega)
  replace M := M.trans m1
  clear m1
  obtain ⟨a1, c1, rfl, _⟩ := o1.rd.form
  have o1r := o1.rd
  clear o1
  obtain ⟨i0, hi0, hz0, hz1, hz2⟩ := info_parts info_int
  have yb2 := ext_alloc (ext_refl w1) (.cells #[] 3)
  have sb2 := yb2.size
  have oe2 := Own.new w1 #[] 3 1 0 (by decide) rfl
  go_wp2_with (at_builtin; refine wpList_append_Own rfl _ _ 37 rfl 3 i0 (.int .i64 0) 1 8 Try.underlying37 hi0 hz0 hz1 hz2 rfl (by decide) rfl oe2 rfl (o1r.ext yb2) (iv_one _) (by omega) (by omega) (by simp) ?_)
  intro v2 w2 ho2 m2
  have s2 := m2.size
  replace hc := (hc.ext yb2).mut m2 (.inl (by omega))
  replace hr := (hr.ext yb2).mut m2 (by omega)
  replace M := (M.trans (Mut.of_ext yb2)).after m2 (by omega)
  replace o1r := (o1r.ext yb2).mut m2 (by omega)
  clear yb2 m2 oe2 hi0 hz0 hz1 hz2
  try rw [List.nil_append, Nat.zero_add] at ho2
  have o2 := ho2
  clear ho2
  have C := hid (l1Below_c (m := 3) hc hr hd (by omega))
  clear hc
  go_wp2_with fail
  refine C.out.mono ?_
  clear C
  rintro e w3 ⟨x, rfl, x0, x1, hc, m3⟩
  have s3 := m3.size
  replace hr := hr.mut m3 (by omega)
  replace M := M.trans m3
  replace o1r := o1r.mut m3 (by omega)
  replace o2 := o2.mut m3 (by omega)
  clear m3
  by_cases g0 : x = 0
  · subst g0
    have C := hid (l2Ints_c hc hr hd (by omega) (by omega) (q := 4) (by omega) (by omega))
    clear hc
    go_wp2_with fail
    refine C.out.mono ?_
    clear C
    rintro e w4 ⟨r3, z3, rfl, o3, l3, hc, m4⟩
    have s4 := m4.size
    replace hr := hr.mut m4 (by omega)
    replace M := M.trans m4
    replace o1r := o1r.mut m4 (by omega)
    replace o2 := o2.mut m4 (by omega)
    clear m4
    have XF := hid (Mut.ext X.out M (Nat.le_refl _))
    go_wp2
    go_ret2
    exact gives_of _ ⟨_, _, rfl, ⟨_, o1r.mono (by omega) (by omega), by omega⟩, ⟨_, o3.rd.mono (by omega) (by omega), by omega⟩⟩ XF.out
  have e0 : (x == 0) = false := beq_eq_false_iff_ne.2 g0
  have f0 : decide (x = 0) = false := decide_eq_false g0
  clear g0
  by_cases g1 : x = 1
  · subst g1
    obtain ⟨i0, hi0, hz0, hz1, hz2⟩ := info_parts info_int
    go_wp2_with (at_builtin; refine wpList_append_Own rfl _ _ 37 rfl 3 i0 (.int .i64 0) 1 8 Try.underlying37 hi0 hz0 hz1 hz2 rfl (by decide) rfl (o2.ext (ext_alloc (ext_refl _) _)) rfl (Rd.new _ [.int .i64 1] 3 1 1 (by decide) rfl) (by simp; rfl) (by omega) (by omega) (Nat.le_trans (by omega) (ext_alloc (ext_refl _) _).size) ?_)
    intro v5 w5 ho5 m5
    have yb5 := ext_alloc (ext_refl w3) (.cells #[.int .i64 1] 3)
    have sb5 := yb5.size
    have s5 := m5.size
    replace hc := (hc.ext yb5).mut m5 (.inl (by omega))
    replace hr := (hr.ext yb5).mut m5 (by omega)
    replace M := (M.trans (Mut.of_ext yb5)).after m5 (by omega)
    replace o1r := (o1r.ext yb5).mut m5 (by omega)
    clear o2 yb5 m5 hi0 hz0 hz1 hz2
    have o3 := ho5
    clear ho5
    have HO := hid (show Own w5 _ w5.heap.size 3 1 v5 (z1 ++ [1]).length ((z1 ++ [1]).map iv) by rw [List.length_append, List.map_append]; exact o3)
    have HL := hid (show (z1 ++ [(1 : Int)]).length ≤ 10 by simp; omega)
    clear o3
    have XF := hid (Mut.ext X.out M (Nat.le_refl _))
    go_wp2
    go_ret2
    exact gives_of _ ⟨_, _, rfl, ⟨_, o1r.mono (by omega) (by omega), by omega⟩, ⟨_, HO.out.rd.mono (by omega) (by omega), HL.out⟩⟩ XF.out
  have e1 : (x == 1) = false := beq_eq_false_iff_ne.2 g1
  have f1 : decide (x = 1) = false := decide_eq_false g1
  clear g1
  have XF := hid (Mut.ext X.out M (Nat.le_refl _))
  go_wp2
  go_ret2
  exact gives_of _ ⟨_, _, rfl, ⟨_, o1r.mono (by omega) (by omega), by omega⟩, ⟨_, o2.rd.mono (by omega) (by omega), by omega⟩⟩ XF.out
end Go.Proofs.Ytiikpkkpacjamaa
