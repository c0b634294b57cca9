/- Small contracts of the laws on bytes and numbers: EqualBytes, EqualInts, ValidSecret, the laws' at. -/
import Derived.Test.YtiikpkkpacjamaaBytesS
import Derived.Test.YtiikpkkpacjamaaIntsS
import Derived.Test.YtiikpkkpacjamaaNum
import Derived.Test.YtiikpkkpacjamaaConv
set_option linter.unusedVariables false
namespace Go.Proofs.Ytiikpkkpacjamaa
open Go.RowKit
theorem implEqualBytes_c {w : World} {lo hi lo' hi' n m : Nat} {v v' : Value} {xs ys : List UInt8} (h : Rd w lo hi 1 v n (xs.map bv)) (h' : Rd w lo' hi' 1 v' m (ys.map bv)) :
    Calls Try.prog 28 #[v, v'] w (Gives w fun r _ => r = .bool (decide (xs = ys))) := by
  go_enter Try.func28, Try.ntmps28
  go_wp2_with fail
  refine (slicesEqualByte_c h h').mono ?_
  rintro e w1 ⟨_, rfl, rfl, x1⟩
  go_wp2
  go_ret
  exact gives_bool rfl x1
theorem implEqualInts_c {w : World} {lo hi lo' hi' n m : Nat} {v v' : Value} {xs ys : List Int} (h : Rd w lo hi 1 v n (xs.map iv)) (h' : Rd w lo' hi' 1 v' m (ys.map iv)) :
    Calls Try.prog 46 #[v, v'] w (Gives w fun r _ => r = .bool (decide (xs = ys))) := by
  go_enter Try.func46, Try.ntmps46
  go_wp2_with fail
  refine (slicesEqualInt_c h h').mono ?_
  rintro e w1 ⟨_, rfl, rfl, x1⟩
  go_wp2
  go_ret
  exact gives_bool rfl x1
def vs (z : Int) : Bool := decide (1 ≤ z) && decide (z ≤ 2147483646)
theorem implValidSecret_c {w : World} {z : Int} : Calls Try.prog 40 #[.int .i64 z] w (Gives w fun r _ => r = .bool (vs z)) := by
  by_cases h1 : 1 ≤ z <;> by_cases h2 : z ≤ 2147483646
  all_goals
    have HV : Hid (vs z = (decide (1 ≤ z) && decide (z ≤ 2147483646))) := rfl
    have H1 := hid h1
    have H2 := hid h2
    go_enter Try.func40, Try.ntmps40
    go_wp2
    go_ret
    exact gives_bool (by rw [HV.out]; simp [H1.out, H2.out]) (ext_refl _)
theorem specValidSecret_c {w : World} {z : Int} : Calls Try.prog 41 #[.int .i64 z] w (Gives w fun r _ => r = .bool (vs z)) := by
  by_cases h1 : 1 ≤ z <;> by_cases h2 : z ≤ 2147483646
  all_goals
    have HV : Hid (vs z = (decide (1 ≤ z) && decide (z ≤ 2147483646))) := rfl
    have H1 := hid h1
    have H2 := hid h2
    go_enter Try.func41, Try.ntmps41
    go_wp2
    go_ret
    exact gives_bool (by rw [HV.out]; simp [H1.out, H2.out]) (ext_refl _)
theorem at3_c {w : World} {lo hi n : Nat} {v : Value} {xs : List UInt8} (h : Rd w lo hi 1 v n (xs.map bv)) :
    Calls Try.prog 51 #[v, .int .i64 3] w (Gives w fun r _ => ∃ z : Nat, z ≤ 255 ∧ r = .int .i64 (z : Int)) := by
  obtain ⟨hl, a, cap, rfl, hc, hm, hat⟩ := h
  rw [List.length_map, Nat.mul_one] at hl
  have HL := hid hl
  clear hl
  by_cases h3 : 3 < n
  · obtain ⟨b, off, rfl, _, _, hbs, hcell⟩ := hat (by omega)
    have hk : 3 < xs.length := by rw [HL.out]; exact h3
    have c1 : w.cell? ⟨b, off + 3, none⟩ = some (.int .u8 (xs[3].toNat : Int)) := hcell 3 _ (by simp [hk, bv])
    have hb0 : (0 : Int) ≤ (xs[3].toNat : Int) := by omega
    have hb1 : (xs[3].toNat : Int) ≤ 255 := by have := UInt8.toNat_lt xs[3]; omega
    have hb2 : xs[3].toNat ≤ 255 := by omega
    have hi : (3 : Int) < (n : Int) := by omega
    clear hcell hat
    generalize xs[3].toNat = y at *
    go_enter Try.func51, Try.ntmps51
    go_wp2
    go_ret
    exact gives_of _ ⟨y, hb2, rfl⟩ (ext_refl _)
  · have hi : ¬ (3 : Int) < (n : Int) := by omega
    have hi2 : decide ((3 : Int) < (n : Int)) = false := decide_eq_false hi
    clear hat
    go_enter Try.func51, Try.ntmps51
    go_wp2
    go_ret
    exact gives_of _ ⟨((93 + (n : Int) * 7) % 256).toNat, by omega, (by first | (congr 1; omega) | (congr 1) | rfl)⟩ (ext_refl _)
end Go.Proofs.Ytiikpkkpacjamaa
