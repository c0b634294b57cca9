/- ReadVarint of the program and of the reference: both read a number of at most six bytes, seven bits a byte. Condition: the slice reads as bytes. -/
import Derived.Test.YtbachbanjcabhaaBytesS
namespace Go.Proofs.Ytbachbanjcabhaa
open Go.RowKit
/-- A number read from bytes, seven bits a byte, from place k on, acc read so far; f more bytes may be read. -/
def rvGo : Nat → Nat → Nat → List UInt8 → Option (Nat × Nat)
  | 0, _, _, _ => none
  | _ + 1, _, _, [] => none
  | f + 1, k, acc, c :: cs =>
    if c.toNat < 128 then if c.toNat = 0 ∧ 0 < k ∨ 1000000000000 < acc + c.toNat % 128 * 128 ^ k then none else some (acc + c.toNat % 128 * 128 ^ k, k + 1)
    else rvGo f (k + 1) (acc + c.toNat % 128 * 128 ^ k) cs
def rv (xs : List UInt8) (at_ : Int) : Option (Nat × Nat) := if at_ < 0 then none else rvGo 6 0 0 (xs.drop at_.toNat)
def rvVal (at_ : Int) : Option (Nat × Nat) → Value
  | none => .tuple #[.int .i64 0, .int .i64 0, .bool false]
  | some (n, c) => .tuple #[.int .i64 n, .int .i64 (at_ + c), .bool true]

theorem and127 (c : Nat) (h : c < 256) : bits .and .i64 (c : Int) 127 = ((c % 128 : Nat) : Int) := by
  have : ∀ d : Fin 256, bits .and .i64 ((d.val : Nat) : Int) 127 = ((d.val % 128 : Nat) : Int) := by decide +kernel
  exact this ⟨c, h⟩
theorem ofInt64 (a : Nat) (ha : a < 9223372036854775808) : (BitVec.ofInt 64 (a : Int)).toNat = a := by
  rw [BitVec.ofInt_natCast, BitVec.toNat_ofNat]; exact Nat.mod_eq_of_lt (by omega)
theorem or_shift (acc m k : Nat) (hk : k ≤ 5) (hm : m < 128) (ha : acc < 128 ^ k) : bits .or .i64 (acc : Int) ((m * 128 ^ k : Nat) : Int) = ((acc + m * 128 ^ k : Nat) : Int) := by
  have e : (128 : Nat) ^ k = 2 ^ (7 * k) := by rw [show (128 : Nat) = 2 ^ 7 by decide, ← Nat.pow_mul]
  have hk2 : (128 : Nat) ^ k ≤ 128 ^ 5 := Nat.pow_le_pow_right (by omega) hk
  have hp : m * 128 ^ k ≤ 127 * 128 ^ 5 := Nat.mul_le_mul (by omega) hk2
  have h1 : acc ||| m * 128 ^ k = acc + m * 128 ^ k := by
    rw [Nat.or_comm, Nat.mul_comm, e, ← Nat.two_pow_add_eq_or_of_lt (by rw [← e]; exact ha)]
    omega
  show IntKind.i64.wrap ((BitVec.ofInt 64 (acc : Int) ||| BitVec.ofInt 64 ((m * 128 ^ k : Nat) : Int)).toNat : Int) = _
  have hb : (128 : Nat) ^ 5 = 34359738368 := by decide
  rw [hb] at hk2 hp
  rw [BitVec.toNat_or, ofInt64 _ (by omega), ofInt64 _ (by omega), h1, IntKind.wrap_i64]
  omega
theorem shl7 (m k : Nat) (hk : k ≤ 5) (hm : m < 128) : wrap64 ((m : Int) * 2 ^ (7 * k)) = ((m * 128 ^ k : Nat) : Int) := by
  have e : ((2 : Int) ^ (7 * k)) = ((128 ^ k : Nat) : Int) := by
    rw [show (128 : Nat) = 2 ^ 7 by decide, ← Nat.pow_mul]; simp
  have hk2 : (128 : Nat) ^ k ≤ 128 ^ 5 := Nat.pow_le_pow_right (by omega) hk
  have hp : m * 128 ^ k ≤ 127 * 128 ^ 5 := Nat.mul_le_mul (by omega) hk2
  have hb : (128 : Nat) ^ 5 = 34359738368 := by decide
  rw [hb] at hp
  rw [e, ← Int.natCast_mul]
  generalize m * 128 ^ k = q at hp
  exact IntWalk.wrap64_in _ (by omega)
theorem pow_step (acc m k : Nat) (hm : m < 128) (ha : acc < 128 ^ k) : acc + m * 128 ^ k < 128 ^ (k + 1) := by
  have : m * 128 ^ k ≤ 127 * 128 ^ k := Nat.mul_le_mul_right _ (by omega)
  rw [Nat.pow_succ]; omega
theorem rvGo_end (f k acc : Nat) : rvGo f k acc [] = none := by cases f <;> rfl
theorem drop_cons {α : Type} (xs : List α) (j : Nat) (h : j < xs.length) : xs.drop j = xs[j] :: xs.drop (j + 1) := List.drop_eq_getElem_cons h


end Go.Proofs.Ytbachbanjcabhaa
