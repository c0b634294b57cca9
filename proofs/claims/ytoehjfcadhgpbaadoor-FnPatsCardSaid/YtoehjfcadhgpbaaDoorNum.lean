/- Mod and Digest of the program and of the reference. Mod: the remainder that is not below zero. Condition: the modulus is from 1 to 10^12. -/
import Derived.Test.YtoehjfcadhgpbaaDoorRows
import Derived.Test.YtoehjfcadhgpbaaDoorBase
namespace Go.Proofs.YtoehjfcadhgpbaaDoor
open Go.RowKit
def iv (z : Int) : Value := .int .i64 z
theorem iv_one (xs : List Int) : ∀ u ∈ xs.map iv, u.oneCell' = true := by
  intro u hu; obtain ⟨_, _, rfl⟩ := List.mem_map.1 hu; rfl
/-- Each number is an int. -/
def InI (l : List Int) : Prop := ∀ z ∈ l, -9223372036854775808 ≤ z ∧ z ≤ 9223372036854775807
theorem tmod_up (x m : Int) : (x.tmod m + m) % m = x % m := by
  rw [Int.add_emod_right, Int.tmod_def, Int.sub_mul_emod_self_left]
theorem ret_int {k : IntKind} {a b : Int} (h : a = b) : Ending.returned (.int k a) = .returned (.int k b) := by rw [h]

/-! ### Between two bounds -/
theorem specIn_c {x a b : Int} {w : World} (r : Bool) (h : decide (a ≤ x ∧ x ≤ b) = r) :
    Calls Tryd.prog 83 #[.int .i64 x, .int .i64 a, .int .i64 b] w fun e w' => e = .returned (.bool r) ∧ w = w' := by
  by_cases h1 : a ≤ x
  · by_cases h2 : x ≤ b
    · have hr : r = true := by rw [← h]; exact decide_eq_true ⟨h1, h2⟩
      subst hr
      clear h
      go_enter Tryd.func83, Tryd.ntmps83
      go_wp2
      go_ret
      exact ⟨rfl, rfl⟩
    · have hr : r = false := by rw [← h]; exact decide_eq_false fun k => h2 k.2
      subst hr
      clear h
      have h3 : decide (x ≤ b) = false := decide_eq_false h2
      go_enter Tryd.func83, Tryd.ntmps83
      go_wp2
      go_ret
      exact ⟨rfl, rfl⟩
  · have hr : r = false := by rw [← h]; exact decide_eq_false fun k => h1 k.1
    subst hr
    clear h
    have h3 : decide (a ≤ x) = false := decide_eq_false h1
    go_enter Tryd.func83, Tryd.ntmps83
    go_wp2
    go_ret
    exact ⟨rfl, rfl⟩
theorem implIn_c {x a b : Int} {w : World} (r : Bool) (h : decide (a ≤ x ∧ x ≤ b) = r) :
    Calls Tryd.prog 82 #[.int .i64 x, .int .i64 a, .int .i64 b] w fun e w' => e = .returned (.bool r) ∧ w = w' := by
  by_cases h1 : a ≤ x
  · by_cases h2 : x ≤ b
    · have hr : r = true := by rw [← h]; exact decide_eq_true ⟨h1, h2⟩
      subst hr
      clear h
      go_enter Tryd.func82, Tryd.ntmps82
      go_wp2
      go_ret
      exact ⟨rfl, rfl⟩
    · have hr : r = false := by rw [← h]; exact decide_eq_false fun k => h2 k.2
      subst hr
      clear h
      have h3 : decide (x ≤ b) = false := decide_eq_false h2
      go_enter Tryd.func82, Tryd.ntmps82
      go_wp2
      go_ret
      exact ⟨rfl, rfl⟩
  · have hr : r = false := by rw [← h]; exact decide_eq_false fun k => h1 k.1
    subst hr
    clear h
    have h3 : decide (a ≤ x) = false := decide_eq_false h1
    go_enter Tryd.func82, Tryd.ntmps82
    go_wp2
    go_ret
    exact ⟨rfl, rfl⟩

/-! ### Digest -/
def dgStep (d x : Int) : Int := (d * 1000003 + x % 2147483647 + 13) % 2147483647
def dg (l : List Int) : Int := l.foldl dgStep 11
theorem dgStep_bd (d x : Int) : 0 ≤ dgStep d x ∧ dgStep d x < 2147483647 := by unfold dgStep; omega
theorem dg_bd (l : List Int) : 0 ≤ dg l ∧ dg l < 2147483647 := by
  unfold dg
  rcases List.eq_nil_or_concat l with rfl | ⟨l', x, rfl⟩
  · decide
  · rw [List.concat_eq_append, List.foldl_append]; exact dgStep_bd _ _
theorem dg_take (l : List Int) (k : Nat) (h : k < l.length) : dg (l.take (k + 1)) = dgStep (dg (l.take k)) l[k] := by
  unfold dg
  rw [List.take_succ_eq_append_getElem h, List.foldl_append]; rfl
end Go.Proofs.YtoehjfcadhgpbaaDoor
