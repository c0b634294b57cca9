/- Min, Max, CeilDiv, Mod and InRange of the program and the reference, each with what it gives; the length of a numeral. No condition. -/
import Derived.Test.YtmabcdnjojjgeaaDoorDd
import Derived.Test.YtmabcdnjojjgeaaDoorPj
set_option linter.unusedVariables false
namespace Go.Proofs.YtmabcdnjojjgeaaDoor
open Go.RowKit
theorem gP {P : Program} {f : FuncId} {vs : Array Value} {v : Value} {w : World} (h : Calls P f vs w fun e w' => e = .returned v ∧ w = w') : Calls P f vs w (Gives w fun r _ => r = v) :=
  h.mono (by rintro e w' ⟨rfl, rfl⟩; exact ⟨_, rfl, rfl, ext_refl _⟩)
theorem digits_le (u : Nat) (h : u < 100000000000000000000) : Lib.nDigits u ≤ 20 := by
  have h1 : ∀ k v, v < 10 ^ (k + 1) → Lib.nDigits v ≤ k + 1 := by
    intro k
    induction k with
    | zero => intro v hv; rw [Lib.nDigits_small (by omega)]; omega
    | succ k ih =>
      intro v hv
      by_cases hs : v < 10
      · rw [Lib.nDigits_small hs]; omega
      · rw [Lib.nDigits_big hs]
        have := ih (v / 10) (by rw [Nat.pow_succ] at hv; omega)
        omega
  exact h1 19 u (by rw [show (10 : Nat) ^ (19 + 1) = 100000000000000000000 by decide]; omega)
theorem itoa_room {n : Int} (h0 : -9223372036854775808 ≤ n) (h1 : n ≤ 9223372036854775807) : (dst (Lib.itoa n)).size ≤ 9223372036854775807 := by
  rw [dst_size, Lib.itoa]
  split
  · rw [List.length_cons, Lib.decDigits_length]
    have := digits_le n.natAbs (by omega)
    omega
  · rw [Lib.decDigits_length]
    have := digits_le n.toNat (by omega)
    omega
def mn (a b : Int) : Int := if b < a then b else a
def mx (a b : Int) : Int := if a < b then b else a
theorem mn_le (a b : Int) : mn a b ≤ a := by unfold mn; split <;> omega
theorem le_mx (a b : Int) : a ≤ mx a b := by unfold mx; split <;> omega
def cd (a b : Int) : Int := if 0 ≤ a ∧ a ≤ 1000000000000 ∧ 1 ≤ b ∧ b ≤ 1000000000000 then (a + b - 1) / b else 0
def md (p q : Int) : Int := if 1 ≤ q ∧ q ≤ 1000000000000 then p % q else 0
theorem specMin_c {a b : Int} {w : World} : Calls Tryd.prog 21 #[.int .i64 a, .int .i64 b] w (Gives w fun r _ => r = .int .i64 (mn a b)) := by
  refine gP ?_
  rcases Int.lt_trichotomy a b with h1 | rfl | h1
  · have e : mn a b = a := by unfold mn; split <;> omega
    rw [e]; clear e
    go_enter Tryd.func21, Tryd.ntmps21
    go_wp2
    go_ret
    exact ⟨ret_int (by omega), rfl⟩
  · have e : mn a a = a := by unfold mn; split <;> omega
    rw [e]; clear e
    go_enter Tryd.func21, Tryd.ntmps21
    go_wp2
    go_ret
    exact ⟨ret_int (by omega), rfl⟩
  · have e : mn a b = b := by unfold mn; split <;> omega
    rw [e]; clear e
    go_enter Tryd.func21, Tryd.ntmps21
    go_wp2
    go_ret
    exact ⟨ret_int (by omega), rfl⟩
theorem specMax_c {a b : Int} {w : World} : Calls Tryd.prog 23 #[.int .i64 a, .int .i64 b] w (Gives w fun r _ => r = .int .i64 (mx a b)) := by
  refine gP ?_
  rcases Int.lt_trichotomy a b with h1 | rfl | h1
  · have e : mx a b = b := by unfold mx; split <;> omega
    rw [e]; clear e
    go_enter Tryd.func23, Tryd.ntmps23
    go_wp2
    go_ret
    exact ⟨ret_int (by omega), rfl⟩
  · have e : mx a a = a := by unfold mx; split <;> omega
    rw [e]; clear e
    go_enter Tryd.func23, Tryd.ntmps23
    go_wp2
    go_ret
    exact ⟨ret_int (by omega), rfl⟩
  · have e : mx a b = a := by unfold mx; split <;> omega
    rw [e]; clear e
    go_enter Tryd.func23, Tryd.ntmps23
    go_wp2
    go_ret
    exact ⟨ret_int (by omega), rfl⟩
theorem specCeilDiv_c {a b : Int} {w : World} : Calls Tryd.prog 18 #[.int .i64 a, .int .i64 b] w (Gives w fun r _ => r = .int .i64 (cd a b)) := by
  refine gP ?_
  by_cases h1 : 0 ≤ a
  · by_cases h2 : a ≤ 1000000000000
    · by_cases h3 : 1 ≤ b
      · by_cases h4 : b ≤ 1000000000000
        · have e : cd a b = (a + b - 1) / b := by rw [cd, if_pos (by omega)]
          rw [e]
          clear e
          go_enter Tryd.func18, Tryd.ntmps18
          go_wp2
          go_ret
          exact ⟨ret_int (by omega), rfl⟩
        · have e : cd a b = 0 := by rw [cd, if_neg (by omega)]
          rw [e]
          clear e
          go_enter Tryd.func18, Tryd.ntmps18
          go_wp2
          go_ret
          exact ⟨ret_int (by omega), rfl⟩
      · have e : cd a b = 0 := by rw [cd, if_neg (by omega)]
        rw [e]
        clear e
        go_enter Tryd.func18, Tryd.ntmps18
        go_wp2
        go_ret
        exact ⟨ret_int (by omega), rfl⟩
    · have e : cd a b = 0 := by rw [cd, if_neg (by omega)]
      rw [e]
      clear e
      go_enter Tryd.func18, Tryd.ntmps18
      go_wp2
      go_ret
      exact ⟨ret_int (by omega), rfl⟩
  · have e : cd a b = 0 := by rw [cd, if_neg (by omega)]
    rw [e]
    clear e
    go_enter Tryd.func18, Tryd.ntmps18
    go_wp2
    go_ret
    exact ⟨ret_int (by omega), rfl⟩
theorem specMd_c {a b : Int} {w : World} : Calls Tryd.prog 19 #[.int .i64 a, .int .i64 b] w (Gives w fun r _ => r = .int .i64 (md a b)) := by
  refine gP ?_
  by_cases h3 : 1 ≤ b
  · by_cases h4 : b ≤ 1000000000000
    · rw [md, if_pos ⟨h3, h4⟩]
      exact specMod_c h3 h4
    · rw [md, if_neg (by omega)]
      go_enter Tryd.func19, Tryd.ntmps19
      go_wp2
      go_ret
      exact ⟨ret_int (by omega), rfl⟩
  · rw [md, if_neg (by omega)]
    go_enter Tryd.func19, Tryd.ntmps19
    go_wp2
    go_ret
    exact ⟨ret_int (by omega), rfl⟩
theorem implMin_c {a b : Int} {w : World} : Calls Tryd.prog 20 #[.int .i64 a, .int .i64 b] w (Gives w fun r _ => r = .int .i64 (mn a b)) := by
  refine gP ?_
  rcases Int.lt_trichotomy a b with h1 | rfl | h1
  · have e : mn a b = a := by unfold mn; split <;> omega
    rw [e]; clear e
    go_enter Tryd.func20, Tryd.ntmps20
    go_wp2
    go_ret
    exact ⟨ret_int (by omega), rfl⟩
  · have e : mn a a = a := by unfold mn; split <;> omega
    rw [e]; clear e
    go_enter Tryd.func20, Tryd.ntmps20
    go_wp2
    go_ret
    exact ⟨ret_int (by omega), rfl⟩
  · have e : mn a b = b := by unfold mn; split <;> omega
    rw [e]; clear e
    go_enter Tryd.func20, Tryd.ntmps20
    go_wp2
    go_ret
    exact ⟨ret_int (by omega), rfl⟩
theorem implMax_c {a b : Int} {w : World} : Calls Tryd.prog 22 #[.int .i64 a, .int .i64 b] w (Gives w fun r _ => r = .int .i64 (mx a b)) := by
  refine gP ?_
  rcases Int.lt_trichotomy a b with h1 | rfl | h1
  · have e : mx a b = b := by unfold mx; split <;> omega
    rw [e]; clear e
    go_enter Tryd.func22, Tryd.ntmps22
    go_wp2
    go_ret
    exact ⟨ret_int (by omega), rfl⟩
  · have e : mx a a = a := by unfold mx; split <;> omega
    rw [e]; clear e
    go_enter Tryd.func22, Tryd.ntmps22
    go_wp2
    go_ret
    exact ⟨ret_int (by omega), rfl⟩
  · have e : mx a b = a := by unfold mx; split <;> omega
    rw [e]; clear e
    go_enter Tryd.func22, Tryd.ntmps22
    go_wp2
    go_ret
    exact ⟨ret_int (by omega), rfl⟩
theorem implCeilDiv_c {a b : Int} {w : World} : Calls Tryd.prog 17 #[.int .i64 a, .int .i64 b] w (Gives w fun r _ => r = .int .i64 (cd a b)) := by
  refine gP ?_
  by_cases h1 : 0 ≤ a
  · by_cases h2 : a ≤ 1000000000000
    · by_cases h3 : 1 ≤ b
      · by_cases h4 : b ≤ 1000000000000
        · have e : cd a b = (a + b - 1) / b := by rw [cd, if_pos (by omega)]
          rw [e]
          clear e
          go_enter Tryd.func17, Tryd.ntmps17
          go_wp2
          go_ret
          exact ⟨ret_int (by omega), rfl⟩
        · have e : cd a b = 0 := by rw [cd, if_neg (by omega)]
          rw [e]
          clear e
          go_enter Tryd.func17, Tryd.ntmps17
          go_wp2
          go_ret
          exact ⟨ret_int (by omega), rfl⟩
      · have e : cd a b = 0 := by rw [cd, if_neg (by omega)]
        rw [e]
        clear e
        go_enter Tryd.func17, Tryd.ntmps17
        go_wp2
        go_ret
        exact ⟨ret_int (by omega), rfl⟩
    · have e : cd a b = 0 := by rw [cd, if_neg (by omega)]
      rw [e]
      clear e
      go_enter Tryd.func17, Tryd.ntmps17
      go_wp2
      go_ret
      exact ⟨ret_int (by omega), rfl⟩
  · have e : cd a b = 0 := by rw [cd, if_neg (by omega)]
    rw [e]
    clear e
    go_enter Tryd.func17, Tryd.ntmps17
    go_wp2
    go_ret
    exact ⟨ret_int (by omega), rfl⟩
theorem implMd_c {a b : Int} {w : World} : Calls Tryd.prog 16 #[.int .i64 a, .int .i64 b] w (Gives w fun r _ => r = .int .i64 (md a b)) := by
  refine gP ?_
  by_cases h3 : 1 ≤ b
  · by_cases h4 : b ≤ 1000000000000
    · rw [md, if_pos ⟨h3, h4⟩]
      exact implMod_c h3 h4
    · rw [md, if_neg (by omega)]
      go_enter Tryd.func16, Tryd.ntmps16
      go_wp2
      go_ret
      exact ⟨ret_int (by omega), rfl⟩
  · rw [md, if_neg (by omega)]
    go_enter Tryd.func16, Tryd.ntmps16
    go_wp2
    go_ret
    exact ⟨ret_int (by omega), rfl⟩
end Go.Proofs.YtmabcdnjojjgeaaDoor
