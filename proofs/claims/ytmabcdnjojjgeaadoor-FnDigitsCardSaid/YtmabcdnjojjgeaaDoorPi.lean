/- ParseInt: the number that a text spells, if it is the decimal numeral of a number up to 10^12. -/
import Derived.Test.YtmabcdnjojjgeaaDoorFi
import Derived.Lib.AtoiTie
set_option linter.unusedVariables false
namespace Go.Proofs.YtmabcdnjojjgeaaDoor
open Go.RowKit
def pr (s : ByteArray) : Option Nat :=
  if s.size ≤ 13 then match Lib.decNat s.data.toList with
    | none => none
    | some n => if n ≤ 1000000000000 ∧ dst (Lib.itoa n) = s then some n else none
  else none
def prVal : Option Nat → Value
  | none => .tuple #[.int .i64 0, .bool false]
  | some n => .tuple #[.int .i64 n, .bool true]
theorem pr_long {s : ByteArray} (h : ¬ s.size ≤ 13) : pr s = none := by rw [pr, if_neg h]
theorem pr_of {s : ByteArray} {n : Nat} (h : s.size ≤ 13) (hd : Lib.decNat s.data.toList = some n) (h1 : n ≤ 1000000000000) (h2 : dst (Lib.itoa n) = s) : pr s = some n := by
  rw [pr, if_pos h, hd]; exact if_pos ⟨h1, h2⟩
theorem pr_big {s : ByteArray} {n : Nat} (hd : Lib.decNat s.data.toList = some n) (h1 : ¬ n ≤ 1000000000000) : pr s = none := by
  rw [pr]; split
  · rw [hd]; exact if_neg fun h => h1 h.1
  · rfl
theorem pr_other {s : ByteArray} {n : Nat} (hd : Lib.decNat s.data.toList = some n) (h2 : ¬ dst (Lib.itoa n) = s) : pr s = none := by
  rw [pr]; split
  · rw [hd]; exact if_neg fun h => h2 h.2
  · rfl
theorem pr_none {s : ByteArray} (hd : Lib.decNat s.data.toList = none) : pr s = none := by
  rw [pr]; split
  · rw [hd]
  · rfl
theorem decNat_from {s : ByteArray} (h : 1 ≤ s.size) : Lib.decNat s.data.toList = Lib.decFrom 0 s.data.toList := by
  rw [Lib.decNat, if_neg]
  intro h0
  have : s.data.toList.length = s.size := Array.length_toList
  rw [List.isEmpty_iff.1 h0] at this
  simp at this; omega
theorem digit_head (u : Nat) : ∃ c r, Lib.decDigits u = c :: r ∧ c ≠ 43 ∧ c ≠ 45 := by
  have hl := Lib.decDigits_length u
  have hp := Lib.nDigits_pos u
  have key : ∀ c ∈ Lib.decDigits u, c ≠ 43 ∧ c ≠ 45 := by
    intro c hc
    rw [Lib.decDigits_eq] at hc
    obtain ⟨t, _, rfl⟩ := List.mem_map.1 hc
    have h1 : ∀ d : Fin 10, UInt8.ofNat (48 + d.val) ≠ 43 ∧ UInt8.ofNat (48 + d.val) ≠ 45 := by decide
    exact h1 ⟨u / 10 ^ (Lib.nDigits u - 1 - t) % 10, Nat.mod_lt _ (by omega)⟩
  cases h : Lib.decDigits u with
  | nil => rw [h] at hl; simp at hl; omega
  | cons c r => exact ⟨c, r, rfl, key c (by rw [h]; simp)⟩
theorem dst_toList (l : List UInt8) : (dst l).data.toList = l := by simp [dst]
/-- The program's road: what Atoi gives, then the same two tests. -/
theorem pr_atoi {s : ByteArray} {n : Int} (hs : s.size ≤ 13) (h : Lib.atoi s.data.toList = some n) :
    (0 ≤ n ∧ n ≤ 1000000000000 ∧ dst (Lib.itoa n) = s → ∃ m : Nat, n = m ∧ pr s = some m) ∧ (¬ (0 ≤ n ∧ n ≤ 1000000000000 ∧ dst (Lib.itoa n) = s) → pr s = none) := by
  obtain ⟨b0, r, hl, hc⟩ := Lib.atoi_cases h
  have sgn : b0 = 45 ∨ b0 = 43 → Lib.decNat s.data.toList = none ∧ ∀ m : Nat, ¬ dst (Lib.itoa m) = s := by
    intro hb
    constructor
    · rw [hl, Lib.decNat, if_neg (by simp), Lib.decFrom]
      rcases hb with rfl | rfl <;> rfl
    · intro m e
      obtain ⟨c, t, hd, h1, h2⟩ := digit_head m
      have e1 := congrArg (fun x : ByteArray => x.data.toList) e
      simp only [dst_toList, hl, Lib.itoa, if_neg (show ¬ ((m : Int) < 0) by omega), Int.toNat_natCast, hd] at e1
      have e2 := (List.cons.inj e1).1
      rcases hb with rfl | rfl
      · exact h2 e2
      · exact h1 e2
  rcases hc with ⟨hb, _⟩ | ⟨hb, _⟩ | ⟨h45, h43, m, hd, rfl⟩
  · obtain ⟨h1, h2⟩ := sgn (Or.inl hb)
    refine ⟨fun ⟨h0, _, he⟩ => ?_, fun _ => pr_none h1⟩
    obtain ⟨k, rfl⟩ := Int.eq_ofNat_of_zero_le h0
    exact absurd he (h2 k)
  · obtain ⟨h1, h2⟩ := sgn (Or.inr hb)
    refine ⟨fun ⟨h0, _, he⟩ => ?_, fun _ => pr_none h1⟩
    obtain ⟨k, rfl⟩ := Int.eq_ofNat_of_zero_le h0
    exact absurd he (h2 k)
  · have hN : Lib.decNat s.data.toList = some m := by rw [hl, Lib.decNat, if_neg (by simp)]; exact hd
    refine ⟨fun ⟨_, h1, h2⟩ => ⟨m, rfl, pr_of hs hN (by omega) h2⟩, fun hn => ?_⟩
    by_cases h1 : m ≤ 1000000000000
    · exact pr_other hN fun h2 => hn ⟨by omega, by omega, h2⟩
    · exact pr_big hN h1
theorem pr_noAtoi {s : ByteArray} (h : Lib.atoi s.data.toList = none) : pr s = none := by
  apply pr_none
  cases hl : s.data.toList with
  | nil => rfl
  | cons b r =>
    rw [hl, Lib.atoi] at h
    split at h
    · rename_i hb; rw [Lib.decNat, if_neg (by simp), Lib.decFrom, show b = 45 by simpa using hb]; rfl
    · split at h
      · rename_i hb; rw [Lib.decNat, if_neg (by simp), Lib.decFrom, show b = 43 by simpa using hb]; rfl
      · simpa using h
/-! ### The reference's loop -/
theorem from_end {s : ByteArray} {k n : Nat} (h : s.size ≤ k) (h1 : Lib.decFrom 0 (s.data.toList.take k) = some n) : Lib.decFrom 0 s.data.toList = some n := by
  rw [List.take_of_length_le (by rw [Array.length_toList]; exact h)] at h1; exact h1
theorem from_get (s : ByteArray) (k : Nat) (h : k < s.size) : s.data.toList[k]? = some s[k] := by
  have h' : k < s.data.toList.length := by rw [Array.length_toList]; exact h
  rw [List.getElem?_eq_getElem h', Array.getElem_toList]; rfl
theorem digit_yes {b : UInt8} (h : 48 ≤ b.toNat ∧ b.toNat ≤ 57) : Lib.digitVal b = some (b.toNat - 48) := by rw [Lib.digitVal, if_pos h]
theorem digit_no {b : UInt8} (h : ¬ (48 ≤ b.toNat ∧ b.toNat ≤ 57)) : Lib.digitVal b = none := by rw [Lib.digitVal, if_neg h]
theorem from_next {s : ByteArray} {k n : Nat} (h : k < s.size) (h1 : Lib.decFrom 0 (s.data.toList.take k) = some n) (hd : 48 ≤ s[k].toNat ∧ s[k].toNat ≤ 57) :
    Lib.decFrom 0 (s.data.toList.take (k + 1)) = some (n * 10 + (s[k].toNat - 48)) :=
  Lib.decFrom_take _ _ _ _ _ _ h1 (from_get s k h) (digit_yes hd)
theorem from_bad {s : ByteArray} {k : Nat} (h : k < s.size) (hd : ¬ (48 ≤ s[k].toNat ∧ s[k].toNat ≤ 57)) : pr s = none := by
  apply pr_none
  rw [decNat_from (by omega)]
  cases hf : Lib.decFrom 0 s.data.toList with
  | none => rfl
  | some m =>
    obtain ⟨d, he⟩ := Lib.digit_of_decFrom _ _ _ hf k _ (from_get s k h)
    rw [digit_no hd] at he; cases he
set_option maxRecDepth 100000 in
set_option maxHeartbeats 2000000 in
theorem specParseInt_c {w : World} {s : ByteArray} (hm : s.size ≤ 9223372036854775807) :
    Calls Tryd.prog 8 #[.string s] w (Gives w fun r _ => r = prVal (pr s)) := by
  by_cases h1 : 1 ≤ s.size
  · by_cases h2 : s.size ≤ 13
    · have HD := hid (decNat_from h1)
      have C1 := hid (fun (w : World) => specIn_c (x := (s.size : Int)) (a := 1) (b := 13) (w := w) true (decide_eq_true ⟨by omega, by omega⟩))
      clear hm
      go_enter Tryd.func8, Tryd.ntmps8
      go_wp2_with fail
      refine (C1.out _).mono ?_
      rintro e w1 ⟨rfl, rfl⟩
      clear C1
      go_wp2
      go_loop [4, 5] (fun q i => ∃ (k n : Nat), k ≤ s.size ∧ Hid (n < 10 ^ k) ∧ i = .int .i64 k ∧ q = .int .i64 n ∧ Hid (Lib.decFrom 0 (s.data.toList.take k) = some n)) (fun _ i => s.size - (intOf i).toNat)
      case atStart => exact ⟨0, 0, Nat.zero_le _, (by decide : 0 < 10 ^ 0), rfl, rfl, rfl⟩
      case round =>
        obtain ⟨k, n, hk, hn, rfl, rfl, HA⟩ := hrel
        have hp : 10 ^ k ≤ 10 ^ 13 := Nat.pow_le_pow_right (by decide) (by omega)
        have hp13 : (10 : Nat) ^ 13 = 10000000000000 := by decide
        have hn2 : n < 10000000000000 := by have := hn.out; omega
        by_cases hlt : k < s.size
        · by_cases hd : 48 ≤ s[k].toNat ∧ s[k].toNat ≤ 57
          · have HN := hid (from_next hlt HA.out hd)
            have HP : Hid (n * 10 + (s[k].toNat - 48) < 10 ^ (k + 1)) := by have := hn.out; show _ < _; rw [Nat.pow_succ]; omega
            obtain ⟨hd1, hd2⟩ := hd
            have C1 := hid (fun (w : World) => specIn_c (x := (s[k].toNat : Int)) (a := 48) (b := 57) (w := w) true (decide_eq_true ⟨by omega, by omega⟩))
            clear hn hp hp13 HA
            have e0 : ((s[k].toNat - 48 : Nat) : Int) = (s[k].toNat : Int) - 48 := by omega
            go_wp2_with fail
            refine (C1.out _).mono ?_
            rintro e w1 ⟨rfl, rfl⟩
            clear C1
            go_wp2
            go_round
            case rel => exact ⟨k + 1, n * 10 + (s[k].toNat - 48), by omega, HP, by go_num, by go_num, HN⟩
            case measure => simp [intOf]; omega
          · have HB := hid (from_bad hlt hd)
            have C1 := hid (fun (w : World) => specIn_c (x := (s[k].toNat : Int)) (a := 48) (b := 57) (w := w) false (decide_eq_false (by omega)))
            have hb1 : s[k].toNat < 256 := UInt8.toNat_lt _
            clear hn hp hp13 HA hd
            go_wp2_with fail
            refine (C1.out _).mono ?_
            rintro e w1 ⟨rfl, rfl⟩
            clear C1
            go_wp2
            go_ret2
            exact gives_of _ (by rw [HB.out]; rfl) (ext_refl _)
        · have HN := hid (HD.out.trans (from_end (by omega) HA.out))
          clear HA hp hp13 hn
          by_cases hx : n ≤ 1000000000000
          · have C := hid (specFormatInt_c (w := w) (n := (n : Int)) (by omega) (by omega))
            have g1 : ¬ (1000000000000 : Int) < (n : Int) := by omega
            obtain ⟨t, ht⟩ : ∃ t, dst (Lib.itoa n) = t := ⟨_, rfl⟩
            have C1 := C.out
            rw [ht] at C1
            have HT := hid ht
            have C2 := hid C1
            clear C C1 ht
            by_cases hts : t = s
            · subst hts
              have HR := hid (pr_of h2 HN.out hx HT.out)
              go_wp2_with fail
              refine C2.out.mono ?_
              rintro e w1 ⟨_, rfl, rfl, y1⟩
              clear C2
              have e1 : (t.toList == t.toList) = true := by simp
              go_wp2
              go_ret2
              exact gives_of _ (by rw [HR.out]; rfl) y1
            · have HR := hid (pr_other HN.out (by rw [HT.out]; exact hts))
              go_wp2_with fail
              refine C2.out.mono ?_
              rintro e w1 ⟨_, rfl, rfl, y1⟩
              clear C2
              have e1 : (t.toList == s.toList) = false := by simp [str_eq, hts]
              go_wp2
              go_ret2
              exact gives_of _ (by rw [HR.out]; rfl) y1
          · have HR := hid (pr_big HN.out hx)
            have g1 : (1000000000000 : Int) < (n : Int) := by omega
            go_wp2
            go_ret2
            exact gives_of _ (by rw [HR.out]; rfl) (ext_refl _)
    · have HR := hid (pr_long h2)
      have C1 := hid (fun (w : World) => specIn_c (x := (s.size : Int)) (a := 1) (b := 13) (w := w) false (decide_eq_false (by omega)))
      clear h2
      go_enter Tryd.func8, Tryd.ntmps8
      go_wp2_with fail
      refine (C1.out _).mono ?_
      rintro e w1 ⟨rfl, rfl⟩
      go_wp2
      go_ret2
      exact gives_of _ (by rw [HR.out]; rfl) (ext_refl _)
  · have h0 : s.size = 0 := by omega
    have HR := hid (show pr s = none from pr_none (by rw [show s.data.toList = [] from List.length_eq_zero_iff.1 (by rw [Array.length_toList]; exact h0)]; rfl))
    have C1 := hid (fun (w : World) => specIn_c (x := (s.size : Int)) (a := 1) (b := 13) (w := w) false (decide_eq_false (by omega)))
    clear h1 h0
    go_enter Tryd.func8, Tryd.ntmps8
    go_wp2_with fail
    refine (C1.out _).mono ?_
    rintro e w1 ⟨rfl, rfl⟩
    go_wp2
    go_ret2
    exact gives_of _ (by rw [HR.out]; rfl) (ext_refl _)
end Go.Proofs.YtmabcdnjojjgeaaDoor
