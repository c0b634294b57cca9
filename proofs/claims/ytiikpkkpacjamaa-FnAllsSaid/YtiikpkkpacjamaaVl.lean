/- What is read of what was written: numbers, bytes, lists of numbers. Nothing here speaks of the program. -/
import Derived.Test.YtiikpkkpacjamaaRb
import Derived.Test.YtiikpkkpacjamaaEi
namespace Go.Proofs.Ytiikpkkpacjamaa
theorem vbF_small {f m : Nat} (h : m < 128) : vbF f m = [UInt8.ofNat m] := by
  cases f with
  | zero => rfl
  | succ f => rw [vbF, if_pos h]
theorem u8_nat {c : Nat} (h : c < 256) : (UInt8.ofNat c).toNat = c := by rw [UInt8.toNat_ofNat']; exact Nat.mod_eq_of_lt h
theorem split128 (m P : Nat) : m % 128 * P + m / 128 * (P * 128) = m * P := by
  have h := Nat.mod_add_div m 128
  calc m % 128 * P + m / 128 * (P * 128) = (m % 128 + 128 * (m / 128)) * P := by rw [Nat.add_mul, Nat.mul_comm P 128, ← Nat.mul_assoc, Nat.mul_comm (m / 128) 128]
    _ = m * P := by rw [h]
theorem rvGo_vbF : ∀ (g f m k acc : Nat) (rest : List UInt8), m < 128 ^ (g + 1) → g ≤ f → (k = 0 ∨ 0 < m) → acc + m * 128 ^ k ≤ 1000000000000 → rvGo (g + 1) k acc (vbF f m ++ rest) = some (acc + m * 128 ^ k, k + (vbF f m).length) := by
  intro g
  induction g with
  | zero =>
    intro f m k acc rest hm _ hk ha
    rw [Nat.zero_add, Nat.pow_one] at hm
    rw [vbF_small hm, List.singleton_append, rvGo, u8_nat (by omega), if_pos hm, if_neg (by rw [Nat.mod_eq_of_lt hm]; omega), Nat.mod_eq_of_lt hm]
    rfl
  | succ g ih =>
    intro f m k acc rest hm hf hk ha
    by_cases h : m < 128
    · rw [vbF_small h, List.singleton_append, rvGo, u8_nat (by omega), if_pos h, if_neg (by rw [Nat.mod_eq_of_lt h]; omega), Nat.mod_eq_of_lt h]
      rfl
    · obtain ⟨f', rfl⟩ : ∃ f', f = f' + 1 := ⟨f - 1, by omega⟩
      have hs := split128 m (128 ^ k)
      have hp : (128 : Nat) ^ (k + 1) = 128 ^ k * 128 := Nat.pow_succ ..
      have hd : m / 128 < 128 ^ (g + 1) := by rw [Nat.pow_succ] at hm; omega
      have e := ih f' (m / 128) (k + 1) (acc + m % 128 * 128 ^ k) rest hd (by omega) (.inr (by omega)) (by rw [hp, Nat.add_assoc, hs]; exact ha)
      rw [vbF, if_neg h, List.cons_append, rvGo, u8_nat (by omega), if_neg (by omega), show (m % 128 + 128) % 128 = m % 128 by omega, e, hp, Nat.add_assoc, hs, List.length_cons]
      simp only [Option.some.injEq, Prod.mk.injEq, true_and]
      omega
theorem rv_at (pre rest : List UInt8) {m : Nat} (h : m ≤ 1000000000000) : rv (pre ++ (vb m ++ rest)) (pre.length : Int) = some (m, (vb m).length) := by
  unfold rv
  rw [if_neg (by omega), Int.toNat_natCast, List.drop_left]
  have := rvGo_vbF 5 6 m 0 0 rest (by rw [show (128 : Nat) ^ (5 + 1) = 4398046511104 by decide]; omega) (by omega) (.inl rfl) (by simpa using h)
  simpa [vb] using this
theorem rvGo_take : ∀ (f k acc : Nat) (ys : List UInt8) (n c : Nat), rvGo f k acc ys = some (n, c) → ∃ M, n = acc + M * 128 ^ k ∧ (0 < k → 0 < M) ∧ ∀ f', f ≤ f' + 1 → vbF f' M = ys.take (c - k) := by
  intro f
  induction f with
  | zero => intro k acc ys n c h; cases ys <;> cases h
  | succ f ih =>
    intro k acc ys n c h
    cases ys with
    | nil => cases h
    | cons y ys =>
      have hy : y.toNat < 256 := UInt8.toNat_lt y
      have h0 := h
      unfold rvGo at h
      split at h
      · rename_i h1
        split at h
        · cases h
        · rename_i h2
          simp only [Option.some.injEq, Prod.mk.injEq] at h
          obtain ⟨rfl, rfl⟩ := h
          refine ⟨y.toNat, by rw [Nat.mod_eq_of_lt h1], fun hk => by omega, fun f' _ => ?_⟩
          rw [vbF_small h1, show k + 1 - k = 1 by omega, List.take_succ_cons, List.take_zero]
          congr 1
          exact UInt8.ofNat_toNat
      · rename_i h1
        have hb := rvGo_bd _ _ _ _ _ _ h
        obtain ⟨M, e1, e2, e3⟩ := ih _ _ _ _ _ h
        have hM : 0 < M := e2 (by omega)
        have hfp : 0 < f := by
          cases f with
          | zero => cases ys <;> cases h
          | succ f => omega
        have hs := split128 (y.toNat % 128 + 128 * M) (128 ^ k)
        rw [show (y.toNat % 128 + 128 * M) % 128 = y.toNat % 128 by omega, show (y.toNat % 128 + 128 * M) / 128 = M by omega] at hs
        refine ⟨y.toNat % 128 + 128 * M, ?_, fun _ => by omega, fun f' hf => ?_⟩
        · rw [e1, ← hs, Nat.pow_succ, Nat.add_assoc]
        · obtain ⟨f'', rfl⟩ : ∃ g, f' = g + 1 := ⟨f' - 1, by omega⟩
          rw [vbF, if_neg (by omega), show (y.toNat % 128 + 128 * M) % 128 + 128 = y.toNat by omega, show (y.toNat % 128 + 128 * M) / 128 = M by omega, e3 f'' (by omega), show c - k = (c - (k + 1)) + 1 by omega, List.take_succ_cons]
          congr 1
          exact UInt8.ofNat_toNat
/-- A number that was read is written as it stood. -/
theorem av_back {xs : List UInt8} {p : Int} {n c : Nat} (h : rv xs p = some (n, c)) : av (xs.take p.toNat) (n : Int) = xs.take (p.toNat + c) := by
  have hb := rv_bd h
  unfold rv at h
  rw [if_neg (by omega)] at h
  obtain ⟨M, e1, _, e3⟩ := rvGo_take _ _ _ _ _ _ h
  have e4 := e3 6 (by omega)
  rw [Nat.pow_zero, Nat.mul_one, Nat.zero_add] at e1
  subst e1
  unfold av
  rw [if_pos ⟨by omega, by omega⟩, Int.toNat_natCast]
  unfold vb
  rw [e4, Nat.sub_zero, ← List.take_add]
theorem av_val {xs : List UInt8} {n : Int} (h : 0 ≤ n ∧ n ≤ 1000000000000) : av xs n = xs ++ vb n.toNat := by unfold av; rw [if_pos h]
theorem av_out {xs : List UInt8} {n : Int} (h : ¬ (0 ≤ n ∧ n ≤ 1000000000000)) : av xs n = xs := by unfold av; rw [if_neg h]
/-- A number that was written is read again, whatever stands behind it. -/
theorem rv_av (xs rest : List UInt8) {n : Int} (h : 0 ≤ n ∧ n ≤ 1000000000000) : rv (av xs n ++ rest) (xs.length : Int) = some (n.toNat, (vb n.toNat).length) := by
  rw [av_val h, List.append_assoc]
  exact rv_at xs rest (by omega)
/-- Bytes that were written are read again. -/
theorem rb_ab (xs ys : List UInt8) (h : ys.length ≤ 1000000000000) : rbR (av xs (ys.length : Int) ++ ys) (xs.length : Int) (ys.length : Int) = (ys, ((av xs (ys.length : Int) ++ ys).length : Int), true) := by
  unfold rbR
  rw [rv_av xs ys ⟨by omega, by omega⟩]
  simp only [Int.toNat_natCast]
  rw [av_val ⟨by omega, by omega⟩, Int.toNat_natCast]
  have hd : (xs ++ vb ys.length ++ ys).drop (xs.length + (vb ys.length).length) = ys := by rw [← List.length_append, List.drop_left]
  have hl : (xs ++ vb ys.length ++ ys).length = xs.length + (vb ys.length).length + ys.length := by simp only [List.length_append]
  rw [if_pos ⟨Int.le_refl _, by rw [hl]; exact Nat.le_refl _⟩, hd, List.take_length, hl]
/-- Numbers that were written are read again. -/
def Vi (l : List Int) : Prop := ∀ z ∈ l, 0 ≤ z ∧ z ≤ 1000000000000
theorem ei_flat : ∀ (l : List Int) (acc : List UInt8), Vi l → l.foldl av acc = acc ++ l.flatMap fun z => vb z.toNat
  | [], acc, _ => by simp
  | z :: l, acc, h => by
    rw [List.foldl_cons, ei_flat l _ (fun y hy => h y (List.mem_cons_of_mem _ hy)), av_val (h z (List.mem_cons_self ..)), List.flatMap_cons, List.append_assoc]
theorem di_flat : ∀ (l : List Int) (pre : List UInt8), Vi l → diGo (pre ++ l.flatMap fun z => vb z.toNat) l.length pre.length = some (l, (pre ++ l.flatMap fun z => vb z.toNat).length)
  | [], pre, _ => by simp [diGo]
  | z :: l, pre, h => by
    have hz := h z (List.mem_cons_self ..)
    have ih := di_flat l (pre ++ vb z.toNat) (fun y hy => h y (List.mem_cons_of_mem _ hy))
    rw [List.length_append, List.append_assoc] at ih
    rw [List.flatMap_cons, List.length_cons, diGo, rv_at pre _ (by omega)]
    simp only
    rw [ih]
    simp only [Option.some.injEq, Prod.mk.injEq, List.cons.injEq, and_true]
    omega
theorem di_ei {l : List Int} (h : Vi l) (hl : l.length ≤ 100) : diR (ei l) 0 (l.length : Int) = (l, ((ei l).length : Int), true) := by
  have e : ei l = l.flatMap fun z => vb z.toNat := by unfold ei; rw [ei_flat l [] h, List.nil_append]
  have d := di_flat l [] h
  rw [List.nil_append, ← e] at d
  unfold diR
  rw [if_pos ⟨⟨by omega, by omega⟩, ⟨by omega, by omega⟩⟩, Int.toNat_natCast, show (0 : Int).toNat = ([] : List UInt8).length by rfl, d]
theorem diR_count {xs : List UInt8} {p n : Int} (h : (diR xs p n).2.2 = true) : ((diR xs p n).1.length : Int) = n := by
  unfold diR at h ⊢
  split
  · rename_i hc
    rw [if_pos hc] at h
    cases hd : diGo xs n.toNat p.toNat with
    | none => rw [hd] at h; cases h
    | some r =>
      obtain ⟨l, q⟩ := r
      have := (diGo_len _ _ hd).1
      simp only
      omega
  · rename_i hc
    rw [if_neg hc] at h; cases h
end Go.Proofs.Ytiikpkkpacjamaa
