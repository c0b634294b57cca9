/- What a MAC depends on; what is encrypted and decrypted. Nothing here speaks of the program. -/
import Derived.Test.YtiikpkkpacjamaaDs
import Derived.Test.YtiikpkkpacjamaaEnc
import Derived.Test.YtiikpkkpacjamaaSm
set_option linter.unusedVariables false
namespace Go.Proofs.Ytiikpkkpacjamaa
theorem dgStep_inj {d d' x : Int} (h0 : 0 ≤ d) (h1 : d < 2147483647) (h2 : 0 ≤ d') (h3 : d' < 2147483647) (h : dgStep d x = dgStep d' x) : d = d' := by
  unfold dgStep at h
  generalize x % 2147483647 = c at h
  have h4 : ∃ q, (d - d') * 1000003 = 2147483647 * q := by
    have e1 := Int.mul_ediv_add_emod (d * 1000003 + c + 13) 2147483647
    have e2 := Int.mul_ediv_add_emod (d' * 1000003 + c + 13) 2147483647
    rw [h] at e1
    generalize (d * 1000003 + c + 13) / 2147483647 = q1 at e1
    generalize (d' * 1000003 + c + 13) / 2147483647 = q2 at e2
    generalize (d' * 1000003 + c + 13) % 2147483647 = r at e1 e2
    clear h
    exact ⟨q1 - q2, by omega⟩
  clear h
  obtain ⟨q, hq⟩ := h4
  generalize he : d - d' = e at hq
  have k1 : e * 1000003 * 1523789695 = 2147483647 * q * 1523789695 := by rw [hq]
  have k2 : (1000003 : Int) * 1523789695 = 1 + 2147483647 * 709572 := by decide
  rw [Int.mul_assoc, k2, Int.mul_add, Int.mul_one, Int.mul_assoc] at k1
  have k3 : e * (2147483647 * 709572) = 2147483647 * (e * 709572) := by rw [← Int.mul_assoc, Int.mul_comm e 2147483647, Int.mul_assoc]
  rw [k3] at k1
  have h5 : e = 2147483647 * (q * 1523789695 - e * 709572) := by rw [Int.mul_sub, ← k1]; exact (Int.add_sub_cancel ..).symm
  generalize q * 1523789695 - e * 709572 = k at h5
  clear k1 k2 k3 hq
  omega
theorem dgStep_ne {d x y : Int} (h : ¬ x % 2147483647 = y % 2147483647) : ¬ dgStep d x = dgStep d y := by unfold dgStep; omega
theorem dg_fold_bd : ∀ (l : List Int) (d : Int), 0 ≤ d → d < 2147483647 → 0 ≤ l.foldl dgStep d ∧ l.foldl dgStep d < 2147483647
  | [], d, h0, h1 => ⟨h0, h1⟩
  | x :: l, d, h0, h1 => dg_fold_bd l _ (dgStep_bd d x).1 (dgStep_bd d x).2
theorem dg_fold_inj : ∀ (l : List Int) (d d' : Int), 0 ≤ d → d < 2147483647 → 0 ≤ d' → d' < 2147483647 → l.foldl dgStep d = l.foldl dgStep d' → d = d'
  | [], _, _, _, _, _, _, h => h
  | x :: l, d, d', h0, h1, h2, h3, h => dgStep_inj h0 h1 h2 h3 (dg_fold_inj l _ _ (dgStep_bd d x).1 (dgStep_bd d x).2 (dgStep_bd d' x).1 (dgStep_bd d' x).2 h)
theorem mac_split (s x : Int) (a b : List Int) : mac s (a ++ x :: b) = (b ++ [s]).foldl dgStep (dgStep ((s :: a).foldl dgStep 11) x) := by
  unfold mac dg
  simp [List.foldl_append]
/-- Another integer at one place: another MAC. -/
theorem mac_ne {s : Int} {l : List Int} {i : Nat} (h : i < l.length) : ¬ mac s (l.set i (l[i] % 2147483647 + 1)) = mac s l := by
  have e1 : l.set i (l[i] % 2147483647 + 1) = l.take i ++ (l[i] % 2147483647 + 1) :: l.drop (i + 1) := List.set_eq_take_append_cons_drop .. |>.trans (by rw [if_pos h])
  have e2 : l = l.take i ++ l[i] :: l.drop (i + 1) := by rw [← List.drop_eq_getElem_cons h, List.take_append_drop]
  intro he
  rw [e1] at he
  have he2 := he.trans (congrArg (mac s) e2)
  rw [mac_split, mac_split] at he2
  have hb := dg_fold_bd (s :: l.take i) 11 (by omega) (by omega)
  generalize (s :: l.take i).foldl dgStep 11 = d at he2 hb
  have := dg_fold_inj _ _ _ (dgStep_bd d _).1 (dgStep_bd d _).2 (dgStep_bd d _).1 (dgStep_bd d _).2 he2
  exact dgStep_ne (by omega) this
theorem vs_ds (s : Int) (t : ByteArray) : vs (ds s t) = true := by
  have h := mac_bd s (bti t.data.toList)
  unfold vs ds
  split
  · decide
  · simp; omega
theorem crypt_get (f : Nat → Int → Nat) (s : Int) (xs : List UInt8) (k : Nat) (h : k < xs.length) : (crypt f s xs)[k]'(by rw [crypt_len]; exact h) = UInt8.ofNat (f xs[k].toNat (mac s [(k : Int)])) := by
  unfold crypt
  simp [h]
theorem crypt_back (f g : Nat → Int → Nat) (hf : ∀ c m, f c m < 256) (hfg : ∀ c m, c < 256 → g (f c m) m = c) (s : Int) (xs : List UInt8) : crypt g s (crypt f s xs) = xs := by
  refine List.ext_getElem (by rw [crypt_len, crypt_len]) fun k h1 h2 => ?_
  rw [crypt_get g s _ k (by rw [crypt_len]; exact h2), crypt_get f s xs k h2, UInt8.toNat_ofNat', Nat.mod_eq_of_lt (hf _ _), hfg _ _ (UInt8.toNat_lt _), UInt8.ofNat_toNat]
theorem dec_enc (s : Int) (xs : List UInt8) : crypt decN s (crypt encN s xs) = xs := crypt_back _ _ encN_lt (fun c m hc => by unfold encN decN; omega) s xs
theorem enc_dec (s : Int) (xs : List UInt8) : crypt encN s (crypt decN s xs) = xs := crypt_back _ _ decN_lt (fun c m hc => by unfold encN decN; omega) s xs
end Go.Proofs.Ytiikpkkpacjamaa
