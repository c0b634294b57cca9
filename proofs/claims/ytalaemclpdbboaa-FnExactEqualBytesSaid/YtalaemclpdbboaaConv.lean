/- string(b) of a slice of bytes, and the comparison of two slices of bytes by the program and the reference. Condition: the slices read as bytes. -/
import Derived.Test.YtalaemclpdbboaaBytesS
namespace Go.Proofs.Ytalaemclpdbboaa
open Go.RowKit
theorem bv_eq (xs : List UInt8) : xs.map bv = (xs.map fun b => (b.toNat : Int)).map (Value.int .u8) := by
  rw [List.map_map]; rfl
theorem run_str {P : Program} {w : World} {lo hi n cap : Nat} {a : Option Addr} {xs : List UInt8} (h : Rd w lo hi 1 (.slice a n cap) n (xs.map bv)) (src dst e : TypeId)
    (hs : P.underlying src = some (.slice e)) (he : P.underlying e = some (.int .u8)) (hd : P.underlying dst = some .string) :
    (convert src dst (.slice a n cap)).run P w = .ok (.string ⟨xs.toArray⟩) w := by
  obtain ⟨hl, a', cap', hv, hc, hm, hat⟩ := h
  simp only [Value.slice.injEq, true_and] at hv
  obtain ⟨rfl, rfl⟩ := hv
  have hx : xs.length = n := by simpa using hl
  have hstr : ∀ l : List Int, l = xs.map (fun b => (b.toNat : Int)) → (l.map fun n => UInt8.ofNat n.toNat) = xs := by
    rintro l rfl
    rw [List.map_map]
    conv => rhs; rw [← List.map_id xs]
    exact List.map_congr_left fun b _ => by simp
  by_cases hn : 0 < n
  · obtain ⟨b, off, rfl, _, _, _, hcell⟩ := hat hn
    have := run_convert_bytes_arg (P := P) w src e hs he b off n cap (xs.map fun b => (b.toNat : Int)) (by simpa using hx) (fun i hi => by
      have hi' : i < xs.length := by omega
      rw [hcell i (bv xs[i]) (by simp [hi'])]
      simp [bv, hi']) dst hd
    have e1 := strOfNums_data (xs.map fun b => (b.toNat : Int))
    rw [hstr _ rfl] at e1
    rw [this, show strOfNums (xs.map fun b => (b.toNat : Int)) = ⟨xs.toArray⟩ from ByteArray.ext (Array.toList_inj.1 (by rw [e1]))]
  · have hn0 : n = 0 := by omega
    subst hn0
    have hxs : xs = [] := List.eq_nil_of_length_eq_zero hx
    subst hxs
    cases a with
    | none => exact run_convert_bytes_nil w src e hs he 0 cap dst hd
    | some ad =>
      have hl0 : (loadCells ad 0).run P w = .ok ([].map (Value.int .u8)).toArray w := by simp [loadCells, loadCellsFrom]
      rw [run_convert_bytes_string w src dst e _ 0 cap hs he hd, run_bytesToString w ad 0 cap [] hl0]
      rfl
theorem str_mk (xs ys : List UInt8) : ((⟨xs.toArray⟩ : ByteArray).toList == (⟨ys.toArray⟩ : ByteArray).toList) = decide (xs = ys) := by
  rw [ByteArray.toList_mk, ByteArray.toList_mk, Bool.eq_iff_iff]; simp
theorem specEqualBytes_c {w : World} {lo hi lo' hi' n m : Nat} {v v' : Value} {xs ys : List UInt8} (h : Rd w lo hi 1 v n (xs.map bv)) (h' : Rd w lo' hi' 1 v' m (ys.map bv)) :
    Calls Try.prog 29 #[v, v'] w (Gives w fun r _ => r = .bool (decide (xs = ys))) := by
  obtain ⟨a, cap, rfl⟩ : ∃ a cap, v = .slice a n cap := by obtain ⟨_, a, cap, e, _⟩ := h; exact ⟨a, cap, e⟩
  obtain ⟨a', cap', rfl⟩ : ∃ a cap, v' = .slice a m cap := by obtain ⟨_, a, cap, e, _⟩ := h'; exact ⟨a, cap, e⟩
  have k1 := run_str (P := Try.prog) h 28 9 5 Try.underlying28 Try.underlying5 Try.underlying9
  have k2 := run_str (P := Try.prog) h' 28 9 5 Try.underlying28 Try.underlying5 Try.underlying9
  have H := hid (str_mk xs ys)
  generalize (⟨xs.toArray⟩ : ByteArray) = s at k1 H
  generalize (⟨ys.toArray⟩ : ByteArray) = t at k2 H
  clear h h'
  go_enter Try.func29, Try.ntmps29
  go_wp2
  go_ret
  exact gives_bool H.out (ext_refl _)
end Go.Proofs.Ytalaemclpdbboaa
