/- string(b) of a slice of bytes, and the comparison of two slices of bytes by the program and the reference. Condition: the slices read as bytes. -/
import Derived.Test.YtoehjfcadhgpbaaDoorBytesS
namespace Go.Proofs.YtoehjfcadhgpbaaDoor
open Go.RowKit
theorem bv_eq (xs : List UInt8) : xs.map bv = (xs.map fun b => (b.toNat : Int)).map (Value.int .u8) := by
  rw [List.map_map]; rfl
theorem run_str {P : Program} {w : World} {lo hi n cap : Nat} {a : Option Addr} {xs : List UInt8} (h : Rd w lo hi 1 (.slice a n cap) n (xs.map bv)) (src dst e : TypeId)
    (hs : P.underlying src = some (.slice e)) (he : P.underlying e = some (.int .u8)) (hd : P.underlying dst = some .string) :
    (convert src dst (.slice a n cap)).run P w = .ok (.string ⟨xs.toArray⟩) w := by
  obtain ⟨hl, a', cap', hv, hc, hm, hat⟩ := h
  simp only [Value.slice.injEq, true_and] at hv
  obtain ⟨rfl, rfl⟩ := hv
  have hx : xs.length = n := by simpa using hl
  have hstr : ∀ l : List Int, l = xs.map (fun b => (b.toNat : Int)) → (l.map fun n => UInt8.ofNat n.toNat) = xs := by
    rintro l rfl
    rw [List.map_map]
    conv => rhs; rw [← List.map_id xs]
    exact List.map_congr_left fun b _ => by simp
  by_cases hn : 0 < n
  · obtain ⟨b, off, rfl, _, _, _, hcell⟩ := hat hn
    have := run_convert_bytes_arg (P := P) w src e hs he b off n cap (xs.map fun b => (b.toNat : Int)) (by simpa using hx) (fun i hi => by
      have hi' : i < xs.length := by omega
      rw [hcell i (bv xs[i]) (by simp [hi'])]
      simp [bv, hi']) dst hd
    have e1 := strOfNums_data (xs.map fun b => (b.toNat : Int))
    rw [hstr _ rfl] at e1
    rw [this, show strOfNums (xs.map fun b => (b.toNat : Int)) = ⟨xs.toArray⟩ from ByteArray.ext (Array.toList_inj.1 (by rw [e1]))]
  · have hn0 : n = 0 := by omega
    subst hn0
    have hxs : xs = [] := List.eq_nil_of_length_eq_zero hx
    subst hxs
    cases a with
    | none => exact run_convert_bytes_nil w src e hs he 0 cap dst hd
    | some ad =>
      have hl0 : (loadCells ad 0).run P w = .ok ([].map (Value.int .u8)).toArray w := by simp [loadCells, loadCellsFrom]
      rw [run_convert_bytes_string w src dst e _ 0 cap hs he hd, run_bytesToString w ad 0 cap [] hl0]
      rfl
theorem str_mk (xs ys : List UInt8) : ((⟨xs.toArray⟩ : ByteArray).toList == (⟨ys.toArray⟩ : ByteArray).toList) = decide (xs = ys) := by
  rw [ByteArray.toList_mk, ByteArray.toList_mk, Bool.eq_iff_iff]; simp
end Go.Proofs.YtoehjfcadhgpbaaDoor
