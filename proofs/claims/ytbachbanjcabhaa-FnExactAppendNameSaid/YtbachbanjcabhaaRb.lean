/- AppendBytes, ReadBytes, EncodeInts and DecodeInts of the program and of the reference. Conditions: the slices read as bytes or ints, and are of at most 2^32 elements. -/
import Derived.Test.YtbachbanjcabhaaAv
import Derived.Test.YtbachbanjcabhaaVarint
import Derived.Test.YtbachbanjcabhaaIntsS
namespace Go.Proofs.Ytbachbanjcabhaa
open Go.RowKit
theorem av_len (xs : List UInt8) (n : Int) : xs.length ≤ (av xs n).length ∧ (av xs n).length ≤ xs.length + 7 := by
  unfold av
  split
  · have := vbF_len 6 n.toNat; rw [List.length_append]; unfold vb; omega
  · omega
theorem Rd.cut1 {w : World} {lo hi n cap q m : Nat} {A : Option Addr} {xs : List Value} (h : Rd w lo hi 1 (.slice A n cap) n xs) (hq : q + m ≤ n) : Rd w lo hi 1 (.slice (A.map fun x => x.add q) m (cap - q)) m ((xs.drop q).take m) := by
  obtain ⟨h1, a, c, hv, h2, h3, h4⟩ := h
  simp only [Value.slice.injEq, true_and] at hv
  obtain ⟨rfl, rfl⟩ := hv
  refine ⟨by rw [List.length_take, List.length_drop]; omega, _, _, rfl, by omega, by omega, fun hm => ?_⟩
  obtain ⟨b, off, rfl, hl, hh, hb, hc⟩ := h4 (by omega)
  refine ⟨b, off + q, by simp [Addr.add_lit], hl, hh, hb, fun j u hu => ?_⟩
  rw [List.getElem?_take] at hu
  split at hu
  · rw [List.getElem?_drop] at hu
    rw [Nat.add_assoc]
    exact hc _ u hu
  · cases hu
theorem cut_map {α : Type} (f : α → Value) (xs : List α) (q m : Nat) : ((xs.map f).drop q).take m = ((xs.drop q).take m).map f := by rw [List.map_take, List.map_drop]

/-! ### AppendBytes -/
theorem specAppendBytes_c {w : World} {lo hi lo' hi' k m : Nat} {v u : Value} {xs ys : List UInt8} (h : Rd w lo hi 1 v k (xs.map bv)) (h' : Rd w lo' hi' 1 u m (ys.map bv)) (hk : k ≤ 549755813888) (hm : m ≤ 549755813888) :
    Calls Try.prog 99 #[v, u] w (Gives w fun r w' => Own w' w.heap.size w'.heap.size 5 1 r ((av xs m).length + m) ((av xs m ++ ys).map bv)) := by
  have hxl : xs.length = k := by have := h.1; simpa using this
  have hal := av_len xs m
  rw [hxl] at hal
  clear hxl
  obtain ⟨i0, hi0, hz0, hz1, hz2⟩ := info_parts info_byte
  obtain ⟨a', cap', rfl, hm'⟩ := h'.form
  have HM := hid (List.map_append (f := bv) (l₁ := av xs m) (l₂ := ys))
  go_enter Try.func99, Try.ntmps99
  go_wp2_with fail
  refine (specAppendVarint_c h (by omega)).mono ?_
  rintro e w1 ⟨v1, rfl, o1, y1⟩
  have h1 := h'.ext y1
  have s1 := y1.size
  clear h h'
  generalize hav : (av xs m).length = al at o1 hal
  have HAL := hid hav
  clear hav
  generalize hzs : (av xs m).map bv = zs at o1 HM
  have HZ := hid hzs
  clear hzs
  go_wp2_with (at_builtin; refine wpList_append_Own rfl _ _ 68 rfl 5 i0 (.int .u8 0) 1 1 Try.underlying68 hi0 hz0 hz1 hz2 rfl (by decide) rfl o1 rfl h1 (bv_one ys) (by omega) (by omega) s1 ?_)
  intro v' w' ho hmu
  have x := hmu.ext y1 (Nat.le_refl _)
  clear hmu o1 h1
  go_wp2
  go_ret
  exact gives_of _ (by rw [HM.out, HAL.out]; exact ho) x
theorem implAppendBytes_c {w : World} {lo hi lo' hi' k m : Nat} {v u : Value} {xs ys : List UInt8} (h : Rd w lo hi 1 v k (xs.map bv)) (h' : Rd w lo' hi' 1 u m (ys.map bv)) (hk : k ≤ 549755813888) (hm : m ≤ 549755813888) :
    Calls Try.prog 102 #[v, u] w (Gives w fun r w' => Own w' w.heap.size w'.heap.size 5 1 r ((av xs m).length + m) ((av xs m ++ ys).map bv)) := by
  have hxl : xs.length = k := by have := h.1; simpa using this
  have hal := av_len xs m
  rw [hxl] at hal
  clear hxl
  obtain ⟨i0, hi0, hz0, hz1, hz2⟩ := info_parts info_byte
  obtain ⟨a', cap', rfl, hm'⟩ := h'.form
  have HM := hid (List.map_append (f := bv) (l₁ := av xs m) (l₂ := ys))
  go_enter Try.func102, Try.ntmps102
  go_wp2_with fail
  refine (implAppendVarint_c h (by omega)).mono ?_
  rintro e w1 ⟨v1, rfl, o1, y1⟩
  have h1 := h'.ext y1
  have s1 := y1.size
  clear h h'
  generalize hav : (av xs m).length = al at o1 hal
  have HAL := hid hav
  clear hav
  generalize hzs : (av xs m).map bv = zs at o1 HM
  have HZ := hid hzs
  clear hzs
  go_wp2_with (at_builtin; refine wpList_append_Own rfl _ _ 68 rfl 5 i0 (.int .u8 0) 1 1 Try.underlying68 hi0 hz0 hz1 hz2 rfl (by decide) rfl o1 rfl h1 (bv_one ys) (by omega) (by omega) s1 ?_)
  intro v' w' ho hmu
  have x := hmu.ext y1 (Nat.le_refl _)
  clear hmu o1 h1
  go_wp2
  go_ret
  exact gives_of _ (by rw [HM.out, HAL.out]; exact ho) x

/-! ### ReadBytes -/
theorem rvGo_bd : ∀ (f k acc : Nat) (ys : List UInt8) (n c : Nat), rvGo f k acc ys = some (n, c) → k < c ∧ c ≤ k + f ∧ c ≤ k + ys.length ∧ n ≤ 1000000000000 := by
  intro f
  induction f with
  | zero => intro k acc ys n c h; cases ys <;> cases h
  | succ f ih =>
    intro k acc ys n c h
    cases ys with
    | nil => cases h
    | cons y ys =>
      unfold rvGo at h
      split at h
      · split at h
        · cases h
        · rename_i h1 h2
          simp only [Option.some.injEq, Prod.mk.injEq] at h
          obtain ⟨rfl, rfl⟩ := h
          simp; omega
      · have := ih _ _ _ _ _ h
        simp; omega
theorem rv_bd {xs : List UInt8} {p : Int} {n c : Nat} (h : rv xs p = some (n, c)) : 0 ≤ p ∧ 1 ≤ c ∧ c ≤ 6 ∧ p.toNat + c ≤ xs.length ∧ n ≤ 1000000000000 := by
  unfold rv at h
  split at h
  · cases h
  · have := rvGo_bd _ _ _ _ _ _ h
    rw [List.length_drop] at this
    omega
/-- What ReadBytes reads: the bytes, the place behind them, whether it went well. -/
def rbR (xs : List UInt8) (p most : Int) : List UInt8 × Int × Bool :=
  match rv xs p with
  | none => ([], 0, false)
  | some (n, c) => if (n : Int) ≤ most ∧ p.toNat + c + n ≤ xs.length then ((xs.drop (p.toNat + c)).take n, ((p.toNat + c + n : Nat) : Int), true) else ([], 0, false)
theorem rbR_len (xs : List UInt8) (p most : Int) : (rbR xs p most).1.length ≤ xs.length := by
  unfold rbR
  split
  · simp
  · split
    · simp only [List.length_take, List.length_drop]; omega
    · simp
def RbPost (base : Nat) (R : List UInt8 × Int × Bool) (r : Value) (w' : World) : Prop := ∃ v, r = .tuple #[v, .int .i64 R.2.1, .bool R.2.2] ∧ Own w' base w'.heap.size 5 1 v R.1.length (R.1.map bv)
theorem rbPost_no {base : Nat} {w' : World} {R : List UInt8 × Int × Bool} (h : R = ([], 0, false)) {v : Value} (ho : Own w' base w'.heap.size 5 1 v 0 []) : RbPost base R (.tuple #[v, .int .i64 0, .bool false]) w' := by
  subst h; exact ⟨v, rfl, ho⟩
theorem rvVal_some (p n c : Nat) : rvVal (p : Int) (some (n, c)) = .tuple #[.int .i64 n, .int .i64 ((p + c : Nat) : Int), .bool true] := by
  simp [rvVal]
end Go.Proofs.Ytbachbanjcabhaa
