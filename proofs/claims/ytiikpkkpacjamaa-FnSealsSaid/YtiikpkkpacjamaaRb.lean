/- AppendBytes, ReadBytes, EncodeInts and DecodeInts of the program and of the reference. Conditions: the slices read as bytes or ints, and are of at most 2^32 elements. -/
import Derived.Test.YtiikpkkpacjamaaAv
import Derived.Test.YtiikpkkpacjamaaVarint
import Derived.Test.YtiikpkkpacjamaaIntsS
namespace Go.Proofs.Ytiikpkkpacjamaa
open Go.RowKit
theorem av_len (xs : List UInt8) (n : Int) : xs.length ≤ (av xs n).length ∧ (av xs n).length ≤ xs.length + 7 := by
  unfold av
  split
  · have := vbF_len 6 n.toNat; rw [List.length_append]; unfold vb; omega
  · omega
theorem Rd.cut1 {w : World} {lo hi n cap q m : Nat} {A : Option Addr} {xs : List Value} (h : Rd w lo hi 1 (.slice A n cap) n xs) (hq : q + m ≤ n) : Rd w lo hi 1 (.slice (A.map fun x => x.add q) m (cap - q)) m ((xs.drop q).take m) := by
  obtain ⟨h1, a, c, hv, h2, h3, h4⟩ := h
  simp only [Value.slice.injEq, true_and] at hv
  obtain ⟨rfl, rfl⟩ := hv
  refine ⟨by rw [List.length_take, List.length_drop]; omega, _, _, rfl, by omega, by omega, fun hm => ?_⟩
  obtain ⟨b, off, rfl, hl, hh, hb, hc⟩ := h4 (by omega)
  refine ⟨b, off + q, by simp [Addr.add_lit], hl, hh, hb, fun j u hu => ?_⟩
  rw [List.getElem?_take] at hu
  split at hu
  · rw [List.getElem?_drop] at hu
    rw [Nat.add_assoc]
    exact hc _ u hu
  · cases hu
theorem cut_map {α : Type} (f : α → Value) (xs : List α) (q m : Nat) : ((xs.map f).drop q).take m = ((xs.drop q).take m).map f := by rw [List.map_take, List.map_drop]

/-! ### AppendBytes -/
theorem specAppendBytes_c {w : World} {lo hi lo' hi' k m : Nat} {v u : Value} {xs ys : List UInt8} (h : Rd w lo hi 1 v k (xs.map bv)) (h' : Rd w lo' hi' 1 u m (ys.map bv)) (hk : k ≤ 549755813888) (hm : m ≤ 549755813888) :
    Calls Try.prog 19 #[v, u] w (Gives w fun r w' => Own w' w.heap.size w'.heap.size 5 1 r ((av xs m).length + m) ((av xs m ++ ys).map bv)) := by
  have hxl : xs.length = k := by have := h.1; simpa using this
  have hal := av_len xs m
  rw [hxl] at hal
  clear hxl
  obtain ⟨i0, hi0, hz0, hz1, hz2⟩ := info_parts info_byte
  obtain ⟨a', cap', rfl, hm'⟩ := h'.form
  have HM := hid (List.map_append (f := bv) (l₁ := av xs m) (l₂ := ys))
  go_enter Try.func19, Try.ntmps19
  go_wp2_with fail
  refine (specAppendVarint_c h (by omega)).mono ?_
  rintro e w1 ⟨v1, rfl, o1, y1⟩
  have h1 := h'.ext y1
  have s1 := y1.size
  clear h h'
  generalize hav : (av xs m).length = al at o1 hal
  have HAL := hid hav
  clear hav
  generalize hzs : (av xs m).map bv = zs at o1 HM
  have HZ := hid hzs
  clear hzs
  go_wp2_with (at_builtin; refine wpList_append_Own rfl _ _ 22 rfl 5 i0 (.int .u8 0) 1 1 Try.underlying22 hi0 hz0 hz1 hz2 rfl (by decide) rfl o1 rfl h1 (bv_one ys) (by omega) (by omega) s1 ?_)
  intro v' w' ho hmu
  have x := hmu.ext y1 (Nat.le_refl _)
  clear hmu o1 h1
  go_wp2
  go_ret
  exact gives_of _ (by rw [HM.out, HAL.out]; exact ho) x
theorem implAppendBytes_c {w : World} {lo hi lo' hi' k m : Nat} {v u : Value} {xs ys : List UInt8} (h : Rd w lo hi 1 v k (xs.map bv)) (h' : Rd w lo' hi' 1 u m (ys.map bv)) (hk : k ≤ 549755813888) (hm : m ≤ 549755813888) :
    Calls Try.prog 13 #[v, u] w (Gives w fun r w' => Own w' w.heap.size w'.heap.size 5 1 r ((av xs m).length + m) ((av xs m ++ ys).map bv)) := by
  have hxl : xs.length = k := by have := h.1; simpa using this
  have hal := av_len xs m
  rw [hxl] at hal
  clear hxl
  obtain ⟨i0, hi0, hz0, hz1, hz2⟩ := info_parts info_byte
  obtain ⟨a', cap', rfl, hm'⟩ := h'.form
  have HM := hid (List.map_append (f := bv) (l₁ := av xs m) (l₂ := ys))
  go_enter Try.func13, Try.ntmps13
  go_wp2_with fail
  refine (implAppendVarint_c h (by omega)).mono ?_
  rintro e w1 ⟨v1, rfl, o1, y1⟩
  have h1 := h'.ext y1
  have s1 := y1.size
  clear h h'
  generalize hav : (av xs m).length = al at o1 hal
  have HAL := hid hav
  clear hav
  generalize hzs : (av xs m).map bv = zs at o1 HM
  have HZ := hid hzs
  clear hzs
  go_wp2_with (at_builtin; refine wpList_append_Own rfl _ _ 22 rfl 5 i0 (.int .u8 0) 1 1 Try.underlying22 hi0 hz0 hz1 hz2 rfl (by decide) rfl o1 rfl h1 (bv_one ys) (by omega) (by omega) s1 ?_)
  intro v' w' ho hmu
  have x := hmu.ext y1 (Nat.le_refl _)
  clear hmu o1 h1
  go_wp2
  go_ret
  exact gives_of _ (by rw [HM.out, HAL.out]; exact ho) x

/-! ### ReadBytes -/
theorem rvGo_bd : ∀ (f k acc : Nat) (ys : List UInt8) (n c : Nat), rvGo f k acc ys = some (n, c) → k < c ∧ c ≤ k + f ∧ c ≤ k + ys.length ∧ n ≤ 1000000000000 := by
  intro f
  induction f with
  | zero => intro k acc ys n c h; cases ys <;> cases h
  | succ f ih =>
    intro k acc ys n c h
    cases ys with
    | nil => cases h
    | cons y ys =>
      unfold rvGo at h
      split at h
      · split at h
        · cases h
        · rename_i h1 h2
          simp only [Option.some.injEq, Prod.mk.injEq] at h
          obtain ⟨rfl, rfl⟩ := h
          simp; omega
      · have := ih _ _ _ _ _ h
        simp; omega
theorem rv_bd {xs : List UInt8} {p : Int} {n c : Nat} (h : rv xs p = some (n, c)) : 0 ≤ p ∧ 1 ≤ c ∧ c ≤ 6 ∧ p.toNat + c ≤ xs.length ∧ n ≤ 1000000000000 := by
  unfold rv at h
  split at h
  · cases h
  · have := rvGo_bd _ _ _ _ _ _ h
    rw [List.length_drop] at this
    omega
/-- What ReadBytes reads: the bytes, the place behind them, whether it went well. -/
def rbR (xs : List UInt8) (p most : Int) : List UInt8 × Int × Bool :=
  match rv xs p with
  | none => ([], 0, false)
  | some (n, c) => if (n : Int) ≤ most ∧ p.toNat + c + n ≤ xs.length then ((xs.drop (p.toNat + c)).take n, ((p.toNat + c + n : Nat) : Int), true) else ([], 0, false)
theorem rbR_len (xs : List UInt8) (p most : Int) : (rbR xs p most).1.length ≤ xs.length := by
  unfold rbR
  split
  · simp
  · split
    · simp only [List.length_take, List.length_drop]; omega
    · simp
def RbPost (base : Nat) (R : List UInt8 × Int × Bool) (r : Value) (w' : World) : Prop := ∃ v, r = .tuple #[v, .int .i64 R.2.1, .bool R.2.2] ∧ Own w' base w'.heap.size 5 1 v R.1.length (R.1.map bv)
theorem rbPost_no {base : Nat} {w' : World} {R : List UInt8 × Int × Bool} (h : R = ([], 0, false)) {v : Value} (ho : Own w' base w'.heap.size 5 1 v 0 []) : RbPost base R (.tuple #[v, .int .i64 0, .bool false]) w' := by
  subst h; exact ⟨v, rfl, ho⟩
theorem rvVal_some (p n c : Nat) : rvVal (p : Int) (some (n, c)) = .tuple #[.int .i64 n, .int .i64 ((p + c : Nat) : Int), .bool true] := by
  simp [rvVal]
set_option maxRecDepth 100000 in
set_option maxHeartbeats 1000000 in
theorem specReadBytes_c {w : World} {lo hi k : Nat} {v : Value} {xs : List UInt8} (h : Rd w lo hi 1 v k (xs.map bv)) {p most : Int} (hk : k ≤ 549755813888) :
    Calls Try.prog 16 #[v, .int .i64 p, .int .i64 most] w (Gives w (RbPost w.heap.size (rbR xs p most))) := by
  have hxl : Hid (xs.length = k) := by have := h.1; simpa [Hid] using this
  obtain ⟨i0, hi0, hz0, hz1, hz2⟩ := info_parts info_byte
  obtain ⟨a, cap, rfl, hkc, hm⟩ := h.form'
  rcases hrv : rv xs p with _ | ⟨n, c⟩
  · have HN := hid (show rbR xs p most = ([], 0, false) by rw [rbR, hrv])
    have HR := hid hrv
    clear hrv
    go_enter Try.func16, Try.ntmps16
    go_wp2_with fail
    refine (specReadVarint_c h).mono ?_
    rintro e w1 ⟨_, rfl, rfl, y1⟩
    have h1 := h.ext y1
    have s1 := y1.size
    rw [HR.out]
    unfold rvVal
    clear h h1
    go_wp2
    go_ret3
    exact gives_of _ (rbPost_no HN.out (Own.new w1 #[] 5 1 0 (by decide) rfl |>.mono s1 (by simp))) (ext_alloc y1 _)
  · obtain ⟨hp0, hc1, hc6, hpc, hnM⟩ := rv_bd hrv
    obtain ⟨p, rfl⟩ := Int.eq_ofNat_of_zero_le hp0
    rw [Int.toNat_natCast, hxl.out] at hpc
    by_cases hgood : (n : Int) ≤ most ∧ p + c + n ≤ k
    · obtain ⟨g1, g2⟩ := hgood
      have HT := hid (show rbR xs p most = ((xs.drop (p + c)).take n, ((p + c + n : Nat) : Int), true) by rw [rbR, hrv]; dsimp only; rw [Int.toNat_natCast, hxl.out, if_pos ⟨g1, g2⟩])
      have HR := hid hrv
      clear hrv hp0
      go_enter Try.func16, Try.ntmps16
      go_wp2_with fail
      refine (specReadVarint_c h).mono ?_
      rintro e w1 ⟨_, rfl, rfl, y1⟩
      have h1 := h.ext y1
      have s1 := y1.size
      rw [HR.out, rvVal_some]
      clear h
      have HL : Hid (((xs.drop (p + c)).take n).length = n) := by rw [Hid, List.length_take, List.length_drop, hxl.out]; omega
      clear HR
      generalize p + c = q at g2 hpc HT HL
      by_cases hcq : cap = q
      · have hn0 : n = 0 := by omega
        have r1 : Rd w1 lo hi 1 (.slice a 0 0) 0 (((xs.map bv).drop q).take 0) := by rw [List.take_zero]; exact Rd.none_ _ _ _ _ _ (by omega)
        have hone : ∀ u ∈ ((xs.map bv).drop q).take 0, u.oneCell' = true := by simp
        subst hn0
        have hcq' := hcq.symm
        subst hcq'
        clear h1
        have o0 := Own.new w1 #[] 5 1 0 (by decide) rfl
        have r1' := r1.ext (ext_alloc (ext_refl w1) (.cells #[] 5))
        go_wp2_with (at_builtin; refine wpList_append_Own rfl _ _ 22 rfl 5 i0 (.int .u8 0) 1 1 Try.underlying22 hi0 hz0 hz1 hz2 rfl (by decide) rfl o0 rfl r1' hone (by omega) (by omega) (by simp) ?_)
        intro v' w' ho hmu
        have x := Mut.ext (ext_alloc y1 (.cells #[] 5)) hmu s1
        clear hmu o0 r1'
        obtain ⟨zs, hzs, hz⟩ : ∃ zs, Own w' w.heap.size w'.heap.size 5 1 v' 0 zs ∧ Hid (zs = ((xs.drop q).take 0).map bv) := ⟨_, by simpa using ho.mono s1 (Nat.le_refl _), by first | (rw [Hid, List.map_take, List.map_drop]; done) | simp [Hid]⟩
        clear ho
        go_wp2
        go_ret3
        exact gives_of _ ⟨_, by rw [HT.out]; rfl, by rw [HT.out]; dsimp only; rw [HL.out, ← hz.out]; exact hzs⟩ x
      · have r1 := h1.cut1 (q := q) (m := n) (by omega)
        have hqn : q + n - q = n := by omega
        have hone : ∀ u ∈ ((xs.map bv).drop q).take n, u.oneCell' = true := fun u hu => bv_one xs u (List.mem_of_mem_drop (List.mem_of_mem_take hu))
        clear h1
        have o0 := Own.new w1 #[] 5 1 0 (by decide) rfl
        have r1' := r1.ext (ext_alloc (ext_refl w1) (.cells #[] 5))
        have r1'' : Rd (w1.alloc (.cells #[] 5)) lo hi 1 (.slice (a.map fun x => x.add q) (q + n - q) (cap - q)) n (((xs.map bv).drop q).take n) := by rw [hqn]; exact r1'
        clear hqn
        go_wp2_with (at_builtin; refine wpList_append_Own rfl _ _ 22 rfl 5 i0 (.int .u8 0) 1 1 Try.underlying22 hi0 hz0 hz1 hz2 rfl (by decide) rfl o0 rfl r1'' hone (by omega) (by omega) (by simp) ?_)
        intro v' w' ho hmu
        have x := Mut.ext (ext_alloc y1 (.cells #[] 5)) hmu s1
        clear hmu o0 r1' r1''
        obtain ⟨zs, hzs, hz⟩ : ∃ zs, Own w' w.heap.size w'.heap.size 5 1 v' n zs ∧ Hid (zs = ((xs.drop q).take n).map bv) := ⟨_, by simpa using ho.mono s1 (Nat.le_refl _), by first | (rw [Hid, List.map_take, List.map_drop]; done) | simp [Hid]⟩
        clear ho
        go_wp2
        go_ret3
        exact gives_of _ ⟨_, by rw [HT.out]; rfl, by rw [HT.out]; dsimp only; rw [HL.out, ← hz.out]; exact hzs⟩ x
    · have HN := hid (show rbR xs p most = ([], 0, false) by rw [rbR, hrv]; dsimp only; rw [Int.toNat_natCast, hxl.out, if_neg hgood])
      have HR := hid hrv
      clear hrv hp0
      by_cases g1 : (n : Int) ≤ most
      · have g2 : ¬ p + c + n ≤ k := fun h => hgood ⟨g1, h⟩
        have g4 : decide (most < (n : Int)) = false := by simp; exact g1
        clear hgood
        go_enter Try.func16, Try.ntmps16
        go_wp2_with fail
        refine (specReadVarint_c h).mono ?_
        rintro e w1 ⟨_, rfl, rfl, y1⟩
        have h1 := h.ext y1
        have s1 := y1.size
        rw [HR.out, rvVal_some]
        clear h h1 HR
        generalize p + c = q at g2 hpc
        have g3 : (k : Int) - (q : Int) < (n : Int) := by omega
        go_wp2
        go_ret3
        exact gives_of _ (rbPost_no HN.out (Own.new w1 #[] 5 1 0 (by decide) rfl |>.mono s1 (by simp))) (ext_alloc y1 _)
      · have g3 : most < (n : Int) := by omega
        clear hgood
        go_enter Try.func16, Try.ntmps16
        go_wp2_with fail
        refine (specReadVarint_c h).mono ?_
        rintro e w1 ⟨_, rfl, rfl, y1⟩
        have h1 := h.ext y1
        have s1 := y1.size
        rw [HR.out, rvVal_some]
        clear h h1 HR
        generalize p + c = q at hpc
        go_wp2
        go_ret3
        exact gives_of _ (rbPost_no HN.out (Own.new w1 #[] 5 1 0 (by decide) rfl |>.mono s1 (by simp))) (ext_alloc y1 _)
set_option maxRecDepth 100000 in
set_option maxHeartbeats 1000000 in
theorem implReadBytes_c {w : World} {lo hi k : Nat} {v : Value} {xs : List UInt8} (h : Rd w lo hi 1 v k (xs.map bv)) {p most : Int} (hk : k ≤ 549755813888) :
    Calls Try.prog 15 #[v, .int .i64 p, .int .i64 most] w (Gives w (RbPost w.heap.size (rbR xs p most))) := by
  have hxl : Hid (xs.length = k) := by have := h.1; simpa [Hid] using this
  obtain ⟨i0, hi0, hz0, hz1, hz2⟩ := info_parts info_byte
  obtain ⟨a, cap, rfl, hkc, hm⟩ := h.form'
  rcases hrv : rv xs p with _ | ⟨n, c⟩
  · have HN := hid (show rbR xs p most = ([], 0, false) by rw [rbR, hrv])
    have HR := hid hrv
    clear hrv
    go_enter Try.func15, Try.ntmps15
    go_wp2_with fail
    refine (implReadVarint_c h).mono ?_
    rintro e w1 ⟨_, rfl, rfl, y1⟩
    have h1 := h.ext y1
    have s1 := y1.size
    rw [HR.out]
    unfold rvVal
    clear h h1
    go_wp2
    go_ret3
    exact gives_of _ (rbPost_no HN.out (Own.none_ _ _ _ _ _ _)) y1
  · obtain ⟨hp0, hc1, hc6, hpc, hnM⟩ := rv_bd hrv
    obtain ⟨p, rfl⟩ := Int.eq_ofNat_of_zero_le hp0
    rw [Int.toNat_natCast, hxl.out] at hpc
    by_cases hgood : (n : Int) ≤ most ∧ p + c + n ≤ k
    · obtain ⟨g1, g2⟩ := hgood
      have HT := hid (show rbR xs p most = ((xs.drop (p + c)).take n, ((p + c + n : Nat) : Int), true) by rw [rbR, hrv]; dsimp only; rw [Int.toNat_natCast, hxl.out, if_pos ⟨g1, g2⟩])
      have HR := hid hrv
      clear hrv hp0
      go_enter Try.func15, Try.ntmps15
      go_wp2_with fail
      refine (implReadVarint_c h).mono ?_
      rintro e w1 ⟨_, rfl, rfl, y1⟩
      have h1 := h.ext y1
      have s1 := y1.size
      rw [HR.out, rvVal_some]
      clear h
      have HL : Hid (((xs.drop (p + c)).take n).length = n) := by rw [Hid, List.length_take, List.length_drop, hxl.out]; omega
      clear HR
      generalize p + c = q at g2 hpc HT HL
      by_cases hcq : cap = q
      · have hn0 : n = 0 := by omega
        have r1 : Rd w1 lo hi 1 (.slice a 0 0) 0 (((xs.map bv).drop q).take 0) := by rw [List.take_zero]; exact Rd.none_ _ _ _ _ _ (by omega)
        have hone : ∀ u ∈ ((xs.map bv).drop q).take 0, u.oneCell' = true := by simp
        subst hn0
        have hcq' := hcq.symm
        subst hcq'
        clear h1
        rw [cut_map] at r1
        go_wp2_with fail
        refine (cloneByte_c r1 (by omega)).mono ?_
        rintro e w2 ⟨v2, rfl, ho, y2⟩
        have x := ext_trans y1 y2
        go_wp2
        go_ret3
        exact gives_of _ ⟨_, by rw [HT.out]; rfl, by rw [HT.out]; dsimp only; rw [HL.out]; exact ho.mono s1 (Nat.le_refl _)⟩ x
      · have r1 := h1.cut1 (q := q) (m := n) (by omega)
        have hqn : q + n - q = n := by omega
        have hone : ∀ u ∈ ((xs.map bv).drop q).take n, u.oneCell' = true := fun u hu => bv_one xs u (List.mem_of_mem_drop (List.mem_of_mem_take hu))
        clear h1
        rw [cut_map] at r1
        go_wp2_with fail
        refine (cloneByte_c r1 (by omega)).mono ?_
        rintro e w2 ⟨v2, rfl, ho, y2⟩
        have x := ext_trans y1 y2
        go_wp2
        go_ret3
        exact gives_of _ ⟨_, by rw [HT.out]; rfl, by rw [HT.out]; dsimp only; rw [HL.out]; exact ho.mono s1 (Nat.le_refl _)⟩ x
    · have HN := hid (show rbR xs p most = ([], 0, false) by rw [rbR, hrv]; dsimp only; rw [Int.toNat_natCast, hxl.out, if_neg hgood])
      have HR := hid hrv
      clear hrv hp0
      by_cases g1 : (n : Int) ≤ most
      · have g2 : ¬ p + c + n ≤ k := fun h => hgood ⟨g1, h⟩
        have g4 : decide (most < (n : Int)) = false := by simp; exact g1
        clear hgood
        go_enter Try.func15, Try.ntmps15
        go_wp2_with fail
        refine (implReadVarint_c h).mono ?_
        rintro e w1 ⟨_, rfl, rfl, y1⟩
        have h1 := h.ext y1
        have s1 := y1.size
        rw [HR.out, rvVal_some]
        clear h h1 HR
        generalize p + c = q at g2 hpc
        have g3 : (k : Int) - (q : Int) < (n : Int) := by omega
        go_wp2
        go_ret3
        exact gives_of _ (rbPost_no HN.out (Own.none_ _ _ _ _ _ _)) y1
      · have g3 : most < (n : Int) := by omega
        clear hgood
        go_enter Try.func15, Try.ntmps15
        go_wp2_with fail
        refine (implReadVarint_c h).mono ?_
        rintro e w1 ⟨_, rfl, rfl, y1⟩
        have h1 := h.ext y1
        have s1 := y1.size
        rw [HR.out, rvVal_some]
        clear h h1 HR
        generalize p + c = q at hpc
        go_wp2
        go_ret3
        exact gives_of _ (rbPost_no HN.out (Own.none_ _ _ _ _ _ _)) y1
end Go.Proofs.Ytiikpkkpacjamaa
