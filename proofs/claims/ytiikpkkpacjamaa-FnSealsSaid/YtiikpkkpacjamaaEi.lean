/- EncodeInts and DecodeInts of the program and of the reference. Conditions: the slices read as bytes or ints, and are of at most 2^32 elements. -/
import Derived.Test.YtiikpkkpacjamaaRb
namespace Go.Proofs.Ytiikpkkpacjamaa
open Go.RowKit
def ei (l : List Int) : List UInt8 := l.foldl av []
theorem ei_take (l : List Int) (k : Nat) (h : k < l.length) : ei (l.take (k + 1)) = av (ei (l.take k)) l[k] := by
  unfold ei
  rw [List.take_succ_eq_append_getElem h, List.foldl_append]; rfl
theorem ei_len (l : List Int) (k : Nat) : (ei (l.take k)).length ≤ 7 * k := by
  induction k with
  | zero => simp [ei]
  | succ k ih =>
    rcases Nat.lt_or_ge k l.length with h | h
    · rw [ei_take l k h]; have := (av_len (ei (l.take k)) l[k]).2; omega
    · rw [List.take_of_length_le (by omega)]; rw [List.take_of_length_le h] at ih; omega
theorem specEncodeInts_c {w : World} {lo hi n : Nat} {v : Value} {xs : List Int} (h : Rd w lo hi 1 v n (xs.map iv)) (hn : n ≤ 4294967296) :
    Calls Try.prog 26 #[v] w (Gives w fun r w' => Own w' w.heap.size w'.heap.size 5 1 r (ei xs).length ((ei xs).map bv)) := by
  obtain ⟨hl, a, cap, rfl, hc, hm, hat⟩ := h
  rw [List.length_map, Nat.mul_one] at hl
  have H0 := hid hl
  clear hl
  have o0 := Own.new w #[] 5 1 0 (by decide) rfl
  go_enter Try.func26, Try.ntmps26
  go_wp2
  go_loopw [3, 4] (fun u i wr => ∃ k : Nat, k ≤ n ∧ i = .int .i64 k ∧ Own wr w.heap.size wr.heap.size 5 1 u (ei (xs.take k)).length ((ei (xs.take k)).map bv) ∧ Below w.heap.size w wr) (fun _ i _ => n - (intOf i).toNat)
  case atStart => exact ⟨0, Nat.zero_le _, rfl, o0.mono (Nat.le_refl _) (by simp), ext_alloc (ext_refl w) _⟩
  case round =>
    obtain ⟨k, hk, rfl, ho, hb⟩ := hrel
    clear o0
    by_cases hlt : k < n
    · obtain ⟨b, off, rfl, _, _, hbs, hcell⟩ := hat (by omega)
      have hkx : k < xs.length := by rw [H0.out]; exact hlt
      have c1 : wr.cell? ⟨b, off + k, none⟩ = some (.int .i64 xs[k]) := (hb.cell (by exact hbs)).trans (hcell k _ (by simp [hkx, iv]))
      have HS := hid (ei_take xs k hkx)
      have hel := ei_len xs k
      clear hcell hat
      generalize xs[k] = z at c1 HS
      generalize ei (xs.take k) = l at ho HS hel
      go_wp2_with fail
      refine (specAppendVarint_c ho.rd (by omega)).mono ?_
      rintro e w1 ⟨v1, rfl, o1, y1⟩
      have s1 := y1.size
      have hsz := hb.size
      have x := ext_trans hb y1
      rw [← HS.out] at o1
      clear y1 c1 ho
      go_wp2
      go_roundw
      case rel => exact ⟨k + 1, by omega, by go_num, o1.mono hsz (Nat.le_refl _), x⟩
      case measure => simp [intOf]; omega
    · rw [List.take_of_length_le (by rw [H0.out]; omega)] at ho
      go_wp2
      go_ret
      exact gives_of _ ho hb
theorem implEncodeInts_c {w : World} {lo hi n : Nat} {v : Value} {xs : List Int} (h : Rd w lo hi 1 v n (xs.map iv)) (hn : n ≤ 4294967296) :
    Calls Try.prog 25 #[v] w (Gives w fun r w' => Own w' w.heap.size w'.heap.size 5 1 r (ei xs).length ((ei xs).map bv)) := by
  obtain ⟨hl, a, cap, rfl, hc, hm, hat⟩ := h
  rw [List.length_map, Nat.mul_one] at hl
  have H0 := hid hl
  clear hl
  have o0 := Own.new w #[] 5 1 0 (by decide) rfl
  go_enter Try.func25, Try.ntmps25
  go_wp2
  go_loopw [3, 9] (fun u i wr => ∃ k : Nat, k ≤ n ∧ i = .int .i64 k ∧ Own wr w.heap.size wr.heap.size 5 1 u (ei (xs.take k)).length ((ei (xs.take k)).map bv) ∧ Below w.heap.size w wr) (fun _ i _ => n - (intOf i).toNat)
  case atStart => exact ⟨0, Nat.zero_le _, rfl, o0.mono (Nat.le_refl _) (by simp), ext_alloc (ext_refl w) _⟩
  case round =>
    obtain ⟨k, hk, rfl, ho, hb⟩ := hrel
    clear o0
    by_cases hlt : k < n
    · obtain ⟨b, off, rfl, _, _, hbs, hcell⟩ := hat (by omega)
      have hkx : k < xs.length := by rw [H0.out]; exact hlt
      have c1 : wr.cell? ⟨b, off + k, none⟩ = some (.int .i64 xs[k]) := (hb.cell (by exact hbs)).trans (hcell k _ (by simp [hkx, iv]))
      have HS := hid (ei_take xs k hkx)
      have hel := ei_len xs k
      clear hcell hat
      generalize xs[k] = z at c1 HS
      generalize ei (xs.take k) = l at ho HS hel
      go_wp2_with fail
      refine (implAppendVarint_c ho.rd (by omega)).mono ?_
      rintro e w1 ⟨v1, rfl, o1, y1⟩
      have s1 := y1.size
      have hsz := hb.size
      have x := ext_trans hb y1
      rw [← HS.out] at o1
      clear y1 c1 ho
      go_wp2
      go_roundw
      case rel => exact ⟨k + 1, by omega, by go_num, o1.mono hsz (Nat.le_refl _), x⟩
      case measure => simp [intOf]; omega
    · rw [List.take_of_length_le (by rw [H0.out]; omega)] at ho
      go_wp2
      go_ret
      exact gives_of _ ho hb

/-! ### DecodeInts -/
/-- n numbers from place p on; the numbers and the place behind them. -/
def diGo (xs : List UInt8) : Nat → Nat → Option (List Int × Nat)
  | 0, p => some ([], p)
  | n + 1, p => match rv xs (p : Int) with
    | none => none
    | some (m, c) => match diGo xs n (p + c) with
      | none => none
      | some (l, q) => some ((m : Int) :: l, q)
def diR (xs : List UInt8) (p n : Int) : List Int × Int × Bool :=
  if (0 ≤ n ∧ n ≤ 100) ∧ (0 ≤ p ∧ p ≤ xs.length) then
    match diGo xs n.toNat p.toNat with
    | none => ([], 0, false)
    | some (l, q) => (l, (q : Int), true)
  else ([], 0, false)
theorem diGo_len {xs : List UInt8} : ∀ (n p : Nat) {l : List Int} {q : Nat}, diGo xs n p = some (l, q) → l.length = n ∧ (p ≤ xs.length → q ≤ xs.length) := by
  intro n
  induction n with
  | zero => intro p l q h; simp [diGo] at h; obtain ⟨rfl, rfl⟩ := h; simp
  | succ n ih =>
    intro p l q h
    unfold diGo at h
    split at h
    · cases h
    · rename_i m c hv
      split at h
      · cases h
      · rename_i l' q' hd
        simp only [Option.some.injEq, Prod.mk.injEq] at h
        obtain ⟨rfl, rfl⟩ := h
        have h1 := ih _ hd
        have h2 := rv_bd hv
        rw [Int.toNat_natCast] at h2
        exact ⟨by simp [h1.1], fun _ => h1.2 (by omega)⟩
theorem diR_len (xs : List UInt8) (p n : Int) : (diR xs p n).1.length ≤ 100 := by
  unfold diR
  split
  · rename_i h
    split
    · simp
    · rename_i l q hd
      have := (diGo_len _ _ hd).1
      simp only; omega
  · simp
/-- A loop under way: l is read, m numbers are left from place q on. -/
def Di (xs : List UInt8) (n p : Nat) (l : List Int) (m q : Nat) : Prop := diGo xs n p = (match diGo xs m q with | none => none | some (l', q') => some (l ++ l', q'))
theorem Di.start (xs : List UInt8) (n p : Nat) : Di xs n p [] n p := by
  unfold Di; split <;> simp_all
theorem Di.next {xs : List UInt8} {n p : Nat} {l : List Int} {m q z c : Nat} (h : Di xs n p l (m + 1) q) (hv : rv xs (q : Int) = some (z, c)) : Di xs n p (l ++ [(z : Int)]) m (q + c) := by
  unfold Di at *
  rw [h, diGo, hv]
  dsimp only
  cases diGo xs m (q + c) with
  | none => rfl
  | some r => simp
theorem Di.fail {xs : List UInt8} {n p : Nat} {l : List Int} {m q : Nat} (h : Di xs n p l (m + 1) q) (hv : rv xs (q : Int) = none) : diGo xs n p = none := by
  unfold Di at h
  rw [h, diGo, hv]
theorem Di.done {xs : List UInt8} {n p : Nat} {l : List Int} {q : Nat} (h : Di xs n p l 0 q) : diGo xs n p = some (l, q) := by
  unfold Di at h
  rw [h]; simp [diGo]
def DiPost (base : Nat) (R : List Int × Int × Bool) (r : Value) (w' : World) : Prop := ∃ v, r = .tuple #[v, .int .i64 R.2.1, .bool R.2.2] ∧ Own w' base w'.heap.size 3 1 v R.1.length (R.1.map iv)
theorem diPost_no {base : Nat} {w' : World} {R : List Int × Int × Bool} (h : R = ([], 0, false)) {v : Value} (ho : Own w' base w'.heap.size 3 1 v 0 []) : DiPost base R (.tuple #[v, .int .i64 0, .bool false]) w' := by
  subst h; exact ⟨v, rfl, ho⟩
def ivs (l : List Int) : List Value := l.map iv
theorem ivs_step (l : List Int) (z : Int) : ivs (l ++ [z]) = ivs l ++ [.int .i64 z] := by simp [ivs, iv]
set_option maxRecDepth 100000 in
set_option maxHeartbeats 1000000 in
theorem specDecodeInts_c {w : World} {lo hi k : Nat} {v : Value} {xs : List UInt8} (h : Rd w lo hi 1 v k (xs.map bv)) {p n : Int} :
    Calls Try.prog 23 #[v, .int .i64 p, .int .i64 n] w (Gives w (DiPost w.heap.size (diR xs p n))) := by
  have hxl : Hid (xs.length = k) := by have := h.1; simpa [Hid] using this
  obtain ⟨i0, hi0, hz0, hz1, hz2⟩ := info_parts info_int
  obtain ⟨a, cap, rfl, hkc, hm⟩ := h.form'
  have o0 := Own.new w #[] 3 1 0 (by decide) rfl
  by_cases hn : 0 ≤ n ∧ n ≤ 100
  · by_cases hp : 0 ≤ p ∧ p ≤ (k : Int)
    · obtain ⟨n, rfl⟩ := Int.eq_ofNat_of_zero_le hn.1
      obtain ⟨p, rfl⟩ := Int.eq_ofNat_of_zero_le hp.1
      have hn1 : n ≤ 100 := by omega
      have hp1 : p ≤ k := by omega
      have HG := hid (show diR xs (p : Int) (n : Int) = (match diGo xs n p with | none => ([], 0, false) | some (l, q) => (l, (q : Int), true)) by rw [diR, hxl.out, if_pos ⟨hn, hp⟩, Int.toNat_natCast, Int.toNat_natCast])
      clear hn hp
      go_enter Try.func23, Try.ntmps23
      go_wp2_with fail
      refine (specIn_c true (decide_eq_true ⟨by omega, by omega⟩)).mono ?_
      rintro e w' ⟨rfl, rfl⟩
      go_wp2_with fail
      refine (specIn_c true (decide_eq_true ⟨by omega, by omega⟩)).mono ?_
      rintro e w' ⟨rfl, rfl⟩
      go_wp2
      go_loopw [1, 9, 10] (fun q u i wr => ∃ (j q0 : Nat) (l : List Int), j ≤ n ∧ q0 ≤ k ∧ l.length ≤ j ∧ i = .int .i64 j ∧ q = .int .i64 q0 ∧ Own wr w.heap.size wr.heap.size 3 1 u l.length (ivs l) ∧ Hid (Di xs n p l (n - j) q0) ∧ Below w.heap.size w wr) (fun _ _ i _ => n - (intOf i).toNat)
      case atStart => exact ⟨0, p, [], by omega, hp1, by simp, rfl, rfl, o0.mono (Nat.le_refl _) (by simp), Di.start xs n p, ext_alloc (ext_refl w) _⟩
      case round =>
        obtain ⟨j, q0, l, hj, hq, hlj, rfl, rfl, ho, HD, hb⟩ := hrel
        clear o0
        have h1 := h.ext hb
        clear h
        by_cases hlt : j < n
        · obtain ⟨m, hm1⟩ : ∃ m, n - j = m + 1 := ⟨n - j - 1, by omega⟩
          have hm2 : Hid (n - (j + 1) = m) := by rw [Hid]; omega
          have HD2 : Hid (Di xs n p l (m + 1) q0) := by rw [Hid, ← hm1]; exact HD.out
          clear HD hm1
          go_wp2_with fail
          refine (specReadVarint_c h1).mono ?_
          rintro e w1 ⟨_, rfl, rfl, y1⟩
          have x := ext_trans hb y1
          have ho1 := ho.mono (Nat.le_refl _) y1.size |>.ext y1
          have hs1 := Nat.le_trans hb.size y1.size
          clear h1 ho y1
          rcases hrv : rv xs (q0 : Int) with _ | ⟨z, c⟩
          · have HN := hid (show diR xs (p : Int) (n : Int) = ([], 0, false) by rw [HG.out, HD2.out.fail hrv])
            clear hrv ho1
            unfold rvVal
            go_wp2
            go_ret3
            exact gives_of _ (diPost_no HN.out (Own.new w1 #[] 3 1 0 (by decide) rfl |>.mono hs1 (by simp))) (ext_alloc x _)
          · have HD3 := hid (HD2.out.next hrv)
            have hbd := rv_bd hrv
            obtain ⟨_, _, hc6, hqc, hz6⟩ := hbd
            rw [Int.toNat_natCast, hxl.out] at hqc
            clear hrv HD2
            rw [rvVal_some]
            generalize q0 + c = q1 at hqc HD3
            have hw : w.heap.size ≤ (w1.alloc (.cells #[.int .i64 (z : Int)] 3)).heap.size := by simp; omega
            have ho' := ho1.ext (ext_alloc (ext_refl w1) (.cells #[.int .i64 (z : Int)] 3))
            have hr := Rd.new w1 [.int .i64 (z : Int)] 3 1 1 (by decide) rfl
            clear ho1
            go_wp2_with (at_builtin; refine wpList_append_Own rfl _ _ 37 rfl 3 i0 (.int .i64 0) 1 8 Try.underlying37 hi0 hz0 hz1 hz2 rfl (by decide) rfl ho' rfl hr (by simp; rfl) (by omega) (by omega) hw ?_)
            intro v' w' ho hmu
            have x2 := hmu.ext (ext_alloc x (.cells #[.int .i64 (z : Int)] 3)) (Nat.le_refl _)
            rw [← ivs_step] at ho
            clear hmu ho' hr hw hs1
            go_wp2
            go_roundw
            case rel => exact ⟨j + 1, q1, l ++ [(z : Int)], by omega, by omega, by simp; omega, by go_num, rfl, by rw [List.length_append]; exact ho, by rw [Hid, hm2.out]; exact HD3.out, x2⟩
            case measure => simp [intOf]; omega
        · have hjn : n - j = 0 := by omega
          have HT := hid (show diR xs (p : Int) (n : Int) = (l, (q0 : Int), true) by
            have h0 := HD.out; rw [hjn] at h0; rw [HG.out, h0.done])
          clear HD hjn h1
          go_wp2
          go_ret3
          exact gives_of _ ⟨_, by rw [HT.out]; rfl, by rw [HT.out]; exact ho⟩ hb
    · have HN := hid (show diR xs p n = ([], 0, false) by rw [diR, hxl.out, if_neg fun h => hp h.2])
      go_enter Try.func23, Try.ntmps23
      go_wp2_with fail
      refine (specIn_c true (decide_eq_true hn)).mono ?_
      rintro e w' ⟨rfl, rfl⟩
      go_wp2_with fail
      refine (specIn_c false (decide_eq_false hp)).mono ?_
      rintro e w' ⟨rfl, rfl⟩
      clear o0 h
      go_wp2
      go_ret3
      exact gives_of _ (diPost_no HN.out (Own.new w #[] 3 1 0 (by decide) rfl |>.mono (Nat.le_refl _) (by simp))) (ext_alloc (ext_refl w) _)
  · have HN := hid (show diR xs p n = ([], 0, false) by rw [diR, if_neg fun h => hn h.1])
    go_enter Try.func23, Try.ntmps23
    go_wp2_with fail
    refine (specIn_c false (decide_eq_false hn)).mono ?_
    rintro e w' ⟨rfl, rfl⟩
    clear o0 h
    go_wp2
    go_ret3
    exact gives_of _ (diPost_no HN.out (Own.new w #[] 3 1 0 (by decide) rfl |>.mono (Nat.le_refl _) (by simp))) (ext_alloc (ext_refl w) _)
set_option maxRecDepth 100000 in
set_option maxHeartbeats 1000000 in
theorem implDecodeInts_c {w : World} {lo hi k : Nat} {v : Value} {xs : List UInt8} (h : Rd w lo hi 1 v k (xs.map bv)) {p n : Int} :
    Calls Try.prog 22 #[v, .int .i64 p, .int .i64 n] w (Gives w (DiPost w.heap.size (diR xs p n))) := by
  have hxl : Hid (xs.length = k) := by have := h.1; simpa [Hid] using this
  obtain ⟨i0, hi0, hz0, hz1, hz2⟩ := info_parts info_int
  obtain ⟨a, cap, rfl, hkc, hm⟩ := h.form'
  have o0 := Own.new w #[] 3 1 0 (by decide) rfl
  by_cases hn : 0 ≤ n ∧ n ≤ 100
  · by_cases hp : 0 ≤ p ∧ p ≤ (k : Int)
    · obtain ⟨n, rfl⟩ := Int.eq_ofNat_of_zero_le hn.1
      obtain ⟨p, rfl⟩ := Int.eq_ofNat_of_zero_le hp.1
      have hn1 : n ≤ 100 := by omega
      have hp1 : p ≤ k := by omega
      have HG := hid (show diR xs (p : Int) (n : Int) = (match diGo xs n p with | none => ([], 0, false) | some (l, q) => (l, (q : Int), true)) by rw [diR, hxl.out, if_pos ⟨hn, hp⟩, Int.toNat_natCast, Int.toNat_natCast])
      clear hn hp
      go_enter Try.func22, Try.ntmps22
      go_wp2_with fail
      refine (implIn_c true (decide_eq_true ⟨by omega, by omega⟩)).mono ?_
      rintro e w' ⟨rfl, rfl⟩
      go_wp2_with fail
      refine (implIn_c true (decide_eq_true ⟨by omega, by omega⟩)).mono ?_
      rintro e w' ⟨rfl, rfl⟩
      go_wp2
      go_loopw [1, 9, 25] (fun q u i wr => ∃ (j q0 : Nat) (l : List Int), j ≤ n ∧ q0 ≤ k ∧ l.length ≤ j ∧ i = .int .i64 j ∧ q = .int .i64 q0 ∧ Own wr w.heap.size wr.heap.size 3 1 u l.length (ivs l) ∧ Hid (Di xs n p l (n - j) q0) ∧ Below w.heap.size w wr) (fun _ _ i _ => n - (intOf i).toNat)
      case atStart => exact ⟨0, p, [], by omega, hp1, by simp, rfl, rfl, o0.mono (Nat.le_refl _) (by simp), Di.start xs n p, ext_alloc (ext_refl w) _⟩
      case round =>
        obtain ⟨j, q0, l, hj, hq, hlj, rfl, rfl, ho, HD, hb⟩ := hrel
        clear o0
        have h1 := h.ext hb
        clear h
        by_cases hlt : j < n
        · obtain ⟨m, hm1⟩ : ∃ m, n - j = m + 1 := ⟨n - j - 1, by omega⟩
          have hm2 : Hid (n - (j + 1) = m) := by rw [Hid]; omega
          have HD2 : Hid (Di xs n p l (m + 1) q0) := by rw [Hid, ← hm1]; exact HD.out
          clear HD hm1
          go_wp2_with fail
          refine (implReadVarint_c h1).mono ?_
          rintro e w1 ⟨_, rfl, rfl, y1⟩
          have x := ext_trans hb y1
          have ho1 := ho.mono (Nat.le_refl _) y1.size |>.ext y1
          have hs1 := Nat.le_trans hb.size y1.size
          clear h1 ho y1
          rcases hrv : rv xs (q0 : Int) with _ | ⟨z, c⟩
          · have HN := hid (show diR xs (p : Int) (n : Int) = ([], 0, false) by rw [HG.out, HD2.out.fail hrv])
            clear hrv ho1
            unfold rvVal
            go_wp2
            go_ret3
            exact gives_of _ (diPost_no HN.out (Own.none_ _ _ _ _ _ _)) x
          · have HD3 := hid (HD2.out.next hrv)
            have hbd := rv_bd hrv
            obtain ⟨_, _, hc6, hqc, hz6⟩ := hbd
            rw [Int.toNat_natCast, hxl.out] at hqc
            clear hrv HD2
            rw [rvVal_some]
            generalize q0 + c = q1 at hqc HD3
            have hw : w.heap.size ≤ (w1.alloc (.cells #[.int .i64 (z : Int)] 3)).heap.size := by simp; omega
            have ho' := ho1.ext (ext_alloc (ext_refl w1) (.cells #[.int .i64 (z : Int)] 3))
            have hr := Rd.new w1 [.int .i64 (z : Int)] 3 1 1 (by decide) rfl
            clear ho1
            go_wp2_with (at_builtin; refine wpList_append_Own rfl _ _ 37 rfl 3 i0 (.int .i64 0) 1 8 Try.underlying37 hi0 hz0 hz1 hz2 rfl (by decide) rfl ho' rfl hr (by simp; rfl) (by omega) (by omega) hw ?_)
            intro v' w' ho hmu
            have x2 := hmu.ext (ext_alloc x (.cells #[.int .i64 (z : Int)] 3)) (Nat.le_refl _)
            rw [← ivs_step] at ho
            clear hmu ho' hr hw hs1
            go_wp2
            go_roundw
            case rel => exact ⟨j + 1, q1, l ++ [(z : Int)], by omega, by omega, by simp; omega, by go_num, rfl, by rw [List.length_append]; exact ho, by rw [Hid, hm2.out]; exact HD3.out, x2⟩
            case measure => simp [intOf]; omega
        · have hjn : n - j = 0 := by omega
          have HT := hid (show diR xs (p : Int) (n : Int) = (l, (q0 : Int), true) by
            have h0 := HD.out; rw [hjn] at h0; rw [HG.out, h0.done])
          clear HD hjn h1
          go_wp2
          go_ret3
          exact gives_of _ ⟨_, by rw [HT.out]; rfl, by rw [HT.out]; exact ho⟩ hb
    · have HN := hid (show diR xs p n = ([], 0, false) by rw [diR, hxl.out, if_neg fun h => hp h.2])
      go_enter Try.func22, Try.ntmps22
      go_wp2_with fail
      refine (implIn_c true (decide_eq_true hn)).mono ?_
      rintro e w' ⟨rfl, rfl⟩
      go_wp2_with fail
      refine (implIn_c false (decide_eq_false hp)).mono ?_
      rintro e w' ⟨rfl, rfl⟩
      clear o0 h
      go_wp2
      go_ret3
      exact gives_of _ (diPost_no HN.out (Own.none_ _ _ _ _ _ _)) (ext_refl _)
  · have HN := hid (show diR xs p n = ([], 0, false) by rw [diR, if_neg fun h => hn h.1])
    go_enter Try.func22, Try.ntmps22
    go_wp2_with fail
    refine (implIn_c false (decide_eq_false hn)).mono ?_
    rintro e w' ⟨rfl, rfl⟩
    clear o0 h
    go_wp2
    go_ret3
    exact gives_of _ (diPost_no HN.out (Own.none_ _ _ _ _ _ _)) (ext_refl _)
end Go.Proofs.Ytiikpkkpacjamaa
