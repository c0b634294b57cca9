/- The comparison of strings, of lists of strings and of names by the program, the reference and the library. Condition: the values read as strings. -/
import Derived.Test.YtoehjfcadhgpbaaDoorName
import Derived.WalkLawsBesides
namespace Go.Proofs.YtoehjfcadhgpbaaDoor
open Go.RowKit
/-- Three-way comparison of two strings, and of two lists of strings. -/
def sc (a b : ByteArray) : Int := if Op.bytesLess a.toList b.toList = true then -1 else if a.toList == b.toList then 0 else 1
def cn : List ByteArray → List ByteArray → Int
  | [], [] => 0
  | [], _ :: _ => -1
  | _ :: _, [] => 1
  | x :: xs, y :: ys => if sc x y = 0 then cn xs ys else sc x y
theorem less_self : ∀ l : List UInt8, Op.bytesLess l l = false
  | [] => rfl
  | a :: l => by simp [Op.bytesLess, less_self l]
theorem sc_zero (a b : ByteArray) : sc a b = 0 ↔ a = b := by
  unfold sc
  constructor
  · intro h
    split at h
    · omega
    · split at h
      · rename_i he; exact (str_eq a b).1 (by simpa using he)
      · omega
  · rintro rfl
    simp [less_self]
theorem cn_zero : ∀ xs ys : List ByteArray, cn xs ys = 0 ↔ xs = ys := by
  intro xs
  induction xs with
  | nil => intro ys; cases ys <;> simp [cn]
  | cons x xs ih =>
    intro ys
    cases ys with
    | nil => simp [cn]
    | cons y ys =>
      unfold cn
      by_cases h : sc x y = 0
      · rw [if_pos h, ih]
        have := (sc_zero x y).1 h
        subst this
        simp
      · rw [if_neg h]
        constructor
        · intro h'; exact absurd h' h
        · intro h'; injection h' with h1 h2; exact absurd ((sc_zero x y).2 h1) h
theorem cn_step {xs ys : List ByteArray} {k : Nat} (hx : k < xs.length) (hy : k < ys.length) : cn (xs.drop k) (ys.drop k) = if sc xs[k] ys[k] = 0 then cn (xs.drop (k + 1)) (ys.drop (k + 1)) else sc xs[k] ys[k] := by
  rw [List.drop_eq_getElem_cons hx, List.drop_eq_getElem_cons hy, cn]
theorem cn_end {xs ys : List ByteArray} {k : Nat} (hx : xs.length ≤ k) (hy : ys.length ≤ k) : cn (xs.drop k) (ys.drop k) = 0 := by
  rw [List.drop_eq_nil_of_le hx, List.drop_eq_nil_of_le hy, cn]
theorem cn_left {xs ys : List ByteArray} {k : Nat} (hx : xs.length ≤ k) (hy : k < ys.length) : cn (xs.drop k) (ys.drop k) = -1 := by
  rw [List.drop_eq_nil_of_le hx, List.drop_eq_getElem_cons hy, cn]
theorem cn_right {xs ys : List ByteArray} {k : Nat} (hx : k < xs.length) (hy : ys.length ≤ k) : cn (xs.drop k) (ys.drop k) = 1 := by
  rw [List.drop_eq_getElem_cons hx, List.drop_eq_nil_of_le hy, cn]
theorem l4Cmp_c {w : World} (a b : ByteArray) : Calls Tryd.prog 78 #[.string a, .string b] w fun e w' => e = .returned (.int .i64 (sc a b)) ∧ w' = w := by
  have HS : Hid (sc a b = if Op.bytesLess a.toList b.toList = true then -1 else if a.toList == b.toList then 0 else 1) := rfl
  generalize h1 : Op.bytesLess a.toList b.toList = x at HS
  generalize h2 : (a.toList == b.toList) = y at HS
  cases x
  all_goals
    cases y
    all_goals
      go_enter Tryd.func78, Tryd.ntmps78
      go_wp2
      go_ret
      exact ⟨by rw [HS.out]; rfl, rfl⟩
theorem cmpCompare_c {w : World} (a b : ByteArray) : Calls Tryd.prog 94 #[.string a, .string b] w fun e w' => e = .returned (.int .i64 (sc a b)) ∧ w = w' := by
  have HS : Hid (sc a b = if Op.bytesLess a.toList b.toList = true then -1 else if a.toList == b.toList then 0 else 1) := rfl
  generalize h1 : Op.bytesLess a.toList b.toList = x at HS
  generalize h2 : (a.toList == b.toList) = y at HS
  cases x
  all_goals
    cases y
    all_goals
      go_enter Tryd.func94, Tryd.ntmps94
      go_wp2
      go_ret
      exact ⟨by rw [HS.out]; rfl, rfl⟩
set_option maxRecDepth 100000 in
set_option maxHeartbeats 1000000 in
theorem slicesCompare_c {w : World} {lo hi lo' hi' n m : Nat} {v v' : Value} {xs ys : List ByteArray} (h : Rd w lo hi 1 v n (xs.map sv)) (h' : Rd w lo' hi' 1 v' m (ys.map sv)) :
    Calls Tryd.prog 77 #[v, v'] w (Gives w fun r _ => r = .int .i64 (cn xs ys)) := by
  obtain ⟨hl, a, cap, rfl, hc, hm, hat⟩ := h
  obtain ⟨hl', a', cap', rfl, hc', hm', hat'⟩ := h'
  simp only [List.length_map, Nat.mul_one] at hl hl'
  have H1 := hid hl
  have H2 := hid hl'
  clear hl hl'
  go_enter Tryd.func77, Tryd.ntmps77
  go_wp2
  go_loop [11] (fun i => ∃ k : Nat, k ≤ n ∧ k ≤ m ∧ i = .int .i64 k ∧ Hid (cn xs ys = cn (xs.drop k) (ys.drop k))) (fun i => n - (intOf i).toNat)
  case atStart => exact ⟨0, Nat.zero_le _, Nat.zero_le _, rfl, rfl⟩
  case round =>
    obtain ⟨k, hk, hk', rfl, HC⟩ := hrel
    by_cases hlt : k < n
    · obtain ⟨b, off, rfl, _, _, hbs, hcell⟩ := hat (by omega)
      have hkx : k < xs.length := by rw [H1.out]; exact hlt
      have c1 : w.cell? ⟨b, off + k, none⟩ = some (.string xs[k]) := hcell k _ (by simp [hkx, sv])
      by_cases hlt2 : k < m
      · obtain ⟨b', off', rfl, _, _, hbs', hcell'⟩ := hat' (by omega)
        have hky : k < ys.length := by rw [H2.out]; exact hlt2
        have c2 : w.cell? ⟨b', off' + k, none⟩ = some (.string ys[k]) := hcell' k _ (by simp [hky, sv])
        have HN := hid (cn_step hkx hky)
        clear hcell hcell' hat hat'
        generalize xs[k] = x at c1 HN
        generalize ys[k] = y at c2 HN
        go_wp2_with fail
        refine (cmpCompare_c x y).mono ?_
        rintro e w' ⟨rfl, rfl⟩
        generalize sc x y = z at HN ⊢
        by_cases hz : z = 0
        · have HZ := hid (show cn xs ys = cn (xs.drop (k + 1)) (ys.drop (k + 1)) by rw [HC.out, HN.out, if_pos hz])
          have hz1 : (z != 0) = false := by simp; exact hz
          have HZ0 := hid hz
          clear hz HC HN
          go_wp2
          go_round
          case rel => exact ⟨k + 1, by omega, by omega, by go_num, HZ⟩
          case measure => simp [intOf]; omega
        · have HZ := hid (show cn xs ys = z by rw [HC.out, HN.out, if_neg hz])
          have hz1 : (z != 0) = true := by simp; exact hz
          clear HC HN
          go_wp2
          go_ret
          exact gives_int HZ.out.symm (ext_refl _)
      · have HZ := hid (show cn xs ys = 1 by rw [HC.out, cn_right hkx (by rw [H2.out]; omega)])
        clear hcell HC
        go_wp2
        go_ret
        exact gives_int HZ.out.symm (ext_refl _)
    · by_cases hnm : n < m
      · have HZ := hid (show cn xs ys = -1 by rw [HC.out, cn_left (by rw [H1.out]; omega) (by rw [H2.out]; omega)])
        clear HC
        go_wp2
        go_ret
        exact gives_int HZ.out.symm (ext_refl _)
      · have HZ := hid (show cn xs ys = 0 by rw [HC.out, cn_end (by rw [H1.out]; omega) (by rw [H2.out]; omega)])
        clear HC
        have hnm1 : decide (n < m) = false := decide_eq_false hnm
        go_wp2
        go_ret
        exact gives_int HZ.out.symm (ext_refl _)
set_option maxRecDepth 100000 in
set_option maxHeartbeats 1000000 in
theorem specCompareNames_c {w : World} {lo hi lo' hi' n m : Nat} {v v' : Value} {xs ys : List ByteArray} (h : RdN w lo hi v n (xs.map sv)) (h' : RdN w lo' hi' v' m (ys.map sv)) :
    Calls Tryd.prog 46 #[v, v'] w (Gives w fun r _ => r = .int .i64 (cn xs ys)) := by
  obtain ⟨s, rfl, h⟩ := h
  obtain ⟨s', rfl, h'⟩ := h'
  obtain ⟨W, hW⟩ : ∃ W, W = (w.alloc (.cells #[s] 30)).alloc (.cells #[s'] 30) := ⟨_, rfl⟩
  have x0 : Below w.heap.size w W := by rw [hW]; exact ext_alloc (ext_alloc (ext_refl w) _) _
  have cS : W.cell? ⟨w.heap.size, 0, none⟩ = some s := by rw [hW]; exact ((Cell1.new w s 30).ext (ext_alloc (ext_refl _) _)).1
  have cT : W.cell? ⟨w.heap.size + 1, 0, none⟩ = some s' := by
    rw [hW]; simp
  have hWs : W.heap.size = w.heap.size + 2 := by rw [hW]; simp
  have r1 := h.ext x0
  have r2 := h'.ext x0
  clear h h'
  obtain ⟨hl, a, cap, rfl, hc, hm, hat⟩ := r1
  obtain ⟨hl', a', cap', rfl, hc', hm', hat'⟩ := r2
  simp only [List.length_map, Nat.mul_one] at hl hl'
  have H1 := hid hl
  have H2 := hid hl'
  have HWs := hid hWs
  have HW := hid hW
  clear hl hl' hWs hW
  go_enter Tryd.func46, Tryd.ntmps46
  go_wp2
  rw [← HW.out]
  go_loopw [5] (fun i wr => ∃ k : Nat, k ≤ n ∧ k ≤ m ∧ i = .int .i64 k ∧ Hid (cn xs ys = cn (xs.drop k) (ys.drop k)) ∧ Below W.heap.size W wr) (fun i _ => n - (intOf i).toNat)
  case atStart => exact ⟨0, Nat.zero_le _, Nat.zero_le _, rfl, rfl, ext_refl _⟩
  case round =>
    obtain ⟨k, hk, hk', rfl, HC, hb⟩ := hrel
    have cS' := (hb.cell (p := ⟨w.heap.size, 0, none⟩) (by rw [HWs.out]; simp only; omega)).trans cS
    have cT' := (hb.cell (p := ⟨w.heap.size + 1, 0, none⟩) (by rw [HWs.out]; simp only; omega)).trans cT
    have x := ext_trans x0 hb
    clear cS cT
    by_cases hlt : k < n
    · obtain ⟨b, off, rfl, _, _, hbs, hcell⟩ := hat (by omega)
      have hkx : k < xs.length := by rw [H1.out]; exact hlt
      have c1 : wr.cell? ⟨b, off + k, none⟩ = some (.string xs[k]) := (hb.cell (by exact hbs)).trans (hcell k _ (by simp [hkx, sv]))
      by_cases hlt2 : k < m
      · obtain ⟨b', off', rfl, _, _, hbs', hcell'⟩ := hat' (by omega)
        have hky : k < ys.length := by rw [H2.out]; exact hlt2
        have c2 : wr.cell? ⟨b', off' + k, none⟩ = some (.string ys[k]) := (hb.cell (by exact hbs')).trans (hcell' k _ (by simp [hky, sv]))
        have HN := hid (cn_step hkx hky)
        have i0 : (0 : Int) ≤ (k : Int) := by omega
        have i1 : (k : Int) < (n : Int) := by omega
        have i2 : (k : Int) < (m : Int) := by omega
        clear hcell hcell' hat hat'
        generalize xs[k] = x1 at c1 HN
        generalize ys[k] = y1 at c2 HN
        go_wp2_with fail
        go_quiet ((go_at_call 78; exact Calls.quiet_of_same (l4Cmp_c x1 y1)))
        generalize sc x1 y1 = z at HN ⊢
        by_cases hz : z = 0
        · have HZ := hid (show cn xs ys = cn (xs.drop (k + 1)) (ys.drop (k + 1)) by rw [HC.out, HN.out, if_pos hz])
          have hz1 : (z != 0) = false := by simp; exact hz
          have HZ0 := hid hz
          clear hz HC HN
          go_wp2
          go_roundw
          case rel => exact ⟨k + 1, by omega, by omega, by go_num, HZ, ext_trans hb (ext_drewN _ _)⟩
          case measure => simp [intOf]; omega
        · have HZ := hid (show cn xs ys = z by rw [HC.out, HN.out, if_neg hz])
          have hz1 : (z != 0) = true := by simp; exact hz
          clear HC HN
          go_wp2
          go_ret
          exact gives_int HZ.out.symm (ext_trans x (ext_drewN _ _))
      · have HZ := hid (show cn xs ys = 1 by rw [HC.out, cn_right hkx (by rw [H2.out]; omega)])
        have hmn : decide (n < m) = false := decide_eq_false (by omega)
        have hk2 : decide (k < m) = false := decide_eq_false hlt2
        have hmn2 : m < n := by omega
        clear hcell HC c1
        go_wp2
        go_ret
        exact gives_int HZ.out.symm x
    · have hk2 : decide (k < n) = false := decide_eq_false hlt
      by_cases hnm : n < m
      · have HZ := hid (show cn xs ys = -1 by rw [HC.out, cn_left (by rw [H1.out]; omega) (by rw [H2.out]; omega)])
        clear HC
        go_wp2
        go_ret
        exact gives_int HZ.out.symm x
      · have HZ := hid (show cn xs ys = 0 by rw [HC.out, cn_end (by rw [H1.out]; omega) (by rw [H2.out]; omega)])
        clear HC
        have hnm1 : decide (n < m) = false := decide_eq_false hnm
        have hnm2 : decide (m < n) = false := decide_eq_false (by omega)
        go_wp2
        go_ret
        exact gives_int HZ.out.symm x
theorem implCompareNames_c {w : World} {lo hi lo' hi' n m : Nat} {v v' : Value} {xs ys : List ByteArray} (h : RdN w lo hi v n (xs.map sv)) (h' : RdN w lo' hi' v' m (ys.map sv)) :
    Calls Tryd.prog 45 #[v, v'] w (Gives w fun r _ => r = .int .i64 (cn xs ys)) := by
  obtain ⟨s, rfl, h⟩ := h
  obtain ⟨s', rfl, h'⟩ := h'
  have x0 : Below w.heap.size w ((w.alloc (.cells #[s] 30)).alloc (.cells #[s'] 30)) := ext_alloc (ext_alloc (ext_refl w) _) _
  have C := hid (slicesCompare_c (h.ext x0) (h'.ext x0))
  clear h h'
  go_enter Tryd.func45, Tryd.ntmps45
  go_wp2_with fail
  refine C.out.mono ?_
  rintro e w1 ⟨_, rfl, rfl, y1⟩
  have x := ext_trans x0 y1
  clear C y1 x0
  go_wp2
  go_ret
  exact gives_int rfl x
theorem implEqualNames_c {w : World} {lo hi lo' hi' n m : Nat} {v v' : Value} {xs ys : List ByteArray} (h : RdN w lo hi v n (xs.map sv)) (h' : RdN w lo' hi' v' m (ys.map sv)) :
    Calls Tryd.prog 55 #[v, v'] w (Gives w fun r _ => r = .bool (decide (xs = ys))) := by
  obtain ⟨s, rfl, h⟩ := h
  obtain ⟨s', rfl, h'⟩ := h'
  have x0 : Below w.heap.size w ((w.alloc (.cells #[s] 30)).alloc (.cells #[s'] 30)) := ext_alloc (ext_alloc (ext_refl w) _) _
  have C := hid (slicesEqualString_c (h.ext x0) (h'.ext x0))
  clear h h'
  go_enter Tryd.func55, Tryd.ntmps55
  go_wp2_with fail
  refine C.out.mono ?_
  rintro e w1 ⟨_, rfl, rfl, y1⟩
  have x := ext_trans x0 y1
  clear C y1 x0
  go_wp2
  go_ret
  exact gives_bool rfl x
theorem specEqualNames_c {w : World} {lo hi lo' hi' n m : Nat} {v v' : Value} {xs ys : List ByteArray} (h : RdN w lo hi v n (xs.map sv)) (h' : RdN w lo' hi' v' m (ys.map sv)) :
    Calls Tryd.prog 87 #[v, v'] w (Gives w fun r _ => r = .bool (decide (xs = ys))) := by
  obtain ⟨s, rfl, h⟩ := h
  obtain ⟨s', rfl, h'⟩ := h'
  have x0 : Below w.heap.size w ((w.alloc (.cells #[s] 30)).alloc (.cells #[s'] 30)) := ext_alloc (ext_alloc (ext_refl w) _) _
  have C := hid (specCompareNames_c ⟨s, rfl, h.ext x0⟩ ⟨s', rfl, h'.ext x0⟩)
  have HZ := hid (cn_zero xs ys)
  clear h h'
  go_enter Tryd.func87, Tryd.ntmps87
  go_wp2_with fail
  refine C.out.mono ?_
  rintro e w1 ⟨_, rfl, rfl, y1⟩
  have x := ext_trans x0 y1
  clear C y1 x0
  generalize cn xs ys = z at HZ ⊢
  by_cases hz : z = 0
  · have hz1 : (z == 0) = true := by simp; exact hz
    have HE := hid (HZ.out.1 hz)
    clear hz
    go_wp2
    go_ret
    exact gives_bool (by rw [decide_eq_true HE.out]) x
  · have hz1 : (z == 0) = false := by simp; exact hz
    go_wp2
    go_ret
    exact gives_bool (by rw [decide_eq_false (fun e => hz (HZ.out.2 e))]) x
end Go.Proofs.YtoehjfcadhgpbaaDoor
