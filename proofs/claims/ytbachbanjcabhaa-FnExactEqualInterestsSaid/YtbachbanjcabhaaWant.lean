/- Interests (a name and three ints): what the laws' helpers do, and EqualInterests, ValidInterest, DecrementHops of both sides. Condition: the values read as strings and ints of a size that fits. -/
import Derived.Test.YtbachbanjcabhaaAp
import Derived.Test.YtbachbanjcabhaaCmp
import Derived.Test.YtbachbanjcabhaaNum
set_option linter.unusedVariables false
namespace Go.Proofs.Ytbachbanjcabhaa
open Go.RowKit
/-- A struct of one slice that reads as the cells, and three ints. -/
def RdW (w : World) (lo hi : Nat) (v : Value) (n : Nat) (cs : List Value) (a b c : Int) : Prop := ∃ s, v = .agg #[s, .int .i64 a, .int .i64 b, .int .i64 c] ∧ Rd w lo hi 1 s n cs
def OwnW (w : World) (lo hi : Nat) (v : Value) (n : Nat) (cs : List Value) (a b c : Int) : Prop := ∃ s, v = .agg #[s, .int .i64 a, .int .i64 b, .int .i64 c] ∧ Own w lo hi 9 1 s n cs
section
variable {w w' : World} {lo hi lo' hi' n : Nat} {v : Value} {cs : List Value} {a b c : Int}
theorem RdW.ext (h : RdW w lo hi v n cs a b c) (e : Below w.heap.size w w') : RdW w' lo hi v n cs a b c := let ⟨s, hv, r⟩ := h; ⟨s, hv, r.ext e⟩
theorem RdW.mut (h : RdW w lo hi v n cs a b c) (m : Mut lo' hi' w w') (hd : hi ≤ lo' ∨ hi' ≤ lo) : RdW w' lo hi v n cs a b c := let ⟨s, hv, r⟩ := h; ⟨s, hv, r.mut m hd⟩
theorem OwnW.ext (h : OwnW w lo hi v n cs a b c) (e : Below w.heap.size w w') : OwnW w' lo hi v n cs a b c := let ⟨s, hv, r⟩ := h; ⟨s, hv, r.ext e⟩
theorem OwnW.mut (h : OwnW w lo hi v n cs a b c) (m : Mut lo' hi' w w') (hd : hi ≤ lo' ∨ hi' ≤ lo) : OwnW w' lo hi v n cs a b c := let ⟨s, hv, r⟩ := h; ⟨s, hv, r.mut m hd⟩
theorem OwnW.mono (h : OwnW w lo hi v n cs a b c) (h1 : lo' ≤ lo) (h2 : hi ≤ hi') : OwnW w lo' hi' v n cs a b c := let ⟨s, hv, r⟩ := h; ⟨s, hv, r.mono h1 h2⟩
theorem OwnW.rd (h : OwnW w lo hi v n cs a b c) : RdW w lo hi v n cs a b c := let ⟨s, hv, r⟩ := h; ⟨s, hv, r.rd⟩
end
/-- Several cells of a new block. -/
theorem new_cell (w : World) (cs : Array Value) (t : TypeId) (j : Nat) (v : Value) (h : cs[j]? = some v) : (w.alloc (.cells cs t)).cell? ⟨w.heap.size, j, none⟩ = some v := (Cell1.newAt w cs t j v h).1
theorem mut4 (w : World) {lo hi b : Nat} (h1 : lo ≤ b) (h2 : b < hi) (u0 u1 u2 u3 : Value) : Mut lo hi w ((((w.setCell ⟨b, 0, none⟩ u0).setCell ⟨b, 1, none⟩ u1).setCell ⟨b, 2, none⟩ u2).setCell ⟨b, 3, none⟩ u3) :=
  (((Mut.setCell w (by simpa using h1) (by simpa using h2) u0).trans (Mut.setCell _ (by simpa using h1) (by simpa using h2) u1)).trans (Mut.setCell _ (by simpa using h1) (by simpa using h2) u2)).trans (Mut.setCell _ (by simpa using h1) (by simpa using h2) u3)
theorem szInterest_c {w : World} {lo hi : Nat} {v : Value} {ss : List ByteArray} {a b c left : Int} (h : RdW w lo hi v ss.length (ss.map sv) a b c) (hs : ∀ s ∈ ss, s.size ≤ 9223372036854775807) (h0 : 0 ≤ left) (h1 : left ≤ 1048576) :
    Calls Try.prog 49 #[v, .int .i64 left] w (Gives w fun r _ => r = .int .i64 (szS left (wt ss))) := by
  obtain ⟨s, rfl, h⟩ := h
  have r1 := h.ext (ext_alloc (ext_refl w) (.cells #[s, .int .i64 a, .int .i64 b, .int .i64 c] 56))
  have C := hid (szName_c ⟨s, rfl, r1⟩ hs h0 h1)
  have hb : szS left (wt ss) = -1 ∨ 0 ≤ szS left (wt ss) := by unfold szS; split <;> omega
  clear h r1 hs
  go_enter Try.func49, Try.ntmps49
  go_wp2_with fail
  refine C.out.mono ?_
  rintro e w1 ⟨_, rfl, rfl, y1⟩
  have x := ext_trans (ext_alloc (ext_refl w) _) y1
  clear C y1
  obtain ⟨z, hz0⟩ : ∃ z, z = szS left (wt ss) := ⟨_, rfl⟩
  rw [← hz0] at hb ⊢
  have HZ0 := hid hz0
  clear hz0
  rcases hb with hb | hb
  · have hz : z < 0 := by omega
    have HZ := hid hb
    clear hb
    go_wp2
    go_ret
    exact gives_int (HZ.out.symm.trans HZ0.out) x
  · go_wp2
    go_ret
    exact gives_int HZ0.out x
set_option maxRecDepth 100000 in
set_option maxHeartbeats 1000000 in
theorem toInterest_c {w : World} {lo hi n : Nat} {v : Value} {ss : List ByteArray} {a b c : Int} (h : RdW w lo hi v n (ss.map sv) a b c) (hn : n ≤ 8796093022208) :
    Calls Try.prog 51 #[v] w (Gives w fun r w' => OwnW w' w.heap.size w'.heap.size r n (ss.map sv) a b c) := by
  obtain ⟨s, rfl, h⟩ := h
  obtain ⟨z, hz⟩ : ∃ z : Array Value, z = #[.slice none 0 0, .int .i64 0, .int .i64 0, .int .i64 0] := ⟨_, rfl⟩
  obtain ⟨W, hW⟩ : ∃ W, W = ((w.alloc (.cells #[s, .int .i64 a, .int .i64 b, .int .i64 c] 56)).alloc (.cells #[.slice none 0 0, .int .i64 0, .int .i64 0, .int .i64 0] 60)).alloc (.cells #[.slice none 0 0, .int .i64 0, .int .i64 0, .int .i64 0] 60) := ⟨_, rfl⟩
  have x0 : Below w.heap.size w W := by rw [hW]; exact ext_alloc (ext_alloc (ext_alloc (ext_refl w) _) _) _
  have hWs : W.heap.size = w.heap.size + 3 := by rw [hW]; simp
  have C := hid (toName_c ⟨s, rfl, h.ext x0⟩ hn)
  have p1 : W.cell? ⟨w.heap.size, 1, none⟩ = some (.int .i64 a) := by rw [hW]; exact cell_ext (cell_ext (new_cell w _ _ 1 _ rfl) (ext_alloc (ext_refl _) _)) (ext_alloc (ext_refl _) _)
  have p2 : W.cell? ⟨w.heap.size, 2, none⟩ = some (.int .i64 b) := by rw [hW]; exact cell_ext (cell_ext (new_cell w _ _ 2 _ rfl) (ext_alloc (ext_refl _) _)) (ext_alloc (ext_refl _) _)
  have p3 : W.cell? ⟨w.heap.size, 3, none⟩ = some (.int .i64 c) := by rw [hW]; exact cell_ext (cell_ext (new_cell w _ _ 3 _ rfl) (ext_alloc (ext_refl _) _)) (ext_alloc (ext_refl _) _)
  have A : ∀ j : Nat, j < 4 → Cell1 W ⟨w.heap.size + 1, j, none⟩ (if j = 0 then .slice none 0 0 else .int .i64 0) := by
    intro j hj
    have := ((Cell1.newAt (w.alloc (.cells #[s, .int .i64 a, .int .i64 b, .int .i64 c] 56)) #[.slice none 0 0, .int .i64 0, .int .i64 0, .int .i64 0] 60 j (if j = 0 then .slice none 0 0 else .int .i64 0) (by
      rcases j with _ | _ | _ | _ | j
      · rfl
      · rfl
      · rfl
      · rfl
      · omega)).ext (ext_alloc (ext_refl _) (.cells #[.slice none 0 0, .int .i64 0, .int .i64 0, .int .i64 0] 60)))
    rw [← hW] at this
    simpa using this
  have B : ∀ j : Nat, j < 4 → Cell1 W ⟨w.heap.size + 2, j, none⟩ (if j = 0 then .slice none 0 0 else .int .i64 0) := by
    intro j hj
    have := Cell1.newAt ((w.alloc (.cells #[s, .int .i64 a, .int .i64 b, .int .i64 c] 56)).alloc (.cells #[.slice none 0 0, .int .i64 0, .int .i64 0, .int .i64 0] 60)) #[.slice none 0 0, .int .i64 0, .int .i64 0, .int .i64 0] 60 j (if j = 0 then .slice none 0 0 else .int .i64 0) (by
      rcases j with _ | _ | _ | _ | j
      · rfl
      · rfl
      · rfl
      · rfl
      · omega)
    rw [← hW] at this
    simpa using this
  have HW := hid hW
  clear h hz
  go_enter Try.func51, Try.ntmps51
  go_wp2_with fail
  rw [← hW]
  clear hW
  refine C.out.mono ?_
  rintro e w1 ⟨_, rfl, ⟨v1, rfl, o1⟩, y1⟩
  have s1 := y1.size
  rw [hWs] at s1 o1
  have x1 := ext_trans x0 y1
  replace p1 := cell_ext p1 y1
  replace p2 := cell_ext p2 y1
  replace p3 := cell_ext p3 y1
  obtain ⟨A0, F0⟩ := (A 0 (by decide)).ext y1
  obtain ⟨A1, F1⟩ := (A 1 (by decide)).ext y1
  obtain ⟨A2, F2⟩ := (A 2 (by decide)).ext y1
  obtain ⟨A3, F3⟩ := (A 3 (by decide)).ext y1
  obtain ⟨B0, G0⟩ := (B 0 (by decide)).ext y1
  obtain ⟨B1, G1⟩ := (B 1 (by decide)).ext y1
  obtain ⟨B2, G2⟩ := (B 2 (by decide)).ext y1
  obtain ⟨B3, G3⟩ := (B 3 (by decide)).ext y1
  replace A0 : w1.cell? ⟨w.heap.size + 1, 0, none⟩ = some (.slice none 0 0) := A0
  replace A1 : w1.cell? ⟨w.heap.size + 1, 1, none⟩ = some (.int .i64 0) := A1
  replace A2 : w1.cell? ⟨w.heap.size + 1, 2, none⟩ = some (.int .i64 0) := A2
  replace A3 : w1.cell? ⟨w.heap.size + 1, 3, none⟩ = some (.int .i64 0) := A3
  replace B0 : w1.cell? ⟨w.heap.size + 2, 0, none⟩ = some (.slice none 0 0) := B0
  replace B1 : w1.cell? ⟨w.heap.size + 2, 1, none⟩ = some (.int .i64 0) := B1
  replace B2 : w1.cell? ⟨w.heap.size + 2, 2, none⟩ = some (.int .i64 0) := B2
  replace B3 : w1.cell? ⟨w.heap.size + 2, 3, none⟩ = some (.int .i64 0) := B3
  obtain ⟨a1, c1, rfl, _⟩ := o1.rd.form
  clear C y1 x0 A B
  go_wp2
  have M := (mut4 w1 (lo := w.heap.size) (hi := w.heap.size + 3) (b := w.heap.size + 1 + 1) (by omega) (by omega) (.slice a1 n c1) (.int .i64 a) (.int .i64 b) (.int .i64 c)).trans
    (mut4 _ (lo := w.heap.size) (hi := w.heap.size + 3) (b := w.heap.size + 1) (by omega) (by omega) (.slice a1 n c1) (.int .i64 a) (.int .i64 b) (.int .i64 c))
  exact bodyPost_ret (v := .agg #[.slice a1 n c1, .int .i64 a, .int .i64 b, .int .i64 c]) (by simp [results, Try.results51, go_sem, A0, A1, A2, A3]) rfl (gives_of _ ⟨_, rfl, (o1.mut M (Or.inr (Nat.le_refl _))).mono (by omega) (M.size)⟩ (M.ext x1 (Nat.le_refl _)))
/-- Two interests are one. -/
def ew (xs ys : List ByteArray) (a b c a' b' c' : Int) : Bool := decide (xs = ys) && (a == a') && (b == b') && (c == c')
set_option maxHeartbeats 1000000 in
theorem eqInterest_c {w : World} {lo hi lo' hi' n m : Nat} {v v' : Value} {xs ys : List ByteArray} {a b c a' b' c' : Int} (h : RdW w lo hi v n (xs.map sv) a b c) (h' : RdW w lo' hi' v' m (ys.map sv) a' b' c') :
    Calls Try.prog 53 #[v, v'] w (Gives w fun r _ => r = .bool (ew xs ys a b c a' b' c')) := by
  obtain ⟨s, rfl, h⟩ := h
  obtain ⟨s', rfl, h'⟩ := h'
  obtain ⟨W, hW⟩ : ∃ W, W = (w.alloc (.cells #[s, .int .i64 a, .int .i64 b, .int .i64 c] 60)).alloc (.cells #[s', .int .i64 a', .int .i64 b', .int .i64 c'] 60) := ⟨_, rfl⟩
  have x0 : Below w.heap.size w W := by rw [hW]; exact ext_alloc (ext_alloc (ext_refl w) _) _
  have C := hid (eqName_c ⟨s, rfl, h.ext x0⟩ ⟨s', rfl, h'.ext x0⟩)
  have p1 : W.cell? ⟨w.heap.size, 1, none⟩ = some (.int .i64 a) := by rw [hW]; exact cell_ext (new_cell w _ _ 1 _ rfl) (ext_alloc (ext_refl _) _)
  have p2 : W.cell? ⟨w.heap.size, 2, none⟩ = some (.int .i64 b) := by rw [hW]; exact cell_ext (new_cell w _ _ 2 _ rfl) (ext_alloc (ext_refl _) _)
  have p3 : W.cell? ⟨w.heap.size, 3, none⟩ = some (.int .i64 c) := by rw [hW]; exact cell_ext (new_cell w _ _ 3 _ rfl) (ext_alloc (ext_refl _) _)
  have q1 : W.cell? ⟨w.heap.size + 1, 1, none⟩ = some (.int .i64 a') := by rw [hW]; simp
  have q2 : W.cell? ⟨w.heap.size + 1, 2, none⟩ = some (.int .i64 b') := by rw [hW]; simp
  have q3 : W.cell? ⟨w.heap.size + 1, 3, none⟩ = some (.int .i64 c') := by rw [hW]; simp
  have HV : Hid (ew xs ys a b c a' b' c' = (decide (xs = ys) && (a == a') && (b == b') && (c == c'))) := rfl
  generalize decide (xs = ys) = e0 at C HV
  clear h h'
  go_enter Try.func53, Try.ntmps53
  go_wp2_with fail
  rw [← hW]
  clear hW
  refine C.out.mono ?_
  rintro e w1 ⟨_, rfl, rfl, y1⟩
  have x := ext_trans x0 y1
  replace p1 := cell_ext p1 y1
  replace p2 := cell_ext p2 y1
  replace p3 := cell_ext p3 y1
  replace q1 := cell_ext q1 y1
  replace q2 := cell_ext q2 y1
  replace q3 := cell_ext q3 y1
  clear C y1 x0
  cases e0
  · go_wp2
    go_ret
    exact gives_bool (by rw [HV.out]; rfl) x
  have HA := hid (show ew xs ys a b c a' b' c' = ((a == a') && (b == b') && (c == c')) by rw [HV.out]; rfl)
  clear HV
  by_cases ha : a = a'
  · by_cases hb : b = b'
    · by_cases hc : c = c'
      · have ea : (a == a') = true := by simp [ha]
        have eb : (b == b') = true := by simp [hb]
        have ec : (c == c') = true := by simp [hc]
        have na : (a != a') = false := by simp [ha]
        have nb : (b != b') = false := by simp [hb]
        have nc : (c != c') = false := by simp [hc]
        have HB := hid (show ew xs ys a b c a' b' c' = true by rw [HA.out, ea, eb, ec]; rfl)
        clear HA ha hb hc
        go_wp2
        go_ret
        exact gives_bool HB.out.symm x
      · have ea : (a == a') = true := by simp [ha]
        have eb : (b == b') = true := by simp [hb]
        have ec : (c == c') = false := by simp [hc]
        have na : (a != a') = false := by simp [ha]
        have nb : (b != b') = false := by simp [hb]
        have nc : (c != c') = true := by simp [hc]
        have HB := hid (show ew xs ys a b c a' b' c' = false by rw [HA.out, ea, eb, ec]; rfl)
        clear HA ha hb hc
        go_wp2
        go_ret
        exact gives_bool HB.out.symm x
    · have ea : (a == a') = true := by simp [ha]
      have eb : (b == b') = false := by simp [hb]
      have na : (a != a') = false := by simp [ha]
      have nb : (b != b') = true := by simp [hb]
      have HB := hid (show ew xs ys a b c a' b' c' = false by rw [HA.out, ea, eb]; rfl)
      clear HA ha hb
      go_wp2
      go_ret
      exact gives_bool HB.out.symm x
  · have ea : (a == a') = false := by simp [ha]
    have na : (a != a') = true := by simp [ha]
    have HB := hid (show ew xs ys a b c a' b' c' = false by rw [HA.out, ea]; rfl)
    clear HA ha
    go_wp2
    go_ret
    exact gives_bool HB.out.symm x
set_option maxHeartbeats 1000000 in
theorem specEqualInterests_c {w : World} {lo hi lo' hi' n m : Nat} {v v' : Value} {xs ys : List ByteArray} {a b c a' b' c' : Int} (h : RdW w lo hi v n (xs.map sv) a b c) (h' : RdW w lo' hi' v' m (ys.map sv) a' b' c') :
    Calls Try.prog 50 #[v, v'] w (Gives w fun r _ => r = .bool (ew xs ys a b c a' b' c')) := by
  obtain ⟨s, rfl, h⟩ := h
  obtain ⟨s', rfl, h'⟩ := h'
  obtain ⟨W, hW⟩ : ∃ W, W = (w.alloc (.cells #[s, .int .i64 a, .int .i64 b, .int .i64 c] 60)).alloc (.cells #[s', .int .i64 a', .int .i64 b', .int .i64 c'] 60) := ⟨_, rfl⟩
  have x0 : Below w.heap.size w W := by rw [hW]; exact ext_alloc (ext_alloc (ext_refl w) _) _
  have C := hid (specEqualNames_c ⟨s, rfl, h.ext x0⟩ ⟨s', rfl, h'.ext x0⟩)
  have p1 : W.cell? ⟨w.heap.size, 1, none⟩ = some (.int .i64 a) := by rw [hW]; exact cell_ext (new_cell w _ _ 1 _ rfl) (ext_alloc (ext_refl _) _)
  have p2 : W.cell? ⟨w.heap.size, 2, none⟩ = some (.int .i64 b) := by rw [hW]; exact cell_ext (new_cell w _ _ 2 _ rfl) (ext_alloc (ext_refl _) _)
  have p3 : W.cell? ⟨w.heap.size, 3, none⟩ = some (.int .i64 c) := by rw [hW]; exact cell_ext (new_cell w _ _ 3 _ rfl) (ext_alloc (ext_refl _) _)
  have q1 : W.cell? ⟨w.heap.size + 1, 1, none⟩ = some (.int .i64 a') := by rw [hW]; simp
  have q2 : W.cell? ⟨w.heap.size + 1, 2, none⟩ = some (.int .i64 b') := by rw [hW]; simp
  have q3 : W.cell? ⟨w.heap.size + 1, 3, none⟩ = some (.int .i64 c') := by rw [hW]; simp
  have HV : Hid (ew xs ys a b c a' b' c' = (decide (xs = ys) && (a == a') && (b == b') && (c == c'))) := rfl
  generalize decide (xs = ys) = e0 at C HV
  clear h h'
  go_enter Try.func50, Try.ntmps50
  go_wp2_with fail
  rw [← hW]
  clear hW
  refine C.out.mono ?_
  rintro e w1 ⟨_, rfl, rfl, y1⟩
  have x := ext_trans x0 y1
  replace p1 := cell_ext p1 y1
  replace p2 := cell_ext p2 y1
  replace p3 := cell_ext p3 y1
  replace q1 := cell_ext q1 y1
  replace q2 := cell_ext q2 y1
  replace q3 := cell_ext q3 y1
  clear C y1 x0
  cases e0
  · go_wp2
    go_ret
    exact gives_bool (by rw [HV.out]; rfl) x
  have HA := hid (show ew xs ys a b c a' b' c' = ((a == a') && (b == b') && (c == c')) by rw [HV.out]; rfl)
  clear HV
  by_cases ha : a = a'
  · by_cases hb : b = b'
    · by_cases hc : c = c'
      · have ea : (a == a') = true := by simp [ha]
        have eb : (b == b') = true := by simp [hb]
        have ec : (c == c') = true := by simp [hc]
        have na : (a != a') = false := by simp [ha]
        have nb : (b != b') = false := by simp [hb]
        have nc : (c != c') = false := by simp [hc]
        have HB := hid (show ew xs ys a b c a' b' c' = true by rw [HA.out, ea, eb, ec]; rfl)
        clear HA ha hb hc
        go_wp2
        go_ret
        exact gives_bool HB.out.symm x
      · have ea : (a == a') = true := by simp [ha]
        have eb : (b == b') = true := by simp [hb]
        have ec : (c == c') = false := by simp [hc]
        have na : (a != a') = false := by simp [ha]
        have nb : (b != b') = false := by simp [hb]
        have nc : (c != c') = true := by simp [hc]
        have HB := hid (show ew xs ys a b c a' b' c' = false by rw [HA.out, ea, eb, ec]; rfl)
        clear HA ha hb hc
        go_wp2
        go_ret
        exact gives_bool HB.out.symm x
    · have ea : (a == a') = true := by simp [ha]
      have eb : (b == b') = false := by simp [hb]
      have na : (a != a') = false := by simp [ha]
      have nb : (b != b') = true := by simp [hb]
      have HB := hid (show ew xs ys a b c a' b' c' = false by rw [HA.out, ea, eb]; rfl)
      clear HA ha hb
      go_wp2
      go_ret
      exact gives_bool HB.out.symm x
  · have ea : (a == a') = false := by simp [ha]
    have na : (a != a') = true := by simp [ha]
    have HB := hid (show ew xs ys a b c a' b' c' = false by rw [HA.out, ea]; rfl)
    clear HA ha
    go_wp2
    go_ret
    exact gives_bool HB.out.symm x
set_option maxHeartbeats 1000000 in
theorem implEqualInterests_c {w : World} {lo hi lo' hi' n m : Nat} {v v' : Value} {xs ys : List ByteArray} {a b c a' b' c' : Int} (h : RdW w lo hi v n (xs.map sv) a b c) (h' : RdW w lo' hi' v' m (ys.map sv) a' b' c') :
    Calls Try.prog 52 #[v, v'] w (Gives w fun r _ => r = .bool (ew xs ys a b c a' b' c')) := by
  obtain ⟨s, rfl, h⟩ := h
  obtain ⟨s', rfl, h'⟩ := h'
  obtain ⟨W, hW⟩ : ∃ W, W = (w.alloc (.cells #[s, .int .i64 a, .int .i64 b, .int .i64 c] 60)).alloc (.cells #[s', .int .i64 a', .int .i64 b', .int .i64 c'] 60) := ⟨_, rfl⟩
  have x0 : Below w.heap.size w W := by rw [hW]; exact ext_alloc (ext_alloc (ext_refl w) _) _
  have C := hid (implEqualNames_c ⟨s, rfl, h.ext x0⟩ ⟨s', rfl, h'.ext x0⟩)
  have p1 : W.cell? ⟨w.heap.size, 1, none⟩ = some (.int .i64 a) := by rw [hW]; exact cell_ext (new_cell w _ _ 1 _ rfl) (ext_alloc (ext_refl _) _)
  have p2 : W.cell? ⟨w.heap.size, 2, none⟩ = some (.int .i64 b) := by rw [hW]; exact cell_ext (new_cell w _ _ 2 _ rfl) (ext_alloc (ext_refl _) _)
  have p3 : W.cell? ⟨w.heap.size, 3, none⟩ = some (.int .i64 c) := by rw [hW]; exact cell_ext (new_cell w _ _ 3 _ rfl) (ext_alloc (ext_refl _) _)
  have q1 : W.cell? ⟨w.heap.size + 1, 1, none⟩ = some (.int .i64 a') := by rw [hW]; simp
  have q2 : W.cell? ⟨w.heap.size + 1, 2, none⟩ = some (.int .i64 b') := by rw [hW]; simp
  have q3 : W.cell? ⟨w.heap.size + 1, 3, none⟩ = some (.int .i64 c') := by rw [hW]; simp
  have HV : Hid (ew xs ys a b c a' b' c' = (decide (xs = ys) && (a == a') && (b == b') && (c == c'))) := rfl
  generalize decide (xs = ys) = e0 at C HV
  clear h h'
  go_enter Try.func52, Try.ntmps52
  go_wp2_with fail
  rw [← hW]
  clear hW
  refine C.out.mono ?_
  rintro e w1 ⟨_, rfl, rfl, y1⟩
  have x := ext_trans x0 y1
  replace p1 := cell_ext p1 y1
  replace p2 := cell_ext p2 y1
  replace p3 := cell_ext p3 y1
  replace q1 := cell_ext q1 y1
  replace q2 := cell_ext q2 y1
  replace q3 := cell_ext q3 y1
  clear C y1 x0
  cases e0
  · go_wp2
    go_ret
    exact gives_bool (by rw [HV.out]; rfl) x
  have HA := hid (show ew xs ys a b c a' b' c' = ((a == a') && (b == b') && (c == c')) by rw [HV.out]; rfl)
  clear HV
  by_cases ha : a = a'
  · by_cases hb : b = b'
    · by_cases hc : c = c'
      · have ea : (a == a') = true := by simp [ha]
        have eb : (b == b') = true := by simp [hb]
        have ec : (c == c') = true := by simp [hc]
        have na : (a != a') = false := by simp [ha]
        have nb : (b != b') = false := by simp [hb]
        have nc : (c != c') = false := by simp [hc]
        have HB := hid (show ew xs ys a b c a' b' c' = true by rw [HA.out, ea, eb, ec]; rfl)
        clear HA ha hb hc
        go_wp2
        go_ret
        exact gives_bool HB.out.symm x
      · have ea : (a == a') = true := by simp [ha]
        have eb : (b == b') = true := by simp [hb]
        have ec : (c == c') = false := by simp [hc]
        have na : (a != a') = false := by simp [ha]
        have nb : (b != b') = false := by simp [hb]
        have nc : (c != c') = true := by simp [hc]
        have HB := hid (show ew xs ys a b c a' b' c' = false by rw [HA.out, ea, eb, ec]; rfl)
        clear HA ha hb hc
        go_wp2
        go_ret
        exact gives_bool HB.out.symm x
    · have ea : (a == a') = true := by simp [ha]
      have eb : (b == b') = false := by simp [hb]
      have na : (a != a') = false := by simp [ha]
      have nb : (b != b') = true := by simp [hb]
      have HB := hid (show ew xs ys a b c a' b' c' = false by rw [HA.out, ea, eb]; rfl)
      clear HA ha hb
      go_wp2
      go_ret
      exact gives_bool HB.out.symm x
  · have ea : (a == a') = false := by simp [ha]
    have na : (a != a') = true := by simp [ha]
    have HB := hid (show ew xs ys a b c a' b' c' = false by rw [HA.out, ea]; rfl)
    clear HA ha
    go_wp2
    go_ret
    exact gives_bool HB.out.symm x
theorem markInterest_c {w : World} {lo hi n : Nat} {v : Value} {cs : List Value} {a b c : Int} (h : OwnW w lo hi v n cs a b c) {k0 : Nat} (h1 : 0 < k0) (h2 : k0 ≤ 100000000000) (hn : n ≤ 100000000000) :
    Calls Try.prog 58 #[v, .int .i64 k0] w fun e w' => e = .returned (.int .i64 ((k0 + n : Nat) : Int)) ∧ OwnW w' lo hi v n (marksString k0 n) a b c ∧ Mut lo hi w w' := by
  obtain ⟨s, rfl, h⟩ := h
  have x0 : Below w.heap.size w (w.alloc (.cells #[s, .int .i64 a, .int .i64 b, .int .i64 c] 60)) := ext_alloc (ext_refl w) _
  have C := hid (markName_c ⟨s, rfl, h.ext x0⟩ h1 h2 hn)
  clear h
  go_enter Try.func58, Try.ntmps58
  go_wp2_with fail
  refine C.out.mono ?_
  rintro e w1 ⟨rfl, ⟨s', e', o1⟩, m1⟩
  have hs : s = s' := by simpa using e'
  subst hs
  have m := (Mut.of_ext (lo := lo) (hi := hi) x0).trans m1
  clear C m1 x0 e'
  go_wp2
  go_ret
  exact ⟨rfl, ⟨s, rfl, o1⟩, m⟩
theorem heldInterest_c {w : World} {lo hi n : Nat} {v : Value} {a b c : Int} {k0 : Nat} (h : RdW w lo hi v n (marksString k0 n) a b c) (h1 : 0 < k0) (h2 : k0 ≤ 100000000000) (hn : n ≤ 100000000000) :
    Calls Try.prog 59 #[v, .int .i64 k0] w (Gives w fun r _ => r = .int .i64 ((k0 + n : Nat) : Int)) := by
  obtain ⟨s, rfl, h⟩ := h
  have x0 : Below w.heap.size w (w.alloc (.cells #[s, .int .i64 a, .int .i64 b, .int .i64 c] 60)) := ext_alloc (ext_refl w) _
  have C := hid (heldName_c ⟨s, rfl, h.ext x0⟩ h1 h2 hn)
  clear h
  go_enter Try.func59, Try.ntmps59
  go_wp2_with fail
  refine C.out.mono ?_
  rintro e w1 ⟨_, rfl, rfl, y1⟩
  have x := ext_trans x0 y1
  clear C y1 x0
  go_wp2
  go_ret
  exact gives_int rfl x
/-- An interest is valid. -/
def vw (xs : List ByteArray) (a b c : Int) : Bool := vn xs && decide (0 < xs.length) && decide (0 ≤ a ∧ a ≤ 1000000) && decide (0 ≤ b ∧ b ≤ 16) && decide (1 ≤ c ∧ c ≤ 20)
set_option maxHeartbeats 1000000 in
theorem specValidInterest_c {w : World} {lo hi n : Nat} {v : Value} {xs : List ByteArray} {a b c : Int} (h : RdW w lo hi v n (xs.map sv) a b c) (hs : ∀ s ∈ xs, s.size ≤ 9223372036854775807) :
    Calls Try.prog 54 #[v] w (Gives w fun r _ => r = .bool (vw xs a b c)) := by
  obtain ⟨s, rfl, h⟩ := h
  obtain ⟨p, cap, rfl, _⟩ := h.form
  have hlx : xs.length = n := by have := h.1; simpa using this
  obtain ⟨W, hW⟩ : ∃ W, W = w.alloc (.cells #[.slice p n cap, .int .i64 a, .int .i64 b, .int .i64 c] 60) := ⟨_, rfl⟩
  have x0 : Below w.heap.size w W := by rw [hW]; exact ext_alloc (ext_refl w) _
  have C := hid (specValidName_c ⟨_, rfl, h.ext x0⟩ hs)
  have p0 : W.cell? ⟨w.heap.size, 0, none⟩ = some (.slice p n cap) := by rw [hW]; exact new_cell w _ _ 0 _ rfl
  have p1 : W.cell? ⟨w.heap.size, 1, none⟩ = some (.int .i64 a) := by rw [hW]; exact new_cell w _ _ 1 _ rfl
  have p2 : W.cell? ⟨w.heap.size, 2, none⟩ = some (.int .i64 b) := by rw [hW]; exact new_cell w _ _ 2 _ rfl
  have p3 : W.cell? ⟨w.heap.size, 3, none⟩ = some (.int .i64 c) := by rw [hW]; exact new_cell w _ _ 3 _ rfl
  have HV : Hid (vw xs a b c = (vn xs && decide (0 < n) && decide (0 ≤ a ∧ a ≤ 1000000) && decide (0 ≤ b ∧ b ≤ 16) && decide (1 ≤ c ∧ c ≤ 20))) := by rw [Hid, vw, hlx]
  generalize vn xs = e0 at C HV
  clear h hs hlx
  go_enter Try.func54, Try.ntmps54
  go_wp2_with fail
  rw [← hW]
  clear hW
  refine C.out.mono ?_
  rintro e w1 ⟨_, rfl, rfl, y1⟩
  have x := ext_trans x0 y1
  replace p0 := cell_ext p0 y1
  replace p1 := cell_ext p1 y1
  replace p2 := cell_ext p2 y1
  replace p3 := cell_ext p3 y1
  clear C y1 x0
  cases e0
  · go_wp2
    go_ret
    exact gives_bool (by rw [HV.out]; rfl) x
  by_cases hn : 0 < n
  · have hn1 : (0 : Int) < (n : Int) := by omega
    cases r0 : decide (0 ≤ a ∧ a ≤ 1000000)
    · have H0 := hid r0
      clear r0
      go_wp2_with fail
      refine (specIn_c false H0.out).mono ?_
      rintro e w' ⟨rfl, rfl⟩
      go_wp2
      go_ret
      exact gives_bool (by rw [HV.out, decide_eq_true hn, H0.out]; simp) x
    · have H0 := hid r0
      clear r0
      go_wp2_with fail
      refine (specIn_c true H0.out).mono ?_
      rintro e w' ⟨rfl, rfl⟩
      cases r1 : decide (0 ≤ b ∧ b ≤ 16)
      · have H1 := hid r1
        clear r1
        go_wp2_with fail
        refine (specIn_c false H1.out).mono ?_
        rintro e w' ⟨rfl, rfl⟩
        go_wp2
        go_ret
        exact gives_bool (by rw [HV.out, decide_eq_true hn, H0.out, H1.out]; simp) x
      · have H1 := hid r1
        clear r1
        go_wp2_with fail
        refine (specIn_c true H1.out).mono ?_
        rintro e w' ⟨rfl, rfl⟩
        cases r2 : decide (1 ≤ c ∧ c ≤ 20)
        · have H2 := hid r2
          clear r2
          go_wp2_with fail
          refine (specIn_c false H2.out).mono ?_
          rintro e w' ⟨rfl, rfl⟩
          go_wp2
          go_ret
          exact gives_bool (by rw [HV.out, decide_eq_true hn, H0.out, H1.out, H2.out]; simp) x
        · have H2 := hid r2
          clear r2
          go_wp2_with fail
          refine (specIn_c true H2.out).mono ?_
          rintro e w' ⟨rfl, rfl⟩
          go_wp2
          go_ret
          exact gives_bool (by rw [HV.out, decide_eq_true hn, H0.out, H1.out, H2.out]; simp) x
  · have hn0 : decide ((0 : Int) < (n : Int)) = false := decide_eq_false (by omega)
    have hn2 : decide (0 < n) = false := decide_eq_false hn
    go_wp2
    go_ret
    exact gives_bool (by rw [HV.out, hn2]; rfl) x
set_option maxHeartbeats 1000000 in
theorem implValidInterest_c {w : World} {lo hi n : Nat} {v : Value} {xs : List ByteArray} {a b c : Int} (h : RdW w lo hi v n (xs.map sv) a b c) (hs : ∀ s ∈ xs, s.size ≤ 9223372036854775807) :
    Calls Try.prog 55 #[v] w (Gives w fun r _ => r = .bool (vw xs a b c)) := by
  obtain ⟨s, rfl, h⟩ := h
  obtain ⟨p, cap, rfl, _⟩ := h.form
  have hlx : xs.length = n := by have := h.1; simpa using this
  obtain ⟨W, hW⟩ : ∃ W, W = w.alloc (.cells #[.slice p n cap, .int .i64 a, .int .i64 b, .int .i64 c] 60) := ⟨_, rfl⟩
  have x0 : Below w.heap.size w W := by rw [hW]; exact ext_alloc (ext_refl w) _
  have C := hid (implValidName_c ⟨_, rfl, h.ext x0⟩ hs)
  have p0 : W.cell? ⟨w.heap.size, 0, none⟩ = some (.slice p n cap) := by rw [hW]; exact new_cell w _ _ 0 _ rfl
  have p1 : W.cell? ⟨w.heap.size, 1, none⟩ = some (.int .i64 a) := by rw [hW]; exact new_cell w _ _ 1 _ rfl
  have p2 : W.cell? ⟨w.heap.size, 2, none⟩ = some (.int .i64 b) := by rw [hW]; exact new_cell w _ _ 2 _ rfl
  have p3 : W.cell? ⟨w.heap.size, 3, none⟩ = some (.int .i64 c) := by rw [hW]; exact new_cell w _ _ 3 _ rfl
  have HV : Hid (vw xs a b c = (vn xs && decide (0 < n) && decide (0 ≤ a ∧ a ≤ 1000000) && decide (0 ≤ b ∧ b ≤ 16) && decide (1 ≤ c ∧ c ≤ 20))) := by rw [Hid, vw, hlx]
  generalize vn xs = e0 at C HV
  clear h hs hlx
  go_enter Try.func55, Try.ntmps55
  go_wp2_with fail
  rw [← hW]
  clear hW
  refine C.out.mono ?_
  rintro e w1 ⟨_, rfl, rfl, y1⟩
  have x := ext_trans x0 y1
  replace p0 := cell_ext p0 y1
  replace p1 := cell_ext p1 y1
  replace p2 := cell_ext p2 y1
  replace p3 := cell_ext p3 y1
  clear C y1 x0
  cases e0
  · go_wp2
    go_ret
    exact gives_bool (by rw [HV.out]; rfl) x
  by_cases hn : 0 < n
  · have hn1 : (0 : Int) < (n : Int) := by omega
    cases r0 : decide (0 ≤ a ∧ a ≤ 1000000)
    · have H0 := hid r0
      clear r0
      go_wp2_with fail
      refine (implIn_c false H0.out).mono ?_
      rintro e w' ⟨rfl, rfl⟩
      go_wp2
      go_ret
      exact gives_bool (by rw [HV.out, decide_eq_true hn, H0.out]; simp) x
    · have H0 := hid r0
      clear r0
      go_wp2_with fail
      refine (implIn_c true H0.out).mono ?_
      rintro e w' ⟨rfl, rfl⟩
      cases r1 : decide (0 ≤ b ∧ b ≤ 16)
      · have H1 := hid r1
        clear r1
        go_wp2_with fail
        refine (implIn_c false H1.out).mono ?_
        rintro e w' ⟨rfl, rfl⟩
        go_wp2
        go_ret
        exact gives_bool (by rw [HV.out, decide_eq_true hn, H0.out, H1.out]; simp) x
      · have H1 := hid r1
        clear r1
        go_wp2_with fail
        refine (implIn_c true H1.out).mono ?_
        rintro e w' ⟨rfl, rfl⟩
        cases r2 : decide (1 ≤ c ∧ c ≤ 20)
        · have H2 := hid r2
          clear r2
          go_wp2_with fail
          refine (implIn_c false H2.out).mono ?_
          rintro e w' ⟨rfl, rfl⟩
          go_wp2
          go_ret
          exact gives_bool (by rw [HV.out, decide_eq_true hn, H0.out, H1.out, H2.out]; simp) x
        · have H2 := hid r2
          clear r2
          go_wp2_with fail
          refine (implIn_c true H2.out).mono ?_
          rintro e w' ⟨rfl, rfl⟩
          go_wp2
          go_ret
          exact gives_bool (by rw [HV.out, decide_eq_true hn, H0.out, H1.out, H2.out]; simp) x
  · have hn0 : decide ((0 : Int) < (n : Int)) = false := decide_eq_false (by omega)
    have hn2 : decide (0 < n) = false := decide_eq_false hn
    go_wp2
    go_ret
    exact gives_bool (by rw [HV.out, hn2]; rfl) x
/-- One hop less. -/
def dhB (b : Int) : Int := if b < 1 then b else b - 1
def DhPost (base n : Nat) (cs : List Value) (a b c : Int) (r : Value) (w' : World) : Prop := ∃ v, r = .tuple #[v, .bool (decide (1 ≤ b))] ∧ OwnW w' base w'.heap.size v n cs a (dhB b) c
set_option maxRecDepth 100000 in
set_option maxHeartbeats 1000000 in
theorem l7Copy_c {w : World} {lo hi n : Nat} {v : Value} {xs : List ByteArray} {a b c : Int} (h : RdW w lo hi v n (xs.map sv) a b c) (hn : n ≤ 8796093022207) :
    Calls Try.prog 96 #[v] w (Gives w fun r w' => OwnW w' w.heap.size w'.heap.size r n (xs.map sv) a b c) := by
  obtain ⟨s, rfl, h⟩ := h
  obtain ⟨p, cap, rfl, _⟩ := h.form
  obtain ⟨W, hW⟩ : ∃ W, W = (((w.alloc (.cells #[.slice p n cap, .int .i64 a, .int .i64 b, .int .i64 c] 60)).alloc (.cells #[.slice none 0 0, .int .i64 0, .int .i64 0, .int .i64 0] 60)).alloc (.cells #[.slice p n cap, .int .i64 a, .int .i64 b, .int .i64 c] 60)) := ⟨_, rfl⟩
  have x0 : Below w.heap.size w W := by rw [hW]; exact (ext_alloc (ext_alloc (ext_alloc (ext_refl w) _) _) _)
  have hWs : W.heap.size = w.heap.size + 3 := by rw [hW]; simp
  have C := hid (l4Copy_c ⟨_, rfl, h.ext x0⟩ (by omega))
  have A0 : Cell1 W ⟨w.heap.size + 1, 0, none⟩ (.slice none 0 0) := by rw [hW]; simpa using ((Cell1.newAt (w.alloc (.cells #[.slice p n cap, .int .i64 a, .int .i64 b, .int .i64 c] 60)) #[.slice none 0 0, .int .i64 0, .int .i64 0, .int .i64 0] 60 0 (.slice none 0 0) rfl).ext (ext_alloc (ext_refl _) (.cells #[.slice p n cap, .int .i64 a, .int .i64 b, .int .i64 c] 60)))
  have A1 : Cell1 W ⟨w.heap.size + 1, 1, none⟩ (.int .i64 0) := by rw [hW]; simpa using ((Cell1.newAt (w.alloc (.cells #[.slice p n cap, .int .i64 a, .int .i64 b, .int .i64 c] 60)) #[.slice none 0 0, .int .i64 0, .int .i64 0, .int .i64 0] 60 1 (.int .i64 0) rfl).ext (ext_alloc (ext_refl _) (.cells #[.slice p n cap, .int .i64 a, .int .i64 b, .int .i64 c] 60)))
  have A2 : Cell1 W ⟨w.heap.size + 1, 2, none⟩ (.int .i64 0) := by rw [hW]; simpa using ((Cell1.newAt (w.alloc (.cells #[.slice p n cap, .int .i64 a, .int .i64 b, .int .i64 c] 60)) #[.slice none 0 0, .int .i64 0, .int .i64 0, .int .i64 0] 60 2 (.int .i64 0) rfl).ext (ext_alloc (ext_refl _) (.cells #[.slice p n cap, .int .i64 a, .int .i64 b, .int .i64 c] 60)))
  have A3 : Cell1 W ⟨w.heap.size + 1, 3, none⟩ (.int .i64 0) := by rw [hW]; simpa using ((Cell1.newAt (w.alloc (.cells #[.slice p n cap, .int .i64 a, .int .i64 b, .int .i64 c] 60)) #[.slice none 0 0, .int .i64 0, .int .i64 0, .int .i64 0] 60 3 (.int .i64 0) rfl).ext (ext_alloc (ext_refl _) (.cells #[.slice p n cap, .int .i64 a, .int .i64 b, .int .i64 c] 60)))
  have B0 : Cell1 W ⟨w.heap.size + 2, 0, none⟩ (.slice p n cap) := by rw [hW]; simpa using (Cell1.newAt ((w.alloc (.cells #[.slice p n cap, .int .i64 a, .int .i64 b, .int .i64 c] 60)).alloc (.cells #[.slice none 0 0, .int .i64 0, .int .i64 0, .int .i64 0] 60)) #[.slice p n cap, .int .i64 a, .int .i64 b, .int .i64 c] 60 0 (.slice p n cap) rfl)
  have B1 : Cell1 W ⟨w.heap.size + 2, 1, none⟩ (.int .i64 a) := by rw [hW]; simpa using (Cell1.newAt ((w.alloc (.cells #[.slice p n cap, .int .i64 a, .int .i64 b, .int .i64 c] 60)).alloc (.cells #[.slice none 0 0, .int .i64 0, .int .i64 0, .int .i64 0] 60)) #[.slice p n cap, .int .i64 a, .int .i64 b, .int .i64 c] 60 1 (.int .i64 a) rfl)
  have B2 : Cell1 W ⟨w.heap.size + 2, 2, none⟩ (.int .i64 b) := by rw [hW]; simpa using (Cell1.newAt ((w.alloc (.cells #[.slice p n cap, .int .i64 a, .int .i64 b, .int .i64 c] 60)).alloc (.cells #[.slice none 0 0, .int .i64 0, .int .i64 0, .int .i64 0] 60)) #[.slice p n cap, .int .i64 a, .int .i64 b, .int .i64 c] 60 2 (.int .i64 b) rfl)
  have B3 : Cell1 W ⟨w.heap.size + 2, 3, none⟩ (.int .i64 c) := by rw [hW]; simpa using (Cell1.newAt ((w.alloc (.cells #[.slice p n cap, .int .i64 a, .int .i64 b, .int .i64 c] 60)).alloc (.cells #[.slice none 0 0, .int .i64 0, .int .i64 0, .int .i64 0] 60)) #[.slice p n cap, .int .i64 a, .int .i64 b, .int .i64 c] 60 3 (.int .i64 c) rfl)
  clear h
  go_enter Try.func96, Try.ntmps96
  go_wp2_with fail
  rw [← hW]
  clear hW
  refine C.out.mono ?_
  rintro e w1 ⟨_, rfl, ⟨v1, rfl, o1⟩, y1⟩
  have s1 := y1.size
  rw [hWs] at s1 o1
  have x1 := ext_trans x0 y1
  obtain ⟨A0, Af0⟩ := A0.ext y1
  obtain ⟨A1, Af1⟩ := A1.ext y1
  obtain ⟨A2, Af2⟩ := A2.ext y1
  obtain ⟨A3, Af3⟩ := A3.ext y1
  obtain ⟨B0, Bf0⟩ := B0.ext y1
  obtain ⟨B1, Bf1⟩ := B1.ext y1
  obtain ⟨B2, Bf2⟩ := B2.ext y1
  obtain ⟨B3, Bf3⟩ := B3.ext y1
  obtain ⟨a1, c1, rfl, _⟩ := o1.rd.form
  clear C y1 x0
  go_wp2
  have M := (Mut.setCell w1 (lo := w.heap.size) (hi := w.heap.size + 3) (p := ⟨w.heap.size + 1 + 1, 0, none⟩) (by simp only; omega) (by simp only; omega) (.slice a1 n c1)).trans
    (mut4 _ (lo := w.heap.size) (hi := w.heap.size + 3) (b := w.heap.size + 1) (by omega) (by omega) (.slice a1 n c1) (.int .i64 a) (.int .i64 b) (.int .i64 c))
  exact bodyPost_ret (v := .agg #[.slice a1 n c1, .int .i64 a, .int .i64 b, .int .i64 c]) (by simp [results, Try.results96, go_sem, A0, A1, A2, A3]) rfl (gives_of _ ⟨_, rfl, (o1.mut M (Or.inr (Nat.le_refl _))).mono (by omega) (M.size)⟩ (M.ext x1 (Nat.le_refl _)))
set_option maxRecDepth 100000 in
set_option maxHeartbeats 1000000 in
theorem copyInterest_c {w : World} {lo hi n : Nat} {v : Value} {xs : List ByteArray} {a b c : Int} (h : RdW w lo hi v n (xs.map sv) a b c) (hn : n ≤ 8796093022207) :
    Calls Try.prog 97 #[v] w (Gives w fun r w' => OwnW w' w.heap.size w'.heap.size r n (xs.map sv) a b c) := by
  obtain ⟨s, rfl, h⟩ := h
  obtain ⟨p, cap, rfl, _⟩ := h.form
  obtain ⟨W, hW⟩ : ∃ W, W = ((w.alloc (.cells #[.slice p n cap, .int .i64 a, .int .i64 b, .int .i64 c] 60)).alloc (.cells #[.slice none 0 0, .int .i64 0, .int .i64 0, .int .i64 0] 60)) := ⟨_, rfl⟩
  have x0 : Below w.heap.size w W := by rw [hW]; exact (ext_alloc (ext_alloc (ext_refl w) _) _)
  have hWs : W.heap.size = w.heap.size + 2 := by rw [hW]; simp
  have C := hid (copyName_c ⟨_, rfl, h.ext x0⟩ (by omega))
  have A0 : Cell1 W ⟨w.heap.size + 1, 0, none⟩ (.slice none 0 0) := by rw [hW]; simpa using (Cell1.newAt (w.alloc (.cells #[.slice p n cap, .int .i64 a, .int .i64 b, .int .i64 c] 60)) #[.slice none 0 0, .int .i64 0, .int .i64 0, .int .i64 0] 60 0 (.slice none 0 0) rfl)
  have A1 : Cell1 W ⟨w.heap.size + 1, 1, none⟩ (.int .i64 0) := by rw [hW]; simpa using (Cell1.newAt (w.alloc (.cells #[.slice p n cap, .int .i64 a, .int .i64 b, .int .i64 c] 60)) #[.slice none 0 0, .int .i64 0, .int .i64 0, .int .i64 0] 60 1 (.int .i64 0) rfl)
  have A2 : Cell1 W ⟨w.heap.size + 1, 2, none⟩ (.int .i64 0) := by rw [hW]; simpa using (Cell1.newAt (w.alloc (.cells #[.slice p n cap, .int .i64 a, .int .i64 b, .int .i64 c] 60)) #[.slice none 0 0, .int .i64 0, .int .i64 0, .int .i64 0] 60 2 (.int .i64 0) rfl)
  have A3 : Cell1 W ⟨w.heap.size + 1, 3, none⟩ (.int .i64 0) := by rw [hW]; simpa using (Cell1.newAt (w.alloc (.cells #[.slice p n cap, .int .i64 a, .int .i64 b, .int .i64 c] 60)) #[.slice none 0 0, .int .i64 0, .int .i64 0, .int .i64 0] 60 3 (.int .i64 0) rfl)
  have B0 : Cell1 W ⟨w.heap.size, 0, none⟩ (.slice p n cap) := by rw [hW]; exact ((Cell1.newAt w #[.slice p n cap, .int .i64 a, .int .i64 b, .int .i64 c] 60 0 (.slice p n cap) rfl).ext (ext_alloc (ext_refl _) (.cells #[.slice none 0 0, .int .i64 0, .int .i64 0, .int .i64 0] 60)))
  have B1 : Cell1 W ⟨w.heap.size, 1, none⟩ (.int .i64 a) := by rw [hW]; exact ((Cell1.newAt w #[.slice p n cap, .int .i64 a, .int .i64 b, .int .i64 c] 60 1 (.int .i64 a) rfl).ext (ext_alloc (ext_refl _) (.cells #[.slice none 0 0, .int .i64 0, .int .i64 0, .int .i64 0] 60)))
  have B2 : Cell1 W ⟨w.heap.size, 2, none⟩ (.int .i64 b) := by rw [hW]; exact ((Cell1.newAt w #[.slice p n cap, .int .i64 a, .int .i64 b, .int .i64 c] 60 2 (.int .i64 b) rfl).ext (ext_alloc (ext_refl _) (.cells #[.slice none 0 0, .int .i64 0, .int .i64 0, .int .i64 0] 60)))
  have B3 : Cell1 W ⟨w.heap.size, 3, none⟩ (.int .i64 c) := by rw [hW]; exact ((Cell1.newAt w #[.slice p n cap, .int .i64 a, .int .i64 b, .int .i64 c] 60 3 (.int .i64 c) rfl).ext (ext_alloc (ext_refl _) (.cells #[.slice none 0 0, .int .i64 0, .int .i64 0, .int .i64 0] 60)))
  clear h
  go_enter Try.func97, Try.ntmps97
  go_wp2_with fail
  rw [← hW]
  clear hW
  refine C.out.mono ?_
  rintro e w1 ⟨_, rfl, ⟨v1, rfl, o1⟩, y1⟩
  have s1 := y1.size
  rw [hWs] at s1 o1
  have x1 := ext_trans x0 y1
  obtain ⟨A0, Af0⟩ := A0.ext y1
  obtain ⟨A1, Af1⟩ := A1.ext y1
  obtain ⟨A2, Af2⟩ := A2.ext y1
  obtain ⟨A3, Af3⟩ := A3.ext y1
  obtain ⟨B0, Bf0⟩ := B0.ext y1
  obtain ⟨B1, Bf1⟩ := B1.ext y1
  obtain ⟨B2, Bf2⟩ := B2.ext y1
  obtain ⟨B3, Bf3⟩ := B3.ext y1
  obtain ⟨a1, c1, rfl, _⟩ := o1.rd.form
  clear C y1 x0
  go_wp2
  have M := (Mut.setCell w1 (lo := w.heap.size) (hi := w.heap.size + 2) (p := ⟨w.heap.size, 0, none⟩) (by simp only; omega) (by simp only; omega) (.slice a1 n c1)).trans
    (mut4 _ (lo := w.heap.size) (hi := w.heap.size + 2) (b := w.heap.size + 1) (by omega) (by omega) (.slice a1 n c1) (.int .i64 a) (.int .i64 b) (.int .i64 c))
  exact bodyPost_ret (v := .agg #[.slice a1 n c1, .int .i64 a, .int .i64 b, .int .i64 c]) (by simp [results, Try.results97, go_sem, A0, A1, A2, A3]) rfl (gives_of _ ⟨_, rfl, (o1.mut M (Or.inr (Nat.le_refl _))).mono (by omega) (M.size)⟩ (M.ext x1 (Nat.le_refl _)))
set_option maxRecDepth 100000 in
set_option maxHeartbeats 1000000 in
theorem specDecrementHops_c {w : World} {lo hi n : Nat} {v : Value} {xs : List ByteArray} {a b c : Int} (h : RdW w lo hi v n (xs.map sv) a b c) (hn : n ≤ 8796093022207) (hb : b ≤ 9223372036854775807) :
    Calls Try.prog 56 #[v] w (Gives w (DhPost w.heap.size n (xs.map sv) a b c)) := by
  obtain ⟨s, rfl, h⟩ := h
  obtain ⟨p, cap, rfl, _⟩ := h.form
  obtain ⟨W, hW⟩ : ∃ W, W = (w.alloc (.cells #[.slice p n cap, .int .i64 a, .int .i64 b, .int .i64 c] 60)).alloc (.cells #[.slice none 0 0, .int .i64 0, .int .i64 0, .int .i64 0] 60) := ⟨_, rfl⟩
  have x0 : Below w.heap.size w W := by rw [hW]; exact ext_alloc (ext_alloc (ext_refl w) _) _
  have hWs : W.heap.size = w.heap.size + 2 := by rw [hW]; simp
  have C := hid (l7Copy_c (a := a) (b := b) (c := c) ⟨_, rfl, h.ext x0⟩ (by omega))
  have A0 : Cell1 W ⟨w.heap.size + 1, 0, none⟩ (.slice none 0 0) := by rw [hW]; simpa using (Cell1.newAt (w.alloc (.cells #[.slice p n cap, .int .i64 a, .int .i64 b, .int .i64 c] 60)) #[.slice none 0 0, .int .i64 0, .int .i64 0, .int .i64 0] 60 0 (.slice none 0 0) rfl)
  have A1 : Cell1 W ⟨w.heap.size + 1, 1, none⟩ (.int .i64 0) := by rw [hW]; simpa using (Cell1.newAt (w.alloc (.cells #[.slice p n cap, .int .i64 a, .int .i64 b, .int .i64 c] 60)) #[.slice none 0 0, .int .i64 0, .int .i64 0, .int .i64 0] 60 1 (.int .i64 0) rfl)
  have A2 : Cell1 W ⟨w.heap.size + 1, 2, none⟩ (.int .i64 0) := by rw [hW]; simpa using (Cell1.newAt (w.alloc (.cells #[.slice p n cap, .int .i64 a, .int .i64 b, .int .i64 c] 60)) #[.slice none 0 0, .int .i64 0, .int .i64 0, .int .i64 0] 60 2 (.int .i64 0) rfl)
  have A3 : Cell1 W ⟨w.heap.size + 1, 3, none⟩ (.int .i64 0) := by rw [hW]; simpa using (Cell1.newAt (w.alloc (.cells #[.slice p n cap, .int .i64 a, .int .i64 b, .int .i64 c] 60)) #[.slice none 0 0, .int .i64 0, .int .i64 0, .int .i64 0] 60 3 (.int .i64 0) rfl)
  have B0 : Cell1 W ⟨w.heap.size, 0, none⟩ (.slice p n cap) := by rw [hW]; exact ((Cell1.newAt w #[.slice p n cap, .int .i64 a, .int .i64 b, .int .i64 c] 60 0 (.slice p n cap) rfl).ext (ext_alloc (ext_refl _) (.cells #[.slice none 0 0, .int .i64 0, .int .i64 0, .int .i64 0] 60)))
  have B1 : Cell1 W ⟨w.heap.size, 1, none⟩ (.int .i64 a) := by rw [hW]; exact ((Cell1.newAt w #[.slice p n cap, .int .i64 a, .int .i64 b, .int .i64 c] 60 1 (.int .i64 a) rfl).ext (ext_alloc (ext_refl _) (.cells #[.slice none 0 0, .int .i64 0, .int .i64 0, .int .i64 0] 60)))
  have B2 : Cell1 W ⟨w.heap.size, 2, none⟩ (.int .i64 b) := by rw [hW]; exact ((Cell1.newAt w #[.slice p n cap, .int .i64 a, .int .i64 b, .int .i64 c] 60 2 (.int .i64 b) rfl).ext (ext_alloc (ext_refl _) (.cells #[.slice none 0 0, .int .i64 0, .int .i64 0, .int .i64 0] 60)))
  have B3 : Cell1 W ⟨w.heap.size, 3, none⟩ (.int .i64 c) := by rw [hW]; exact ((Cell1.newAt w #[.slice p n cap, .int .i64 a, .int .i64 b, .int .i64 c] 60 3 (.int .i64 c) rfl).ext (ext_alloc (ext_refl _) (.cells #[.slice none 0 0, .int .i64 0, .int .i64 0, .int .i64 0] 60)))
  clear h
  by_cases hb1 : b < 1
  · have HV := hid (show dhB b = b ∧ decide (1 ≤ b) = false from ⟨by unfold dhB; rw [if_pos hb1], decide_eq_false (by omega)⟩)
    have g1 : decide (b < 1) = true := decide_eq_true hb1
    go_enter Try.func56, Try.ntmps56
    go_wp2_with fail
    rw [← hW]
    clear hW
    refine C.out.mono ?_
    rintro e w1 ⟨_, rfl, ⟨v1, rfl, o1⟩, y1⟩
    have s1 := y1.size
    rw [hWs] at s1 o1
    have x1 := ext_trans x0 y1
    obtain ⟨a1, c1, rfl, _⟩ := o1.rd.form
    have y2 := ext_alloc y1 (.cells #[.slice a1 n c1, .int .i64 a, .int .i64 b, .int .i64 c] 60)
    have y2b := ext_alloc y1 (.cells #[.slice a1 n c1, .int .i64 a, .int .i64 b, .int .i64 c] 60)
    have x2 := ext_trans x0 y2
    have o2 := o1.ext (ext_alloc (ext_refl w1) (.cells #[.slice a1 n c1, .int .i64 a, .int .i64 b, .int .i64 c] 60))
    have s2 : (w1.alloc (.cells #[.slice a1 n c1, .int .i64 a, .int .i64 b, .int .i64 c] 60)).heap.size = w1.heap.size + 1 := by simp
    obtain ⟨A0, Af0⟩ := A0.ext y2
    obtain ⟨A1, Af1⟩ := A1.ext y2
    obtain ⟨A2, Af2⟩ := A2.ext y2
    obtain ⟨A3, Af3⟩ := A3.ext y2
    obtain ⟨B0, Bf0⟩ := B0.ext y2b
    obtain ⟨B1, Bf1⟩ := B1.ext y2b
    obtain ⟨B2, Bf2⟩ := B2.ext y2b
    obtain ⟨B3, Bf3⟩ := B3.ext y2b
    clear C y1 y2 y2b x0 x1 o1
    go_wp2
    have M := mut4 (w1.alloc (.cells #[.slice a1 n c1, .int .i64 a, .int .i64 b, .int .i64 c] 60)) (lo := w.heap.size) (hi := w.heap.size + 2) (b := w.heap.size + 1) (by omega) (by omega) (.slice a1 n c1) (.int .i64 a) (.int .i64 b) (.int .i64 c)
    exact bodyPost_ret (v := .tuple #[.agg #[.slice a1 n c1, .int .i64 a, .int .i64 b, .int .i64 c], .bool false]) (by simp [results, Try.results56, go_sem, A0, A1, A2, A3]) rfl (gives_of _ ⟨_, by rw [HV.out.2], _, by rw [HV.out.1], (o2.mut M (Or.inr (Nat.le_refl _))).mono (by omega) (Nat.le_trans (by omega) M.size)⟩ (M.ext x2 (Nat.le_refl _)))
  · have HV := hid (show dhB b = b - 1 ∧ decide (1 ≤ b) = true from ⟨by unfold dhB; rw [if_neg hb1], decide_eq_true (by omega)⟩)
    have g1 : decide (b < 1) = false := decide_eq_false hb1
    go_enter Try.func56, Try.ntmps56
    go_wp2_with fail
    rw [← hW]
    clear hW
    refine C.out.mono ?_
    rintro e w1 ⟨_, rfl, ⟨v1, rfl, o1⟩, y1⟩
    have s1 := y1.size
    rw [hWs] at s1 o1
    have x1 := ext_trans x0 y1
    obtain ⟨a1, c1, rfl, _⟩ := o1.rd.form
    have y2 := ext_alloc y1 (.cells #[.slice a1 n c1, .int .i64 a, .int .i64 (b - 1), .int .i64 c] 60)
    have y2b := ext_alloc y1 (.cells #[.slice a1 n c1, .int .i64 a, .int .i64 b, .int .i64 c] 60)
    have x2 := ext_trans x0 y2
    have o2 := o1.ext (ext_alloc (ext_refl w1) (.cells #[.slice a1 n c1, .int .i64 a, .int .i64 (b - 1), .int .i64 c] 60))
    have s2 : (w1.alloc (.cells #[.slice a1 n c1, .int .i64 a, .int .i64 (b - 1), .int .i64 c] 60)).heap.size = w1.heap.size + 1 := by simp
    obtain ⟨A0, Af0⟩ := A0.ext y2
    obtain ⟨A1, Af1⟩ := A1.ext y2
    obtain ⟨A2, Af2⟩ := A2.ext y2
    obtain ⟨A3, Af3⟩ := A3.ext y2
    obtain ⟨B0, Bf0⟩ := B0.ext y2b
    obtain ⟨B1, Bf1⟩ := B1.ext y2b
    obtain ⟨B2, Bf2⟩ := B2.ext y2b
    obtain ⟨B3, Bf3⟩ := B3.ext y2b
    clear C y1 y2 y2b x0 x1 o1
    go_wp2
    have M := mut4 (w1.alloc (.cells #[.slice a1 n c1, .int .i64 a, .int .i64 (b - 1), .int .i64 c] 60)) (lo := w.heap.size) (hi := w.heap.size + 2) (b := w.heap.size + 1) (by omega) (by omega) (.slice a1 n c1) (.int .i64 a) (.int .i64 (b - 1)) (.int .i64 c)
    exact bodyPost_ret (v := .tuple #[.agg #[.slice a1 n c1, .int .i64 a, .int .i64 (b - 1), .int .i64 c], .bool true]) (by simp [results, Try.results56, go_sem, A0, A1, A2, A3]) rfl (gives_of _ ⟨_, by rw [HV.out.2], _, by rw [HV.out.1], (o2.mut M (Or.inr (Nat.le_refl _))).mono (by omega) (Nat.le_trans (by omega) M.size)⟩ (M.ext x2 (Nat.le_refl _)))
set_option maxRecDepth 100000 in
set_option maxHeartbeats 1000000 in
theorem implDecrementHops_c {w : World} {lo hi n : Nat} {v : Value} {xs : List ByteArray} {a b c : Int} (h : RdW w lo hi v n (xs.map sv) a b c) (hn : n ≤ 8796093022207) (hb : b ≤ 9223372036854775807) :
    Calls Try.prog 57 #[v] w (Gives w (DhPost w.heap.size n (xs.map sv) a b c)) := by
  obtain ⟨s, rfl, h⟩ := h
  obtain ⟨p, cap, rfl, _⟩ := h.form
  obtain ⟨W, hW⟩ : ∃ W, W = (w.alloc (.cells #[.slice p n cap, .int .i64 a, .int .i64 b, .int .i64 c] 60)).alloc (.cells #[.slice none 0 0, .int .i64 0, .int .i64 0, .int .i64 0] 60) := ⟨_, rfl⟩
  have x0 : Below w.heap.size w W := by rw [hW]; exact ext_alloc (ext_alloc (ext_refl w) _) _
  have hWs : W.heap.size = w.heap.size + 2 := by rw [hW]; simp
  have C := hid (copyInterest_c (a := a) (b := b) (c := c) ⟨_, rfl, h.ext x0⟩ (by omega))
  have A0 : Cell1 W ⟨w.heap.size + 1, 0, none⟩ (.slice none 0 0) := by rw [hW]; simpa using (Cell1.newAt (w.alloc (.cells #[.slice p n cap, .int .i64 a, .int .i64 b, .int .i64 c] 60)) #[.slice none 0 0, .int .i64 0, .int .i64 0, .int .i64 0] 60 0 (.slice none 0 0) rfl)
  have A1 : Cell1 W ⟨w.heap.size + 1, 1, none⟩ (.int .i64 0) := by rw [hW]; simpa using (Cell1.newAt (w.alloc (.cells #[.slice p n cap, .int .i64 a, .int .i64 b, .int .i64 c] 60)) #[.slice none 0 0, .int .i64 0, .int .i64 0, .int .i64 0] 60 1 (.int .i64 0) rfl)
  have A2 : Cell1 W ⟨w.heap.size + 1, 2, none⟩ (.int .i64 0) := by rw [hW]; simpa using (Cell1.newAt (w.alloc (.cells #[.slice p n cap, .int .i64 a, .int .i64 b, .int .i64 c] 60)) #[.slice none 0 0, .int .i64 0, .int .i64 0, .int .i64 0] 60 2 (.int .i64 0) rfl)
  have A3 : Cell1 W ⟨w.heap.size + 1, 3, none⟩ (.int .i64 0) := by rw [hW]; simpa using (Cell1.newAt (w.alloc (.cells #[.slice p n cap, .int .i64 a, .int .i64 b, .int .i64 c] 60)) #[.slice none 0 0, .int .i64 0, .int .i64 0, .int .i64 0] 60 3 (.int .i64 0) rfl)
  have B0 : Cell1 W ⟨w.heap.size, 0, none⟩ (.slice p n cap) := by rw [hW]; exact ((Cell1.newAt w #[.slice p n cap, .int .i64 a, .int .i64 b, .int .i64 c] 60 0 (.slice p n cap) rfl).ext (ext_alloc (ext_refl _) (.cells #[.slice none 0 0, .int .i64 0, .int .i64 0, .int .i64 0] 60)))
  have B1 : Cell1 W ⟨w.heap.size, 1, none⟩ (.int .i64 a) := by rw [hW]; exact ((Cell1.newAt w #[.slice p n cap, .int .i64 a, .int .i64 b, .int .i64 c] 60 1 (.int .i64 a) rfl).ext (ext_alloc (ext_refl _) (.cells #[.slice none 0 0, .int .i64 0, .int .i64 0, .int .i64 0] 60)))
  have B2 : Cell1 W ⟨w.heap.size, 2, none⟩ (.int .i64 b) := by rw [hW]; exact ((Cell1.newAt w #[.slice p n cap, .int .i64 a, .int .i64 b, .int .i64 c] 60 2 (.int .i64 b) rfl).ext (ext_alloc (ext_refl _) (.cells #[.slice none 0 0, .int .i64 0, .int .i64 0, .int .i64 0] 60)))
  have B3 : Cell1 W ⟨w.heap.size, 3, none⟩ (.int .i64 c) := by rw [hW]; exact ((Cell1.newAt w #[.slice p n cap, .int .i64 a, .int .i64 b, .int .i64 c] 60 3 (.int .i64 c) rfl).ext (ext_alloc (ext_refl _) (.cells #[.slice none 0 0, .int .i64 0, .int .i64 0, .int .i64 0] 60)))
  clear h
  by_cases hb1 : b < 1
  · have HV := hid (show dhB b = b ∧ decide (1 ≤ b) = false from ⟨by unfold dhB; rw [if_pos hb1], decide_eq_false (by omega)⟩)
    have g1 : decide (b < 1) = true := decide_eq_true hb1
    go_enter Try.func57, Try.ntmps57
    go_wp2_with fail
    rw [← hW]
    clear hW
    refine C.out.mono ?_
    rintro e w1 ⟨_, rfl, ⟨v1, rfl, o1⟩, y1⟩
    have s1 := y1.size
    rw [hWs] at s1 o1
    have x1 := ext_trans x0 y1
    obtain ⟨a1, c1, rfl, _⟩ := o1.rd.form
    have y2 := ext_alloc y1 (.cells #[.slice a1 n c1, .int .i64 a, .int .i64 b, .int .i64 c] 60)
    have y2b := ext_alloc y1 (.cells #[.slice a1 n c1, .int .i64 a, .int .i64 b, .int .i64 c] 60)
    have x2 := ext_trans x0 y2
    have o2 := o1.ext (ext_alloc (ext_refl w1) (.cells #[.slice a1 n c1, .int .i64 a, .int .i64 b, .int .i64 c] 60))
    have s2 : (w1.alloc (.cells #[.slice a1 n c1, .int .i64 a, .int .i64 b, .int .i64 c] 60)).heap.size = w1.heap.size + 1 := by simp
    obtain ⟨A0, Af0⟩ := A0.ext y2
    obtain ⟨A1, Af1⟩ := A1.ext y2
    obtain ⟨A2, Af2⟩ := A2.ext y2
    obtain ⟨A3, Af3⟩ := A3.ext y2
    obtain ⟨B0, Bf0⟩ := B0.ext y2b
    obtain ⟨B1, Bf1⟩ := B1.ext y2b
    obtain ⟨B2, Bf2⟩ := B2.ext y2b
    obtain ⟨B3, Bf3⟩ := B3.ext y2b
    clear C y1 y2 y2b x0 x1 o1
    go_wp2
    have M := mut4 (w1.alloc (.cells #[.slice a1 n c1, .int .i64 a, .int .i64 b, .int .i64 c] 60)) (lo := w.heap.size) (hi := w.heap.size + 2) (b := w.heap.size + 1) (by omega) (by omega) (.slice a1 n c1) (.int .i64 a) (.int .i64 b) (.int .i64 c)
    exact bodyPost_ret (v := .tuple #[.agg #[.slice a1 n c1, .int .i64 a, .int .i64 b, .int .i64 c], .bool false]) (by simp [results, Try.results57, go_sem, A0, A1, A2, A3]) rfl (gives_of _ ⟨_, by rw [HV.out.2], _, by rw [HV.out.1], (o2.mut M (Or.inr (Nat.le_refl _))).mono (by omega) (Nat.le_trans (by omega) M.size)⟩ (M.ext x2 (Nat.le_refl _)))
  · have HV := hid (show dhB b = b - 1 ∧ decide (1 ≤ b) = true from ⟨by unfold dhB; rw [if_neg hb1], decide_eq_true (by omega)⟩)
    have g1 : decide (b < 1) = false := decide_eq_false hb1
    go_enter Try.func57, Try.ntmps57
    go_wp2_with fail
    rw [← hW]
    clear hW
    refine C.out.mono ?_
    rintro e w1 ⟨_, rfl, ⟨v1, rfl, o1⟩, y1⟩
    have s1 := y1.size
    rw [hWs] at s1 o1
    have x1 := ext_trans x0 y1
    obtain ⟨a1, c1, rfl, _⟩ := o1.rd.form
    have y2 := ext_alloc y1 (.cells #[.slice a1 n c1, .int .i64 a, .int .i64 (b - 1), .int .i64 c] 60)
    have y2b := ext_alloc y1 (.cells #[.slice a1 n c1, .int .i64 a, .int .i64 b, .int .i64 c] 60)
    have x2 := ext_trans x0 y2
    have o2 := o1.ext (ext_alloc (ext_refl w1) (.cells #[.slice a1 n c1, .int .i64 a, .int .i64 (b - 1), .int .i64 c] 60))
    have s2 : (w1.alloc (.cells #[.slice a1 n c1, .int .i64 a, .int .i64 (b - 1), .int .i64 c] 60)).heap.size = w1.heap.size + 1 := by simp
    obtain ⟨A0, Af0⟩ := A0.ext y2
    obtain ⟨A1, Af1⟩ := A1.ext y2
    obtain ⟨A2, Af2⟩ := A2.ext y2
    obtain ⟨A3, Af3⟩ := A3.ext y2
    obtain ⟨B0, Bf0⟩ := B0.ext y2b
    obtain ⟨B1, Bf1⟩ := B1.ext y2b
    obtain ⟨B2, Bf2⟩ := B2.ext y2b
    obtain ⟨B3, Bf3⟩ := B3.ext y2b
    clear C y1 y2 y2b x0 x1 o1
    go_wp2
    have M := mut4 (w1.alloc (.cells #[.slice a1 n c1, .int .i64 a, .int .i64 (b - 1), .int .i64 c] 60)) (lo := w.heap.size) (hi := w.heap.size + 2) (b := w.heap.size + 1) (by omega) (by omega) (.slice a1 n c1) (.int .i64 a) (.int .i64 (b - 1)) (.int .i64 c)
    exact bodyPost_ret (v := .tuple #[.agg #[.slice a1 n c1, .int .i64 a, .int .i64 (b - 1), .int .i64 c], .bool true]) (by simp [results, Try.results57, go_sem, A0, A1, A2, A3]) rfl (gives_of _ ⟨_, by rw [HV.out.2], _, by rw [HV.out.1], (o2.mut M (Or.inr (Nat.le_refl _))).mono (by omega) (Nat.le_trans (by omega) M.size)⟩ (M.ext x2 (Nat.le_refl _)))
end Go.Proofs.Ytbachbanjcabhaa
