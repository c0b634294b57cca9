/- Names and patterns (structs of one slice of strings): what the laws' helpers sz.., to.., eq.., mark.., held.. do. Conditions: the value reads as strings. -/
import Derived.Test.YtcagbdidjakcpaaMark
namespace Go.Proofs.Ytcagbdidjakcpaa
open Go.RowKit
/-- A struct of one slice that reads as the cells. -/
def RdN (w : World) (lo hi : Nat) (v : Value) (n : Nat) (cs : List Value) : Prop := ∃ s, v = .agg #[s] ∧ Rd w lo hi 1 s n cs
def OwnN (w : World) (lo hi : Nat) (v : Value) (n : Nat) (cs : List Value) : Prop := ∃ s, v = .agg #[s] ∧ Own w lo hi 9 1 s n cs
section
variable {w w' : World} {lo hi lo' hi' n : Nat} {v : Value} {cs : List Value}
theorem RdN.ext (h : RdN w lo hi v n cs) (e : Below w.heap.size w w') : RdN w' lo hi v n cs := let ⟨s, hv, r⟩ := h; ⟨s, hv, r.ext e⟩
theorem RdN.mut (h : RdN w lo hi v n cs) (m : Mut lo' hi' w w') (hd : hi ≤ lo' ∨ hi' ≤ lo) : RdN w' lo hi v n cs := let ⟨s, hv, r⟩ := h; ⟨s, hv, r.mut m hd⟩
theorem OwnN.ext (h : OwnN w lo hi v n cs) (e : Below w.heap.size w w') : OwnN w' lo hi v n cs := let ⟨s, hv, r⟩ := h; ⟨s, hv, r.ext e⟩
theorem OwnN.mut (h : OwnN w lo hi v n cs) (m : Mut lo' hi' w w') (hd : hi ≤ lo' ∨ hi' ≤ lo) : OwnN w' lo hi v n cs := let ⟨s, hv, r⟩ := h; ⟨s, hv, r.mut m hd⟩
theorem OwnN.mono (h : OwnN w lo hi v n cs) (h1 : lo' ≤ lo) (h2 : hi ≤ hi') : OwnN w lo' hi' v n cs := let ⟨s, hv, r⟩ := h; ⟨s, hv, r.mono h1 h2⟩
theorem OwnN.rd (h : OwnN w lo hi v n cs) : RdN w lo hi v n cs := let ⟨s, hv, r⟩ := h; ⟨s, hv, r.rd⟩
end
/-- How much a list of strings weighs: its length and that of each string. -/
def wtP (ss : List ByteArray) (k : Nat) : Nat := ss.length + ((ss.take k).map fun s => s.size).sum
def wt (ss : List ByteArray) : Nat := wtP ss ss.length
theorem wtP_step (ss : List ByteArray) (k : Nat) (h : k < ss.length) : wtP ss (k + 1) = wtP ss k + ss[k].size := by
  unfold wtP; rw [List.take_succ_eq_append_getElem h]; simp only [List.map_append, List.sum_append, List.map_cons, List.map_nil, List.sum_cons, List.sum_nil]; omega
theorem wtP_le (ss : List ByteArray) (k : Nat) : wtP ss k ≤ wt ss := by
  unfold wt wtP
  rw [List.take_length]
  have e := congrArg (fun l : List ByteArray => (l.map fun s => s.size).sum) (List.take_append_drop k ss)
  simp only [List.map_append, List.sum_append] at e
  omega
theorem wt_len (ss : List ByteArray) : ss.length ≤ wt ss := by have := wtP_le ss 0; unfold wtP at this; omega
theorem wt_mem (ss : List ByteArray) (s : ByteArray) (h : s ∈ ss) : s.size ≤ wt ss := by
  obtain ⟨k, hk, rfl⟩ := List.getElem_of_mem h
  have := wtP_le ss (k + 1)
  rw [wtP_step ss k hk] at this
  omega
/-- What is left of a bound behind a weight; -1 where it does not suffice. -/
def szS (left : Int) (m : Nat) : Int := if left < (m : Int) then -1 else left - (m : Int)
theorem szS_ok {left : Int} {m : Nat} (h : (m : Int) ≤ left) : szS left m = left - (m : Int) := by rw [szS, if_neg (by omega)]
theorem szS_no {left : Int} {m : Nat} (h : ¬ (m : Int) ≤ left) : szS left m = -1 := by rw [szS, if_pos (by omega)]
set_option maxHeartbeats 1000000 in
theorem szStringS_c {w : World} {lo hi : Nat} {v : Value} {ss : List ByteArray} {left : Int} (h : Rd w lo hi 1 v ss.length (ss.map sv)) (hs : ∀ s ∈ ss, s.size ≤ 9223372036854775807) (h0 : 0 ≤ left) (h1 : left ≤ 1048576) :
    Calls Try.prog 76 #[v, .int .i64 left] w (Gives w fun r _ => r = .int .i64 (szS left (wt ss))) := by
  obtain ⟨_, a, cap, rfl, hc, hm, hat⟩ := h
  have HS := hid hs
  clear hs
  have hwl := wt_len ss
  obtain ⟨n, hn⟩ : ∃ n, n = ss.length := ⟨_, rfl⟩
  rw [← hn] at hc hat hwl ⊢
  have HN := hid hn
  clear hn
  by_cases hl : left - (n : Int) < 0
  · have HV := hid (show szS left (wt ss) = -1 by rw [szS, if_pos (by omega)])
    go_enter Try.func76, Try.ntmps76
    go_wp2
    go_ret
    exact gives_int HV.out.symm (ext_refl _)
  · go_enter Try.func76, Try.ntmps76
    go_wp2
    go_loop [1, 5] (fun q i => ∃ k : Nat, k ≤ n ∧ i = .int .i64 k ∧ q = .int .i64 (left - (wtP ss k : Nat)) ∧ (wtP ss k : Nat) ≤ left) (fun _ i => n - (intOf i).toNat)
    case atStart => exact ⟨0, Nat.zero_le _, rfl, by simp [wtP, HN.out], by simp [wtP]; have := HN.out; omega⟩
    case round =>
      obtain ⟨k, hk, rfl, rfl, hle⟩ := hrel
      by_cases hlt : k < n
      · obtain ⟨b, off, rfl, _, _, hbs, hcell⟩ := hat (by omega)
        have hkx : k < ss.length := by rw [← HN.out]; exact hlt
        have c1 : w.cell? ⟨b, off + k, none⟩ = some (.string ss[k]) := hcell k _ (by simp [hkx, sv])
        have hsz := HS.out ss[k] (List.getElem_mem hkx)
        have HT := hid (wtP_step ss k hkx)
        have HW := hid (wtP_le ss (k + 1))
        clear hcell hat
        generalize ss[k] = t at c1 hsz HT
        generalize ht1 : wtP ss (k + 1) = y at HT HW
        have HY := hid ht1
        clear ht1
        generalize wtP ss k = x at hle HT ⊢
        by_cases hneg : left - (x : Int) - (t.size : Int) < 0
        · have HV := hid (show szS left (wt ss) = -1 by rw [szS, if_pos (by have := HT.out; have := HW.out; omega)])
          go_wp2
          go_ret
          exact gives_int HV.out.symm (ext_refl _)
        · go_wp2
          go_round
          case rel => exact ⟨k + 1, by omega, by go_num, by rw [HY.out, HT.out]; go_num, by rw [HY.out, HT.out]; omega⟩
          case measure => simp [intOf]; omega
      · have HV := hid (show szS left (wt ss) = left - (wtP ss k : Nat) by
          have : wt ss = wtP ss k := by unfold wt; rw [show k = ss.length by rw [← HN.out]; omega]
          rw [szS, this, if_neg (by omega)])
        go_wp2
        go_ret
        exact gives_int HV.out.symm (ext_refl _)

/-! ### Name -/
theorem szName_c {w : World} {lo hi : Nat} {v : Value} {ss : List ByteArray} {left : Int} (h : RdN w lo hi v ss.length (ss.map sv)) (hs : ∀ s ∈ ss, s.size ≤ 9223372036854775807) (h0 : 0 ≤ left) (h1 : left ≤ 1048576) :
    Calls Try.prog 19 #[v, .int .i64 left] w (Gives w fun r _ => r = .int .i64 (szS left (wt ss))) := by
  obtain ⟨s, rfl, h⟩ := h
  have r1 := h.ext (ext_alloc (ext_refl w) (.cells #[s] 37))
  have C := hid (szStringS_c r1 hs h0 h1)
  have hb : szS left (wt ss) = -1 ∨ 0 ≤ szS left (wt ss) := by unfold szS; split <;> omega
  clear h r1 hs
  go_enter Try.func19, Try.ntmps19
  go_wp2_with fail
  refine C.out.mono ?_
  rintro e w1 ⟨_, rfl, rfl, y1⟩
  have x := ext_trans (ext_alloc (ext_refl w) _) y1
  clear C y1
  obtain ⟨z, hz0⟩ : ∃ z, z = szS left (wt ss) := ⟨_, rfl⟩
  rw [← hz0] at hb ⊢
  have HZ0 := hid hz0
  clear hz0
  rcases hb with hb | hb
  · have hz : z < 0 := by omega
    have HZ := hid hb
    clear hb
    go_wp2
    go_ret
    exact gives_int (HZ.out.symm.trans HZ0.out) x
  · go_wp2
    go_ret
    exact gives_int HZ0.out x
theorem toName_c {w : World} {lo hi n : Nat} {v : Value} {ss : List ByteArray} (h : RdN w lo hi v n (ss.map sv)) (hn : n ≤ 8796093022208) :
    Calls Try.prog 22 #[v] w (Gives w fun r w' => OwnN w' w.heap.size w'.heap.size r n (ss.map sv)) := by
  obtain ⟨s, rfl, h⟩ := h
  have x0 : Below w.heap.size w (((w.alloc (.cells #[s] 37)).alloc (.cells #[.slice none 0 0] 26)).alloc (.cells #[.slice none 0 0] 26)) := ext_alloc (ext_alloc (ext_alloc (ext_refl w) _) _) _
  have C := hid (toStringS_c (h.ext x0) hn)
  clear h
  go_enter Try.func22, Try.ntmps22
  go_wp2_with fail
  refine C.out.mono ?_
  rintro e w1 ⟨v1, rfl, o1, y1⟩
  have s1 := y1.size
  simp at s1
  have x1 := ext_trans x0 y1
  obtain ⟨cA, fA⟩ := ((Cell1.new (w.alloc (.cells #[s] 37)) (.slice none 0 0) 26).ext (ext_alloc (ext_refl _) _)).ext y1
  obtain ⟨cB, fB⟩ := (Cell1.new ((w.alloc (.cells #[s] 37)).alloc (.cells #[.slice none 0 0] 26)) (.slice none 0 0) 26).ext y1
  rw [show (w.alloc (.cells #[s] 37)).heap.size = w.heap.size + 1 by simp] at cA fA
  rw [show ((w.alloc (.cells #[s] 37)).alloc (.cells #[.slice none 0 0] 26)).heap.size = w.heap.size + 1 + 1 by simp] at cB fB
  have o2 : Own w1 (w.heap.size + 3) w1.heap.size 9 1 v1 n (ss.map sv) := by simpa using o1
  have hv := o2.rd.form
  obtain ⟨a1, c1, rfl, _⟩ := hv
  clear C y1 x0 o1
  go_wp2
  have M : Mut w.heap.size (w.heap.size + 3) w1 ((w1.setCell ⟨w.heap.size + 1 + 1, 0, none⟩ (.slice a1 n c1)).setCell ⟨w.heap.size + 1, 0, none⟩ (.slice a1 n c1)) :=
    (Mut.setCell w1 (by simp only; omega) (by simp only; omega) _).trans (Mut.setCell _ (by simp only; omega) (by simp only; omega) _)
  exact bodyPost_ret (v := .agg #[.slice a1 n c1]) (by simp [results, Try.results22, go_sem, cA]) rfl (gives_of _ ⟨_, rfl, (o2.mut M (Or.inr (Nat.le_refl _))).mono (by omega) (M.size)⟩ (M.ext x1 (Nat.le_refl _)))

/-! ### Pattern -/
theorem szPattern_c {w : World} {lo hi : Nat} {v : Value} {ss : List ByteArray} {left : Int} (h : RdN w lo hi v ss.length (ss.map sv)) (hs : ∀ s ∈ ss, s.size ≤ 9223372036854775807) (h0 : 0 ≤ left) (h1 : left ≤ 1048576) :
    Calls Try.prog 18 #[v, .int .i64 left] w (Gives w fun r _ => r = .int .i64 (szS left (wt ss))) := by
  obtain ⟨s, rfl, h⟩ := h
  have r1 := h.ext (ext_alloc (ext_refl w) (.cells #[s] 36))
  have C := hid (szStringS_c r1 hs h0 h1)
  have hb : szS left (wt ss) = -1 ∨ 0 ≤ szS left (wt ss) := by unfold szS; split <;> omega
  clear h r1 hs
  go_enter Try.func18, Try.ntmps18
  go_wp2_with fail
  refine C.out.mono ?_
  rintro e w1 ⟨_, rfl, rfl, y1⟩
  have x := ext_trans (ext_alloc (ext_refl w) _) y1
  clear C y1
  obtain ⟨z, hz0⟩ : ∃ z, z = szS left (wt ss) := ⟨_, rfl⟩
  rw [← hz0] at hb ⊢
  have HZ0 := hid hz0
  clear hz0
  rcases hb with hb | hb
  · have hz : z < 0 := by omega
    have HZ := hid hb
    clear hb
    go_wp2
    go_ret
    exact gives_int (HZ.out.symm.trans HZ0.out) x
  · go_wp2
    go_ret
    exact gives_int HZ0.out x
theorem toPattern_c {w : World} {lo hi n : Nat} {v : Value} {ss : List ByteArray} (h : RdN w lo hi v n (ss.map sv)) (hn : n ≤ 8796093022208) :
    Calls Try.prog 21 #[v] w (Gives w fun r w' => OwnN w' w.heap.size w'.heap.size r n (ss.map sv)) := by
  obtain ⟨s, rfl, h⟩ := h
  have x0 : Below w.heap.size w (((w.alloc (.cells #[s] 36)).alloc (.cells #[.slice none 0 0] 41)).alloc (.cells #[.slice none 0 0] 41)) := ext_alloc (ext_alloc (ext_alloc (ext_refl w) _) _) _
  have C := hid (toStringS_c (h.ext x0) hn)
  clear h
  go_enter Try.func21, Try.ntmps21
  go_wp2_with fail
  refine C.out.mono ?_
  rintro e w1 ⟨v1, rfl, o1, y1⟩
  have s1 := y1.size
  simp at s1
  have x1 := ext_trans x0 y1
  obtain ⟨cA, fA⟩ := ((Cell1.new (w.alloc (.cells #[s] 36)) (.slice none 0 0) 41).ext (ext_alloc (ext_refl _) _)).ext y1
  obtain ⟨cB, fB⟩ := (Cell1.new ((w.alloc (.cells #[s] 36)).alloc (.cells #[.slice none 0 0] 41)) (.slice none 0 0) 41).ext y1
  rw [show (w.alloc (.cells #[s] 36)).heap.size = w.heap.size + 1 by simp] at cA fA
  rw [show ((w.alloc (.cells #[s] 36)).alloc (.cells #[.slice none 0 0] 41)).heap.size = w.heap.size + 1 + 1 by simp] at cB fB
  have o2 : Own w1 (w.heap.size + 3) w1.heap.size 9 1 v1 n (ss.map sv) := by simpa using o1
  have hv := o2.rd.form
  obtain ⟨a1, c1, rfl, _⟩ := hv
  clear C y1 x0 o1
  go_wp2
  have M : Mut w.heap.size (w.heap.size + 3) w1 ((w1.setCell ⟨w.heap.size + 1 + 1, 0, none⟩ (.slice a1 n c1)).setCell ⟨w.heap.size + 1, 0, none⟩ (.slice a1 n c1)) :=
    (Mut.setCell w1 (by simp only; omega) (by simp only; omega) _).trans (Mut.setCell _ (by simp only; omega) (by simp only; omega) _)
  exact bodyPost_ret (v := .agg #[.slice a1 n c1]) (by simp [results, Try.results21, go_sem, cA]) rfl (gives_of _ ⟨_, rfl, (o2.mut M (Or.inr (Nat.le_refl _))).mono (by omega) (M.size)⟩ (M.ext x1 (Nat.le_refl _)))

theorem eqName_c {w : World} {lo hi lo' hi' n m : Nat} {v v' : Value} {xs ys : List ByteArray} (h : RdN w lo hi v n (xs.map sv)) (h' : RdN w lo' hi' v' m (ys.map sv)) :
    Calls Try.prog 25 #[v, v'] w (Gives w fun r _ => r = .bool (decide (xs = ys))) := by
  obtain ⟨s, rfl, h⟩ := h
  obtain ⟨s', rfl, h'⟩ := h'
  have x0 : Below w.heap.size w ((w.alloc (.cells #[s] 26)).alloc (.cells #[s'] 26)) := ext_alloc (ext_alloc (ext_refl w) _) _
  have C := hid (eqStringS_c (h.ext x0) (h'.ext x0))
  clear h h'
  generalize decide (xs = ys) = b at C ⊢
  go_enter Try.func25, Try.ntmps25
  go_wp2_with fail
  refine C.out.mono ?_
  rintro e w1 ⟨_, rfl, rfl, y1⟩
  have x := ext_trans x0 y1
  clear C y1 x0
  cases b
  all_goals
    go_wp2
    go_ret
    exact gives_bool rfl x

theorem sameName_c {w : World} {lo hi lo' hi' n m : Nat} {v v' : Value} {xs ys : List ByteArray} (h : RdN w lo hi v n (xs.map sv)) (h' : RdN w lo' hi' v' m (ys.map sv)) :
    Calls Try.prog 14 #[v, v'] w (Gives w fun r _ => r = .bool (decide (xs = ys))) := by
  obtain ⟨s, rfl, h⟩ := h
  obtain ⟨s', rfl, h'⟩ := h'
  have x0 : Below w.heap.size w ((w.alloc (.cells #[s] 26)).alloc (.cells #[s'] 26)) := ext_alloc (ext_alloc (ext_refl w) _) _
  have C := hid (sameTexts_c (h.ext x0) (h'.ext x0))
  clear h h'
  generalize decide (xs = ys) = b at C ⊢
  go_enter Try.func14, Try.ntmps14
  go_wp2_with fail
  refine C.out.mono ?_
  rintro e w1 ⟨_, rfl, rfl, y1⟩
  have x := ext_trans x0 y1
  clear C y1 x0
  cases b
  all_goals
    go_wp2
    go_ret
    exact gives_bool rfl x

theorem markName_c {w : World} {lo hi n : Nat} {v : Value} {cs : List Value} (h : OwnN w lo hi v n cs) {k0 : Nat} (h1 : 0 < k0) (h2 : k0 ≤ 100000000000) (hn : n ≤ 100000000000) :
    Calls Try.prog 33 #[v, .int .i64 k0] w fun e w' => e = .returned (.int .i64 ((k0 + n : Nat) : Int)) ∧ OwnN w' lo hi v n (marksString k0 n) ∧ Mut lo hi w w' := by
  obtain ⟨s, rfl, h⟩ := h
  have x0 : Below w.heap.size w (w.alloc (.cells #[s] 26)) := ext_alloc (ext_refl w) _
  have C := hid (markStringS_c (h.ext x0) h1 h2 hn)
  clear h
  go_enter Try.func33, Try.ntmps33
  go_wp2_with fail
  refine C.out.mono ?_
  rintro e w1 ⟨rfl, o1, m1⟩
  have m := (Mut.of_ext (lo := lo) (hi := hi) x0).trans m1
  clear C m1 x0
  go_wp2
  go_ret
  exact ⟨rfl, ⟨s, rfl, o1⟩, m⟩
theorem heldName_c {w : World} {lo hi n : Nat} {v : Value} {k0 : Nat} (h : RdN w lo hi v n (marksString k0 n)) (h1 : 0 < k0) (h2 : k0 ≤ 100000000000) (hn : n ≤ 100000000000) :
    Calls Try.prog 34 #[v, .int .i64 k0] w (Gives w fun r _ => r = .int .i64 ((k0 + n : Nat) : Int)) := by
  obtain ⟨s, rfl, h⟩ := h
  have x0 : Below w.heap.size w (w.alloc (.cells #[s] 26)) := ext_alloc (ext_refl w) _
  have C := hid (heldStringS_c (h.ext x0) h1 h2 hn)
  clear h
  go_enter Try.func34, Try.ntmps34
  go_wp2_with fail
  refine C.out.mono ?_
  rintro e w1 ⟨_, rfl, rfl, y1⟩
  have x := ext_trans x0 y1
  clear C y1 x0
  go_wp2
  go_ret
  exact gives_int rfl x

theorem eqPattern_c {w : World} {lo hi lo' hi' n m : Nat} {v v' : Value} {xs ys : List ByteArray} (h : RdN w lo hi v n (xs.map sv)) (h' : RdN w lo' hi' v' m (ys.map sv)) :
    Calls Try.prog 24 #[v, v'] w (Gives w fun r _ => r = .bool (decide (xs = ys))) := by
  obtain ⟨s, rfl, h⟩ := h
  obtain ⟨s', rfl, h'⟩ := h'
  have x0 : Below w.heap.size w ((w.alloc (.cells #[s] 41)).alloc (.cells #[s'] 41)) := ext_alloc (ext_alloc (ext_refl w) _) _
  have C := hid (eqStringS_c (h.ext x0) (h'.ext x0))
  clear h h'
  generalize decide (xs = ys) = b at C ⊢
  go_enter Try.func24, Try.ntmps24
  go_wp2_with fail
  refine C.out.mono ?_
  rintro e w1 ⟨_, rfl, rfl, y1⟩
  have x := ext_trans x0 y1
  clear C y1 x0
  cases b
  all_goals
    go_wp2
    go_ret
    exact gives_bool rfl x

theorem markPattern_c {w : World} {lo hi n : Nat} {v : Value} {cs : List Value} (h : OwnN w lo hi v n cs) {k0 : Nat} (h1 : 0 < k0) (h2 : k0 ≤ 100000000000) (hn : n ≤ 100000000000) :
    Calls Try.prog 31 #[v, .int .i64 k0] w fun e w' => e = .returned (.int .i64 ((k0 + n : Nat) : Int)) ∧ OwnN w' lo hi v n (marksString k0 n) ∧ Mut lo hi w w' := by
  obtain ⟨s, rfl, h⟩ := h
  have x0 : Below w.heap.size w (w.alloc (.cells #[s] 41)) := ext_alloc (ext_refl w) _
  have C := hid (markStringS_c (h.ext x0) h1 h2 hn)
  clear h
  go_enter Try.func31, Try.ntmps31
  go_wp2_with fail
  refine C.out.mono ?_
  rintro e w1 ⟨rfl, o1, m1⟩
  have m := (Mut.of_ext (lo := lo) (hi := hi) x0).trans m1
  clear C m1 x0
  go_wp2
  go_ret
  exact ⟨rfl, ⟨s, rfl, o1⟩, m⟩
end Go.Proofs.Ytcagbdidjakcpaa
