/- Names and patterns (structs of one slice of strings): what the laws' helpers sz.., to.., eq.., mark.., held.. do. Conditions: the value reads as strings. -/
import Derived.Test.YtoehjfcadhgpbaaDoorMark
namespace Go.Proofs.YtoehjfcadhgpbaaDoor
open Go.RowKit
/-- A struct of one slice that reads as the cells. -/
def RdN (w : World) (lo hi : Nat) (v : Value) (n : Nat) (cs : List Value) : Prop := ∃ s, v = .agg #[s] ∧ Rd w lo hi 1 s n cs
def OwnN (w : World) (lo hi : Nat) (v : Value) (n : Nat) (cs : List Value) : Prop := ∃ s, v = .agg #[s] ∧ Own w lo hi 9 1 s n cs
section
variable {w w' : World} {lo hi lo' hi' n : Nat} {v : Value} {cs : List Value}
theorem RdN.ext (h : RdN w lo hi v n cs) (e : Below w.heap.size w w') : RdN w' lo hi v n cs := let ⟨s, hv, r⟩ := h; ⟨s, hv, r.ext e⟩
theorem RdN.mut (h : RdN w lo hi v n cs) (m : Mut lo' hi' w w') (hd : hi ≤ lo' ∨ hi' ≤ lo) : RdN w' lo hi v n cs := let ⟨s, hv, r⟩ := h; ⟨s, hv, r.mut m hd⟩
theorem OwnN.ext (h : OwnN w lo hi v n cs) (e : Below w.heap.size w w') : OwnN w' lo hi v n cs := let ⟨s, hv, r⟩ := h; ⟨s, hv, r.ext e⟩
theorem OwnN.mut (h : OwnN w lo hi v n cs) (m : Mut lo' hi' w w') (hd : hi ≤ lo' ∨ hi' ≤ lo) : OwnN w' lo hi v n cs := let ⟨s, hv, r⟩ := h; ⟨s, hv, r.mut m hd⟩
theorem OwnN.mono (h : OwnN w lo hi v n cs) (h1 : lo' ≤ lo) (h2 : hi ≤ hi') : OwnN w lo' hi' v n cs := let ⟨s, hv, r⟩ := h; ⟨s, hv, r.mono h1 h2⟩
theorem OwnN.rd (h : OwnN w lo hi v n cs) : RdN w lo hi v n cs := let ⟨s, hv, r⟩ := h; ⟨s, hv, r.rd⟩
end
/-- How much a list of strings weighs: its length and that of each string. -/
def wtP (ss : List ByteArray) (k : Nat) : Nat := ss.length + ((ss.take k).map fun s => s.size).sum
def wt (ss : List ByteArray) : Nat := wtP ss ss.length
theorem wtP_step (ss : List ByteArray) (k : Nat) (h : k < ss.length) : wtP ss (k + 1) = wtP ss k + ss[k].size := by
  unfold wtP; rw [List.take_succ_eq_append_getElem h]; simp only [List.map_append, List.sum_append, List.map_cons, List.map_nil, List.sum_cons, List.sum_nil]; omega
theorem wtP_le (ss : List ByteArray) (k : Nat) : wtP ss k ≤ wt ss := by
  unfold wt wtP
  rw [List.take_length]
  have e := congrArg (fun l : List ByteArray => (l.map fun s => s.size).sum) (List.take_append_drop k ss)
  simp only [List.map_append, List.sum_append] at e
  omega
theorem wt_len (ss : List ByteArray) : ss.length ≤ wt ss := by have := wtP_le ss 0; unfold wtP at this; omega
theorem wt_mem (ss : List ByteArray) (s : ByteArray) (h : s ∈ ss) : s.size ≤ wt ss := by
  obtain ⟨k, hk, rfl⟩ := List.getElem_of_mem h
  have := wtP_le ss (k + 1)
  rw [wtP_step ss k hk] at this
  omega
/-- What is left of a bound behind a weight; -1 where it does not suffice. -/
def szS (left : Int) (m : Nat) : Int := if left < (m : Int) then -1 else left - (m : Int)
theorem szS_ok {left : Int} {m : Nat} (h : (m : Int) ≤ left) : szS left m = left - (m : Int) := by rw [szS, if_neg (by omega)]
theorem szS_no {left : Int} {m : Nat} (h : ¬ (m : Int) ≤ left) : szS left m = -1 := by rw [szS, if_pos (by omega)]

/-! ### Name -/

/-! ### Pattern -/

theorem eqName_c {w : World} {lo hi lo' hi' n m : Nat} {v v' : Value} {xs ys : List ByteArray} (h : RdN w lo hi v n (xs.map sv)) (h' : RdN w lo' hi' v' m (ys.map sv)) :
    Calls Tryd.prog 14 #[v, v'] w (Gives w fun r _ => r = .bool (decide (xs = ys))) := by
  obtain ⟨s, rfl, h⟩ := h
  obtain ⟨s', rfl, h'⟩ := h'
  have x0 : Below w.heap.size w ((w.alloc (.cells #[s] 30)).alloc (.cells #[s'] 30)) := ext_alloc (ext_alloc (ext_refl w) _) _
  have C := hid (eqStringS_c (h.ext x0) (h'.ext x0))
  clear h h'
  generalize decide (xs = ys) = b at C ⊢
  go_enter Tryd.func14, Tryd.ntmps14
  go_wp2_with fail
  refine C.out.mono ?_
  rintro e w1 ⟨_, rfl, rfl, y1⟩
  have x := ext_trans x0 y1
  clear C y1 x0
  cases b
  all_goals
    go_wp2
    go_ret
    exact gives_bool rfl x

theorem sameName_c {w : World} {lo hi lo' hi' n m : Nat} {v v' : Value} {xs ys : List ByteArray} (h : RdN w lo hi v n (xs.map sv)) (h' : RdN w lo' hi' v' m (ys.map sv)) :
    Calls Tryd.prog 31 #[v, v'] w (Gives w fun r _ => r = .bool (decide (xs = ys))) := by
  obtain ⟨s, rfl, h⟩ := h
  obtain ⟨s', rfl, h'⟩ := h'
  have x0 : Below w.heap.size w ((w.alloc (.cells #[s] 30)).alloc (.cells #[s'] 30)) := ext_alloc (ext_alloc (ext_refl w) _) _
  have C := hid (sameTexts_c (h.ext x0) (h'.ext x0))
  clear h h'
  generalize decide (xs = ys) = b at C ⊢
  go_enter Tryd.func31, Tryd.ntmps31
  go_wp2_with fail
  refine C.out.mono ?_
  rintro e w1 ⟨_, rfl, rfl, y1⟩
  have x := ext_trans x0 y1
  clear C y1 x0
  cases b
  all_goals
    go_wp2
    go_ret
    exact gives_bool rfl x

theorem markName_c {w : World} {lo hi n : Nat} {v : Value} {cs : List Value} (h : OwnN w lo hi v n cs) {k0 : Nat} (h1 : 0 < k0) (h2 : k0 ≤ 100000000000) (hn : n ≤ 100000000000) :
    Calls Tryd.prog 15 #[v, .int .i64 k0] w fun e w' => e = .returned (.int .i64 ((k0 + n : Nat) : Int)) ∧ OwnN w' lo hi v n (marksString k0 n) ∧ Mut lo hi w w' := by
  obtain ⟨s, rfl, h⟩ := h
  have x0 : Below w.heap.size w (w.alloc (.cells #[s] 30)) := ext_alloc (ext_refl w) _
  have C := hid (markStringS_c (h.ext x0) h1 h2 hn)
  clear h
  go_enter Tryd.func15, Tryd.ntmps15
  go_wp2_with fail
  refine C.out.mono ?_
  rintro e w1 ⟨rfl, o1, m1⟩
  have m := (Mut.of_ext (lo := lo) (hi := hi) x0).trans m1
  clear C m1 x0
  go_wp2
  go_ret
  exact ⟨rfl, ⟨s, rfl, o1⟩, m⟩
theorem heldName_c {w : World} {lo hi n : Nat} {v : Value} {k0 : Nat} (h : RdN w lo hi v n (marksString k0 n)) (h1 : 0 < k0) (h2 : k0 ≤ 100000000000) (hn : n ≤ 100000000000) :
    Calls Tryd.prog 16 #[v, .int .i64 k0] w (Gives w fun r _ => r = .int .i64 ((k0 + n : Nat) : Int)) := by
  obtain ⟨s, rfl, h⟩ := h
  have x0 : Below w.heap.size w (w.alloc (.cells #[s] 30)) := ext_alloc (ext_refl w) _
  have C := hid (heldStringS_c (h.ext x0) h1 h2 hn)
  clear h
  go_enter Tryd.func16, Tryd.ntmps16
  go_wp2_with fail
  refine C.out.mono ?_
  rintro e w1 ⟨_, rfl, rfl, y1⟩
  have x := ext_trans x0 y1
  clear C y1 x0
  go_wp2
  go_ret
  exact gives_int rfl x

theorem eqPattern_c {w : World} {lo hi lo' hi' n m : Nat} {v v' : Value} {xs ys : List ByteArray} (h : RdN w lo hi v n (xs.map sv)) (h' : RdN w lo' hi' v' m (ys.map sv)) :
    Calls Tryd.prog 9 #[v, v'] w (Gives w fun r _ => r = .bool (decide (xs = ys))) := by
  obtain ⟨s, rfl, h⟩ := h
  obtain ⟨s', rfl, h'⟩ := h'
  have x0 : Below w.heap.size w ((w.alloc (.cells #[s] 24)).alloc (.cells #[s'] 24)) := ext_alloc (ext_alloc (ext_refl w) _) _
  have C := hid (eqStringS_c (h.ext x0) (h'.ext x0))
  clear h h'
  generalize decide (xs = ys) = b at C ⊢
  go_enter Tryd.func9, Tryd.ntmps9
  go_wp2_with fail
  refine C.out.mono ?_
  rintro e w1 ⟨_, rfl, rfl, y1⟩
  have x := ext_trans x0 y1
  clear C y1 x0
  cases b
  all_goals
    go_wp2
    go_ret
    exact gives_bool rfl x

theorem markPattern_c {w : World} {lo hi n : Nat} {v : Value} {cs : List Value} (h : OwnN w lo hi v n cs) {k0 : Nat} (h1 : 0 < k0) (h2 : k0 ≤ 100000000000) (hn : n ≤ 100000000000) :
    Calls Tryd.prog 10 #[v, .int .i64 k0] w fun e w' => e = .returned (.int .i64 ((k0 + n : Nat) : Int)) ∧ OwnN w' lo hi v n (marksString k0 n) ∧ Mut lo hi w w' := by
  obtain ⟨s, rfl, h⟩ := h
  have x0 : Below w.heap.size w (w.alloc (.cells #[s] 24)) := ext_alloc (ext_refl w) _
  have C := hid (markStringS_c (h.ext x0) h1 h2 hn)
  clear h
  go_enter Tryd.func10, Tryd.ntmps10
  go_wp2_with fail
  refine C.out.mono ?_
  rintro e w1 ⟨rfl, o1, m1⟩
  have m := (Mut.of_ext (lo := lo) (hi := hi) x0).trans m1
  clear C m1 x0
  go_wp2
  go_ret
  exact ⟨rfl, ⟨s, rfl, o1⟩, m⟩
theorem heldPattern_c {w : World} {lo hi n : Nat} {v : Value} {k0 : Nat} (h : RdN w lo hi v n (marksString k0 n)) (h1 : 0 < k0) (h2 : k0 ≤ 100000000000) (hn : n ≤ 100000000000) :
    Calls Tryd.prog 11 #[v, .int .i64 k0] w (Gives w fun r _ => r = .int .i64 ((k0 + n : Nat) : Int)) := by
  obtain ⟨s, rfl, h⟩ := h
  have x0 : Below w.heap.size w (w.alloc (.cells #[s] 24)) := ext_alloc (ext_refl w) _
  have C := hid (heldStringS_c (h.ext x0) h1 h2 hn)
  clear h
  go_enter Tryd.func11, Tryd.ntmps11
  go_wp2_with fail
  refine C.out.mono ?_
  rintro e w1 ⟨_, rfl, rfl, y1⟩
  have x := ext_trans x0 y1
  clear C y1 x0
  go_wp2
  go_ret
  exact gives_int rfl x
end Go.Proofs.YtoehjfcadhgpbaaDoor
