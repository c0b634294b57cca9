/- HasPrefix of both sides: whether the head of one list is the other. Condition: the values read as strings. -/
import Derived.Test.YtoehjfcadhgpbaaDoorTr
import Derived.Test.YtoehjfcadhgpbaaDoorCmp
import Derived.Deep.RegionHeld3
set_option linter.unusedVariables false
namespace Go.Proofs.YtoehjfcadhgpbaaDoor
open Go.RowKit
/-- The second list heads the first. -/
def hp (xs ys : List ByteArray) : Bool := decide (xs.take ys.length = ys)
theorem hp_long {xs ys : List ByteArray} (h : ¬ ys.length ≤ xs.length) : hp xs ys = false := by
  unfold hp
  refine decide_eq_false fun e => ?_
  have := congrArg List.length e
  rw [List.length_take] at this
  omega
theorem trn_nat {m n : Nat} (h : m ≤ n) : trn (m : Int) n = m := by unfold trn; omega
set_option maxRecDepth 100000 in
set_option maxHeartbeats 1000000 in
theorem implHasPrefix_c {w : World} {lo hi lo' hi' n m : Nat} {v v' : Value} {xs ys : List ByteArray} (h : RdN w lo hi v n (xs.map sv)) (h' : RdN w lo' hi' v' m (ys.map sv)) :
    Calls Tryd.prog 53 #[v, v'] w (Gives w fun r _ => r = .bool (hp xs ys)) := by
  obtain ⟨s, rfl, h⟩ := h
  obtain ⟨s', rfl, h'⟩ := h'
  obtain ⟨a, cap, rfl, hc, hm⟩ := h.form'
  obtain ⟨a', cap', rfl, hc', hm'⟩ := h'.form'
  have hlx : xs.length = n := by have := h.1; simpa using this
  have hly : ys.length = m := by have := h'.1; simpa using this
  obtain ⟨W, hW⟩ : ∃ W, W = (w.alloc (.cells #[.slice a n cap] 30)).alloc (.cells #[.slice a' m cap'] 30) := ⟨_, rfl⟩
  have x0 : Below w.heap.size w W := by rw [hW]; exact ext_alloc (ext_alloc (ext_refl w) _) _
  have k0 : W.cell? ⟨w.heap.size, 0, none⟩ = some (.slice a n cap) := by rw [hW]; simp
  have k1 : W.cell? ⟨w.heap.size + 1, 0, none⟩ = some (.slice a' m cap') := by rw [hW]; simp
  have x := Below.drew x0
  have yd := Below.drew (ext_refl W)
  have j0 := k0
  have j1 := k1
  replace k0 := cell_ext k0 yd
  replace k1 := cell_ext k1 yd
  replace h := (h.ext x0).ext yd
  replace h' := (h'.ext x0).ext yd
  by_cases hmn : m ≤ n
  · have T := h.take hmn
    rw [← List.map_take] at T
    have C := hid (slicesEqualString_c T h')
    have HV := hid (show hp xs ys = decide (xs.take m = ys) by rw [hp, hly])
    generalize decide (xs.take m = ys) = b at C HV
    have HW := hid hW
    clear h h' T hW hlx hly yd x0 j0 j1
    have g1 : (m : Int) ≤ (n : Int) := by omega
    have g2 : decide ((m : Int) ≤ (n : Int)) = true := decide_eq_true g1
    have g2' : decide (m ≤ n) = true := decide_eq_true hmn
    have g3 : (0 : Int) ≤ (m : Int) := by omega
    have g4 : (m : Int) ≤ (cap : Int) := by omega
    go_enter Tryd.func53, Tryd.ntmps53
    go_wp2_with fail
    rw [← HW.out]
    go_region_held3 (fun w' => w'.cell? ⟨w.heap.size, 0, none⟩ = some (.slice a n cap) ∧ w'.cell? ⟨w.heap.size + 1, 0, none⟩ = some (.slice a' m cap'))
      (first | exact ⟨k0, k1⟩)
      (first
        | (go_at_call 86; (with_reducible refine C.out.mono ?_); clear C; rintro e w1 ⟨_, rfl, rfl, y1⟩; replace k0 := cell_ext k0 y1; replace k1 := cell_ext k1 y1))
    replace x := ext_trans x y1
    go_wp2
    go_ret
    exact gives_bool HV.out.symm x
  · have HV := hid (hp_long (xs := xs) (ys := ys) (by omega))
    have HW := hid hW
    clear h h' hW hlx hly yd x k0 k1
    have g1 : ¬ (m : Int) ≤ (n : Int) := by omega
    have g2 : decide ((m : Int) ≤ (n : Int)) = false := decide_eq_false g1
    have g2' : decide (m ≤ n) = false := decide_eq_false hmn
    go_enter Tryd.func53, Tryd.ntmps53
    go_wp2_with fail
    rw [← HW.out]
    go_quiet (fail)
    go_wp2
    go_ret
    exact gives_bool HV.out.symm (ext_trans x0 (ext_drewN _ _))
set_option maxRecDepth 100000 in
set_option maxHeartbeats 1000000 in
theorem specHasPrefix_c {w : World} {lo hi lo' hi' n m : Nat} {v v' : Value} {xs ys : List ByteArray} (h : RdN w lo hi v n (xs.map sv)) (h' : RdN w lo' hi' v' m (ys.map sv)) (hn : n ≤ 8796093022207) :
    Calls Tryd.prog 54 #[v, v'] w (Gives w fun r _ => r = .bool (hp xs ys)) := by
  obtain ⟨s, rfl, h⟩ := h
  obtain ⟨s', rfl, h'⟩ := h'
  obtain ⟨a, cap, rfl, hc, hm⟩ := h.form'
  obtain ⟨a', cap', rfl, hc', hm'⟩ := h'.form'
  have hlx : xs.length = n := by have := h.1; simpa using this
  have hly : ys.length = m := by have := h'.1; simpa using this
  obtain ⟨W, hW⟩ : ∃ W, W = (w.alloc (.cells #[.slice a n cap] 30)).alloc (.cells #[.slice a' m cap'] 30) := ⟨_, rfl⟩
  have x0 : Below w.heap.size w W := by rw [hW]; exact ext_alloc (ext_alloc (ext_refl w) _) _
  have k0 : W.cell? ⟨w.heap.size, 0, none⟩ = some (.slice a n cap) := by rw [hW]; simp
  have k1 : W.cell? ⟨w.heap.size + 1, 0, none⟩ = some (.slice a' m cap') := by rw [hW]; simp
  have x := Below.drew x0
  have yd := Below.drew (ext_refl W)
  have j0 := k0
  have j1 := k1
  replace k0 := cell_ext k0 yd
  replace k1 := cell_ext k1 yd
  replace h := (h.ext x0).ext yd
  replace h' := (h'.ext x0).ext yd
  by_cases hmn : m ≤ n
  · have C := hid (specTruncate_c (k := (m : Int)) ⟨_, rfl, h⟩ hn)
    rw [trn_nat hmn] at C
    have HV := hid (show hp xs ys = decide (xs.take m = ys) by rw [hp, hly])
    have HW := hid hW
    clear h hW hlx hly yd x0 j0 j1
    have g1 : (m : Int) ≤ (n : Int) := by omega
    have g2 : decide ((m : Int) ≤ (n : Int)) = true := decide_eq_true g1
    have g2' : decide (m ≤ n) = true := decide_eq_true hmn
    go_enter Tryd.func54, Tryd.ntmps54
    go_wp2_with fail
    rw [← HW.out]
    go_region_held3 (fun w' => w'.cell? ⟨w.heap.size, 0, none⟩ = some (.slice a n cap) ∧ w'.cell? ⟨w.heap.size + 1, 0, none⟩ = some (.slice a' m cap'))
      (first | exact ⟨k0, k1⟩)
      (first
        | (go_at_call 48; (with_reducible refine C.out.mono ?_); clear C; rintro e w1 ⟨u, rfl, o1, y1⟩; replace h' := h'.ext y1; replace x := ext_trans x y1; replace k0 := cell_ext k0 y1; replace k1 := cell_ext k1 y1)
        | (go_at_call 87; have C2 := specEqualNames_c o1.rd ⟨_, rfl, h'⟩; (with_reducible refine C2.mono ?_); clear C2; rintro e w2 ⟨_, rfl, rfl, y2⟩; replace x := ext_trans x y2; replace k0 := cell_ext k0 y2; replace k1 := cell_ext k1 y2))
    generalize decide (xs.take m = ys) = b at HV ⊢
    go_wp2
    go_ret
    exact gives_bool HV.out.symm x
  · have HV := hid (hp_long (xs := xs) (ys := ys) (by omega))
    have HW := hid hW
    clear h h' hW hlx hly yd x k0 k1
    have g1 : ¬ (m : Int) ≤ (n : Int) := by omega
    have g2 : decide ((m : Int) ≤ (n : Int)) = false := decide_eq_false g1
    have g2' : decide (m ≤ n) = false := decide_eq_false hmn
    go_enter Tryd.func54, Tryd.ntmps54
    go_wp2_with fail
    rw [← HW.out]
    go_quiet (fail)
    go_wp2
    go_ret
    exact gives_bool HV.out.symm (ext_trans x0 (ext_drewN _ _))
end Go.Proofs.YtoehjfcadhgpbaaDoor
