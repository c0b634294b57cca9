/- LookupEntry of both sides: the first entry of a name. Condition: the values read as entries and strings. -/
import Derived.Test.YtcagbdidjakcpaaTabE
set_option linter.unusedVariables false
namespace Go.Proofs.Ytcagbdidjakcpaa
open Go.RowKit
/-- The place of the first entry of a name, from place k on; -1 if none is. -/
def ti : List (List ByteArray × Int) → List ByteArray → Int → Int
  | e :: r, key, k => if e.1 = key then k else ti r key (k + 1)
  | [], _, _ => -1
theorem ti_step {xs : List (List ByteArray × Int)} {key : List ByteArray} {k : Nat} (h : k < xs.length) : ti (xs.drop k) key k = if xs[k].1 = key then (k : Int) else ti (xs.drop (k + 1)) key ((k + 1 : Nat) : Int) := by
  rw [List.drop_eq_getElem_cons h, ti]
  rfl
theorem ti_end {xs : List (List ByteArray × Int)} {key : List ByteArray} {k : Nat} (h : xs.length ≤ k) : ti (xs.drop k) key k = -1 := by
  rw [List.drop_eq_nil_of_le h, ti]
def lk (xs : List (List ByteArray × Int)) (key : List ByteArray) : Int × Bool := if ti xs key 0 < 0 then (0, false) else ((xs[(ti xs key 0).toNat]?.map (·.2)).getD 0, true)
theorem lk_no {xs : List (List ByteArray × Int)} {key : List ByteArray} (h : ti xs key 0 = -1) : lk xs key = (0, false) := by unfold lk; rw [h, if_pos (by omega)]
theorem lk_at {xs : List (List ByteArray × Int)} {key : List ByteArray} {k : Nat} (h : ti xs key 0 = (k : Int)) (hk : k < xs.length) : lk xs key = (xs[k].2, true) := by
  unfold lk
  rw [h, if_neg (by omega), Int.toNat_natCast, List.getElem?_eq_getElem hk]
  rfl
set_option maxRecDepth 100000 in
set_option maxHeartbeats 1000000 in
theorem l6Find_c {w : World} {lo hi lo' hi' n m : Nat} {v v' : Value} {xs : List (List ByteArray × Int)} {key : List ByteArray} (h : RdT w lo hi v n xs) (h' : RdN w lo' hi' v' m (key.map sv)) :
    Calls Try.prog 97 #[v, v'] w (Gives w fun r _ => ∃ j : Int, r = .int .i64 j ∧ Hid (ti xs key 0 = j) ∧ (j = -1 ∨ 0 ≤ j ∧ j < n)) := by
  obtain ⟨p, rfl, h'⟩ := h'
  have H1 := hid h.1
  obtain ⟨W, hW⟩ : ∃ W, W = w.alloc (.cells #[p] 26) := ⟨_, rfl⟩
  have x0 : Below w.heap.size w W := by rw [hW]; exact ext_alloc (ext_refl w) _
  have cP : W.cell? ⟨w.heap.size, 0, none⟩ = some p := by rw [hW]; simp
  have HR := hid (h.ext x0)
  have HN := hid (h'.ext x0)
  obtain ⟨a, cap, rfl, hc, hm⟩ := h.form
  clear h h'
  go_enter Try.func97, Try.ntmps97
  go_wp2
  rw [← hW]
  clear hW
  go_loopw [5] (fun i wr => ∃ k : Nat, k ≤ n ∧ i = .int .i64 k ∧ Hid (ti xs key 0 = ti (xs.drop k) key k) ∧ Below W.heap.size W wr) (fun i _ => n - (intOf i).toNat)
  case atStart => exact ⟨0, Nat.zero_le _, rfl, hid (by simp), ext_refl _⟩
  case round =>
    obtain ⟨k, hk, rfl, HP, hb⟩ := hrel
    by_cases hlt : k < n
    · have hkx : k < xs.length := by rw [H1.out]; exact hlt
      have yd := Below.drew hb
      obtain ⟨b, off, cp, s, hv, _, _, hbs, c1, c2, r1⟩ := (HR.out.ext yd).at_ hkx
      simp only [Value.slice.injEq, true_and] at hv
      obtain ⟨rfl, rfl⟩ := hv
      have rp := HN.out.ext yd
      have cp1 := cell_ext cP yd
      have HS := hid (ti_step (key := key) hkx)
      have i0 : (0 : Int) ≤ (k : Int) := by omega
      have i1 : (k : Int) < (n : Int) := by omega
      clear cP c2
      generalize xs[k] = e1 at *
      obtain ⟨ss, i⟩ := e1
      simp only at r1
      have C0 := hid (fun (V : World) (q1 : Rd V lo hi 1 s ss.length (ss.map sv)) (q2 : Rd V lo' hi' 1 p m (key.map sv)) => specEqualNames_c ⟨s, rfl, q1⟩ ⟨p, rfl, q2⟩)
      have HS' : Hid (ti (xs.drop k) key k = if ss = key then (k : Int) else ti (xs.drop (k + 1)) key ((k + 1 : Nat) : Int)) := HS
      clear HS
      by_cases g : ss = key
      · have HV := hid (show ti xs key 0 = k by rw [HP.out, HS'.out, if_pos g])
        rw [decide_eq_true g] at C0
        clear g HS' HP
        go_wp2_with fail
        go_region_held3 (fun w' => w'.cell? ⟨b, off + k * 2, none⟩ = some s ∧ w'.cell? ⟨w.heap.size, 0, none⟩ = some p)
          (first | exact ⟨c1, cp1⟩)
          (first
            | (go_at_call 116; have C := C0.out _ r1 rp; (with_reducible refine C.mono ?_); clear C; rintro e w2 ⟨_, rfl, rfl, y1⟩; replace yd := ext_trans yd y1; replace c1 := cell_ext c1 y1; replace cp1 := cell_ext cp1 y1))
        clear c1 cp1 C0
        go_wp2
        go_ret
        exact gives_of _ ⟨_, rfl, HV, Or.inr ⟨by omega, by omega⟩⟩ (ext_trans x0 yd)
      · have HV := hid (show ti xs key 0 = ti (xs.drop (k + 1)) key ((k + 1 : Nat) : Int) by rw [HP.out, HS'.out, if_neg g])
        rw [decide_eq_false g] at C0
        clear g HS' HP
        go_wp2_with fail
        go_region_held3 (fun w' => w'.cell? ⟨b, off + k * 2, none⟩ = some s ∧ w'.cell? ⟨w.heap.size, 0, none⟩ = some p)
          (first | exact ⟨c1, cp1⟩)
          (first
            | (go_at_call 116; have C := C0.out _ r1 rp; (with_reducible refine C.mono ?_); clear C; rintro e w2 ⟨_, rfl, rfl, y1⟩; replace yd := ext_trans yd y1; replace c1 := cell_ext c1 y1; replace cp1 := cell_ext cp1 y1))
        clear c1 cp1 C0
        go_wp2
        go_roundw
        case rel => exact ⟨k + 1, by omega, by go_num, HV, yd⟩
        case measure => simp [intOf]; omega
    · have HV := hid (show ti xs key 0 = -1 by rw [HP.out, ti_end (by rw [H1.out]; omega)])
      go_wp2
      go_ret
      exact gives_of _ ⟨_, rfl, HV, Or.inl rfl⟩ (ext_trans x0 hb)
set_option maxHeartbeats 1000000 in
theorem isName_c {w : World} {lo hi lo' hi' n m : Nat} {s p : Value} {q : Addr} {ss key : List ByteArray} {i : Int} (h : Rd w lo hi 1 s n (ss.map sv)) (h' : Rd w lo' hi' 1 p m (key.map sv)) (hc : w.cell? q = some p) :
    Calls Try.prog 127 #[.agg #[s, .int .i64 i], .pointer (some q)] w (Gives w fun r _ => r = .bool (decide (ss = key))) := by
  have x0 := ext_alloc (ext_refl w) (.cells #[s, .int .i64 i] 80)
  have C := hid (implEqualNames_c ⟨s, rfl, h.ext x0⟩ ⟨p, rfl, h'.ext x0⟩)
  have hq := World.block_lt_of_cell? w q hc
  have c1 := cell_ext hc x0
  obtain ⟨qb, qo, qs⟩ := q
  have hsp : qs = none := by simpa using World.cell?_spot hc
  subst hsp
  clear h h'
  generalize decide (ss = key) = e0 at C ⊢
  go_enter Try.func127, Try.ntmps127
  go_wp2_with fail
  refine C.out.mono ?_
  rintro e w1 ⟨_, rfl, rfl, y1⟩
  have x := ext_trans x0 y1
  clear C y1 x0 c1 hc
  go_wp2
  go_ret
  exact gives_bool rfl x
set_option maxHeartbeats 1000000 in
theorem indexFunc_c {w : World} {lo hi lo' hi' n m : Nat} {v p : Value} {q : Addr} {xs : List (List ByteArray × Int)} {key : List ByteArray} (h : RdT w lo hi v n xs) (h' : Rd w lo' hi' 1 p m (key.map sv)) (hq : w.cell? q = some p) :
    Calls Try.prog 102 #[v, .func (.func 127) #[] #[.pointer (some q)]] w (Gives w fun r _ => ∃ j : Int, r = .int .i64 j ∧ Hid (ti xs key 0 = j) ∧ (j = -1 ∨ 0 ≤ j ∧ j < n)) := by
  have H1 := hid h.1
  have HR := hid h
  have HN := hid h'
  have HQ := hid hq
  obtain ⟨a, cap, rfl, hc, hm⟩ := h.form
  clear h h' hq
  go_enter Try.func102, Try.ntmps102
  go_wp2
  go_loopw [8] (fun i wr => ∃ k : Nat, k ≤ n ∧ i = .int .i64 k ∧ Hid (ti xs key 0 = ti (xs.drop k) key k) ∧ Below w.heap.size w wr) (fun i _ => n - (intOf i).toNat)
  case atStart => exact ⟨0, Nat.zero_le _, rfl, hid (by simp), ext_refl _⟩
  case round =>
    obtain ⟨k, hk, rfl, HP, hb⟩ := hrel
    by_cases hlt : k < n
    · have hkx : k < xs.length := by rw [H1.out]; exact hlt
      obtain ⟨b, off, cp, s, hv, _, _, hbs, c1, c2, r1⟩ := (HR.out.ext hb).at_ hkx
      simp only [Value.slice.injEq, true_and] at hv
      obtain ⟨rfl, rfl⟩ := hv
      have rp := HN.out.ext hb
      have cq := cell_ext HQ.out hb
      have HS := hid (ti_step (key := key) hkx)
      have i0 : (0 : Int) ≤ (k : Int) := by omega
      have i1 : (k : Int) < (n : Int) := by omega
      generalize xs[k] = e1 at *
      obtain ⟨ss, i⟩ := e1
      simp only at r1 c2
      have HS' : Hid (ti (xs.drop k) key k = if ss = key then (k : Int) else ti (xs.drop (k + 1)) key ((k + 1 : Nat) : Int)) := HS
      have C := hid (isName_c (i := i) r1 rp cq)
      clear HS r1 rp
      by_cases g : ss = key
      · have HV := hid (show ti xs key 0 = k by rw [HP.out, HS'.out, if_pos g])
        rw [decide_eq_true g] at C
        clear g HS' HP
        go_wp2_with fail
        refine C.out.mono ?_
        rintro e w2 ⟨_, rfl, rfl, y1⟩
        have x2 := ext_trans hb y1
        clear C y1 c1 c2 cq
        go_wp2
        go_ret
        exact gives_of _ ⟨_, rfl, HV, Or.inr ⟨by omega, by omega⟩⟩ x2
      · have HV := hid (show ti xs key 0 = ti (xs.drop (k + 1)) key ((k + 1 : Nat) : Int) by rw [HP.out, HS'.out, if_neg g])
        rw [decide_eq_false g] at C
        clear g HS' HP
        go_wp2_with fail
        refine C.out.mono ?_
        rintro e w2 ⟨_, rfl, rfl, y1⟩
        have x2 := ext_trans hb y1
        clear C y1 c1 c2 cq
        go_wp2
        go_roundw
        case rel => exact ⟨k + 1, by omega, by go_num, HV, x2⟩
        case measure => simp [intOf]; omega
    · have HV := hid (show ti xs key 0 = -1 by rw [HP.out, ti_end (by rw [H1.out]; omega)])
      go_wp2
      go_ret
      exact gives_of _ ⟨_, rfl, HV, Or.inl rfl⟩ hb
theorem indexOfName_c {w : World} {lo hi lo' hi' n m : Nat} {v v' : Value} {xs : List (List ByteArray × Int)} {key : List ByteArray} (h : RdT w lo hi v n xs) (h' : RdN w lo' hi' v' m (key.map sv)) :
    Calls Try.prog 101 #[v, v'] w (Gives w fun r _ => ∃ j : Int, r = .int .i64 j ∧ Hid (ti xs key 0 = j) ∧ (j = -1 ∨ 0 ≤ j ∧ j < n)) := by
  obtain ⟨p, rfl, h'⟩ := h'
  have x0 := ext_alloc (ext_refl w) (.cells #[p] 26)
  have C := hid (indexFunc_c (q := ⟨w.heap.size, 0, none⟩) (h.ext x0) (h'.ext x0) (by simp))
  clear h h'
  go_enter Try.func101, Try.ntmps101
  go_wp2_with fail
  refine C.out.mono ?_
  rintro e w1 ⟨_, rfl, ⟨j, rfl, HJ, hj⟩, y1⟩
  have x := ext_trans x0 y1
  clear C y1 x0
  go_wp2
  go_ret
  exact gives_of _ ⟨j, rfl, HJ, hj⟩ x
set_option maxHeartbeats 1000000 in
theorem specLookupEntry_c {w : World} {lo hi lo' hi' n m : Nat} {v v' : Value} {xs : List (List ByteArray × Int)} {key : List ByteArray} (h : RdT w lo hi v n xs) (h' : RdN w lo' hi' v' m (key.map sv)) :
    Calls Try.prog 52 #[v, v'] w (Gives w fun r _ => r = .tuple #[.int .i64 (lk xs key).1, .bool (lk xs key).2]) := by
  obtain ⟨p, rfl, h'⟩ := h'
  have x0 := ext_alloc (ext_refl w) (.cells #[p] 26)
  have C := hid (l6Find_c (h.ext x0) ⟨p, rfl, h'.ext x0⟩)
  have H1 := hid h.1
  have HR := hid h
  obtain ⟨a, cap, rfl, hc, hm⟩ := h.form
  clear h h'
  go_enter Try.func52, Try.ntmps52
  go_wp2_with fail
  refine C.out.mono ?_
  rintro e w1 ⟨_, rfl, ⟨j, rfl, HJ, hj⟩, y1⟩
  have x := ext_trans x0 y1
  clear C y1 x0
  rcases hj with rfl | ⟨hj0, hj1⟩
  · have HV := hid (lk_no HJ.out)
    go_wp2
    go_ret2
    exact gives_of _ (by rw [HV.out]; rfl) x
  · obtain ⟨k, rfl⟩ := Int.eq_ofNat_of_zero_le hj0
    have hkx : k < xs.length := by rw [H1.out]; omega
    obtain ⟨b, off, cp, s, hv, _, _, hbs, c1, c2, r1⟩ := (HR.out.ext x).at_ hkx
    simp only [Value.slice.injEq, true_and] at hv
    obtain ⟨rfl, rfl⟩ := hv
    have HV := hid (lk_at HJ.out hkx)
    have hn : decide ((k : Int) < 0) = false := decide_eq_false (by omega)
    clear HJ c1 r1
    generalize xs[k] = e1 at *
    obtain ⟨ss, i⟩ := e1
    simp only at c2
    go_wp2
    go_ret2
    exact gives_of _ (by rw [HV.out]; rfl) x
set_option maxHeartbeats 1000000 in
theorem implLookupEntry_c {w : World} {lo hi lo' hi' n m : Nat} {v v' : Value} {xs : List (List ByteArray × Int)} {key : List ByteArray} (h : RdT w lo hi v n xs) (h' : RdN w lo' hi' v' m (key.map sv)) :
    Calls Try.prog 51 #[v, v'] w (Gives w fun r _ => r = .tuple #[.int .i64 (lk xs key).1, .bool (lk xs key).2]) := by
  obtain ⟨p, rfl, h'⟩ := h'
  have x0 := ext_alloc (ext_refl w) (.cells #[p] 26)
  have C := hid (indexOfName_c (h.ext x0) ⟨p, rfl, h'.ext x0⟩)
  have H1 := hid h.1
  have HR := hid h
  obtain ⟨a, cap, rfl, hc, hm⟩ := h.form
  clear h h'
  go_enter Try.func51, Try.ntmps51
  go_wp2_with fail
  refine C.out.mono ?_
  rintro e w1 ⟨_, rfl, ⟨j, rfl, HJ, hj⟩, y1⟩
  have x := ext_trans x0 y1
  clear C y1 x0
  rcases hj with rfl | ⟨hj0, hj1⟩
  · have HV := hid (lk_no HJ.out)
    go_wp2
    go_ret2
    exact gives_of _ (by rw [HV.out]; rfl) x
  · obtain ⟨k, rfl⟩ := Int.eq_ofNat_of_zero_le hj0
    have hkx : k < xs.length := by rw [H1.out]; omega
    obtain ⟨b, off, cp, s, hv, _, _, hbs, c1, c2, r1⟩ := (HR.out.ext x).at_ hkx
    simp only [Value.slice.injEq, true_and] at hv
    obtain ⟨rfl, rfl⟩ := hv
    have HV := hid (lk_at HJ.out hkx)
    have hn : decide ((k : Int) < 0) = false := decide_eq_false (by omega)
    clear HJ c1 r1
    generalize xs[k] = e1 at *
    obtain ⟨ss, i⟩ := e1
    simp only at c2
    go_wp2
    go_ret2
    exact gives_of _ (by rw [HV.out]; rfl) x
end Go.Proofs.Ytcagbdidjakcpaa
