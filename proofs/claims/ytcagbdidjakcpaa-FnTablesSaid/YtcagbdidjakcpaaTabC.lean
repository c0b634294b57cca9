/- Copies of tables by the program and the reference; the place of the first greater name. Condition: the values read as entries and strings; they are not too long. -/
import Derived.Test.YtcagbdidjakcpaaTabU
import Derived.Test.YtcagbdidjakcpaaTabR
set_option linter.unusedVariables false
namespace Go.Proofs.Ytcagbdidjakcpaa
open Go.RowKit
theorem take_snoc' {α : Type} {xs : List α} {k : Nat} (h : k < xs.length) : xs.take (k + 1) = xs.take k ++ [xs[k]] := List.take_succ_eq_append_getElem h
set_option maxRecDepth 100000 in
set_option maxHeartbeats 4000000 in
theorem l6Copy_c {w : World} {lo hi n : Nat} {v : Value} {xs : List (List ByteArray × Int)} (h : RdT w lo hi v n xs) (hn : n ≤ 1099511627776) (hw : tw n xs ≤ 1099511627776) :
    Calls Try.prog 96 #[v] w (Gives w fun r w' => OwnT w' w.heap.size w'.heap.size r xs.length xs) := by
  obtain ⟨i0, hi0, hz0, hz1, hz2⟩ := info_parts info_entry
  have H1 := hid h.1
  have HW := hid hw
  have HR := hid h
  have xa := ext_alloc (ext_refl w) (.cells #[] 80)
  have oa := OwnT.none_ (w.alloc (.cells #[] 80)) w.heap.size (w.alloc (.cells #[] 80)).heap.size (Nat.le_refl _) (by simp) (heap_alloc_new w _)
  obtain ⟨a, cap, rfl, hc, hcm⟩ := h.form
  clear h hw
  go_enter Try.func96, Try.ntmps96
  go_wp2
  go_loopw [3, 4] (fun u i wr => ∃ k : Nat, k ≤ n ∧ i = .int .i64 k ∧ OwnT wr w.heap.size wr.heap.size u (xs.take k).length (xs.take k) ∧ Below w.heap.size w wr) (fun _ i _ => n - (intOf i).toNat)
  case atStart => exact ⟨0, Nat.zero_le _, rfl, by simpa using oa, xa⟩
  case round =>
    obtain ⟨k, hk, rfl, ho, hb⟩ := hrel
    clear oa xa
    by_cases hlt : k < n
    · have hkx : k < xs.length := by rw [H1.out]; exact hlt
      obtain ⟨b, off, cp, s, hv, _, _, hbs, c1, c2, r1⟩ := (HR.out.ext hb).at_ hkx
      simp only [Value.slice.injEq, true_and] at hv
      obtain ⟨rfl, rfl⟩ := hv
      have hml : (xs.take k).length ≤ k := by rw [List.length_take]; omega
      have hsl := tw_short HW.out hkx
      have HY := hid (take_snoc' hkx)
      have i0' : (0 : Int) ≤ (k : Int) := by omega
      have i1' : (k : Int) < (n : Int) := by omega
      have sb := hb.size
      generalize xs.take k = ys at *
      generalize xs[k] = e1 at *
      obtain ⟨ss, i⟩ := e1
      simp only at c2 r1 hsl
      obtain ⟨p1, q1, rfl, _⟩ := r1.form
      have C := hid (l4Copy_c ⟨_, rfl, r1⟩ (by omega))
      go_wp2_with fail
      refine C.out.mono ?_
      clear C
      rintro e w2 ⟨_, rfl, ⟨s2, rfl, os2⟩, y1⟩
      obtain ⟨p2, q2, rfl, _⟩ := os2.rd.form
      have sy := y1.size
      have y2 := ext_alloc (ext_refl w2) (.cells #[.slice p2 ss.length q2] 26)
      obtain ⟨V, hV⟩ : ∃ V, V = w2.alloc (.cells #[.slice p2 ss.length q2] 26) := ⟨_, rfl⟩
      have cT : V.cell? ⟨w2.heap.size, 0, none⟩ = some (.slice p2 ss.length q2) := by rw [hV]; simp
      rw [← hV] at y2
      have sV := y2.size
      have y3 := ext_trans y2 (Below.drew (ext_refl V))
      have y4 := ext_trans y1 y3
      have yF := ext_trans hb y4
      have sD := y4.size
      have c4 := cell_ext c2 y4
      have c5 := cell_ext cT (Below.drew (ext_refl V))
      have os3 := os2.ext y3
      obtain ⟨hxm, cs, oo, pp, ho0, h1, h2, hin, hap⟩ := ho.ext y4
      clear ho c1 c2 r1 os2 cT y2 y3 y4 y1 hb
      go_wp2_with fail
      rw [← hV]
      clear hV
      go_region_law (first | (refine step_append_exact rfl (.tmp 19) (.tmp 27) 61 rfl 80 i0 (.agg #[.slice none 0 0, .int .i64 0]) 2 32 Try.underlying61 hi0 hz0 hz1 hz2 rfl (by decide) rfl (ho0.ext (ext_alloc (ext_refl _) _)) rfl (Rd.new _ [.slice p2 ss.length q2, .int .i64 i] 80 2 1 (by decide) rfl) (by simp; exact ⟨rfl, rfl⟩) (by decide) (by omega) (by omega) ?_; intro v' w' o' hcase ho2 hmu))
      all_goals
        have y4 := ext_alloc (ext_refl V.drew) (.cells #[.slice p2 ss.length q2, .int .i64 i] 80)
        have s4 : (V.drew.alloc (.cells #[.slice p2 ss.length q2, .int .i64 i] 80)).heap.size = V.drew.heap.size + 1 := by simp
        have s5 : (V.drew.alloc (.cells #[.slice p2 ss.length q2, .int .i64 i] 80)).heap.size ≤ w'.heap.size := hmu.size
        have hsVd : V.drew.heap.size = V.heap.size := rfl
        have G := OwnT.grow (B := (V.drew.alloc (.cells #[.slice p2 ss.length q2, .int .i64 i] 80)).heap.size) rfl ((hin.ext y4).apart hmu hap) hap h1 h2 ((os3.ext y4).mut hmu (.inr (by omega))) (Nat.le_refl _) (by omega) (show wr.heap.size ≤ w2.heap.size by omega) (by omega) s5 hcase ho2 (by have := ho0.1; omega) (by omega)
        have x5 := hmu.ext (ext_trans yF y4) (by omega)
        have HG := hid G
        have HX := hid x5
        clear G x5 hmu ho2 hcase os3 c4 c5 y4 hin ho0
        go_wp2
        go_roundw
        case rel => exact ⟨k + 1, by omega, by go_num, by rw [HY.out, List.length_append]; exact HG.out, HX.out⟩
        case measure => simp [intOf]; omega
    · have e0 : xs.take k = xs := List.take_of_length_le (by rw [H1.out]; omega)
      rw [e0] at ho
      go_wp2
      go_ret
      exact gives_of _ ho hb
theorem always_c {w : World} {s : Value} {i : Int} : Calls Try.prog 126 #[.agg #[s, .int .i64 i]] w (Gives w fun r _ => r = .bool true) := by
  have x0 := ext_alloc (ext_refl w) (.cells #[s, .int .i64 i] 80)
  go_enter Try.func126, Try.ntmps126
  go_wp2
  go_ret
  exact gives_bool rfl x0
set_option maxRecDepth 100000 in
set_option maxHeartbeats 4000000 in
theorem keepAll_c {w : World} {lo hi n : Nat} {v : Value} {xs : List (List ByteArray × Int)} (h : RdT w lo hi v n xs) (hn : n ≤ 1099511627776) (hw : tw n xs ≤ 1099511627776) :
    Calls Try.prog 113 #[v, .func (.func 126) #[] #[]] w (Gives w fun r w' => OwnT w' w.heap.size w'.heap.size r xs.length xs) := by
  obtain ⟨i0, hi0, hz0, hz1, hz2⟩ := info_parts info_entry
  have H1 := hid h.1
  have HW := hid hw
  have HR := hid h
  have xa := ext_alloc (ext_refl w) (.cells #[] 80)
  have oa := OwnT.none_ (w.alloc (.cells #[] 80)) w.heap.size (w.alloc (.cells #[] 80)).heap.size (Nat.le_refl _) (by simp) (heap_alloc_new w _)
  obtain ⟨a, cap, rfl, hc, hcm⟩ := h.form
  clear h hw
  go_enter Try.func113, Try.ntmps113
  go_wp2
  go_loopw [5, 11] (fun u i wr => ∃ k : Nat, k ≤ n ∧ i = .int .i64 k ∧ OwnT wr w.heap.size wr.heap.size u (xs.take k).length (xs.take k) ∧ Below w.heap.size w wr) (fun _ i _ => n - (intOf i).toNat)
  case atStart => exact ⟨0, Nat.zero_le _, rfl, by simpa using oa, xa⟩
  case round =>
    obtain ⟨k, hk, rfl, ho, hb⟩ := hrel
    clear oa xa
    by_cases hlt : k < n
    · have hkx : k < xs.length := by rw [H1.out]; exact hlt
      obtain ⟨b, off, cp, s, hv, _, _, hbs, c1, c2, r1⟩ := (HR.out.ext hb).at_ hkx
      simp only [Value.slice.injEq, true_and] at hv
      obtain ⟨rfl, rfl⟩ := hv
      have hml : (xs.take k).length ≤ k := by rw [List.length_take]; omega
      have hsl := tw_short HW.out hkx
      have HZ := hid (take_snoc' hkx)
      have i0' : (0 : Int) ≤ (k : Int) := by omega
      have i1' : (k : Int) < (n : Int) := by omega
      generalize xs.take k = ys at *
      generalize hxk : xs[k] = e1 at *
      obtain ⟨ss, i⟩ := e1
      simp only at c2 r1 hsl
      obtain ⟨p1, q1, rfl, _⟩ := r1.form
      clear hxk
      have ya := ext_alloc (ext_refl wr) (.cells #[.slice p1 ss.length q1, .int .i64 i] 80)
      have ra := r1.ext ya
      have A0 : (wr.alloc (.cells #[.slice p1 ss.length q1, .int .i64 i] 80)).cell? ⟨wr.heap.size, 0, none⟩ = some (.slice p1 ss.length q1) := (Cell1.newAt wr _ _ 0 _ rfl).1
      have A1 : (wr.alloc (.cells #[.slice p1 ss.length q1, .int .i64 i] 80)).cell? ⟨wr.heap.size, 1, none⟩ = some (.int .i64 i) := (Cell1.newAt wr _ _ 1 _ rfl).1
      have hsz : (wr.alloc (.cells #[.slice p1 ss.length q1, .int .i64 i] 80)).heap.size = wr.heap.size + 1 := by simp
      have C := hid (always_c (s := .slice p1 ss.length q1) (i := i) (w := wr.alloc (.cells #[.slice p1 ss.length q1, .int .i64 i] 80)))
      go_wp2_with fail
      refine C.out.mono ?_
      rintro e w2 ⟨_, rfl, rfl, y1⟩
      have yd := ext_trans (ext_trans hb ya) y1
      have ho' := ((ho.mono (Nat.le_refl _) (show wr.heap.size ≤ w2.heap.size from by have := y1.size; omega)).ext ya).ext y1
      have yd2 := Below.drew yd
      have r2 := (ra.ext y1).ext (Below.drew (ext_refl w2))
      have c3 := cell_ext A0 y1
      have c4 := cell_ext A1 y1
      obtain ⟨hxm, cs, oo, pp, ho0, h1, h2, hin, hap⟩ := ho'.ext (Below.drew (ext_refl w2))
      replace h2 : oo.2 ≤ w2.drew.heap.size := h2
      replace hin : Inn w2.drew w.heap.size w2.drew.heap.size cs pp ys ys.length := hin
      have hlo2 : w.heap.size ≤ w2.drew.heap.size := yd2.size
      clear C c1 c2 r1 ra ho ho' y1 ya A0 A1
      go_wp2_with fail
      go_region_law (first | (refine step_append_exact rfl (.tmp 18) (.tmp 25) 61 rfl 80 i0 (.agg #[.slice none 0 0, .int .i64 0]) 2 32 Try.underlying61 hi0 hz0 hz1 hz2 rfl (by decide) rfl (hoX.ext (ext_alloc (ext_refl _) _)) rfl (Rd.new _ [.slice p2 ss.length q2, .int .i64 i] 80 2 1 (by decide) rfl) (by simp; exact ⟨rfl, rfl⟩) (by decide) (by omega) (by omega) ?_; intro v' w' o' hcase ho2 hmu) | (go_simp; go_at_call 67; refine (copyName_c ⟨_, rfl, r2⟩ (by omega)).mono ?_; rintro e w3 ⟨_, rfl, ⟨s2, rfl, os2⟩, y3⟩; obtain ⟨p2, q2, rfl, _⟩ := os2.rd.form; have c5 := cell_ext (show w2.drew.cell? _ = _ from c4) y3; have hoX := ho0.ext y3))
      all_goals
        have y4 := ext_alloc (ext_refl w3) (.cells #[.slice p2 ss.length q2, .int .i64 i] 80)
        have s4 : (w3.alloc (.cells #[.slice p2 ss.length q2, .int .i64 i] 80)).heap.size = w3.heap.size + 1 := by simp
        have s3 := y3.size
        have s5 := hmu.size
        have G := OwnT.grow (B := (w3.alloc (.cells #[.slice p2 ss.length q2, .int .i64 i] 80)).heap.size) rfl (((hin.ext y3).ext y4).apart hmu hap) hap h1 h2 ((os2.ext y4).mut hmu (.inr (by omega))) (Nat.le_refl _) hlo2 s3 (by omega) s5 hcase ho2 (by have := hoX.1; omega) (by omega)
        have x5 := hmu.ext (ext_trans (ext_trans yd2 y3) y4) (by omega)
        have HG := hid G
        have HX := hid x5
        clear G x5 hmu ho2 hcase os2 hoX c4 c5 y3 y4 hin ho0
        go_wp2
        go_roundw
        case rel => exact ⟨k + 1, by omega, by go_num, by rw [HZ.out, List.length_append]; exact HG.out, HX.out⟩
        case measure => simp [intOf]; omega
    · have e0 : xs.take k = xs := List.take_of_length_le (by rw [H1.out]; omega)
      rw [e0] at ho
      go_wp2
      go_ret
      exact gives_of _ ho hb
theorem copyTable_c {w : World} {lo hi n : Nat} {v : Value} {xs : List (List ByteArray × Int)} (h : RdT w lo hi v n xs) (hn : n ≤ 1099511627776) (hw : tw n xs ≤ 1099511627776) :
    Calls Try.prog 100 #[v] w (Gives w fun r w' => OwnT w' w.heap.size w'.heap.size r xs.length xs) := by
  have C := hid (keepAll_c h hn hw)
  clear h
  go_enter Try.func100, Try.ntmps100
  go_wp2_with fail
  refine C.out.mono ?_
  rintro e w1 ⟨v1, rfl, o1, y1⟩
  clear C
  go_wp2
  go_ret
  exact gives_of _ o1 y1
set_option maxHeartbeats 1000000 in
theorem isGreater_c {w : World} {lo hi lo' hi' n m : Nat} {s p : Value} {q : Addr} {ss key : List ByteArray} {i : Int} (h : Rd w lo hi 1 s n (ss.map sv)) (h' : Rd w lo' hi' 1 p m (key.map sv)) (hc : w.cell? q = some p) {b : Bool} (hb : decide (0 < cn ss key) = b) :
    Calls Try.prog 103 #[.agg #[s, .int .i64 i], .pointer (some q)] w (Gives w fun r _ => r = .bool b) := by
  have x0 := ext_alloc (ext_refl w) (.cells #[s, .int .i64 i] 80)
  have C := hid (implCompareNames_c ⟨s, rfl, h.ext x0⟩ ⟨p, rfl, h'.ext x0⟩)
  have hq := World.block_lt_of_cell? w q hc
  have c1 := cell_ext hc x0
  obtain ⟨qb, qo, qs⟩ := q
  have hsp : qs = none := by simpa using World.cell?_spot hc
  subst hsp
  clear h h'
  generalize cn ss key = e0 at C hb
  have HB := hid hb
  clear hb
  go_enter Try.func103, Try.ntmps103
  go_wp2_with fail
  refine C.out.mono ?_
  rintro e w1 ⟨_, rfl, rfl, y1⟩
  have x := ext_trans x0 y1
  clear C y1 x0 c1 hc
  go_wp2
  go_ret
  exact gives_bool HB.out x
set_option maxHeartbeats 1000000 in
theorem indexGreater_c {w : World} {lo hi lo' hi' n m : Nat} {v p : Value} {q : Addr} {xs : List (List ByteArray × Int)} {key : List ByteArray} (h : RdT w lo hi v n xs) (h' : Rd w lo' hi' 1 p m (key.map sv)) (hq : w.cell? q = some p) :
    Calls Try.prog 102 #[v, .func (.func 103) #[] #[.pointer (some q)]] w (Gives w fun r _ => r = .int .i64 (gi xs key 0)) := by
  have H1 := hid h.1
  have HR := hid h
  have HN := hid h'
  have HQ := hid hq
  obtain ⟨a, cap, rfl, hc, hm⟩ := h.form
  clear h h' hq
  go_enter Try.func102, Try.ntmps102
  go_wp2
  go_loopw [8] (fun i wr => ∃ k : Nat, k ≤ n ∧ i = .int .i64 k ∧ Hid (gi xs key 0 = gi (xs.drop k) key k) ∧ Below w.heap.size w wr) (fun i _ => n - (intOf i).toNat)
  case atStart => exact ⟨0, Nat.zero_le _, rfl, hid (by simp), ext_refl _⟩
  case round =>
    obtain ⟨k, hk, rfl, HP, hb⟩ := hrel
    by_cases hlt : k < n
    · have hkx : k < xs.length := by rw [H1.out]; exact hlt
      obtain ⟨b, off, cp, s, hv, _, _, hbs, c1, c2, r1⟩ := (HR.out.ext hb).at_ hkx
      simp only [Value.slice.injEq, true_and] at hv
      obtain ⟨rfl, rfl⟩ := hv
      have rp := HN.out.ext hb
      have cq := cell_ext HQ.out hb
      have HS := hid (gi_step (key := key) hkx)
      have i0 : (0 : Int) ≤ (k : Int) := by omega
      have i1 : (k : Int) < (n : Int) := by omega
      generalize xs[k] = e1 at *
      obtain ⟨ss, i⟩ := e1
      simp only at r1 c2
      have HS' : Hid (gi (xs.drop k) key k = if 0 < cn ss key then (k : Int) else gi (xs.drop (k + 1)) key ((k + 1 : Nat) : Int)) := HS
      clear HS
      by_cases g : 0 < cn ss key
      · have HV := hid (show gi xs key 0 = k by rw [HP.out, HS'.out, if_pos g])
        have C := hid (isGreater_c (i := i) r1 rp cq (decide_eq_true g))
        clear g HS' HP r1 rp
        go_wp2_with fail
        refine C.out.mono ?_
        rintro e w2 ⟨_, rfl, rfl, y1⟩
        have x2 := ext_trans hb y1
        clear C y1 c1 c2 cq
        go_wp2
        go_ret
        exact gives_int HV.out.symm x2
      · have HV := hid (show gi xs key 0 = gi (xs.drop (k + 1)) key ((k + 1 : Nat) : Int) by rw [HP.out, HS'.out, if_neg g])
        have C := hid (isGreater_c (i := i) r1 rp cq (decide_eq_false g))
        clear g HS' HP r1 rp
        go_wp2_with fail
        refine C.out.mono ?_
        rintro e w2 ⟨_, rfl, rfl, y1⟩
        have x2 := ext_trans hb y1
        clear C y1 c1 c2 cq
        go_wp2
        go_roundw
        case rel => exact ⟨k + 1, by omega, by go_num, HV, x2⟩
        case measure => simp [intOf]; omega
    · have HV := hid (show gi xs key 0 = -1 by rw [HP.out, gi_end (by rw [H1.out]; omega)])
      go_wp2
      go_ret
      exact gives_int HV.out.symm hb
end Go.Proofs.Ytcagbdidjakcpaa
