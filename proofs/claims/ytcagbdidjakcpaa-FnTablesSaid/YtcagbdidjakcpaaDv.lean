/- l6Any: a table that the reference draws, some not right. Condition: the cursor lies in a block of its own and reads its bytes. -/
import Derived.Test.YtcagbdidjakcpaaDu
set_option linter.unusedVariables false
namespace Go.Proofs.Ytcagbdidjakcpaa
open Go.RowKit
/-- A drawn table: it reads, its names are small, it is not long. -/
def TabD (base : Nat) (r : Value) (w' : World) : Prop := ∃ ts : List (List ByteArray × Int), RdT w' base w'.heap.size r ts.length ts ∧ ts.length ≤ 21 ∧ TS ts
set_option maxRecDepth 100000 in
set_option maxHeartbeats 8000000 in
theorem l6Any_c {w : World} {c lo hi n : Nat} {cv : Value} {xs : List UInt8} (hc : CurAt w c cv n) (hr : Rd w lo hi 1 cv n (xs.map bv)) (hd : c < lo ∨ hi ≤ c) (hhi : hi ≤ w.heap.size) (hcs : c < w.heap.size) :
    Calls Try.prog 107 #[.pointer (some ⟨c, 0, none⟩)] w fun e w' => ∃ r : Value, e = .returned r ∧ TabD w.heap.size r w' ∧ CurAt w' c cv n ∧ Mut c (c + 1) w w' := by
  obtain ⟨i0, hi0, hz0, hz1, hz2⟩ := info_parts info_entry
  have C := hid (l6Draw_c hc hr hd hhi hcs)
  have HRw := hid (fun (V : World) (q : Mut c (c + 1) w V) => hr.mut q (by omega))
  clear hc hr
  go_enter Try.func107, Try.ntmps107
  go_wp2_with fail
  refine C.out.mono ?_
  clear C
  rintro e w1 ⟨u1, ts, rfl, o1, hl1, hts, hc1, m1⟩
  have s1 := m1.size
  have HTS := hid hts
  have htw := hts.tw
  have hsz := HTS
  obtain ⟨a1, c1, rfl, _⟩ := o1.rd.form
  have C := hid (l1Below_c (m := 10) hc1 (HRw.out _ m1) hd (by omega))
  clear hc1 hts
  go_wp2_with fail
  refine C.out.mono ?_
  clear C
  rintro e w2 ⟨x, rfl, x0, x1, hc2, m2⟩
  have s2 := m2.size
  replace o1 := o1.mut m2 (by omega)
  have M := m1.trans m2
  clear m1 m2
  by_cases h0 : x = 0
  · subst h0
    have C := hid (l4Any_c hc2 (HRw.out _ M) hd (by omega) (by omega))
    clear hc2
    go_wp2_with fail
    refine C.out.mono ?_
    clear C
    rintro e w3 ⟨_, ss, rfl, ⟨s, rfl, o9⟩, hsm, hc3, m3⟩
    have s3 := m3.size
    obtain ⟨a9, c9, rfl, _⟩ := o9.rd.form
    replace o1 := o1.mut m3 (by omega)
    have M3 := M.trans m3
    clear m3 M
    obtain ⟨hx, cs, o, p, ho, g1, g2, hin, hap⟩ := o1
    have hcl := ho.1
    have y := ext_alloc (ext_refl w3) (.cells #[.slice a9 ss.length c9, .int .i64 0] 80)
    have sy : (w3.alloc (.cells #[.slice a9 ss.length c9, .int .i64 0] 80)).heap.size = w3.heap.size + 1 := by simp
    go_wp2_with (at_builtin; refine wpList_append_exact rfl _ _ 61 rfl 80 i0 (.agg #[.slice none 0 0, .int .i64 0]) 2 32 Try.underlying61 hi0 hz0 hz1 hz2 rfl (by decide) rfl (ho.ext (ext_alloc (ext_refl _) _)) rfl (Rd.new _ [.slice a9 ss.length c9, .int .i64 0] 80 2 1 (by decide) rfl) (by simp; exact ⟨rfl, rfl⟩) (by decide) (by omega) (by omega) ?_)
    intro v4 w4 oa ob hcase h4 m4
    have s4 := m4.size
    have G := OwnT.grow (o := o) (o' := (oa, ob)) (i := 0) (B := (w3.alloc (.cells #[.slice a9 ss.length c9, .int .i64 0] 80)).heap.size) (xs := ts) rfl ((hin.ext y).apart m4 hap) hap g1 g2 ((o9.ext y).mut m4 (.inr (by omega))) (by omega) (by omega) s3 (by omega) s4 (by rcases hcase.out with ⟨rfl, rfl⟩ | ⟨rfl, rfl⟩; exact .inl rfl; exact .inr (by rw [sy])) h4 hcl (by omega)
    have HG := hid G.rd
    have HC := hid ((hc3.ext y).mut m4 (.inl (by omega)))
    have HM := hid ((M3.trans (Mut.of_ext y)).after m4 (by omega))
    clear G h4 m4 hcase hin hap ho o9 hc3 M3 y hi0 hz0 hz1 hz2
    go_wp2
    go_ret
    exact ⟨_, rfl, ⟨ts ++ [(ss, 0)], by rw [List.length_append]; exact HG.out, by rw [List.length_append]; simp; omega, HTS.out.push hsm⟩, HC.out, HM.out⟩
  have e0 : (x == 0) = false := beq_eq_false_iff_ne.2 h0
  by_cases h1 : x = 1
  · subst h1
    have C := hid (l6Copy_c o1.rd (by omega) (by omega))
    go_wp2_with fail
    refine C.out.mono ?_
    clear C
    rintro e w3 ⟨u2, rfl, oc, y3⟩
    have s3 := y3.size
    obtain ⟨a2, c2, rfl, _⟩ := oc.rd.form
    replace o1 := o1.ext y3
    have HC3 := hid (hc2.ext y3)
    have M3 := M.trans (Mut.of_ext y3)
    clear y3 M hc2
    obtain ⟨hx, cs, o, p, ho, g1, g2, hin, hap⟩ := o1
    obtain ⟨hx2, cs2, o2, p2, ho2, k1, k2, hin2, hap2⟩ := oc
    have hcl := ho.1
    have hcl2 := ho2.1
    have hO : ∃ o' : Nat × Nat, Own w3 o'.1 o'.2 80 2 (.slice a1 ts.length c1) ts.length cs ∧ w.heap.size ≤ o'.1 ∧ o'.2 ≤ w1.heap.size ∧ (∀ j, j < ts.length → Apart o' (p j)) ∧ o'.1 ≤ w3.heap.size := by
      obtain ⟨_, ⟨h0', _⟩ | ⟨g, cp, cur, hv, hlo, hhi', hg, _⟩⟩ := id ho
      · exact ⟨(w.heap.size, w1.heap.size), ho.mono g1 g2, Nat.le_refl _, Nat.le_refl _, fun j hj => absurd hj (by omega), by simp only; omega⟩
      · exact ⟨o, ho, g1, g2, hap, by have := (Array.getElem?_eq_some_iff.1 hg).1; omega⟩
    clear ho g1 g2 hap
    obtain ⟨o, ho, g1, g2, hap, ho9⟩ := hO
    have hone2 := hin2.one rfl hcl2
    go_wp2_with (at_builtin; refine wpList_append_Own rfl _ _ 61 rfl 80 i0 (.agg #[.slice none 0 0, .int .i64 0]) 2 32 Try.underlying61 hi0 hz0 hz1 hz2 rfl (by decide) rfl ho rfl ho2.rd hone2 (by omega) (by omega) ho9 ?_)
    intro v4 w4 h4 m4
    have s4 := m4.size
    have i1 := hin.apart m4 hap
    have i2 := hin2.mut m4 (by omega)
    have R : RdT w4 w.heap.size w4.heap.size v4 (ts.length + ts.length) (ts ++ ts) := RdT.mk (h4.rd.mono g1 (Nat.le_refl _)) (by simp) (fun k e he => by
      by_cases hk : k < ts.length
      · rw [List.getElem?_append_left hk] at he
        obtain ⟨s, q1, q2, q3, q4, q5, _⟩ := i1 k e (by omega) he
        exact ⟨s, by rw [List.getElem?_append_left (by omega)]; exact q1, by rw [List.getElem?_append_left (by omega)]; exact q2, q3.rd.mono q4 (by omega)⟩
      · rw [List.getElem?_append_right (by omega)] at he
        have hk2 : k - ts.length < ts.length := (List.getElem?_eq_some_iff.1 he).1
        obtain ⟨s, q1, q2, q3, q4, q5, _⟩ := i2 (k - ts.length) e hk2 he
        exact ⟨s, by rw [List.getElem?_append_right (by omega), show k * 2 - cs.length = (k - ts.length) * 2 by omega]; exact q1, by rw [List.getElem?_append_right (by omega), show k * 2 + 1 - cs.length = (k - ts.length) * 2 + 1 by omega]; exact q2, q3.rd.mono (by omega) (by omega)⟩)
    have HR := hid R
    have HC := hid (HC3.out.mut m4 (.inl (by omega)))
    have HM := hid (M3.after m4 (by omega))
    clear R h4 m4 i1 i2 hin hap hin2 hap2 ho ho2 HC3 M3 hi0 hz0 hz1 hz2
    go_wp2
    go_ret
    exact ⟨_, rfl, ⟨ts ++ ts, by rw [List.length_append]; exact HR.out, by rw [List.length_append]; omega, HTS.out.twice⟩, HC.out, HM.out⟩
  have e1 : (x == 1) = false := beq_eq_false_iff_ne.2 h1
  by_cases h2 : x = 2
  · subst h2
    go_wp2
    go_loopw [3, 4] (fun u i wr => ∃ (j : Nat) (tt : List (List ByteArray × Int)), i = .int .i64 j ∧ j + ts.length = tt.length ∧ tt.length ≤ 21 ∧ OwnT wr w.heap.size wr.heap.size u tt.length tt ∧ Hid (TS tt) ∧ CurAt wr c cv n ∧ w2.heap.size ≤ wr.heap.size ∧ Mut c (c + 1) w wr) (fun u _ _ => 25 - slLen u)
    case atStart => exact ⟨0, ts, rfl, by omega, by omega, o1.mono (Nat.le_refl _) s2, HTS, hc2, Nat.le_refl _, M⟩
    case round =>
      obtain ⟨j, tt, rfl, hj, htl, o1', hts', hc', hsz', M'⟩ := hrel
      clear o1 hc2 M
      obtain ⟨ax, cx, rfl, _⟩ := o1'.rd.form
      have C := hid (l1Below_c (m := 3) hc' (HRw.out _ M') hd (by omega))
      clear hc'
      go_wp2_with fail
      refine C.out.mono ?_
      clear C
      rintro e w3 ⟨z, rfl, z0, z1, hc3, m3⟩
      have s3 := m3.size
      replace o1' := o1'.mut m3 (by omega)
      have M3 := M'.trans m3
      clear m3 M'
      by_cases hlt : (tt.length : Int) < 19 + z
      · have C := hid (l4Of_c (w := w3) (s := ⟨#[47, 122, 122]⟩) (by decide))
        rw [zz_name] at C
        go_wp2_with fail
        refine C.out.mono ?_
        clear C
        rintro e w4 ⟨_, rfl, ⟨s9, rfl, o9⟩, y4⟩
        have s4 := y4.size
        have e9 : (100 : Int) + (j : Int) = ((100 + j : Nat) : Int) := by omega
        have hns := num_size (u := 100 + j) (by omega)
        have C := hid (specFormatInt_c (w := w4) (n := (100 : Int) + (j : Int)) (by omega) (by omega))
        rw [← e9] at hns
        obtain ⟨t, ht⟩ : ∃ t, dst (Lib.itoa ((100 : Int) + (j : Int))) = t := ⟨_, rfl⟩
        rw [ht] at hns C
        have hsm := zz_small t hns
        have hss : (⟨#[112]⟩ ++ t : ByteArray).size ≤ 16 := by rw [ByteArray.size_append]; show 1 + t.size ≤ 16; omega
        obtain ⟨a9, c9, rfl, _⟩ := o9.form
        clear e9 ht
        go_wp2_with fail
        refine C.out.mono ?_
        clear C
        rintro e w5 ⟨_, rfl, rfl, y5⟩
        have s5 := y5.size
        have C := hid (specAppendPart_c (w := w5) (s := ⟨#[112]⟩ ++ t) (show RdN w5 w3.heap.size w4.heap.size (.agg #[.slice a9 [(⟨#[122, 122]⟩ : ByteArray)].length c9]) [(⟨#[122, 122]⟩ : ByteArray)].length ([(⟨#[122, 122]⟩ : ByteArray)].map sv) from ⟨_, rfl, o9.ext y5⟩) (by decide) (by intro q hq; rw [List.mem_singleton.1 hq]; decide) (by omega))
        obtain ⟨ap', hap'⟩ : ∃ q, ap [(⟨#[122, 122]⟩ : ByteArray)] (⟨#[112]⟩ ++ t) = q := ⟨_, rfl⟩
        rw [hap'] at hsm C
        clear hap'
        have HSM := hid hsm
        clear hsm o9
        have hc1' : (1 : Int) + (t.size : Int) ≤ 9223372036854775807 := by omega
        have hc2' : 1 + t.size ≤ 9223372036854775807 := by omega
        go_wp2_with fail
        refine C.out.mono ?_
        clear C
        rintro e w6 ⟨_, rfl, ⟨u6, rfl, ⟨s6', rfl, o6⟩⟩, y6⟩
        have s6 := y6.size
        obtain ⟨ss, bq⟩ := ap'
        simp only at o6 HSM
        obtain ⟨a6, c6, rfl, _⟩ := o6.rd.form
        have y7 := ext_alloc (ext_refl w6) (.cells #[.slice a6 ss.length c6] 26)
        have c7 : (w6.alloc (.cells #[.slice a6 ss.length c6] 26)).cell? ⟨w6.heap.size, 0, none⟩ = some (.slice a6 ss.length c6) := (Cell1.new w6 _ _).1
        have s7 : (w6.alloc (.cells #[.slice a6 ss.length c6] 26)).heap.size = w6.heap.size + 1 := by simp
        have yx := ext_trans (ext_trans (ext_trans y4 y5) y6) y7
        have o7 := o1'.ext yx
        have n7 := o6.ext y7
        have hc7 := hc3.ext yx
        have M7 := M3.trans (Mut.of_ext yx)
        generalize hV : w6.alloc (.cells #[.slice a6 ss.length c6] 26) = w7 at *
        have s7' : w6.heap.size + 1 ≤ w7.heap.size := by omega
        clear s7 y4 y5 y6 y7 yx o1' o6 hc3 M3
        obtain ⟨_, cs, o, p, ho, g1, g2, hin, hap⟩ := o7
        have hcl := ho.1
        have y := ext_alloc (ext_refl w7) (.cells #[.slice a6 ss.length c6, .int .i64 0] 80)
        have sy : (w7.alloc (.cells #[.slice a6 ss.length c6, .int .i64 0] 80)).heap.size = w7.heap.size + 1 := by simp
        have hX1 : ∀ u ∈ [Value.slice a6 ss.length c6, .int .i64 0], u.oneCell' = true := by
          intro u hu
          simp only [List.mem_cons, List.not_mem_nil, or_false] at hu
          rcases hu with rfl | rfl <;> rfl
        go_wp2_with (at_builtin; refine wpList_append_exact rfl _ _ 61 rfl 80 i0 (.agg #[.slice none 0 0, .int .i64 0]) 2 32 Try.underlying61 hi0 hz0 hz1 hz2 rfl (by decide) rfl (ho.ext (ext_alloc (ext_refl _) _)) rfl (Rd.new _ [.slice a6 ss.length c6, .int .i64 0] 80 2 1 (by decide) rfl) hX1 (by decide) (by omega) (by omega) ?_)
        intro v8 w8 oa ob hcase h8 m8
        have s8 := m8.size
        have G := OwnT.grow (o := o) (o' := (oa, ob)) (i := 0) (B := (w7.alloc (.cells #[.slice a6 ss.length c6, .int .i64 0] 80)).heap.size) (xs := tt) rfl ((hin.ext y).apart m8 hap) hap g1 g2 ((n7.ext y).mut m8 (.inr (by omega))) (by omega) (by omega) s6 (by omega) s8 (by rcases hcase.out with ⟨rfl, rfl⟩ | ⟨rfl, rfl⟩; exact .inl rfl; exact .inr (by rw [sy])) h8 hcl (by omega)
        obtain ⟨a8, c8, rfl, _⟩ := h8.rd.form
        have HG := hid G
        have HC := hid ((hc7.ext y).mut m8 (.inl (by omega)))
        have HM := hid ((M7.trans (Mut.of_ext y)).after m8 (by omega))
        have HT := hid (hts'.out.push (e := (ss, 0)) HSM.out)
        have hlen : (tt ++ [(ss, (0 : Int))]).length = tt.length + 1 := by simp
        clear G h8 m8 hcase hin hap ho n7 hc7 M7 y c7 hV
        go_wp2
        go_roundw
        case rel => exact ⟨j + 1, tt ++ [(ss, 0)], by go_num, by omega, by omega, by rw [hlen]; exact HG.out, HT, HC.out, by omega, HM.out⟩
        case measure => simp [slLen]; omega
      · go_wp2
        go_ret
        exact ⟨_, rfl, ⟨tt, (o1'.mono (Nat.le_refl _) s3).rd, htl, hts'.out⟩, hc3, M3⟩
  have e2 : (x == 2) = false := beq_eq_false_iff_ne.2 h2
  clear hi0 hz0 hz1 hz2
  go_wp2
  go_ret
  exact ⟨_, rfl, ⟨ts, (o1.mono (Nat.le_refl _) s2).rd, by omega, HTS.out⟩, hc2, M⟩
end Go.Proofs.Ytcagbdidjakcpaa
