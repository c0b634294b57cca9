/- strings.Join at the separator "/", and FormatName and FormatPattern of both sides. Condition: the values read as strings; they are not too long. -/
import Derived.Test.YtoehjfcadhgpbaaDoorBld
set_option linter.unusedVariables false
namespace Go.Proofs.YtoehjfcadhgpbaaDoor
open Go.RowKit
/-- The first k parts, each behind a slash. -/
def fm (ss : List ByteArray) (k : Nat) : List UInt8 := (ss.take k).flatMap fun s => 47 :: s.data.toList
def fmt (ss : List ByteArray) : ByteArray := if ss.length = 0 then bs [47] else bs (fm ss ss.length)
theorem fm_step {ss : List ByteArray} {k : Nat} (h : k < ss.length) : fm ss (k + 1) = fm ss k ++ 47 :: ss[k].data.toList := by
  unfold fm
  rw [List.take_succ_eq_append_getElem h, List.flatMap_append]
  simp
theorem fm_zero (ss : List ByteArray) : fm ss 0 = [] := by simp [fm]
theorem fm_len (ss : List ByteArray) (k : Nat) (h : k ≤ ss.length) : (fm ss k).length + (ss.length - k) = wtP ss k := by
  induction k with
  | zero => simp [fm, wtP]
  | succ k ih =>
    rw [fm_step (by omega), wtP_step ss k (by omega), List.length_append, List.length_cons]
    have h1 := ih (by omega)
    have h2 : ss[k].data.toList.length = ss[k].size := by simp
    omega
theorem fm_le (ss : List ByteArray) (k : Nat) (h : k ≤ ss.length) : (fm ss k).length ≤ wt ss := by
  have h1 := fm_len ss k h
  have h2 := wtP_le ss k
  omega
theorem bs_data (s : ByteArray) : bs s.data.toList = s := rfl
theorem wtP_zero (ss : List ByteArray) : wtP ss 0 = ss.length := by simp [wtP]
set_option maxRecDepth 100000 in
set_option maxHeartbeats 4000000 in
theorem join_c {w : World} {lo hi n : Nat} {v : Value} {ss : List ByteArray} (h : Rd w lo hi 1 v n (ss.map sv)) (hw : wt ss ≤ 1099511627776) (h2 : 0 < n) :
    Calls Tryd.prog 91 #[v, .string ⟨#[47]⟩] w (Gives w fun r _ => ∃ l, r = .string (bs l) ∧ Hid (47 :: l = fm ss ss.length) ∧ l.length ≤ wt ss) := by
  obtain ⟨hl, a, cap, rfl, hc, hm, hat⟩ := h
  rw [Nat.mul_one, List.length_map] at hl
  obtain ⟨b, off, rfl, _, _, hbs, hcell⟩ := hat h2
  have hn := wt_len ss
  have HL := hid hl
  have hsz : ∀ (k : Nat) (h : k < ss.length), ss[k].size ≤ wt ss := fun k h => wt_mem ss _ (List.getElem_mem h)
  have hcl : ∀ (k : Nat) (h : k < ss.length), w.cell? ⟨b, off + k, none⟩ = some (.string ss[k]) := fun k h => hcell k _ (by simp [sv, h])
  clear hat hcell
  by_cases h1 : n = 1
  · have hk : 0 < ss.length := by omega
    have c0 := hcl 0 hk
    rw [Nat.add_zero] at c0
    have z0 := hsz 0 hk
    have HF := hid (show (47 : UInt8) :: ss[0].data.toList = fm ss ss.length by rw [show ss.length = 0 + 1 by omega, fm_step hk, fm_zero]; rfl)
    have HB := hid (bs_data ss[0])
    have z1 : ss[0].data.toList.length ≤ wt ss := by simpa using z0
    subst h1
    clear hcl hsz
    generalize ss[0] = t at *
    go_enter Tryd.func91, Tryd.ntmps91
    go_wp2
    go_ret
    exact gives_of _ ⟨_, by rw [HB.out]; rfl, HF, z1⟩ (ext_refl _)
  · have hn2 : 2 ≤ n := by omega
    have hn1 : n ≤ 1099511627776 := by omega
    have HC := hid hcl
    have HZ := hid hsz
    clear hcl hsz hl
    have hdv : ¬ (9223372036854775807 / ((n : Int) - 1) ≤ 1) := by
      have e1 : (2 : Int) ≤ 9223372036854775807 / ((n : Int) - 1) := (Int.le_ediv_iff_mul_le (by omega)).2 (by omega)
      omega
    have hdv2 : decide (9223372036854775807 / ((n : Int) - 1) ≤ 1) = false := decide_eq_false hdv
    have e0 : ((n : Int) == 0) = false := beq_eq_false_iff_ne.2 (by omega)
    have e1 : ((n : Int) == 1) = false := beq_eq_false_iff_ne.2 (by omega)
    go_enter Tryd.func91, Tryd.ntmps91
    go_wp2_with fail
    go_loop [5, 41] (fun q i => ∃ k A : Nat, k ≤ n ∧ i = .int .i64 k ∧ q = .int .i64 A ∧ Hid (A + 1 = wtP ss k) ∧ A ≤ 1099511627776) (fun _ i => n - (intOf i).toNat)
    case atStart => exact ⟨0, n - 1, Nat.zero_le _, rfl, by go_num, hid (by rw [wtP_zero, HL.out]; omega), by omega⟩
    case round =>
      obtain ⟨k, A, hk, rfl, rfl, HA, hA⟩ := hrel
      by_cases hkn : k < n
      · have hkx : k < ss.length := by rw [HL.out]; exact hkn
        have c0 := HC.out k hkx
        have z0 := HZ.out k hkx
        have HT := hid (wtP_step ss k hkx)
        have HW := wtP_le ss (k + 1)
        have hA2 : A + ss[k].size + 1 = wtP ss (k + 1) := by rw [HT.out, ← HA.out]; omega
        have HA2 := hid hA2
        have hA3 : A + ss[k].size ≤ 1099511627776 := by omega
        clear hA2 HW HT HA
        generalize ss[k] = t at *
        go_wp2
        go_round
        case rel => exact ⟨k + 1, A + t.size, by omega, by go_num, by go_num, HA2, hA3⟩
        case measure => simp [intOf]; omega
      · have hke : k = n := by omega
        subst hke
        go_wp2_with fail
        refine (Grow_c (w := w.alloc (.cells #[.pointer none, .slice none 0 0] 100)) (B := w.heap.size) (b := w.heap.size) (n := A) (Nat.le_refl _) (heap_alloc_new w _) (by simp) (by omega)).mono ?_
        rintro e w1 ⟨rfl, h1, y1⟩
        have x1 : Below w.heap.size w w1 := (ext_alloc (ext_refl w) _).trans y1
        have hk0 : 0 < ss.length := by rw [HL.out]; omega
        have c0 := cell_ext (HC.out 0 hk0) x1
        rw [Nat.add_zero] at c0
        have z0 := HZ.out 0 hk0
        have HF := hid (show (47 : UInt8) :: ss[0].data.toList = fm ss (0 + 1) by rw [fm_step hk0, fm_zero]; rfl)
        clear y1 HA hA
        generalize ss[0] = t at *
        go_wp2_with fail
        refine (WriteString_c h1 (by simp; omega) x1.size).mono ?_
        rintro e w2 ⟨rfl, h2', y2⟩
        have x2 := x1.trans y2
        have H2 : Hid (BAt w.heap.size w.heap.size (Lib.byteCells t.data.toList) w2) := h2'
        clear h1 h2' y2 x1 c0
        have hcap1 : decide ((cap : Int) = 1) = false := decide_eq_false (by omega)
        have hcap2 : ¬ cap = 1 := by omega
        go_wp2_with fail
        go_loopw [65] (fun i wr => ∃ (k' : Nat) (l : List UInt8), k' + 1 ≤ k ∧ i = .int .i64 k' ∧ Hid (47 :: l = fm ss (k' + 1)) ∧ Hid (BAt w.heap.size w.heap.size (Lib.byteCells l) wr) ∧ Below w.heap.size w wr) (fun i _ => k - (intOf i).toNat)
        case atStart => exact ⟨0, _, by omega, rfl, HF, H2, x2⟩
        case round =>
          obtain ⟨j, l, hj, rfl, HL1, HB, hb⟩ := hrel
          clear HF H2 x2
          have hll : l.length + 1 = (fm ss (j + 1)).length := by rw [← HL1.out]; rfl
          have hlw := fm_le ss (j + 1) (by rw [HL.out]; omega)
          by_cases hjk : j + 1 < k
          · have hkx : j + 1 < ss.length := by rw [HL.out]; exact hjk
            have cw := HC.out (j + 1) hkx
            rw [show off + (j + 1) = off + 1 + j by omega] at cw
            have z1 := HZ.out (j + 1) hkx
            have HN := hid (show (47 : UInt8) :: (l ++ (47 : UInt8) :: ss[j + 1].data.toList) = fm ss (j + 1 + 1) by rw [fm_step hkx, ← HL1.out]; rfl)
            have hl2 : (Lib.byteCells l).length = l.length := Lib.byteCells_length l
            have i0 : (j : Int) < (k : Int) - 1 := by omega
            clear HL1
            generalize ss[j + 1] = u at *
            have c1 := cell_ext cw hb
            go_wp2_with fail
            refine (WriteString_c (s := ⟨#[47]⟩) HB.out (by rw [hl2]; show l.length + 1 ≤ _; omega) hb.size).mono ?_
            rintro e w3 ⟨rfl, h3, y3⟩
            have hb3 := hb.trans y3
            have H3 := hid h3
            have hl3 : (Lib.byteCells l ++ Lib.strCells ⟨#[47]⟩).length = l.length + 1 := by rw [List.length_append, hl2]; rfl
            clear h3 HB
            clear c1
            have c3 := cell_ext cw hb3
            go_wp2_with fail
            refine (WriteString_c (s := u) H3.out (by rw [hl3]; omega) hb3.size).mono ?_
            rintro e w4 ⟨rfl, h4, y4⟩
            have hb4 := hb3.trans y4
            have e4 : Lib.byteCells l ++ Lib.strCells ⟨#[47]⟩ ++ Lib.strCells u = Lib.byteCells (l ++ 47 :: u.data.toList) := by
              rw [Lib.strCells_eq, Lib.strCells_eq, ← Lib.byteCells_append, ← Lib.byteCells_append, List.append_assoc]; rfl
            rw [e4] at h4
            have H4 := hid h4
            clear h4 c3 cw e4
            go_wp2
            go_roundw
            case rel => exact ⟨j + 1, _, by omega, by go_num, HN, H4, hb4⟩
            case measure => simp [intOf]; omega
          · have hje : j + 1 = k := by omega
            have hl0 : l ≠ [] := by
              intro e
              subst e
              have h5 := fm_len ss (j + 1) (by rw [HL.out]; omega)
              have h6 : (fm ss (j + 1)).length = 1 := by rw [← HL1.out]; rfl
              have h7 : ss.length ≤ wtP ss (j + 1) := by unfold wtP; omega
              rw [h6, HL.out] at h5
              rw [HL.out] at h7
              omega
            have HJ := hid (show (47 : UInt8) :: l = fm ss ss.length by rw [HL1.out, HL.out, hje])
            have i0 : ¬ (j : Int) < (k : Int) - 1 := by omega
            have i1 : decide ((j : Int) < (k : Int) - 1) = false := decide_eq_false i0
            go_wp2_with fail
            refine (String_c HB.out hl0).mono ?_
            rintro e w5 ⟨rfl, y5⟩
            have x5 := hb.trans y5
            clear HB y5 hl0
            go_wp2
            go_ret
            exact gives_of _ ⟨l, rfl, HJ, by omega⟩ x5
theorem fmt_zero {ss : List ByteArray} (h : ss.length = 0) : fmt ss = bs [47] := by unfold fmt; rw [if_pos h]
theorem fmt_pos {ss : List ByteArray} (h : ¬ ss.length = 0) : fmt ss = bs (fm ss ss.length) := by unfold fmt; rw [if_neg h]
set_option maxHeartbeats 1000000 in
theorem slashed_c {w : World} {lo hi n : Nat} {v : Value} {ss : List ByteArray} (h : Rd w lo hi 1 v n (ss.map sv)) (hw : wt ss ≤ 1099511627776) :
    Calls Tryd.prog 73 #[v] w (Gives w fun r _ => r = .string (fmt ss)) := by
  have hl : ss.length = n := by have := h.1; simpa using this
  have hn := wt_len ss
  by_cases h0 : n = 0
  · have HV := hid (fmt_zero (ss := ss) (by omega))
    obtain ⟨a, cap, rfl, _⟩ := h.form
    subst h0
    clear h hl hn
    go_enter Tryd.func73, Tryd.ntmps73
    go_wp2
    go_ret
    exact gives_string (by rw [HV.out]; rfl) (ext_refl _)
  · have HV := hid (fmt_pos (ss := ss) (by omega))
    have C := hid (join_c h hw (by omega))
    obtain ⟨a, cap, rfl, _⟩ := h.form
    have e0 : ((n : Int) == 0) = false := beq_eq_false_iff_ne.2 (by omega)
    clear h hl
    go_enter Tryd.func73, Tryd.ntmps73
    go_wp2_with fail
    refine C.out.mono ?_
    rintro e w1 ⟨_, rfl, ⟨l, rfl, HL, hlw⟩, y1⟩
    have q4 := bs_size l
    have HB := hid (bs_append [47] l)
    clear C
    generalize bs l = s at *
    go_wp2
    go_ret
    exact gives_string (by rw [HV.out, ← HL.out]; exact HB.out) y1
theorem implFormatName_c {w : World} {lo hi n : Nat} {v : Value} {ss : List ByteArray} (h : RdN w lo hi v n (ss.map sv)) (hw : wt ss ≤ 1099511627776) :
    Calls Tryd.prog 40 #[v] w (Gives w fun r _ => r = .string (fmt ss)) := by
  obtain ⟨s, rfl, h⟩ := h
  have x0 := ext_alloc (ext_refl w) (.cells #[s] 30)
  have C := hid (slashed_c (h.ext x0) hw)
  clear h
  go_enter Tryd.func40, Tryd.ntmps40
  go_wp2_with fail
  refine C.out.mono ?_
  rintro e w1 ⟨_, rfl, rfl, y1⟩
  have x := ext_trans x0 y1
  clear C y1 x0
  go_wp2
  go_ret
  exact gives_string rfl x
theorem implFormatPattern_c {w : World} {lo hi n : Nat} {v : Value} {ss : List ByteArray} (h : RdN w lo hi v n (ss.map sv)) (hw : wt ss ≤ 1099511627776) :
    Calls Tryd.prog 34 #[v] w (Gives w fun r _ => r = .string (fmt ss)) := by
  obtain ⟨s, rfl, h⟩ := h
  have x0 := ext_alloc (ext_refl w) (.cells #[s] 24)
  have C := hid (slashed_c (h.ext x0) hw)
  clear h
  go_enter Tryd.func34, Tryd.ntmps34
  go_wp2_with fail
  refine C.out.mono ?_
  rintro e w1 ⟨_, rfl, rfl, y1⟩
  have x := ext_trans x0 y1
  clear C y1 x0
  go_wp2
  go_ret
  exact gives_string rfl x
set_option maxHeartbeats 1000000 in
theorem specFormatName_c {w : World} {lo hi n : Nat} {v : Value} {ss : List ByteArray} (h : RdN w lo hi v n (ss.map sv)) (hw : wt ss ≤ 1099511627776) :
    Calls Tryd.prog 44 #[v] w (Gives w fun r _ => r = .string (fmt ss)) := by
  obtain ⟨s, rfl, h⟩ := h
  have hl : ss.length = n := by have := h.1; simpa using this
  have hn := wt_len ss
  have HL := hid hl
  obtain ⟨W, hW⟩ : ∃ W, W = w.alloc (.cells #[s] 30) := ⟨_, rfl⟩
  have x0 : Below w.heap.size w W := by rw [hW]; exact ext_alloc (ext_refl w) _
  have cS : W.cell? ⟨w.heap.size, 0, none⟩ = some s := by rw [hW]; simp
  have r1 := h.ext x0
  clear h hl
  obtain ⟨_, a, cap, rfl, hc, hm, hat⟩ := r1
  have HV : Hid (ss.length = 0 → fmt ss = bs [47]) := hid fmt_zero
  have HV2 : Hid (¬ ss.length = 0 → fmt ss = bs (fm ss ss.length)) := hid fmt_pos
  go_enter Tryd.func44, Tryd.ntmps44
  go_wp2
  rw [← hW]
  clear hW
  go_loop [3, 4] (fun u i => ∃ k : Nat, k ≤ n ∧ i = .int .i64 k ∧ u = .string (bs (fm ss k))) (fun _ i => n - (intOf i).toNat)
  case atStart => exact ⟨0, Nat.zero_le _, rfl, by rw [fm_zero]; rfl⟩
  case round =>
    obtain ⟨k, hk, rfl, rfl⟩ := hrel
    have hfl := fm_le ss k (by rw [HL.out]; exact hk)
    have q1 := bs_size (fm ss k)
    by_cases hlt : k < n
    · obtain ⟨b, off, rfl, _, _, hbs, hcell⟩ := hat (by omega)
      have hkx : k < ss.length := by rw [HL.out]; exact hlt
      have c1 : W.cell? ⟨b, off + k, none⟩ = some (.string ss[k]) := hcell k _ (by simp [hkx, sv])
      have hz := wt_mem ss ss[k] (List.getElem_mem hkx)
      have HN := hid (show bs (fm ss (k + 1)) = (bs (fm ss k) ++ bs [47]) ++ ss[k] by rw [fm_step hkx, bs_append, ← bs_data ss[k], bs_append, bs_data, List.append_assoc]; rfl)
      have q2 : (bs (fm ss k) ++ bs [47]).size = (bs (fm ss k)).size + 1 := by rw [bs_append, bs_size, bs_size, List.length_append]; rfl
      have q3 : bs [47] = ⟨#[47]⟩ := rfl
      rw [q3] at HN q2
      clear hcell hat q3
      generalize ss[k] = t at *
      generalize bs (fm ss k) = u at *
      go_wp2
      go_round
      case rel => exact ⟨k + 1, by omega, by go_num, by rw [HN.out]⟩
      case measure => simp [intOf]; omega
    · have hkn : k = n := by omega
      subst hkn
      clear hat
      by_cases h0 : k = 0
      · have HX := hid (HV.out (by rw [HL.out]; exact h0))
        subst h0
        go_wp2
        go_ret
        exact gives_string (by rw [HX.out]; rfl) x0
      · have HX := hid (HV2.out (by rw [HL.out]; exact h0))
        have e0 : ((k : Int) == 0) = false := beq_eq_false_iff_ne.2 (by omega)
        go_wp2
        go_ret
        exact gives_string (by rw [HX.out, HL.out]) x0
theorem specFormatPattern_c {w : World} {lo hi n : Nat} {v : Value} {ss : List ByteArray} (h : RdN w lo hi v n (ss.map sv)) (hw : wt ss ≤ 1099511627776) :
    Calls Tryd.prog 35 #[v] w (Gives w fun r _ => r = .string (fmt ss)) := by
  obtain ⟨s, rfl, h⟩ := h
  obtain ⟨p, cap, rfl, _⟩ := h.form
  have x0 := ext_alloc (ext_refl w) (.cells #[.slice p n cap] 24)
  have C := hid (specFormatName_c ⟨_, rfl, h.ext x0⟩ hw)
  clear h
  go_enter Tryd.func35, Tryd.ntmps35
  go_wp2_with fail
  refine C.out.mono ?_
  rintro e w1 ⟨_, rfl, rfl, y1⟩
  have x := ext_trans x0 y1
  clear C y1 x0
  go_wp2
  go_ret
  exact gives_string rfl x
end Go.Proofs.YtoehjfcadhgpbaaDoor
