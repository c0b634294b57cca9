/- FnDigits holds: integers are parsed from their digits; rounding up is not less; the remainder is what is left. The tables and the errors read as the program's text lays them: the card ties it. -/
import Derived.Test.YtmabcdnjojjgeaaDoorRows
import Derived.Test.YtmabcdnjojjgeaaDoorCards
import Derived.Test.YtmabcdnjojjgeaaDoorTie
import Derived.Test.YtmabcdnjojjgeaaDoorFrame
import Derived.Test.YtmabcdnjojjgeaaDoorBig
import Derived.Test.YtmabcdnjojjgeaaDoorDz
import Derived.SevenTiedAt
set_option linter.unusedVariables false
namespace Go.Proofs.YtmabcdnjojjgeaaDoor
open Go.ChangeShapes Go.WideShapes Go.ChangeAt Go.WideMaps Go.WideElems Go.RowKit
open Go.ChangeMaps (open_string shut_string)
theorem gSyn : Tryd.prog.globalNamed "strconv.ErrSyntax" = some 0 := by kernel_rfl
theorem tSyn : (Tryd.prog.globals[0]?).map (·.type) = some 36 := by kernel_rfl
theorem starErr : "*" ++ "errors.errorString" = "*errors.errorString" := by decide
theorem rowErr (u : TypeId) (h : Tryd.prog.typeName? 3 u = some "*errors.errorString") : u = 79 :=
  typeName_ptr_named (nm := "errors.errorString") (by rw [starErr]; kernel_rfl) (by kernel_rfl) (by decide) u (by rw [starErr]; exact h)
theorem cErr : Tryd.prog.cellsOf 81 = 1 := by kernel_rfl
theorem cStr : Tryd.prog.cellsOf 9 = 1 := by kernel_rfl
def Syn (w : World) : Prop := SynE w ∧ 0 < w.heap.size
theorem Syn.ext {w w' : World} (h : Syn w) (b : Below w.heap.size w w') : Syn w' := ⟨by obtain ⟨⟨tp, p, hv⟩, hl⟩ := h; exact ⟨tp, p, var?_below b gSyn hl hv⟩, Nat.lt_of_lt_of_le h.2 b.size⟩
theorem pr_num (n : Int) : ∃ (V : Int) (G : Bool), prVal (pr (dst (Lib.itoa n))) = .tuple #[.int .i64 V, .bool G] ∧ (G = true → 0 ≤ n ∧ n ≤ 1000000000000 ∧ V = n) ∧ (G = false → ¬ (0 ≤ n ∧ n ≤ 1000000000000)) := by
  by_cases h0 : 0 ≤ n
  · obtain ⟨u, rfl⟩ := Int.eq_ofNat_of_zero_le h0
    by_cases h1 : u ≤ 1000000000000
    · exact ⟨u, true, by rw [pr_itoa h1]; rfl, fun _ => ⟨h0, by omega, rfl⟩, fun h => by cases h⟩
    · exact ⟨0, false, by rw [pr_itoa_big h1]; rfl, fun h => (by cases h), fun _ h => h1 (by omega)⟩
  · exact ⟨0, false, by rw [pr_itoa_neg (by omega)]; rfl, fun h => (by cases h), fun _ h => h0 h.1⟩
theorem pr_text (s : ByteArray) : ∃ (A : Int) (B : Bool), prVal (pr s) = .tuple #[.int .i64 A, .bool B] ∧ (B = true → 0 ≤ A ∧ A ≤ 1000000000000 ∧ dst (Lib.itoa A) = s) := by
  cases h : pr s with
  | none => exact ⟨0, false, rfl, fun h => by cases h⟩
  | some m => exact ⟨m, true, rfl, fun _ => ⟨by omega, by have := (pr_back h).1; omega, (pr_back h).2⟩⟩
theorem md_facts {p q : Int} (h1 : 1 ≤ q) (h2 : q ≤ 1000000000000) : 0 ≤ md p q ∧ md p q < q ∧ p.tmod q < q ∧ -q < p.tmod q ∧ (p.tmod q = md p q ∨ p.tmod q = md p q - q) := by
  have b1 := Int.tmod_lt_of_pos p (show 0 < q by omega)
  have b2 : -q < p.tmod q := by have := Int.lt_tmod_of_pos p (show 0 < q by omega); omega
  have e := tmod_up p q
  rw [md, if_pos ⟨h1, h2⟩]
  refine ⟨Int.emod_nonneg _ (by omega), Int.emod_lt_of_pos _ (by omega), b1, b2, ?_⟩
  rw [← e]
  by_cases h : 0 ≤ p.tmod q
  · left
    rw [Int.add_emod_right, Int.emod_eq_of_lt h b1]
  · right
    rw [Int.emod_eq_of_lt (by omega) (by omega)]
    omega
namespace fnDigits
set_option maxRecDepth 100000 in
set_option maxHeartbeats 8000000 in
theorem walk (w : World) (v0 : Value) (n0 : Nat) (x0 : List UInt8) (r0 : Rd w 0 w.heap.size 1 v0 n0 (x0.map bv)) (hp : Pow w) (hy : Syn w) :
    Calls Tryd.prog 5 #[v0] w fun e w' => e = .returned (.bool true) ∧ Below w.heap.size w w' := by
  obtain ⟨b0, c0, rfl, hn0⟩ := r0.form
  by_cases h1 : 1048576 < n0
  · clear hp hy
    go_enter Tryd.func5, Tryd.ntmps5
    go_wp2_with fail
    refine (big_c r0 (decide_eq_true h1)).mono ?_
    rintro e w1 ⟨_, rfl, rfl, y1⟩
    go_wp2
    go_ret
    exact ⟨rfl, y1⟩
  · skip
    go_enter Tryd.func5, Tryd.ntmps5
    have X := ext_refl w
    go_wp2_with fail
    refine (big_c r0 (decide_eq_false h1)).mono ?_
    rintro e W1 ⟨_, rfl, rfl, y1⟩
    have q1 := y1.size
    replace X := ext_trans X y1
    replace r0 := r0.ext y1
    replace hp := hp.ext y1
    replace hy := hy.ext y1
    clear y1
    go_wp2_with fail
    refine (DrawFormatInt_c r0 (by omega) (by omega)).mono ?_
    rintro e W2 ⟨_, rfl, ⟨n1, rfl, g1⟩, y2⟩
    have q2 := y2.size
    replace X := ext_trans X y2
    replace r0 := r0.ext y2
    replace hp := hp.ext y2
    replace hy := hy.ext y2
    clear y2
    go_wp2_with fail
    refine (DrawParseInt_c r0 (by omega) (by omega)).mono ?_
    rintro e W3 ⟨_, rfl, ⟨s, rfl, hs⟩, y3⟩
    have q3 := y3.size
    replace X := ext_trans X y3
    replace r0 := r0.ext y3
    replace hp := hp.ext y3
    replace hy := hy.ext y3
    clear y3
    have hs2 : s.size ≤ 9223372036854775807 := by omega
    have HS2 := hid hs2
    clear hs hs2
    have G1 := hid g1
    have hts := itoa_room g1.1 g1.2
    obtain ⟨V, G, hV, hGt, hGf⟩ := pr_num n1
    obtain ⟨A, B, hA, hB⟩ := pr_text s
    obtain ⟨t, ht⟩ : ∃ t, dst (Lib.itoa n1) = t := ⟨_, rfl⟩
    rw [ht] at hts hV
    have HT := hid ht
    have HTS := hid hts
    have HV := hid hV
    have HGT := hid hGt
    have HGF := hid hGf
    have HA := hid hA
    have HB := hid hB
    clear ht hts hV hGt hGf hA hB g1
    go_wp2_with fail
    have C := implFormatInt_c G1.out.1 G1.out.2 hp
    rw [HT.out] at C
    refine C.mono ?_
    clear C
    rintro e W4 ⟨_, rfl, rfl, y4⟩
    have q4 := y4.size
    replace X := ext_trans X y4
    replace r0 := r0.ext y4
    replace hp := hp.ext y4
    replace hy := hy.ext y4
    clear y4
    go_wp2_with fail
    have C := implParseInt_c HTS.out hp hy.1
    rw [HV.out] at C
    refine C.mono ?_
    clear C
    rintro e W5 ⟨_, rfl, rfl, y5⟩
    have q5 := y5.size
    replace X := ext_trans X y5
    replace r0 := r0.ext y5
    replace hp := hp.ext y5
    replace hy := hy.ext y5
    clear y5
    go_wp2_with fail
    have C := implParseInt_c HS2.out hp hy.1
    rw [HA.out] at C
    refine C.mono ?_
    clear C
    rintro e W6 ⟨_, rfl, rfl, y6⟩
    have q6 := y6.size
    replace X := ext_trans X y6
    replace r0 := r0.ext y6
    replace hp := hp.ext y6
    replace hy := hy.ext y6
    clear y6
    go_wp2_with fail
    have C := specParseInt_c (w := W6) HS2.out
    rw [HA.out] at C
    refine C.mono ?_
    clear C
    rintro e W7 ⟨_, rfl, rfl, y7⟩
    have q7 := y7.size
    replace X := ext_trans X y7
    replace r0 := r0.ext y7
    replace hp := hp.ext y7
    replace hy := hy.ext y7
    clear y7
    go_wp2_with fail
    refine (DrawCeilDiv_c r0 (by omega) (by omega)).mono ?_
    rintro e W8 ⟨_, rfl, ⟨a1, b1, rfl, ga, gb⟩, y8⟩
    have q8 := y8.size
    replace X := ext_trans X y8
    replace r0 := r0.ext y8
    replace hp := hp.ext y8
    replace hy := hy.ext y8
    clear y8
    go_wp2_with fail
    refine (DrawMod_c r0 (by omega) (by omega)).mono ?_
    rintro e W9 ⟨_, rfl, ⟨p1, q1, rfl, gp, gq⟩, y9⟩
    have q9 := y9.size
    replace X := ext_trans X y9
    replace r0 := r0.ext y9
    replace hp := hp.ext y9
    replace hy := hy.ext y9
    clear y9
    go_wp2_with fail
    refine (DrawMin_c r0 (by omega) (by omega)).mono ?_
    rintro e W10 ⟨_, rfl, ⟨x1, y1, rfl, gx, gy⟩, y10⟩
    have q10 := y10.size
    replace X := ext_trans X y10
    replace r0 := r0.ext y10
    replace hp := hp.ext y10
    replace hy := hy.ext y10
    clear y10
    clear ga gb gp gx gy
    have hmd := fun h1 h2 => md_facts (p := p1) (q := q1) h1 h2
    obtain ⟨R, hR⟩ : ∃ R, md p1 q1 = R := ⟨_, rfl⟩
    obtain ⟨K, hK⟩ : ∃ K, cd a1 b1 = K := ⟨_, rfl⟩
    have hm1 := mn_le x1 y1
    have hm2 := le_mx x1 y1
    obtain ⟨m1, hM1⟩ : ∃ m, mn x1 y1 = m := ⟨_, rfl⟩
    obtain ⟨m2, hM2⟩ : ∃ m, mx x1 y1 = m := ⟨_, rfl⟩
    rw [hR] at hmd
    rw [hM1] at hm1
    rw [hM2] at hm2
    have HMD := hid hmd
    have HR := hid hR
    have HK := hid hK
    have HM1 := hid hM1
    have HM2 := hid hM2
    have HIN := hid (decide_eq_true (show m1 ≤ x1 ∧ x1 ≤ m2 from ⟨hm1, hm2⟩))
    clear hmd hR hK hM1 hM2 hm1 hm2
    have eT : (t.toList == t.toList) = true := by simp
    go_wp2_with fail
    have C := implMd_c (w := W10) (a := p1) (b := q1)
    rw [HR.out] at C
    refine C.mono ?_
    clear C
    rintro e W11 ⟨_, rfl, rfl, y11⟩
    have q11 := y11.size
    replace X := ext_trans X y11
    replace r0 := r0.ext y11
    replace hp := hp.ext y11
    replace hy := hy.ext y11
    clear y11
    go_wp2_with fail
    have C := implFormatInt_c G1.out.1 G1.out.2 hp
    rw [HT.out] at C
    refine C.mono ?_
    clear C
    rintro e W12 ⟨_, rfl, rfl, y12⟩
    have q12 := y12.size
    replace X := ext_trans X y12
    replace r0 := r0.ext y12
    replace hp := hp.ext y12
    replace hy := hy.ext y12
    clear y12
    go_wp2_with fail
    have C := specFormatInt_c (w := W12) G1.out.1 G1.out.2
    rw [HT.out] at C
    refine C.mono ?_
    clear C
    rintro e W13 ⟨_, rfl, rfl, y13⟩
    have q13 := y13.size
    replace X := ext_trans X y13
    replace r0 := r0.ext y13
    replace hp := hp.ext y13
    replace hy := hy.ext y13
    clear y13
    go_wp2_with fail
    have C := implCeilDiv_c (w := W13) (a := a1) (b := b1)
    rw [HK.out] at C
    refine C.mono ?_
    clear C
    rintro e W14 ⟨_, rfl, rfl, y14⟩
    have q14 := y14.size
    replace X := ext_trans X y14
    replace r0 := r0.ext y14
    replace hp := hp.ext y14
    replace hy := hy.ext y14
    clear y14
    go_wp2_with fail
    have C := specCeilDiv_c (w := W14) (a := a1) (b := b1)
    rw [HK.out] at C
    refine C.mono ?_
    clear C
    rintro e W15 ⟨_, rfl, rfl, y15⟩
    have q15 := y15.size
    replace X := ext_trans X y15
    replace r0 := r0.ext y15
    replace hp := hp.ext y15
    replace hy := hy.ext y15
    clear y15
    go_wp2_with fail
    have C := specMd_c (w := W15) (a := p1) (b := q1)
    rw [HR.out] at C
    refine C.mono ?_
    clear C
    rintro e W16 ⟨_, rfl, rfl, y16⟩
    have q16 := y16.size
    replace X := ext_trans X y16
    replace r0 := r0.ext y16
    replace hp := hp.ext y16
    replace hy := hy.ext y16
    clear y16
    go_wp2_with fail
    have C := implMin_c (w := W16) (a := x1) (b := y1)
    rw [HM1.out] at C
    refine C.mono ?_
    clear C
    rintro e W17 ⟨_, rfl, rfl, y17⟩
    have q17 := y17.size
    replace X := ext_trans X y17
    replace r0 := r0.ext y17
    replace hp := hp.ext y17
    replace hy := hy.ext y17
    clear y17
    go_wp2_with fail
    have C := specMin_c (w := W17) (a := x1) (b := y1)
    rw [HM1.out] at C
    refine C.mono ?_
    clear C
    rintro e W18 ⟨_, rfl, rfl, y18⟩
    have q18 := y18.size
    replace X := ext_trans X y18
    replace r0 := r0.ext y18
    replace hp := hp.ext y18
    replace hy := hy.ext y18
    clear y18
    go_wp2_with fail
    have C := implMax_c (w := W18) (a := x1) (b := y1)
    rw [HM2.out] at C
    refine C.mono ?_
    clear C
    rintro e W19 ⟨_, rfl, rfl, y19⟩
    have q19 := y19.size
    replace X := ext_trans X y19
    replace r0 := r0.ext y19
    replace hp := hp.ext y19
    replace hy := hy.ext y19
    clear y19
    go_wp2_with fail
    have C := specMax_c (w := W19) (a := x1) (b := y1)
    rw [HM2.out] at C
    refine C.mono ?_
    clear C
    rintro e W20 ⟨_, rfl, rfl, y20⟩
    have q20 := y20.size
    replace X := ext_trans X y20
    replace r0 := r0.ext y20
    replace hp := hp.ext y20
    replace hy := hy.ext y20
    clear y20
    go_wp2_with fail
    have C := implMin_c (w := W20) (a := x1) (b := y1)
    rw [HM1.out] at C
    refine C.mono ?_
    clear C
    rintro e W21 ⟨_, rfl, rfl, y21⟩
    have q21 := y21.size
    replace X := ext_trans X y21
    replace r0 := r0.ext y21
    replace hp := hp.ext y21
    replace hy := hy.ext y21
    clear y21
    go_wp2_with fail
    have C := implMax_c (w := W21) (a := x1) (b := y1)
    rw [HM2.out] at C
    refine C.mono ?_
    clear C
    rintro e W22 ⟨_, rfl, rfl, y22⟩
    have q22 := y22.size
    replace X := ext_trans X y22
    replace r0 := r0.ext y22
    replace hp := hp.ext y22
    replace hy := hy.ext y22
    clear y22
    go_wp2_with fail
    refine (gP (implIn_c (w := W22) (x := x1) (a := m1) (b := m2) true HIN.out)).mono ?_
    rintro e W23 ⟨_, rfl, rfl, y23⟩
    have q23 := y23.size
    replace X := ext_trans X y23
    replace r0 := r0.ext y23
    replace hp := hp.ext y23
    replace hy := hy.ext y23
    clear y23
    clear eT
    by_cases hq : 1 ≤ q1
    · by_cases hq2 : q1 ≤ 1000000000000
      · obtain ⟨f0, f1, f2, f3, f4⟩ := HMD.out hq hq2
        rcases f4 with f4 | f4
        · skip
          cases B
          · cases G
            · have hg := HGF.out rfl
              by_cases h0 : 0 ≤ n1
              · have h2 : decide (n1 ≤ 1000000000000) = false := decide_eq_false fun h => hg ⟨h0, h⟩
                go_wp2_with fail
                go_ret
                exact ⟨rfl, X⟩
              · skip
                go_wp2_with fail
                go_ret
                exact ⟨rfl, X⟩
            · obtain ⟨h10, h11, rfl⟩ := HGT.out rfl
              go_wp2_with fail
              go_ret
              exact ⟨rfl, X⟩
          · obtain ⟨hA0, hA1, hA2⟩ := HB.out rfl
            have HA2 := hid hA2
            clear hA2
            have eS : (s.toList == s.toList) = true := by simp
            cases G
            · have hg := HGF.out rfl
              by_cases h0 : 0 ≤ n1
              · have h2 : decide (n1 ≤ 1000000000000) = false := decide_eq_false fun h => hg ⟨h0, h⟩
                go_wp2_with fail
                have C := implFormatInt_c (n := A) (by omega) (by omega) hp
                rw [HA2.out] at C
                refine C.mono ?_
                clear C
                rintro e W24 ⟨_, rfl, rfl, y24⟩
                have q24 := y24.size
                replace X := ext_trans X y24
                replace r0 := r0.ext y24
                replace hp := hp.ext y24
                replace hy := hy.ext y24
                clear y24
                go_wp2_with fail
                go_ret
                exact ⟨rfl, X⟩
              · skip
                go_wp2_with fail
                have C := implFormatInt_c (n := A) (by omega) (by omega) hp
                rw [HA2.out] at C
                refine C.mono ?_
                clear C
                rintro e W24 ⟨_, rfl, rfl, y24⟩
                have q24 := y24.size
                replace X := ext_trans X y24
                replace r0 := r0.ext y24
                replace hp := hp.ext y24
                replace hy := hy.ext y24
                clear y24
                go_wp2_with fail
                go_ret
                exact ⟨rfl, X⟩
            · obtain ⟨h10, h11, rfl⟩ := HGT.out rfl
              go_wp2_with fail
              have C := implFormatInt_c (n := A) (by omega) (by omega) hp
              rw [HA2.out] at C
              refine C.mono ?_
              clear C
              rintro e W24 ⟨_, rfl, rfl, y24⟩
              have q24 := y24.size
              replace X := ext_trans X y24
              replace r0 := r0.ext y24
              replace hp := hp.ext y24
              replace hy := hy.ext y24
              clear y24
              go_wp2_with fail
              go_ret
              exact ⟨rfl, X⟩
        · have f5 : p1.tmod q1 ≠ R := by omega
          cases B
          · cases G
            · have hg := HGF.out rfl
              by_cases h0 : 0 ≤ n1
              · have h2 : decide (n1 ≤ 1000000000000) = false := decide_eq_false fun h => hg ⟨h0, h⟩
                go_wp2_with fail
                go_ret
                exact ⟨rfl, X⟩
              · skip
                go_wp2_with fail
                go_ret
                exact ⟨rfl, X⟩
            · obtain ⟨h10, h11, rfl⟩ := HGT.out rfl
              go_wp2_with fail
              go_ret
              exact ⟨rfl, X⟩
          · obtain ⟨hA0, hA1, hA2⟩ := HB.out rfl
            have HA2 := hid hA2
            clear hA2
            have eS : (s.toList == s.toList) = true := by simp
            cases G
            · have hg := HGF.out rfl
              by_cases h0 : 0 ≤ n1
              · have h2 : decide (n1 ≤ 1000000000000) = false := decide_eq_false fun h => hg ⟨h0, h⟩
                go_wp2_with fail
                have C := implFormatInt_c (n := A) (by omega) (by omega) hp
                rw [HA2.out] at C
                refine C.mono ?_
                clear C
                rintro e W24 ⟨_, rfl, rfl, y24⟩
                have q24 := y24.size
                replace X := ext_trans X y24
                replace r0 := r0.ext y24
                replace hp := hp.ext y24
                replace hy := hy.ext y24
                clear y24
                go_wp2_with fail
                go_ret
                exact ⟨rfl, X⟩
              · skip
                go_wp2_with fail
                have C := implFormatInt_c (n := A) (by omega) (by omega) hp
                rw [HA2.out] at C
                refine C.mono ?_
                clear C
                rintro e W24 ⟨_, rfl, rfl, y24⟩
                have q24 := y24.size
                replace X := ext_trans X y24
                replace r0 := r0.ext y24
                replace hp := hp.ext y24
                replace hy := hy.ext y24
                clear y24
                go_wp2_with fail
                go_ret
                exact ⟨rfl, X⟩
            · obtain ⟨h10, h11, rfl⟩ := HGT.out rfl
              go_wp2_with fail
              have C := implFormatInt_c (n := A) (by omega) (by omega) hp
              rw [HA2.out] at C
              refine C.mono ?_
              clear C
              rintro e W24 ⟨_, rfl, rfl, y24⟩
              have q24 := y24.size
              replace X := ext_trans X y24
              replace r0 := r0.ext y24
              replace hp := hp.ext y24
              replace hy := hy.ext y24
              clear y24
              go_wp2_with fail
              go_ret
              exact ⟨rfl, X⟩
      · skip
        cases B
        · cases G
          · have hg := HGF.out rfl
            by_cases h0 : 0 ≤ n1
            · have h2 : decide (n1 ≤ 1000000000000) = false := decide_eq_false fun h => hg ⟨h0, h⟩
              go_wp2_with fail
              go_ret
              exact ⟨rfl, X⟩
            · skip
              go_wp2_with fail
              go_ret
              exact ⟨rfl, X⟩
          · obtain ⟨h10, h11, rfl⟩ := HGT.out rfl
            go_wp2_with fail
            go_ret
            exact ⟨rfl, X⟩
        · obtain ⟨hA0, hA1, hA2⟩ := HB.out rfl
          have HA2 := hid hA2
          clear hA2
          have eS : (s.toList == s.toList) = true := by simp
          cases G
          · have hg := HGF.out rfl
            by_cases h0 : 0 ≤ n1
            · have h2 : decide (n1 ≤ 1000000000000) = false := decide_eq_false fun h => hg ⟨h0, h⟩
              go_wp2_with fail
              have C := implFormatInt_c (n := A) (by omega) (by omega) hp
              rw [HA2.out] at C
              refine C.mono ?_
              clear C
              rintro e W24 ⟨_, rfl, rfl, y24⟩
              have q24 := y24.size
              replace X := ext_trans X y24
              replace r0 := r0.ext y24
              replace hp := hp.ext y24
              replace hy := hy.ext y24
              clear y24
              go_wp2_with fail
              go_ret
              exact ⟨rfl, X⟩
            · skip
              go_wp2_with fail
              have C := implFormatInt_c (n := A) (by omega) (by omega) hp
              rw [HA2.out] at C
              refine C.mono ?_
              clear C
              rintro e W24 ⟨_, rfl, rfl, y24⟩
              have q24 := y24.size
              replace X := ext_trans X y24
              replace r0 := r0.ext y24
              replace hp := hp.ext y24
              replace hy := hy.ext y24
              clear y24
              go_wp2_with fail
              go_ret
              exact ⟨rfl, X⟩
          · obtain ⟨h10, h11, rfl⟩ := HGT.out rfl
            go_wp2_with fail
            have C := implFormatInt_c (n := A) (by omega) (by omega) hp
            rw [HA2.out] at C
            refine C.mono ?_
            clear C
            rintro e W24 ⟨_, rfl, rfl, y24⟩
            have q24 := y24.size
            replace X := ext_trans X y24
            replace r0 := r0.ext y24
            replace hp := hp.ext y24
            replace hy := hy.ext y24
            clear y24
            go_wp2_with fail
            go_ret
            exact ⟨rfl, X⟩
    · skip
      cases B
      · cases G
        · have hg := HGF.out rfl
          by_cases h0 : 0 ≤ n1
          · have h2 : decide (n1 ≤ 1000000000000) = false := decide_eq_false fun h => hg ⟨h0, h⟩
            go_wp2_with fail
            go_ret
            exact ⟨rfl, X⟩
          · skip
            go_wp2_with fail
            go_ret
            exact ⟨rfl, X⟩
        · obtain ⟨h10, h11, rfl⟩ := HGT.out rfl
          go_wp2_with fail
          go_ret
          exact ⟨rfl, X⟩
      · obtain ⟨hA0, hA1, hA2⟩ := HB.out rfl
        have HA2 := hid hA2
        clear hA2
        have eS : (s.toList == s.toList) = true := by simp
        cases G
        · have hg := HGF.out rfl
          by_cases h0 : 0 ≤ n1
          · have h2 : decide (n1 ≤ 1000000000000) = false := decide_eq_false fun h => hg ⟨h0, h⟩
            go_wp2_with fail
            have C := implFormatInt_c (n := A) (by omega) (by omega) hp
            rw [HA2.out] at C
            refine C.mono ?_
            clear C
            rintro e W24 ⟨_, rfl, rfl, y24⟩
            have q24 := y24.size
            replace X := ext_trans X y24
            replace r0 := r0.ext y24
            replace hp := hp.ext y24
            replace hy := hy.ext y24
            clear y24
            go_wp2_with fail
            go_ret
            exact ⟨rfl, X⟩
          · skip
            go_wp2_with fail
            have C := implFormatInt_c (n := A) (by omega) (by omega) hp
            rw [HA2.out] at C
            refine C.mono ?_
            clear C
            rintro e W24 ⟨_, rfl, rfl, y24⟩
            have q24 := y24.size
            replace X := ext_trans X y24
            replace r0 := r0.ext y24
            replace hp := hp.ext y24
            replace hy := hy.ext y24
            clear y24
            go_wp2_with fail
            go_ret
            exact ⟨rfl, X⟩
        · obtain ⟨h10, h11, rfl⟩ := HGT.out rfl
          go_wp2_with fail
          have C := implFormatInt_c (n := A) (by omega) (by omega) hp
          rw [HA2.out] at C
          refine C.mono ?_
          clear C
          rintro e W24 ⟨_, rfl, rfl, y24⟩
          have q24 := y24.size
          replace X := ext_trans X y24
          replace r0 := r0.ext y24
          replace hp := hp.ext y24
          replace hy := hy.ext y24
          clear y24
          go_wp2_with fail
          go_ret
          exact ⟨rfl, X⟩
theorem door_met (os : Os) (args : Array Value) : laidMetH Tryd.prog Rows.fnDigitsRow.laid ((World.doorLaid Tryd.prog 400 os).forCall (fun _ _ => 0) ⟨#[], args, []⟩).memory :=
  laidMetH_of_parts3 (fuel := 8) (laidMet_of_run' 8 (by kernel_rfl) (by kernel_rfl)) (by kernel_rfl) (by kernel_rfl)
theorem of_laid {W : World} (h : laidMetH Tryd.prog Rows.fnDigitsRow.laid W) : Pow W ∧ Syn W := by
  rw [MakeChecks.laidMetH_plain _ _ _ (by kernel_rfl)] at h
  have h3 := laidMet.tail (laidMet.tail h)
  have ht := Lib.tabIs_of_head (zs := Lib.pow10Tab) gPow tPow Tryd.underlying73 Tryd.underlying60 cU cPow h3
  obtain ⟨a, t, hv, _⟩ := laid_sentinel (laidMet.tail (laidMet.tail h3)) gSyn tSyn Tryd.underlying36 rowErr Tryd.underlying79 Tryd.underlying81 rfl rfl Tryd.underlying9 cErr cStr
  exact ⟨⟨ht, World.block_lt_of_cell? _ _ (ht.cell gPow 0 (by decide))⟩, ⟨_, _, hv⟩, World.block_lt_of_cell? _ _ ((World.var?_cell gSyn hv 0).trans rfl)⟩
set_option maxRecDepth 100000 in
theorem lifted (os : Os) (started : os.Started) (H : Type) (enc : TypeId × Value → H) :
    ReturnsInHanded {} Tryd.checked os 5 .any (fun w args => (Rows.fnDigitsSpec.pre enc Tryd.prog Tryd.f5 [] false w args ∧ laidMetH Tryd.prog Rows.fnDigitsRow.laid w) ∧ sizedMet enc Tryd.prog Tryd.f5 (OpenSpec.ofChange Rows.fnDigitsSpec) false w args)
      (Rows.fnDigitsSpec.post enc Tryd.prog Tryd.f5 false true false false) := by
  refine returnsInHanded_of_change_and (C := Tryd.checked) (X := fun w _ => laidMetH Tryd.prog Rows.fnDigitsRow.laid w) (fun _ _ _ hh h => h.of_heap hh) own started (by kernel_rfl) Tryd.func5
    (ChangeSpec.witness_shaped (enc := enc) (C := Tryd.checked) (os := os) (X := fun w _ => laidMetH Tryd.prog Rows.fnDigitsRow.laid w) false (World.doorLaid Tryd.prog 400 os) #[.slice none 0 0] 8 rfl (World.shaped_of_RefB (by kernel_rfl) (by kernel_rfl)) (by kernel_rfl) (by kernel_rfl) (by kernel_rfl) (door_met os _)) ?_
  intro W base args ds gs before hval0 hW _ _ hL _
  have hval : ∀ (j : Nat) t v, Tryd.f5.params[j]? = some t → args[j]? = some v → Value.okWide Tryd.prog W .any base t v := hval0
  have hW' := hW
  obtain ⟨p, q, hA0, hV, rfl, hfz, hnd⟩ := hW
  have hA : DataW.TrodAll enc Tryd.prog W 0 (fun _ => true) true Tryd.f5.params.toList args.toList ds p := hA0
  rw [Tryd.params5] at hA hval
  obtain ⟨v0, d0, rfl, rfl, h0⟩ := trodAll_one hA
  obtain ⟨rfl, rfl⟩ := trodVars_none hV
  have k0 := h0
  have lt0 : ∀ x ∈ p, x.block < W.heap.size := by obtain ⟨m, hm⟩ := k0; exact DataW.trod_lt m _ _ _ hm
  obtain ⟨n0, x0, r0⟩ := rd_bytes Tryd.underlying27 Tryd.underlying5 (by kernel_rfl) (hval 0 27 v0 rfl rfl) h0
  clear hA0 hval0
  simp only [List.append_nil] at hW'
  refine (walk W v0 n0 x0 r0 (of_laid hL).1 (of_laid hL).2).mono fun e W' ⟨he, bel⟩ => ?_
  subst he
  exact ⟨_, rfl, _, _, _, [], _, [], hW', trodAll_mk1 (shut_bool Tryd.underlying4 _), trodAll_mk1 (Below.trod laidOut (by kernel_rfl) (of_decide_eq_true (by kernel_rfl)) k0 bel lt0), rfl, bel.frame _, fun h => by cases h⟩
theorem said : Rows.FnDigitsSaid :=
  OpenClaim.holds_of_wide 5 Tryd.f5 rfl rfl rfl rfl rfl rfl rfl ⟨rfl, rfl, rfl, rfl, rfl⟩ rfl rfl rfl rfl rfl (by kernel_rfl) Tryd.func5 (by kernel_rfl)
    (of_decide_eq_true (by kernel_rfl)) (by unfold Func.isWrapper; first | (rw [if_pos (by decide +kernel)]; kernel_rfl) | (rw [if_neg (by decide +kernel)]; exact ⟨rfl, rfl⟩))
    (fun os started H enc _ => lifted os started H enc)
theorem proved : Rows.FnDigitsCardSaid :=
  Claim7.holds_tied_plain_at .later [] [.data, .data, .data, .sentinel, .sentinel] true (true, "66d56ad30460243ad57bc3c69f67ca09b753d6110119dfd9e90648ee3ad1e2e5") true
    said (fun _ h => by cases h) (by kernel_rfl) (fun _ h => by cases h) fnDigits_row_tie rfl ⟨rfl, rfl⟩ (by kernel_rfl) rfl
    (fun f fn hf hfn => by
      obtain rfl : f = 5 := Option.some.inj ((show Tryd.prog.funcNamed "loop.example/g00507/laws.FnDigits" = some 5 by kernel_rfl).symm.trans hf) |>.symm
      obtain rfl : fn = Tryd.f5 := (Option.some.inj (Tryd.func5.symm.trans hfn)).symm
      exact ⟨by kernel_rfl, fun j t ht => by
        rw [Tryd.params5] at ht
        have hm : t ∈ [27] := by simpa using Array.mem_of_getElem? ht
        have hall : ([27].all fun u => !Tryd.prog.wantsStandIn u) = true := by kernel_rfl
        exact (show Tryd.prog.wantsStandIn t = false by simpa using List.all_eq_true.1 hall t hm)⟩)
    (by kernel_rfl)
end fnDigits
end Go.Proofs.YtmabcdnjojjgeaaDoor
