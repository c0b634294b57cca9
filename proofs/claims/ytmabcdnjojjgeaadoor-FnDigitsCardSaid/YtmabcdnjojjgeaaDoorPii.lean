/- The program's ParseInt: Atoi, then two tests. Condition: the tables and the two errors stand as the text lays them. -/
import Derived.Test.YtmabcdnjojjgeaaDoorPi
import Derived.Test.YtmabcdnjojjgeaaDoorShelf
import Derived.ProofKit
import Derived.LaidMore
import Derived.OpenShut
import Derived.Stop.Joined
import Derived.Stop.LaidErr
import Derived.WalkSmall
import Derived.Lib.LaidTab
import Derived.Lib.AppendIntMem
set_option linter.unusedVariables false
namespace Go.Proofs.YtmabcdnjojjgeaaDoor
open Go.ChangeShapes Go.WideShapes Go.ChangeAt Go.WideMaps Go.WideElems Go.RowKit
theorem gPow : Tryd.prog.globalNamed "internal/strconv.uint64pow10" = some 2 := by kernel_rfl
theorem tPow : (Tryd.prog.globals[2]?).map (·.type) = some 73 := by kernel_rfl
theorem cU : Tryd.prog.cellsOf 60 = 1 := by kernel_rfl
theorem cPow : Tryd.prog.cellsOf 73 = 20 := by kernel_rfl
def Pow (w : World) : Prop := Lib.TabIs Tryd.prog w "internal/strconv.uint64pow10" .u64 Lib.pow10Tab ∧ 2 < w.heap.size
theorem Pow.ext {w w' : World} (h : Pow w) (b : Below w.heap.size w w') : Pow w' := ⟨var?_below b gPow h.2 h.1, Nat.lt_of_lt_of_le h.2 b.size⟩
def SynE (w : World) : Prop := ∃ tp p, w.var? Tryd.prog "strconv.ErrSyntax" = some #[.iface tp p]
theorem implFormatInt_c {w : World} {n : Int} (h0 : -9223372036854775808 ≤ n) (h1 : n ≤ 9223372036854775807) (hp : Pow w) :
    Calls Tryd.prog 7 #[.int .i64 n] w (Gives w fun r _ => r = .string (dst (Lib.itoa n))) := by
  have C := hid (Tryd.strconv_Itoa n h0 h1 w hp.1)
  clear hp
  go_enter Tryd.func7, Tryd.ntmps7
  go_wp2_with fail
  refine C.out.mono ?_
  rintro e w1 ⟨rfl, k, os, rfl⟩
  have y := Lib.below_grow w.heap.size w (Nat.le_refl _) k os
  clear C
  generalize Go.Sort.grow (w.drewN k) os = w2 at *
  go_wp2
  go_ret
  exact gives_string rfl y
/-- What Atoi gives on a short text. -/
theorem atoi_c {w : World} {s : ByteArray} (hs : s.size ≤ 13) (he : SynE w) :
    Calls Tryd.prog 27 #[.string s] w fun e w' => Below w.heap.size w w' ∧ ((∃ n, Lib.atoi s.data.toList = some n ∧ -9223372036854775808 ≤ n ∧ n ≤ 9223372036854775807 ∧ e = .returned (.tuple #[.int .i64 n, .nilIface])) ∨ (Lib.atoi s.data.toList = none ∧ ∃ t p, e = .returned (.tuple #[.int .i64 0, .iface t (.pointer (some p))]))) := by
  have hA := Lib.atoiAll_short s.data.toList (by rw [Array.length_toList]; show s.size ≤ 18; omega)
  cases h : Lib.atoi s.data.toList with
  | some n =>
    rw [h] at hA
    have hb := Lib.atoiAll_bounds (show Lib.atoiAll s.data.toList = .ok n from hA)
    refine (Tryd.strconv_Atoi_ok s (by omega) n hA w).mono ?_
    rintro e w' ⟨rfl, hw⟩
    refine ⟨?_, Or.inl ⟨n, rfl, hb.1, hb.2, rfl⟩⟩
    rcases hw with rfl | ⟨t, rfl⟩
    · exact ext_refl _
    · exact Lib.bytesWorld_below w 5 t
  | none =>
    rw [h] at hA
    obtain ⟨tp, p, hv⟩ := he
    refine (Tryd.strconv_Atoi_syntax_var s (by omega) hA tp p w hv).mono ?_
    rintro e w' ⟨N, rfl, _, _, hb⟩
    exact ⟨hb, Or.inr ⟨rfl, _, _, rfl⟩⟩
set_option maxRecDepth 100000 in
theorem implParseInt_c {w : World} {s : ByteArray} (hm : s.size ≤ 9223372036854775807) (hp : Pow w) (he : SynE w) :
    Calls Tryd.prog 9 #[.string s] w (Gives w fun r _ => r = prVal (pr s)) := by
  by_cases h2 : s.size ≤ 13
  · have C := hid (atoi_c h2 he)
    have HP := hid hp
    clear hm hp he
    go_enter Tryd.func9, Tryd.ntmps9
    go_wp2_with fail
    refine C.out.mono ?_
    rintro e w1 ⟨y1, ⟨n, hn, hn1, hn2, rfl⟩ | ⟨hn, t, p, rfl⟩⟩
    · have HA := hid (pr_atoi h2 hn)
      have C4 := hid (implFormatInt_c (w := w1) hn1 hn2 (HP.out.ext y1))
      have HY := hid y1
      clear C hn y1
      by_cases hr : 0 ≤ n ∧ n ≤ 1000000000000
      · have C1 := hid (fun (w : World) => implIn_c (x := n) (a := 0) (b := 1000000000000) (w := w) true (decide_eq_true hr))
        go_wp2_with fail
        refine (C1.out _).mono ?_
        rintro e w2 ⟨rfl, rfl⟩
        clear C1
        obtain ⟨t, ht⟩ : ∃ t, dst (Lib.itoa n) = t := ⟨_, rfl⟩
        have C2 := C4.out
        rw [ht] at C2
        have HT := hid ht
        have C3 := hid C2
        clear C2 C4 ht
        by_cases hts : t = s
        · obtain ⟨m, hm, hpr⟩ := HA.out.1 ⟨hr.1, hr.2, HT.out.trans hts⟩
          subst hts
          have HR := hid hpr
          have HM := hid hm
          clear hm hpr HA
          go_wp2_with fail
          refine C3.out.mono ?_
          rintro e w3 ⟨_, rfl, rfl, y2⟩
          clear C3
          have x := ext_trans HY.out y2
          have e1 : (t.toList == t.toList) = true := by simp
          go_wp2
          go_ret2
          exact gives_of _ (by rw [HR.out, HM.out]; rfl) x
        · have HR := hid (HA.out.2 fun h => hts (HT.out.symm.trans h.2.2))
          clear HA
          go_wp2_with fail
          refine C3.out.mono ?_
          rintro e w3 ⟨_, rfl, rfl, y2⟩
          clear C3
          have x := ext_trans HY.out y2
          have e1 : (t.toList == s.toList) = false := by simp [str_eq, hts]
          go_wp2
          go_ret2
          exact gives_of _ (by rw [HR.out]; rfl) x
      · have C1 := hid (fun (w : World) => implIn_c (x := n) (a := 0) (b := 1000000000000) (w := w) false (decide_eq_false hr))
        have HR := hid (HA.out.2 fun h => hr ⟨h.1, h.2.1⟩)
        clear HA C4 hr
        go_wp2_with fail
        refine (C1.out _).mono ?_
        rintro e w2 ⟨rfl, rfl⟩
        clear C1
        go_wp2
        go_ret2
        exact gives_of _ (by rw [HR.out]; rfl) HY.out
    · have HR := hid (pr_noAtoi hn)
      clear C hn
      go_wp2
      go_ret2
      exact gives_of _ (by rw [HR.out]; rfl) y1
  · have HR := hid (pr_long h2)
    clear hp he
    go_enter Tryd.func9, Tryd.ntmps9
    go_wp2
    go_ret2
    exact gives_of _ (by rw [HR.out]; rfl) (ext_refl _)
end Go.Proofs.YtmabcdnjojjgeaaDoor
