/- FnExactFormatInt holds: impl.FormatInt and spec.FormatInt agree at every int. The table internal/strconv.uint64pow10 reads as the program's text lays it: the card ties it. -/
import Derived.Test.YtmabcdnjojjgeaaDoorRows
import Derived.Test.YtmabcdnjojjgeaaDoorCards
import Derived.Test.YtmabcdnjojjgeaaDoorTie
import Derived.Test.YtmabcdnjojjgeaaDoorFi
import Derived.Test.YtmabcdnjojjgeaaDoorShelf
import Derived.ProofKit
import Derived.LaidMore
import Derived.OpenShut
import Derived.Stop.Joined
import Derived.Stop.LaidErr
import Derived.WalkSmall
import Derived.Lib.LaidTab
import Derived.Lib.AppendIntMem
import Derived.SevenTiedAt
set_option linter.unusedVariables false
namespace Go.Proofs.YtmabcdnjojjgeaaDoor
open Go.ChangeShapes Go.WideShapes Go.ChangeAt Go.WideMaps Go.WideElems Go.RowKit
theorem own : ownKnob Tryd.prog.godebug = none := by kernel_rfl
theorem gPow : Tryd.prog.globalNamed "internal/strconv.uint64pow10" = some 2 := by kernel_rfl
theorem tPow : (Tryd.prog.globals[2]?).map (·.type) = some 73 := by kernel_rfl
theorem cU : Tryd.prog.cellsOf 60 = 1 := by kernel_rfl
theorem cPow : Tryd.prog.cellsOf 73 = 20 := by kernel_rfl
def Pow (w : World) : Prop := Lib.TabIs Tryd.prog w "internal/strconv.uint64pow10" .u64 Lib.pow10Tab ∧ 2 < w.heap.size
theorem Pow.ext {w w' : World} (h : Pow w) (b : Below w.heap.size w w') : Pow w' := ⟨var?_below b gPow h.2 h.1, Nat.lt_of_lt_of_le h.2 b.size⟩
theorem implFormatInt_c {w : World} {n : Int} (h0 : -9223372036854775808 ≤ n) (h1 : n ≤ 9223372036854775807) (hp : Pow w) :
    Calls Tryd.prog 7 #[.int .i64 n] w (Gives w fun r _ => r = .string (dst (Lib.itoa n))) := by
  have C := hid (Tryd.strconv_Itoa n h0 h1 w hp.1)
  clear hp
  go_enter Tryd.func7, Tryd.ntmps7
  go_wp2_with fail
  refine C.out.mono ?_
  rintro e w1 ⟨rfl, k, os, rfl⟩
  have y := Lib.below_grow w.heap.size w (Nat.le_refl _) k os
  clear C
  generalize Go.Sort.grow (w.drewN k) os = w2 at *
  go_wp2
  go_ret
  exact gives_string rfl y
namespace fnExactFormatInt
theorem walk (w : World) (a0 : Int) (w0 : (Lit.int .i64 a0).wf = true) (hp : Pow w) :
    Calls Tryd.prog 3 #[.int .i64 a0] w fun e w' => e = .returned (.bool true) ∧ Below w.heap.size w w' := by
  have hb := bounds_i64 w0
  have C := hid (specFormatInt_c (w := w) hb.1 hb.2)
  have HP := hid hp
  have HB := hid hb
  clear hp hb w0
  obtain ⟨t, ht⟩ : ∃ t, dst (Lib.itoa a0) = t := ⟨_, rfl⟩
  have C1 := C.out
  rw [ht] at C1
  have HT := hid ht
  have C2 := hid C1
  clear C C1 ht
  go_enter Tryd.func3, Tryd.ntmps3
  go_wp2_with fail
  refine C2.out.mono ?_
  rintro e w1 ⟨_, rfl, rfl, y1⟩
  have C := implFormatInt_c HB.out.1 HB.out.2 (HP.out.ext y1)
  rw [HT.out] at C
  have C3 := hid C
  clear C C2
  go_wp2_with fail
  refine C3.out.mono ?_
  rintro e w2 ⟨_, rfl, rfl, y2⟩
  have x := ext_trans y1 y2
  have e1 : (t.toList == t.toList) = true := by simp
  go_wp2
  go_ret
  exact ⟨rfl, x⟩
theorem door_met (os : Os) (args : Array Value) : laidMetH Tryd.prog Rows.fnExactFormatIntRow.laid ((World.doorLaid Tryd.prog 400 os).forCall (fun _ _ => 0) ⟨#[], args, []⟩).memory :=
  laidMetH_of_parts3 (fuel := 8) (laidMet_of_run' 8 (by kernel_rfl) (by kernel_rfl)) (by kernel_rfl) (by kernel_rfl)
theorem of_laid {W : World} (h : laidMetH Tryd.prog Rows.fnExactFormatIntRow.laid W) : Pow W := by
  rw [MakeChecks.laidMetH_plain _ _ _ (by kernel_rfl)] at h
  have h3 := laidMet.tail (laidMet.tail h)
  have ht := Lib.tabIs_of_head (zs := Lib.pow10Tab) gPow tPow Tryd.underlying73 Tryd.underlying60 cU cPow h3
  exact ⟨ht, World.block_lt_of_cell? _ _ (ht.cell gPow 0 (by decide))⟩
set_option maxRecDepth 100000 in
theorem lifted (os : Os) (started : os.Started) (H : Type) (enc : TypeId × Value → H) :
    ReturnsInHanded {} Tryd.checked os 3 .any (fun w args => (Rows.fnExactFormatIntSpec.pre enc Tryd.prog Tryd.f3 [] false w args ∧ laidMetH Tryd.prog Rows.fnExactFormatIntRow.laid w) ∧ sizedMet enc Tryd.prog Tryd.f3 (OpenSpec.ofChange Rows.fnExactFormatIntSpec) false w args)
      (Rows.fnExactFormatIntSpec.post enc Tryd.prog Tryd.f3 false true false false) := by
  refine returnsInHanded_of_change_and (C := Tryd.checked) (X := fun w _ => laidMetH Tryd.prog Rows.fnExactFormatIntRow.laid w) (fun _ _ _ hh h => h.of_heap hh) own started (by kernel_rfl) Tryd.func3
    (ChangeSpec.witness_shaped (enc := enc) (C := Tryd.checked) (os := os) (X := fun w _ => laidMetH Tryd.prog Rows.fnExactFormatIntRow.laid w) false (World.doorLaid Tryd.prog 400 os) #[.int .i64 0] 8 rfl (World.shaped_of_RefB (by kernel_rfl) (by kernel_rfl)) (by kernel_rfl) (by kernel_rfl) (by kernel_rfl) (door_met os _)) ?_
  intro W base args ds gs before hval0 hW _ _ hL _
  have hval : ∀ (j : Nat) t v, Tryd.f3.params[j]? = some t → args[j]? = some v → Value.okWide Tryd.prog W .any base t v := hval0
  have hW' := hW
  obtain ⟨p, q, hA0, hV, rfl, hfz, hnd⟩ := hW
  have hA : DataW.TrodAll enc Tryd.prog W 0 (fun _ => true) true Tryd.f3.params.toList args.toList ds p := hA0
  rw [Tryd.params3] at hA hval
  obtain ⟨v0, d0, rfl, rfl, h0⟩ := trodAll_one hA
  obtain ⟨rfl, rfl⟩ := trodVars_none hV
  obtain ⟨a0, rfl, rfl, rfl, w0⟩ := open_int Tryd.underlying3 (hval 0 3 v0 rfl rfl) h0
  clear hA0 hval0
  simp only [List.append_nil] at hW'
  refine (walk W a0 w0 (of_laid hL)).mono fun e W' ⟨he, bel⟩ => ?_
  subst he
  exact ⟨_, rfl, _, _, _, [], _, [], hW', trodAll_mk1 (shut_bool Tryd.underlying4 _), trodAll_mk1 (shut_int Tryd.underlying3 w0), rfl, bel.frame _, fun h => by cases h⟩
theorem said : Rows.FnExactFormatIntSaid :=
  OpenClaim.holds_of_wide 3 Tryd.f3 rfl rfl rfl rfl rfl rfl rfl ⟨rfl, rfl, rfl, rfl, rfl⟩ rfl rfl rfl rfl rfl (by kernel_rfl) Tryd.func3 (by kernel_rfl)
    (of_decide_eq_true (by kernel_rfl)) (by unfold Func.isWrapper; first | (rw [if_pos (by decide +kernel)]; kernel_rfl) | (rw [if_neg (by decide +kernel)]; exact ⟨rfl, rfl⟩))
    (fun os started H enc _ => lifted os started H enc)
theorem proved : Rows.FnExactFormatIntCardSaid :=
  Claim7.holds_tied_plain_at .later [] [.data, .data, .data] true (true, "66d56ad30460243ad57bc3c69f67ca09b753d6110119dfd9e90648ee3ad1e2e5") true
    said (fun _ h => by cases h) (by kernel_rfl) (fun _ h => by cases h) fnExactFormatInt_row_tie rfl ⟨rfl, rfl⟩ (by kernel_rfl) rfl
    (fun f fn hf hfn => by
      obtain rfl : f = 3 := Option.some.inj ((show Tryd.prog.funcNamed "loop.example/g00507/laws.FnExactFormatInt" = some 3 by kernel_rfl).symm.trans hf) |>.symm
      obtain rfl : fn = Tryd.f3 := (Option.some.inj (Tryd.func3.symm.trans hfn)).symm
      exact ⟨by kernel_rfl, fun j t ht => by
        rw [Tryd.params3] at ht
        have hm : t ∈ [3] := by simpa using Array.mem_of_getElem? ht
        have hall : ([3].all fun u => !Tryd.prog.wantsStandIn u) = true := by kernel_rfl
        exact (show Tryd.prog.wantsStandIn t = false by simpa using List.all_eq_true.1 hall t hm)⟩)
    (by kernel_rfl)
end fnExactFormatInt
end Go.Proofs.YtmabcdnjojjgeaaDoor
