/- FnExactParseInt holds: impl.ParseInt and spec.ParseInt agree at every text. The tables and the errors read as the program's text lays them: the card ties it. -/
import Derived.Test.YtmabcdnjojjgeaaDoorRows
import Derived.Test.YtmabcdnjojjgeaaDoorCards
import Derived.Test.YtmabcdnjojjgeaaDoorTie
import Derived.Test.YtmabcdnjojjgeaaDoorPii
import Derived.SevenTiedAt
set_option linter.unusedVariables false
namespace Go.Proofs.YtmabcdnjojjgeaaDoor
open Go.ChangeShapes Go.WideShapes Go.ChangeAt Go.WideMaps Go.WideElems Go.RowKit
open Go.ChangeMaps (open_string shut_string)
theorem own : ownKnob Tryd.prog.godebug = none := by kernel_rfl
theorem gSyn : Tryd.prog.globalNamed "strconv.ErrSyntax" = some 0 := by kernel_rfl
theorem tSyn : (Tryd.prog.globals[0]?).map (·.type) = some 36 := by kernel_rfl
theorem starErr : "*" ++ "errors.errorString" = "*errors.errorString" := by decide
theorem rowErr (u : TypeId) (h : Tryd.prog.typeName? 3 u = some "*errors.errorString") : u = 79 :=
  typeName_ptr_named (nm := "errors.errorString") (by rw [starErr]; kernel_rfl) (by kernel_rfl) (by decide) u (by rw [starErr]; exact h)
theorem cErr : Tryd.prog.cellsOf 81 = 1 := by kernel_rfl
theorem cStr : Tryd.prog.cellsOf 9 = 1 := by kernel_rfl
def Syn (w : World) : Prop := SynE w ∧ 0 < w.heap.size
theorem Syn.ext {w w' : World} (h : Syn w) (b : Below w.heap.size w w') : Syn w' := ⟨by obtain ⟨⟨tp, p, hv⟩, hl⟩ := h; exact ⟨tp, p, var?_below b gSyn hl hv⟩, Nat.lt_of_lt_of_le h.2 b.size⟩
theorem pr_bound {s : ByteArray} {m : Nat} (h : pr s = some m) : m ≤ 1000000000000 := by
  rw [pr] at h
  split at h
  · split at h
    · cases h
    · split at h
      · rename_i hc; cases h; exact hc.1
      · cases h
  · cases h
namespace fnExactParseInt
theorem walk (w : World) (s : ByteArray) (hs : s.size ≤ maxLen) (hp : Pow w) (hy : Syn w) :
    Calls Tryd.prog 4 #[.string s] w fun e w' => e = .returned (.bool true) ∧ Below w.heap.size w w' := by
  have hm : s.size ≤ 9223372036854775807 := by unfold maxLen at hs; omega
  by_cases hlen : s.size ≤ 1048576
  · have C := hid (specParseInt_c (w := w) hm)
    have K := hid (fun (w1 : World) (y : Below w.heap.size w w1) => implParseInt_c hm (hp.ext y) (hy.ext y).1)
    clear hm hs hp hy
    go_enter Tryd.func4, Tryd.ntmps4
    cases hpr : pr s with
    | none =>
      rw [hpr] at C K
      go_wp2_with fail
      refine C.out.mono ?_
      rintro e w1 ⟨_, rfl, rfl, y1⟩
      have C2 := hid (K.out w1 y1)
      clear C K hpr
      simp only [prVal]
      go_wp2_with fail
      refine C2.out.mono ?_
      rintro e w2 ⟨_, rfl, rfl, y2⟩
      have x := ext_trans y1 y2
      clear C2
      simp only [prVal]
      go_wp2
      go_ret
      exact ⟨rfl, x⟩
    | some m =>
      have hb := pr_bound hpr
      rw [hpr] at C K
      go_wp2_with fail
      refine C.out.mono ?_
      rintro e w1 ⟨_, rfl, rfl, y1⟩
      have C2 := hid (K.out w1 y1)
      clear C K hpr
      simp only [prVal]
      go_wp2_with fail
      refine C2.out.mono ?_
      rintro e w2 ⟨_, rfl, rfl, y2⟩
      have x := ext_trans y1 y2
      clear C2
      simp only [prVal]
      go_wp2
      go_ret
      exact ⟨rfl, x⟩
  · clear hp hy
    go_enter Tryd.func4, Tryd.ntmps4
    go_wp2
    go_ret
    exact ⟨rfl, ext_refl _⟩
theorem door_met (os : Os) (args : Array Value) : laidMetH Tryd.prog Rows.fnExactParseIntRow.laid ((World.doorLaid Tryd.prog 400 os).forCall (fun _ _ => 0) ⟨#[], args, []⟩).memory :=
  laidMetH_of_parts3 (fuel := 8) (laidMet_of_run' 8 (by kernel_rfl) (by kernel_rfl)) (by kernel_rfl) (by kernel_rfl)
theorem of_laid {W : World} (h : laidMetH Tryd.prog Rows.fnExactParseIntRow.laid W) : Pow W ∧ Syn W := by
  rw [MakeChecks.laidMetH_plain _ _ _ (by kernel_rfl)] at h
  have h3 := laidMet.tail (laidMet.tail h)
  have ht := Lib.tabIs_of_head (zs := Lib.pow10Tab) gPow tPow Tryd.underlying73 Tryd.underlying60 cU cPow h3
  obtain ⟨a, t, hv, _⟩ := laid_sentinel (laidMet.tail (laidMet.tail h3)) gSyn tSyn Tryd.underlying36 rowErr Tryd.underlying79 Tryd.underlying81 rfl rfl Tryd.underlying9 cErr cStr
  exact ⟨⟨ht, World.block_lt_of_cell? _ _ (ht.cell gPow 0 (by decide))⟩, ⟨_, _, hv⟩, World.block_lt_of_cell? _ _ ((World.var?_cell gSyn hv 0).trans rfl)⟩
set_option maxRecDepth 100000 in
theorem lifted (os : Os) (started : os.Started) (H : Type) (enc : TypeId × Value → H) :
    ReturnsInHanded {} Tryd.checked os 4 .any (fun w args => (Rows.fnExactParseIntSpec.pre enc Tryd.prog Tryd.f4 [] false w args ∧ laidMetH Tryd.prog Rows.fnExactParseIntRow.laid w) ∧ sizedMet enc Tryd.prog Tryd.f4 (OpenSpec.ofChange Rows.fnExactParseIntSpec) false w args)
      (Rows.fnExactParseIntSpec.post enc Tryd.prog Tryd.f4 false true false false) := by
  refine returnsInHanded_of_change_and (C := Tryd.checked) (X := fun w _ => laidMetH Tryd.prog Rows.fnExactParseIntRow.laid w) (fun _ _ _ hh h => h.of_heap hh) own started (by kernel_rfl) Tryd.func4
    (ChangeSpec.witness_shaped (enc := enc) (C := Tryd.checked) (os := os) (X := fun w _ => laidMetH Tryd.prog Rows.fnExactParseIntRow.laid w) false (World.doorLaid Tryd.prog 400 os) #[.string ⟨#[]⟩] 8 rfl (World.shaped_of_RefB (by kernel_rfl) (by kernel_rfl)) (by kernel_rfl) (by kernel_rfl) (by kernel_rfl) (door_met os _)) ?_
  intro W base args ds gs before hval0 hW _ _ hL _
  have hval : ∀ (j : Nat) t v, Tryd.f4.params[j]? = some t → args[j]? = some v → Value.okWide Tryd.prog W .any base t v := hval0
  have hW' := hW
  obtain ⟨p, q, hA0, hV, rfl, hfz, hnd⟩ := hW
  have hA : DataW.TrodAll enc Tryd.prog W 0 (fun _ => true) true Tryd.f4.params.toList args.toList ds p := hA0
  rw [Tryd.params4] at hA hval
  obtain ⟨v0, d0, rfl, rfl, h0⟩ := trodAll_one hA
  obtain ⟨rfl, rfl⟩ := trodVars_none hV
  obtain ⟨s, rfl, rfl, rfl, w0⟩ := open_string Tryd.underlying9 (hval 0 9 v0 rfl rfl) h0
  clear hA0 hval0
  simp only [List.append_nil] at hW'
  refine (walk W s w0 (of_laid hL).1 (of_laid hL).2).mono fun e W' ⟨he, bel⟩ => ?_
  subst he
  exact ⟨_, rfl, _, _, _, [], _, [], hW', trodAll_mk1 (shut_bool Tryd.underlying4 _), trodAll_mk1 (shut_string Tryd.underlying9 w0), rfl, bel.frame _, fun h => by cases h⟩
theorem said : Rows.FnExactParseIntSaid :=
  OpenClaim.holds_of_wide 4 Tryd.f4 rfl rfl rfl rfl rfl rfl rfl ⟨rfl, rfl, rfl, rfl, rfl⟩ rfl rfl rfl rfl rfl (by kernel_rfl) Tryd.func4 (by kernel_rfl)
    (of_decide_eq_true (by kernel_rfl)) (by unfold Func.isWrapper; first | (rw [if_pos (by decide +kernel)]; kernel_rfl) | (rw [if_neg (by decide +kernel)]; exact ⟨rfl, rfl⟩))
    (fun os started H enc _ => lifted os started H enc)
theorem proved : Rows.FnExactParseIntCardSaid :=
  Claim7.holds_tied_plain_at .later [] [.data, .data, .data, .sentinel, .sentinel] true (true, "66d56ad30460243ad57bc3c69f67ca09b753d6110119dfd9e90648ee3ad1e2e5") true
    said (fun _ h => by cases h) (by kernel_rfl) (fun _ h => by cases h) fnExactParseInt_row_tie rfl ⟨rfl, rfl⟩ (by kernel_rfl) rfl
    (fun f fn hf hfn => by
      obtain rfl : f = 4 := Option.some.inj ((show Tryd.prog.funcNamed "loop.example/g00507/laws.FnExactParseInt" = some 4 by kernel_rfl).symm.trans hf) |>.symm
      obtain rfl : fn = Tryd.f4 := (Option.some.inj (Tryd.func4.symm.trans hfn)).symm
      exact ⟨by kernel_rfl, fun j t ht => by
        rw [Tryd.params4] at ht
        have hm : t ∈ [9] := by simpa using Array.mem_of_getElem? ht
        have hall : ([9].all fun u => !Tryd.prog.wantsStandIn u) = true := by kernel_rfl
        exact (show Tryd.prog.wantsStandIn t = false by simpa using List.all_eq_true.1 hall t hm)⟩)
    (by kernel_rfl)
end fnExactParseInt
end Go.Proofs.YtmabcdnjojjgeaaDoor
