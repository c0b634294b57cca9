/- FnExactParseName holds: impl.ParseName and spec.ParseName agree at every text, and what is made is new memory. The library's tables read as the program's text lays them: the card ties it. -/
import Derived.Test.YtoehjfcadhgpbaaDoorRows
import Derived.Test.YtoehjfcadhgpbaaDoorCards
import Derived.Test.YtoehjfcadhgpbaaDoorTie
import Derived.Test.YtoehjfcadhgpbaaDoorFrame
import Derived.Test.YtoehjfcadhgpbaaDoorPz
import Derived.Deep.RegionHeld3
import Derived.SevenTiedAt
import Derived.HandedShaped
import Derived.LaidMore
import Derived.Lay
import Derived.MakeChecks
import Derived.Stop.Joined
set_option linter.unusedVariables false
namespace Go.Proofs.YtoehjfcadhgpbaaDoor
open Go.ChangeShapes Go.WideShapes Go.ChangeAt Go.WideMaps Go.WideElems Go.RowKit
open Go.ChangeMaps (open_string shut_string)
theorem Rd.rd {w : World} {lo hi size n : Nat} {v : Value} {xs : List Value} (h : Rd w lo hi size v n xs) : Rd w lo hi size v n xs := h
namespace fnExactParseName
set_option maxRecDepth 100000 in
set_option maxHeartbeats 4000000 in
theorem walk (w : World) (s : ByteArray) (hs : s.size ≤ maxLen) (mx : Mx w) :
    Calls Tryd.prog 4 #[.string s] w fun e w' => e = .returned (.bool true) ∧ Below w.heap.size w w' := by
  unfold maxLen at hs
  by_cases hlen : (s.size : Int) ≤ 1048576
  · have hpos := mx.pos
    have hl := pnm_len vn s
    have hl2 := wt_len (pnm vn s).1
    go_enter Tryd.func4, Tryd.ntmps4
    have X := ext_refl w
    go_wp2_with fail
    refine (specParseName_c (by omega)).mono ?_
    rintro e W1 ⟨_, rfl, ⟨u1, rfl, o1⟩, y1⟩
    have q1 := y1.size
    replace X := ext_trans X y1
    replace mx := mx.ext y1
    clear y1
    obtain ⟨z2, rfl, g2⟩ := id o1
    obtain ⟨a2', c2', rfl, _⟩ := g2.rd.form
    clear g2
    have y2 := ext_alloc (ext_refl W1) (.cells #[.slice a2' ((pnm vn s).1.length) c2'] 30)
    have q2 := y2.size
    have p2 : W1.heap.size + 1 = (W1.alloc (.cells #[.slice a2' ((pnm vn s).1.length) c2'] 30)).heap.size := by simp
    have k40 : (W1.alloc (.cells #[.slice a2' ((pnm vn s).1.length) c2'] 30)).cell? ⟨W1.heap.size, 0, none⟩ = some (.slice a2' ((pnm vn s).1.length) c2') := by simp
    replace X := ext_trans X y2
    replace mx := mx.ext y2
    replace o1 := o1.ext y2
    clear y2
    go_wp2_with fail
    generalize W1.alloc (.cells #[.slice a2' ((pnm vn s).1.length) c2'] 30) = W2 at *
    go_wp2_with fail
    refine (implParseName_c (by omega) mx).mono ?_
    rintro e W3 ⟨_, rfl, ⟨u2, rfl, o2⟩, y3⟩
    have q3 := y3.size
    replace X := ext_trans X y3
    replace mx := mx.ext y3
    replace o1 := o1.ext y3
    replace k40 := cell_ext k40 y3
    clear y3
    obtain ⟨z4, rfl, g4⟩ := id o2
    obtain ⟨a4', c4', rfl, _⟩ := g4.rd.form
    clear g4
    have y4 := ext_alloc (ext_refl W3) (.cells #[.slice a4' ((pnm vn s).1.length) c4'] 30)
    have q4 := y4.size
    have p4 : W3.heap.size + 1 = (W3.alloc (.cells #[.slice a4' ((pnm vn s).1.length) c4'] 30)).heap.size := by simp
    have k41 : (W3.alloc (.cells #[.slice a4' ((pnm vn s).1.length) c4'] 30)).cell? ⟨W3.heap.size, 0, none⟩ = some (.slice a4' ((pnm vn s).1.length) c4') := by simp
    replace X := ext_trans X y4
    replace mx := mx.ext y4
    replace o1 := o1.ext y4
    replace k40 := cell_ext k40 y4
    replace o2 := o2.ext y4
    clear y4
    go_wp2_with fail
    generalize W3.alloc (.cells #[.slice a4' ((pnm vn s).1.length) c4'] 30) = W4 at *
    go_wp2_with fail
    refine (eqName_c o2.rd o1).mono ?_
    rintro e W5 ⟨_, rfl, rfl, y5⟩
    have q5 := y5.size
    replace X := ext_trans X y5
    replace mx := mx.ext y5
    replace o1 := o1.ext y5
    replace k40 := cell_ext k40 y5
    replace o2 := o2.ext y5
    replace k41 := cell_ext k41 y5
    clear y5
    go_wp2_with fail
    refine (markName_c o2 (k0 := 1) (by omega) (by omega) (by omega)).mono ?_
    clear o2
    rintro e W6 ⟨rfl, o2, y6⟩
    have q6 := y6.size
    replace X := y6.ext X (by omega)
    replace mx := mx.mut y6 (by omega)
    replace o1 := o1.mut y6 (by omega)
    replace k40 := cell_mut k40 y6 (by simp only; omega)
    replace k41 := cell_mut k41 y6 (by simp only; omega)
    clear y6
    go_wp2_with fail
    refine (heldName_c o2.rd (k0 := 1) (by omega) (by omega) (by omega)).mono ?_
    rintro e W7 ⟨_, rfl, rfl, y7⟩
    have q7 := y7.size
    replace X := ext_trans X y7
    replace mx := mx.ext y7
    replace o1 := o1.ext y7
    replace k40 := cell_ext k40 y7
    replace o2 := o2.ext y7
    replace k41 := cell_ext k41 y7
    clear y7
    go_wp2_with fail
    refine (implParseName_c (by omega) mx).mono ?_
    rintro e W8 ⟨_, rfl, ⟨u3, rfl, o3⟩, y8⟩
    have q8 := y8.size
    replace X := ext_trans X y8
    replace mx := mx.ext y8
    replace o1 := o1.ext y8
    replace k40 := cell_ext k40 y8
    replace o2 := o2.ext y8
    replace k41 := cell_ext k41 y8
    clear y8
    obtain ⟨z9, rfl, g9⟩ := id o3
    obtain ⟨a9', c9', rfl, _⟩ := g9.rd.form
    clear g9
    have y9 := ext_alloc (ext_refl W8) (.cells #[.slice a9' ((pnm vn s).1.length) c9'] 30)
    have q9 := y9.size
    have p9 : W8.heap.size + 1 = (W8.alloc (.cells #[.slice a9' ((pnm vn s).1.length) c9'] 30)).heap.size := by simp
    have k42 : (W8.alloc (.cells #[.slice a9' ((pnm vn s).1.length) c9'] 30)).cell? ⟨W8.heap.size, 0, none⟩ = some (.slice a9' ((pnm vn s).1.length) c9') := by simp
    replace X := ext_trans X y9
    replace mx := mx.ext y9
    replace o1 := o1.ext y9
    replace k40 := cell_ext k40 y9
    replace o2 := o2.ext y9
    replace k41 := cell_ext k41 y9
    replace o3 := o3.ext y9
    clear y9
    go_wp2_with fail
    generalize W8.alloc (.cells #[.slice a9' ((pnm vn s).1.length) c9'] 30) = W9 at *
    go_wp2_with fail
    refine (eqName_c o3.rd o1).mono ?_
    rintro e W10 ⟨_, rfl, rfl, y10⟩
    have q10 := y10.size
    replace X := ext_trans X y10
    replace mx := mx.ext y10
    replace o1 := o1.ext y10
    replace k40 := cell_ext k40 y10
    replace o2 := o2.ext y10
    replace k41 := cell_ext k41 y10
    replace o3 := o3.ext y10
    replace k42 := cell_ext k42 y10
    clear y10
    go_wp2_with fail
    refine (heldName_c o2.rd (k0 := 1) (by omega) (by omega) (by omega)).mono ?_
    rintro e W11 ⟨_, rfl, rfl, y11⟩
    have q11 := y11.size
    replace X := ext_trans X y11
    replace mx := mx.ext y11
    replace o1 := o1.ext y11
    replace k40 := cell_ext k40 y11
    replace o2 := o2.ext y11
    replace k41 := cell_ext k41 y11
    replace o3 := o3.ext y11
    replace k42 := cell_ext k42 y11
    clear y11
    go_wp2_with fail
    go_ret
    exact ⟨rfl, X⟩
  · clear mx
    go_enter Tryd.func4, Tryd.ntmps4
    go_wp2
    go_ret
    exact ⟨rfl, ext_refl _⟩
theorem all_met (os : Os) (args : Array Value) : laidMetH Tryd.prog Rows.fnExactParseNameRow.laid ((World.laidAll Tryd.prog os Rows.fnExactParseNameRow.laid).forCall (fun _ _ => 0) ⟨#[], args, []⟩).memory := by
  rw [MakeChecks.laidMetH_plain _ _ _ (by kernel_rfl)]
  exact laidMet_laidAll _ (by kernel_rfl) (by kernel_rfl)
set_option maxRecDepth 100000 in
theorem lifted (os : Os) (started : os.Started) (H : Type) (enc : TypeId × Value → H) :
    ReturnsInHanded {} Tryd.checked os 4 .any (fun w args => (Rows.fnExactParseNameSpec.pre enc Tryd.prog Tryd.f4 [] false w args ∧ laidMetH Tryd.prog Rows.fnExactParseNameRow.laid w) ∧ sizedMet enc Tryd.prog Tryd.f4 (OpenSpec.ofChange Rows.fnExactParseNameSpec) false w args)
      (Rows.fnExactParseNameSpec.post enc Tryd.prog Tryd.f4 false true false false) := by
  refine returnsInHanded_of_calls own started (by kernel_rfl)
    (ChangeSpec.witness_shaped (enc := enc) (C := Tryd.checked) (os := os) (X := fun w _ => laidMetH Tryd.prog Rows.fnExactParseNameRow.laid w) false (World.laidAll Tryd.prog os Rows.fnExactParseNameRow.laid) #[.string ⟨#[]⟩] 8 (World.laidAll_os _ _ _) (World.shaped_of_ZipB (by kernel_rfl) (by kernel_rfl)) (by kernel_rfl) (by kernel_rfl) (by kernel_rfl) (all_met os _)) ?_
  intro w0 tape inp _ hsh _ hok hpre _
  obtain ⟨_, _, _, fn', hfn', _, _, _, _, hval0⟩ := hok
  have efn : fn' = Tryd.f4 := Option.some.inj (hfn'.symm.trans Tryd.func4)
  subst efn
  obtain ⟨⟨⟨ds, gs, before, hw, _⟩, _⟩, _⟩ := hpre
  have hW := DataW.Whole.of_heap (w' := w0.forCall tape inp) (by rfl) hw
  have hmx : Mx (w0.forCall tape inp) := Tryd.laysM146.s1_3 _ hsh
  suffices hg : Calls Tryd.prog 4 inp.args (w0.forCall tape inp) fun e W' => ∃ v, e = .returned v ∧ Rows.fnExactParseNameSpec.post enc Tryd.prog Tryd.f4 false true false false (w0.forCall tape inp) inp.args v W' from
    hg.mono fun e W' ⟨v, he, hp⟩ => by
      subst he
      exact ChangeSpec.post_blind hp
  generalize w0.forCall tape inp = W at *
  generalize inp.args = args at *
  clear hw hsh
  have hval : ∀ (j : Nat) t v, Tryd.f4.params[j]? = some t → args[j]? = some v → Value.okWide Tryd.prog W .any w0.heap.size t v := hval0
  have hW' := hW
  obtain ⟨p, q, hA0, hV, rfl, hfz, hnd⟩ := hW
  have hA : DataW.TrodAll enc Tryd.prog W 0 (fun _ => true) true Tryd.f4.params.toList args.toList ds p := hA0
  rw [Tryd.params4] at hA hval
  obtain ⟨v0, d0, rfl, rfl, h0⟩ := trodAll_one hA
  obtain ⟨rfl, rfl⟩ := trodVars_none hV
  obtain ⟨s, rfl, rfl, rfl, w1⟩ := open_string Tryd.underlying9 (hval 0 9 v0 rfl rfl) h0
  clear hA0 hval0
  simp only [List.append_nil] at hW'
  refine (walk W s w1 hmx).mono fun e W' ⟨he, bel⟩ => ?_
  subst he
  exact ⟨_, rfl, _, _, _, [], _, [], hW', trodAll_mk1 (shut_bool Tryd.underlying4 _), trodAll_mk1 (shut_string Tryd.underlying9 w1), rfl, bel.frame _, fun h => by cases h⟩
theorem said : Rows.FnExactParseNameSaid :=
  OpenClaim.holds_of_wide 4 Tryd.f4 rfl rfl rfl rfl rfl rfl rfl ⟨rfl, rfl, rfl, rfl, rfl⟩ rfl rfl rfl rfl rfl (by kernel_rfl) Tryd.func4 (by kernel_rfl)
    (of_decide_eq_true (by kernel_rfl)) (by unfold Func.isWrapper; first | (rw [if_pos (by decide +kernel)]; kernel_rfl) | (rw [if_neg (by decide +kernel)]; exact ⟨rfl, rfl⟩))
    (fun os started H enc _ => lifted os started H enc)
theorem proved : Rows.FnExactParseNameCardSaid :=
  Claim7.holds_tied_plain_at .later [] [.data, .pinned] true (true, "2f6ac87a5c0f4c4aadf3efdd5aac87b55a9c0793223bb03498a1cff4615abe95") false
    said (fun _ h => by cases h) (by kernel_rfl) (fun _ h => by cases h) fnExactParseName_row_tie rfl ⟨rfl, rfl⟩ (by kernel_rfl) rfl
    (fun f fn hf hfn => by
      obtain rfl : f = 4 := Option.some.inj ((show Tryd.prog.funcNamed "loop.example/g00507/laws.FnExactParseName" = some 4 by kernel_rfl).symm.trans hf) |>.symm
      obtain rfl : fn = Tryd.f4 := (Option.some.inj (Tryd.func4.symm.trans hfn)).symm
      exact ⟨by kernel_rfl, fun j t ht => by
        rw [Tryd.params4] at ht
        have hm : t ∈ [9] := by simpa using Array.mem_of_getElem? ht
        have hall : ([9].all fun u => !Tryd.prog.wantsStandIn u) = true := by kernel_rfl
        exact (show Tryd.prog.wantsStandIn t = false by simpa using List.all_eq_true.1 hall t hm)⟩)
    (by kernel_rfl)
end fnExactParseName
end Go.Proofs.YtoehjfcadhgpbaaDoor
