/- The reference's cut of a text at every slash. Condition: the text is not too long. -/
import Derived.Test.YtoehjfcadhgpbaaDoorStrsS
import Derived.Test.YtoehjfcadhgpbaaDoorApp
import Derived.Test.YtoehjfcadhgpbaaDoorMark
import Derived.Test.YtoehjfcadhgpbaaDoorPart
import Derived.Test.YtoehjfcadhgpbaaDoorSpl
import Derived.Lib.AtoiTie
set_option linter.unusedVariables false
namespace Go.Proofs.YtoehjfcadhgpbaaDoor
open Go.RowKit
def spS (s : ByteArray) : List ByteArray := (spl s.data.toList).map bs
theorem bs_list (l : List UInt8) : (bs l).data.toList = l := by simp [bs]
theorem bs_back (s : ByteArray) : bs s.data.toList = s := rfl
theorem ext_cut (s : ByteArray) (f k : Nat) : s.extract f k = bs ((s.data.toList.take k).drop f) := by
  rw [← bs_back (s.extract f k)]
  congr 1
  rw [ByteArray.data_extract, Array.toList_extract, List.extract_eq_take_drop, List.drop_take]
theorem cut_step {L : List UInt8} {k f : Nat} (hk : k < L.length) (hf : f ≤ k) : (L.take (k + 1)).drop f = (L.take k).drop f ++ [L[k]] := by
  rw [List.take_succ_eq_append_getElem hk, List.drop_append_of_le_length (by rw [List.length_take]; omega)]
theorem cut_hit {L : List UInt8} {k f : Nat} (hk : k < L.length) (hf : f ≤ k) (hc : L[k] = 47) (hn : ∀ c ∈ (L.take k).drop f, c ≠ 47) : spl (L.drop f) = (L.take k).drop f :: spl (L.drop (k + 1)) := by
  have e : L.drop f = (L.take k).drop f ++ 47 :: L.drop (k + 1) := by
    conv => lhs; rw [← List.take_append_drop k L]
    rw [List.drop_append_of_le_length (by rw [List.length_take]; omega), List.drop_eq_getElem_cons hk, hc]
  rw [e, spl_cut _ _ hn]
theorem cut_end {L : List UInt8} {k f : Nat} (hk : L.length ≤ k) (hn : ∀ c ∈ (L.take k).drop f, c ≠ 47) : spl (L.drop f) = [(L.take k).drop f] := by
  rw [List.take_of_length_le hk] at hn ⊢
  exact spl_end _ hn
/-- The cut under way: before place k, the piece begun at f, the pieces d laid. -/
def Cut (s : ByteArray) (k f : Nat) (d : List (List UInt8)) : Prop :=
  (k ≤ s.size ∧ f ≤ k ∧ spl s.data.toList = d ++ spl (s.data.toList.drop f) ∧ ∀ c ∈ (s.data.toList.take k).drop f, c ≠ 47) ∨ (k = s.size + 1 ∧ f ≤ s.size + 1 ∧ spl s.data.toList = d)
theorem Cut.start (s : ByteArray) : Cut s 0 0 [] := .inl ⟨Nat.zero_le _, Nat.le_refl _, by simp, by simp⟩
theorem Cut.last {s : ByteArray} {f : Nat} {d : List (List UInt8)} (h : f ≤ s.size) (hs : spl s.data.toList = d ++ spl (s.data.toList.drop f)) (hn : ∀ c ∈ (s.data.toList.take s.size).drop f, c ≠ 47) : Cut s (s.size + 1) (s.size + 1) (d ++ [(s.data.toList.take s.size).drop f]) :=
  .inr ⟨rfl, Nat.le_refl _, by rw [hs, cut_end (by simp) hn]⟩
theorem Cut.hit {s : ByteArray} {k f : Nat} {d : List (List UInt8)} (hk : k < s.size) (hf : f ≤ k) (hs : spl s.data.toList = d ++ spl (s.data.toList.drop f)) (hn : ∀ c ∈ (s.data.toList.take k).drop f, c ≠ 47) (hc : s[k] = 47) : Cut s (k + 1) (k + 1) (d ++ [(s.data.toList.take k).drop f]) := by
  have hl : k < s.data.toList.length := by simpa using hk
  refine .inl ⟨hk, Nat.le_refl _, ?_, by simp⟩
  rw [hs, cut_hit hl hf (by simpa [ByteArray.getElem_eq_getElem_data] using hc) hn]
  simp
theorem Cut.miss {s : ByteArray} {k f : Nat} {d : List (List UInt8)} (hk : k < s.size) (hf : f ≤ k) (hs : spl s.data.toList = d ++ spl (s.data.toList.drop f)) (hn : ∀ c ∈ (s.data.toList.take k).drop f, c ≠ 47) (hc : ¬ s[k] = 47) : Cut s (k + 1) f d := by
  have hl : k < s.data.toList.length := by simpa using hk
  refine .inl ⟨hk, by omega, hs, ?_⟩
  rw [cut_step hl hf]
  intro c hm
  rcases List.mem_append.1 hm with hm | hm
  · exact hn c hm
  · rw [List.mem_singleton.1 hm]; exact fun e => hc (by simpa [ByteArray.getElem_eq_getElem_data] using e)
set_option maxRecDepth 100000 in
set_option maxHeartbeats 4000000 in
theorem l4Split_c {w : World} {s : ByteArray} (hm : s.size ≤ 1099511627776) :
    Calls Tryd.prog 56 #[.string s, .int .u8 47] w (Gives w fun r w' => Own w' w.heap.size w'.heap.size 9 1 r (spS s).length ((spS s).map sv)) := by
  obtain ⟨i0, hi0, hz0, hz1, hz2⟩ := info_parts info_string
  have y0 := ext_alloc (ext_refl w) (.cells #[] 9)
  have oe := Own.new w #[] 9 1 0 (by decide) rfl
  have he : (w.alloc (.cells #[] 9)).heap.size = w.heap.size + 1 := by simp
  have o0 := oe.mono (Nat.le_refl w.heap.size) (show w.heap.size + 1 ≤ (w.alloc (.cells #[] 9)).heap.size by omega)
  clear oe he
  go_enter Tryd.func56, Tryd.ntmps56
  go_wp2
  go_loopw [5, 6, 7] (fun u fr i wr => ∃ (k f : Nat) (d : List (List UInt8)), i = .int .i64 k ∧ fr = .int .i64 f ∧ Own wr w.heap.size wr.heap.size 9 1 u d.length (d.map fun l => sv (bs l)) ∧ Below w.heap.size w wr ∧ d.length ≤ k ∧ Hid (Cut s k f d)) (fun _ _ i _ => s.size + 1 - (intOf i).toNat)
  case atStart => exact ⟨0, 0, [], rfl, rfl, o0, y0, Nat.le_refl _, hid (Cut.start s)⟩
  case round =>
    obtain ⟨k, f, d, rfl, rfl, o1, hb, hdl, hcut⟩ := hrel
    clear o0 y0
    have hsb := hb.size
    obtain ⟨ua, uc, rfl, _⟩ := o1.rd.form
    rcases hcut.out with ⟨hk, hf, hs, hn⟩ | ⟨rfl, hf, hs⟩
    · by_cases hks : k = s.size
      · subst hks
        have HC := hid (Cut.last hf hs hn)
        have hex := ext_cut s f s.size
        have HEX := hid hex
        have hf2 : (f : Int) ≤ (s.size : Int) := by omega
        clear hcut hs hn hex
        go_wp2_with (at_builtin; refine wpList_append_Own rfl _ _ 22 rfl 9 i0 (.string ByteArray.empty) 1 16 Tryd.underlying22 hi0 hz0 hz1 hz2 rfl (by decide) rfl (o1.ext (ext_alloc (ext_refl _) _)) rfl (Rd.new _ [.string (s.extract f s.size)] 9 1 1 (by decide) rfl) (by simp; rfl) (by omega) (by omega) (Nat.le_trans (by omega) (ext_alloc (ext_refl _) _).size) ?_)
        intro v1 w1 g1 m1
        have y1 := Mut.ext (ext_trans hb (ext_alloc (ext_refl wr) (.cells #[.string (s.extract f s.size)] 9))) m1 (Nat.le_refl _)
        have HO : Hid (Own w1 w.heap.size w1.heap.size 9 1 v1 (d ++ [(s.data.toList.take s.size).drop f]).length ((d ++ [(s.data.toList.take s.size).drop f]).map fun l => sv (bs l))) := by
          rw [List.length_append, List.map_append, List.map_cons, List.map_nil, ← HEX.out]; exact g1
        have HL := hid (show (d ++ [(s.data.toList.take s.size).drop f]).length ≤ s.size + 1 by rw [List.length_append, List.length_singleton]; omega)
        clear g1 m1 o1 hb HEX
        go_wp2
        go_roundw
        case rel => exact ⟨s.size + 1, s.size + 1, _, by go_num, by go_num, HO.out, y1, HL.out, HC⟩
        case measure => first | (simp [intOf]; done) | (simp [intOf]; omega)
      · have hlt : k < s.size := by omega
        have hks2 : ¬ (k : Int) = (s.size : Int) := by omega
        by_cases hc : s[k] = 47
        · have hc2 : s[k].toNat = 47 := by rw [hc]; rfl
          have hc3 : (s[k].toNat : Int) = 47 := by omega
          have HC := hid (Cut.hit hlt hf hs hn hc)
          have HEX := hid (ext_cut s f k)
          have hf2 : (f : Int) ≤ (k : Int) := by omega
          have hf3 : (k : Int) ≤ (s.size : Int) := by omega
          clear hcut hs hn hc
          go_wp2_with (at_builtin; refine wpList_append_Own rfl _ _ 22 rfl 9 i0 (.string ByteArray.empty) 1 16 Tryd.underlying22 hi0 hz0 hz1 hz2 rfl (by decide) rfl (o1.ext (ext_alloc (ext_refl _) _)) rfl (Rd.new _ [.string (s.extract f k)] 9 1 1 (by decide) rfl) (by simp; rfl) (by omega) (by omega) (Nat.le_trans (by omega) (ext_alloc (ext_refl _) _).size) ?_)
          intro v1 w1 g1 m1
          have y1 := Mut.ext (ext_trans hb (ext_alloc (ext_refl wr) (.cells #[.string (s.extract f k)] 9))) m1 (Nat.le_refl _)
          have HO : Hid (Own w1 w.heap.size w1.heap.size 9 1 v1 (d ++ [(s.data.toList.take k).drop f]).length ((d ++ [(s.data.toList.take k).drop f]).map fun l => sv (bs l))) := by
            rw [List.length_append, List.map_append, List.map_cons, List.map_nil, ← HEX.out]; exact g1
          have HL := hid (show (d ++ [(s.data.toList.take k).drop f]).length ≤ k + 1 by rw [List.length_append, List.length_singleton]; omega)
          clear g1 m1 o1 hb HEX
          go_wp2
          go_roundw
          case rel => exact ⟨k + 1, k + 1, _, by go_num, by go_num, HO.out, y1, HL.out, HC⟩
          case measure => first | (simp [intOf]; done) | (simp [intOf]; omega)
        · have hc2 : ¬ s[k].toNat = 47 := fun e => hc (UInt8.toNat_inj.1 e)
          have hc3 : ¬ (s[k].toNat : Int) = 47 := by omega
          have e1 : ((k : Int) == (s.size : Int)) = false := beq_eq_false_iff_ne.2 hks2
          have e2 : ((s[k].toNat : Int) == 47) = false := beq_eq_false_iff_ne.2 hc3
          have e3 : ((k : Int) == (s.size : Int) || (s[k].toNat : Int) == 47) = false := by rw [e1, e2]; rfl
          have HC := hid (Cut.miss hlt hf hs hn hc)
          clear hcut hs hn hc
          go_wp2
          go_roundw
          case rel => exact ⟨k + 1, f, d, by go_num, rfl, o1, hb, by omega, HC⟩
          case measure => first | (simp [intOf]; done) | (simp [intOf]; omega)
    · have HS := hid hs
      clear hcut hs
      go_wp2
      go_ret
      refine gives_of _ ?_ hb
      rw [spS, HS.out, List.length_map, List.map_map]
      exact o1
end Go.Proofs.YtoehjfcadhgpbaaDoor
