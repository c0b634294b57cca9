/- What a text spells as a name, in plain lists: the parts behind the first slash, if they are valid. Nothing here speaks of the program's code. -/
import Derived.Test.YtoehjfcadhgpbaaDoorSl
import Derived.Test.YtoehjfcadhgpbaaDoorName
set_option linter.unusedVariables false
namespace Go.Proofs.YtoehjfcadhgpbaaDoor
open Go.RowKit
def ps (s : ByteArray) : List ByteArray := (spl (s.data.toList.drop 1)).map bs
def pnm (V : List ByteArray → Bool) (s : ByteArray) : List ByteArray × Bool :=
  if s.data.toList = [47] then ([], true) else if s.data.toList.head? = some 47 ∧ V (ps s) = true then (ps s, true) else ([], false)
theorem ps_pos (s : ByteArray) : ¬ (ps s).length = 0 := by
  obtain ⟨h, t, e⟩ := spl_pos (s.data.toList.drop 1)
  rw [ps, e]; simp
theorem spl_weight : ∀ l : List UInt8, ((spl l).map List.length).sum + (spl l).length = l.length + 1
  | [] => rfl
  | c :: r => by
    have ih := spl_weight r
    by_cases h : c = 47
    · subst h; rw [spl_slash]; simp only [List.map_cons, List.sum_cons, List.length_cons, List.length_nil]; omega
    · obtain ⟨h', t', e⟩ := spl_pos r
      rw [e] at ih
      rw [spl, if_neg h, e]
      simp only [List.map_cons, List.sum_cons, List.length_cons] at ih ⊢
      omega
theorem wt_ps (s : ByteArray) : wt (ps s) ≤ s.size + 1 := by
  have h1 := spl_weight (s.data.toList.drop 1)
  have h3 : s.data.toList.length = s.size := by simp
  rw [List.length_drop, h3] at h1
  have h2 : (ps s).map (fun s => s.size) = (spl (s.data.toList.drop 1)).map List.length := by
    rw [ps, List.map_map]
    exact List.map_congr_left fun l _ => rfl
  have h4 : (ps s).length = (spl (s.data.toList.drop 1)).length := by rw [ps, List.length_map]
  unfold wt wtP
  rw [List.take_length, h2]
  omega
theorem pnm_slash {V : List ByteArray → Bool} {s : ByteArray} (h : s = bs [47]) : pnm V s = ([], true) := by rw [pnm, if_pos (by rw [h, bs_list])]
theorem pnm_yes {V : List ByteArray → Bool} {s : ByteArray} (h1 : ¬ s = bs [47]) (h2 : s.data.toList.head? = some 47) (h3 : V (ps s) = true) : pnm V s = (ps s, true) := by
  rw [pnm, if_neg (fun e => h1 (by rw [← e]; exact (bs_back s).symm)), if_pos ⟨h2, h3⟩]
theorem pnm_other {V : List ByteArray → Bool} {s : ByteArray} (h2 : ¬ s.data.toList.head? = some 47) : pnm V s = ([], false) := by
  rw [pnm, if_neg (fun e => h2 (by rw [e]; rfl)), if_neg (fun e => h2 e.1)]
theorem pnm_bad {V : List ByteArray → Bool} {s : ByteArray} (h1 : ¬ s = bs [47]) (h3 : V (ps s) = false) : pnm V s = ([], false) := by
  rw [pnm, if_neg (fun e => h1 (by rw [← e]; exact (bs_back s).symm)), if_neg (fun e => by rw [h3] at e; cases e.2)]
theorem pnm_len (V : List ByteArray → Bool) (s : ByteArray) : wt (pnm V s).1 ≤ s.size + 1 := by
  rw [pnm]
  split
  · simp [wt, wtP]
  · split
    · exact wt_ps s
    · simp [wt, wtP]
/-! ### The parts of the whole text -/
theorem spS_head {s : ByteArray} (h : s.data.toList.head? = some 47) : spS s = bs [] :: ps s := by
  cases e : s.data.toList with
  | nil => rw [e] at h; cases h
  | cons c r =>
    rw [e] at h
    injection h with h
    subst h
    rw [spS, ps, e, spl_slash]
    rfl
theorem spS_other {s : ByteArray} (h : ¬ s.data.toList.head? = some 47) : (spS s).length = 1 ∧ spS s = [s] ∨ ∃ h t, spS s = h :: t ∧ h.size ≠ 0 := by
  cases e : s.data.toList with
  | nil => left; rw [spS, e]; exact ⟨rfl, by simp [spl]; exact (bs_back s) ▸ (by rw [e])⟩
  | cons c r =>
    right
    rw [e] at h
    obtain ⟨h', t', e2⟩ := spl_other (c := c) (r := r) (fun hc => h (by rw [hc]; rfl))
    rw [spS, e, e2]
    exact ⟨_, _, rfl, by simp [bs, ByteArray.size]⟩
end Go.Proofs.YtoehjfcadhgpbaaDoor
