/- Plain laws of patterns: an instantiated pattern matches; what Match gives begins with the bindings that it was given; a parsed pattern is good. Nothing here speaks of the program. -/
import Derived.Test.YtoehjfcadhgpbaaDoorMtP
import Derived.Test.YtoehjfcadhgpbaaDoorIn
import Derived.Test.YtoehjfcadhgpbaaDoorPq
namespace Go.Proofs.YtoehjfcadhgpbaaDoor
theorem m1_ext {s x : ByteArray} {out o : List ByteArray} (h : m1 s x out = some o) : ∃ t, o = out ++ t := by
  unfold m1 at h
  split at h
  · cases h; exact ⟨[], by simp⟩
  · split at h
    · split at h
      · cases h; exact ⟨[s, x], rfl⟩
      · split at h
        · cases h; exact ⟨[], by simp⟩
        · cases h
    · split at h
      · cases h; exact ⟨[], by simp⟩
      · cases h
theorem mg_ext : ∀ (ps ns out o : List ByteArray), mg ps ns out = some o → ∃ t, o = out ++ t
  | [], ns, out, o, h => by
    rw [mg.eq_def] at h; simp only at h
    split at h
    · cases h; exact ⟨[], by simp⟩
    · cases h
  | s :: ps, [], out, o, h => by
    rw [mg.eq_def] at h; simp only at h
    split at h
    · cases h; exact ⟨[], by simp⟩
    · cases h
  | s :: ps, x :: ns, out, o, h => by
    rw [mg.eq_def] at h; simp only at h
    split at h
    · cases h; exact ⟨[], by simp⟩
    · cases hq : m1 s x out with
      | none => rw [hq] at h; cases h
      | some o1 =>
        rw [hq] at h
        obtain ⟨t1, rfl⟩ := m1_ext hq
        obtain ⟨t2, rfl⟩ := mg_ext ps ns _ o h
        exact ⟨t1 ++ t2, by simp⟩
theorem mR_ext {ps ns l : List ByteArray} : ∃ t, (mR ps ns l).1 = l ++ t := by
  unfold mR
  split
  · cases h : mg ps ns l with
    | none => exact ⟨[], by simp⟩
    | some o => exact mg_ext ps ns l o h
  · exact ⟨[], by simp⟩
theorem bi_none_or {ss : List ByteArray} {key : ByteArray} (h : vp (bval ss key) = true) : ¬ bi ss key 0 = -1 := by
  intro e
  rw [bval_no e] at h
  exact absurd h (by decide)
theorem mg_in : ∀ (ps ls : List ByteArray), (∀ s ∈ ps, vp (sb ls s) = true) → mg ps (inN ps ls) ls = some ls
  | [], ls, _ => by rw [mg.eq_def]; simp [inN]
  | s :: ps, ls, h => by
    have h1 := h s (by simp)
    have ih := mg_in ps ls (fun t ht => h t (by simp [ht]))
    have e : inN (s :: ps) ls = sb ls s :: inN ps ls := rfl
    rw [e, mg.eq_def]; simp only
    by_cases g : s = st2
    · rw [if_pos g]
    · rw [if_neg g]
      have : m1 s (sb ls s) ls = some ls := by
        by_cases g1 : s = st1
        · exact m1_star g1
        · cases hl : lt s
          · exact m1_lit g1 hl (by unfold sb; rw [hl]; rfl)
          · have e2 : sb ls s = bval ls s := by unfold sb; rw [if_pos hl]
            rw [e2] at h1 ⊢
            exact m1_same g1 hl (bi_none_or h1) rfl
      rw [this]
      exact ih
theorem mR_in {ps ls : List ByteArray} (h : (inR ps ls).2 = true) : mR ps (inR ps ls).1 ls = (ls, true) := by
  unfold inR at h ⊢
  split at h
  · rename_i g
    rw [if_pos g]
    simp only [Bool.and_eq_true] at g
    refine mR_some (by simp only [g.1, g.2, Bool.and_self]) (mg_in ps ls ?_)
    have g2 := g.2
    intro s hs
    unfold vn at g2
    simp only [Bool.and_eq_true, List.all_eq_true] at g2
    exact g2.1 _ (List.mem_map_of_mem hs)
  · cases h
theorem pnm_good {V : List ByteArray → Bool} (hV : V [] = true) {s : ByteArray} (h : (pnm V s).2 = true) : V (pnm V s).1 = true := by
  unfold pnm at h ⊢
  split at h
  · rename_i g; rw [if_pos g]; exact hV
  · rename_i g
    rw [if_neg g]
    split at h
    · rename_i g2; rw [if_pos g2]; simp only; simp_all
    · cases h
end Go.Proofs.YtoehjfcadhgpbaaDoor
