/- A list of bytes cut at every slash, in plain lists; what the library's Split gives at a slash. Nothing here speaks of the program. -/
import Derived.Lib.SplitLaws
import Derived.Lib.IndexBytes
namespace Go.Proofs.YtoehjfcadhgpbaaDoor
def spl : List UInt8 → List (List UInt8)
  | [] => [[]]
  | c :: r => if c = 47 then [] :: spl r else match spl r with
    | [] => [[c]]
    | h :: t => (c :: h) :: t
theorem spl_slash (r : List UInt8) : spl (47 :: r) = [] :: spl r := by rw [spl, if_pos rfl]
theorem spl_pos : ∀ l : List UInt8, ∃ h t, spl l = h :: t
  | [] => ⟨[], [], rfl⟩
  | c :: r => by
    obtain ⟨h, t, e⟩ := spl_pos r
    rw [spl, e]
    split
    · exact ⟨_, _, rfl⟩
    · exact ⟨_, _, rfl⟩
theorem spl_other {c : UInt8} {r : List UInt8} (hc : c ≠ 47) : ∃ h t, spl (c :: r) = (c :: h) :: t := by
  obtain ⟨h, t, e⟩ := spl_pos r
  exact ⟨h, t, by rw [spl, if_neg hc, e]⟩
theorem spl_cut : ∀ (l r : List UInt8), (∀ c ∈ l, c ≠ 47) → spl (l ++ 47 :: r) = l :: spl r
  | [], r, _ => spl_slash r
  | c :: l, r, h => by
    rw [List.cons_append, spl, if_neg (h c (List.mem_cons_self ..)), spl_cut l r fun x hx => h x (List.mem_cons_of_mem _ hx)]
theorem spl_end : ∀ (l : List UInt8), (∀ c ∈ l, c ≠ 47) → spl l = [l]
  | [], _ => rfl
  | c :: l, h => by
    rw [spl, if_neg (h c (List.mem_cons_self ..)), spl_end l fun x hx => h x (List.mem_cons_of_mem _ hx)]
theorem spl_join : ∀ l : List UInt8, (spl l).flatMap (fun s => 47 :: s) = 47 :: l
  | [] => rfl
  | c :: r => by
    have ih := spl_join r
    by_cases h : c = 47
    · subst h; rw [spl_slash, List.flatMap_cons, ih]; rfl
    · obtain ⟨h', t', e⟩ := spl_pos r
      rw [e, List.flatMap_cons, List.cons_append] at ih
      rw [spl, if_neg h, e]
      simp only [List.flatMap_cons, List.cons_append]
      rw [show h' ++ List.flatMap (fun s => 47 :: s) t' = r from (List.cons.inj ih).2]
theorem index_slash : ∀ l : List UInt8, 47 ∈ l → ∃ i : Nat, Lib.indexByte l 47 = (i : Int) ∧ l = l.take i ++ 47 :: l.drop (i + 1) ∧ ∀ c ∈ l.take i, c ≠ 47
  | [], h => by cases h
  | b :: l, h => by
    by_cases hb : b = 47
    · subst hb
      exact ⟨0, by simp [Lib.indexByte], by simp, by simp⟩
    · obtain ⟨i, e1, e2, e3⟩ := index_slash l (by rcases List.mem_cons.1 h with h | h; exact absurd h.symm hb; exact h)
      refine ⟨i + 1, ?_, ?_, ?_⟩
      · rw [Lib.indexByte, if_neg (by simpa using hb), e1, if_neg (by simp)]; omega
      · rw [List.take_succ_cons, List.drop_succ_cons, List.cons_append, ← e2]
      · intro c hc
        rw [List.take_succ_cons] at hc
        rcases List.mem_cons.1 hc with rfl | hc
        · exact hb
        · exact e3 c hc
theorem splitK_spl : ∀ (k : Nat) (l : List UInt8), l.count 47 = k → Lib.splitK [47] 0 k l = spl l
  | 0, l, h => by
    rw [Lib.splitK, spl_end l fun c hc e => by rw [List.count_eq_zero] at h; exact h (e ▸ hc)]
  | k + 1, l, h => by
    obtain ⟨i, e1, e2, e3⟩ := index_slash l (List.count_pos_iff.1 (by omega))
    have hc : (l.drop (i + 1)).count 47 = k := by
      have h2 := congrArg (List.count 47) e2
      rw [List.count_append, List.count_cons_self, List.count_eq_zero.2 fun hm => e3 47 hm rfl] at h2
      omega
    rw [Lib.splitK, Lib.index_one, e1, if_neg (by simp), Int.toNat_natCast, Nat.add_zero, List.length_singleton, splitK_spl k _ hc]
    conv => rhs; rw [e2, spl_cut _ _ e3]
theorem split_spl (s : ByteArray) : (Lib.splitB ⟨#[47]⟩ 0 (Lib.countB s ⟨#[47]⟩) s).map (·.data.toList) = spl s.data.toList := by
  rw [Lib.splitB_data]
  exact splitK_spl _ _ (by rw [Lib.countB]; exact (Lib.count_one 47 _).symm)
end Go.Proofs.YtoehjfcadhgpbaaDoor
