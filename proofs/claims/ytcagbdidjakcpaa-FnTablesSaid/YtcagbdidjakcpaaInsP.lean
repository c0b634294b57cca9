/- slices.Insert of one element, in plain worlds: what its two copies and its append leave of a slice whose elements take several cells. Conditions: the block is the call's own; bounds. Nothing here speaks of the program. -/
import Derived.Test.YtcagbdidjakcpaaAppX
import Derived.Shelf.Spec.SlicesInsertGrow
namespace Go.Proofs.Ytcagbdidjakcpaa
open Go.RowKit
section
variable {P : Program}
theorem copy_row (w : World) (dT sT ty elem : TypeId) (size : Nat) (g o dLen dCap : Nat) (a : Addr) (sLen sCap : Nat) (cur : Array Value) (t : TypeId) (cs : List Value)
    (hu : P.underlying dT = some (.slice elem)) (hs : (P.info? elem).map (·.size) = some size)
    (hg : w.heap[g]? = some (.cells cur t (0, 0))) (hn : cs.length = Nat.min sLen dLen * size)
    (hsrc : ∀ j v, cs[j]? = some v → w.cell? (a.add j) = some v) (hfit : o + cs.length ≤ cur.size) (h1 : ∀ v ∈ cs, v.oneCell' = true) :
    (Builtin.copy_ #[dT, sT] ty #[.slice (some ⟨g, o, none⟩) dLen dCap, .slice (some a) sLen sCap]).run P w =
      .ok (goInt (Nat.min sLen dLen)) (w.setRow g (cur.toList.take o ++ cs ++ cur.toList.drop (o + cs.length)).toArray) := by
  have hl := run_loadCells_list (P := P) w a cs hsrc
  have hst := run_storeCells_at P g o t cs 0 cur w hg (by simpa using hfit) h1
  cases hq : P.info? elem with
  | none => simp [hq] at hs
  | some i =>
    have hi : i.size = size := by simpa [hq] using hs
    rw [hn] at hl
    simp [Builtin.copy_, run_underlying hu, Builtin.lenOf, Builtin.firstCells, sizeOf, typeInfo, hq, hi, hl, hst]
end
theorem seg_get (l cs : List Value) (o i : Nat) (h : o + cs.length ≤ l.length) : (l.take o ++ cs ++ l.drop (o + cs.length))[i]? = if i < o then l[i]? else if i < o + cs.length then cs[i - o]? else l[i]? := by
  rw [List.append_assoc]
  by_cases h1 : i < o
  · rw [if_pos h1, List.getElem?_append_left (by rw [List.length_take]; omega), List.getElem?_take, if_pos h1]
  · rw [if_neg h1, List.getElem?_append_right (by rw [List.length_take]; omega), List.length_take, show min o l.length = o by omega]
    by_cases h2 : i < o + cs.length
    · rw [if_pos h2, List.getElem?_append_left (by omega)]
    · rw [if_neg h2, List.getElem?_append_right (by omega), List.getElem?_drop]
      congr 1
      omega
theorem seg_len (l cs : List Value) (o : Nat) (h : o + cs.length ≤ l.length) : (l.take o ++ cs ++ l.drop (o + cs.length)).length = l.length := by
  simp; omega
/-- A row, shifted by one element from the k-th on, with a new element at the k-th place. -/
def rowS (l xs : List Value) (k : Nat) : List Value := l.take ((k + 1) * 2) ++ xs.drop (k * 2) ++ l.drop ((k + 1) * 2 + (xs.drop (k * 2)).length)
def rowI (l : List Value) (vs : List Value) (k : Nat) : List Value := l.take (k * 2) ++ vs ++ l.drop (k * 2 + vs.length)
theorem row_ins {l xs : List Value} {n k : Nat} {a b : Value} (hl : (n + 1) * 2 ≤ l.length) (hx : l.take (n * 2) = xs) (hk : k ≤ n) :
    (rowI (rowS l xs k) [a, b] k).length = l.length ∧ (rowI (rowS l xs k) [a, b] k).take ((n + 1) * 2) = xs.take (k * 2) ++ [a, b] ++ xs.drop (k * 2) := by
  have hxl : xs.length = n * 2 := by rw [← hx, List.length_take]; omega
  have hdl : (xs.drop (k * 2)).length = (n - k) * 2 := by rw [List.length_drop]; omega
  have h1 : (rowS l xs k).length = l.length := seg_len _ _ _ (by rw [hdl]; omega)
  have h2 : (rowI (rowS l xs k) [a, b] k).length = l.length := by rw [← h1]; exact seg_len _ _ _ (by rw [h1]; simp only [List.length_cons, List.length_nil]; omega)
  refine ⟨h2, List.ext_getElem? fun i => ?_⟩
  have hg : ∀ i, i < n * 2 → xs[i]? = l[i]? := fun i hi => by rw [← hx, List.getElem?_take, if_pos hi]
  rw [List.getElem?_take]
  by_cases hi : i < (n + 1) * 2
  · rw [if_pos hi]
    unfold rowI
    rw [seg_get _ _ _ _ (by rw [h1]; simp only [List.length_cons, List.length_nil]; omega)]
    rw [List.append_assoc]
    by_cases g1 : i < k * 2
    · rw [if_pos g1, List.getElem?_append_left (by rw [List.length_take]; omega), List.getElem?_take, if_pos g1]
      unfold rowS
      rw [seg_get _ _ _ _ (by rw [hdl]; omega), if_pos (by omega), hg _ (by omega)]
    · rw [if_neg g1, List.getElem?_append_right (by rw [List.length_take]; omega), List.length_take, show min (k * 2) xs.length = k * 2 by omega]
      by_cases g2 : i < k * 2 + 2
      · rw [if_pos (by simpa using g2), List.getElem?_append_left (by simp; omega)]
      · rw [if_neg (by simpa using g2), List.getElem?_append_right (by simp; omega)]
        unfold rowS
        rw [seg_get _ _ _ _ (by rw [hdl]; omega), if_neg (by omega), if_pos (by rw [hdl]; omega)]
        simp only [List.length_cons, List.length_nil]
        congr 1
        omega
  · rw [if_neg hi]
    symm
    apply List.getElem?_eq_none
    simp only [List.length_append, List.length_take, List.length_cons, List.length_nil, hdl]
    omega
/-- What the two copies leave where there is room. -/
theorem Own.shift {w w1 w2 : World} {lo hi g cap n k : Nat} {e : TypeId} {cur : Array Value} {xs : List Value} {a b : Value} (hg : w.heap[g]? = some (.cells cur e (0, 0))) (hlo : lo ≤ g) (hhi : g < hi) (hcm : cap ≤ maxLen) (hcs : cur.size = cap * 2) (hx : cur.toList.take (n * 2) = xs) (hr : n + 1 ≤ cap) (hk : k ≤ n)
    (h1 : Below w.heap.size w w1) (h2 : w2 = (w1.setRow g (rowI (rowS cur.toList xs k) [a, b] k).toArray)) :
    Own w2 lo hi e 2 (.slice (some ⟨g, 0, none⟩) (n + 1) cap) (n + 1) (xs.take (k * 2) ++ [a, b] ++ xs.drop (k * 2)) ∧ Mut lo hi w w2 := by
  have hgl : g < w.heap.size := (Array.getElem?_eq_some_iff.1 hg).1
  have hg1 : w1.heap[g]? = some (.cells cur e (0, 0)) := (h1.block g hgl).trans hg
  obtain ⟨r1, r2⟩ := row_ins (a := a) (b := b) (l := cur.toList) (n := n) (k := k) (by rw [Array.length_toList, hcs]; omega) hx hk
  subst h2
  refine ⟨⟨?_, .inr ⟨g, cap, _, rfl, hlo, hhi, setRow_heap w1 g cur _ e _ hg1, hr, hcm, ?_, ?_⟩⟩, ?_⟩
  · rw [← r2, List.length_take, r1, Array.length_toList, hcs]; omega
  · rw [List.size_toArray, r1, Array.length_toList, hcs]
  · exact r2
  · refine (Mut.of_ext h1).trans ⟨rfl, rfl, rfl, by simp [World.setRow], fun j hj hn => ?_⟩
    simp only [World.setRow]
    rw [Array.getElem?_modify, if_neg (by omega)]
theorem row_grow {l xs : List Value} {n k : Nat} {a b : Value} (hl : (n + 1) * 2 ≤ l.length) (hx : l.take (k * 2) = xs.take (k * 2)) (hxl : xs.length = n * 2) (hk : k ≤ n) :
    (rowS (rowI l [a, b] k) xs k).length = l.length ∧ (rowS (rowI l [a, b] k) xs k).take ((n + 1) * 2) = xs.take (k * 2) ++ [a, b] ++ xs.drop (k * 2) := by
  have hdl : (xs.drop (k * 2)).length = (n - k) * 2 := by rw [List.length_drop]; omega
  have h1 : (rowI l [a, b] k).length = l.length := seg_len _ _ _ (by simp only [List.length_cons, List.length_nil]; omega)
  have h2 : (rowS (rowI l [a, b] k) xs k).length = l.length := by rw [← h1]; exact seg_len _ _ _ (by rw [h1, hdl]; omega)
  refine ⟨h2, List.ext_getElem? fun i => ?_⟩
  have hg : ∀ i, i < k * 2 → l[i]? = xs[i]? := fun i hi => by
    have := congrArg (fun r : List Value => r[i]?) hx
    simpa only [List.getElem?_take, if_pos hi] using this
  rw [List.getElem?_take]
  by_cases hi : i < (n + 1) * 2
  · rw [if_pos hi]
    unfold rowS
    rw [seg_get _ _ _ _ (by rw [h1, hdl]; omega), List.append_assoc]
    by_cases g1 : i < k * 2
    · rw [if_pos (by omega), List.getElem?_append_left (by rw [List.length_take]; omega), List.getElem?_take, if_pos g1]
      unfold rowI
      rw [seg_get _ _ _ _ (by simp only [List.length_cons, List.length_nil]; omega), if_pos g1, hg _ g1]
    · rw [List.getElem?_append_right (by rw [List.length_take]; omega), List.length_take, show min (k * 2) xs.length = k * 2 by omega]
      by_cases g2 : i < k * 2 + 2
      · rw [if_pos (by omega), List.getElem?_append_left (by simp; omega)]
        unfold rowI
        rw [seg_get _ _ _ _ (by simp only [List.length_cons, List.length_nil]; omega), if_neg g1, if_pos (by simpa using g2)]
      · rw [if_neg (by omega), if_pos (by rw [hdl]; omega), List.getElem?_append_right (by simp; omega)]
        simp only [List.length_cons, List.length_nil]
        congr 1
        omega
  · rw [if_neg hi]
    symm
    apply List.getElem?_eq_none
    simp only [List.length_append, List.length_take, List.length_cons, List.length_nil, hdl]
    omega
/-- What the two copies leave of a new row. -/
theorem Own.fresh {w w1 w2 : World} {g cap n k : Nat} {e : TypeId} {cur : Array Value} {xs : List Value} {a b : Value} (hg : w1.heap[g]? = some (.cells cur e (0, 0))) (hgw : w.heap.size = g) (hcm : cap ≤ maxLen) (hcs : cur.size = cap * 2) (hx : cur.toList.take (k * 2) = xs.take (k * 2)) (hxl : xs.length = n * 2) (hr : n + 1 ≤ cap) (hk : k ≤ n)
    (h1 : Below w.heap.size w w1) (h2 : w2 = (w1.setRow g (rowS (rowI cur.toList [a, b] k) xs k).toArray)) :
    Own w2 w.heap.size w2.heap.size e 2 (.slice (some ⟨g, 0, none⟩) (n + 1) cap) (n + 1) (xs.take (k * 2) ++ [a, b] ++ xs.drop (k * 2)) ∧ Below w.heap.size w w2 := by
  obtain ⟨r1, r2⟩ := row_grow (a := a) (b := b) (l := cur.toList) (n := n) (k := k) (by rw [Array.length_toList, hcs]; omega) hx hxl hk
  have hgl : g < w1.heap.size := (Array.getElem?_eq_some_iff.1 hg).1
  subst h2
  refine ⟨⟨?_, .inr ⟨g, cap, _, rfl, by omega, by simpa [World.setRow] using hgl, setRow_heap w1 g cur _ e _ hg, hr, hcm, ?_, ?_⟩⟩, ?_⟩
  · rw [← r2, List.length_take, r1, Array.length_toList, hcs]; omega
  · rw [List.size_toArray, r1, Array.length_toList, hcs]
  · exact r2
  · refine ⟨h1.os, h1.tape, h1.output, by simpa [World.setRow] using h1.size, fun j hj => ?_⟩
    rw [← h1.block j hj]
    simp only [World.setRow]
    rw [Array.getElem?_modify, if_neg (by omega)]
end Go.Proofs.Ytcagbdidjakcpaa
