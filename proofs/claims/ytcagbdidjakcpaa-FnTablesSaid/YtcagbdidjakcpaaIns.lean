/- slices.Insert of one entry into a table that the call owns. Conditions: the entry's own block is another one; bounds. -/
import Derived.Test.YtcagbdidjakcpaaInsP
import Derived.Test.YtcagbdidjakcpaaTab
import Derived.Shelf.Spec.SlicesInsertGrow
set_option linter.unusedVariables false
set_option linter.unusedSimpArgs false
namespace Go.Proofs.Ytcagbdidjakcpaa
open Go.RowKit Go.Lib
def InsF : FuncId := 105
set_option maxRecDepth 100000 in
set_option maxHeartbeats 4000000 in
theorem ins_end {w : World} {lo hi ub n : Nat} {v : Value} {xs : List Value} {a b : Value} (h : Own w lo hi 80 2 v n xs) (hu : w.heap[ub]? = some (.cells #[a, b] 80 (0, 0))) (h1 : ∀ u ∈ [a, b], u.oneCell' = true) (hn : n ≤ 1099511627776) :
    Calls Try.prog 105 #[v, .int .i64 n, .slice (some ⟨ub, 0, none⟩) 1 1] w fun e w' => ∃ r o, e = .returned r ∧ (o = (lo, hi) ∨ o = (w.heap.size, w'.heap.size)) ∧ Own w' o.1 o.2 80 2 r (n + 1) (xs ++ [a, b]) ∧ Mut lo hi w w' := by
  obtain ⟨i0, hi0, hz0, hz1, hz2⟩ := info_parts info_entry
  have hr : Rd w 0 w.heap.size 2 (.slice (some ⟨ub, 0, none⟩) 1 1) 1 [a, b] := ⟨rfl, _, 1, rfl, by omega, by omega, fun _ => ⟨ub, 0, rfl, by omega, (Array.getElem?_eq_some_iff.1 hu).1, (Array.getElem?_eq_some_iff.1 hu).1, fun j u hj => by rw [Nat.zero_add, cell_of_row w ub j _ _ (0, 0) hu]; simpa using hj⟩⟩
  obtain ⟨va, vc, rfl, hvc, hvm⟩ := h.rd.form'
  clear hu
  by_cases hq : vc = n
  · subst hq
    go_enter Try.func105, Try.ntmps105
    go_wp2_with (at_builtin; refine wpList_append_exact rfl _ _ 61 rfl 80 i0 (.agg #[.slice none 0 0, .int .i64 0]) 2 32 Try.underlying61 hi0 hz0 hz1 hz2 rfl (by decide) rfl h rfl hr h1 (by omega) (by omega) (by omega) ?_)
    intro v1 w1 oa ob ho1 h2 m1
    clear hi0 hz0 hz1 hz2 h hr
    go_wp2
    go_ret
    exact ⟨_, (oa, ob), rfl, (by rcases ho1.out with ⟨rfl, rfl⟩ | ⟨rfl, rfl⟩; exact .inl rfl; exact .inr rfl), h2, m1⟩
  · have hq2 : ¬ ((n : Int) = (vc : Int)) := by omega
    go_enter Try.func105, Try.ntmps105
    go_wp2_with (at_builtin; refine wpList_append_exact rfl _ _ 61 rfl 80 i0 (.agg #[.slice none 0 0, .int .i64 0]) 2 32 Try.underlying61 hi0 hz0 hz1 hz2 rfl (by decide) rfl h rfl hr h1 (by omega) (by omega) (by omega) ?_)
    intro v1 w1 oa ob ho1 h2 m1
    clear hi0 hz0 hz1 hz2 h hr
    go_wp2
    go_ret
    exact ⟨_, (oa, ob), rfl, (by rcases ho1.out with ⟨rfl, rfl⟩ | ⟨rfl, rfl⟩; exact .inl rfl; exact .inr rfl), h2, m1⟩
set_option maxRecDepth 100000 in
set_option maxHeartbeats 4000000 in
theorem ins_room {w : World} {lo hi ub g cap n k : Nat} {cur : Array Value} {xs : List Value} {a b : Value} (hg : w.heap[g]? = some (.cells cur 80 (0, 0))) (hlo : lo ≤ g) (hhi : g < hi) (hcm : cap ≤ maxLen) (hcs : cur.size = cap * 2) (hx : cur.toList.take (n * 2) = xs) (hr : n + 1 ≤ cap) (hk : k < n)
    (hu : w.heap[ub]? = some (.cells #[a, b] 80 (0, 0))) (hub : ub < lo ∨ hi ≤ ub) (h1 : ∀ u ∈ [a, b], u.oneCell' = true) (h1x : ∀ u ∈ xs, u.oneCell' = true) :
    Calls Try.prog 105 #[.slice (some ⟨g, 0, none⟩) n cap, .int .i64 k, .slice (some ⟨ub, 0, none⟩) 1 1] w fun e w' => ∃ r o, e = .returned r ∧ (o = (lo, hi) ∨ o = (w.heap.size, w'.heap.size)) ∧ Own w' o.1 o.2 80 2 r (n + 1) (xs.take (k * 2) ++ [a, b] ++ xs.drop (k * 2)) ∧ Mut lo hi w w' := by
  have hcm' : cap ≤ 9223372036854775807 := by unfold maxLen at hcm; omega
  have hxl : xs.length = n * 2 := by rw [← hx, List.length_take, Array.length_toList]; omega
  have hne : ub ≠ g := by omega
  have hsz : (Try.prog.info? 80).map (·.size) = some 2 := by kernel_rfl
  have hz : ∀ w, (Go.sizeOf 80).run Try.prog w = .ok 2 w := fun w => by
    obtain ⟨i0, hi0, _, hz1, _⟩ := info_parts info_entry
    simp [sizeOf, typeInfo, hi0, hz1]
  have hov : ∀ lb cb, (callFunc 129 #[.slice (some ⟨ub, 0, none⟩) 1 1, .slice (some ⟨g, (k + 1) * 2, none⟩) lb cb]).run Try.prog w = .ok (.value (.bool false)) w := fun lb cb => by
    rw [run_callFunc_extern Try.func129 (by kernel_rfl) (by kernel_rfl) (by kernel_rfl) (e := Extern.SlicesOverlaps.overlaps #[61, 61] #[4]) (by kernel_rfl),
      Lib.run_overlaps_apart w 61 4 80 Try.underlying61 2 hz ⟨ub, 0, none⟩ ⟨g, (k + 1) * 2, none⟩ 1 1 lb cb hne 80 80 2 (cap * 2) (by simp [World.shape?, hu]) (by simp [World.shape?, hg, hcs]) (by omega) (frozen_of_row w ub _ _ _ hu) (frozen_of_row w ub _ _ _ hu)]
    rfl
  have hdl : (xs.drop (k * 2)).length = (n - k) * 2 := by rw [List.length_drop]; omega
  have hcx : ∀ j u, xs[j]? = some u → w.cell? ⟨g, j, none⟩ = some u := fun j u hj => by
    rw [cell_of_row w g j _ _ (0, 0) hg]
    rw [← hx, List.getElem?_take] at hj
    split at hj
    · simpa using hj
    · cases hj
  have hcp1 : ∀ ty dc sc, (Builtin.copy_ #[61, 61] ty #[.slice (some ⟨g, (k + 1) * 2, none⟩) (n - k) dc, .slice (some ⟨g, k * 2, none⟩) (n + 1 - k) sc]).run Try.prog w.drew = .ok (goInt ((n - k : Nat) : Int)) (w.drew.setRow g (rowS cur.toList xs k).toArray) := fun ty dc sc => by
    have := copy_row (P := Try.prog) w.drew 61 61 ty 80 2 g ((k + 1) * 2) (n - k) dc ⟨g, k * 2, none⟩ (n + 1 - k) sc cur 80 (xs.drop (k * 2)) Try.underlying61 hsz hg (by rw [hdl]; simp only [Nat.min_def]; split <;> omega)
      (fun j v hj => by rw [Addr.add_lit]; exact hcx _ v (by rwa [List.getElem?_drop] at hj)) (by rw [hdl, hcs]; omega) (fun v hv => h1x v (List.mem_of_mem_drop hv))
    rw [this, show Nat.min (n + 1 - k) (n - k) = n - k by simp only [Nat.min_def]; split <;> omega]
    rfl
  obtain ⟨R1, hR1⟩ : ∃ R1, (rowS cur.toList xs k).toArray = R1 := ⟨_, rfl⟩
  have hR1l : R1.size = cap * 2 := by rw [← hR1, List.size_toArray, rowS, seg_len _ _ _ (by rw [hdl, Array.length_toList, hcs]; omega), Array.length_toList, hcs]
  have hg1 : (w.drew.setRow g R1).heap[g]? = some (.cells R1 80 (0, 0)) := setRow_heap w.drew g cur R1 _ _ hg
  have hu1 : (w.drew.setRow g R1).heap[ub]? = some (.cells #[a, b] 80 (0, 0)) := by
    show (w.heap.modify g _)[ub]? = _
    rw [Array.getElem?_modify, if_neg (by omega)]; exact hu
  have hcp2 : ∀ ty dc, (Builtin.copy_ #[61, 61] ty #[.slice (some ⟨g, k * 2, none⟩) (n + 1 - k) dc, .slice (some ⟨ub, 0, none⟩) 1 1]).run Try.prog (w.drew.setRow g R1) = .ok (goInt 1) (w.drew.setRow g (rowI (rowS cur.toList xs k) [a, b] k).toArray) := fun ty dc => by
    have := copy_row (P := Try.prog) (w.drew.setRow g R1) 61 61 ty 80 2 g (k * 2) (n + 1 - k) dc ⟨ub, 0, none⟩ 1 1 R1 80 [a, b] Try.underlying61 hsz hg1 (by simp only [Nat.min_def]; split <;> simp <;> omega)
      (fun j v hj => by rw [Addr.add_lit, cell_of_row _ ub _ _ _ (0, 0) hu1]; simpa using hj) (by rw [hR1l]; simp; omega) h1
    rw [this, setRow_setRow, show Nat.min 1 (n + 1 - k) = 1 by simp only [Nat.min_def]; split <;> omega, ← hR1]
    rfl
  rw [hR1] at hcp1
  obtain ⟨W2, hW2⟩ : ∃ W2, w.drew.setRow g (rowI (rowS cur.toList xs k) [a, b] k).toArray = W2 := ⟨_, rfl⟩
  have HF := hid (Own.shift hg hlo hhi hcm hcs hx hr (Nat.le_of_lt hk) (Below.drew (ext_refl w)) hW2.symm)
  rw [hW2] at hcp2
  have mixed : Try.prog.follows Departure.mixedOrders = true := by kernel_rfl
  have hz2 : ¬ ((k : Int) = (n : Int)) := by omega
  have hw1 : IntKind.i64.wrap ((k : Int) + 1) = (k : Int) + 1 := by rw [IntKind.wrap_i64]; omega
  have hb1 : (0 : Int) ≤ (k : Int) + 1 := by omega
  have hin : k ≤ n := by omega
  have htn : ((k : Int) + 1).toNat = k + 1 := by omega
  have hb2 : ¬ (cap = k + 1) := by omega
  have hb3 : (k : Int) ≤ (n : Int) + 1 := by omega
  have hb4 : ¬ (cap = k) := by omega
  clear hcx hg hu hg1 hu1 hR1l hdl hxl hcs hx hlo hhi hub
  go_enter Try.func105, Try.ntmps105
  go_wp2_with (simp only [hov])
  go_region_law_o (refine step_copy_runI rfl _ _ 61 61 rfl _ _ (by simp [Act.eval, Act.put]) (by simp [Act.eval, Act.put]) (hcp1 _ _ _) ?_)
  go_wp2_with (at_builtin; refine wpList_copy_runI _ rfl _ _ 61 61 rfl _ _ rfl rfl (hcp2 _ _) ?_)
  go_ret
  exact ⟨_, _, rfl, .inl rfl, HF.out.1, HF.out.2⟩
set_option maxRecDepth 100000 in
set_option maxHeartbeats 4000000 in
theorem ins_grow {w : World} {lo hi ub g cap n k : Nat} {cur : Array Value} {xs : List Value} {a b : Value} (hg : w.heap[g]? = some (.cells cur 80 (0, 0))) (hcs : cur.size = cap * 2) (hx : cur.toList.take (n * 2) = xs) (hnc : n ≤ cap) (hr : cap < n + 1) (hk : k < n) (hn : n ≤ 1099511627776)
    (hu : w.heap[ub]? = some (.cells #[a, b] 80 (0, 0))) (h1 : ∀ u ∈ [a, b], u.oneCell' = true) (h1x : ∀ u ∈ xs, u.oneCell' = true) :
    Calls Try.prog 105 #[.slice (some ⟨g, 0, none⟩) n cap, .int .i64 k, .slice (some ⟨ub, 0, none⟩) 1 1] w fun e w' => ∃ r, e = .returned r ∧ Own w' w.heap.size w'.heap.size 80 2 r (n + 1) (xs.take (k * 2) ++ [a, b] ++ xs.drop (k * 2)) ∧ Below w.heap.size w w' := by
  obtain ⟨i0, hi0, hz0, hzs, hzb⟩ := info_parts info_entry
  have hxl : xs.length = n * 2 := by rw [← hx, List.length_take, Array.length_toList]; omega
  have hsz : (Try.prog.info? 80).map (·.size) = some 2 := by kernel_rfl
  have hgw : g < w.heap.size := (Array.getElem?_eq_some_iff.1 hg).1
  have huw : ub < w.heap.size := (Array.getElem?_eq_some_iff.1 hu).1
  have hdl : (xs.drop (k * 2)).length = (n - k) * 2 := by rw [List.length_drop]; omega
  have hcx : ∀ j u, xs[j]? = some u → w.cell? ⟨g, j, none⟩ = some u := fun j u hj => by
    rw [cell_of_row w g j _ _ (0, 0) hg]
    rw [← hx, List.getElem?_take] at hj
    split at hj
    · simpa using hj
    · cases hj
  have hold : (Builtin.firstCells i0.size k (.slice (some ⟨g, 0, none⟩) k cap)).run Try.prog w.drew = .ok (xs.take (k * 2)).toArray w.drew := by
    rw [hzs]
    exact run_firstCells_some w.drew 2 k ⟨g, 0, none⟩ k cap (xs.take (k * 2)) (by rw [List.length_take]; omega) (fun j v hj => by
      rw [Addr.add_lit, Nat.zero_add]
      rw [List.getElem?_take] at hj
      split at hj
      · exact hcx j v hj
      · cases hj)
  have hkk : (n : Int) + 1 - (k : Int) = ((n + 1 - k : Nat) : Int) := by omega
  have hik : k + (n + 1 - k) = n + 1 := by omega
  obtain ⟨G, hG⟩ : ∃ G, G = grownCap w (n + 1) cap 80 := ⟨_, rfl⟩
  have hGn : n + 1 ≤ G := by rw [hG]; exact grownCap_ge w _ _ _
  have hGm : G ≤ maxLen := by rw [hG]; exact grownCap_le_maxLen w (n + 1) cap 80 (by unfold maxLen; omega)
  obtain ⟨ROW, hROW⟩ : ∃ ROW : Array Value, ROW = (xs.take (k * 2)).toArray ++ Builtin.zeroCells (Value.agg #[.slice none 0 0, .int .i64 0]).cells (n + 1 - k) ++ Builtin.zeroCells (Value.agg #[.slice none 0 0, .int .i64 0]).cells (G - (n + 1)) := ⟨_, rfl⟩
  have hrz : ∀ ty, (Builtin.append_ #[61, 3] ty #[.slice (some ⟨g, 0, none⟩) k cap, .int .i64 ((n : Int) + 1 - (k : Int))]).run Try.prog w = .ok (.slice (some ⟨w.heap.size, 0, none⟩) (n + 1) G) (w.drew.alloc (.cells ROW 80)) := fun ty => by
    have h := Lib.run_append_grow_zeros w 61 3 ty 80 i0 _ .i64 .i64 Try.underlying61 Try.underlying3 hi0 hz0 (some ⟨g, 0, none⟩) k cap (xs.take (k * 2)) hold (n + 1 - k) (by omega) (by omega) (by omega) (by omega) (by rw [hzb]; omega) (by rw [hzb, hik]; exact growslice_fits hr (by omega))
    rw [hik, ← hG, ← hROW] at h
    rw [hkk]
    exact h
  have hzc : (Value.agg #[.slice none 0 0, .int .i64 0]).cells.size = 2 := rfl
  have hRl : ROW.size = G * 2 := by
    rw [hROW]
    simp only [Array.size_append, Builtin.zeroCells, Array.size_map, Array.size_range, hzc, List.size_toArray, List.length_take]
    omega
  have hRx : ROW.toList.take (k * 2) = xs.take (k * 2) := by
    rw [hROW]
    rw [Array.append_assoc, Array.toList_append, List.take_append_of_le_length (by simp; omega)]
    exact List.take_of_length_le (by rw [List.length_take]; omega)
  obtain ⟨W1, hW1⟩ : ∃ W1, w.drew.alloc (.cells ROW 80) = W1 := ⟨_, rfl⟩
  have hB1 : Below w.heap.size w W1.drew := by rw [← hW1]; exact Below.drew (ext_alloc (Below.drew (ext_refl w)) _)
  have hg1 : W1.heap[w.heap.size]? = some (.cells ROW 80 (0, 0)) := by rw [← hW1]; exact heap_alloc_new w.drew _
  have hu1 : W1.heap[ub]? = some (.cells #[a, b] 80 (0, 0)) := by rw [← hW1]; exact ((ext_alloc (Below.drew (ext_refl w)) (.cells ROW 80)).block ub huw).trans hu
  have hcx1 : ∀ j u, xs[j]? = some u → W1.cell? ⟨g, j, none⟩ = some u := fun j u hj => cell_ext (hcx j u hj) (by rw [← hW1]; exact ext_alloc (Below.drew (ext_refl w)) _)
  rw [hW1] at hrz
  obtain ⟨N, hN⟩ : ∃ N, w.heap.size = N := ⟨_, rfl⟩
  rw [hN] at hg1 hrz
  have hgN : g ≠ N := by omega
  have hcpA : ∀ ty dc, (Builtin.copy_ #[61, 61] ty #[.slice (some ⟨N, k * 2, none⟩) (n + 1 - k) dc, .slice (some ⟨ub, 0, none⟩) 1 1]).run Try.prog W1 = .ok (goInt 1) (W1.setRow N (rowI ROW.toList [a, b] k).toArray) := fun ty dc => by
    have := copy_row (P := Try.prog) W1 61 61 ty 80 2 N (k * 2) (n + 1 - k) dc ⟨ub, 0, none⟩ 1 1 ROW 80 [a, b] Try.underlying61 hsz hg1 (by simp only [Nat.min_def]; split <;> simp <;> omega)
      (fun j v hj => by rw [Addr.add_lit, cell_of_row _ ub _ _ _ (0, 0) hu1]; simpa using hj) (by rw [hRl]; simp; omega) h1
    rw [this, show Nat.min 1 (n + 1 - k) = 1 by simp only [Nat.min_def]; split <;> omega]
    rfl
  obtain ⟨R2, hR2⟩ : ∃ R2, (rowI ROW.toList [a, b] k).toArray = R2 := ⟨_, rfl⟩
  have hR2l : R2.size = G * 2 := by rw [← hR2, List.size_toArray, rowI, seg_len _ _ _ (by rw [show ROW.toList.length = G * 2 by rw [Array.length_toList, hRl]]; simp; omega), Array.length_toList, hRl]
  rw [hR2] at hcpA
  obtain ⟨W2, hW2⟩ : ∃ W2, W1.setRow N R2 = W2 := ⟨_, rfl⟩
  have hg2 : W2.heap[N]? = some (.cells R2 80 (0, 0)) := by rw [← hW2]; exact setRow_heap W1 N ROW R2 _ _ hg1
  have hcx2 : ∀ j u, xs[j]? = some u → W2.cell? ⟨g, j, none⟩ = some u := fun j u hj => by
    rw [← hW2]
    refine (World.cell?_of_block (w := W1) ?_).trans (hcx1 j u hj)
    simp only [World.setRow]
    rw [Array.getElem?_modify, if_neg (by omega)]
  have hcpB : ∀ ty dc sc, (Builtin.copy_ #[61, 61] ty #[.slice (some ⟨N, (k + 1) * 2, none⟩) (n - k) dc, .slice (some ⟨g, k * 2, none⟩) (n - k) sc]).run Try.prog W2.drew = .ok (goInt ((n - k : Nat) : Int)) (W2.drew.setRow N (rowS R2.toList xs k).toArray) := fun ty dc sc => by
    have := copy_row (P := Try.prog) W2.drew 61 61 ty 80 2 N ((k + 1) * 2) (n - k) dc ⟨g, k * 2, none⟩ (n - k) sc R2 80 (xs.drop (k * 2)) Try.underlying61 hsz hg2 (by rw [hdl]; simp only [Nat.min_def]; split <;> omega)
      (fun j v hj => by rw [Addr.add_lit]; exact hcx2 _ v (by rwa [List.getElem?_drop] at hj)) (by rw [hdl, hR2l]; omega) (fun v hv => h1x v (List.mem_of_mem_drop hv))
    rw [this, show Nat.min (n - k) (n - k) = n - k by simp only [Nat.min_def]; split <;> omega]
    rfl
  obtain ⟨W3, hW3⟩ : ∃ W3, W2.drew.setRow N (rowS R2.toList xs k).toArray = W3 := ⟨_, rfl⟩
  have HF := hid (Own.fresh (w := w) (w1 := W1.drew) (w2 := W3) (a := a) (b := b) hg1 hN hGm hRl hRx hxl hGn (Nat.le_of_lt hk) hB1 (by
    rw [← hW3, ← hW2, ← hR2]
    show ((W1.drew).setRow N _).setRow N _ = _
    rw [setRow_setRow]))
  rw [hW3] at hcpB
  rw [hW2] at hcpA
  have mixed : Try.prog.follows Departure.mixedOrders = true := by kernel_rfl
  have hz2 : ¬ ((k : Int) = (n : Int)) := by omega
  have hz3 : (cap : Int) < (n : Int) + 1 := by omega
  have hw1 : IntKind.i64.wrap ((k : Int) + 1) = (k : Int) + 1 := by rw [IntKind.wrap_i64]; omega
  have hb1 : (0 : Int) ≤ (k : Int) + 1 := by omega
  have hin : k ≤ n := by omega
  have htn : ((k : Int) + 1).toNat = k + 1 := by omega
  have hb3 : (k : Int) ≤ (n : Int) := by omega
  have hGi : ¬ (G = k) := by omega
  have hGim : ¬ (G = k + 1) := by omega
  have hci : ¬ (cap = k) := by omega
  have hcm : cap ≤ 9223372036854775807 := by omega
  have hGmm : G ≤ 9223372036854775807 := by unfold maxLen at hGm; omega
  clear hcx hcx1 hcx2 hg hu hg1 hu1 hg2 hdl hxl hcs hx hold hkk hik hG hROW hzc hRl hRx hR2 hR2l hW1 hW2 hW3 hB1 hi0 hz0 hzs hzb h1 h1x
  go_enter Try.func105, Try.ntmps105
  go_wp2_with (first
    | (at_builtin; refine Lib.wpList_append_run _ rfl _ _ _ _ rfl _ _ rfl rfl _ _ (hrz _) ?_)
    | (at_builtin; refine wpList_copy_runI _ rfl _ _ 61 61 rfl _ _ rfl rfl (hcpA _ _) ?_))
  go_region_law_o (refine step_copy_runI rfl _ _ 61 61 rfl _ _ (by simp [Act.eval, Act.put]) (by simp [Act.eval, Act.put]) (hcpB _ _ _) ?_)
  go_wp2
  go_ret
  exact ⟨_, rfl, hN ▸ HF.out.1, HF.out.2⟩
end Go.Proofs.Ytcagbdidjakcpaa
