/- Tables (slices of entries: a name and an int): what the laws' helpers sz.., to.., eq.. do. Condition: the values read as strings and ints of a size that fits. -/
import Derived.Test.YtcagbdidjakcpaaName
import Derived.Deep.RegionHeld3
set_option linter.unusedVariables false
namespace Go.Proofs.Ytcagbdidjakcpaa
open Go.RowKit
theorem info_entry : (Try.prog.info? 80).map (fun i => (i.zero, i.size, i.bytes)) = some (some (.agg #[.slice none 0 0, .int .i64 0]), 2, 32) := by kernel_rfl
/-- The slice value v, of n entries, reads as the list. -/
def RdT (w : World) (lo hi : Nat) (v : Value) (n : Nat) (xs : List (List ByteArray × Int)) : Prop :=
  xs.length = n ∧ ∃ a cap, v = .slice a n cap ∧ n ≤ cap ∧ cap ≤ 9223372036854775807 ∧
    (0 < n → ∃ b off, a = some ⟨b, off, none⟩ ∧ lo ≤ b ∧ b < hi ∧ b < w.heap.size ∧ ∀ k e, xs[k]? = some e → ∃ s, w.cell? ⟨b, off + k * 2, none⟩ = some s ∧ w.cell? ⟨b, off + k * 2 + 1, none⟩ = some (.int .i64 e.2) ∧ Rd w lo hi 1 s e.1.length (e.1.map sv))
def Apart (p q : Nat × Nat) : Prop := p.2 ≤ q.1 ∨ q.2 ≤ p.1
/-- The first k entries of the cells cs, each name in a range of blocks of its own. -/
def Inn (w : World) (lo hi : Nat) (cs : List Value) (p : Nat → Nat × Nat) (xs : List (List ByteArray × Int)) (k : Nat) : Prop :=
  ∀ j e, j < k → xs[j]? = some e → ∃ s, cs[j * 2]? = some s ∧ cs[j * 2 + 1]? = some (.int .i64 e.2) ∧ Own w (p j).1 (p j).2 9 1 s e.1.length (e.1.map sv) ∧ lo ≤ (p j).1 ∧ (p j).2 ≤ hi ∧ ∀ i, i < j → Apart (p i) (p j)
/-- A slice of entries that the call owns, with all names. -/
def OwnT (w : World) (lo hi : Nat) (v : Value) (n : Nat) (xs : List (List ByteArray × Int)) : Prop :=
  xs.length = n ∧ ∃ (cs : List Value) (o : Nat × Nat) (p : Nat → Nat × Nat), Own w o.1 o.2 80 2 v n cs ∧ lo ≤ o.1 ∧ o.2 ≤ hi ∧ Inn w lo hi cs p xs n ∧ ∀ j, j < n → Apart o (p j)
section
variable {w w' : World} {lo hi lo' hi' n k : Nat} {v : Value} {cs : List Value} {xs : List (List ByteArray × Int)} {p : Nat → Nat × Nat}
theorem RdT.ext (h : RdT w lo hi v n xs) (e : Below w.heap.size w w') : RdT w' lo hi v n xs := by
  obtain ⟨h1, a, cap, rfl, h2, h3, h4⟩ := h
  refine ⟨h1, a, cap, rfl, h2, h3, fun hn => ?_⟩
  obtain ⟨b, off, rfl, hl, hh, hb, hc⟩ := h4 hn
  refine ⟨b, off, rfl, hl, hh, Nat.lt_of_lt_of_le hb e.size, fun j u hu => ?_⟩
  obtain ⟨s, c1, c2, r⟩ := hc j u hu
  exact ⟨s, cell_ext c1 e, cell_ext c2 e, r.ext e⟩
theorem RdT.mut (h : RdT w lo hi v n xs) (m : Mut lo' hi' w w') (hd : hi ≤ lo' ∨ hi' ≤ lo) : RdT w' lo hi v n xs := by
  obtain ⟨h1, a, cap, rfl, h2, h3, h4⟩ := h
  refine ⟨h1, a, cap, rfl, h2, h3, fun hn => ?_⟩
  obtain ⟨b, off, rfl, hl, hh, hb, hc⟩ := h4 hn
  refine ⟨b, off, rfl, hl, hh, Nat.lt_of_lt_of_le hb m.size, fun j u hu => ?_⟩
  obtain ⟨s, c1, c2, r⟩ := hc j u hu
  exact ⟨s, cell_mut c1 m (by simp only; omega), cell_mut c2 m (by simp only; omega), r.mut m hd⟩
theorem RdT.form (h : RdT w lo hi v n xs) : ∃ a cap, v = .slice a n cap ∧ n ≤ cap ∧ cap ≤ 9223372036854775807 := by
  obtain ⟨_, a, cap, rfl, h1, h2, _⟩ := h
  exact ⟨a, cap, rfl, h1, h2⟩
theorem RdT.at_ (h : RdT w lo hi v n xs) (hk : k < xs.length) : ∃ b off cap s, v = .slice (some ⟨b, off, none⟩) n cap ∧ lo ≤ b ∧ b < hi ∧ b < w.heap.size ∧ w.cell? ⟨b, off + k * 2, none⟩ = some s ∧ w.cell? ⟨b, off + k * 2 + 1, none⟩ = some (.int .i64 xs[k].2) ∧ Rd w lo hi 1 s xs[k].1.length (xs[k].1.map sv) := by
  obtain ⟨h1, a, cap, rfl, h2, h3, h4⟩ := h
  obtain ⟨b, off, rfl, hl, hh, hb, hc⟩ := h4 (by omega)
  obtain ⟨s, c1, c2, r⟩ := hc k _ (List.getElem?_eq_getElem hk)
  exact ⟨b, off, cap, s, rfl, hl, hh, hb, c1, c2, r⟩
theorem Inn.same (h : Inn w lo hi cs p xs k) (hk : ∀ b, lo ≤ b → b < hi → b < w.heap.size → w'.heap[b]? = w.heap[b]?) : Inn w' lo hi cs p xs k := by
  intro j e hj he
  obtain ⟨s, c1, c2, o, g1, g2, g3⟩ := h j e hj he
  exact ⟨s, c1, c2, o.same fun b h1 h2 h3 => hk b (by omega) (by omega) h3, g1, g2, g3⟩
theorem Inn.ext (h : Inn w lo hi cs p xs k) (x : Below w.heap.size w w') : Inn w' lo hi cs p xs k := h.same fun b _ _ hb => x.block b hb
theorem Inn.mut (h : Inn w lo hi cs p xs k) (m : Mut lo' hi' w w') (hd : hi ≤ lo' ∨ hi' ≤ lo) : Inn w' lo hi cs p xs k := h.same fun b h1 h2 hb => m.block b hb (by omega)
theorem Inn.mono (h : Inn w lo hi cs p xs k) (h1 : lo' ≤ lo) (h2 : hi ≤ hi') : Inn w lo' hi' cs p xs k := by
  intro j e hj he
  obtain ⟨s, c1, c2, o, g1, g2, g3⟩ := h j e hj he
  exact ⟨s, c1, c2, o, by omega, by omega, g3⟩
theorem Inn.zero (w : World) (lo hi : Nat) (cs : List Value) (p : Nat → Nat × Nat) (xs : List (List ByteArray × Int)) : Inn w lo hi cs p xs 0 := fun j _ hj _ => absurd hj (by omega)
/-- One entry more, its name in the blocks from q on. -/
theorem Inn.push {q r : Nat} {s : Value} {ss : List ByteArray} {i : Int} (h : Inn w lo q cs p xs k) (hx : xs[k]? = some (ss, i)) (ho : Own w q r 9 1 s ss.length (ss.map sv)) (hlo : lo ≤ q) (hqr : q ≤ r)
    {cs' : List Value} (c0 : ∀ j, j < k * 2 → cs'[j]? = cs[j]?) (c1 : cs'[k * 2]? = some s) (c2 : cs'[k * 2 + 1]? = some (.int .i64 i)) :
    Inn w lo r cs' (fun j => if j = k then (q, r) else p j) xs (k + 1) := by
  intro j e hj he
  by_cases hjk : j = k
  · subst hjk
    rw [hx] at he
    injection he with he
    subst he
    simp only [if_true]
    refine ⟨s, c1, c2, ho, hlo, Nat.le_refl _, fun i' hi' => ?_⟩
    rw [if_neg (by omega)]
    by_cases hx' : i' < xs.length
    · obtain ⟨_, _, _, _, _, g2, _⟩ := h i' _ hi' (List.getElem?_eq_getElem hx')
      exact .inl g2
    · have := (List.getElem?_eq_some_iff.1 hx).1
      omega
  · obtain ⟨s', d1, d2, o', g1, g2, g3⟩ := h j e (by omega) he
    simp only [if_neg hjk]
    refine ⟨s', by rw [c0 _ (by omega)]; exact d1, by rw [c0 _ (by omega)]; exact d2, o', g1, by omega, fun i' hi' => ?_⟩
    rw [if_neg (by omega)]
    exact g3 i' hi'
theorem OwnT.ext (h : OwnT w lo hi v n xs) (x : Below w.heap.size w w') : OwnT w' lo hi v n xs := by
  obtain ⟨h1, cs, o, p, h2, h3, h4, h5, h6⟩ := h
  exact ⟨h1, cs, o, p, h2.ext x, h3, h4, h5.ext x, h6⟩
theorem OwnT.mut (h : OwnT w lo hi v n xs) (m : Mut lo' hi' w w') (hd : hi ≤ lo' ∨ hi' ≤ lo) : OwnT w' lo hi v n xs := by
  obtain ⟨h1, cs, o, p, h2, h3, h4, h5, h6⟩ := h
  exact ⟨h1, cs, o, p, h2.same fun b g1 g2 hb => m.block b hb (by omega), h3, h4, h5.mut m hd, h6⟩
theorem OwnT.mono (h : OwnT w lo hi v n xs) (g1 : lo' ≤ lo) (g2 : hi ≤ hi') : OwnT w lo' hi' v n xs := by
  obtain ⟨h1, cs, o, p, h2, h3, h4, h5, h6⟩ := h
  exact ⟨h1, cs, o, p, h2, by omega, by omega, h5.mono g1 g2, h6⟩
theorem OwnT.rd (h : OwnT w lo hi v n xs) : RdT w lo hi v n xs := by
  obtain ⟨h1, cs, o, p, h2, h3, h4, h5, h6⟩ := h
  obtain ⟨h20, a, cap, rfl, hc, hm, hat⟩ := h2.rd
  refine ⟨h1, a, cap, rfl, hc, hm, fun hn => ?_⟩
  obtain ⟨b, off, rfl, hl, hh, hb, hcell⟩ := hat hn
  refine ⟨b, off, rfl, by omega, by omega, hb, fun k e he => ?_⟩
  obtain ⟨s, c1, c2, o', g1, g2, _⟩ := h5 k e (by have := (List.getElem?_eq_some_iff.1 he).1; omega) he
  exact ⟨s, hcell _ _ c1, hcell _ _ c2, o'.rd.mono g1 g2⟩
end
/-- How much the entries weigh: their number and their names. -/
def twP (n : Nat) (xs : List (List ByteArray × Int)) (k : Nat) : Nat := n + ((xs.take k).map fun e => wt e.1).sum
def tw (n : Nat) (xs : List (List ByteArray × Int)) : Nat := twP n xs xs.length
theorem twP_step (n : Nat) (xs : List (List ByteArray × Int)) (j : Nat) (h : j < xs.length) : twP n xs (j + 1) = twP n xs j + wt xs[j].1 := by
  unfold twP; rw [List.take_succ_eq_append_getElem h]; simp only [List.map_append, List.sum_append, List.map_cons, List.map_nil, List.sum_cons, List.sum_nil]; omega
theorem twP_le (n : Nat) (xs : List (List ByteArray × Int)) (k : Nat) : twP n xs k ≤ tw n xs := by
  unfold tw twP
  rw [List.take_length]
  have e := congrArg (fun l : List (List ByteArray × Int) => (l.map fun e => wt e.1).sum) (List.take_append_drop k xs)
  simp only [List.map_append, List.sum_append] at e
  omega
theorem tw_len (n : Nat) (xs : List (List ByteArray × Int)) : n ≤ tw n xs := by have := twP_le n xs 0; unfold twP at this; omega
theorem tw_mem (n : Nat) (xs : List (List ByteArray × Int)) (k : Nat) (h : k < xs.length) : wt xs[k].1 ≤ tw n xs := by
  have := twP_le n xs (k + 1)
  rw [twP_step n xs k h] at this
  omega
theorem szTableEntry_c {w : World} {lo hi : Nat} {s : Value} {ss : List ByteArray} {i left : Int} (h : Rd w lo hi 1 s ss.length (ss.map sv)) (hs : ∀ s ∈ ss, s.size ≤ 9223372036854775807) (h0 : 0 ≤ left) (h1 : left ≤ 1048576) :
    Calls Try.prog 95 #[.agg #[s, .int .i64 i], .int .i64 left] w (Gives w fun r _ => r = .int .i64 (szS left (wt ss))) := by
  have r1 := h.ext (ext_alloc (ext_refl w) (.cells #[s, .int .i64 i] 106))
  have C := hid (szName_c ⟨s, rfl, r1⟩ hs h0 h1)
  have hb : szS left (wt ss) = -1 ∨ 0 ≤ szS left (wt ss) := by unfold szS; split <;> omega
  clear h r1 hs
  go_enter Try.func95, Try.ntmps95
  go_wp2_with fail
  refine C.out.mono ?_
  rintro e w1 ⟨_, rfl, rfl, y1⟩
  have x := ext_trans (ext_alloc (ext_refl w) _) y1
  clear C y1
  obtain ⟨z, hz0⟩ : ∃ z, z = szS left (wt ss) := ⟨_, rfl⟩
  rw [← hz0] at hb ⊢
  have HZ0 := hid hz0
  clear hz0
  rcases hb with hb | hb
  · have hz : z < 0 := by omega
    have HZ := hid hb
    clear hb
    go_wp2
    go_ret
    exact gives_int (HZ.out.symm.trans HZ0.out) x
  · go_wp2
    go_ret
    exact gives_int HZ0.out x
set_option maxHeartbeats 1000000 in
theorem szTableEntryS_c {w : World} {lo hi n : Nat} {v : Value} {xs : List (List ByteArray × Int)} {left : Int} (h : RdT w lo hi v n xs) (hs : ∀ e ∈ xs, ∀ s ∈ e.1, s.size ≤ 9223372036854775807) (h0 : 0 ≤ left) (h1 : left ≤ 1048576) :
    Calls Try.prog 38 #[v, .int .i64 left] w (Gives w fun r _ => r = .int .i64 (szS left (tw n xs))) := by
  have HS := hid hs
  clear hs
  have hwl := tw_len n xs
  have HN := hid h.1
  have HR := hid h
  obtain ⟨a, cap, rfl, hc, hm⟩ := h.form
  clear h
  by_cases hl : left - (n : Int) < 0
  · have HV := hid (show szS left (tw n xs) = -1 by rw [szS, if_pos (by omega)])
    go_enter Try.func38, Try.ntmps38
    go_wp2
    go_ret
    exact gives_int HV.out.symm (ext_refl _)
  · go_enter Try.func38, Try.ntmps38
    go_wp2
    go_loopw [1, 5] (fun q i wr => ∃ k : Nat, k ≤ n ∧ i = .int .i64 k ∧ q = .int .i64 (left - (twP n xs k : Nat)) ∧ (twP n xs k : Nat) ≤ left ∧ Below w.heap.size w wr) (fun _ i _ => n - (intOf i).toNat)
    case atStart => exact ⟨0, Nat.zero_le _, rfl, by simp [twP], by simp [twP]; omega, ext_refl _⟩
    case round =>
      obtain ⟨k, hk, rfl, rfl, hle, hb⟩ := hrel
      by_cases hlt : k < n
      · have hkx : k < xs.length := by rw [HN.out]; exact hlt
        obtain ⟨b, off, cap', s, hv, _, _, hbs, c1, c2, r⟩ := (HR.out.ext hb).at_ hkx
        simp only [Value.slice.injEq, true_and] at hv
        obtain ⟨rfl, rfl⟩ := hv
        have hz := HS.out xs[k] (List.getElem_mem hkx)
        have HT := hid (twP_step n xs k hkx)
        have HW := hid (twP_le n xs (k + 1))
        generalize ht1 : twP n xs (k + 1) = y at HT HW
        have HY := hid ht1
        clear ht1
        generalize twP n xs k = x at hle HT ⊢
        generalize xs[k] = e1 at *
        obtain ⟨ss, i⟩ := e1
        have C := hid (szTableEntry_c (i := i) (left := left - (x : Int)) r hz (by omega) (by omega))
        have HT' : Hid (y = x + wt ss) := HT
        generalize wt ss = u at C HT'
        clear HT r hz
        simp only at c2
        go_wp2_with fail
        refine C.out.mono ?_
        rintro e w1 ⟨_, rfl, rfl, y1⟩
        have hb1 := ext_trans hb y1
        clear y1 c1 c2 C
        by_cases hneg : left - (x : Int) < (u : Int)
        · have HV := hid (show szS left (tw n xs) = -1 by rw [szS, if_pos (by have := HT'.out; have := HW.out; omega)])
          rw [show szS (left - (x : Int)) u = -1 by rw [szS, if_pos hneg]]
          go_wp2
          go_ret
          exact gives_int HV.out.symm hb1
        · rw [show szS (left - (x : Int)) u = left - (x : Int) - (u : Int) by rw [szS, if_neg hneg]]
          have hn1 : ¬ left - (x : Int) - (u : Int) < 0 := by omega
          have hn2 : decide (left - (x : Int) - (u : Int) < 0) = false := decide_eq_false hn1
          go_wp2
          go_roundw
          case rel => exact ⟨k + 1, by omega, by go_num, by rw [HY.out, HT'.out]; go_num, by rw [HY.out, HT'.out]; omega, hb1⟩
          case measure => simp [intOf]; omega
      · have HV := hid (show szS left (tw n xs) = left - (twP n xs k : Nat) by
          have : tw n xs = twP n xs k := by unfold tw; rw [show k = xs.length by rw [HN.out]; omega]
          rw [szS, this, if_neg (by omega)])
        go_wp2
        go_ret
        exact gives_int HV.out.symm hb
/-- An entry that the call owns. -/
def OwnE (w : World) (lo hi : Nat) (v : Value) (n : Nat) (cs : List Value) (i : Int) : Prop := ∃ s, v = .agg #[s, .int .i64 i] ∧ Own w lo hi 9 1 s n cs
set_option maxRecDepth 100000 in
set_option maxHeartbeats 1000000 in
theorem toTableEntry_c {w : World} {lo hi n : Nat} {s : Value} {ss : List ByteArray} {i : Int} (h : Rd w lo hi 1 s n (ss.map sv)) (hn : n ≤ 8796093022208) :
    Calls Try.prog 99 #[.agg #[s, .int .i64 i]] w (Gives w fun r w' => OwnE w' w.heap.size w'.heap.size r n (ss.map sv) i) := by
  obtain ⟨W, hW⟩ : ∃ W, W = ((w.alloc (.cells #[s, .int .i64 i] 106)).alloc (.cells #[.slice none 0 0, .int .i64 0] 80)).alloc (.cells #[.slice none 0 0, .int .i64 0] 80) := ⟨_, rfl⟩
  have x0 : Below w.heap.size w W := by rw [hW]; exact ext_alloc (ext_alloc (ext_alloc (ext_refl w) _) _) _
  have hWs : W.heap.size = w.heap.size + 3 := by rw [hW]; simp
  have C := hid (toName_c ⟨s, rfl, h.ext x0⟩ hn)
  have p1 : W.cell? ⟨w.heap.size, 1, none⟩ = some (.int .i64 i) := by rw [hW]; exact cell_ext (cell_ext (Cell1.newAt w _ _ 1 _ rfl).1 (ext_alloc (ext_refl _) _)) (ext_alloc (ext_refl _) _)
  have A0 : Cell1 W ⟨w.heap.size + 1, 0, none⟩ (.slice none 0 0) := by rw [hW]; simpa using (Cell1.newAt (w.alloc (.cells #[s, .int .i64 i] 106)) #[.slice none 0 0, .int .i64 0] 80 0 (.slice none 0 0) rfl).ext (ext_alloc (ext_refl _) (.cells #[.slice none 0 0, .int .i64 0] 80))
  have A1 : Cell1 W ⟨w.heap.size + 1, 1, none⟩ (.int .i64 0) := by rw [hW]; simpa using (Cell1.newAt (w.alloc (.cells #[s, .int .i64 i] 106)) #[.slice none 0 0, .int .i64 0] 80 1 (.int .i64 0) rfl).ext (ext_alloc (ext_refl _) (.cells #[.slice none 0 0, .int .i64 0] 80))
  have B0 : Cell1 W ⟨w.heap.size + 2, 0, none⟩ (.slice none 0 0) := by rw [hW]; simpa using Cell1.newAt ((w.alloc (.cells #[s, .int .i64 i] 106)).alloc (.cells #[.slice none 0 0, .int .i64 0] 80)) #[.slice none 0 0, .int .i64 0] 80 0 (.slice none 0 0) rfl
  have B1 : Cell1 W ⟨w.heap.size + 2, 1, none⟩ (.int .i64 0) := by rw [hW]; simpa using Cell1.newAt ((w.alloc (.cells #[s, .int .i64 i] 106)).alloc (.cells #[.slice none 0 0, .int .i64 0] 80)) #[.slice none 0 0, .int .i64 0] 80 1 (.int .i64 0) rfl
  clear h
  go_enter Try.func99, Try.ntmps99
  go_wp2_with fail
  rw [← hW]
  clear hW
  refine C.out.mono ?_
  rintro e w1 ⟨_, rfl, ⟨v1, rfl, o1⟩, y1⟩
  have s1 := y1.size
  rw [hWs] at s1 o1
  have x1 := ext_trans x0 y1
  replace p1 := cell_ext p1 y1
  obtain ⟨A0, F0⟩ := A0.ext y1
  obtain ⟨A1, F1⟩ := A1.ext y1
  obtain ⟨B0, G0⟩ := B0.ext y1
  obtain ⟨B1, G1⟩ := B1.ext y1
  obtain ⟨a1, c1, rfl, _⟩ := o1.rd.form
  clear C y1 x0
  go_wp2
  have M := (((Mut.setCell w1 (lo := w.heap.size) (hi := w.heap.size + 3) (p := ⟨w.heap.size + 1 + 1, 0, none⟩) (by simp only; omega) (by simp only; omega) (.slice a1 n c1)).trans
    (Mut.setCell _ (lo := w.heap.size) (hi := w.heap.size + 3) (p := ⟨w.heap.size + 1 + 1, 1, none⟩) (by simp only; omega) (by simp only; omega) (.int .i64 i))).trans
    (Mut.setCell _ (lo := w.heap.size) (hi := w.heap.size + 3) (p := ⟨w.heap.size + 1, 0, none⟩) (by simp only; omega) (by simp only; omega) (.slice a1 n c1))).trans
    (Mut.setCell _ (lo := w.heap.size) (hi := w.heap.size + 3) (p := ⟨w.heap.size + 1, 1, none⟩) (by simp only; omega) (by simp only; omega) (.int .i64 i))
  exact bodyPost_ret (v := .agg #[.slice a1 n c1, .int .i64 i]) (by simp [results, Try.results99, go_sem, A0, A1]) rfl (gives_of _ ⟨_, rfl, (o1.mut M (Or.inr (Nat.le_refl _))).mono (by omega) (M.size)⟩ (M.ext x1 (Nat.le_refl _)))
set_option maxRecDepth 100000 in
set_option maxHeartbeats 1000000 in
theorem toTableEntryS_c {w : World} {lo hi n : Nat} {v : Value} {xs : List (List ByteArray × Int)} (h : RdT w lo hi v n xs) (hn : n ≤ 1099511627776) (hw : tw n xs ≤ 1099511627776) :
    Calls Try.prog 40 #[v] w (Gives w fun r w' => OwnT w' w.heap.size w'.heap.size r n xs) := by
  have H0 := hid h.1
  have HR := hid h
  have HW := hid hw
  obtain ⟨a, cap, rfl, hc, hm⟩ := h.form
  clear h hw
  obtain ⟨i0, hi0, hz0, hz1, hz2⟩ := info_parts info_entry
  go_enter Try.func40, Try.ntmps40
  go_wp2_with (at_make; refine wpList_make_full _ rfl _ _ 61 rfl w.heap.size 80 i0 (.agg #[.slice none 0 0, .int .i64 0]) 2 Try.underlying61 hi0 hz0 hz1 _ _ _ _ n rfl rfl rfl rfl (by rw [hz2]; omega) (by unfold maxLen; omega) (Nat.le_refl _) ?_)
  intro w1 ho hg
  have x1 : Below w.heap.size w w1 := (ext_refl w).grown hg (Nat.le_refl _) (fun k hk => by cases hk)
  obtain ⟨zs, hzs, hzl, s1⟩ : ∃ zs : List Value, Own w1 w.heap.size (w.heap.size + 1) 80 2 (.slice (some ⟨w.heap.size, 0, none⟩) n n) n zs ∧ Hid (zs.length = n * 2) ∧ w.heap.size + 1 ≤ w1.heap.size := by
    obtain ⟨g0, ⟨e1, _⟩ | ⟨g, cp, cur, e2, hl, hg', h3⟩⟩ := ho
    · cases e1
    · injection e2 with e3 e4 e5
      injection e3 with e6
      injection e6 with e7
      subst e7
      subst e5
      exact ⟨_, ⟨g0, .inr ⟨w.heap.size, n, cur, rfl, Nat.le_refl _, by omega, hg', h3⟩⟩, g0, (Array.getElem?_eq_some_iff.1 hg').1⟩
  clear hg ho hi0 hz0 hz1 hz2
  go_wp2
  go_loopw [4] (fun i wr => ∃ (k : Nat) (cs : List Value) (p : Nat → Nat × Nat), k ≤ n ∧ i = .int .i64 k ∧ Own wr w.heap.size (w.heap.size + 1) 80 2 (.slice (some ⟨w.heap.size, 0, none⟩) n n) n cs ∧ Inn wr (w.heap.size + 1) wr.heap.size cs p xs k ∧ w.heap.size + 1 ≤ wr.heap.size ∧ Below w.heap.size w wr) (fun i _ => n - (intOf i).toNat)
  case atStart => exact ⟨0, zs, fun _ => (0, 0), Nat.zero_le _, rfl, hzs, Inn.zero _ _ _ _ _ _, s1, x1⟩
  case round =>
    obtain ⟨k, cs, p, hk, rfl, ho, hin, hsz, hb⟩ := hrel
    clear hzs x1 s1
    by_cases hlt : k < n
    · have hkx : k < xs.length := by rw [H0.out]; exact hlt
      have hxs := hid (List.getElem?_eq_getElem hkx)
      obtain ⟨b, off, cap', s, hv, _, _, hbs, c1, c2, r⟩ := (HR.out.ext hb).at_ hkx
      simp only [Value.slice.injEq, true_and] at hv
      obtain ⟨rfl, rfl⟩ := hv
      have htm := tw_mem n xs k hkx
      have htl := wt_len xs[k].1
      have hw1 := HW.out
      have hsm : xs[k].1.length ≤ 8796093022208 := by omega
      clear htm htl hw1
      generalize xs[k] = e1 at *
      obtain ⟨ss, i⟩ := e1
      simp only at c2 r hsm
      go_wp2_with fail
      refine (toTableEntry_c (i := i) r hsm).mono ?_
      rintro e w2 ⟨_, rfl, ⟨s2, rfl, o2⟩, y1⟩
      have ho1 := ho.ext y1
      have hin1 := hin.ext y1
      have hb1 := ext_trans hb y1
      have q1 := y1.size
      obtain ⟨a2, c2', rfl, _⟩ := o2.rd.form
      have hcl := ho1.1
      clear ho y1 c1 c2 hin r
      obtain ⟨g, cp, hv, _, _, _, _, hgs, hfz, hcc, hst⟩ := ho1.at_ (by omega)
      simp only [Value.slice.injEq, Option.some.injEq, Addr.mk.injEq, and_true, true_and] at hv
      obtain ⟨rfl, rfl⟩ := hv
      have f1 := hfz (k * 2)
      have f2 := hfz (k * 2 + 1)
      obtain ⟨z, hz⟩ : ∃ z, cs[k * 2]? = some z := ⟨_, List.getElem?_eq_getElem (by omega)⟩
      obtain ⟨z', hz'⟩ : ∃ z, cs[k * 2 + 1]? = some z := ⟨_, List.getElem?_eq_getElem (by omega)⟩
      have d1 := hcc (k * 2) z hz
      obtain ⟨ho2, hm2⟩ := hst (k * 2) (.slice a2 ss.length c2')
      obtain ⟨g', cp', hv', _, _, _, _, _, hfz', hcc', hst'⟩ := ho2.at_ (by omega)
      simp only [Value.slice.injEq, Option.some.injEq, Addr.mk.injEq, and_true, true_and] at hv'
      obtain ⟨rfl, rfl⟩ := hv'
      have d2 := hcc' (k * 2 + 1) z' (by rw [List.getElem?_set_ne (by omega)]; exact hz')
      obtain ⟨ho3, hm3⟩ := hst' (k * 2 + 1) (.int .i64 i)
      have M := hm2.trans hm3
      have hpush := (hin1.push (r := w2.heap.size) hxs.out o2 hsz q1 (cs' := (cs.set (k * 2) (.slice a2 ss.length c2')).set (k * 2 + 1) (.int .i64 i))
        (fun j hj => by rw [List.getElem?_set_ne (by omega), List.getElem?_set_ne (by omega)]) (by rw [List.getElem?_set_ne (by omega), List.getElem?_set_self (by omega)]) (by rw [List.getElem?_set_self (by rw [List.length_set]; omega)]))
      have HP := hid (hpush.mut M (Or.inr (by omega)))
      have HM := hid M
      clear hfz hcc hst hfz' hcc' hst' ho1 ho2 hz hz' hpush M hin1 o2 hm2 hm3
      go_wp2
      go_roundw
      case rel => exact ⟨k + 1, _, _, by omega, by go_num, ho3, by simpa [World.setCell] using HP.out, by simp [World.setCell]; omega, HM.out.ext hb1 (Nat.le_refl _)⟩
      case measure => simp [intOf]; omega
    · have hkn : k = n := by omega
      subst hkn
      go_wp2
      go_ret
      exact gives_of _ ⟨H0.out, cs, (w.heap.size, w.heap.size + 1), p, ho, Nat.le_refl _, by omega, hin.mono (by omega) (Nat.le_refl _), fun j hj => by
        obtain ⟨_, _, _, _, g1, _, _⟩ := hin j _ hj (List.getElem?_eq_getElem (by rw [H0.out]; exact hj))
        exact .inl g1⟩ hb
end Go.Proofs.Ytcagbdidjakcpaa
