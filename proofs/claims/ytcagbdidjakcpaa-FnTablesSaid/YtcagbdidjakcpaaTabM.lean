/- Tables that a call owns: an entry more; the laws' marks on them (markTableEntryS, heldTableEntryS). Condition: the marks are small. -/
import Derived.Test.YtcagbdidjakcpaaTab
import Derived.Test.YtcagbdidjakcpaaAppX
set_option linter.unusedVariables false
namespace Go.Proofs.Ytcagbdidjakcpaa
open Go.RowKit
section
variable {w w' : World} {lo hi lo' hi' n k : Nat} {v : Value} {cs : List Value} {xs : List (List ByteArray × Int)} {p : Nat → Nat × Nat} {o : Nat × Nat}
/-- What turns in a range apart from the names leaves them. -/
theorem Inn.apart (h : Inn w lo hi cs p xs k) (m : Mut o.1 o.2 w w') (hap : ∀ j, j < k → Apart o (p j)) : Inn w' lo hi cs p xs k := by
  intro j e hj he
  obtain ⟨s, c1, c2, o', g1, g2, g3⟩ := h j e hj he
  exact ⟨s, c1, c2, o'.mut m (by have := hap j hj; unfold Apart at this; omega), g1, g2, g3⟩
theorem Inn.longer (h : Inn w lo hi cs p xs k) (hk : k ≤ xs.length) (e : List ByteArray × Int) : Inn w lo hi cs p (xs ++ [e]) k := by
  intro j e' hj he
  rw [List.getElem?_append_left (by omega)] at he
  exact h j e' hj he
/-- An entry more. -/
theorem OwnT.grow {q r B : Nat} {v' s : Value} {o' : Nat × Nat} {ss : List ByteArray} {i : Int} (hx : xs.length = n) (hin : Inn w lo hi cs p xs n) (hap : ∀ j, j < n → Apart o (p j)) (ho1 : lo ≤ o.1) (ho2 : o.2 ≤ hi)
    (hs : Own w q r 9 1 s ss.length (ss.map sv)) (hq : hi ≤ q) (hlo : lo ≤ q) (hqr : q ≤ r) (hB : r ≤ B) (hB3 : B ≤ w.heap.size) (hcase : o' = o ∨ o' = (B, w.heap.size))
    (hown : Own w o'.1 o'.2 80 2 v' (n + 1) (cs ++ [s, .int .i64 i])) (hcs : cs.length = n * 2) (hhi : hi ≤ w.heap.size) : OwnT w lo w.heap.size v' (n + 1) (xs ++ [(ss, i)]) := by
  have hpj : ∀ j, j < n → (p j).2 ≤ hi := fun j hj => (hin j _ hj (List.getElem?_eq_getElem (by omega))).choose_spec.2.2.2.2.1
  have hpush := ((hin.longer (by omega) (ss, i)).mono (Nat.le_refl _) hq).push (r := r) (i := i) (by rw [List.getElem?_append_right (by omega), hx]; simp) hs hlo hqr (cs' := cs ++ [s, .int .i64 i])
    (fun j hj => by rw [List.getElem?_append_left (by omega)]) (by rw [List.getElem?_append_right (by omega), hcs]; simp) (by rw [List.getElem?_append_right (by omega), hcs]; simp)
  refine ⟨by simp [hx], _, o', _, hown, ?_, ?_, hpush.mono (Nat.le_refl _) (by omega), fun j hj => ?_⟩
  · rcases hcase with rfl | rfl
    · exact ho1
    · simp only; omega
  · rcases hcase with rfl | rfl
    · omega
    · exact Nat.le_refl _
  · by_cases hjn : j = n
    · subst hjn
      simp only [if_true]
      rcases hcase with rfl | rfl
      · exact .inl (by simp only; omega)
      · exact .inr (by simp only; omega)
    · simp only [if_neg hjn]
      rcases hcase with rfl | rfl
      · exact hap j (by omega)
      · exact .inr (by have := hpj j (by omega); simp only; omega)
/-- What a turn of one entry needs and leaves. -/
theorem OwnT.entry {j : Nat} (h : OwnT w lo hi v n xs) (hj : j < xs.length) : ∃ (g cap : Nat) (s : Value) (q : Nat × Nat), v = .slice (some ⟨g, 0, none⟩) n cap ∧ n ≤ cap ∧ cap ≤ 9223372036854775807 ∧ g < w.heap.size ∧ (g < q.1 ∨ q.2 ≤ g) ∧
    w.cell? ⟨g, j * 2, none⟩ = some s ∧ w.cell? ⟨g, j * 2 + 1, none⟩ = some (.int .i64 xs[j].2) ∧ w.frozen? ⟨g, j * 2 + 1, none⟩ = false ∧ Own w q.1 q.2 9 1 s xs[j].1.length (xs[j].1.map sv) ∧ lo ≤ q.1 ∧ q.2 ≤ hi ∧
    ∀ (w1 : World) (ss : List ByteArray) (z : Int), Mut q.1 q.2 w w1 → Own w1 q.1 q.2 9 1 s ss.length (ss.map sv) →
      OwnT (w1.setCell ⟨g, j * 2 + 1, none⟩ (.int .i64 z)) lo hi v n (xs.set j (ss, z)) ∧ Mut lo hi w (w1.setCell ⟨g, j * 2 + 1, none⟩ (.int .i64 z)) ∧ w1.frozen? ⟨g, j * 2 + 1, none⟩ = false ∧ w1.cell? ⟨g, j * 2 + 1, none⟩ = some (.int .i64 xs[j].2) := by
  obtain ⟨hx, cs, o, p, ho, h1, h2, hin, hap⟩ := h
  obtain ⟨s, c1, c2, os, g1, g2, g3⟩ := hin j _ (by omega) (List.getElem?_eq_getElem hj)
  obtain ⟨hl0, ⟨rfl, _⟩ | ⟨g, cap, cur, rfl, hlo, hhi, hg, hnc, hcm, hcs, htk⟩⟩ := id ho
  · omega
  have hgs := (Array.getElem?_eq_some_iff.1 hg).1
  obtain ⟨g', cap', hv, _, _, _, _, _, hfz, hcc, hst⟩ := ho.at_ (by omega)
  simp only [Value.slice.injEq, Option.some.injEq, Addr.mk.injEq, and_true, true_and] at hv
  obtain ⟨rfl, rfl⟩ := hv
  have hgq : g < (p j).1 ∨ (p j).2 ≤ g := by have := hap j (by omega); unfold Apart at this; omega
  refine ⟨g, cap, s, p j, rfl, hnc, by unfold maxLen at hcm; omega, hgs, hgq, hcc _ _ c1, hcc _ _ c2, hfz _, os, g1, g2, fun w1 ss z hm hos => ?_⟩
  have ho1 : Own w1 o.1 o.2 80 2 (.slice (some ⟨g, 0, none⟩) n cap) n cs := ho.mut hm (by have := hap j (by omega); unfold Apart at this; omega)
  obtain ⟨g'', cap'', hv, _, _, _, _, _, hfz1, hcc1, hst1⟩ := ho1.at_ (by omega)
  simp only [Value.slice.injEq, Option.some.injEq, Addr.mk.injEq, and_true, true_and] at hv
  obtain ⟨rfl, rfl⟩ := hv
  obtain ⟨ho2, hm2⟩ := hst1 (j * 2 + 1) (.int .i64 z)
  have hM : Mut lo hi w1 (w1.setCell ⟨g, j * 2 + 1, none⟩ (.int .i64 z)) := hm2.mono h1 h2
  refine ⟨⟨by simpa using hx, _, o, p, ho2, h1, h2, ?_, hap⟩, (hm.mono g1 g2).trans hM, hfz1 _, hcc1 _ _ c2⟩
  intro i e hi' he
  by_cases hij : i = j
  · subst hij
    rw [List.getElem?_set_self hj] at he
    injection he with he
    subst he
    refine ⟨s, by rw [List.getElem?_set_ne (by omega)]; exact c1, by rw [List.getElem?_set_self (by have := (List.getElem?_eq_some_iff.1 c2).1; omega)], hos.mut hm2 (by have := hap i (by omega); unfold Apart at this; omega), g1, g2, g3⟩
  · rw [List.getElem?_set_ne (by omega)] at he
    obtain ⟨s', d1, d2, o', k1, k2, k3⟩ := hin i e hi' he
    have hap' : Apart (p i) (p j) := by
      rcases Nat.lt_or_ge i j with hlt | hge
      · exact g3 i hlt
      · have := k3 j (by omega); unfold Apart at this ⊢; omega
    refine ⟨s', by rw [List.getElem?_set_ne (by omega)]; exact d1, by rw [List.getElem?_set_ne (by omega)]; exact d2, (o'.mut hm (by unfold Apart at hap'; omega)).mut hm2 (by have := hap i hi'; unfold Apart at this; omega), k1, k2, k3⟩
end
/-! ### The marks -/
def markOf (k m : Nat) : List ByteArray × Int := ((List.range m).map fun i => mt (k + i), ((k + m : Nat) : Int))
def kP (k0 : Nat) (xs : List (List ByteArray × Int)) (j : Nat) : Nat := k0 + ((xs.take j).map fun e => e.1.length + 1).sum
def mkP (k0 : Nat) (xs : List (List ByteArray × Int)) : Nat → List (List ByteArray × Int)
  | 0 => xs
  | j + 1 => (mkP k0 xs j).set j (markOf (kP k0 xs j) (((xs[j]?).map fun e => e.1.length).getD 0))
theorem kP_step (k0 : Nat) (xs : List (List ByteArray × Int)) (j : Nat) (h : j < xs.length) : kP k0 xs (j + 1) = kP k0 xs j + (xs[j].1.length + 1) := by
  unfold kP; rw [List.take_succ_eq_append_getElem h]; simp only [List.map_append, List.sum_append, List.map_cons, List.map_nil, List.sum_cons, List.sum_nil]; omega
theorem kP_zero (k0 : Nat) (xs : List (List ByteArray × Int)) : kP k0 xs 0 = k0 := by simp [kP]
theorem kP_le (k0 : Nat) (xs : List (List ByteArray × Int)) (j : Nat) (h : j ≤ xs.length) : kP k0 xs j + (xs.length - j) ≤ k0 + twP xs.length xs j := by
  induction j with
  | zero => rw [kP_zero]; unfold twP; simp
  | succ j ih =>
    rw [kP_step k0 xs j (by omega), twP_step xs.length xs j (by omega)]
    have h1 := ih (by omega)
    have h2 := wt_len xs[j].1
    omega
theorem mkP_len (k0 : Nat) (xs : List (List ByteArray × Int)) (j : Nat) : (mkP k0 xs j).length = xs.length := by
  induction j with
  | zero => rfl
  | succ j ih => rw [mkP, List.length_set, ih]
theorem mkP_get (k0 : Nat) (xs : List (List ByteArray × Int)) (j i : Nat) (hi : i < xs.length) : (mkP k0 xs j)[i]? = some (if i < j then markOf (kP k0 xs i) xs[i].1.length else xs[i]) := by
  induction j with
  | zero => simp [mkP, hi]
  | succ j ih =>
    rw [mkP]
    by_cases hij : i = j
    · subst hij
      rw [List.getElem?_set_self (by rw [mkP_len]; exact hi), if_pos (by omega), List.getElem?_eq_getElem hi]
      rfl
    · rw [List.getElem?_set_ne (by omega), ih]
      congr 1
      by_cases h1 : i < j
      · rw [if_pos h1, if_pos (by omega)]
      · rw [if_neg h1, if_neg (by omega)]
theorem marks_of (k m : Nat) : marksString k m = (markOf k m).1.map sv := by unfold marksString markOf; simp [sv]
theorem markOf_len (k m : Nat) : (markOf k m).1.length = m := by simp [markOf]
set_option maxHeartbeats 1000000 in
theorem markTableEntryS_c {w : World} {lo hi n : Nat} {v : Value} {xs : List (List ByteArray × Int)} (h : OwnT w lo hi v n xs) {k0 : Nat} (h1 : 0 < k0) (h2 : k0 ≤ 50000000000) (hn : tw n xs ≤ 50000000000) :
    Calls Try.prog 43 #[v, .int .i64 k0] w fun e w' => e = .returned (.int .i64 ((kP k0 xs n : Nat) : Int)) ∧ OwnT w' lo hi v n (mkP k0 xs n) ∧ Mut lo hi w w' := by
  have hx := h.1
  have hr := h.rd
  obtain ⟨a, cap, rfl, hc, hm⟩ := hr.form
  subst hx
  have HB := hid (fun (j : Nat) (hj : j ≤ xs.length) => kP_le k0 xs j hj)
  have HT := hid (fun (j : Nat) => twP_le xs.length xs j)
  have hnl := tw_len xs.length xs
  go_enter Try.func43, Try.ntmps43
  go_wp2
  go_loopw [1, 5] (fun q i wr => ∃ k : Nat, k ≤ xs.length ∧ i = .int .i64 k ∧ q = .int .i64 ((kP k0 xs k : Nat) : Int) ∧ OwnT wr lo hi (.slice a xs.length cap) xs.length (mkP k0 xs k) ∧ Mut lo hi w wr) (fun _ i _ => xs.length - (intOf i).toNat)
  case atStart => exact ⟨0, Nat.zero_le _, rfl, by rw [kP_zero], h, Mut.refl _ _ _⟩
  case round =>
    obtain ⟨k, hk, rfl, rfl, ho, hb⟩ := hrel
    clear h hr
    have b1 := HB.out k hk
    have b2 := HT.out k
    by_cases hlt : k < xs.length
    · have hky : k < (mkP k0 xs k).length := by rw [mkP_len]; exact hlt
      have hyk : (mkP k0 xs k)[k] = xs[k] := by
        have e1 := mkP_get k0 xs k k hlt
        rw [if_neg (by omega), List.getElem?_eq_getElem hky] at e1
        injection e1
      obtain ⟨g, cp, s, q, hv, _, _, hgs, hgq, c1, c2, f2, os, hq1, hq2, hcl⟩ := ho.entry hky
      simp only [Value.slice.injEq, true_and] at hv
      obtain ⟨rfl, rfl⟩ := hv
      rw [hyk] at os c2 hcl
      obtain ⟨p0, q0, rfl, _⟩ := os.rd.form
      have HK := hid (kP_step k0 xs k hlt)
      have hkl : xs[k].1.length ≤ 100000000000 := by have := HB.out (k + 1) hlt; have := HT.out (k + 1); have := HK.out; omega
      have hk1 : 0 < kP k0 xs k := by unfold kP; omega
      have hk2 : kP k0 xs k ≤ 100000000000 := by omega
      have HS : Hid (mkP k0 xs (k + 1) = (mkP k0 xs k).set k (markOf (kP k0 xs k) xs[k].1.length)) := by rw [Hid, mkP, List.getElem?_eq_getElem hlt]; rfl
      generalize mkP k0 xs k = ys at *
      generalize xs[k] = e1 at *
      obtain ⟨ss, i⟩ := e1
      simp only at os c2 hcl hkl c1
      have C := hid (markStringS_c os hk1 hk2 (by omega))
      have HK' : Hid (kP k0 xs (k + 1) = kP k0 xs k + (ss.length + 1)) := HK
      have HS' : Hid (mkP k0 xs (k + 1) = ys.set k (markOf (kP k0 xs k) ss.length)) := HS
      clear HK HS ho os hyk hky
      generalize kP k0 xs k = K at *
      go_wp2_with fail
      refine C.out.mono ?_
      rintro e w1 ⟨rfl, o1, m1⟩
      rw [marks_of] at o1
      have hml := markOf_len K ss.length
      obtain ⟨r1, r2, r3, r4⟩ := hcl w1 (markOf K ss.length).1 ((K + ss.length : Nat) : Int) m1 (by rw [hml]; exact o1)
      have R1 : OwnT (w1.setCell ⟨g, k * 2 + 1, none⟩ (.int .i64 ((K + ss.length : Nat) : Int))) lo hi (.slice (some ⟨g, 0, none⟩) xs.length cap) xs.length (ys.set k (markOf K ss.length)) := r1
      have HR := hid R1
      have HM := hid (hb.trans r2)
      clear C hcl o1 m1 r1 r2 hb c1 c2 R1 f2 hml
      go_wp2
      go_roundw
      case rel => exact ⟨k + 1, by omega, by go_num, by rw [HK'.out]; go_num, by rw [HS'.out]; exact HR.out, HM.out⟩
      case measure => simp [intOf]; omega
    · have hkn : k = xs.length := by omega
      subst hkn
      go_wp2
      go_ret
      exact ⟨rfl, ho, hb⟩
set_option maxHeartbeats 1000000 in
theorem heldTableEntryS_c {w : World} {lo hi n : Nat} {v : Value} {xs : List (List ByteArray × Int)} {k0 : Nat} (h : RdT w lo hi v n (mkP k0 xs n)) (h1 : 0 < k0) (h2 : k0 ≤ 50000000000) (hn : tw n xs ≤ 50000000000) :
    Calls Try.prog 44 #[v, .int .i64 k0] w (Gives w fun r _ => r = .int .i64 ((kP k0 xs n : Nat) : Int)) := by
  have hx : xs.length = n := by have := h.1; rwa [mkP_len] at this
  obtain ⟨a, cap, rfl, hc, hm⟩ := h.form
  subst hx
  have HB := hid (fun (j : Nat) (hj : j ≤ xs.length) => kP_le k0 xs j hj)
  have HT := hid (fun (j : Nat) => twP_le xs.length xs j)
  have hnl := tw_len xs.length xs
  have HR := hid h
  clear h
  go_enter Try.func44, Try.ntmps44
  go_wp2
  go_loopw [1, 5] (fun q i wr => ∃ k : Nat, k ≤ xs.length ∧ i = .int .i64 k ∧ q = .int .i64 ((kP k0 xs k : Nat) : Int) ∧ Below w.heap.size w wr) (fun _ i _ => xs.length - (intOf i).toNat)
  case atStart => exact ⟨0, Nat.zero_le _, rfl, by rw [kP_zero], ext_refl _⟩
  case round =>
    obtain ⟨k, hk, rfl, rfl, hb⟩ := hrel
    have b1 := HB.out k hk
    have b2 := HT.out k
    by_cases hlt : k < xs.length
    · have hky : k < (mkP k0 xs xs.length).length := by rw [mkP_len]; exact hlt
      have hyk : (mkP k0 xs xs.length)[k] = markOf (kP k0 xs k) xs[k].1.length := by
        have e1 := mkP_get k0 xs xs.length k hlt
        rw [if_pos hlt, List.getElem?_eq_getElem hky] at e1
        injection e1
      obtain ⟨b, off, cp, s, hv, _, _, hbs, c1, c2, r1⟩ := (HR.out.ext hb).at_ hky
      simp only [Value.slice.injEq, true_and] at hv
      obtain ⟨rfl, rfl⟩ := hv
      rw [hyk] at c2 r1
      have HK := hid (kP_step k0 xs k hlt)
      have hkl : xs[k].1.length ≤ 100000000000 := by have := HB.out (k + 1) hlt; have := HT.out (k + 1); have := HK.out; omega
      have hk1 : 0 < kP k0 xs k := by unfold kP; omega
      have hk2 : kP k0 xs k ≤ 100000000000 := by omega
      generalize xs[k].1.length = L at *
      have HK' := HK
      rw [← marks_of, markOf_len] at r1
      replace c2 : wr.cell? ⟨b, off + k * 2 + 1, none⟩ = some (.int .i64 ((kP k0 xs k + L : Nat) : Int)) := c2
      obtain ⟨p0, q0, rfl, _⟩ := r1.form
      have C := hid (heldStringS_c r1 hk1 hk2 hkl)
      clear r1 hyk hky HK
      generalize kP k0 xs k = K at *
      go_wp2_with fail
      refine C.out.mono ?_
      rintro e w1 ⟨_, rfl, rfl, y1⟩
      have hb1 := ext_trans hb y1
      replace c2 := cell_ext c2 y1
      clear C y1 hb c1
      have n1 : decide (((K + L : Nat) : Int) < 0) = false := decide_eq_false (by omega)
      go_wp2
      go_roundw
      case rel => exact ⟨k + 1, by omega, by go_num, by rw [HK'.out]; go_num, hb1⟩
      case measure => simp [intOf]; omega
    · have hkn : k = xs.length := by omega
      subst hkn
      go_wp2
      go_ret
      exact gives_int rfl hb
end Go.Proofs.Ytcagbdidjakcpaa
