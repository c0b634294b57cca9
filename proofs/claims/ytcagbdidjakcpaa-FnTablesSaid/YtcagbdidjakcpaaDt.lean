/- Tables that the reference draws (l6Draw): their shape and their size. Condition: the cursor lies in a block of its own and reads its bytes. -/
import Derived.Test.YtcagbdidjakcpaaDy
import Derived.Test.YtcagbdidjakcpaaTabS
set_option linter.unusedVariables false
namespace Go.Proofs.Ytcagbdidjakcpaa
open Go.RowKit
theorem sum_le (l : List Nat) (B : Nat) (h : ∀ x ∈ l, x ≤ B) : l.sum ≤ l.length * B := by
  induction l with
  | nil => simp
  | cons a l ih =>
    have h1 := h a (List.mem_cons_self ..)
    have h2 := ih fun x hx => h x (List.mem_cons_of_mem _ hx)
    rw [List.sum_cons, List.length_cons, Nat.succ_mul]
    omega
theorem wt_small {ss : List ByteArray} (h : Small 7 ss) : wt ss ≤ 119 := by
  unfold wt wtP
  rw [List.take_length]
  have h1 := sum_le (ss.map fun s => s.size) 16 (by intro x hx; obtain ⟨s, hs, rfl⟩ := List.mem_map.1 hx; exact h.2 s hs)
  rw [List.length_map] at h1
  have := h.1
  omega
/-- Entries with small names. -/
def TS (xs : List (List ByteArray × Int)) : Prop := ∀ e ∈ xs, Small 7 e.1
theorem TS.sizes {xs : List (List ByteArray × Int)} (h : TS xs) : ∀ e ∈ xs, ∀ s ∈ e.1, s.size ≤ 9223372036854775807 := fun e he s hs => by have := (h e he).2 s hs; omega
theorem TS.tw {xs : List (List ByteArray × Int)} (h : TS xs) : tw xs.length xs ≤ xs.length * 120 := by
  rw [twS]
  have h1 := sum_le (xs.map fun e => wt e.1) 119 (by intro x hx; obtain ⟨e, he, rfl⟩ := List.mem_map.1 hx; exact wt_small (h e he))
  rw [List.length_map] at h1
  omega
theorem Small.up {M N : Nat} {ss : List ByteArray} (h : Small M ss) (hMN : M ≤ N) : Small N ss := ⟨Nat.le_trans h.1 hMN, h.2⟩
theorem TS.pe {xs : List (List ByteArray × Int)} {key : List ByteArray} {z : Int} (h : TS xs) (hk : Small 7 key) : TS (Go.Proofs.Ytcagbdidjakcpaa.pe xs key z).1 := by
  unfold Go.Proofs.Ytcagbdidjakcpaa.pe
  split
  · intro e he
    simp only at he
    unfold peY at he
    split at he
    · rcases List.mem_append.1 he with he | he
      · exact h e (List.mem_of_mem_take he)
      · rcases List.mem_cons.1 he with rfl | he
        · exact hk
        · exact h e (List.mem_of_mem_drop he)
    · rcases List.mem_or_eq_of_mem_set he with he | rfl
      · exact h e he
      · exact hk
  · exact h
theorem pe_len (xs : List (List ByteArray × Int)) (key : List ByteArray) (z : Int) : (pe xs key z).1.length ≤ xs.length + 1 := by
  unfold pe
  split
  · exact peY_len xs key z
  · simp only; omega
set_option maxRecDepth 100000 in
set_option maxHeartbeats 4000000 in
theorem l6Draw_c {w : World} {c lo hi n : Nat} {cv : Value} {xs : List UInt8} (hc : CurAt w c cv n) (hr : Rd w lo hi 1 cv n (xs.map bv)) (hd : c < lo ∨ hi ≤ c) (hhi : hi ≤ w.heap.size) (hcs : c < w.heap.size) :
    Calls Try.prog 131 #[.pointer (some ⟨c, 0, none⟩)] w fun e w' => ∃ (r : Value) (ts : List (List ByteArray × Int)), e = .returned r ∧ OwnT w' w.heap.size w'.heap.size r ts.length ts ∧ ts.length ≤ 6 ∧ TS ts ∧ CurAt w' c cv n ∧ Mut c (c + 1) w w' := by
  have y0 := ext_alloc (ext_refl w) (.cells #[] 80)
  have he : (w.alloc (.cells #[] 80)).heap.size = w.heap.size + 1 := by simp
  have oe := OwnT.none_ (w.alloc (.cells #[] 80)) w.heap.size (w.heap.size + 1) (Nat.le_refl _) (Nat.le_refl _) (heap_alloc_new w _)
  have M0 := Mut.of_ext (lo := c) (hi := c + 1) y0
  have s0 := y0.size
  replace hc := hc.ext y0
  replace hr := hr.ext y0
  have HR := hid hr
  have C := hid (l1Below_c (m := 7) hc hr hd (by omega))
  clear hc y0
  obtain ⟨W, hW⟩ : ∃ W, W = w.alloc (.cells #[] 80) := ⟨_, rfl⟩
  rw [← hW] at hr M0 s0 HR C oe he
  go_enter Try.func131, Try.ntmps131
  go_wp2_with fail
  rw [← hW]
  clear hW
  refine C.out.mono ?_
  clear C
  rintro e w1 ⟨x, rfl, x0, x1, hc, m1⟩
  have s1 := m1.size
  have M := M0.trans m1
  have o1 := (oe.mut m1 (by omega)).mono (Nat.le_refl w.heap.size) (show w.heap.size + 1 ≤ w1.heap.size by omega)
  have hr1 := hr.mut m1 (by omega)
  have HR1 := hid hr1
  have hx : x ≤ 6 := by omega
  obtain ⟨kx, rfl⟩ := Int.eq_ofNat_of_zero_le x0
  clear m1 oe M0 hr hr1 HR he
  go_wp2
  go_loopw [3, 4] (fun u i wr => ∃ (k : Nat) (ts : List (List ByteArray × Int)), k ≤ kx ∧ ts.length + k ≤ kx ∧ i = .int .i64 k ∧ OwnT wr w.heap.size wr.heap.size u ts.length ts ∧ Hid (TS ts) ∧ CurAt wr c cv n ∧ w1.heap.size ≤ wr.heap.size ∧ Hid (∀ V, Mut c (c + 1) wr V → Rd V lo hi 1 cv n (xs.map bv)) ∧ Mut c (c + 1) w wr) (fun _ i _ => (intOf i).toNat)
  case atStart => exact ⟨kx, [], Nat.le_refl _, by simp, rfl, o1, hid (fun e he => by cases he), hc, Nat.le_refl _, hid (fun V q => HR1.out.mut q (by omega)), M⟩
  case round =>
    obtain ⟨k, ts, hk, hl, rfl, o1', hts, hc', hsz, HRr, M'⟩ := hrel
    clear hc M o1
    obtain ⟨a1, c1, rfl, _⟩ := o1'.rd.form
    have hr := HRr.out wr (Mut.refl _ _ _)
    by_cases hlt : 0 < k
    · have hlt1 : (0 : Int) < (k : Int) := by omega
      have C := hid (l4Name_c hc' hr hd (by omega) (by omega))
      clear hc'
      go_wp2_with fail
      refine C.out.mono ?_
      clear C
      rintro e w2 ⟨_, ss, rfl, ⟨s9, rfl, o9⟩, hsm, hc2, m2⟩
      obtain ⟨a9, c9, rfl, _⟩ := o9.rd.form
      have s2 := m2.size
      have M2 := M'.trans m2
      have o2 := o1'.mut m2 (by omega)
      have HR2 := hid (fun (V : World) (q : Mut c (c + 1) w2 V) => HRr.out V (m2.trans q))
      have y2 := ext_alloc (ext_refl w2) (.cells #[.slice a9 ss.length c9] 26)
      obtain ⟨w3, hV⟩ : ∃ V, V = w2.alloc (.cells #[.slice a9 ss.length c9] 26) := ⟨_, rfl⟩
      have cT : w3.cell? ⟨w2.heap.size, 0, none⟩ = some (.slice a9 ss.length c9) := by rw [hV]; simp
      have hVs : w3.heap.size = w2.heap.size + 1 := by rw [hV]; simp
      rw [← hV] at y2
      have yd : Below w3.heap.size w3 w3.drew := Below.drew (ext_refl _)
      have Md := Mut.of_ext (lo := c) (hi := c + 1) (ext_trans y2 yd)
      have CS := hid (l1Below_c (m := 9) ((hc2.ext y2).ext yd) (HR2.out _ Md) hd (by omega))
      have cd := cell_ext cT yd
      have HT := hid (fun (V : World) (q : Mut c (c + 1) w3.drew V) => ((o2.ext y2).ext yd).mut q (by omega))
      have HN := hid (fun (V : World) (q : Mut c (c + 1) w3.drew V) => ((o9.ext y2).ext yd).mut q (by omega))
      have HRr2 := hid (fun (V : World) (q : Mut c (c + 1) w3.drew V) => HR2.out V (Md.trans q))
      have M3 := M2.trans Md
      have qb := yd.size
      have htw := hts.out.tw
      have HSZ := hid hts.out.sizes
      have HKS := hid (fun s (hs : s ∈ ss) => (show s.size ≤ 9223372036854775807 by have := hsm.2 s hs; omega))
      have hsl := hsm.1
      clear hc2 o1' o2 o9 y2 yd m2 M2 M' HR2 HRr hr Md cT
      go_wp2_with fail
      rw [← hV]
      clear hV
      go_region_law (first
        | (go_simp; go_at_call 108; refine CS.out.mono ?_; rintro e w4 ⟨z, rfl, z0, z1, hc4, m4⟩; have q4 := m4.size; have cd4 := cell_mut cd m4 (.inr (by simp only; omega)); have r4 := (HT.out w4 m4).rd; have n4 := (HN.out w4 m4).rd)
        | (go_simp; go_at_call 39; refine (specPutEntry_c (z := z) r4 ⟨_, rfl, n4⟩ (by omega) (by omega) (by omega) HSZ.out HKS.out (by omega) (by omega)).mono ?_; rintro e w5 ⟨_, rfl, ⟨u5, rfl, o5⟩, y5⟩))
      all_goals
        have q5 := y5.size
        have hpl := pe_len ts ss z
        have HTS := hid (hts.out.pe (z := z) (hsm.up (by decide)))
        have HO := hid (o5.mono (show w.heap.size ≤ w4.heap.size by omega) (Nat.le_refl _))
        have HC := hid (hc4.ext y5)
        have HRv := hid (fun (V : World) (q : Mut c (c + 1) w5 V) => HRr2.out V (m4.trans ((Mut.of_ext y5).trans q)))
        have HM := hid ((M3.trans m4).trans (Mut.of_ext y5))
        obtain ⟨j, rfl⟩ : ∃ j, k = j + 1 := ⟨k - 1, by omega⟩
        generalize (pe ts ss z).1 = ts' at *
        clear o5 hc4 y5 m4 M3 HRr2 CS cd cd4 r4 n4 HT HN
        go_wp2
        go_roundw
        case rel => exact ⟨j, ts', by omega, by omega, (by first | rfl | go_num), HO.out, HTS, HC.out, by omega, HRv, HM.out⟩
        case measure => simp [intOf]
    · have hk0 : k = 0 := by omega
      subst hk0
      go_wp2
      go_ret
      exact ⟨_, ts, rfl, o1', by omega, hts.out, hc', M'⟩
end Go.Proofs.Ytcagbdidjakcpaa
