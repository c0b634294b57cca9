/- slices.Concat of ints, ComputeMAC, DeriveSecret, Encrypt and Decrypt of the program and of the reference. Conditions: the slices read as ints or bytes, and are of at most 2^32 elements. -/
import Derived.Test.YtiikpkkpacjamaaBti
import Derived.Lib.AppendZeros
namespace Go.Proofs.Ytiikpkkpacjamaa
open Go.RowKit
theorem growInt_c {w : World} {n : Nat} (hn : n ≤ 17592186044416) :
    Calls Try.prog 76 #[.slice none 0 0, .int .i64 n] w (Gives w fun r w' => Own w' w.heap.size w'.heap.size 3 1 r 0 []) := by
  obtain ⟨i0, hi0, hz0, hz1, hz2⟩ := info_parts info_int
  by_cases h0 : 0 < n
  · have hr := fun ty => Lib.run_append_nil_zeros (P := Try.prog) w 37 3 ty 3 i0 (.int .i64 0) .i64 .i64 Try.underlying37 Try.underlying3 hi0 hz0 n h0 (by omega) (by omega) (by rw [hz2]; omega)
    have hge := grownCap_ge w n 0 3
    have hle := grownCap_le_maxLen w n 0 3 (by unfold maxLen; omega)
    have hs : (Builtin.zeroCells (Value.int .i64 0).cells n ++ Builtin.zeroCells (Value.int .i64 0).cells (grownCap w n 0 3 - n)).size = grownCap w n 0 3 * 1 := by
      rw [Array.size_append, size_zeroCells, size_zeroCells]; show n * 1 + (grownCap w n 0 3 - n) * 1 = _; omega
    generalize Builtin.zeroCells (Value.int .i64 0).cells n ++ Builtin.zeroCells (Value.int .i64 0).cells (grownCap w n 0 3 - n) = cs at hr hs
    generalize grownCap w n 0 3 = g at hr hge hle hs
    have ho : Own (w.drew.alloc (.cells cs 3)) w.heap.size (w.drew.alloc (.cells cs 3)).heap.size 3 1 (.slice (some ⟨w.heap.size, 0, none⟩) 0 g) 0 [] :=
      ⟨rfl, .inr ⟨w.heap.size, g, cs, rfl, Nat.le_refl _, by simp, heap_alloc_new w.drew _, Nat.zero_le _, hle, hs, by simp⟩⟩
    have hx : Below w.heap.size w (w.drew.alloc (.cells cs 3)) := (Below.drew (Below.refl _ _)).alloc (Nat.le_refl _) _
    have hm : g ≤ 9223372036854775807 := by unfold maxLen at hle; omega
    have HS := hid hs
    clear hs hi0 hz0 hz1 hz2
    go_enter Try.func76, Try.ntmps76
    go_wp2_with (at_builtin; refine Lib.wpList_append_run _ rfl _ _ 37 3 rfl _ _ rfl rfl _ _ (hr _) ?_)
    clear hr
    go_wp2
    go_ret
    exact gives_of _ ho hx
  · have hn0 : n = 0 := by omega
    subst hn0
    clear hi0 hz0 hz1 hz2
    go_enter Try.func76, Try.ntmps76
    go_wp2
    go_ret
    exact gives_of (.slice none 0 0) (Own.none_ _ _ _ _ _ _) (ext_refl _)
/-- The lengths of the first k slices together; what they hold. -/
def tot (L : List (Value × List Int)) (k : Nat) : Nat := ((L.take k).map fun p => p.2.length).sum
def catL (L : List (Value × List Int)) (k : Nat) : List Int := (L.take k).flatMap fun p => p.2
def catP (L : List (Value × List Int)) (k : Nat) : List Value := (catL L k).map iv
theorem tot_step (L : List (Value × List Int)) (k : Nat) (h : k < L.length) : tot L (k + 1) = tot L k + L[k].2.length := by
  unfold tot; rw [List.take_succ_eq_append_getElem h]; simp only [List.map_append, List.sum_append, List.map_cons, List.map_nil, List.sum_cons, List.sum_nil, Nat.add_zero]
theorem tot_mono (L : List (Value × List Int)) (k : Nat) : tot L k ≤ tot L L.length := by
  unfold tot
  rw [List.take_length]
  have e := congrArg (fun l : List (Value × List Int) => (l.map fun p => p.2.length).sum) (List.take_append_drop k L)
  simp only [List.map_append, List.sum_append] at e
  omega
theorem catP_step (L : List (Value × List Int)) (k : Nat) (h : k < L.length) : catP L (k + 1) = catP L k ++ L[k].2.map iv := by
  unfold catP catL; rw [List.take_succ_eq_append_getElem h]; simp only [List.flatMap_append, List.map_append, List.flatMap_cons, List.flatMap_nil, List.append_nil]
set_option maxRecDepth 100000 in
set_option maxHeartbeats 1000000 in
theorem concatInt_c {w : World} {lo hi n : Nat} {v : Value} {L : List (Value × List Int)} (h : Rd w lo hi 1 v n (L.map fun p => p.1)) (hL : ∀ p ∈ L, ∃ lo hi, Rd w lo hi 1 p.1 p.2.length (p.2.map iv)) (hb : tot L n ≤ 17592186044416) :
    Calls Try.prog 70 #[v] w (Gives w fun r w' => Own w' w.heap.size w'.heap.size 3 1 r (tot L n) ((catL L n).map iv)) := by
  obtain ⟨hl, a, cap, rfl, hc, hm, hat⟩ := h
  rw [List.length_map, Nat.mul_one] at hl
  have H0 := hid hl
  have HB : Hid (∀ k, tot L k ≤ 17592186044416) := fun k => by
    have := tot_mono L k; rw [hl] at this; omega
  clear hl
  obtain ⟨i0, hi0, hz0, hz1, hz2⟩ := info_parts info_int
  have HL := hid hL
  clear hL
  go_enter Try.func70, Try.ntmps70
  go_wp2
  go_loop [3, 11] (fun s i => ∃ k : Nat, k ≤ n ∧ i = .int .i64 k ∧ s = .int .i64 (tot L k : Nat)) (fun _ i => n - (intOf i).toNat)
  case atStart => exact ⟨0, Nat.zero_le _, rfl, rfl⟩
  case round =>
    obtain ⟨k, hk, rfl, rfl⟩ := hrel
    by_cases hlt : k < n
    · obtain ⟨b, off, rfl, _, _, hbs, hcell⟩ := hat (by omega)
      have hkx : k < L.length := by rw [H0.out]; exact hlt
      have c1 : w.cell? ⟨b, off + k, none⟩ = some L[k].1 := hcell k _ (by simp [hkx])
      obtain ⟨lo1, hi1, r1⟩ := HL.out L[k] (List.getElem_mem hkx)
      obtain ⟨a1, cap1, hv, hn1⟩ := r1.form
      have HT := hid (tot_step L k hkx)
      have b1 := HB.out k
      have b2 := HB.out (k + 1)
      rw [HT.out] at b2
      clear hcell hat r1
      rw [hv] at c1
      clear hv
      generalize L[k].2.length = m at c1 hn1 HT b2
      generalize hs : tot L (k + 1) = t' at HT
      have HS := hid hs
      clear hs
      generalize tot L k = t at b1 b2 HT
      go_wp2
      go_round
      case rel => exact ⟨k + 1, by omega, by go_num, by rw [HS.out, HT.out]; go_num⟩
      case measure => simp [intOf]; omega
    · have hkn : k = n := by omega
      subst hkn
      have b1 := HB.out k
      go_wp2_with fail
      refine (growInt_c b1).mono ?_
      rintro e w1 ⟨v1, rfl, o1, y1⟩
      go_wp2
      go_loopw [6, 27] (fun u i wr => ∃ j : Nat, j ≤ k ∧ i = .int .i64 j ∧ Own wr w.heap.size wr.heap.size 3 1 u (tot L j) (catP L j) ∧ Below w.heap.size w wr) (fun _ i _ => k - (intOf i).toNat)
      case atStart => exact ⟨0, Nat.zero_le _, rfl, o1, y1⟩
      case round =>
        obtain ⟨j, hj, rfl, ho, hbw⟩ := hrel
        clear o1 y1
        by_cases hlt2 : j < k
        · obtain ⟨b, off, rfl, _, _, hbs, hcell⟩ := hat (by omega)
          have hkx : j < L.length := by rw [H0.out]; exact hlt2
          have c1 : wr.cell? ⟨b, off + j, none⟩ = some L[j].1 := (hbw.cell (by exact hbs)).trans (hcell j _ (by simp [hkx]))
          obtain ⟨lo1, hi1, r1⟩ := HL.out L[j] (List.getElem_mem hkx)
          obtain ⟨a1, cap1, hv, hn1⟩ := r1.form
          have r2 := r1.ext hbw
          have HT := hid (tot_step L j hkx)
          have HC := hid (catP_step L j hkx)
          have b2 := HB.out (j + 1)
          rw [HT.out] at b2
          have hsz := hbw.size
          clear hcell hat r1
          rw [hv] at c1 r2
          clear hv
          go_wp2_with (at_builtin; refine wpList_append_Own rfl _ _ 37 rfl 3 i0 (.int .i64 0) 1 8 Try.underlying37 hi0 hz0 hz1 hz2 rfl (by decide) rfl ho rfl r2 (iv_one _) (by omega) (by omega) hsz ?_)
          intro v' w' ho2 hmu
          have x := hmu.ext hbw (Nat.le_refl _)
          rw [← HC.out, ← HT.out] at ho2
          clear hmu ho r2 c1 b2
          go_wp2
          go_roundw
          case rel => exact ⟨j + 1, by omega, by go_num, ho2, x⟩
          case measure => simp [intOf]; omega
        · have hjk : j = k := by omega
          subst hjk
          go_wp2
          go_ret
          exact gives_of _ ho hbw

/-! ### ComputeMAC -/
def mac (s : Int) (l : List Int) : Int := dg (s :: l ++ [s])
theorem mac_bd (s : Int) (l : List Int) : 0 ≤ mac s l ∧ mac s l < 2147483647 := dg_bd _
theorem specComputeMAC_c {w : World} {lo hi n : Nat} {v : Value} {s : Int} {xs : List Int} (h : Rd w lo hi 1 v n (xs.map iv)) (hn : n ≤ 4294967296) :
    Calls Try.prog 37 #[.int .i64 s, v] w (Gives w fun r _ => r = .int .i64 (mac s xs)) := by
  obtain ⟨i0, hi0, hz0, hz1, hz2⟩ := info_parts info_int
  obtain ⟨a, cap, rfl, hm⟩ := h.form
  have o0 := Own.new w #[.int .i64 s] 3 1 1 (by decide) rfl
  have r0 := h.ext (ext_alloc (ext_refl w) (.cells #[.int .i64 s] 3))
  go_enter Try.func37, Try.ntmps37
  go_wp2_with (at_builtin; refine wpList_append_Own rfl (.tmp 6) (.tmp 7) 37 rfl 3 i0 (.int .i64 0) 1 8 Try.underlying37 hi0 hz0 hz1 hz2 rfl (by decide) rfl o0 rfl r0 (iv_one _) (by omega) (by omega) (by simp) ?_)
  intro v1 w1 o1 m1
  have x1 := m1.ext (ext_alloc (ext_refl w) (.cells #[.int .i64 s] 3)) (Nat.le_refl _)
  have hs1 := x1.size
  obtain ⟨zs, ho1, hz⟩ : ∃ zs, Own w1 w.heap.size w1.heap.size 3 1 v1 (1 + n) zs ∧ Hid (zs = .int .i64 s :: xs.map iv) := ⟨_, o1, rfl⟩
  have o1' := ho1.ext (ext_alloc (ext_refl w1) (.cells #[.int .i64 s] 3))
  have hr := Rd.new w1 [.int .i64 s] 3 1 1 (by decide) rfl
  clear o1 ho1 m1 r0 o0 h
  go_wp2_with (at_builtin; refine wpList_append_Own rfl (.tmp 8) (.tmp 10) 37 rfl 3 i0 (.int .i64 0) 1 8 Try.underlying37 hi0 hz0 hz1 hz2 rfl (by decide) rfl o1' rfl hr (by simp; rfl) (by omega) (by omega) (by simp; omega) ?_)
  intro v2 w2 o2 m2
  have x2 := m2.ext (ext_alloc x1 (.cells #[.int .i64 s] 3)) (Nat.le_refl _)
  have o3 : Own w2 w.heap.size w2.heap.size 3 1 v2 (1 + n + 1) ((s :: xs ++ [s]).map iv) := by rw [hz.out] at o2; simpa [iv] using o2
  clear o2 m2 o1' hr hs1
  go_wp2_with fail
  refine (specDigest_c o3.rd).mono ?_
  rintro e w3 ⟨_, rfl, rfl, x3⟩
  go_wp2
  go_ret
  exact gives_int rfl (ext_trans x2 x3)
theorem implComputeMAC_c {w : World} {lo hi n : Nat} {v : Value} {s : Int} {xs : List Int} (h : Rd w lo hi 1 v n (xs.map iv)) (hn : n ≤ 4294967296) :
    Calls Try.prog 36 #[.int .i64 s, v] w (Gives w fun r _ => r = .int .i64 (mac s xs)) := by
  have hxl : n = xs.length := by have := h.1; simpa using this.symm
  obtain ⟨a, cap, rfl, hm⟩ := h.form
  subst hxl
  have e1 := ext_alloc (ext_refl w) (.cells #[.int .i64 s] 3)
  have e2 := ext_alloc e1 (.cells #[.int .i64 s] 3)
  have e3 := ext_alloc e2 (.cells #[.slice (some ⟨w.heap.size, 0, none⟩) 1 1, .slice a xs.length cap, .slice (some ⟨w.heap.size + 1, 0, none⟩) 1 1] 37)
  have p1 : ∃ lo hi, Rd (((w.alloc (.cells #[.int .i64 s] 3)).alloc (.cells #[.int .i64 s] 3)).alloc (.cells #[.slice (some ⟨w.heap.size, 0, none⟩) 1 1, .slice a xs.length cap, .slice (some ⟨w.heap.size + 1, 0, none⟩) 1 1] 37)) lo hi 1 (.slice (some ⟨w.heap.size, 0, none⟩) 1 1) [s].length ([s].map iv) :=
    ⟨_, _, ((Rd.new w [.int .i64 s] 3 1 1 (by decide) rfl).ext (ext_alloc (ext_refl _) _)).ext (ext_alloc (ext_refl _) _)⟩
  have p2 : ∃ lo hi, Rd (((w.alloc (.cells #[.int .i64 s] 3)).alloc (.cells #[.int .i64 s] 3)).alloc (.cells #[.slice (some ⟨w.heap.size, 0, none⟩) 1 1, .slice a xs.length cap, .slice (some ⟨w.heap.size + 1, 0, none⟩) 1 1] 37)) lo hi 1 (.slice a xs.length cap) xs.length (xs.map iv) := ⟨_, _, h.ext e3⟩
  have p3 : ∃ lo hi, Rd (((w.alloc (.cells #[.int .i64 s] 3)).alloc (.cells #[.int .i64 s] 3)).alloc (.cells #[.slice (some ⟨w.heap.size, 0, none⟩) 1 1, .slice a xs.length cap, .slice (some ⟨w.heap.size + 1, 0, none⟩) 1 1] 37)) lo hi 1 (.slice (some ⟨w.heap.size + 1, 0, none⟩) 1 1) [s].length ([s].map iv) := by
    have := (Rd.new (w.alloc (.cells #[.int .i64 s] 3)) [.int .i64 s] 3 1 1 (by decide) rfl).ext (ext_alloc (ext_refl _) (.cells #[.slice (some ⟨w.heap.size, 0, none⟩) 1 1, .slice a xs.length cap, .slice (some ⟨w.heap.size + 1, 0, none⟩) 1 1] 37))
    rw [show (w.alloc (.cells #[.int .i64 s] 3)).heap.size = w.heap.size + 1 by simp] at this
    exact ⟨_, _, this⟩
  have p0 := Rd.new ((w.alloc (.cells #[.int .i64 s] 3)).alloc (.cells #[.int .i64 s] 3)) [.slice (some ⟨w.heap.size, 0, none⟩) 1 1, .slice a xs.length cap, .slice (some ⟨w.heap.size + 1, 0, none⟩) 1 1] 37 1 3 (by decide) rfl
  rw [show ((w.alloc (.cells #[.int .i64 s] 3)).alloc (.cells #[.int .i64 s] 3)).heap.size = w.heap.size + 2 by simp] at p0
  have hL : ∀ p ∈ [((.slice (some ⟨w.heap.size, 0, none⟩) 1 1 : Value), [s]), (.slice a xs.length cap, xs), (.slice (some ⟨w.heap.size + 1, 0, none⟩) 1 1, [s])], ∃ lo hi, Rd (((w.alloc (.cells #[.int .i64 s] 3)).alloc (.cells #[.int .i64 s] 3)).alloc (.cells #[.slice (some ⟨w.heap.size, 0, none⟩) 1 1, .slice a xs.length cap, .slice (some ⟨w.heap.size + 1, 0, none⟩) 1 1] 37)) lo hi 1 p.1 p.2.length (p.2.map iv) := by
    intro p hp
    simp only [List.mem_cons, List.not_mem_nil, or_false] at hp
    rcases hp with rfl | rfl | rfl
    · exact p1
    · exact p2
    · exact p3
  have ht : tot [((.slice (some ⟨w.heap.size, 0, none⟩) 1 1 : Value), [s]), (.slice a xs.length cap, xs), (.slice (some ⟨w.heap.size + 1, 0, none⟩) 1 1, [s])] 3 ≤ 17592186044416 := by simp [tot]; omega
  have C := concatInt_c (L := [((.slice (some ⟨w.heap.size, 0, none⟩) 1 1 : Value), [s]), (.slice a xs.length cap, xs), (.slice (some ⟨w.heap.size + 1, 0, none⟩) 1 1, [s])]) p0 hL ht
  have HC := hid (show catL [((.slice (some ⟨w.heap.size, 0, none⟩) 1 1 : Value), [s]), (.slice a xs.length cap, xs), (.slice (some ⟨w.heap.size + 1, 0, none⟩) 1 1, [s])] 3 = s :: xs ++ [s] by simp [catL])
  have CH := hid C
  clear C hL ht p0 p1 p2 p3 e1 e2 h
  go_enter Try.func36, Try.ntmps36
  go_wp2_with fail
  refine CH.out.mono ?_
  rintro e w1 ⟨v1, rfl, o1, y1⟩
  rw [HC.out] at o1
  have x1 := ext_trans e3 y1
  clear e3 y1 CH HC
  go_wp2_with fail
  refine (implDigest_c o1.rd).mono ?_
  rintro e w3 ⟨_, rfl, rfl, x3⟩
  go_wp2
  go_ret
  exact gives_int rfl (ext_trans x1 x3)
end Go.Proofs.Ytiikpkkpacjamaa
