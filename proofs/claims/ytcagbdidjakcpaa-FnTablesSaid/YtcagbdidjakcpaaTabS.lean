/- PutEntry by the reference. Conditions: the values read as a table and a name; they are not too long. -/
import Derived.Test.YtcagbdidjakcpaaTabI
set_option linter.unusedVariables false
namespace Go.Proofs.Ytcagbdidjakcpaa
open Go.RowKit
theorem take2 {w : World} {lo hi n k cap : Nat} {a : Option Addr} {xs : List Value} (h : Rd w lo hi 2 (.slice a n cap) n xs) (hk : k ≤ n) : Rd w lo hi 2 (.slice a k cap) k (xs.take (k * 2)) := by
  obtain ⟨h1, a', cap', e, h2, h3, h4⟩ := h
  simp only [Value.slice.injEq, true_and] at e
  obtain ⟨rfl, rfl⟩ := e
  refine ⟨by rw [List.length_take]; omega, a, cap, rfl, by omega, h3, fun hn => ?_⟩
  obtain ⟨b, off, hb, hl, hh, hbs, hc⟩ := h4 (by omega)
  exact ⟨b, off, hb, hl, hh, hbs, fun j u hu => hc j u (by rw [List.getElem?_take] at hu; split at hu; exact hu; cases hu)⟩
theorem drop2 {w : World} {lo hi n k cap b off : Nat} {xs : List Value} (h : Rd w lo hi 2 (.slice (some ⟨b, off, none⟩) n cap) n xs) (hk : k < n) : Rd w lo hi 2 (.slice (some ⟨b, off + k * 2, none⟩) (n - k) (cap - k)) (n - k) (xs.drop (k * 2)) := by
  obtain ⟨h1, a', cap', e, h2, h3, h4⟩ := h
  simp only [Value.slice.injEq, true_and] at e
  obtain ⟨rfl, rfl⟩ := e
  refine ⟨by rw [List.length_drop]; omega, _, cap - k, rfl, by omega, by omega, fun hn => ?_⟩
  obtain ⟨b', off', hb, hl, hh, hbs, hc⟩ := h4 (by omega)
  simp only [Option.some.injEq, Addr.mk.injEq, and_true] at hb
  obtain ⟨rfl, rfl⟩ := hb
  exact ⟨b, off + k * 2, rfl, hl, hh, hbs, fun j u hu => by rw [Nat.add_assoc]; exact hc _ u (by rwa [List.getElem?_drop] at hu)⟩
theorem OwnT.ofIns {w w' : World} {lo q r lo3 n k : Nat} {v s : Value} {cs : List Value} {pp : Nat → Nat × Nat} {xs : List (List ByteArray × Int)} {ss : List ByteArray} {i : Int} (hin : Inn w lo r (cs.take (k * 2) ++ [s, .int .i64 i] ++ cs.drop (k * 2)) (pIns pp k (q, r)) (xs.take k ++ (ss, i) :: xs.drop k) (n + 1)) (hx : xs.length = n) (hk : k ≤ n) (x : Below w.heap.size w w')
    (ho : Own w' lo3 w'.heap.size 80 2 v (n + 1) (cs.take (k * 2) ++ [s, .int .i64 i] ++ cs.drop (k * 2))) (hpj : ∀ j, j < n → (pp j).2 ≤ lo3) (hr : r ≤ lo3) (hl : lo ≤ lo3) (hrw : r ≤ w'.heap.size) : OwnT w' lo w'.heap.size v (n + 1) (xs.take k ++ (ss, i) :: xs.drop k) := by
  refine ⟨by rw [ins_len _ _ _ (by omega), hx], _, (lo3, w'.heap.size), _, ho, hl, Nat.le_refl _, (hin.ext x).mono (Nat.le_refl _) hrw, fun j hj => ?_⟩
  unfold pIns
  by_cases g1 : j < k
  · rw [if_pos g1]; exact .inr (by have := hpj j (by omega); simp only; omega)
  · rw [if_neg g1]
    by_cases g2 : j = k
    · rw [if_pos g2]; exact .inr (by simp only; omega)
    · rw [if_neg g2]; exact .inr (by have := hpj (j - 1) (by omega); simp only; omega)
set_option maxRecDepth 100000 in
set_option maxHeartbeats 8000000 in
theorem specPutEntry_c {w : World} {lo hi lo' hi' n m : Nat} {v v' : Value} {xs : List (List ByteArray × Int)} {key : List ByteArray} {z : Int} (h : RdT w lo hi v n xs) (h' : RdN w lo' hi' v' m (key.map sv)) (hn : n ≤ 1099511627775) (hw : tw n xs ≤ 1099511627776) (hm : m ≤ 1099511627776)
    (hs : ∀ e ∈ xs, ∀ s ∈ e.1, s.size ≤ 9223372036854775807) (hk : ∀ s ∈ key, s.size ≤ 9223372036854775807) (hhi : hi ≤ w.heap.size) (hhi' : hi' ≤ w.heap.size) :
    Calls Try.prog 39 #[v, v', .int .i64 z] w (Gives w fun r w' => ∃ u, r = .tuple #[u, .bool (pe xs key z).2] ∧ OwnT w' w.heap.size w'.heap.size u (pe xs key z).1.length (pe xs key z).1) := by
  obtain ⟨p, rfl, h'⟩ := h'
  have hml : m = key.length := by have := h'.1; rw [List.length_map] at this; omega
  subst hml
  have HSZ := hid (pe_size (v := z) hs hk)
  have HWT := hid hw
  have hxl := h.1
  clear hs hk hw
  obtain ⟨W0, hW⟩ : ∃ W, W = w.alloc (.cells #[p] 26) := ⟨_, rfl⟩
  have X : Below w.heap.size w W0 := by rw [hW]; exact ext_alloc (ext_refl w) _
  have s0 := X.size
  have cP : W0.cell? ⟨w.heap.size, 0, none⟩ = some p := by rw [hW]; simp
  have r0 := h.ext X
  have r1 := h'.ext X
  obtain ⟨a, cap, rfl, hc, hcm⟩ := h.form
  clear h h'
  have C := hid (l6Copy_c r0 (by omega) HWT.out)
  go_enter Try.func39, Try.ntmps39
  go_wp2_with fail
  rw [← hW]
  clear hW
  refine C.out.mono ?_
  clear C
  rintro e w1 ⟨u1, rfl, o1, y1⟩
  rw [hxl] at o1
  have s1 := y1.size
  replace r0 := r0.ext y1
  replace r1 := r1.ext y1
  replace cP := cell_ext cP y1
  replace X := ext_trans X y1
  clear y1
  have C := hid (l6Find_c r0 (show RdN w1 lo' hi' (.agg #[p]) key.length (key.map sv) from ⟨p, rfl, r1⟩))
  go_wp2_with fail
  refine C.out.mono ?_
  clear C
  rintro e w2 ⟨_, rfl, ⟨j, rfl, hj, hjb⟩, y2⟩
  have s2 := y2.size
  replace r0 := r0.ext y2
  replace r1 := r1.ext y2
  replace cP := cell_ext cP y2
  replace X := ext_trans X y2
  replace o1 := o1.ext y2
  clear y2
  rcases hjb with rfl | ⟨hj0, hjn⟩
  · obtain ⟨ua, uc, hu1, huc, hucm⟩ := o1.rd.form
    subst hu1
    have HO := hid o1
    have HR0 := hid r0
    have HR1 := hid r1
    have HX := hid X
    clear o1 r0 r1 X
    go_wp2_with fail
    go_loopw [9] (fun i wr => ∃ k : Nat, k ≤ n ∧ i = .int .i64 k ∧ Hid (pls xs key = k + pls (xs.drop k) key) ∧ Below w2.heap.size w2 wr) (fun i _ => n - (intOf i).toNat)
    case atStart => exact ⟨0, Nat.zero_le _, rfl, hid (by simp), ext_refl _⟩
    case round =>
      obtain ⟨k, hk, rfl, hp, hb⟩ := hrel
      have yd := Below.drew hb
      have rp := HR1.out.ext yd
      have cp1 := cell_ext cP yd
      by_cases hlt : k < n
      · have hkx : k < xs.length := by omega
        have hlt2 : (k : Int) < (n : Int) := by omega
        have i0 : (0 : Int) ≤ (k : Int) := by omega
        obtain ⟨b, off, cp, s0', hv, _, _, hbs, c0, e0, q0⟩ := (HO.out.rd.ext yd).at_ hkx
        simp only [Value.slice.injEq, true_and] at hv
        obtain ⟨rfl, rfl⟩ := hv
        obtain ⟨p0, q9, rfl, _⟩ := q0.form
        have HST := hid (pls_step (key := key) hkx)
        have HSP := hid (pls_stop (key := key) hkx)
        have C0 := hid (fun (V : World) (q1 : Rd V lo' hi' 1 p key.length (key.map sv)) (q2 : Rd V W0.heap.size w1.heap.size 1 (.slice p0 xs[k].1.length q9) xs[k].1.length (xs[k].1.map sv)) => specCompareNames_c (xs := xs[k].1) ⟨_, rfl, q2⟩ ⟨p, rfl, q1⟩)
        clear e0
        generalize xs[k].1 = ss at *
        generalize cn ss key = cc at C0 HST HSP
        by_cases hcc : cc < 0
        · have HQ := hid (show pls xs key = (k + 1) + pls (xs.drop (k + 1)) key by have h8 := hp.out; rw [HST.out hcc] at h8; omega)
          clear HST HSP hp
          go_wp2_with fail
          refine wp_region_held_drew (S := fun w' => w'.cell? ⟨w.heap.size, 0, none⟩ = some p ∧ w'.cell? ⟨b, off + k * 2, none⟩ = some (.slice p0 ss.length q9)) (by kernel_rfl) (by exact ⟨cp1, c0⟩) (fun hHeld => ?_)
          refine wpAnyH_take (i := 0) (v := ?v1) rfl (by kernel_rfl) (by kernel_rfl) (by kernel_rfl) (fun _ _ _ h => h) (Or.inl ⟨by kernel_rfl, ?hy1⟩) hHeld ?rest1
          case hy1 =>
            intro w hSw
            (try dsimp only at hSw)
            go_simp
            try with_reducible rfl
          simp only [Act.put, List.getElem_toArray, List.getElem_cons_zero, List.setIfInBounds_toArray, List.set_cons_zero, List.set_cons_succ]
          refine wpAnyH_take (i := 1) (v := ?v2) rfl (by kernel_rfl) (by kernel_rfl) (by kernel_rfl) (fun _ _ _ h => h) (Or.inl ⟨by kernel_rfl, ?hy2⟩) hHeld ?rest2
          case hy2 =>
            intro w hSw
            (try dsimp only at hSw)
            go_simp
            try with_reducible rfl
          simp only [Act.put, List.getElem_toArray, List.getElem_cons_succ, List.getElem_cons_zero, List.setIfInBounds_toArray, List.set_cons_zero, List.set_cons_succ]
          refine wpAnyH_take (i := 2) (v := ?v3) rfl (by kernel_rfl) (by kernel_rfl) (by kernel_rfl) (fun _ _ _ h => h) (Or.inl ⟨by kernel_rfl, ?hy3⟩) hHeld ?rest3
          case hy3 =>
            intro w hSw
            (try dsimp only at hSw)
            go_simp
            try with_reducible rfl
          simp only [Act.put, List.getElem_toArray, List.getElem_cons_succ, List.getElem_cons_zero, List.setIfInBounds_toArray, List.set_cons_zero, List.set_cons_succ]
          refine wpAnyH_take (i := 3) (v := ?v4) rfl (by kernel_rfl) (by kernel_rfl) (by kernel_rfl) (fun _ _ _ h => h) (Or.inl ⟨by kernel_rfl, ?hy4⟩) hHeld ?rest4
          case hy4 =>
            intro w hSw
            (try dsimp only at hSw)
            go_simp
            try with_reducible rfl
          simp only [Act.put, List.getElem_toArray, List.getElem_cons_succ, List.getElem_cons_zero, List.setIfInBounds_toArray, List.set_cons_zero, List.set_cons_succ]
          refine wpAnyH_take (i := 4) (v := ?v5) rfl (by kernel_rfl) (by kernel_rfl) (by kernel_rfl) (fun _ _ _ h => h) (Or.inl ⟨by kernel_rfl, ?hy5⟩) hHeld ?rest5
          case hy5 =>
            intro w hSw
            (try dsimp only at hSw)
            go_simp
            try with_reducible rfl
          simp only [Act.put, List.getElem_toArray, List.getElem_cons_succ, List.getElem_cons_zero, List.setIfInBounds_toArray, List.set_cons_zero, List.set_cons_succ]
          refine wpAnyH_take (i := 5) (v := ?v6) rfl (by kernel_rfl) (by kernel_rfl) (by kernel_rfl) (fun _ _ _ h => h) (Or.inl ⟨by kernel_rfl, ?hy6⟩) hHeld ?rest6
          case hy6 =>
            intro w hSw
            (try dsimp only at hSw)
            go_simp
            try with_reducible rfl
          simp only [Act.put, List.getElem_toArray, List.getElem_cons_succ, List.getElem_cons_zero, List.setIfInBounds_toArray, List.set_cons_zero, List.set_cons_succ]
          refine wpAnyH_take (i := 6) (v := ?v7) rfl (by kernel_rfl) (by kernel_rfl) (by kernel_rfl) (fun _ _ _ h => h) (Or.inl ⟨by kernel_rfl, ?hy7⟩) hHeld ?rest7
          case hy7 =>
            intro w hSw
            (try dsimp only at hSw)
            go_simp
            try with_reducible rfl
          simp only [Act.put, List.getElem_toArray, List.getElem_cons_succ, List.getElem_cons_zero, List.setIfInBounds_toArray, List.set_cons_zero, List.set_cons_succ]
          refine wpAnyH_take (i := 7) (v := ?v8) rfl (by kernel_rfl) (by kernel_rfl) (by kernel_rfl) (fun _ _ _ h => h) (Or.inl ⟨by kernel_rfl, ?hy8⟩) hHeld ?rest8
          case hy8 =>
            intro w hSw
            (try dsimp only at hSw)
            go_simp
            try with_reducible rfl
          simp only [Act.put, List.getElem_toArray, List.getElem_cons_succ, List.getElem_cons_zero, List.setIfInBounds_toArray, List.set_cons_zero, List.set_cons_succ]
          refine wpAnyH_take (i := 8) (v := ?v9) rfl (by kernel_rfl) (by kernel_rfl) (by kernel_rfl) (fun _ _ _ h => h) (Or.inl ⟨by kernel_rfl, ?hy9⟩) hHeld ?rest9
          case hy9 =>
            intro w hSw
            (try dsimp only at hSw)
            go_simp
            try with_reducible rfl
          simp only [Act.put, List.getElem_toArray, List.getElem_cons_succ, List.getElem_cons_zero, List.setIfInBounds_toArray, List.set_cons_zero, List.set_cons_succ]
          refine wpAnyH_take (i := 9) (v := ?v10) rfl (by kernel_rfl) (by kernel_rfl) (by kernel_rfl) (fun _ _ _ h => h) (Or.inl ⟨by kernel_rfl, ?hy10⟩) hHeld ?rest10
          case hy10 =>
            intro w hSw
            (try dsimp only at hSw)
            go_simp
            try with_reducible rfl
          simp only [Act.put, List.getElem_toArray, List.getElem_cons_succ, List.getElem_cons_zero, List.setIfInBounds_toArray, List.set_cons_zero, List.set_cons_succ]
          refine wpAnyH_take (i := 10) (v := ?v11) rfl (by kernel_rfl) (by kernel_rfl) (by kernel_rfl) (fun _ _ _ h => h) (Or.inl ⟨by kernel_rfl, ?hy11⟩) hHeld ?rest11
          case hy11 =>
            intro w hSw
            (try dsimp only at hSw)
            go_simp
            try with_reducible rfl
          simp only [Act.put, List.getElem_toArray, List.getElem_cons_succ, List.getElem_cons_zero, List.setIfInBounds_toArray, List.set_cons_zero, List.set_cons_succ]
          refine wpAnyH_ready (rs := [11]) (by kernel_rfl) (by simp) ?_
          refine AllReadyH.cons rfl (fun K hK => ?_) AllReadyH.nil
          rw [if_pos (by kernel_rfl)]
          go_simp
          go_at_call 98
          have C := C0.out _ rp q0
          refine C.mono ?_
          clear C
          rintro e w3 ⟨_, rfl, rfl, y1⟩
          replace yd := ext_trans yd y1
          replace cp1 := cell_ext cp1 y1
          replace c0 := cell_ext c0 y1
          refine hK.out _ _ (by exact ⟨cp1, c0⟩) (fun hHeld => ?_)
          clear hK K
          refine wpAnyH_take (i := 12) (v := ?v13) rfl (by kernel_rfl) (by kernel_rfl) (by kernel_rfl) (fun _ _ _ h => h) (Or.inl ⟨by kernel_rfl, ?hy13⟩) hHeld ?rest13
          case hy13 =>
            intro w hSw
            (try dsimp only at hSw)
            go_simp
            try with_reducible rfl
          simp only [Act.put, List.getElem_toArray, List.getElem_cons_succ, List.getElem_cons_zero, List.setIfInBounds_toArray, List.set_cons_zero, List.set_cons_succ]
          refine wpAnyH_take (i := 13) (v := ?v14) rfl (by kernel_rfl) (by kernel_rfl) (by kernel_rfl) (fun _ _ _ h => h) (Or.inl ⟨by kernel_rfl, ?hy14⟩) hHeld ?rest14
          case hy14 =>
            intro w hSw
            (try dsimp only at hSw)
            go_simp
            try with_reducible rfl
          simp only [Act.put, List.getElem_toArray, List.getElem_cons_succ, List.getElem_cons_zero, List.setIfInBounds_toArray, List.set_cons_zero, List.set_cons_succ]
          refine wpAnyH_done (by kernel_rfl) ?_ _
          clear cp1 c0 C0 q0 rp
          go_wp2
          go_roundw
          case rel => exact ⟨k + 1, by omega, by go_num, HQ, yd⟩
          case measure => simp [intOf]; omega
        · have HQ := hid (show pls xs key = k by have h8 := hp.out; rw [HSP.out hcc] at h8; omega)
          have hcf : decide (cc < 0) = false := decide_eq_false hcc
          clear HST HSP hp
          go_wp2_with fail
          refine wp_region_held_drew (S := fun w' => w'.cell? ⟨w.heap.size, 0, none⟩ = some p ∧ w'.cell? ⟨b, off + k * 2, none⟩ = some (.slice p0 ss.length q9)) (by kernel_rfl) (by exact ⟨cp1, c0⟩) (fun hHeld => ?_)
          refine wpAnyH_take (i := 0) (v := ?v15) rfl (by kernel_rfl) (by kernel_rfl) (by kernel_rfl) (fun _ _ _ h => h) (Or.inl ⟨by kernel_rfl, ?hy15⟩) hHeld ?rest15
          case hy15 =>
            intro w hSw
            (try dsimp only at hSw)
            go_simp
            try with_reducible rfl
          simp only [Act.put, List.getElem_toArray, List.getElem_cons_zero, List.setIfInBounds_toArray, List.set_cons_zero, List.set_cons_succ]
          refine wpAnyH_take (i := 1) (v := ?v16) rfl (by kernel_rfl) (by kernel_rfl) (by kernel_rfl) (fun _ _ _ h => h) (Or.inl ⟨by kernel_rfl, ?hy16⟩) hHeld ?rest16
          case hy16 =>
            intro w hSw
            (try dsimp only at hSw)
            go_simp
            try with_reducible rfl
          simp only [Act.put, List.getElem_toArray, List.getElem_cons_succ, List.getElem_cons_zero, List.setIfInBounds_toArray, List.set_cons_zero, List.set_cons_succ]
          refine wpAnyH_take (i := 2) (v := ?v17) rfl (by kernel_rfl) (by kernel_rfl) (by kernel_rfl) (fun _ _ _ h => h) (Or.inl ⟨by kernel_rfl, ?hy17⟩) hHeld ?rest17
          case hy17 =>
            intro w hSw
            (try dsimp only at hSw)
            go_simp
            try with_reducible rfl
          simp only [Act.put, List.getElem_toArray, List.getElem_cons_succ, List.getElem_cons_zero, List.setIfInBounds_toArray, List.set_cons_zero, List.set_cons_succ]
          refine wpAnyH_take (i := 3) (v := ?v18) rfl (by kernel_rfl) (by kernel_rfl) (by kernel_rfl) (fun _ _ _ h => h) (Or.inl ⟨by kernel_rfl, ?hy18⟩) hHeld ?rest18
          case hy18 =>
            intro w hSw
            (try dsimp only at hSw)
            go_simp
            try with_reducible rfl
          simp only [Act.put, List.getElem_toArray, List.getElem_cons_succ, List.getElem_cons_zero, List.setIfInBounds_toArray, List.set_cons_zero, List.set_cons_succ]
          refine wpAnyH_take (i := 4) (v := ?v19) rfl (by kernel_rfl) (by kernel_rfl) (by kernel_rfl) (fun _ _ _ h => h) (Or.inl ⟨by kernel_rfl, ?hy19⟩) hHeld ?rest19
          case hy19 =>
            intro w hSw
            (try dsimp only at hSw)
            go_simp
            try with_reducible rfl
          simp only [Act.put, List.getElem_toArray, List.getElem_cons_succ, List.getElem_cons_zero, List.setIfInBounds_toArray, List.set_cons_zero, List.set_cons_succ]
          refine wpAnyH_take (i := 5) (v := ?v20) rfl (by kernel_rfl) (by kernel_rfl) (by kernel_rfl) (fun _ _ _ h => h) (Or.inl ⟨by kernel_rfl, ?hy20⟩) hHeld ?rest20
          case hy20 =>
            intro w hSw
            (try dsimp only at hSw)
            go_simp
            try with_reducible rfl
          simp only [Act.put, List.getElem_toArray, List.getElem_cons_succ, List.getElem_cons_zero, List.setIfInBounds_toArray, List.set_cons_zero, List.set_cons_succ]
          refine wpAnyH_take (i := 6) (v := ?v21) rfl (by kernel_rfl) (by kernel_rfl) (by kernel_rfl) (fun _ _ _ h => h) (Or.inl ⟨by kernel_rfl, ?hy21⟩) hHeld ?rest21
          case hy21 =>
            intro w hSw
            (try dsimp only at hSw)
            go_simp
            try with_reducible rfl
          simp only [Act.put, List.getElem_toArray, List.getElem_cons_succ, List.getElem_cons_zero, List.setIfInBounds_toArray, List.set_cons_zero, List.set_cons_succ]
          refine wpAnyH_take (i := 7) (v := ?v22) rfl (by kernel_rfl) (by kernel_rfl) (by kernel_rfl) (fun _ _ _ h => h) (Or.inl ⟨by kernel_rfl, ?hy22⟩) hHeld ?rest22
          case hy22 =>
            intro w hSw
            (try dsimp only at hSw)
            go_simp
            try with_reducible rfl
          simp only [Act.put, List.getElem_toArray, List.getElem_cons_succ, List.getElem_cons_zero, List.setIfInBounds_toArray, List.set_cons_zero, List.set_cons_succ]
          refine wpAnyH_take (i := 8) (v := ?v23) rfl (by kernel_rfl) (by kernel_rfl) (by kernel_rfl) (fun _ _ _ h => h) (Or.inl ⟨by kernel_rfl, ?hy23⟩) hHeld ?rest23
          case hy23 =>
            intro w hSw
            (try dsimp only at hSw)
            go_simp
            try with_reducible rfl
          simp only [Act.put, List.getElem_toArray, List.getElem_cons_succ, List.getElem_cons_zero, List.setIfInBounds_toArray, List.set_cons_zero, List.set_cons_succ]
          refine wpAnyH_take (i := 9) (v := ?v24) rfl (by kernel_rfl) (by kernel_rfl) (by kernel_rfl) (fun _ _ _ h => h) (Or.inl ⟨by kernel_rfl, ?hy24⟩) hHeld ?rest24
          case hy24 =>
            intro w hSw
            (try dsimp only at hSw)
            go_simp
            try with_reducible rfl
          simp only [Act.put, List.getElem_toArray, List.getElem_cons_succ, List.getElem_cons_zero, List.setIfInBounds_toArray, List.set_cons_zero, List.set_cons_succ]
          refine wpAnyH_take (i := 10) (v := ?v25) rfl (by kernel_rfl) (by kernel_rfl) (by kernel_rfl) (fun _ _ _ h => h) (Or.inl ⟨by kernel_rfl, ?hy25⟩) hHeld ?rest25
          case hy25 =>
            intro w hSw
            (try dsimp only at hSw)
            go_simp
            try with_reducible rfl
          simp only [Act.put, List.getElem_toArray, List.getElem_cons_succ, List.getElem_cons_zero, List.setIfInBounds_toArray, List.set_cons_zero, List.set_cons_succ]
          refine wpAnyH_ready (rs := [11]) (by kernel_rfl) (by simp) ?_
          refine AllReadyH.cons rfl (fun K hK => ?_) AllReadyH.nil
          rw [if_pos (by kernel_rfl)]
          go_simp
          go_at_call 98
          have C := C0.out _ rp q0
          refine C.mono ?_
          clear C
          rintro e w3 ⟨_, rfl, rfl, y1⟩
          replace yd := ext_trans yd y1
          replace cp1 := cell_ext cp1 y1
          replace c0 := cell_ext c0 y1
          refine hK.out _ _ (by exact ⟨cp1, c0⟩) (fun hHeld => ?_)
          clear hK K
          refine wpAnyH_take (i := 12) (v := ?v27) rfl (by kernel_rfl) (by kernel_rfl) (by kernel_rfl) (fun _ _ _ h => h) (Or.inl ⟨by kernel_rfl, ?hy27⟩) hHeld ?rest27
          case hy27 =>
            intro w hSw
            (try dsimp only at hSw)
            go_simp
            try with_reducible rfl
          simp only [Act.put, List.getElem_toArray, List.getElem_cons_succ, List.getElem_cons_zero, List.setIfInBounds_toArray, List.set_cons_zero, List.set_cons_succ]
          refine wpAnyH_take (i := 13) (v := ?v28) rfl (by kernel_rfl) (by kernel_rfl) (by kernel_rfl) (fun _ _ _ h => h) (Or.inl ⟨by kernel_rfl, ?hy28⟩) hHeld ?rest28
          case hy28 =>
            intro w hSw
            (try dsimp only at hSw)
            go_simp
            try with_reducible rfl
          simp only [Act.put, List.getElem_toArray, List.getElem_cons_succ, List.getElem_cons_zero, List.setIfInBounds_toArray, List.set_cons_zero, List.set_cons_succ]
          refine wpAnyH_done (by kernel_rfl) ?_ _
          clear c0 C0 q0 rp
          have X := ext_trans HX.out yd
          have o1 := HO.out.ext yd
          have r0 := HR0.out.ext yd
          have r1 := HR1.out.ext yd
          have hyd := yd.size
          clear yd hb HO HR0 HR1 HX cP
          have C := hid (fun (V : World) (y : RdN V lo' hi' (.agg #[p]) key.length (key.map sv)) => l4Copy_c y (by omega))
          have HRN := hid r1
          clear r1
          go_wp2_with fail
          refine (C.out _ ⟨p, rfl, HRN.out⟩).mono ?_
          clear C HRN
          rintro e w4 ⟨_, rfl, ⟨s, rfl, o4⟩, y4⟩
          have s4 := y4.size
          replace r0 := r0.ext y4
          replace X := ext_trans X y4
          replace o1 := o1.ext y4
          clear y4 cp1
          obtain ⟨sa, sc, rfl, _⟩ := o4.rd.form
          go_wp2_with fail
          have ya := ext_alloc (ext_refl w4) (.cells #[.slice sa key.length sc, .int .i64 z] 80)
          have s5 := ya.size
          have d0 : (w4.alloc (.cells #[.slice sa key.length sc, .int .i64 z] 80)).cell? ⟨w4.heap.size, 0, none⟩ = some (.slice sa key.length sc) := (Cell1.newAt w4 _ _ 0 _ rfl).1
          have d1 : (w4.alloc (.cells #[.slice sa key.length sc, .int .i64 z] 80)).cell? ⟨w4.heap.size, 1, none⟩ = some (.int .i64 z) := (Cell1.newAt w4 _ _ 1 _ rfl).1
          replace r0 := r0.ext ya
          replace X := ext_trans X ya
          replace o1 := o1.ext ya
          replace o4 := o4.ext ya
          clear ya
          generalize w4.alloc (.cells #[.slice sa key.length sc, .int .i64 z] 80) = w5 at *
          obtain ⟨hx1, cs, o, pp, ho, h1, h2, hin, hap⟩ := o1
          have hone := hin.one hxl ho.1
          have hcl := ho.1
          have hcl2 : (cs.take (k * 2)).length = k * 2 := by rw [List.length_take]; omega
          have ro := ho.rd
          have hpj : ∀ j, j < n → (pp j).2 ≤ w1.heap.size := fun j hj => (hin j _ hj (List.getElem?_eq_getElem (by omega))).choose_spec.2.2.2.2.1
          have HIN := hid (hin.ins (i := z) hxl ho.1 hk o4 (by omega) (by omega) s4)
          have yw : Below w5.heap.size w5 w5.drew := Below.drew (ext_refl w5)
          have rT := hid (fun (V : World) (y : Below w5.drew.heap.size w5.drew V) => (take2 (k := k) (ro.ext yw) (by omega)).ext y)
          have hoT : ∀ u ∈ cs.take (k * 2), u.oneCell' = true := fun u hu => hone u (List.mem_of_mem_take hu)
          have hoD : ∀ u ∈ cs.drop (k * 2), u.oneCell' = true := fun u hu => hone u (List.mem_of_mem_drop hu)
          have hoX : ∀ u ∈ [Value.slice sa key.length sc, .int .i64 z], u.oneCell' = true := by intro u hu; simp at hu; rcases hu with rfl | rfl <;> rfl
          have hW : w5.drew.heap.size = w5.heap.size := rfl
          have f0 := cell_ext d0 (ext_alloc (ext_refl w5) (.cells #[] 80))
          have f1 := cell_ext d1 (ext_alloc (ext_refl w5) (.cells #[] 80))
          have HD0 := hid (fun (V : World) (y : Below w5.drew.heap.size w5.drew V) => cell_ext (cell_ext d0 yw) y)
          have HD1 := hid (fun (V : World) (y : Below w5.drew.heap.size w5.drew V) => cell_ext (cell_ext d1 yw) y)
          have oE := fun (V : World) => Own.new V #[] 80 2 0 (by decide) rfl
          have rX := fun (V : World) => Rd.new V [Value.slice sa key.length sc, .int .i64 z] 80 2 1 (by decide) rfl
          have hal := fun (V : World) (x : Array Value) => (show (V.alloc (.cells x 80)).heap.size = V.heap.size + 1 by simp)
          obtain ⟨i0, hi0, hz0, hz1, hz2⟩ := info_parts info_entry
          have hcq : ¬ (uc = k) := by omega
          have hkuc : k ≤ uc := by omega
          have rD := hid (fun (V : World) (y : Below w5.drew.heap.size w5.drew V) => (drop2 (k := k) (ro.ext yw) (by omega)).ext y)
          have oE2 := oE (w5.drew.alloc (.cells #[.slice sa key.length sc, .int .i64 z] 80))
          simp only [hal] at oE2
          go_region_law (first
            | (refine step_append_Own rfl (.tmp 43) (.tmp 46) 61 rfl 80 i0 (.agg #[.slice none 0 0, .int .i64 0]) 2 32 Try.underlying61 hi0 hz0 hz1 hz2 rfl (by decide) rfl (oE w5.drew) rfl (rT.out _ (ext_alloc (ext_refl w5.drew) (.cells #[] 80))) hoT (by omega) (by omega) (by first | omega | (simp; done) | (simp; omega)) ?_; intro v1 W1 g1 m1; have z1 := Mut.ext (ext_alloc (ext_refl w5.drew) (.cells #[] 80)) m1 (Nat.le_refl _); have t1 := z1.size; have t1b : w5.drew.heap.size + 1 ≤ W1.heap.size := (by have t9 := m1.size; (try simp at t9); omega); have rx1 := rX W1; have e0 := HD0.out _ z1; have e1 := HD1.out _ z1)
            | (refine step_append_Own rfl (.tmp 43) (.tmp 46) 61 rfl 80 i0 (.agg #[.slice none 0 0, .int .i64 0]) 2 32 Try.underlying61 hi0 hz0 hz1 hz2 rfl (by decide) rfl ((oE w5.drew).ext (ext_alloc (ext_refl _) _)) rfl (rT.out _ (ext_alloc (ext_alloc (ext_refl w5.drew) (.cells #[] 80)) (.cells #[.slice sa key.length sc, .int .i64 z] 80))) hoT (by omega) (by omega) (by first | omega | (simp; done) | (simp; omega)) ?_; intro v1 W1 g1 m1; have z1 := Mut.ext (ext_alloc (ext_alloc (ext_refl w5.drew) (.cells #[] 80)) (.cells #[.slice sa key.length sc, .int .i64 z] 80)) m1 (Nat.le_refl _); have t1 := z1.size; have t1b : w5.drew.heap.size + 1 ≤ W1.heap.size := (by have t9 := m1.size; (try simp at t9); omega); have rx1 := (rX (w5.drew.alloc (.cells #[] 80))).mut m1 (.inr (by simp)); simp only [hal] at rx1)
            | (refine step_append_Own rfl (.tmp 43) (.tmp 46) 61 rfl 80 i0 (.agg #[.slice none 0 0, .int .i64 0]) 2 32 Try.underlying61 hi0 hz0 hz1 hz2 rfl (by decide) rfl oE2 rfl (rT.out _ (ext_alloc (ext_alloc (ext_refl w5.drew) (.cells #[.slice sa key.length sc, .int .i64 z] 80)) (.cells #[] 80))) hoT (by omega) (by omega) (by first | omega | (simp; done) | (simp; omega)) ?_; intro v1 W1 g1 m1; have z1 := Mut.ext (ext_alloc (ext_alloc (ext_refl w5.drew) (.cells #[.slice sa key.length sc, .int .i64 z] 80)) (.cells #[] 80)) m1 (by first | omega | simp); have t1 := z1.size; have t1b : w5.drew.heap.size + 1 ≤ W1.heap.size := (by have t9 := m1.size; (try simp at t9); omega); have rx1 := ((rX w5.drew).ext (ext_alloc (ext_refl _) (.cells #[] 80))).mut m1 (.inl (by first | omega | simp)))
            | (refine step_append_Own rfl (.tmp 47) (.tmp 49) 61 rfl 80 i0 (.agg #[.slice none 0 0, .int .i64 0]) 2 32 Try.underlying61 hi0 hz0 hz1 hz2 rfl (by decide) rfl (g1.ext (ext_alloc (ext_refl _) _)) rfl rx1 hoX (by omega) (by omega) (by first | omega | (simp; done) | (simp; omega)) ?_; intro v2 W2 g2 m2; have z2 := Mut.ext (ext_alloc z1 (.cells #[.slice sa key.length sc, .int .i64 z] 80)) m2 (by first | exact Nat.le_refl _ | simp); have t2 := z2.size; have t2b : W1.heap.size ≤ W2.heap.size := (by have t9 := m2.size; (try simp at t9); omega))
            | (refine step_append_Own rfl (.tmp 47) (.tmp 49) 61 rfl 80 i0 (.agg #[.slice none 0 0, .int .i64 0]) 2 32 Try.underlying61 hi0 hz0 hz1 hz2 rfl (by decide) rfl g1 rfl rx1 hoX (by omega) (by omega) (by first | omega | (simp; done) | (simp; omega)) ?_; intro v2 W2 g2 m2; have z2 := Mut.ext z1 m2 (by first | exact Nat.le_refl _ | simp); have t2 := z2.size; have t2b : W1.heap.size ≤ W2.heap.size := (by have t9 := m2.size; (try simp at t9); omega))
            | (refine step_append_Own rfl (.tmp 50) (.tmp 53) 61 rfl 80 i0 (.agg #[.slice none 0 0, .int .i64 0]) 2 32 Try.underlying61 hi0 hz0 hz1 hz2 rfl (by decide) rfl g2 rfl (rD.out _ z2) hoD (by omega) (by omega) (by first | omega | (simp; done) | (simp; omega)) ?_; intro v3 W3 g3 m3; have z3 := Mut.ext z2 m3 (by first | exact Nat.le_refl _ | simp)))
          all_goals
            have e1 : 0 + k + 1 + (n - k) = n + 1 := by omega
            rw [e1, List.nil_append] at g3
            clear e1
            have t3 := z3.size
            have oY := OwnT.ofIns HIN.out hxl (by omega) (ext_trans yw z3) g3 (fun j hj => by have := hpj j hj; omega) (by omega) (by omega) (by omega)
            replace X := ext_trans (ext_trans X yw) z3
            replace r0 := (r0.ext yw).ext z3
            have HY := hid (peY_ins (v := z) hj HQ)
            clear z1 z2 z3 g1 g2 g3 m1 m2 m3 HIN rT hpj hoT hoD hoX oE rX hal hi0 hz0 hz1 hz2 rx1 oE2 ro ho hin hap hone o4 d0 d1 f0 f1 HD0 HD1 yw
            try clear rD
            try clear e0 e1
            generalize xs.take k ++ (key, z) :: xs.drop k = ys at *
            have hsz := HSZ.out
            rw [HY.out] at hsz
            have C := hid (specValidTable_c oY.rd hsz)
            clear hsz
            cases hvt : vt ys
            · have HPE : Hid (pe xs key z = (xs, false)) := pe_no (by rw [HY.out]; exact hvt)
              rw [hvt] at C
              clear oY hvt HY
              go_wp2_with fail
              refine C.out.mono ?_
              clear C
              rintro e V1 ⟨_, rfl, rfl, z1⟩
              have t1 := z1.size
              replace r0 := r0.ext z1
              replace X := ext_trans X z1
              clear z1
              have C := hid (l6Copy_c r0 (by omega) HWT.out)
              clear r0
              go_wp2_with fail
              refine C.out.mono ?_
              clear C
              rintro e V2 ⟨u9, rfl, o9, z2⟩
              have t2 := z2.size
              replace X := ext_trans X z2
              clear z2
              go_wp2
              go_ret2
              refine gives_of _ ⟨u9, ?_, ?_⟩ X
              · rw [HPE.out]; rfl
              · rw [HPE.out]; exact o9.mono (by omega) (Nat.le_refl _)
            · have h9 : pe xs key z = (peY xs key z, true) := pe_yes (by rw [HY.out]; exact hvt)
              rw [HY.out] at h9
              have HPE := hid h9
              clear h9
              rw [hvt] at C
              have HO := hid (fun (V : World) (zz : Below _ _ V) => oY.ext zz)
              have HYL := hid oY.1
              clear hvt HY oY
              go_wp2_with fail
              refine C.out.mono ?_
              clear C
              rintro e V1 ⟨_, rfl, rfl, z1⟩
              have t1 := z1.size
              have o9 := HO.out V1 z1
              replace X := ext_trans X z1
              clear z1 HO r0
              go_wp2
              go_ret2
              refine gives_of _ ⟨v3, ?_, ?_⟩ X
              · rw [HPE.out]; rfl
              · rw [HPE.out]; simp only; rw [HYL.out]; exact o9.mono (by omega) (by omega)
      · have hkn : k = n := by omega
        subst hkn
        have HQ := hid (show pls xs key = k by have h8 := hp.out; rw [pls_end (by omega)] at h8; omega)
        have hlt2 : decide ((k : Int) < (k : Int)) = false := decide_eq_false (by omega)
        clear hp
        go_wp2_with fail
        refine wp_region_held_drew (S := fun w' => w'.cell? ⟨w.heap.size, 0, none⟩ = some p) (by kernel_rfl) (by exact cp1) (fun hHeld => ?_)
        refine wpAnyH_take (i := 0) (v := ?v29) rfl (by kernel_rfl) (by kernel_rfl) (by kernel_rfl) (fun _ _ _ h => h) (Or.inl ⟨by kernel_rfl, ?hy29⟩) hHeld ?rest29
        case hy29 =>
          intro w hSw
          (try dsimp only at hSw)
          go_simp
          try with_reducible rfl
        simp only [Act.put, List.getElem_toArray, List.getElem_cons_zero, List.setIfInBounds_toArray, List.set_cons_zero, List.set_cons_succ]
        refine wpAnyH_take (i := 1) (v := ?v30) rfl (by kernel_rfl) (by kernel_rfl) (by kernel_rfl) (fun _ _ _ h => h) (Or.inl ⟨by kernel_rfl, ?hy30⟩) hHeld ?rest30
        case hy30 =>
          intro w hSw
          (try dsimp only at hSw)
          go_simp
          try with_reducible rfl
        simp only [Act.put, List.getElem_toArray, List.getElem_cons_succ, List.getElem_cons_zero, List.setIfInBounds_toArray, List.set_cons_zero, List.set_cons_succ]
        refine wpAnyH_take (i := 2) (v := ?v31) rfl (by kernel_rfl) (by kernel_rfl) (by kernel_rfl) (fun _ _ _ h => h) (Or.inl ⟨by kernel_rfl, ?hy31⟩) hHeld ?rest31
        case hy31 =>
          intro w hSw
          (try dsimp only at hSw)
          go_simp
          try with_reducible rfl
        simp only [Act.put, List.getElem_toArray, List.getElem_cons_succ, List.getElem_cons_zero, List.setIfInBounds_toArray, List.set_cons_zero, List.set_cons_succ]
        refine wpAnyH_take (i := 3) (v := ?v32) rfl (by kernel_rfl) (by kernel_rfl) (by kernel_rfl) (fun _ _ _ h => h) (Or.inl ⟨by kernel_rfl, ?hy32⟩) hHeld ?rest32
        case hy32 =>
          intro w hSw
          (try dsimp only at hSw)
          go_simp
          try with_reducible rfl
        simp only [Act.put, List.getElem_toArray, List.getElem_cons_succ, List.getElem_cons_zero, List.setIfInBounds_toArray, List.set_cons_zero, List.set_cons_succ]
        refine wpAnyH_take (i := 4) (v := ?v33) rfl (by kernel_rfl) (by kernel_rfl) (by kernel_rfl) (fun _ _ _ h => h) (Or.inl ⟨by kernel_rfl, ?hy33⟩) hHeld ?rest33
        case hy33 =>
          intro w hSw
          (try dsimp only at hSw)
          go_simp
          try with_reducible rfl
        simp only [Act.put, List.getElem_toArray, List.getElem_cons_succ, List.getElem_cons_zero, List.setIfInBounds_toArray, List.set_cons_zero, List.set_cons_succ]
        refine wpAnyH_take (i := 5) (v := undef) rfl (by kernel_rfl) (by kernel_rfl) (by kernel_rfl) (fun _ _ _ h => h) (Or.inr ⟨by kernel_rfl, rfl⟩) hHeld ?_
        simp only [Act.put, List.getElem_toArray, List.getElem_cons_succ, List.getElem_cons_zero, List.setIfInBounds_toArray, List.set_cons_zero, List.set_cons_succ]
        refine wpAnyH_take (i := 6) (v := undef) rfl (by kernel_rfl) (by kernel_rfl) (by kernel_rfl) (fun _ _ _ h => h) (Or.inr ⟨by kernel_rfl, rfl⟩) hHeld ?_
        simp only [Act.put, List.getElem_toArray, List.getElem_cons_succ, List.getElem_cons_zero, List.setIfInBounds_toArray, List.set_cons_zero, List.set_cons_succ]
        refine wpAnyH_take (i := 7) (v := undef) rfl (by kernel_rfl) (by kernel_rfl) (by kernel_rfl) (fun _ _ _ h => h) (Or.inr ⟨by kernel_rfl, rfl⟩) hHeld ?_
        simp only [Act.put, List.getElem_toArray, List.getElem_cons_succ, List.getElem_cons_zero, List.setIfInBounds_toArray, List.set_cons_zero, List.set_cons_succ]
        refine wpAnyH_take (i := 8) (v := undef) rfl (by kernel_rfl) (by kernel_rfl) (by kernel_rfl) (fun _ _ _ h => h) (Or.inr ⟨by kernel_rfl, rfl⟩) hHeld ?_
        simp only [Act.put, List.getElem_toArray, List.getElem_cons_succ, List.getElem_cons_zero, List.setIfInBounds_toArray, List.set_cons_zero, List.set_cons_succ]
        refine wpAnyH_take (i := 9) (v := undef) rfl (by kernel_rfl) (by kernel_rfl) (by kernel_rfl) (fun _ _ _ h => h) (Or.inr ⟨by kernel_rfl, rfl⟩) hHeld ?_
        simp only [Act.put, List.getElem_toArray, List.getElem_cons_succ, List.getElem_cons_zero, List.setIfInBounds_toArray, List.set_cons_zero, List.set_cons_succ]
        refine wpAnyH_take (i := 10) (v := undef) rfl (by kernel_rfl) (by kernel_rfl) (by kernel_rfl) (fun _ _ _ h => h) (Or.inr ⟨by kernel_rfl, rfl⟩) hHeld ?_
        simp only [Act.put, List.getElem_toArray, List.getElem_cons_succ, List.getElem_cons_zero, List.setIfInBounds_toArray, List.set_cons_zero, List.set_cons_succ]
        refine wpAnyH_take (i := 11) (v := undef) rfl (by kernel_rfl) (by kernel_rfl) (by kernel_rfl) (fun _ _ _ h => h) (Or.inr ⟨by kernel_rfl, rfl⟩) hHeld ?_
        simp only [Act.put, List.getElem_toArray, List.getElem_cons_succ, List.getElem_cons_zero, List.setIfInBounds_toArray, List.set_cons_zero, List.set_cons_succ]
        refine wpAnyH_take (i := 12) (v := undef) rfl (by kernel_rfl) (by kernel_rfl) (by kernel_rfl) (fun _ _ _ h => h) (Or.inr ⟨by kernel_rfl, rfl⟩) hHeld ?_
        simp only [Act.put, List.getElem_toArray, List.getElem_cons_succ, List.getElem_cons_zero, List.setIfInBounds_toArray, List.set_cons_zero, List.set_cons_succ]
        refine wpAnyH_take (i := 13) (v := ?v42) rfl (by kernel_rfl) (by kernel_rfl) (by kernel_rfl) (fun _ _ _ h => h) (Or.inl ⟨by kernel_rfl, ?hy42⟩) hHeld ?rest42
        case hy42 =>
          intro w hSw
          (try dsimp only at hSw)
          go_simp
          try with_reducible rfl
        simp only [Act.put, List.getElem_toArray, List.getElem_cons_succ, List.getElem_cons_zero, List.setIfInBounds_toArray, List.set_cons_zero, List.set_cons_succ]
        refine wpAnyH_done (by kernel_rfl) ?_ _
        clear rp
        have X := ext_trans HX.out yd
        have o1 := HO.out.ext yd
        have r0 := HR0.out.ext yd
        have r1 := HR1.out.ext yd
        have hyd := yd.size
        clear yd hb HO HR0 HR1 HX cP
        have C := hid (fun (V : World) (y : RdN V lo' hi' (.agg #[p]) key.length (key.map sv)) => l4Copy_c y (by omega))
        have HRN := hid r1
        clear r1
        go_wp2_with fail
        refine (C.out _ ⟨p, rfl, HRN.out⟩).mono ?_
        clear C HRN
        rintro e w4 ⟨_, rfl, ⟨s, rfl, o4⟩, y4⟩
        have s4 := y4.size
        replace r0 := r0.ext y4
        replace X := ext_trans X y4
        replace o1 := o1.ext y4
        clear y4 cp1
        obtain ⟨sa, sc, rfl, _⟩ := o4.rd.form
        go_wp2_with fail
        have ya := ext_alloc (ext_refl w4) (.cells #[.slice sa key.length sc, .int .i64 z] 80)
        have s5 := ya.size
        have d0 : (w4.alloc (.cells #[.slice sa key.length sc, .int .i64 z] 80)).cell? ⟨w4.heap.size, 0, none⟩ = some (.slice sa key.length sc) := (Cell1.newAt w4 _ _ 0 _ rfl).1
        have d1 : (w4.alloc (.cells #[.slice sa key.length sc, .int .i64 z] 80)).cell? ⟨w4.heap.size, 1, none⟩ = some (.int .i64 z) := (Cell1.newAt w4 _ _ 1 _ rfl).1
        replace r0 := r0.ext ya
        replace X := ext_trans X ya
        replace o1 := o1.ext ya
        replace o4 := o4.ext ya
        clear ya
        generalize w4.alloc (.cells #[.slice sa key.length sc, .int .i64 z] 80) = w5 at *
        obtain ⟨hx1, cs, o, pp, ho, h1, h2, hin, hap⟩ := o1
        have hone := hin.one hxl ho.1
        have hcl := ho.1
        have hcl2 : (cs.take (k * 2)).length = k * 2 := by rw [List.length_take]; omega
        have ro := ho.rd
        have hpj : ∀ j, j < k → (pp j).2 ≤ w1.heap.size := fun j hj => (hin j _ hj (List.getElem?_eq_getElem (by omega))).choose_spec.2.2.2.2.1
        have HIN := hid (hin.ins (i := z) hxl ho.1 (Nat.le_refl k) o4 (by omega) (by omega) s4)
        have yw : Below w5.heap.size w5 w5.drew := Below.drew (ext_refl w5)
        have rT := hid (fun (V : World) (y : Below w5.drew.heap.size w5.drew V) => (take2 (k := k) (ro.ext yw) (by omega)).ext y)
        have hoT : ∀ u ∈ cs.take (k * 2), u.oneCell' = true := fun u hu => hone u (List.mem_of_mem_take hu)
        have hoD : ∀ u ∈ cs.drop (k * 2), u.oneCell' = true := fun u hu => hone u (List.mem_of_mem_drop hu)
        have hoX : ∀ u ∈ [Value.slice sa key.length sc, .int .i64 z], u.oneCell' = true := by intro u hu; simp at hu; rcases hu with rfl | rfl <;> rfl
        have hW : w5.drew.heap.size = w5.heap.size := rfl
        have f0 := cell_ext d0 (ext_alloc (ext_refl w5) (.cells #[] 80))
        have f1 := cell_ext d1 (ext_alloc (ext_refl w5) (.cells #[] 80))
        have HD0 := hid (fun (V : World) (y : Below w5.drew.heap.size w5.drew V) => cell_ext (cell_ext d0 yw) y)
        have HD1 := hid (fun (V : World) (y : Below w5.drew.heap.size w5.drew V) => cell_ext (cell_ext d1 yw) y)
        have oE := fun (V : World) => Own.new V #[] 80 2 0 (by decide) rfl
        have rX := fun (V : World) => Rd.new V [Value.slice sa key.length sc, .int .i64 z] 80 2 1 (by decide) rfl
        have hal := fun (V : World) (x : Array Value) => (show (V.alloc (.cells x 80)).heap.size = V.heap.size + 1 by simp)
        obtain ⟨i0, hi0, hz0, hz1, hz2⟩ := info_parts info_entry
        by_cases huq : uc = k
        · subst huq
          skip -- huq
          have oE2 := oE (w5.drew.alloc (.cells #[.slice sa key.length sc, .int .i64 z] 80))
          simp only [hal] at oE2
          go_region_law (first
            | (refine step_append_Own rfl (.tmp 43) (.tmp 46) 61 rfl 80 i0 (.agg #[.slice none 0 0, .int .i64 0]) 2 32 Try.underlying61 hi0 hz0 hz1 hz2 rfl (by decide) rfl (oE w5.drew) rfl (rT.out _ (ext_alloc (ext_refl w5.drew) (.cells #[] 80))) hoT (by omega) (by omega) (by first | omega | (simp; done) | (simp; omega)) ?_; intro v1 W1 g1 m1; have z1 := Mut.ext (ext_alloc (ext_refl w5.drew) (.cells #[] 80)) m1 (Nat.le_refl _); have t1 := z1.size; have t1b : w5.drew.heap.size + 1 ≤ W1.heap.size := (by have t9 := m1.size; (try simp at t9); omega); have rx1 := rX W1; have e0 := HD0.out _ z1; have e1 := HD1.out _ z1)
            | (refine step_append_Own rfl (.tmp 43) (.tmp 46) 61 rfl 80 i0 (.agg #[.slice none 0 0, .int .i64 0]) 2 32 Try.underlying61 hi0 hz0 hz1 hz2 rfl (by decide) rfl ((oE w5.drew).ext (ext_alloc (ext_refl _) _)) rfl (rT.out _ (ext_alloc (ext_alloc (ext_refl w5.drew) (.cells #[] 80)) (.cells #[.slice sa key.length sc, .int .i64 z] 80))) hoT (by omega) (by omega) (by first | omega | (simp; done) | (simp; omega)) ?_; intro v1 W1 g1 m1; have z1 := Mut.ext (ext_alloc (ext_alloc (ext_refl w5.drew) (.cells #[] 80)) (.cells #[.slice sa key.length sc, .int .i64 z] 80)) m1 (Nat.le_refl _); have t1 := z1.size; have t1b : w5.drew.heap.size + 1 ≤ W1.heap.size := (by have t9 := m1.size; (try simp at t9); omega); have rx1 := (rX (w5.drew.alloc (.cells #[] 80))).mut m1 (.inr (by simp)); simp only [hal] at rx1)
            | (refine step_append_Own rfl (.tmp 43) (.tmp 46) 61 rfl 80 i0 (.agg #[.slice none 0 0, .int .i64 0]) 2 32 Try.underlying61 hi0 hz0 hz1 hz2 rfl (by decide) rfl oE2 rfl (rT.out _ (ext_alloc (ext_alloc (ext_refl w5.drew) (.cells #[.slice sa key.length sc, .int .i64 z] 80)) (.cells #[] 80))) hoT (by omega) (by omega) (by first | omega | (simp; done) | (simp; omega)) ?_; intro v1 W1 g1 m1; have z1 := Mut.ext (ext_alloc (ext_alloc (ext_refl w5.drew) (.cells #[.slice sa key.length sc, .int .i64 z] 80)) (.cells #[] 80)) m1 (by first | omega | simp); have t1 := z1.size; have t1b : w5.drew.heap.size + 1 ≤ W1.heap.size := (by have t9 := m1.size; (try simp at t9); omega); have rx1 := ((rX w5.drew).ext (ext_alloc (ext_refl _) (.cells #[] 80))).mut m1 (.inl (by first | omega | simp)))
            | (refine step_append_Own rfl (.tmp 47) (.tmp 49) 61 rfl 80 i0 (.agg #[.slice none 0 0, .int .i64 0]) 2 32 Try.underlying61 hi0 hz0 hz1 hz2 rfl (by decide) rfl (g1.ext (ext_alloc (ext_refl _) _)) rfl rx1 hoX (by omega) (by omega) (by first | omega | (simp; done) | (simp; omega)) ?_; intro v2 W2 g2 m2; have z2 := Mut.ext (ext_alloc z1 (.cells #[.slice sa key.length sc, .int .i64 z] 80)) m2 (by first | exact Nat.le_refl _ | simp); have t2 := z2.size; have t2b : W1.heap.size ≤ W2.heap.size := (by have t9 := m2.size; (try simp at t9); omega))
            | (refine step_append_Own rfl (.tmp 47) (.tmp 49) 61 rfl 80 i0 (.agg #[.slice none 0 0, .int .i64 0]) 2 32 Try.underlying61 hi0 hz0 hz1 hz2 rfl (by decide) rfl g1 rfl rx1 hoX (by omega) (by omega) (by first | omega | (simp; done) | (simp; omega)) ?_; intro v2 W2 g2 m2; have z2 := Mut.ext z1 m2 (by first | exact Nat.le_refl _ | simp); have t2 := z2.size; have t2b : W1.heap.size ≤ W2.heap.size := (by have t9 := m2.size; (try simp at t9); omega))
            | (refine step_append_Own rfl (.tmp 50) (.tmp 53) 61 rfl 80 i0 (.agg #[.slice none 0 0, .int .i64 0]) 2 32 Try.underlying61 hi0 hz0 hz1 hz2 rfl (by decide) rfl g2 rfl (Rd.none_ _ 0 0 2 _ (by omega)) (fun u hu => by cases hu) (by omega) (by omega) (by first | omega | (simp; done) | (simp; omega)) ?_; intro v3 W3 g3 m3; have z3 := Mut.ext z2 m3 (by first | exact Nat.le_refl _ | simp)))
          all_goals
            rw [Nat.zero_add, Nat.add_zero, List.nil_append, List.append_nil] at g3
            have hdn : cs.drop (uc * 2) = [] := List.drop_eq_nil_of_le (by omega)
            rw [show cs.take (uc * 2) ++ [Value.slice sa key.length sc, .int .i64 z] = cs.take (uc * 2) ++ [Value.slice sa key.length sc, .int .i64 z] ++ cs.drop (uc * 2) by rw [hdn, List.append_nil]] at g3
            clear hdn
            have t3 := z3.size
            have oY := OwnT.ofIns HIN.out hxl (by omega) (ext_trans yw z3) g3 (fun j hj => by have := hpj j hj; omega) (by omega) (by omega) (by omega)
            replace X := ext_trans (ext_trans X yw) z3
            replace r0 := (r0.ext yw).ext z3
            have HY := hid (peY_ins (v := z) hj HQ)
            clear z1 z2 z3 g1 g2 g3 m1 m2 m3 HIN rT hpj hoT hoD hoX oE rX hal hi0 hz0 hz1 hz2 rx1 oE2 ro ho hin hap hone o4 d0 d1 f0 f1 HD0 HD1 yw
            try clear rD
            try clear e0 e1
            generalize xs.take uc ++ (key, z) :: xs.drop uc = ys at *
            have hsz := HSZ.out
            rw [HY.out] at hsz
            have C := hid (specValidTable_c oY.rd hsz)
            clear hsz
            cases hvt : vt ys
            · have HPE : Hid (pe xs key z = (xs, false)) := pe_no (by rw [HY.out]; exact hvt)
              rw [hvt] at C
              clear oY hvt HY
              go_wp2_with fail
              refine C.out.mono ?_
              clear C
              rintro e V1 ⟨_, rfl, rfl, z1⟩
              have t1 := z1.size
              replace r0 := r0.ext z1
              replace X := ext_trans X z1
              clear z1
              have C := hid (l6Copy_c r0 (by omega) HWT.out)
              clear r0
              go_wp2_with fail
              refine C.out.mono ?_
              clear C
              rintro e V2 ⟨u9, rfl, o9, z2⟩
              have t2 := z2.size
              replace X := ext_trans X z2
              clear z2
              go_wp2
              go_ret2
              refine gives_of _ ⟨u9, ?_, ?_⟩ X
              · rw [HPE.out]; rfl
              · rw [HPE.out]; exact o9.mono (by omega) (Nat.le_refl _)
            · have h9 : pe xs key z = (peY xs key z, true) := pe_yes (by rw [HY.out]; exact hvt)
              rw [HY.out] at h9
              have HPE := hid h9
              clear h9
              rw [hvt] at C
              have HO := hid (fun (V : World) (zz : Below _ _ V) => oY.ext zz)
              have HYL := hid oY.1
              clear hvt HY oY
              go_wp2_with fail
              refine C.out.mono ?_
              clear C
              rintro e V1 ⟨_, rfl, rfl, z1⟩
              have t1 := z1.size
              have o9 := HO.out V1 z1
              replace X := ext_trans X z1
              clear z1 HO r0
              go_wp2
              go_ret2
              refine gives_of _ ⟨v3, ?_, ?_⟩ X
              · rw [HPE.out]; rfl
              · rw [HPE.out]; simp only; rw [HYL.out]; exact o9.mono (by omega) (by omega)
        · obtain ⟨g, rfl⟩ : ∃ g, ua = some ⟨g, 0, none⟩ := by
            obtain ⟨_, ⟨_, a9, h9⟩ | ⟨g, c9, cur, h9, _⟩⟩ := ho
            · injection h9 with _ _ h9; omega
            · injection h9 with h9; exact ⟨g, h9⟩
          have oE2 := oE (w5.drew.alloc (.cells #[.slice sa key.length sc, .int .i64 z] 80))
          simp only [hal] at oE2
          go_region_law (first
            | (refine step_append_Own rfl (.tmp 43) (.tmp 46) 61 rfl 80 i0 (.agg #[.slice none 0 0, .int .i64 0]) 2 32 Try.underlying61 hi0 hz0 hz1 hz2 rfl (by decide) rfl (oE w5.drew) rfl (rT.out _ (ext_alloc (ext_refl w5.drew) (.cells #[] 80))) hoT (by omega) (by omega) (by first | omega | (simp; done) | (simp; omega)) ?_; intro v1 W1 g1 m1; have z1 := Mut.ext (ext_alloc (ext_refl w5.drew) (.cells #[] 80)) m1 (Nat.le_refl _); have t1 := z1.size; have t1b : w5.drew.heap.size + 1 ≤ W1.heap.size := (by have t9 := m1.size; (try simp at t9); omega); have rx1 := rX W1; have e0 := HD0.out _ z1; have e1 := HD1.out _ z1)
            | (refine step_append_Own rfl (.tmp 43) (.tmp 46) 61 rfl 80 i0 (.agg #[.slice none 0 0, .int .i64 0]) 2 32 Try.underlying61 hi0 hz0 hz1 hz2 rfl (by decide) rfl ((oE w5.drew).ext (ext_alloc (ext_refl _) _)) rfl (rT.out _ (ext_alloc (ext_alloc (ext_refl w5.drew) (.cells #[] 80)) (.cells #[.slice sa key.length sc, .int .i64 z] 80))) hoT (by omega) (by omega) (by first | omega | (simp; done) | (simp; omega)) ?_; intro v1 W1 g1 m1; have z1 := Mut.ext (ext_alloc (ext_alloc (ext_refl w5.drew) (.cells #[] 80)) (.cells #[.slice sa key.length sc, .int .i64 z] 80)) m1 (Nat.le_refl _); have t1 := z1.size; have t1b : w5.drew.heap.size + 1 ≤ W1.heap.size := (by have t9 := m1.size; (try simp at t9); omega); have rx1 := (rX (w5.drew.alloc (.cells #[] 80))).mut m1 (.inr (by simp)); simp only [hal] at rx1)
            | (refine step_append_Own rfl (.tmp 43) (.tmp 46) 61 rfl 80 i0 (.agg #[.slice none 0 0, .int .i64 0]) 2 32 Try.underlying61 hi0 hz0 hz1 hz2 rfl (by decide) rfl oE2 rfl (rT.out _ (ext_alloc (ext_alloc (ext_refl w5.drew) (.cells #[.slice sa key.length sc, .int .i64 z] 80)) (.cells #[] 80))) hoT (by omega) (by omega) (by first | omega | (simp; done) | (simp; omega)) ?_; intro v1 W1 g1 m1; have z1 := Mut.ext (ext_alloc (ext_alloc (ext_refl w5.drew) (.cells #[.slice sa key.length sc, .int .i64 z] 80)) (.cells #[] 80)) m1 (by first | omega | simp); have t1 := z1.size; have t1b : w5.drew.heap.size + 1 ≤ W1.heap.size := (by have t9 := m1.size; (try simp at t9); omega); have rx1 := ((rX w5.drew).ext (ext_alloc (ext_refl _) (.cells #[] 80))).mut m1 (.inl (by first | omega | simp)))
            | (refine step_append_Own rfl (.tmp 47) (.tmp 49) 61 rfl 80 i0 (.agg #[.slice none 0 0, .int .i64 0]) 2 32 Try.underlying61 hi0 hz0 hz1 hz2 rfl (by decide) rfl (g1.ext (ext_alloc (ext_refl _) _)) rfl rx1 hoX (by omega) (by omega) (by first | omega | (simp; done) | (simp; omega)) ?_; intro v2 W2 g2 m2; have z2 := Mut.ext (ext_alloc z1 (.cells #[.slice sa key.length sc, .int .i64 z] 80)) m2 (by first | exact Nat.le_refl _ | simp); have t2 := z2.size; have t2b : W1.heap.size ≤ W2.heap.size := (by have t9 := m2.size; (try simp at t9); omega))
            | (refine step_append_Own rfl (.tmp 47) (.tmp 49) 61 rfl 80 i0 (.agg #[.slice none 0 0, .int .i64 0]) 2 32 Try.underlying61 hi0 hz0 hz1 hz2 rfl (by decide) rfl g1 rfl rx1 hoX (by omega) (by omega) (by first | omega | (simp; done) | (simp; omega)) ?_; intro v2 W2 g2 m2; have z2 := Mut.ext z1 m2 (by first | exact Nat.le_refl _ | simp); have t2 := z2.size; have t2b : W1.heap.size ≤ W2.heap.size := (by have t9 := m2.size; (try simp at t9); omega))
            | (refine step_append_Own rfl (.tmp 50) (.tmp 53) 61 rfl 80 i0 (.agg #[.slice none 0 0, .int .i64 0]) 2 32 Try.underlying61 hi0 hz0 hz1 hz2 rfl (by decide) rfl g2 rfl (Rd.none_ _ 0 0 2 _ (by omega)) (fun u hu => by cases hu) (by omega) (by omega) (by first | omega | (simp; done) | (simp; omega)) ?_; intro v3 W3 g3 m3; have z3 := Mut.ext z2 m3 (by first | exact Nat.le_refl _ | simp)))
          all_goals
            rw [Nat.zero_add, Nat.add_zero, List.nil_append, List.append_nil] at g3
            have hdn : cs.drop (k * 2) = [] := List.drop_eq_nil_of_le (by omega)
            rw [show cs.take (k * 2) ++ [Value.slice sa key.length sc, .int .i64 z] = cs.take (k * 2) ++ [Value.slice sa key.length sc, .int .i64 z] ++ cs.drop (k * 2) by rw [hdn, List.append_nil]] at g3
            clear hdn
            have t3 := z3.size
            have oY := OwnT.ofIns HIN.out hxl (by omega) (ext_trans yw z3) g3 (fun j hj => by have := hpj j hj; omega) (by omega) (by omega) (by omega)
            replace X := ext_trans (ext_trans X yw) z3
            replace r0 := (r0.ext yw).ext z3
            have HY := hid (peY_ins (v := z) hj HQ)
            clear z1 z2 z3 g1 g2 g3 m1 m2 m3 HIN rT hpj hoT hoD hoX oE rX hal hi0 hz0 hz1 hz2 rx1 oE2 ro ho hin hap hone o4 d0 d1 f0 f1 HD0 HD1 yw
            try clear rD
            try clear e0 e1
            generalize xs.take k ++ (key, z) :: xs.drop k = ys at *
            have hsz := HSZ.out
            rw [HY.out] at hsz
            have C := hid (specValidTable_c oY.rd hsz)
            clear hsz
            cases hvt : vt ys
            · have HPE : Hid (pe xs key z = (xs, false)) := pe_no (by rw [HY.out]; exact hvt)
              rw [hvt] at C
              clear oY hvt HY
              go_wp2_with fail
              refine C.out.mono ?_
              clear C
              rintro e V1 ⟨_, rfl, rfl, z1⟩
              have t1 := z1.size
              replace r0 := r0.ext z1
              replace X := ext_trans X z1
              clear z1
              have C := hid (l6Copy_c r0 (by omega) HWT.out)
              clear r0
              go_wp2_with fail
              refine C.out.mono ?_
              clear C
              rintro e V2 ⟨u9, rfl, o9, z2⟩
              have t2 := z2.size
              replace X := ext_trans X z2
              clear z2
              go_wp2
              go_ret2
              refine gives_of _ ⟨u9, ?_, ?_⟩ X
              · rw [HPE.out]; rfl
              · rw [HPE.out]; exact o9.mono (by omega) (Nat.le_refl _)
            · have h9 : pe xs key z = (peY xs key z, true) := pe_yes (by rw [HY.out]; exact hvt)
              rw [HY.out] at h9
              have HPE := hid h9
              clear h9
              rw [hvt] at C
              have HO := hid (fun (V : World) (zz : Below _ _ V) => oY.ext zz)
              have HYL := hid oY.1
              clear hvt HY oY
              go_wp2_with fail
              refine C.out.mono ?_
              clear C
              rintro e V1 ⟨_, rfl, rfl, z1⟩
              have t1 := z1.size
              have o9 := HO.out V1 z1
              replace X := ext_trans X z1
              clear z1 HO r0
              go_wp2
              go_ret2
              refine gives_of _ ⟨v3, ?_, ?_⟩ X
              · rw [HPE.out]; rfl
              · rw [HPE.out]; simp only; rw [HYL.out]; exact o9.mono (by omega) (by omega)
  · obtain ⟨jj, rfl⟩ := Int.eq_ofNat_of_zero_le hj0
    obtain ⟨hjl, hkey⟩ := ti_at xs key 0 jj (by rw [show ti xs key 0 = _ from hj]; omega) (Int.le_refl _)
    obtain ⟨g, cp, s, q, hv, hcn, hcpm, hgs, hgq, c1, c2, f2, os, hq1, hq2, hcl⟩ := o1.entry hjl
    have hcl2 := hcl w2 xs[jj].1 z (Mut.refl _ _ _) os
    rw [hkey] at hcl2
    subst hv
    have HCL := hid hcl2
    have HY := hid (peY_set (v := z) hj)
    clear hcl hcl2 o1 os hj c1 r1 cP
    generalize xs[jj].2 = z9 at *
    have ix0 : (0 : Int) ≤ (jj : Int) := by omega
    have ix1 : jj < xs.length := hjl
    have ix2 : (jj : Int) < (xs.length : Int) := by omega
    have oY := (HCL.out.1).mono (Nat.le_refl W0.heap.size) (show w1.heap.size ≤ (w2.setCell ⟨g, jj * 2 + 1, none⟩ (.int .i64 z)).heap.size by simp [World.setCell]; omega)
    have m6 := HCL.out.2.1
    have s6 := m6.size
    replace r0 := r0.mut m6 (by omega)
    replace X := Mut.ext X m6 (by omega)
    have HM := hid m6
    clear HCL m6 hkey
    generalize xs.set jj (key, z) = ys at *
    obtain ⟨w6, hw6⟩ : ∃ w6, w2.setCell ⟨g, jj * 2 + 1, none⟩ (.int .i64 z) = w6 := ⟨_, rfl⟩
    rw [hw6] at oY s6 r0 X
    clear HM
    have hsz := HSZ.out
    rw [HY.out] at hsz
    have C := hid (specValidTable_c oY.rd hsz)
    clear hsz
    cases hvt : vt ys
    · have HPE : Hid (pe xs key z = (xs, false)) := pe_no (by rw [HY.out]; exact hvt)
      rw [hvt] at C
      clear oY hvt HY
      go_wp2_with fail
      clear hw6 c2 f2 ix0 ix1 ix2
      refine C.out.mono ?_
      clear C
      rintro e V1 ⟨_, rfl, rfl, z1⟩
      have t1 := z1.size
      replace r0 := r0.ext z1
      replace X := ext_trans X z1
      clear z1
      have C := hid (l6Copy_c r0 (by omega) HWT.out)
      clear r0
      go_wp2_with fail
      refine C.out.mono ?_
      clear C
      rintro e V2 ⟨u9, rfl, o9, z2⟩
      have t2 := z2.size
      replace X := ext_trans X z2
      clear z2
      go_wp2
      go_ret2
      refine gives_of _ ⟨u9, ?_, ?_⟩ X
      · rw [HPE.out]; rfl
      · rw [HPE.out]; exact o9.mono (by omega) (Nat.le_refl _)
    · have h9 : pe xs key z = (peY xs key z, true) := pe_yes (by rw [HY.out]; exact hvt)
      rw [HY.out] at h9
      have HPE := hid h9
      clear h9
      rw [hvt] at C
      have HO := hid (fun (V : World) (zz : Below _ _ V) => oY.ext zz)
      have HYL := hid oY.1
      clear hvt HY oY
      go_wp2_with fail
      clear hw6 c2 f2 ix0 ix1 ix2
      refine C.out.mono ?_
      clear C
      rintro e V1 ⟨_, rfl, rfl, z1⟩
      have t1 := z1.size
      have o9 := HO.out V1 z1
      replace X := ext_trans X z1
      clear z1 HO r0
      go_wp2
      go_ret2
      refine gives_of _ ⟨(.slice (some ⟨g, 0, none⟩) n cp), ?_, ?_⟩ X
      · rw [HPE.out]; rfl
      · rw [HPE.out]; simp only; rw [HYL.out]; exact o9.mono (by omega) (by omega)
end Go.Proofs.Ytcagbdidjakcpaa
