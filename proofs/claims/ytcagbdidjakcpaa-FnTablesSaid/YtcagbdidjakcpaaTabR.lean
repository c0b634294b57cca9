/- RemoveEntry and EntriesUnder of both sides: the entries that are kept, copied. Condition: the values read as entries and strings; they are not too long. -/
import Derived.Test.YtcagbdidjakcpaaTabM
import Derived.Test.YtcagbdidjakcpaaCmp
import Derived.Test.YtcagbdidjakcpaaHp
import Derived.Test.YtcagbdidjakcpaaAp
import Derived.Deep.RegionLaw
set_option linter.unusedVariables false
namespace Go.Proofs.Ytcagbdidjakcpaa
open Go.RowKit
def rmF (key : List ByteArray) (e : List ByteArray × Int) : Bool := !decide (e.1 = key)
def unF (key : List ByteArray) (e : List ByteArray × Int) : Bool := hp e.1 key
theorem keep_yes {f : List ByteArray × Int → Bool} {xs : List (List ByteArray × Int)} {k : Nat} (h : k < xs.length) (hf : f xs[k] = true) : (xs.take (k + 1)).filter f = (xs.take k).filter f ++ [xs[k]] := by
  rw [List.take_succ_eq_append_getElem h, List.filter_append]
  simp [hf]
theorem keep_no {f : List ByteArray × Int → Bool} {xs : List (List ByteArray × Int)} {k : Nat} (h : k < xs.length) (hf : f xs[k] = false) : (xs.take (k + 1)).filter f = (xs.take k).filter f := by
  rw [List.take_succ_eq_append_getElem h, List.filter_append]
  simp [hf]
theorem keep_len {f : List ByteArray × Int → Bool} (xs : List (List ByteArray × Int)) (k : Nat) : ((xs.take k).filter f).length ≤ k := by
  have h1 := List.length_filter_le f (xs.take k)
  have h2 := List.length_take (i := k) (l := xs)
  omega
theorem OwnT.none_ (w : World) (lo hi : Nat) {c : Nat} (h : lo ≤ c) (h2 : c + 1 ≤ hi) (hg : w.heap[c]? = some (.cells #[] 80 (0, 0))) : OwnT w lo hi (.slice (some ⟨c, 0, none⟩) 0 0) 0 [] :=
  ⟨rfl, [], (c, c + 1), fun _ => (0, 0), ⟨rfl, .inl ⟨rfl, _, rfl⟩⟩, h, h2, Inn.zero _ _ _ _ _ _, fun j hj => absurd hj (by omega)⟩
theorem tw_short {n k : Nat} {xs : List (List ByteArray × Int)} (hw : tw n xs ≤ 1099511627776) (hk : k < xs.length) : xs[k].1.length ≤ 1099511627776 := by
  have h1 := tw_mem n xs k hk
  have h2 := wt_len xs[k].1
  omega
set_option maxRecDepth 100000 in
set_option maxHeartbeats 4000000 in
theorem specRemoveEntry_c {w : World} {lo hi lo' hi' n m : Nat} {v v' : Value} {xs : List (List ByteArray × Int)} {key : List ByteArray} (h : RdT w lo hi v n xs) (h' : RdN w lo' hi' v' m (key.map sv)) (hn : n ≤ 1099511627776) (hw : tw n xs ≤ 1099511627776) :
    Calls Try.prog 57 #[v, v'] w (Gives w fun r w' => OwnT w' w.heap.size w'.heap.size r (xs.filter (rmF key)).length (xs.filter (rmF key))) := by
  obtain ⟨p, rfl, h'⟩ := h'
  obtain ⟨i0, hi0, hz0, hz1, hz2⟩ := info_parts info_entry
  have H1 := hid h.1
  have HW := hid hw
  obtain ⟨W, hW⟩ : ∃ W, W = w.alloc (.cells #[p] 26) := ⟨_, rfl⟩
  have x0 : Below w.heap.size w W := by rw [hW]; exact ext_alloc (ext_refl w) _
  have hWs : W.heap.size = w.heap.size + 1 := by rw [hW]; simp
  have cP : W.cell? ⟨w.heap.size, 0, none⟩ = some p := by rw [hW]; simp
  have HR := hid (h.ext x0)
  have HN := hid (h'.ext x0)
  have xa := ext_alloc (ext_refl W) (.cells #[] 80)
  have oa := OwnT.none_ (W.alloc (.cells #[] 80)) W.heap.size (W.alloc (.cells #[] 80)).heap.size (Nat.le_refl _) (by simp) (heap_alloc_new W _)
  obtain ⟨a, cap, rfl, hc, hcm⟩ := h.form
  clear h h' hw
  go_enter Try.func57, Try.ntmps57
  rw [hWs] at oa
  go_wp2
  rw [← hW]
  clear hW
  go_loopw [5, 6] (fun u i wr => ∃ k : Nat, k ≤ n ∧ i = .int .i64 k ∧ OwnT wr (w.heap.size + 1) wr.heap.size u ((xs.take k).filter (rmF key)).length ((xs.take k).filter (rmF key)) ∧ Below W.heap.size W wr) (fun _ i _ => n - (intOf i).toNat)
  case atStart => exact ⟨0, Nat.zero_le _, rfl, by simpa using oa, xa⟩
  case round =>
    obtain ⟨k, hk, rfl, ho, hb⟩ := hrel
    clear oa xa
    by_cases hlt : k < n
    · have hkx : k < xs.length := by rw [H1.out]; exact hlt
      have yd := Below.drew hb
      obtain ⟨b, off, cp, s, hv, _, _, hbs, c1, c2, r1⟩ := (HR.out.ext yd).at_ hkx
      simp only [Value.slice.injEq, true_and] at hv
      obtain ⟨rfl, rfl⟩ := hv
      have rp := HN.out.ext yd
      have cp1 := cell_ext cP yd
      have hml := keep_len (f := rmF key) xs k
      have hsl := tw_short HW.out hkx
      have HY := hid (fun (hf : rmF key xs[k] = true) => keep_yes (f := rmF key) hkx hf)
      have HNo := hid (fun (hf : rmF key xs[k] = false) => keep_no (f := rmF key) hkx hf)
      have i0' : (0 : Int) ≤ (k : Int) := by omega
      have i1' : (k : Int) < (n : Int) := by omega
      have HAT := hid (fun (V : World) (y : Below W.heap.size W V) => (HR.out.ext y).at_ hkx)
      generalize (xs.take k).filter (rmF key) = ys at *
      generalize hxk : xs[k] = e1 at *
      obtain ⟨ss, i⟩ := e1
      simp only at c2 r1 hsl
      obtain ⟨p1, q1, rfl, _⟩ := r1.form
      have C0 := hid (fun (V : World) (q3 : Rd V lo hi 1 (.slice p1 ss.length q1) ss.length (ss.map sv)) (q4 : Rd V lo' hi' 1 p m (key.map sv)) => specEqualNames_c ⟨_, rfl, q3⟩ ⟨p, rfl, q4⟩)
      have HF : Hid (rmF key (ss, i) = (!decide (ss = key))) := rfl
      clear hxk
      generalize decide (ss = key) = q at C0 HF
      cases q
      · have HZ := hid (HY.out HF.out)
        clear HY HNo HF
        go_wp2_with fail
        go_region_held3 (fun w' => w'.cell? ⟨b, off + k * 2, none⟩ = some (.slice p1 ss.length q1) ∧ w'.cell? ⟨w.heap.size, 0, none⟩ = some p)
          (first | exact ⟨c1, cp1⟩)
          (first
            | (go_at_call 116; have C := C0.out _ r1 rp; (with_reducible refine C.mono ?_); clear C; rintro e w2 ⟨_, rfl, rfl, y1⟩; replace yd := ext_trans yd y1; have ho' := (ho.ext (Below.drew (ext_refl wr))).ext y1; replace c1 := cell_ext c1 y1; replace cp1 := cell_ext cp1 y1))
        clear cp1 C0 c2 r1 rp ho
        have yd2 := Below.drew yd
        obtain ⟨b3, off3, cp3, s3, hv3, _, _, hbs3, c3, c4, r2⟩ := HAT.out _ yd2
        simp only [Value.slice.injEq, Option.some.injEq, Addr.mk.injEq, and_true, true_and] at hv3
        obtain ⟨⟨rfl, rfl⟩, rfl⟩ := hv3
        obtain rfl : s3 = .slice p1 ss.length q1 := Option.some.inj ((show w2.cell? ⟨b, off + k * 2, none⟩ = some s3 from c3).symm.trans c1)
        clear c3
        replace c4 : w2.cell? ⟨b, off + k * 2 + 1, none⟩ = some (.int .i64 i) := c4
        obtain ⟨hxm, cs, oo, pp, ho0, h1, h2, hin, hap⟩ := (ho'.mono (Nat.le_refl _) (show wr.heap.size ≤ w2.drew.heap.size from Nat.le_trans (show wr.heap.size ≤ wr.drew.heap.size from Nat.le_refl _) y1.size)).ext (Below.drew (ext_refl w2))
        have hlo2 : w.heap.size + 1 ≤ w2.drew.heap.size := by have := yd2.size; omega
        clear ho' y1
        go_wp2_with fail
        go_region_law (first | (refine step_append_exact rfl (.tmp 22) (.tmp 35) 61 rfl 80 i0 (.agg #[.slice none 0 0, .int .i64 0]) 2 32 Try.underlying61 hi0 hz0 hz1 hz2 rfl (by decide) rfl (hoX.ext (ext_alloc (ext_refl _) _)) rfl (Rd.new _ [.slice p2 ss.length q2, .int .i64 i] 80 2 1 (by decide) rfl) (by simp; exact ⟨rfl, rfl⟩) (by decide) (by omega) (by omega) ?_; intro v' w' o' hcase ho2 hmu) | (go_simp; go_at_call 69; refine (l4Copy_c ⟨_, rfl, r2⟩ (by omega)).mono ?_; rintro e w3 ⟨_, rfl, ⟨s2, rfl, os2⟩, y3⟩; obtain ⟨p2, q2, rfl, _⟩ := os2.rd.form; have c5 := cell_ext (show w2.drew.cell? _ = _ from c4) y3; have hoX := ho0.ext y3))
        all_goals
          have y4 := ext_alloc (ext_refl w3) (.cells #[.slice p2 ss.length q2, .int .i64 i] 80)
          have s4 : (w3.alloc (.cells #[.slice p2 ss.length q2, .int .i64 i] 80)).heap.size = w3.heap.size + 1 := by simp
          have s3 := y3.size
          have s5 := hmu.size
          have G := OwnT.grow (B := (w3.alloc (.cells #[.slice p2 ss.length q2, .int .i64 i] 80)).heap.size) rfl (((hin.ext y3).ext y4).apart hmu hap) hap h1 h2 ((os2.ext y4).mut hmu (.inr (by omega))) (Nat.le_refl _) hlo2 s3 (by omega) s5 hcase ho2 (by have := hoX.1; omega) (by omega)
          have x5 := hmu.ext (ext_trans (ext_trans yd2 y3) y4) (by omega)
          have HG := hid G
          have HX := hid x5
          clear G x5 hmu ho2 hcase os2 hoX c4 c5 y3 y4 hin ho0
          go_wp2
          go_roundw
          case rel => exact ⟨k + 1, by omega, by go_num, by rw [HZ.out, List.length_append]; exact HG.out, HX.out⟩
          case measure => simp [intOf]; omega
      · have HZ := hid (HNo.out HF.out)
        clear HY HNo HF
        go_wp2_with fail
        go_region_held3 (fun w' => w'.cell? ⟨b, off + k * 2, none⟩ = some (.slice p1 ss.length q1) ∧ w'.cell? ⟨w.heap.size, 0, none⟩ = some p)
          (first | exact ⟨c1, cp1⟩)
          (first
            | (go_at_call 116; have C := C0.out _ r1 rp; (with_reducible refine C.mono ?_); clear C; rintro e w2 ⟨_, rfl, rfl, y1⟩; replace yd := ext_trans yd y1; have ho' := (ho.ext (Below.drew (ext_refl wr))).ext y1; replace c1 := cell_ext c1 y1; replace cp1 := cell_ext cp1 y1))
        have HG := hid (ho'.mono (Nat.le_refl _) (show wr.heap.size ≤ w2.heap.size from Nat.le_trans (show wr.heap.size ≤ wr.drew.heap.size from Nat.le_refl _) y1.size))
        clear c1 cp1 C0 c2 r1 rp ho ho' y1
        go_wp2
        go_roundw
        case rel => exact ⟨k + 1, by omega, by go_num, by rw [HZ.out]; exact HG.out, yd⟩
        case measure => simp [intOf]; omega
    · have e0 : xs.take k = xs := List.take_of_length_le (by rw [H1.out]; omega)
      rw [e0] at ho
      go_wp2
      go_ret
      exact gives_of _ (ho.mono (by omega) (Nat.le_refl _)) (ext_trans x0 hb)
set_option maxRecDepth 100000 in
set_option maxHeartbeats 4000000 in
theorem specEntriesUnder_c {w : World} {lo hi lo' hi' n m : Nat} {v v' : Value} {xs : List (List ByteArray × Int)} {key : List ByteArray} (h : RdT w lo hi v n xs) (h' : RdN w lo' hi' v' m (key.map sv)) (hn : n ≤ 1099511627776) (hw : tw n xs ≤ 1099511627776) :
    Calls Try.prog 59 #[v, v'] w (Gives w fun r w' => OwnT w' w.heap.size w'.heap.size r (xs.filter (unF key)).length (xs.filter (unF key))) := by
  obtain ⟨p, rfl, h'⟩ := h'
  obtain ⟨i0, hi0, hz0, hz1, hz2⟩ := info_parts info_entry
  have H1 := hid h.1
  have HW := hid hw
  obtain ⟨W, hW⟩ : ∃ W, W = w.alloc (.cells #[p] 26) := ⟨_, rfl⟩
  have x0 : Below w.heap.size w W := by rw [hW]; exact ext_alloc (ext_refl w) _
  have hWs : W.heap.size = w.heap.size + 1 := by rw [hW]; simp
  have cP : W.cell? ⟨w.heap.size, 0, none⟩ = some p := by rw [hW]; simp
  have HR := hid (h.ext x0)
  have HN := hid (h'.ext x0)
  have xa := ext_alloc (ext_refl W) (.cells #[] 80)
  have oa := OwnT.none_ (W.alloc (.cells #[] 80)) W.heap.size (W.alloc (.cells #[] 80)).heap.size (Nat.le_refl _) (by simp) (heap_alloc_new W _)
  obtain ⟨a, cap, rfl, hc, hcm⟩ := h.form
  clear h h' hw
  go_enter Try.func59, Try.ntmps59
  rw [hWs] at oa
  go_wp2
  rw [← hW]
  clear hW
  go_loopw [5, 6] (fun u i wr => ∃ k : Nat, k ≤ n ∧ i = .int .i64 k ∧ OwnT wr (w.heap.size + 1) wr.heap.size u ((xs.take k).filter (unF key)).length ((xs.take k).filter (unF key)) ∧ Below W.heap.size W wr) (fun _ i _ => n - (intOf i).toNat)
  case atStart => exact ⟨0, Nat.zero_le _, rfl, by simpa using oa, xa⟩
  case round =>
    obtain ⟨k, hk, rfl, ho, hb⟩ := hrel
    clear oa xa
    by_cases hlt : k < n
    · have hkx : k < xs.length := by rw [H1.out]; exact hlt
      have yd := Below.drew hb
      obtain ⟨b, off, cp, s, hv, _, _, hbs, c1, c2, r1⟩ := (HR.out.ext yd).at_ hkx
      simp only [Value.slice.injEq, true_and] at hv
      obtain ⟨rfl, rfl⟩ := hv
      have rp := HN.out.ext yd
      have cp1 := cell_ext cP yd
      have hml := keep_len (f := unF key) xs k
      have hsl := tw_short HW.out hkx
      have HY := hid (fun (hf : unF key xs[k] = true) => keep_yes (f := unF key) hkx hf)
      have HNo := hid (fun (hf : unF key xs[k] = false) => keep_no (f := unF key) hkx hf)
      have i0' : (0 : Int) ≤ (k : Int) := by omega
      have i1' : (k : Int) < (n : Int) := by omega
      have HAT := hid (fun (V : World) (y : Below W.heap.size W V) => (HR.out.ext y).at_ hkx)
      generalize (xs.take k).filter (unF key) = ys at *
      generalize hxk : xs[k] = e1 at *
      obtain ⟨ss, i⟩ := e1
      simp only at c2 r1 hsl
      obtain ⟨p1, q1, rfl, _⟩ := r1.form
      have C0 := hid (fun (V : World) (q3 : Rd V lo hi 1 (.slice p1 ss.length q1) ss.length (ss.map sv)) (q4 : Rd V lo' hi' 1 p m (key.map sv)) => specHasPrefix_c ⟨_, rfl, q3⟩ ⟨p, rfl, q4⟩ (by omega))
      have HF : Hid (unF key (ss, i) = hp ss key) := rfl
      clear hxk
      generalize hp ss key = q at C0 HF
      cases q
      · have HZ := hid (HNo.out HF.out)
        clear HY HNo HF
        go_wp2_with fail
        go_region_held3 (fun w' => w'.cell? ⟨b, off + k * 2, none⟩ = some (.slice p1 ss.length q1) ∧ w'.cell? ⟨w.heap.size, 0, none⟩ = some p)
          (first | exact ⟨c1, cp1⟩)
          (first
            | (go_at_call 112; have C := C0.out _ r1 rp; (with_reducible refine C.mono ?_); clear C; rintro e w2 ⟨_, rfl, rfl, y1⟩; replace yd := ext_trans yd y1; have ho' := (ho.ext (Below.drew (ext_refl wr))).ext y1; replace c1 := cell_ext c1 y1; replace cp1 := cell_ext cp1 y1))
        have HG := hid (ho'.mono (Nat.le_refl _) (show wr.heap.size ≤ w2.heap.size from Nat.le_trans (show wr.heap.size ≤ wr.drew.heap.size from Nat.le_refl _) y1.size))
        clear c1 cp1 C0 c2 r1 rp ho ho' y1
        go_wp2
        go_roundw
        case rel => exact ⟨k + 1, by omega, by go_num, by rw [HZ.out]; exact HG.out, yd⟩
        case measure => simp [intOf]; omega
      · have HZ := hid (HY.out HF.out)
        clear HY HNo HF
        go_wp2_with fail
        go_region_held3 (fun w' => w'.cell? ⟨b, off + k * 2, none⟩ = some (.slice p1 ss.length q1) ∧ w'.cell? ⟨w.heap.size, 0, none⟩ = some p)
          (first | exact ⟨c1, cp1⟩)
          (first
            | (go_at_call 112; have C := C0.out _ r1 rp; (with_reducible refine C.mono ?_); clear C; rintro e w2 ⟨_, rfl, rfl, y1⟩; replace yd := ext_trans yd y1; have ho' := (ho.ext (Below.drew (ext_refl wr))).ext y1; replace c1 := cell_ext c1 y1; replace cp1 := cell_ext cp1 y1))
        clear cp1 C0 c2 r1 rp ho
        have yd2 := Below.drew yd
        obtain ⟨b3, off3, cp3, s3, hv3, _, _, hbs3, c3, c4, r2⟩ := HAT.out _ yd2
        simp only [Value.slice.injEq, Option.some.injEq, Addr.mk.injEq, and_true, true_and] at hv3
        obtain ⟨⟨rfl, rfl⟩, rfl⟩ := hv3
        obtain rfl : s3 = .slice p1 ss.length q1 := Option.some.inj ((show w2.cell? ⟨b, off + k * 2, none⟩ = some s3 from c3).symm.trans c1)
        clear c3
        replace c4 : w2.cell? ⟨b, off + k * 2 + 1, none⟩ = some (.int .i64 i) := c4
        obtain ⟨hxm, cs, oo, pp, ho0, h1, h2, hin, hap⟩ := (ho'.mono (Nat.le_refl _) (show wr.heap.size ≤ w2.drew.heap.size from Nat.le_trans (show wr.heap.size ≤ wr.drew.heap.size from Nat.le_refl _) y1.size)).ext (Below.drew (ext_refl w2))
        have hlo2 : w.heap.size + 1 ≤ w2.drew.heap.size := by have := yd2.size; omega
        clear ho' y1
        go_wp2_with fail
        go_region_law (first | (refine step_append_exact rfl (.tmp 21) (.tmp 34) 61 rfl 80 i0 (.agg #[.slice none 0 0, .int .i64 0]) 2 32 Try.underlying61 hi0 hz0 hz1 hz2 rfl (by decide) rfl (hoX.ext (ext_alloc (ext_refl _) _)) rfl (Rd.new _ [.slice p2 ss.length q2, .int .i64 i] 80 2 1 (by decide) rfl) (by simp; exact ⟨rfl, rfl⟩) (by decide) (by omega) (by omega) ?_; intro v' w' o' hcase ho2 hmu) | (go_simp; go_at_call 69; refine (l4Copy_c ⟨_, rfl, r2⟩ (by omega)).mono ?_; rintro e w3 ⟨_, rfl, ⟨s2, rfl, os2⟩, y3⟩; obtain ⟨p2, q2, rfl, _⟩ := os2.rd.form; have c5 := cell_ext (show w2.drew.cell? _ = _ from c4) y3; have hoX := ho0.ext y3))
        all_goals
          have y4 := ext_alloc (ext_refl w3) (.cells #[.slice p2 ss.length q2, .int .i64 i] 80)
          have s4 : (w3.alloc (.cells #[.slice p2 ss.length q2, .int .i64 i] 80)).heap.size = w3.heap.size + 1 := by simp
          have s3 := y3.size
          have s5 := hmu.size
          have G := OwnT.grow (B := (w3.alloc (.cells #[.slice p2 ss.length q2, .int .i64 i] 80)).heap.size) rfl (((hin.ext y3).ext y4).apart hmu hap) hap h1 h2 ((os2.ext y4).mut hmu (.inr (by omega))) (Nat.le_refl _) hlo2 s3 (by omega) s5 hcase ho2 (by have := hoX.1; omega) (by omega)
          have x5 := hmu.ext (ext_trans (ext_trans yd2 y3) y4) (by omega)
          have HG := hid G
          have HX := hid x5
          clear G x5 hmu ho2 hcase os2 hoX c4 c5 y3 y4 hin ho0
          go_wp2
          go_roundw
          case rel => exact ⟨k + 1, by omega, by go_num, by rw [HZ.out, List.length_append]; exact HG.out, HX.out⟩
          case measure => simp [intOf]; omega
    · have e0 : xs.take k = xs := List.take_of_length_le (by rw [H1.out]; omega)
      rw [e0] at ho
      go_wp2
      go_ret
      exact gives_of _ (ho.mono (by omega) (Nat.le_refl _)) (ext_trans x0 hb)
set_option maxHeartbeats 1000000 in
theorem isOther_c {w : World} {lo hi lo' hi' n m : Nat} {s p : Value} {q : Addr} {ss key : List ByteArray} {i : Int} (h : Rd w lo hi 1 s n (ss.map sv)) (h' : Rd w lo' hi' 1 p m (key.map sv)) (hc : w.cell? q = some p) {b : Bool} (hb : (!decide (ss = key)) = b) :
    Calls Try.prog 114 #[.agg #[s, .int .i64 i], .pointer (some q)] w (Gives w fun r _ => r = .bool b) := by
  have x0 := ext_alloc (ext_refl w) (.cells #[s, .int .i64 i] 80)
  have C := hid (implEqualNames_c ⟨s, rfl, h.ext x0⟩ ⟨p, rfl, h'.ext x0⟩)
  have hq := World.block_lt_of_cell? w q hc
  have c1 := cell_ext hc x0
  obtain ⟨qb, qo, qs⟩ := q
  have hsp : qs = none := by simpa using World.cell?_spot hc
  subst hsp
  clear h h'
  generalize decide (ss = key) = e0 at C hb
  have HB := hid hb
  clear hb
  go_enter Try.func114, Try.ntmps114
  go_wp2_with fail
  refine C.out.mono ?_
  rintro e w1 ⟨_, rfl, rfl, y1⟩
  have x := ext_trans x0 y1
  clear C y1 x0 c1 hc
  go_wp2
  go_ret
  exact gives_bool HB.out x
set_option maxHeartbeats 1000000 in
theorem isUnder_c {w : World} {lo hi lo' hi' n m : Nat} {s p : Value} {q : Addr} {ss key : List ByteArray} {i : Int} (h : Rd w lo hi 1 s n (ss.map sv)) (h' : Rd w lo' hi' 1 p m (key.map sv)) (hc : w.cell? q = some p) {b : Bool} (hb : hp ss key = b) :
    Calls Try.prog 117 #[.agg #[s, .int .i64 i], .pointer (some q)] w (Gives w fun r _ => r = .bool b) := by
  have x0 := ext_alloc (ext_refl w) (.cells #[s, .int .i64 i] 80)
  have C := hid (implHasPrefix_c ⟨s, rfl, h.ext x0⟩ ⟨p, rfl, h'.ext x0⟩)
  have hq := World.block_lt_of_cell? w q hc
  have c1 := cell_ext hc x0
  obtain ⟨qb, qo, qs⟩ := q
  have hsp : qs = none := by simpa using World.cell?_spot hc
  subst hsp
  clear h h'
  generalize hp ss key = e0 at C hb
  have HB := hid hb
  clear hb
  go_enter Try.func117, Try.ntmps117
  go_wp2_with fail
  refine C.out.mono ?_
  rintro e w1 ⟨_, rfl, rfl, y1⟩
  have x := ext_trans x0 y1
  clear C y1 x0 c1 hc
  go_wp2
  go_ret
  exact gives_bool HB.out x
set_option maxRecDepth 100000 in
set_option maxHeartbeats 4000000 in
theorem keepRemoveEntry_c {w : World} {lo hi lo' hi' n m : Nat} {v p : Value} {q : Addr} {xs : List (List ByteArray × Int)} {key : List ByteArray} (h : RdT w lo hi v n xs) (h' : Rd w lo' hi' 1 p m (key.map sv)) (hq : w.cell? q = some p) (hn : n ≤ 1099511627776) (hw : tw n xs ≤ 1099511627776) :
    Calls Try.prog 113 #[v, .func (.func 114) #[] #[.pointer (some q)]] w (Gives w fun r w' => OwnT w' w.heap.size w'.heap.size r (xs.filter (rmF key)).length (xs.filter (rmF key))) := by
  obtain ⟨i0, hi0, hz0, hz1, hz2⟩ := info_parts info_entry
  have H1 := hid h.1
  have HW := hid hw
  have HR := hid h
  have HN := hid h'
  have HQ := hid hq
  have xa := ext_alloc (ext_refl w) (.cells #[] 80)
  have oa := OwnT.none_ (w.alloc (.cells #[] 80)) w.heap.size (w.alloc (.cells #[] 80)).heap.size (Nat.le_refl _) (by simp) (heap_alloc_new w _)
  obtain ⟨a, cap, rfl, hc, hcm⟩ := h.form
  clear h h' hw hq
  go_enter Try.func113, Try.ntmps113
  go_wp2
  go_loopw [5, 11] (fun u i wr => ∃ k : Nat, k ≤ n ∧ i = .int .i64 k ∧ OwnT wr w.heap.size wr.heap.size u ((xs.take k).filter (rmF key)).length ((xs.take k).filter (rmF key)) ∧ Below w.heap.size w wr) (fun _ i _ => n - (intOf i).toNat)
  case atStart => exact ⟨0, Nat.zero_le _, rfl, by simpa using oa, xa⟩
  case round =>
    obtain ⟨k, hk, rfl, ho, hb⟩ := hrel
    clear oa xa
    by_cases hlt : k < n
    · have hkx : k < xs.length := by rw [H1.out]; exact hlt
      obtain ⟨b, off, cp, s, hv, _, _, hbs, c1, c2, r1⟩ := (HR.out.ext hb).at_ hkx
      simp only [Value.slice.injEq, true_and] at hv
      obtain ⟨rfl, rfl⟩ := hv
      have hml := keep_len (f := rmF key) xs k
      have hsl := tw_short HW.out hkx
      have HY := hid (fun (hf : rmF key xs[k] = true) => keep_yes (f := rmF key) hkx hf)
      have HNo := hid (fun (hf : rmF key xs[k] = false) => keep_no (f := rmF key) hkx hf)
      have i0' : (0 : Int) ≤ (k : Int) := by omega
      have i1' : (k : Int) < (n : Int) := by omega
      generalize (xs.take k).filter (rmF key) = ys at *
      generalize hxk : xs[k] = e1 at *
      obtain ⟨ss, i⟩ := e1
      simp only at c2 r1 hsl
      obtain ⟨p1, q1, rfl, _⟩ := r1.form
      clear hxk
      have ya := ext_alloc (ext_refl wr) (.cells #[.slice p1 ss.length q1, .int .i64 i] 80)
      have ra := r1.ext ya
      have rp := (HN.out.ext hb).ext ya
      have cq := cell_ext (cell_ext HQ.out hb) ya
      have A0 : (wr.alloc (.cells #[.slice p1 ss.length q1, .int .i64 i] 80)).cell? ⟨wr.heap.size, 0, none⟩ = some (.slice p1 ss.length q1) := (Cell1.newAt wr _ _ 0 _ rfl).1
      have A1 : (wr.alloc (.cells #[.slice p1 ss.length q1, .int .i64 i] 80)).cell? ⟨wr.heap.size, 1, none⟩ = some (.int .i64 i) := (Cell1.newAt wr _ _ 1 _ rfl).1
      have hsz : (wr.alloc (.cells #[.slice p1 ss.length q1, .int .i64 i] 80)).heap.size = wr.heap.size + 1 := by simp
      rcases hF : rmF key (ss, i) with _ | _
      · have HZ := hid (HNo.out hF)
        clear HY HNo
        have C := hid (isOther_c (i := i) (b := false) ra rp cq hF)
        clear hF cq rp
        go_wp2_with fail
        refine C.out.mono ?_
        rintro e w2 ⟨_, rfl, rfl, y1⟩
        have yd := ext_trans (ext_trans hb ya) y1
        have ho' := ((ho.mono (Nat.le_refl _) (show wr.heap.size ≤ w2.heap.size from by have := y1.size; omega)).ext ya).ext y1
        have HG := hid ho'
        clear C c1 c2 r1 ra ho ho' y1 ya A0 A1
        go_wp2
        go_roundw
        case rel => exact ⟨k + 1, by omega, by go_num, by rw [HZ.out]; exact HG.out, yd⟩
        case measure => simp [intOf]; omega
      · have HZ := hid (HY.out hF)
        clear HY HNo
        have C := hid (isOther_c (i := i) (b := true) ra rp cq hF)
        clear hF cq rp
        go_wp2_with fail
        refine C.out.mono ?_
        rintro e w2 ⟨_, rfl, rfl, y1⟩
        have yd := ext_trans (ext_trans hb ya) y1
        have ho' := ((ho.mono (Nat.le_refl _) (show wr.heap.size ≤ w2.heap.size from by have := y1.size; omega)).ext ya).ext y1
        have yd2 := Below.drew yd
        have r2 := (ra.ext y1).ext (Below.drew (ext_refl w2))
        have c3 := cell_ext A0 y1
        have c4 := cell_ext A1 y1
        obtain ⟨hxm, cs, oo, pp, ho0, h1, h2, hin, hap⟩ := ho'.ext (Below.drew (ext_refl w2))
        replace h2 : oo.2 ≤ w2.drew.heap.size := h2
        replace hin : Inn w2.drew w.heap.size w2.drew.heap.size cs pp ys ys.length := hin
        have hlo2 : w.heap.size ≤ w2.drew.heap.size := yd2.size
        clear C c1 c2 r1 ra ho ho' y1 ya A0 A1
        go_wp2_with fail
        go_region_law (first | (refine step_append_exact rfl (.tmp 18) (.tmp 25) 61 rfl 80 i0 (.agg #[.slice none 0 0, .int .i64 0]) 2 32 Try.underlying61 hi0 hz0 hz1 hz2 rfl (by decide) rfl (hoX.ext (ext_alloc (ext_refl _) _)) rfl (Rd.new _ [.slice p2 ss.length q2, .int .i64 i] 80 2 1 (by decide) rfl) (by simp; exact ⟨rfl, rfl⟩) (by decide) (by omega) (by omega) ?_; intro v' w' o' hcase ho2 hmu) | (go_simp; go_at_call 67; refine (copyName_c ⟨_, rfl, r2⟩ (by omega)).mono ?_; rintro e w3 ⟨_, rfl, ⟨s2, rfl, os2⟩, y3⟩; obtain ⟨p2, q2, rfl, _⟩ := os2.rd.form; have c5 := cell_ext (show w2.drew.cell? _ = _ from c4) y3; have hoX := ho0.ext y3))
        all_goals
          have y4 := ext_alloc (ext_refl w3) (.cells #[.slice p2 ss.length q2, .int .i64 i] 80)
          have s4 : (w3.alloc (.cells #[.slice p2 ss.length q2, .int .i64 i] 80)).heap.size = w3.heap.size + 1 := by simp
          have s3 := y3.size
          have s5 := hmu.size
          have G := OwnT.grow (B := (w3.alloc (.cells #[.slice p2 ss.length q2, .int .i64 i] 80)).heap.size) rfl (((hin.ext y3).ext y4).apart hmu hap) hap h1 h2 ((os2.ext y4).mut hmu (.inr (by omega))) (Nat.le_refl _) hlo2 s3 (by omega) s5 hcase ho2 (by have := hoX.1; omega) (by omega)
          have x5 := hmu.ext (ext_trans (ext_trans yd2 y3) y4) (by omega)
          have HG := hid G
          have HX := hid x5
          clear G x5 hmu ho2 hcase os2 hoX c4 c5 y3 y4 hin ho0
          go_wp2
          go_roundw
          case rel => exact ⟨k + 1, by omega, by go_num, by rw [HZ.out, List.length_append]; exact HG.out, HX.out⟩
          case measure => simp [intOf]; omega
    · have e0 : xs.take k = xs := List.take_of_length_le (by rw [H1.out]; omega)
      rw [e0] at ho
      go_wp2
      go_ret
      exact gives_of _ ho hb
theorem implRemoveEntry_c {w : World} {lo hi lo' hi' n m : Nat} {v v' : Value} {xs : List (List ByteArray × Int)} {key : List ByteArray} (h : RdT w lo hi v n xs) (h' : RdN w lo' hi' v' m (key.map sv)) (hn : n ≤ 1099511627776) (hw : tw n xs ≤ 1099511627776) :
    Calls Try.prog 56 #[v, v'] w (Gives w fun r w' => OwnT w' w.heap.size w'.heap.size r (xs.filter (rmF key)).length (xs.filter (rmF key))) := by
  obtain ⟨p, rfl, h'⟩ := h'
  have x0 := ext_alloc (ext_refl w) (.cells #[p] 26)
  have s0 : (w.alloc (.cells #[p] 26)).heap.size = w.heap.size + 1 := by simp
  have C := hid (keepRemoveEntry_c (q := ⟨w.heap.size, 0, none⟩) (h.ext x0) (h'.ext x0) (by simp) hn hw)
  clear h h'
  go_enter Try.func56, Try.ntmps56
  go_wp2_with fail
  refine C.out.mono ?_
  rintro e w1 ⟨v1, rfl, o1, y1⟩
  have x := ext_trans x0 y1
  have o2 := o1.mono (show w.heap.size ≤ _ by omega) (Nat.le_refl _)
  clear C y1 x0 o1
  go_wp2
  go_ret
  exact gives_of _ o2 x
set_option maxRecDepth 100000 in
set_option maxHeartbeats 4000000 in
theorem keepEntriesUnder_c {w : World} {lo hi lo' hi' n m : Nat} {v p : Value} {q : Addr} {xs : List (List ByteArray × Int)} {key : List ByteArray} (h : RdT w lo hi v n xs) (h' : Rd w lo' hi' 1 p m (key.map sv)) (hq : w.cell? q = some p) (hn : n ≤ 1099511627776) (hw : tw n xs ≤ 1099511627776) :
    Calls Try.prog 113 #[v, .func (.func 117) #[] #[.pointer (some q)]] w (Gives w fun r w' => OwnT w' w.heap.size w'.heap.size r (xs.filter (unF key)).length (xs.filter (unF key))) := by
  obtain ⟨i0, hi0, hz0, hz1, hz2⟩ := info_parts info_entry
  have H1 := hid h.1
  have HW := hid hw
  have HR := hid h
  have HN := hid h'
  have HQ := hid hq
  have xa := ext_alloc (ext_refl w) (.cells #[] 80)
  have oa := OwnT.none_ (w.alloc (.cells #[] 80)) w.heap.size (w.alloc (.cells #[] 80)).heap.size (Nat.le_refl _) (by simp) (heap_alloc_new w _)
  obtain ⟨a, cap, rfl, hc, hcm⟩ := h.form
  clear h h' hw hq
  go_enter Try.func113, Try.ntmps113
  go_wp2
  go_loopw [5, 11] (fun u i wr => ∃ k : Nat, k ≤ n ∧ i = .int .i64 k ∧ OwnT wr w.heap.size wr.heap.size u ((xs.take k).filter (unF key)).length ((xs.take k).filter (unF key)) ∧ Below w.heap.size w wr) (fun _ i _ => n - (intOf i).toNat)
  case atStart => exact ⟨0, Nat.zero_le _, rfl, by simpa using oa, xa⟩
  case round =>
    obtain ⟨k, hk, rfl, ho, hb⟩ := hrel
    clear oa xa
    by_cases hlt : k < n
    · have hkx : k < xs.length := by rw [H1.out]; exact hlt
      obtain ⟨b, off, cp, s, hv, _, _, hbs, c1, c2, r1⟩ := (HR.out.ext hb).at_ hkx
      simp only [Value.slice.injEq, true_and] at hv
      obtain ⟨rfl, rfl⟩ := hv
      have hml := keep_len (f := unF key) xs k
      have hsl := tw_short HW.out hkx
      have HY := hid (fun (hf : unF key xs[k] = true) => keep_yes (f := unF key) hkx hf)
      have HNo := hid (fun (hf : unF key xs[k] = false) => keep_no (f := unF key) hkx hf)
      have i0' : (0 : Int) ≤ (k : Int) := by omega
      have i1' : (k : Int) < (n : Int) := by omega
      generalize (xs.take k).filter (unF key) = ys at *
      generalize hxk : xs[k] = e1 at *
      obtain ⟨ss, i⟩ := e1
      simp only at c2 r1 hsl
      obtain ⟨p1, q1, rfl, _⟩ := r1.form
      clear hxk
      have ya := ext_alloc (ext_refl wr) (.cells #[.slice p1 ss.length q1, .int .i64 i] 80)
      have ra := r1.ext ya
      have rp := (HN.out.ext hb).ext ya
      have cq := cell_ext (cell_ext HQ.out hb) ya
      have A0 : (wr.alloc (.cells #[.slice p1 ss.length q1, .int .i64 i] 80)).cell? ⟨wr.heap.size, 0, none⟩ = some (.slice p1 ss.length q1) := (Cell1.newAt wr _ _ 0 _ rfl).1
      have A1 : (wr.alloc (.cells #[.slice p1 ss.length q1, .int .i64 i] 80)).cell? ⟨wr.heap.size, 1, none⟩ = some (.int .i64 i) := (Cell1.newAt wr _ _ 1 _ rfl).1
      have hsz : (wr.alloc (.cells #[.slice p1 ss.length q1, .int .i64 i] 80)).heap.size = wr.heap.size + 1 := by simp
      rcases hF : unF key (ss, i) with _ | _
      · have HZ := hid (HNo.out hF)
        clear HY HNo
        have C := hid (isUnder_c (i := i) (b := false) ra rp cq hF)
        clear hF cq rp
        go_wp2_with fail
        refine C.out.mono ?_
        rintro e w2 ⟨_, rfl, rfl, y1⟩
        have yd := ext_trans (ext_trans hb ya) y1
        have ho' := ((ho.mono (Nat.le_refl _) (show wr.heap.size ≤ w2.heap.size from by have := y1.size; omega)).ext ya).ext y1
        have HG := hid ho'
        clear C c1 c2 r1 ra ho ho' y1 ya A0 A1
        go_wp2
        go_roundw
        case rel => exact ⟨k + 1, by omega, by go_num, by rw [HZ.out]; exact HG.out, yd⟩
        case measure => simp [intOf]; omega
      · have HZ := hid (HY.out hF)
        clear HY HNo
        have C := hid (isUnder_c (i := i) (b := true) ra rp cq hF)
        clear hF cq rp
        go_wp2_with fail
        refine C.out.mono ?_
        rintro e w2 ⟨_, rfl, rfl, y1⟩
        have yd := ext_trans (ext_trans hb ya) y1
        have ho' := ((ho.mono (Nat.le_refl _) (show wr.heap.size ≤ w2.heap.size from by have := y1.size; omega)).ext ya).ext y1
        have yd2 := Below.drew yd
        have r2 := (ra.ext y1).ext (Below.drew (ext_refl w2))
        have c3 := cell_ext A0 y1
        have c4 := cell_ext A1 y1
        obtain ⟨hxm, cs, oo, pp, ho0, h1, h2, hin, hap⟩ := ho'.ext (Below.drew (ext_refl w2))
        replace h2 : oo.2 ≤ w2.drew.heap.size := h2
        replace hin : Inn w2.drew w.heap.size w2.drew.heap.size cs pp ys ys.length := hin
        have hlo2 : w.heap.size ≤ w2.drew.heap.size := yd2.size
        clear C c1 c2 r1 ra ho ho' y1 ya A0 A1
        go_wp2_with fail
        go_region_law (first | (refine step_append_exact rfl (.tmp 18) (.tmp 25) 61 rfl 80 i0 (.agg #[.slice none 0 0, .int .i64 0]) 2 32 Try.underlying61 hi0 hz0 hz1 hz2 rfl (by decide) rfl (hoX.ext (ext_alloc (ext_refl _) _)) rfl (Rd.new _ [.slice p2 ss.length q2, .int .i64 i] 80 2 1 (by decide) rfl) (by simp; exact ⟨rfl, rfl⟩) (by decide) (by omega) (by omega) ?_; intro v' w' o' hcase ho2 hmu) | (go_simp; go_at_call 67; refine (copyName_c ⟨_, rfl, r2⟩ (by omega)).mono ?_; rintro e w3 ⟨_, rfl, ⟨s2, rfl, os2⟩, y3⟩; obtain ⟨p2, q2, rfl, _⟩ := os2.rd.form; have c5 := cell_ext (show w2.drew.cell? _ = _ from c4) y3; have hoX := ho0.ext y3))
        all_goals
          have y4 := ext_alloc (ext_refl w3) (.cells #[.slice p2 ss.length q2, .int .i64 i] 80)
          have s4 : (w3.alloc (.cells #[.slice p2 ss.length q2, .int .i64 i] 80)).heap.size = w3.heap.size + 1 := by simp
          have s3 := y3.size
          have s5 := hmu.size
          have G := OwnT.grow (B := (w3.alloc (.cells #[.slice p2 ss.length q2, .int .i64 i] 80)).heap.size) rfl (((hin.ext y3).ext y4).apart hmu hap) hap h1 h2 ((os2.ext y4).mut hmu (.inr (by omega))) (Nat.le_refl _) hlo2 s3 (by omega) s5 hcase ho2 (by have := hoX.1; omega) (by omega)
          have x5 := hmu.ext (ext_trans (ext_trans yd2 y3) y4) (by omega)
          have HG := hid G
          have HX := hid x5
          clear G x5 hmu ho2 hcase os2 hoX c4 c5 y3 y4 hin ho0
          go_wp2
          go_roundw
          case rel => exact ⟨k + 1, by omega, by go_num, by rw [HZ.out, List.length_append]; exact HG.out, HX.out⟩
          case measure => simp [intOf]; omega
    · have e0 : xs.take k = xs := List.take_of_length_le (by rw [H1.out]; omega)
      rw [e0] at ho
      go_wp2
      go_ret
      exact gives_of _ ho hb
theorem implEntriesUnder_c {w : World} {lo hi lo' hi' n m : Nat} {v v' : Value} {xs : List (List ByteArray × Int)} {key : List ByteArray} (h : RdT w lo hi v n xs) (h' : RdN w lo' hi' v' m (key.map sv)) (hn : n ≤ 1099511627776) (hw : tw n xs ≤ 1099511627776) :
    Calls Try.prog 58 #[v, v'] w (Gives w fun r w' => OwnT w' w.heap.size w'.heap.size r (xs.filter (unF key)).length (xs.filter (unF key))) := by
  obtain ⟨p, rfl, h'⟩ := h'
  have x0 := ext_alloc (ext_refl w) (.cells #[p] 26)
  have s0 : (w.alloc (.cells #[p] 26)).heap.size = w.heap.size + 1 := by simp
  have C := hid (keepEntriesUnder_c (q := ⟨w.heap.size, 0, none⟩) (h.ext x0) (h'.ext x0) (by simp) hn hw)
  clear h h'
  go_enter Try.func58, Try.ntmps58
  go_wp2_with fail
  refine C.out.mono ?_
  rintro e w1 ⟨v1, rfl, o1, y1⟩
  have x := ext_trans x0 y1
  have o2 := o1.mono (show w.heap.size ≤ _ by omega) (Nat.le_refl _)
  clear C y1 x0 o1
  go_wp2
  go_ret
  exact gives_of _ o2 x
end Go.Proofs.Ytcagbdidjakcpaa
