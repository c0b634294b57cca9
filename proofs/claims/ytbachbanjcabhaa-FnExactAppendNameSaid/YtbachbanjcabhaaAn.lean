/- AppendName of both sides: a name is put behind bytes. Condition: the values read as bytes and strings of a size that fits. -/
import Derived.Test.YtbachbanjcabhaaVn
import Derived.Test.YtbachbanjcabhaaRb
import Derived.Test.YtbachbanjcabhaaCb
set_option linter.unusedVariables false
namespace Go.Proofs.Ytbachbanjcabhaa
open Go.RowKit
def anP (bs : List UInt8) (xs : List ByteArray) (k : Nat) : List UInt8 := (xs.take k).foldl (fun acc s => av acc s.size ++ s.data.toList) (av bs xs.length)
/-- The bytes with the name behind them, if it is valid. -/
def an (bs : List UInt8) (xs : List ByteArray) : List UInt8 := if vn xs = true then anP bs xs xs.length else bs
theorem anP_step (bs : List UInt8) (xs : List ByteArray) (k : Nat) (h : k < xs.length) : anP bs xs (k + 1) = av (anP bs xs k) (xs[k].size : Nat) ++ xs[k].data.toList := by
  unfold anP
  rw [List.take_succ_eq_append_getElem h, List.foldl_append]
  rfl
theorem vp_size {s : ByteArray} (h : vp s = true) : s.size ≤ 8 := by
  unfold vp at h
  simp only [Bool.and_eq_true, decide_eq_true_eq] at h
  omega
theorem anP_len (bs : List UInt8) (xs : List ByteArray) (k : Nat) (hk : k ≤ xs.length) (hx : ∀ s ∈ xs, s.size ≤ 8) : (anP bs xs k).length ≤ bs.length + 7 + 15 * k := by
  induction k with
  | zero => have := av_len bs (xs.length : Nat); unfold anP; simp; omega
  | succ k ih =>
    rw [anP_step bs xs k (by omega), List.length_append]
    have h1 := av_len (anP bs xs k) (xs[k].size : Nat)
    have h2 := hx xs[k] (List.getElem_mem _)
    have h3 := ih (by omega)
    have h4 : xs[k].data.toList.length = xs[k].size := by simp
    omega
theorem vn_sizes {xs : List ByteArray} (h : vn xs = true) : xs.length ≤ 6 ∧ ∀ s ∈ xs, s.size ≤ 8 := by
  unfold vn at h
  simp only [Bool.and_eq_true, decide_eq_true_eq, List.all_eq_true] at h
  exact ⟨h.2, fun s hs => vp_size (h.1 s hs)⟩
theorem an_len (bs : List UInt8) (xs : List ByteArray) : (an bs xs).length ≤ bs.length + 97 := by
  unfold an
  split
  · rename_i h
    obtain ⟨h1, h2⟩ := vn_sizes h
    have := anP_len bs xs xs.length (Nat.le_refl _) h2
    omega
  · omega
set_option maxRecDepth 100000 in
set_option maxHeartbeats 1000000 in
theorem specAppendName_c {w : World} {lo hi lo' hi' m n : Nat} {v v' : Value} {bs : List UInt8} {xs : List ByteArray} (h : Rd w lo hi 1 v m (bs.map bv)) (h' : RdN w lo' hi' v' n (xs.map sv)) (hm : m ≤ 1099511620) (hs : ∀ s ∈ xs, s.size ≤ 9223372036854775807) :
    Calls Try.prog 60 #[v, v'] w (Gives w fun r w' => Own w' w.heap.size w'.heap.size 5 1 r (an bs xs).length ((an bs xs).map bv)) := by
  obtain ⟨s, rfl, h'⟩ := h'
  obtain ⟨i0, hi0, hz0, hz1, hz2⟩ := info_parts info_byte
  have hbl : bs.length = m := by have := h.1; simpa using this
  have hxl : xs.length = n := by have := h'.1; simpa using this
  obtain ⟨b0, c0, rfl, _⟩ := h.form
  obtain ⟨W, hW⟩ : ∃ W, W = w.alloc (.cells #[s] 34) := ⟨_, rfl⟩
  have x0 : Below w.heap.size w W := by rw [hW]; exact ext_alloc (ext_refl w) _
  have hWs : W.heap.size = w.heap.size + 1 := by rw [hW]; simp
  have cS : W.cell? ⟨w.heap.size, 0, none⟩ = some s := by rw [hW]; simp
  have r0 := h.ext x0
  have r1 := h'.ext x0
  obtain ⟨a, cap, rfl, _⟩ := h'.form
  have HB := hid hbl
  have HX := hid hxl
  have HS := hid hs
  have HAn : Hid (an bs xs = if vn xs = true then anP bs xs xs.length else bs) := rfl
  have HVS := hid (fun hv => vn_sizes (xs := xs) hv)
  clear h h' hbl hxl hs
  have o0 := Own.new W #[] 5 1 0 (by decide) rfl
  have r0' := r0.ext (ext_alloc (ext_refl W) (.cells #[] 5))
  rw [hWs] at o0
  rw [hW] at o0 r0'
  go_enter Try.func60, Try.ntmps60
  go_wp2_with (at_builtin; refine wpList_append_Own rfl _ _ 68 rfl 5 i0 (.int .u8 0) 1 1 Try.underlying68 hi0 hz0 hz1 hz2 rfl (by decide) rfl o0 rfl r0' (bv_one bs) (by omega) (by omega) (by simp) ?_)
  intro v1 w1 ho hmu
  rw [← hW] at hmu
  have y1 := Mut.ext (ext_alloc (ext_refl W) (.cells #[] 5)) hmu (by omega)
  have s1 := y1.size
  have o1 : Own w1 (w.heap.size + 1) w1.heap.size 5 1 v1 m (bs.map bv) := by simpa using ho
  replace r1 := r1.ext y1
  replace cS := cell_ext cS y1
  have x1 := ext_trans x0 y1
  clear hmu ho o0 r0' y1 hW hi0 hz0 hz1 hz2 r0
  go_wp2_with fail
  refine (specValidName_c ⟨_, rfl, r1⟩ HS.out).mono ?_
  rintro e w2 ⟨_, rfl, rfl, y2⟩
  have s2 := y2.size
  replace o1 := o1.ext y2
  replace r1 := r1.ext y2
  replace cS := cell_ext cS y2
  have x2 := ext_trans x1 y2
  clear y2 x1 x0
  cases hv : vn xs
  · have HA := hid (show an bs xs = bs by rw [HAn.out, if_neg (by rw [hv]; decide)])
    clear hv HAn HVS
    go_wp2
    go_ret
    exact gives_of _ (by rw [HA.out, HB.out]; exact o1.mono (by omega) (by omega)) x2
  have HA := hid (show an bs xs = anP bs xs xs.length by rw [HAn.out, if_pos hv])
  obtain ⟨hx6, hx8⟩ := HVS.out hv
  rw [HX.out] at hx6
  have HX8 := hid hx8
  clear hv HAn HVS hx8
  go_wp2_with fail
  refine (specAppendVarint_c o1.rd (by omega)).mono ?_
  rintro e w3 ⟨v3, rfl, o3, y3⟩
  have s3 := y3.size
  replace r1 := r1.ext y3
  replace cS := cell_ext cS y3
  have x3 := ext_trans x2 y3
  have o3' : Own w3 w.heap.size w3.heap.size 5 1 v3 (anP bs xs 0).length ((anP bs xs 0).map bv) := by
    have e : anP bs xs 0 = av bs (n : Int) := by unfold anP; rw [HX.out]; rfl
    rw [e]
    exact o3.mono (by omega) (Nat.le_refl _)
  clear y3 x2 o1 o3
  obtain ⟨_, _, _, e1, _, _, hat⟩ := r1
  simp only [Value.slice.injEq, true_and] at e1
  obtain ⟨rfl, rfl⟩ := e1
  go_wp2
  go_loopw [5, 6] (fun u i wr => ∃ k : Nat, k ≤ n ∧ i = .int .i64 k ∧ Own wr w.heap.size wr.heap.size 5 1 u (anP bs xs k).length ((anP bs xs k).map bv) ∧ Below w3.heap.size w3 wr) (fun _ i _ => n - (intOf i).toNat)
  case atStart => exact ⟨0, Nat.zero_le _, rfl, o3', ext_refl _⟩
  case round =>
    obtain ⟨k, hk, rfl, ho, hb⟩ := hrel
    clear o3'
    by_cases hlt : k < n
    · obtain ⟨b, off, rfl, _, _, hbs, hcell⟩ := hat (by omega)
      have hkx : k < xs.length := by rw [HX.out]; exact hlt
      have c1 : wr.cell? ⟨b, off + k, none⟩ = some (.string xs[k]) := (hb.cell (by exact hbs)).trans (hcell k _ (by simp [hkx, sv]))
      have cS1 := cell_ext cS hb
      have hz := HX8.out xs[k] (List.getElem_mem hkx)
      have hz2 : xs[k].data.toList.length = xs[k].size := by simp
      obtain ⟨g, W1, hr, r2, y4⟩ := conv_bytes (P := Try.prog) wr xs[k] 9 68 5 Try.underlying9 Try.underlying68 Try.underlying5 (by omega)
      have ho1 := ho.ext y4
      have s4 := y4.size
      have hal := anP_len bs xs k (by omega) HX8.out
      rw [HB.out] at hal
      have HN := hid (anP_step bs xs k hkx)
      have HZ2 := hid hz2
      clear hcell hat ho hz2
      generalize hsk : xs[k] = t at *
      have HSK := hid hsk
      clear hsk
      go_wp2_with fail
      refine (specAppendBytes_c ho1.rd r2 (by omega) (by omega)).mono ?_
      rintro e w5 ⟨v5, rfl, o5, y5⟩
      have s5 := y5.size
      have hb5 := ext_trans (ext_trans hb y4) y5
      clear hr r2 ho1 y4 y5 c1 cS1
      go_wp2
      go_roundw
      case rel => exact ⟨k + 1, by omega, by go_num, by rw [HN.out, List.length_append, HZ2.out]; exact o5.mono (by have := hb.size; have := x3.size; omega) (Nat.le_refl _), hb5⟩
      case measure => simp [intOf]; omega
    · have hkn : k = n := by omega
      subst hkn
      have cS1 := cell_ext cS hb
      go_wp2
      go_ret
      exact gives_of _ (by rw [HA.out, HX.out]; exact ho) (ext_trans x3 hb)
set_option maxRecDepth 100000 in
set_option maxHeartbeats 1000000 in
theorem implAppendName_c {w : World} {lo hi lo' hi' m n : Nat} {v v' : Value} {bs : List UInt8} {xs : List ByteArray} (h : Rd w lo hi 1 v m (bs.map bv)) (h' : RdN w lo' hi' v' n (xs.map sv)) (hm : m ≤ 1099511620) (hs : ∀ s ∈ xs, s.size ≤ 9223372036854775807) :
    Calls Try.prog 62 #[v, v'] w (Gives w fun r w' => Own w' w.heap.size w'.heap.size 5 1 r (an bs xs).length ((an bs xs).map bv)) := by
  obtain ⟨s, rfl, h'⟩ := h'
  obtain ⟨i0, hi0, hz0, hz1, hz2⟩ := info_parts info_byte
  have hbl : bs.length = m := by have := h.1; simpa using this
  have hxl : xs.length = n := by have := h'.1; simpa using this
  obtain ⟨b0, c0, rfl, _⟩ := h.form
  obtain ⟨W, hW⟩ : ∃ W, W = w.alloc (.cells #[s] 34) := ⟨_, rfl⟩
  have x0 : Below w.heap.size w W := by rw [hW]; exact ext_alloc (ext_refl w) _
  have hWs : W.heap.size = w.heap.size + 1 := by rw [hW]; simp
  have cS : W.cell? ⟨w.heap.size, 0, none⟩ = some s := by rw [hW]; simp
  have r0 := h.ext x0
  have r1 := h'.ext x0
  obtain ⟨a, cap, rfl, _⟩ := h'.form
  have HB := hid hbl
  have HX := hid hxl
  have HS := hid hs
  have HAn : Hid (an bs xs = if vn xs = true then anP bs xs xs.length else bs) := rfl
  have HVS := hid (fun hv => vn_sizes (xs := xs) hv)
  clear h h' hbl hxl hs
  go_enter Try.func62, Try.ntmps62
  go_wp2_with fail
  rw [← hW]
  refine (implValidName_c ⟨_, rfl, r1⟩ HS.out).mono ?_
  rintro e w2 ⟨_, rfl, rfl, y2⟩
  have s2 := y2.size
  replace r0 := r0.ext y2
  replace r1 := r1.ext y2
  replace cS := cell_ext cS y2
  have x2 := ext_trans x0 y2
  clear y2 x0 hW hi0 hz0 hz1 hz2
  cases hv : vn xs
  · have HA := hid (show an bs xs = bs by rw [HAn.out, if_neg (by rw [hv]; decide)])
    clear hv HAn HVS
    go_wp2_with fail
    refine (cloneByte_c r0 (by omega)).mono ?_
    rintro e w3 ⟨v3, rfl, o3, y3⟩
    have x3 := ext_trans x2 y3
    clear r0 r1 y3
    go_wp2
    go_ret
    exact gives_of _ (by rw [HA.out, HB.out]; exact o3.mono (by omega) (Nat.le_refl _)) x3
  have HA := hid (show an bs xs = anP bs xs xs.length by rw [HAn.out, if_pos hv])
  obtain ⟨hx6, hx8⟩ := HVS.out hv
  rw [HX.out] at hx6
  have HX8 := hid hx8
  clear hv HAn HVS hx8
  go_wp2_with fail
  refine (implAppendVarint_c r0 (by omega)).mono ?_
  rintro e w3 ⟨v3, rfl, o3, y3⟩
  have s3 := y3.size
  replace r1 := r1.ext y3
  replace cS := cell_ext cS y3
  have x3 := ext_trans x2 y3
  have o3' : Own w3 w.heap.size w3.heap.size 5 1 v3 (anP bs xs 0).length ((anP bs xs 0).map bv) := by
    have e : anP bs xs 0 = av bs (n : Int) := by unfold anP; rw [HX.out]; rfl
    rw [e]
    exact o3.mono (by omega) (Nat.le_refl _)
  clear y3 x2 r0 o3
  obtain ⟨_, _, _, e1, _, _, hat⟩ := r1
  simp only [Value.slice.injEq, true_and] at e1
  obtain ⟨rfl, rfl⟩ := e1
  go_wp2
  go_loopw [5, 7, 21] (fun u _q i wr => ∃ k : Nat, k ≤ n ∧ i = .int .i64 k ∧ Own wr w.heap.size wr.heap.size 5 1 u (anP bs xs k).length ((anP bs xs k).map bv) ∧ Below w3.heap.size w3 wr) (fun _ _q i _ => n - (intOf i).toNat)
  case atStart => exact ⟨0, Nat.zero_le _, rfl, o3', ext_refl _⟩
  case round =>
    obtain ⟨k, hk, rfl, ho, hb⟩ := hrel
    clear o3'
    by_cases hlt : k < n
    · obtain ⟨b, off, rfl, _, _, hbs, hcell⟩ := hat (by omega)
      have hkx : k < xs.length := by rw [HX.out]; exact hlt
      have c1 : wr.cell? ⟨b, off + k, none⟩ = some (.string xs[k]) := (hb.cell (by exact hbs)).trans (hcell k _ (by simp [hkx, sv]))
      have cS1 := cell_ext cS hb
      have hz := HX8.out xs[k] (List.getElem_mem hkx)
      have hz2 : xs[k].data.toList.length = xs[k].size := by simp
      obtain ⟨g, W1, hr, r2, y4⟩ := conv_bytes (P := Try.prog) wr xs[k] 9 68 5 Try.underlying9 Try.underlying68 Try.underlying5 (by omega)
      have ho1 := ho.ext y4
      have s4 := y4.size
      have hal := anP_len bs xs k (by omega) HX8.out
      rw [HB.out] at hal
      have HN := hid (anP_step bs xs k hkx)
      have HZ2 := hid hz2
      clear hcell hat ho hz2
      generalize hsk : xs[k] = t at *
      have HSK := hid hsk
      clear hsk
      go_wp2_with fail
      refine (implAppendBytes_c ho1.rd r2 (by omega) (by omega)).mono ?_
      rintro e w5 ⟨v5, rfl, o5, y5⟩
      have s5 := y5.size
      have hb5 := ext_trans (ext_trans hb y4) y5
      clear hr r2 ho1 y4 y5 c1 cS1
      go_wp2
      go_roundw
      case rel => exact ⟨k + 1, by omega, by go_num, by rw [HN.out, List.length_append, HZ2.out]; exact o5.mono (by have := hb.size; have := x3.size; omega) (Nat.le_refl _), hb5⟩
      case measure => simp [intOf]; omega
    · have hkn : k = n := by omega
      subst hkn
      have cS1 := cell_ext cS hb
      go_wp2
      go_ret
      exact gives_of _ (by rw [HA.out, HX.out]; exact ho) (ext_trans x3 hb)
end Go.Proofs.Ytbachbanjcabhaa
