/- Names that the reference draws: at most so many parts, each short. Condition: the cursor lies in a block of its own and reads its bytes. -/
import Derived.Test.YtoehjfcadhgpbaaDoorDr
import Derived.Test.YtoehjfcadhgpbaaDoorCur
import Derived.Test.YtoehjfcadhgpbaaDoorAp
import Derived.Test.YtoehjfcadhgpbaaDoorAppX
import Derived.Deep.RegionLaw
set_option linter.unusedVariables false
namespace Go.Proofs.YtoehjfcadhgpbaaDoor
open Go.RowKit
/-- At most N strings, each of at most 16 bytes. -/
def Small (N : Nat) (ss : List ByteArray) : Prop := ss.length ≤ N ∧ ∀ s ∈ ss, s.size ≤ 16
theorem Small.push {N : Nat} {ss : List ByteArray} {s : ByteArray} (h : Small N ss) (hs : s.size ≤ 16) : Small (N + 1) (ss ++ [s]) := by
  refine ⟨by have := h.1; simp; omega, fun t ht => ?_⟩
  rcases List.mem_append.1 ht with h1 | h1
  · exact h.2 t h1
  · rw [List.mem_singleton.1 h1]; exact hs
theorem Small.ap {N : Nat} {ss : List ByteArray} {s : ByteArray} (h : Small N ss) (hs : s.size ≤ 16) : Small (N + 1) (Go.Proofs.YtoehjfcadhgpbaaDoor.ap ss s).1 := by
  unfold Go.Proofs.YtoehjfcadhgpbaaDoor.ap
  split
  · refine ⟨by have := h.1; simp; omega, fun t ht => ?_⟩
    rcases List.mem_append.1 ht with h1 | h1
    · exact h.2 t h1
    · rw [List.mem_singleton.1 h1]; exact hs
  · exact ⟨Nat.le_succ_of_le h.1, h.2⟩
def nmL : List ByteArray := [⟨#[97]⟩, ⟨#[98]⟩, ⟨#[110, 101, 119, 115]⟩, ⟨#[120, 45, 49]⟩, ⟨#[49]⟩, ⟨#[107, 101, 121]⟩]
theorem nmL_small : ∀ s ∈ nmL, s.size ≤ 16 := by decide
set_option maxRecDepth 100000 in
set_option maxHeartbeats 4000000 in
theorem l4Name_c {w : World} {c lo hi n : Nat} {cv : Value} {xs : List UInt8} (hc : CurAt w c cv n) (hr : Rd w lo hi 1 cv n (xs.map bv)) (hd : c < lo ∨ hi ≤ c) (hhi : hi ≤ w.heap.size) (hcs : c < w.heap.size) :
    Calls Tryd.prog 92 #[.pointer (some ⟨c, 0, none⟩)] w fun e w' => ∃ (r : Value) (ss : List ByteArray), e = .returned r ∧ OwnN w' w.heap.size w'.heap.size r ss.length (ss.map sv) ∧ Small 3 ss ∧ CurAt w' c cv n ∧ Mut c (c + 1) w w' := by
  obtain ⟨W, hW⟩ : ∃ W, W = (w.alloc (.cells #[.slice none 0 0] 30)).alloc (.cells #[.slice none 0 0] 30) := ⟨_, rfl⟩
  have x0 : Below w.heap.size w W := by rw [hW]; exact ext_alloc (ext_alloc (ext_refl w) _) _
  have hWs : W.heap.size = w.heap.size + 2 := by rw [hW]; simp
  have cR : Cell1 W ⟨w.heap.size, 0, none⟩ (.slice none 0 0) := by rw [hW]; exact (Cell1.new w (.slice none 0 0) 30).ext (ext_alloc (ext_refl _) _)
  have cV : Cell1 W ⟨w.heap.size + 1, 0, none⟩ (.slice none 0 0) := by rw [hW]; simpa using Cell1.new (w.alloc (.cells #[.slice none 0 0] 30)) (.slice none 0 0) 30
  have C := hid (l1Below_c (m := 4) (hc.ext x0) (hr.ext x0) hd (by omega))
  have HR := hid hr
  clear hc hr
  go_enter Tryd.func92, Tryd.ntmps92
  go_wp2_with fail
  rw [← hW]
  clear hW
  refine C.out.mono ?_
  rintro e w1 ⟨x, rfl, xa, xb, hc1, m1⟩
  have hx4 : x ≤ 3 := by omega
  obtain ⟨x, rfl⟩ := Int.eq_ofNat_of_zero_le xa
  have cR1 := cR.mut m1 (.inr (by simp only; omega))
  have cV1 := cV.mut m1 (.inr (by simp only; omega))
  have s1 := m1.size
  have M1 := (Mut.of_ext (lo := c) (hi := c + 1) x0).trans m1
  clear C cR cV
  go_wp2
  go_loopw [4] (fun i wr => ∃ (k : Nat) (ss : List ByteArray) (v : Value), k ≤ 3 ∧ i = .int .i64 k ∧ Cell1 wr ⟨w.heap.size + 1, 0, none⟩ v ∧ Own wr (w.heap.size + 2) wr.heap.size 9 1 v ss.length (ss.map sv) ∧ Small (3 - k) ss ∧ CurAt wr c cv n ∧ Cell1 wr ⟨w.heap.size, 0, none⟩ (.slice none 0 0) ∧ w.heap.size + 2 ≤ wr.heap.size ∧ Mut c (c + 1) w wr) (fun i _ => (intOf i).toNat)
  case atStart => exact ⟨x, [], .slice none 0 0, by omega, rfl, cV1, Own.none_ _ _ _ _ _ _, ⟨by simp, by simp⟩, hc1, cR1, by omega, M1⟩
  case round =>
    obtain ⟨k, ss, v, hk, rfl, hV, hv, hsm, hcu, hRb, hsz, hM⟩ := hrel
    clear hc1 cR1 cV1 M1 m1 s1
    obtain ⟨a, cap, rfl, _⟩ := hv.rd.form
    by_cases hk0 : 0 < k
    · obtain ⟨hV1, hV2⟩ := hV
      obtain ⟨j, rfl⟩ : ∃ j, k = j + 1 := ⟨k - 1, by omega⟩
      have hcu0 := hcu
      have yb : Below wr.heap.size wr (wr.alloc (.cells #[.string { data := #[97] }, .string { data := #[98] }, .string { data := #[110, 101, 119, 115] }, .string { data := #[120, 45, 49] }, .string { data := #[49] }, .string { data := #[107, 101, 121] }] 9)).drew := Below.drew (ext_alloc (ext_refl wr) _)
      have rl : Rd (wr.alloc (.cells #[.string { data := #[97] }, .string { data := #[98] }, .string { data := #[110, 101, 119, 115] }, .string { data := #[120, 45, 49] }, .string { data := #[49] }, .string { data := #[107, 101, 121] }] 9)).drew wr.heap.size (wr.heap.size + 1) 1 (.slice (some ⟨wr.heap.size, 0, none⟩) 6 6) 6 (nmL.map sv) := (Rd.new wr (nmL.map sv) 9 1 6 (by decide) rfl).ext (Below.drew (ext_refl _))
      have hcV := hcu.ext yb
      have hrV := (HR.out.mut hM (by omega)).ext yb
      have hvV := hv.rd.ext yb
      have hVV := Cell1.ext ⟨hV1, hV2⟩ yb
      have hRV := hRb.ext yb
      have hM2 := hM.trans (Mut.of_ext (lo := c) (hi := c + 1) yb)
      have hlt1 : w.heap.size + 1 < wr.heap.size := by omega
      have CS := hid (l1Str_c hcV hrV hd rl (.inl (by omega)) (by decide))
      have sV := yb.size
      clear hcV hrV
      go_wp2_with fail
      go_region_law (first
        | (go_simp; go_at_call 71; refine CS.out.mono ?_; rintro e w2 ⟨t, ht, rfl, hc2, m2⟩; have rv2 := hvV.mut m2 (.inr (by omega)); have hV2' := hVV.mut m2 (.inr (by simp only; omega)); have hRb2 := hRV.mut m2 (.inr (by simp only; omega)); have s2 := m2.size; have hts := nmL_small t ht; obtain ⟨hVa, hVb⟩ := id hV2')
        | (go_simp; go_at_call 100; refine (specAppendPart_c ⟨_, rfl, rv2⟩ (by have := hsm.1; omega) (fun s hs => by have := hsm.2 s hs; omega) (by omega)).mono ?_; rintro e w3 ⟨_, rfl, ⟨u, rfl, ⟨s3, rfl, o3⟩⟩, y3⟩; obtain ⟨a3, c3, rfl, _⟩ := o3.rd.form; have hV3 := hV2'.ext y3; obtain ⟨hVc, hVd⟩ := id hV3))
      all_goals
        have s3 := y3.size
        have m4 := Mut.setCell w3 (lo := w.heap.size + 1) (hi := w.heap.size + 2) (p := ⟨w.heap.size + 1, 0, none⟩) (by simp) (by simp) (.slice a3 (ap ss t).1.length c3)
        have hM3 := hid (((hM2.trans m2).trans (Mut.of_ext y3)).newer (p := ⟨w.heap.size + 1, 0, none⟩) (by simp only; omega) (.slice a3 (ap ss t).1.length c3))
        have hV4 := hid (hV3.set (.slice a3 (ap ss t).1.length c3))
        have r4 := hid ((o3.mut m4 (.inr (by omega))).mono (show w.heap.size + 2 ≤ w2.heap.size by omega) m4.size)
        have hc4 := hid ((hc2.ext y3).mut m4 (.inl (by omega)))
        have hR4 := hid ((hRb2.ext y3).mut m4 (.inl (by simp)))
        have hS4 := hid (hsm.ap hts)
        have hz4 := m4.size
        clear hM hM2 hcu hcu0 hRb hv hvV hVV hRV CS m2 m4 y3 o3 hc2 rv2 hV2' hRb2 hV3 hVa hVb hVc hVd rl yb hV1 hV2
        go_wp2
        go_roundw
        case rel => exact ⟨j, _, _, by omega, (by first | rfl | go_num), hV4.out, r4.out, by have := hS4.out; rwa [show 3 - (j + 1) + 1 = 3 - j by omega] at this, hc4.out, hR4.out, by omega, hM3.out⟩
        case measure => simp [intOf]
    · have hk00 : k = 0 := by omega
      subst hk00
      obtain ⟨hV1, hV2⟩ := hV
      obtain ⟨hR1, hR2⟩ := hRb
      go_wp2
      have m5 := Mut.setCell wr (lo := w.heap.size) (hi := w.heap.size + 1) (p := ⟨w.heap.size, 0, none⟩) (by simp) (by simp) (.slice a ss.length cap)
      exact bodyPost_ret (v := .agg #[_]) (by simp [results, Tryd.results92, go_sem, hR1]) rfl ⟨_, ss, rfl, ⟨_, rfl, (hv.mut m5 (.inr (by omega))).mono (by omega) m5.size⟩, ⟨by have := hsm.1; omega, hsm.2⟩, hcu.mut m5 (.inl (by omega)), hM.newer (p := ⟨w.heap.size, 0, none⟩) (by simp) _⟩
end Go.Proofs.YtoehjfcadhgpbaaDoor
