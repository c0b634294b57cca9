/- The name and the string of DrawAppendPart. Condition: the bytes read, and are not too many. -/
import Derived.Test.YtcagbdidjakcpaaDy
set_option linter.unusedVariables false
namespace Go.Proofs.Ytcagbdidjakcpaa
open Go.RowKit
def apL : List ByteArray := [⟨#[97]⟩, ⟨#[]⟩, ⟨#[90]⟩, ⟨#[115, 101, 103, 45, 49]⟩]
theorem apL_small : ∀ s ∈ apL, s.size ≤ 16 := by decide
/-- A small new name and a short string. -/
def NameS (w : World) (N : Nat) (r : Value) (w' : World) : Prop := ∃ (v1 : Value) (a : List ByteArray) (t : ByteArray), r = .tuple #[v1, .string t] ∧ RdN w' w.heap.size w'.heap.size v1 a.length (a.map sv) ∧ Small N a ∧ t.size ≤ 16
set_option maxRecDepth 100000 in
set_option maxHeartbeats 4000000 in
theorem DrawAppendPart_c {w : World} {lo hi n : Nat} {cv : Value} {xs : List UInt8} (hr : Rd w lo hi 1 cv n (xs.map bv)) (hn : n ≤ 1099511627776) (hhi : hi ≤ w.heap.size) :
    Calls Try.prog 10 #[cv] w (Gives w (NameS w 7)) := by
  obtain ⟨W, hW⟩ : ∃ W, W = w.alloc (.cells #[.slice none 0 0] 26) := ⟨_, rfl⟩
  have x0 : Below w.heap.size w W := by rw [hW]; exact ext_alloc (ext_refl w) _
  have hWs : W.heap.size = w.heap.size + 1 := by rw [hW]; simp
  have cR : Cell1 W ⟨w.heap.size, 0, none⟩ (.slice none 0 0) := by rw [hW]; exact Cell1.new w (.slice none 0 0) 26
  have C := hid (l1New_c (hr.ext x0) hn)
  have HR := hid hr
  clear hr
  go_enter Try.func10, Try.ntmps10
  go_wp2_with fail
  rw [← hW]
  clear hW
  refine C.out.mono ?_
  rintro e w1 ⟨rfl, hc1, y1⟩
  have z1 := y1.size
  have x1 := ext_trans x0 y1
  have s1 := World.block_lt_of_cell? _ _ hc1.choose_spec.choose_spec.1
  simp only at s1
  rw [hWs] at hc1 s1 ⊢
  have cR1 := cR.ext y1
  have C := hid (l4Any_c hc1 (HR.out.ext x1) (.inr (by omega)) (by omega) s1)
  clear hc1 cR y1
  go_wp2_with fail
  refine C.out.mono ?_
  rintro e w2 ⟨r, ss, rfl, ⟨s, rfl, o2⟩, hsm, hc2, m2⟩
  obtain ⟨a, cap, rfl, _⟩ := o2.rd.form
  have s2 := m2.size
  have M2 := hid (Mut.ext x1 m2 (by omega))
  have cR2 := cR1.mut m2 (.inl (by simp only; omega))
  have y2 := ext_alloc (ext_refl w2) (.cells #[.slice a ss.length cap] 26)
  obtain ⟨w3, hV⟩ : ∃ V, V = w2.alloc (.cells #[.slice a ss.length cap] 26) := ⟨_, rfl⟩
  have cT : w3.cell? ⟨w2.heap.size, 0, none⟩ = some (.slice a ss.length cap) := by rw [hV]; simp
  have hVs : w3.heap.size = w2.heap.size + 1 := by rw [hV]; simp
  rw [← hV] at y2
  have Z := hid (ext_trans M2.out y2)
  have o3 := o2.ext y2
  have cR3 := cR2.ext y2
  have hc3 := hc2.ext y2
  have yb : Below w3.heap.size w3 (w3.alloc (.cells #[.string { data := #[97] }, .string { data := #[] }, .string { data := #[90] }, .string { data := #[115, 101, 103, 45, 49] }] 9)).drew := Below.drew (ext_alloc (ext_refl w3) _)
  have rl : Rd (w3.alloc (.cells #[.string { data := #[97] }, .string { data := #[] }, .string { data := #[90] }, .string { data := #[115, 101, 103, 45, 49] }] 9)).drew w3.heap.size (w3.heap.size + 1) 1 (.slice (some ⟨w3.heap.size, 0, none⟩) 4 4) 4 (apL.map sv) := (Rd.new w3 (apL.map sv) 9 1 4 (by decide) rfl).ext (Below.drew (ext_refl _))
  have hrV := HR.out.ext (ext_trans Z.out yb)
  have CS := hid (l1Str_c (hc3.ext yb) hrV (.inr (by omega)) rl (.inl (by omega)) (by decide))
  have cd := cell_ext cT yb
  have cda := cell_ext cT (Below.drew (ext_refl w3))
  have od := o3.ext yb
  have Rd4 := cR3.ext yb
  have Zd := ext_trans Z.out yb
  have qb := yb.size
  have hV1 : w2.heap.size < w3.heap.size := by omega
  have hV2 : w.heap.size + 1 < w3.heap.size := by omega
  have hV3 : w.heap.size < w3.heap.size := by omega
  clear hVs
  clear hc2 o2 y2 m2 M2 cR1 cR2 hrV hc3 cT o3 Z rl yb
  go_wp2_with fail
  rw [← hV]
  clear hV
  go_region_law (first
    | (go_simp; go_at_call 65; refine CS.out.mono ?_; rintro e w4 ⟨t, ht, rfl, hc4, m4⟩; have q4 := m4.size; replace cd := cell_mut cd m4 (.inr (by simp only; omega)); have R5 := Rd4.mut m4 (.inl (by simp only; omega)); obtain ⟨R5a, R5b⟩ := id R5))
  all_goals
    have hts := apL_small t ht
    have oF := od.mut m4 (.inr (by omega))
    have ZF := Mut.ext Zd m4 (by omega)
    have n3 := Mut.setCell w4 (lo := w.heap.size) (hi := w.heap.size + 1) (p := ⟨w.heap.size, 0, none⟩) (by simp) (by simp) (.slice a ss.length cap)
    have k2 := R5.set (.slice a ss.length cap)
    have F1 := hid ((oF.rd.mut n3 (.inr (by omega))).mono (show w.heap.size ≤ _ by omega) (Nat.le_trans (show w2.heap.size ≤ w4.heap.size by omega) n3.size))
    have F3 := hid (n3.ext ZF (Nat.le_refl _))
    obtain ⟨k2a, k2b⟩ := k2
    clear oF ZF n3 R5 CS cd od Rd4 hc4 m4
    go_wp2
    exact bodyPost_ret (v := .tuple #[.agg #[.slice a ss.length cap], .string t]) (by simp [results, Try.results10, go_sem, k2a]) rfl (gives_of _ ⟨_, ss, t, rfl, ⟨_, rfl, F1.out⟩, hsm, hts⟩ F3.out)
end Go.Proofs.Ytcagbdidjakcpaa
