/- Tables that the reference draws, some not right (l6Any): their shape and their size. Condition: the cursor lies in a block of its own and reads its bytes. -/
import Derived.Test.YtcagbdidjakcpaaDt
import Derived.Test.YtcagbdidjakcpaaPx
import Derived.Test.YtcagbdidjakcpaaFi
set_option linter.unusedVariables false
namespace Go.Proofs.Ytcagbdidjakcpaa
open Go.RowKit
set_option maxRecDepth 100000 in
set_option maxHeartbeats 2000000 in
theorem l4Of_c {w : World} {s : ByteArray} (hm : s.size ≤ 1099511627776) :
    Calls Try.prog 132 #[.string s] w (Gives w fun r w' => RdN w' w.heap.size w'.heap.size r (pnm vn s).1.length ((pnm vn s).1.map sv)) := by
  obtain ⟨W, hW⟩ : ∃ W, W = w.alloc (.cells #[.slice none 0 0] 26) := ⟨_, rfl⟩
  have x0 : Below w.heap.size w W := by rw [hW]; exact ext_alloc (ext_refl w) _
  have hWs : W.heap.size = w.heap.size + 1 := by rw [hW]; simp
  have cB : Cell1 W ⟨w.heap.size, 0, none⟩ (.slice none 0 0) := by rw [hW]; exact Cell1.new w _ _
  have C := hid (specParseName_c (w := W) hm)
  go_enter Try.func132, Try.ntmps132
  go_wp2_with fail
  rw [← hW]
  clear hW
  refine C.out.mono ?_
  clear C
  rintro e w1 ⟨_, rfl, ⟨u1, rfl, ⟨s1', rfl, o1⟩⟩, y1⟩
  have s1 := y1.size
  have x1 := ext_trans x0 y1
  obtain ⟨a, cap, rfl, _⟩ := o1.form
  have ya := ext_alloc (ext_refl w1) (.cells #[.slice a (pnm vn s).1.length cap] 26)
  have c5 : (w1.alloc (.cells #[.slice a (pnm vn s).1.length cap] 26)).cell? ⟨w1.heap.size, 0, none⟩ = some (.slice a (pnm vn s).1.length cap) := (Cell1.new w1 _ _).1
  obtain ⟨cB3, fB3⟩ := (cB.ext y1).ext ya
  have x := ext_trans x1 ya
  have o2 := o1.ext ya
  have sa := ya.size
  generalize hV : w1.alloc (.cells #[.slice a (pnm vn s).1.length cap] 26) = V at *
  clear x0 x1 y1 ya cB o1
  go_wp2
  have M : ∀ u, Mut w.heap.size (w.heap.size + 1) V (V.setCell ⟨w.heap.size, 0, none⟩ u) := fun u => Mut.setCell _ (by simp only; omega) (by simp only; omega) _
  have k2 := (show Cell1 V ⟨w.heap.size, 0, none⟩ (.slice none 0 0) from ⟨cB3, fB3⟩).set (.slice a (pnm vn s).1.length cap)
  obtain ⟨k2a, k2b⟩ := k2
  exact bodyPost_ret (v := .agg #[.slice a (pnm vn s).1.length cap]) (by simp [results, Try.results132, go_sem, k2a]) rfl (gives_of _ ⟨_, rfl, (o2.mut (M _) (Or.inr (by omega))).mono (by omega) (by have := (M (.slice a (pnm vn s).1.length cap)).size; omega)⟩ ((M _).ext x (Nat.le_refl _)))
theorem RdT.mk {w : World} {lo hi n : Nat} {v : Value} {cs : List Value} {xs : List (List ByteArray × Int)} (h : Rd w lo hi 2 v n cs) (hx : xs.length = n) (hn : ∀ k e, xs[k]? = some e → ∃ s, cs[k * 2]? = some s ∧ cs[k * 2 + 1]? = some (.int .i64 e.2) ∧ Rd w lo hi 1 s e.1.length (e.1.map sv)) : RdT w lo hi v n xs := by
  obtain ⟨h1, a, cap, rfl, h2, h3, h4⟩ := h
  refine ⟨hx, a, cap, rfl, h2, h3, fun hp => ?_⟩
  obtain ⟨b, off, rfl, hl, hh, hb, hc⟩ := h4 hp
  refine ⟨b, off, rfl, hl, hh, hb, fun k e he => ?_⟩
  obtain ⟨s, c1, c2, r⟩ := hn k e he
  exact ⟨s, hc _ _ c1, by have := hc _ _ c2; rwa [← Nat.add_assoc] at this, r⟩
theorem TS.push {xs : List (List ByteArray × Int)} {e : List ByteArray × Int} (h : TS xs) (he : Small 7 e.1) : TS (xs ++ [e]) := fun x hx => by
  rcases List.mem_append.1 hx with hx | hx
  · exact h x hx
  · rw [List.mem_singleton.1 hx]; exact he
theorem TS.twice {xs : List (List ByteArray × Int)} (h : TS xs) : TS (xs ++ xs) := fun x hx => (List.mem_append.1 hx).elim (h x) (h x)
theorem zz_name : pnm vn ⟨#[47, 122, 122]⟩ = ([⟨#[122, 122]⟩], true) := by decide
theorem zz_small (t : ByteArray) (ht : t.size ≤ 13) : Small 7 (ap [⟨#[122, 122]⟩] (⟨#[112]⟩ ++ t)).1 := by
  have h1 : Small 1 [(⟨#[122, 122]⟩ : ByteArray)] := ⟨Nat.le_refl _, by intro s hs; rw [List.mem_singleton.1 hs]; decide⟩
  refine (Small.ap h1 ?_).up (by decide)
  rw [ByteArray.size_append]; show 1 + t.size ≤ 16; omega
theorem num_size {u : Nat} (h : u ≤ 1000000000000) : (dst (Lib.itoa (u : Int))).size ≤ 13 := by
  rw [dst_size, Lib.itoa, if_neg (by omega), Lib.decDigits_length]
  have h1 : ∀ k v, v < 10 ^ (k + 1) → Lib.nDigits v ≤ k + 1 := by
    intro k
    induction k with
    | zero => intro v hv; rw [Lib.nDigits_small (by omega)]; omega
    | succ k ih =>
      intro v hv
      by_cases hs : v < 10
      · rw [Lib.nDigits_small hs]; omega
      · rw [Lib.nDigits_big hs]
        have := ih (v / 10) (by rw [Nat.pow_succ] at hv; omega)
        omega
  exact h1 12 _ (by rw [show (10 : Nat) ^ (12 + 1) = 10000000000000 by decide]; omega)
def slLen : Value → Nat
  | .slice _ n _ => n
  | _ => 0
end Go.Proofs.Ytcagbdidjakcpaa
