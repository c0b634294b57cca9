/- The marks of the laws' helpers on strings: markText, markStringS, heldStringS. Conditions: the marks are from 1 on and small; the slice reads as strings. -/
import Derived.Test.YtoehjfcadhgpbaaDoorStrsS
import Derived.Test.YtoehjfcadhgpbaaDoorConv
import Derived.Deep.RegionHeld3
namespace Go.Proofs.YtoehjfcadhgpbaaDoor
open Go.RowKit
/-- The decimal digits of k ahead of acc. -/
def mtF : Nat → Nat → List UInt8 → List UInt8
  | 0, _, acc => acc
  | f + 1, k, acc => if k = 0 then acc else mtF f (k / 10) (UInt8.ofNat (48 + k % 10) :: acc)
def mt (k : Nat) : ByteArray := ⟨(109 :: mtF 13 k []).toArray⟩
/-- A loop under way. -/
def Mt (k0 f k : Nat) (acc : List UInt8) : Prop := mtF 13 k0 [] = mtF f k acc ∧ k < 10 ^ f ∧ acc.length + f = 13
def bs (l : List UInt8) : ByteArray := ⟨l.toArray⟩
theorem bs_append (l r : List UInt8) : bs l ++ bs r = bs (l ++ r) := by
  apply ByteArray.ext
  simp [bs, ByteArray.data_append]
theorem bs_size (l : List UInt8) : (bs l).size = l.length := by simp [bs, ByteArray.size]
theorem Mt.start (k : Nat) (h : k < 10000000000000) : Mt k 13 k [] := ⟨rfl, by rw [show (10 : Nat) ^ 13 = 10000000000000 by decide]; exact h, rfl⟩
theorem Mt.next {k0 f k : Nat} {acc : List UInt8} (h : Mt k0 f k acc) (hk : 0 < k) : ∃ f', f = f' + 1 ∧ Mt k0 f' (k / 10) (UInt8.ofNat (48 + k % 10) :: acc) := by
  obtain ⟨h1, h2, h3⟩ := h
  cases f with
  | zero => simp at h2; omega
  | succ f =>
    refine ⟨f, rfl, ?_, ?_, by simp; omega⟩
    · rw [h1, mtF, if_neg (by omega)]
    · rw [Nat.pow_succ] at h2; omega
theorem Mt.done {k0 f : Nat} {acc : List UInt8} (h : Mt k0 f 0 acc) : mt k0 = bs (109 :: acc) := by
  unfold mt bs
  rw [h.1]
  cases f <;> rfl
set_option maxRecDepth 100000 in
set_option maxHeartbeats 1000000 in
theorem markText_c {w : World} {k : Nat} (h0 : 0 < k) (h1 : k ≤ 1000000000000) :
    Calls Tryd.prog 89 #[.int .i64 k] w (Gives w fun r _ => r = .string (mt k)) := by
  have HS := Mt.start k (by omega)
  have h2 : (0 : Int) < (k : Int) := by omega
  go_enter Tryd.func89, Tryd.ntmps89
  go_wp2
  go_loopw [0, 3] (fun q u wr => ∃ (j f : Nat) (acc : List UInt8), j ≤ 1000000000000 ∧ acc.length ≤ 13 ∧ q = .int .i64 j ∧ u = .string (bs acc) ∧ Hid (Mt k f j acc) ∧ Below w.heap.size w wr) (fun q _ _ => (intOf q).toNat)
  case atStart => exact ⟨k, 13, [], h1, by simp, rfl, rfl, HS, ext_refl w⟩
  case round =>
    obtain ⟨j, f, acc, hj, ha, rfl, rfl, HM, hb⟩ := hrel
    clear HS
    by_cases hlt : 0 < j
    · obtain ⟨f', hf, hn⟩ := HM.out.next hlt
      have hlt1 : (0 : Int) < (j : Int) := by omega
      have hac : acc.length < 13 := by have := HM.out.2.2; omega
      have HN := hid hn
      clear hn hf HM
      have hm10 : 0 ≤ (j : Int) % 10 ∧ (j : Int) % 10 < 10 := by omega
      obtain ⟨g1, g2⟩ := hm10
      have k1 := run_str (P := Tryd.prog) (w := wr.alloc (.cells #[.int .u8 (48 + (j : Int) % 10)] 5)) (xs := [UInt8.ofNat (48 + j % 10)]) (a := some ⟨wr.heap.size, 0, none⟩) (n := 1) (cap := 1) (lo := wr.heap.size) (hi := wr.heap.size + 1)
        (by
          have e : [UInt8.ofNat (48 + j % 10)].map bv = [Value.int .u8 (48 + (j : Int) % 10)] := by
            simp only [List.map_cons, List.map_nil, bv, UInt8.toNat_ofNat']
            rw [Nat.mod_eq_of_lt (by omega)]
            congr 2
          rw [e]
          exact Rd.new wr [.int .u8 (48 + (j : Int) % 10)] 5 1 1 (by decide) rfl) 35 9 5 Tryd.underlying35 Tryd.underlying5 Tryd.underlying9
      rw [show (⟨[UInt8.ofNat (48 + j % 10)].toArray⟩ : ByteArray) = bs [UInt8.ofNat (48 + j % 10)] from rfl] at k1
      have q2 := bs_append [UInt8.ofNat (48 + j % 10)] acc
      have q3 := bs_size [UInt8.ofNat (48 + j % 10)]
      have q4 := bs_size acc
      generalize UInt8.ofNat (48 + j % 10) = c at q2 q3 k1 HN
      generalize bs [c] = s1 at q2 q3 k1
      have Q2 := hid q2
      clear q2
      generalize bs acc = s2 at Q2 q4
      have z3 : s1.size ≤ 1 := by rw [q3]; simp
      have z4 : s2.size ≤ 13 := by rw [q4]; exact ha
      clear q3 q4
      go_wp2
      go_roundw
      case rel => exact ⟨j / 10, f', c :: acc, by omega, by simp; omega, by go_num, by rw [Q2.out]; rfl, HN, ext_alloc hb _⟩
      case measure => simp [intOf]; omega
    · have hj0 : j = 0 := by omega
      subst hj0
      have HD := hid HM.out.done
      have Q := hid (bs_append [109] acc)
      have q4 := bs_size acc
      clear HM
      generalize bs acc = s2 at Q q4
      have z4 : s2.size ≤ 13 := by rw [q4]; exact ha
      clear q4
      go_wp2
      go_ret
      exact gives_string (by rw [HD.out]; exact Q.out) hb

/-- The marks from k on. -/
def marksString (k n : Nat) : List Value := (List.range n).map fun (i : Nat) => .string (mt (k + i))
theorem marksString_len (k n : Nat) : (marksString k n).length = n := by simp [marksString]
theorem marksString_at (k n i : Nat) (h : i < n) : (marksString k n)[i]? = some (.string (mt (k + i))) := by simp [marksString, h]
theorem markStringS_c {w : World} {lo hi n : Nat} {v : Value} {zs : List Value} (h : Own w lo hi 9 1 v n zs) {k0 : Nat} (h1 : 0 < k0) (h2 : k0 ≤ 100000000000) (hn : n ≤ 100000000000) :
    Calls Tryd.prog 59 #[v, .int .i64 k0] w fun e w' => e = .returned (.int .i64 ((k0 + n : Nat) : Int)) ∧ Own w' lo hi 9 1 v n (marksString k0 n) ∧ Mut lo hi w w' := by
  have hl := h.1
  rw [Nat.mul_one] at hl
  have H0 := hid hl
  have HL : Hid (zs.length = (marksString k0 n).length) := by rw [Hid, marksString_len, hl]
  clear hl
  have hr := h.rd
  obtain ⟨_, a, cap, rfl, hc, hm, _⟩ := hr
  go_enter Tryd.func59, Tryd.ntmps59
  go_wp2
  go_loopw [1, 5] (fun q i wr => ∃ k : Nat, k ≤ n ∧ i = .int .i64 k ∧ q = .int .i64 ((k0 + k : Nat) : Int) ∧ Own wr lo hi 9 1 (.slice a n cap) n (mix (marksString k0 n) zs k) ∧ Mut lo hi w wr) (fun _ i _ => n - (intOf i).toNat)
  case atStart => exact ⟨0, Nat.zero_le _, rfl, by simp, by rw [mix_zero]; exact h, Mut.refl _ _ _⟩
  case round =>
    obtain ⟨k, hk, rfl, rfl, ho, hb⟩ := hrel
    clear h
    by_cases hlt : k < n
    · have hm' := marksString_at k0 n k hlt
      have HM := hid hm'
      clear hm'
      obtain ⟨j, hj⟩ : ∃ j, j = k0 + k := ⟨_, rfl⟩
      rw [← hj] at HM ⊢
      have hj1 : 0 < j := by omega
      have hj2 : j ≤ 1000000000000 := by omega
      have HJ := hid hj
      clear hj
      go_wp2_with fail
      refine (markText_c hj1 hj2).mono ?_
      rintro e w1 ⟨_, rfl, rfl, y1⟩
      have ho1 := ho.ext y1
      have hb1 := hb.trans (Mut.of_ext y1)
      clear ho y1
      obtain ⟨g, cp, hv, _, _, _, _, hgs, hfz, hcl, hst⟩ := ho1.at_ (by omega)
      simp only [Value.slice.injEq, true_and] at hv
      obtain ⟨rfl, rfl⟩ := hv
      have f1 := hfz k
      obtain ⟨z, hz⟩ : ∃ z, zs[k]? = some z := ⟨_, List.getElem?_eq_getElem (by rw [H0.out]; exact hlt)⟩
      have c2 := hcl k z (by rw [mix_get _ _ k (by rw [marksString_len]; exact hlt)]; exact hz)
      obtain ⟨ho', hmu⟩ := hst k (.string (mt j))
      rw [mix_set _ _ k HL.out _ HM.out] at ho'
      clear hfz hcl hst ho1 hz
      go_wp2
      go_roundw
      case rel => exact ⟨k + 1, by omega, by go_num, by rw [HJ.out]; go_num, ho', hb1.trans hmu⟩
      case measure => simp [intOf]; omega
    · have hkn : k = n := by omega
      subst hkn
      go_wp2
      go_ret
      refine ⟨rfl, ?_, hb⟩
      rwa [mix_all _ _ k (by rw [marksString_len]; omega) (by rw [H0.out]; omega)] at ho
theorem keep_cell {w W w1 : World} {p : Addr} {v : Value} (h : W.cell? p = some v ∧ Below w.heap.size w W) (y : Below W.heap.size W w1) : w1.cell? p = some v ∧ Below w.heap.size w w1 :=
  ⟨(y.cell (World.block_lt_of_cell? W p h.1)).trans h.1, ext_trans h.2 y⟩
set_option maxRecDepth 100000 in
set_option maxHeartbeats 1000000 in
theorem heldStringS_c {w : World} {lo hi n : Nat} {v : Value} {k0 : Nat} (h : Rd w lo hi 1 v n (marksString k0 n)) (h1 : 0 < k0) (h2 : k0 ≤ 100000000000) (hn : n ≤ 100000000000) :
    Calls Tryd.prog 60 #[v, .int .i64 k0] w (Gives w fun r _ => r = .int .i64 ((k0 + n : Nat) : Int)) := by
  obtain ⟨_, a, cap, rfl, hc, hm, hat⟩ := h
  go_enter Tryd.func60, Tryd.ntmps60
  go_wp2
  go_loopw [1, 5] (fun q i wr => ∃ k : Nat, k ≤ n ∧ i = .int .i64 k ∧ q = .int .i64 ((k0 + k : Nat) : Int) ∧ Below w.heap.size w wr) (fun _ i _ => n - (intOf i).toNat)
  case atStart => exact ⟨0, Nat.zero_le _, rfl, by simp, ext_refl _⟩
  case round =>
    obtain ⟨k, hk, rfl, rfl, hb⟩ := hrel
    by_cases hlt : k < n
    · obtain ⟨b, off, rfl, _, _, hbs, hcell⟩ := hat (by omega)
      have c1 : wr.cell? ⟨b, off + k, none⟩ = some (.string (mt (k0 + k))) := (hb.cell (by exact hbs)).trans (hcell k _ (marksString_at k0 n k hlt))
      have hbr : b < wr.heap.size := Nat.lt_of_lt_of_le hbs hb.size
      clear hcell hat
      obtain ⟨j, hj⟩ : ∃ j, j = k0 + k := ⟨_, rfl⟩
      rw [← hj] at c1 ⊢
      have hj1 : 0 < j := by omega
      have hj2 : j ≤ 1000000000000 := by omega
      have HJ := hid hj
      clear hj
      have i0 : (0 : Int) ≤ (k : Int) := by omega
      have i1 : (k : Int) < (n : Int) := by omega
      have e1 : ((mt j).toList == (mt j).toList) = true := by simp
      go_wp2_with fail
      go_region_held3 (fun w' => w'.cell? ⟨b, off + k, none⟩ = some (.string (mt j)) ∧ Below w.heap.size w w')
        (first
          | exact ⟨c1, Below.drew hb⟩
          | exact keep_cell (by assumption) y1)
        (first
          | (go_at_call 89
             refine (markText_c hj1 hj2).mono ?_
             rintro e w1 ⟨_, rfl, rfl, y1⟩))
      have hb1 := ext_trans (Below.drew hb) y1
      clear y1 c1
      go_wp2
      go_roundw
      case rel => exact ⟨k + 1, by omega, by go_num, by rw [HJ.out]; go_num, hb1⟩
      case measure => simp [intOf]; omega
    · have hkn : k = n := by omega
      subst hkn
      go_wp2
      go_ret
      exact gives_int rfl hb
end Go.Proofs.YtoehjfcadhgpbaaDoor
