/- FormatInt by the reference: the decimal numeral. Condition: the int is one. -/
import Derived.Test.YtcagbdidjakcpaaBytesS
import Derived.Test.YtcagbdidjakcpaaNum
import Derived.Test.YtcagbdidjakcpaaConv
import Derived.Lib.ItoaNum
set_option linter.unusedVariables false
namespace Go.Proofs.Ytcagbdidjakcpaa
open Go.RowKit
def dst (l : List UInt8) : ByteArray := ⟨l.toArray⟩
theorem dst_append (l r : List UInt8) : dst l ++ dst r = dst (l ++ r) := by
  apply ByteArray.ext
  simp [dst]
theorem dst_size (l : List UInt8) : (dst l).size = l.length := by simp [dst, ByteArray.size]
/-- A loop under way: acc is laid, j is left, f digits are to come at most. -/
def Fi (m f j : Nat) (acc : List UInt8) : Prop := (0 < j → Lib.decDigits m = Lib.decDigits j ++ acc) ∧ (j = 0 → Lib.decDigits m = acc) ∧ j < 10 ^ f ∧ acc.length + f ≤ 19
theorem Fi.start {m : Nat} (h0 : 0 < m) (h : m ≤ 9223372036854775808) : Fi m 19 m [] := ⟨fun _ => by simp, fun h => by omega, by rw [show (10 : Nat) ^ 19 = 10000000000000000000 by decide]; omega, by simp⟩
theorem Fi.next {m f j : Nat} {acc : List UInt8} (h : Fi m f j acc) (hj : 0 < j) : ∃ f', f = f' + 1 ∧ Fi m f' (j / 10) (UInt8.ofNat (48 + j % 10) :: acc) := by
  obtain ⟨h1, h2, h3, h4⟩ := h
  cases f with
  | zero => rw [Nat.pow_zero] at h3; omega
  | succ f =>
    have h5 := h1 hj
    rw [Nat.pow_succ] at h3
    refine ⟨f, rfl, fun hp => ?_, fun hz => ?_, by omega, by simp only [List.length_cons]; omega⟩
    · rw [h5, Lib.decDigits, dif_neg (by omega), List.append_assoc, List.singleton_append]
    · rw [h5, Lib.decDigits, dif_pos (by omega), Nat.mod_eq_of_lt (show j < 10 by omega), List.singleton_append]
set_option maxRecDepth 100000 in
set_option maxHeartbeats 2000000 in
theorem specFormatInt_c {w : World} {n : Int} (hn0 : -9223372036854775808 ≤ n) (hn1 : n ≤ 9223372036854775807) :
    Calls Try.prog 133 #[.int .i64 n] w (Gives w fun r _ => r = .string (dst (Lib.itoa n))) := by
  by_cases hz : n = 0
  · subst hz
    go_enter Try.func133, Try.ntmps133
    go_wp2
    go_ret
    exact gives_string (by rw [Lib.itoa, if_neg (by omega), show (0 : Int).toNat = 0 from rfl, Lib.decDigits_one (by omega)]; rfl) (ext_refl _)
  have hz1 : (n == 0) = false := beq_eq_false_iff_ne.2 hz
  by_cases hs : n < 0
  · obtain ⟨m, hm, hm0, hm1⟩ : ∃ m : Nat, n = -(m : Int) ∧ 0 < m ∧ m ≤ 9223372036854775808 := ⟨n.natAbs, by omega, by omega, by omega⟩
    have HM := hid hm
    have HS := hid (Fi.start hm0 hm1)
    have hI := hid (show Lib.itoa n = 45 :: Lib.decDigits m by rw [Lib.itoa, if_pos hs, hm]; simp)
    clear hm hz
    go_enter Try.func133, Try.ntmps133
    go_wp2
    go_loopw [4, 3] (fun q u wr => ∃ (x : Int) (j f : Nat) (acc : List UInt8), Hid (x = -(j : Int)) ∧ -9223372036854775808 ≤ x ∧ x ≤ 0 ∧ acc.length ≤ 19 ∧ q = .int .i64 x ∧ u = .string (dst acc) ∧ Hid (Fi m f j acc) ∧ Below w.heap.size w wr) (fun q _ _ => (- intOf q).toNat)
    case atStart => exact ⟨n, m, 19, [], HM, by omega, by omega, by simp, rfl, rfl, HS, ext_refl w⟩
    case round =>
      obtain ⟨x, j, f, acc, HX, hx0, hx1, ha, rfl, rfl, HF, hb⟩ := hrel
      by_cases hlt : 0 < j
      · obtain ⟨f', hf, hn⟩ := HF.out.next hlt
        have hac : acc.length < 19 := by have := HF.out.2.2.2; omega
        have HN := hid hn
        have hX := HX.out
        obtain ⟨y, hy⟩ : ∃ y, x.tmod 10 = y := ⟨_, rfl⟩
        obtain ⟨z, hz⟩ : ∃ z, x.tdiv 10 = z := ⟨_, rfl⟩
        have hyj : y = -((j % 10 : Nat) : Int) := by rw [← hy, hX, Int.neg_tmod, Int.tmod_eq_emod_of_nonneg (by omega)]; omega
        have hzj : z = -((j / 10 : Nat) : Int) := by rw [← hz, hX, Int.neg_tdiv, Int.tdiv_eq_ediv_of_nonneg (by omega)]; omega
        obtain ⟨D, hD⟩ : ∃ D, -y = D := ⟨_, rfl⟩
        have HD := hid (show D = ((j % 10 : Nat) : Int) by omega)
        have HZ := hid hzj
        have hx2 : x < 0 := by omega
        have e0 : (x == 0) = false := beq_eq_false_iff_ne.2 (by omega)
        have e1 : (x != 0) = true := by rw [bne, e0]; rfl
        have hz0 : -9223372036854775808 ≤ z := by omega
        have hz1' : z ≤ 0 := by omega
        have hD0 : 0 ≤ D := by omega
        have hD1 : D ≤ 9 := by omega
        have hy1 : -9 ≤ y := by omega
        have hy2 : y ≤ 0 := by omega
        have HR := hid (show z = -((j / 10 : Nat) : Int) ∧ -9223372036854775808 ≤ z ∧ z ≤ 0 ∧ (-z).toNat < (-x).toNat by omega)
        clear hn hf HF hX hyj hzj
        by_cases hy0 : y < 0
        · have g0 : decide (y < 0) = true := decide_eq_true hy0
          have k1 := run_str (P := Try.prog) (w := wr.alloc (.cells #[.int .u8 (48 + D)] 5)) (xs := [UInt8.ofNat (48 + j % 10)]) (a := some ⟨wr.heap.size, 0, none⟩) (n := 1) (cap := 1) (lo := wr.heap.size) (hi := wr.heap.size + 1)
            (by
              have e : [UInt8.ofNat (48 + j % 10)].map bv = [Value.int .u8 (48 + D)] := by
                simp only [List.map_cons, List.map_nil, bv, UInt8.toNat_ofNat']
                rw [Nat.mod_eq_of_lt (by omega)]
                first
                  | (congr 2; have := HD.out; omega)
                  | (congr 1; have := HD.out; omega)
                  | (congr 2; done)
                  | rfl
              rw [e]
              exact Rd.new wr [.int .u8 (48 + D)] 5 1 1 (by decide) rfl) 22 9 5 Try.underlying22 Try.underlying5 Try.underlying9
          rw [show (⟨[UInt8.ofNat (48 + j % 10)].toArray⟩ : ByteArray) = dst [UInt8.ofNat (48 + j % 10)] from rfl] at k1
          have q2 := dst_append [UInt8.ofNat (48 + j % 10)] acc
          have q3 := dst_size [UInt8.ofNat (48 + j % 10)]
          have q4 := dst_size acc
          generalize UInt8.ofNat (48 + j % 10) = c at q2 q3 k1 HN
          generalize dst [c] = s1 at q2 q3 k1
          have Q2 := hid q2
          clear q2
          generalize dst acc = s2 at Q2 q4
          have z3 : s1.size ≤ 1 := by rw [q3]; simp
          have z4 : s2.size ≤ 19 := by rw [q4]; exact ha
          clear q3 q4
          go_wp2
          go_roundw
          case rel => exact ⟨z, j / 10, f', c :: acc, hid HR.out.1, HR.out.2.1, HR.out.2.2.1, by simp; omega, (by first | rfl | go_num), by rw [Q2.out]; rfl, HN, ext_alloc hb _⟩
          case measure => have := HR.out.2.2.2; simp [intOf] <;> omega
        · have hy00 : y = 0 := by omega
          have hD00 : D = 0 := by omega
          subst hy00
          subst hD00
          clear hD
          have k1 := run_str (P := Try.prog) (w := wr.alloc (.cells #[.int .u8 48] 5)) (xs := [UInt8.ofNat (48 + j % 10)]) (a := some ⟨wr.heap.size, 0, none⟩) (n := 1) (cap := 1) (lo := wr.heap.size) (hi := wr.heap.size + 1)
            (by
              have e : [UInt8.ofNat (48 + j % 10)].map bv = [Value.int .u8 48] := by
                simp only [List.map_cons, List.map_nil, bv, UInt8.toNat_ofNat']
                rw [Nat.mod_eq_of_lt (by omega)]
                first
                  | (congr 2; have := HD.out; omega)
                  | (congr 1; have := HD.out; omega)
                  | (congr 2; done)
                  | rfl
              rw [e]
              exact Rd.new wr [.int .u8 48] 5 1 1 (by decide) rfl) 22 9 5 Try.underlying22 Try.underlying5 Try.underlying9
          rw [show (⟨[UInt8.ofNat (48 + j % 10)].toArray⟩ : ByteArray) = dst [UInt8.ofNat (48 + j % 10)] from rfl] at k1
          have q2 := dst_append [UInt8.ofNat (48 + j % 10)] acc
          have q3 := dst_size [UInt8.ofNat (48 + j % 10)]
          have q4 := dst_size acc
          generalize UInt8.ofNat (48 + j % 10) = c at q2 q3 k1 HN
          generalize dst [c] = s1 at q2 q3 k1
          have Q2 := hid q2
          clear q2
          generalize dst acc = s2 at Q2 q4
          have z3 : s1.size ≤ 1 := by rw [q3]; simp
          have z4 : s2.size ≤ 19 := by rw [q4]; exact ha
          clear q3 q4
          go_wp2
          go_roundw
          case rel => exact ⟨z, j / 10, f', c :: acc, hid HR.out.1, HR.out.2.1, HR.out.2.2.1, by simp; omega, (by first | rfl | go_num), by rw [Q2.out]; rfl, HN, ext_alloc hb _⟩
          case measure => have := HR.out.2.2.2; simp [intOf] <;> omega
      · have hj0 : j = 0 := by omega
        subst hj0
        have hx00 : x = 0 := by have := HX.out; omega
        subst hx00
        have HDn := hid (HF.out.2.1 rfl)
        have Q := hid (dst_append [45] acc)
        have q4 := dst_size acc
        clear HF
        generalize dst acc = s2 at Q q4
        have z4 : s2.size ≤ 19 := by rw [q4]; exact ha
        clear q4
        have g1 : decide (n < 0) = true := decide_eq_true hs
        go_wp2
        go_ret
        exact gives_string (by rw [hI.out, HDn.out]; exact Q.out) hb
  · obtain ⟨m, rfl⟩ := Int.eq_ofNat_of_zero_le (show 0 ≤ n by omega)
    have hm0 : 0 < m := by omega
    have HS := hid (Fi.start hm0 (by omega))
    have hI := hid (show Lib.itoa (m : Int) = Lib.decDigits m by rw [Lib.itoa, if_neg hs]; simp)
    have g1 : decide ((m : Int) < 0) = false := decide_eq_false hs
    have hmx : m ≤ 9223372036854775807 := by omega
    clear hz
    go_enter Try.func133, Try.ntmps133
    go_wp2
    go_loopw [4, 3] (fun q u wr => ∃ (j f : Nat) (acc : List UInt8), j ≤ 9223372036854775807 ∧ acc.length ≤ 19 ∧ q = .int .i64 j ∧ u = .string (dst acc) ∧ Hid (Fi m f j acc) ∧ Below w.heap.size w wr) (fun q _ _ => (intOf q).toNat)
    case atStart => exact ⟨m, 19, [], hmx, by simp, rfl, rfl, HS, ext_refl w⟩
    case round =>
      obtain ⟨j, f, acc, hx1, ha, rfl, rfl, HF, hb⟩ := hrel
      by_cases hlt : 0 < j
      · obtain ⟨f', hf, hn⟩ := HF.out.next hlt
        have hac : acc.length < 19 := by have := HF.out.2.2.2; omega
        have HN := hid hn
        have e0 : ((j : Int) == 0) = false := beq_eq_false_iff_ne.2 (by omega)
        have e1 : ((j : Int) != 0) = true := by rw [bne, e0]; rfl
        have hlt1 : (0 : Int) < (j : Int) := by omega
        have HD := hid (show (j : Int) % 10 = ((j % 10 : Nat) : Int) by omega)
        have g2 : 0 ≤ (j : Int) % 10 := by omega
        have g3 : (j : Int) % 10 < 10 := by omega
        have g4 : decide ((j : Int) % 10 < 0) = false := decide_eq_false (by omega)
        clear hn hf HF
        have k1 := run_str (P := Try.prog) (w := wr.alloc (.cells #[.int .u8 (48 + (j : Int) % 10)] 5)) (xs := [UInt8.ofNat (48 + j % 10)]) (a := some ⟨wr.heap.size, 0, none⟩) (n := 1) (cap := 1) (lo := wr.heap.size) (hi := wr.heap.size + 1)
          (by
            have e : [UInt8.ofNat (48 + j % 10)].map bv = [Value.int .u8 (48 + (j : Int) % 10)] := by
              simp only [List.map_cons, List.map_nil, bv, UInt8.toNat_ofNat']
              rw [Nat.mod_eq_of_lt (by omega)]
              first
                | (congr 2; have := HD.out; omega)
                | (congr 1; have := HD.out; omega)
                | (congr 2; done)
                | rfl
            rw [e]
            exact Rd.new wr [.int .u8 (48 + (j : Int) % 10)] 5 1 1 (by decide) rfl) 22 9 5 Try.underlying22 Try.underlying5 Try.underlying9
        rw [show (⟨[UInt8.ofNat (48 + j % 10)].toArray⟩ : ByteArray) = dst [UInt8.ofNat (48 + j % 10)] from rfl] at k1
        have q2 := dst_append [UInt8.ofNat (48 + j % 10)] acc
        have q3 := dst_size [UInt8.ofNat (48 + j % 10)]
        have q4 := dst_size acc
        generalize UInt8.ofNat (48 + j % 10) = c at q2 q3 k1 HN
        generalize dst [c] = s1 at q2 q3 k1
        have Q2 := hid q2
        clear q2
        generalize dst acc = s2 at Q2 q4
        have z3 : s1.size ≤ 1 := by rw [q3]; simp
        have z4 : s2.size ≤ 19 := by rw [q4]; exact ha
        clear q3 q4
        go_wp2
        go_roundw
        case rel => exact ⟨j / 10, f', c :: acc, by omega, by simp; omega, by go_num, by rw [Q2.out]; rfl, HN, ext_alloc hb _⟩
        case measure => simp [intOf] <;> omega
      · have hj0 : j = 0 := by omega
        subst hj0
        have HDn := hid (HF.out.2.1 rfl)
        clear HF
        go_wp2
        go_ret
        exact gives_string (by rw [hI.out, HDn.out]) hb
end Go.Proofs.Ytcagbdidjakcpaa
