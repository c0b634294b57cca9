/- The draws of the reference: a cursor over bytes; what it yields is small. Condition: the cursor lies in a block of its own and reads its bytes. -/
import Derived.Test.YtoehjfcadhgpbaaDoorBytesS
import Derived.Test.YtoehjfcadhgpbaaDoorStrsS
import Derived.Test.YtoehjfcadhgpbaaDoorNum
import Derived.BigQuiet
import Derived.Laws.BitsLemmas
set_option linter.unusedVariables false
namespace Go.Proofs.YtoehjfcadhgpbaaDoor
open Go.RowKit
theorem and255 (n : Int) : bits .and .i64 n 255 = n % 256 := by
  have h127 : (BitVec.ofInt 64 255).toNat = 2 ^ 8 - 1 := by decide
  have key : (BitVec.ofInt 64 n &&& BitVec.ofInt 64 255).toNat = (n % ((2 ^ 64 : Nat) : Int)).toNat % 2 ^ 8 := by
    rw [BitVec.toNat_and, BitVec.toNat_ofInt, h127, Nat.and_two_pow_sub_one_eq_mod]
  show IntKind.i64.wrap ((BitVec.ofInt 64 n &&& BitVec.ofInt 64 255).toNat : Nat) = n % 256
  rw [key, IntKind.wrap_i64]
  omega
theorem and30 (n : Int) : bits .and .i64 n 1073741823 = n % 1073741824 := by
  have h127 : (BitVec.ofInt 64 1073741823).toNat = 2 ^ 30 - 1 := by decide
  have key : (BitVec.ofInt 64 n &&& BitVec.ofInt 64 1073741823).toNat = (n % ((2 ^ 64 : Nat) : Int)).toNat % 2 ^ 30 := by
    rw [BitVec.toNat_and, BitVec.toNat_ofInt, h127, Nat.and_two_pow_sub_one_eq_mod]
  show IntKind.i64.wrap ((BitVec.ofInt 64 n &&& BitVec.ofInt 64 1073741823).toNat : Nat) = n % 1073741824
  rw [key, IntKind.wrap_i64]
  omega
/-- A cursor over n bytes in block c. -/
def CurAt (w : World) (c : Nat) (cv : Value) (n : Nat) : Prop := ∃ i h : Int, w.cell? ⟨c, 0, none⟩ = some cv ∧ w.cell? ⟨c, 1, none⟩ = some (.int .i64 i) ∧ w.cell? ⟨c, 2, none⟩ = some (.int .i64 h) ∧
  w.frozen? ⟨c, 1, none⟩ = false ∧ w.frozen? ⟨c, 2, none⟩ = false ∧ 0 ≤ i ∧ i ≤ (n : Int) ∧ -9223372036854775808 ≤ h ∧ h ≤ 9223372036854775807
set_option maxRecDepth 100000 in
set_option maxHeartbeats 2000000 in
theorem l1Byte_c {w : World} {c lo hi n : Nat} {cv : Value} {xs : List UInt8} (hc : CurAt w c cv n) (hr : Rd w lo hi 1 cv n (xs.map bv)) (hd : c < lo ∨ hi ≤ c) :
    Calls Tryd.prog 93 #[.pointer (some ⟨c, 0, none⟩)] w fun e w' => ∃ x : Int, e = .returned (.int .i64 x) ∧ 0 ≤ x ∧ x ≤ 255 ∧ CurAt w' c cv n ∧ Mut c (c + 1) w w' := by
  obtain ⟨i, h, c0, c1, c2, f1, f2, hi0, hi1, hh0, hh1⟩ := hc
  obtain ⟨a, cap, rfl, hn⟩ := hr.form
  go_enter Tryd.func93, Tryd.ntmps93
  go_wp2
  have hwb : -9223372036854775808 ≤ wrap64 (wrap64 (h * 6364136223846793005) + 1442695040888963407) ∧ wrap64 (wrap64 (h * 6364136223846793005) + 1442695040888963407) ≤ 9223372036854775807 := by unfold wrap64; omega
  generalize wrap64 (wrap64 (h * 6364136223846793005) + 1442695040888963407) = h1 at *
  have m1 : Mut c (c + 1) w (w.setCell ⟨c, 2, none⟩ (.int .i64 h1)) := Mut.setCell w (p := ⟨c, 2, none⟩) (by simp) (by simp) _
  have r1 := hr.mut m1 (by omega)
  have d0 : (w.setCell ⟨c, 2, none⟩ (.int .i64 h1)).cell? ⟨c, 0, none⟩ = some (.slice a n cap) := (World.cell?_setCell_other w _ _ _ (by simp)).trans c0
  have d1 : (w.setCell ⟨c, 2, none⟩ (.int .i64 h1)).cell? ⟨c, 1, none⟩ = some (.int .i64 i) := (World.cell?_setCell_other w _ _ _ (by simp)).trans c1
  have d2 : (w.setCell ⟨c, 2, none⟩ (.int .i64 h1)).cell? ⟨c, 2, none⟩ = some (.int .i64 h1) := World.cell?_setCell_same w _ _ c2
  have g1 : (w.setCell ⟨c, 2, none⟩ (.int .i64 h1)).frozen? ⟨c, 1, none⟩ = false := by rw [World.frozen?_setCell]; exact f1
  have g2 : (w.setCell ⟨c, 2, none⟩ (.int .i64 h1)).frozen? ⟨c, 2, none⟩ = false := by rw [World.frozen?_setCell]; exact f2
  clear c0 c1 c2 f1 f2 hr
  generalize w.setCell ⟨c, 2, none⟩ (.int .i64 h1) = w1 at *
  have e255 : ∀ z, bits .and .i64 z 255 = z % 256 := and255
  have hnn : n ≤ 9223372036854775807 := hn
  by_cases hin : i < (n : Int)
  · obtain ⟨k, rfl⟩ := Int.eq_ofNat_of_zero_le hi0
    have hkn : k < n := by omega
    obtain ⟨hlen, a', cap', e1, _, _, hat⟩ := r1
    rw [List.length_map, Nat.mul_one] at hlen
    simp only [Value.slice.injEq, true_and] at e1
    obtain ⟨rfl, rfl⟩ := e1
    obtain ⟨b, off, rfl, _, _, hbs, hcell⟩ := hat (by omega)
    have hxl : k < xs.length := by omega
    have c3 : w1.cell? ⟨b, off + k, none⟩ = some (.int .u8 (xs[k].toNat : Int)) := hcell k _ (by simp [hxl, bv])
    have hb0 : (0 : Int) ≤ (xs[k].toNat : Int) := by omega
    have hb1 : (xs[k].toNat : Int) ≤ 255 := by have := UInt8.toNat_lt xs[k]; omega
    have i0 : (0 : Int) ≤ (k : Int) := by omega
    clear hcell hat
    generalize (xs[k].toNat : Int) = y at *
    go_quiet (fail)
    have hx1 : 0 ≤ bits BinOp.xor IntKind.i64 (h1 / 8589934592) (h1 / 140737488355328) % 256 ∧ bits BinOp.xor IntKind.i64 (h1 / 8589934592) (h1 / 140737488355328) % 256 ≤ 255 := by omega
    generalize bits BinOp.xor IntKind.i64 (h1 / 8589934592) (h1 / 140737488355328) % 256 = x1 at *
    obtain ⟨x1a, x1b⟩ := hx1
    go_wp2
    go_quiet (fail)
    go_wp2
    go_quiet (fail)
    go_wp2
    go_ret
    refine ⟨_, rfl, by omega, by omega, ⟨(k : Int) + 1, h1, ?_, ?_, ?_, ?_, ?_, by omega, by omega, hwb.1, hwb.2⟩, ?_⟩
    · exact (World.cell?_setCell_other _ _ _ _ (by simp)).trans d0
    · exact World.cell?_setCell_same _ _ _ d1
    · exact (World.cell?_setCell_other _ _ _ _ (by simp)).trans d2
    · rw [World.frozen?_setCell]; exact g1
    · rw [World.frozen?_setCell]; exact g2
    · exact (m1.trans (Mut.of_ext (by first | exact ext_drewN _ _ | exact ext_trans (ext_drewN _ _) (ext_drewN _ _) | exact ext_trans (ext_trans (ext_drewN _ _) (ext_drewN _ _)) (ext_drewN _ _)))).trans (Mut.setCell _ (p := ⟨c, 1, none⟩) (by simp) (by simp) _)
  · have hin2 : decide (i < (n : Int)) = false := decide_eq_false hin
    go_quiet (fail)
    have hx1 : 0 ≤ bits BinOp.xor IntKind.i64 (h1 / 8589934592) (h1 / 140737488355328) % 256 ∧ bits BinOp.xor IntKind.i64 (h1 / 8589934592) (h1 / 140737488355328) % 256 ≤ 255 := by omega
    generalize bits BinOp.xor IntKind.i64 (h1 / 8589934592) (h1 / 140737488355328) % 256 = x1 at *
    obtain ⟨x1a, x1b⟩ := hx1
    go_wp2
    go_quiet (fail)
    go_wp2
    go_ret
    refine ⟨_, rfl, x1a, x1b, ⟨i, h1, d0, d1, d2, g1, g2, hi0, hi1, hwb.1, hwb.2⟩, ?_⟩
    exact m1.trans (Mut.of_ext (by first | exact ext_drewN _ _ | exact ext_trans (ext_drewN _ _) (ext_drewN _ _) | exact ext_trans (ext_trans (ext_drewN _ _) (ext_drewN _ _)) (ext_drewN _ _)))
set_option maxRecDepth 100000 in
set_option maxHeartbeats 2000000 in
theorem l1Below_c {w : World} {c lo hi n : Nat} {cv : Value} {xs : List UInt8} (hc : CurAt w c cv n) (hr : Rd w lo hi 1 cv n (xs.map bv)) (hd : c < lo ∨ hi ≤ c) {m : Int} (hm : m ≤ 9223372036854775807) :
    Calls Tryd.prog 76 #[.pointer (some ⟨c, 0, none⟩), .int .i64 m] w fun e w' => ∃ x : Int, e = .returned (.int .i64 x) ∧ 0 ≤ x ∧ (x < m ∨ m ≤ 0 ∧ x = 0) ∧ CurAt w' c cv n ∧ Mut c (c + 1) w w' := by
  by_cases h0 : m ≤ 0
  · go_enter Tryd.func76, Tryd.ntmps76
    go_wp2
    go_ret
    exact ⟨_, rfl, by omega, .inr ⟨h0, rfl⟩, hc, Mut.refl _ _ _⟩
  have h01 : decide (m ≤ 0) = false := decide_eq_false h0
  have hmp : 0 < m := by omega
  have hmz : (m == 0) = false := beq_eq_false_iff_ne.2 (by omega)
  by_cases h1 : m ≤ 256
  · go_enter Tryd.func76, Tryd.ntmps76
    go_wp2_with fail
    refine (l1Byte_c hc hr hd).mono ?_
    rintro e w1 ⟨x, rfl, x0, x1, hc1, m1⟩
    clear hc hr
    go_wp2
    go_ret
    exact ⟨_, rfl, by first | exact Int.emod_nonneg _ (by omega) | exact Int.tmod_nonneg _ (by omega), .inl (by first | exact Int.emod_lt_of_pos _ hmp | exact Int.tmod_lt_of_pos _ hmp), hc1, m1⟩
  have h11 : decide (m ≤ 256) = false := decide_eq_false h1
  go_enter Tryd.func76, Tryd.ntmps76
  go_wp2_with fail
  refine (l1Byte_c hc hr hd).mono ?_
  rintro e w1 ⟨x, rfl, x0, x1, hc1, m1⟩
  have r1 := hr.mut m1 (by omega)
  clear hc hr
  go_wp2_with fail
  refine (l1Byte_c hc1 r1 hd).mono ?_
  rintro e w2 ⟨y, rfl, y0, y1, hc2, m2⟩
  have r2 := r1.mut m2 (by omega)
  clear hc1 r1
  go_wp2_with fail
  refine (l1Byte_c hc2 r2 hd).mono ?_
  rintro e w3 ⟨z, rfl, z0, z1, hc3, m3⟩
  clear hc2 r2
  have M := (m1.trans m2).trans m3
  clear m1 m2 m3
  have hs : 0 ≤ x * 65536 + y * 256 + z := by omega
  go_wp2
  go_ret
  exact ⟨_, rfl, by first | exact Int.emod_nonneg _ (by omega) | exact Int.tmod_nonneg _ hs, .inl (by first | exact Int.emod_lt_of_pos _ hmp | exact Int.tmod_lt_of_pos _ hmp), hc3, M⟩
theorem l1Once_c {w : World} {c lo hi n : Nat} {cv : Value} {xs : List UInt8} (hc : CurAt w c cv n) (hr : Rd w lo hi 1 cv n (xs.map bv)) (hd : c < lo ∨ hi ≤ c) {m : Int} (hm : m ≤ 9223372036854775807) :
    Calls Tryd.prog 70 #[.pointer (some ⟨c, 0, none⟩), .int .i64 m] w fun e w' => ∃ x : Bool, e = .returned (.bool x) ∧ CurAt w' c cv n ∧ Mut c (c + 1) w w' := by
  go_enter Tryd.func70, Tryd.ntmps70
  go_wp2_with fail
  refine (l1Below_c hc hr hd hm).mono ?_
  rintro e w1 ⟨x, rfl, x0, x1, hc1, m1⟩
  clear hc hr
  go_wp2
  go_ret
  exact ⟨_, rfl, hc1, m1⟩
set_option maxHeartbeats 1000000 in
theorem l1Str_c {w : World} {c lo hi n : Nat} {cv : Value} {xs : List UInt8} (hc : CurAt w c cv n) (hr : Rd w lo hi 1 cv n (xs.map bv)) (hd : c < lo ∨ hi ≤ c) {lo' hi' m : Nat} {v : Value} {ss : List ByteArray} (h : Rd w lo' hi' 1 v m (ss.map sv)) (hd' : c < lo' ∨ hi' ≤ c) (hm : 0 < m) :
    Calls Tryd.prog 71 #[.pointer (some ⟨c, 0, none⟩), v] w fun e w' => ∃ s ∈ ss, e = .returned (.string s) ∧ CurAt w' c cv n ∧ Mut c (c + 1) w w' := by
  have hl : ss.length = m := by have := h.1; simpa using this
  obtain ⟨a, cap, rfl, hmm⟩ := h.form
  go_enter Tryd.func71, Tryd.ntmps71
  go_wp2_with fail
  refine (l1Below_c (m := (m : Int)) hc hr hd (by omega)).mono ?_
  rintro e w1 ⟨x, rfl, x0, x1, hc1, m1⟩
  have h1 := h.mut m1 (by omega)
  clear hc hr h
  obtain ⟨k, rfl⟩ := Int.eq_ofNat_of_zero_le x0
  have hk : k < m := by omega
  have hkx : k < ss.length := by omega
  obtain ⟨_, a', cap', e1, _, _, hat⟩ := h1
  simp only [Value.slice.injEq, true_and] at e1
  obtain ⟨rfl, rfl⟩ := e1
  obtain ⟨b, off, rfl, _, _, hbs, hcell⟩ := hat hm
  have c1 : w1.cell? ⟨b, off + k, none⟩ = some (.string ss[k]) := hcell k _ (by simp [hkx, sv])
  have HM := hid (List.getElem_mem hkx)
  clear hcell hat
  generalize ss[k] = t at *
  go_wp2
  go_ret
  exact ⟨t, HM.out, rfl, hc1, m1⟩
set_option maxRecDepth 100000 in
set_option maxHeartbeats 2000000 in
theorem l1New_c {w : World} {lo hi n : Nat} {cv : Value} {xs : List UInt8} (hr : Rd w lo hi 1 cv n (xs.map bv)) (hn : n ≤ 1099511627776) :
    Calls Tryd.prog 61 #[cv] w fun e w' => e = .returned (.pointer (some ⟨w.heap.size, 0, none⟩)) ∧ CurAt w' w.heap.size cv n ∧ Below w.heap.size w w' := by
  obtain ⟨hlen, a, cap, rfl, hc, hm, hat⟩ := hr
  rw [List.length_map, Nat.mul_one] at hlen
  have HL := hid hlen
  clear hlen
  have e30 : ∀ z, bits .and .i64 z 1073741823 = z % 1073741824 := and30
  go_enter Tryd.func61, Tryd.ntmps61
  go_wp2
  go_loop [3, 4] (fun u i => ∃ (k : Nat) (h : Int), k ≤ n ∧ i = .int .i64 k ∧ u = .int .i64 h ∧ 0 ≤ h ∧ h ≤ 2199023255552) (fun _ i => n - (intOf i).toNat)
  case atStart => exact ⟨0, 192917 + (n : Int), Nat.zero_le _, rfl, rfl, by omega, by omega⟩
  case round =>
    obtain ⟨k, h, hk, rfl, rfl, h0, h1⟩ := hrel
    have HD : ∀ h : Int, 0 ≤ h → h ≤ 2199023255552 → CurAt (w.alloc (.cells #[.slice a n cap, .int .i64 0, .int .i64 h] 93)) w.heap.size (.slice a n cap) n := by
      intro h h0 h1
      exact ⟨0, h, (Cell1.newAt w _ _ 0 _ rfl).1, (Cell1.newAt w _ _ 1 _ rfl).1, (Cell1.newAt w _ _ 2 _ rfl).1, (Cell1.newAt w _ _ 1 _ rfl).2, (Cell1.newAt w _ _ 2 _ rfl).2, by omega, by omega, by omega, by omega⟩
    have HC := hid (HD h h0 h1)
    clear HD
    by_cases hlt : k < n
    · by_cases h4 : k < 4000
      · obtain ⟨b, off, rfl, _, _, hbs, hcell⟩ := hat (by omega)
        have hkx : k < xs.length := by rw [HL.out]; exact hlt
        have c1 : w.cell? ⟨b, off + k, none⟩ = some (.int .u8 (xs[k].toNat : Int)) := hcell k _ (by simp [hkx, bv])
        have hb0 : (0 : Int) ≤ (xs[k].toNat : Int) := by omega
        have hb1 : (xs[k].toNat : Int) ≤ 255 := by have := UInt8.toNat_lt xs[k]; omega
        clear hcell hat HC
        generalize (xs[k].toNat : Int) = y at *
        go_wp2
        go_round
        case rel => exact ⟨k + 1, _, by omega, by go_num, rfl, by omega, by omega⟩
        case measure => simp [intOf]; omega
      · have h41 : decide ((k : Int) < 4000) = false := decide_eq_false (by omega)
        have h42 : decide (k < 4000) = false := decide_eq_false h4
        clear hat
        go_wp2
        go_ret
        exact ⟨rfl, HC.out, ext_alloc (ext_refl w) _⟩
    · have hk1 : decide ((k : Int) < (n : Int)) = false := decide_eq_false (by omega)
      have hk2 : decide (k < n) = false := decide_eq_false hlt
      clear hat
      go_wp2
      go_ret
      exact ⟨rfl, HC.out, ext_alloc (ext_refl w) _⟩
end Go.Proofs.YtoehjfcadhgpbaaDoor
