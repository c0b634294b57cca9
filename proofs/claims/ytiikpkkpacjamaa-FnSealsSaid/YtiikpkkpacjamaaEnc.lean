/- Encrypt and Decrypt of the program and of the reference. Condition: the slice reads as bytes and is of at most 2^32 bytes. -/
import Derived.Test.YtiikpkkpacjamaaMac
import Derived.Deep.RegionHeld3
import Derived.Deep.AppendLies
import Derived.Deep.RegionLaw
import Derived.Deep.RegionWith
import Derived.BigRegion
namespace Go.Proofs.Ytiikpkkpacjamaa
open Go.RowKit
theorem rd_int1 (W : World) (z : Int) : Rd (W.alloc (.cells #[.int .i64 z] 3)) W.heap.size (W.heap.size + 1) 1 (.slice (some ⟨W.heap.size, 0, none⟩) 1 1) 1 ([z].map iv) := Rd.new W [.int .i64 z] 3 1 1 (by decide) rfl
theorem rd_int1d (W : World) (z : Int) : Rd (W.alloc (.cells #[.int .i64 z] 3)).drew W.heap.size (W.heap.size + 1) 1 (.slice (some ⟨W.heap.size, 0, none⟩) 1 1) 1 ([z].map iv) := (rd_int1 W z).ext (ext_drewN _ 1)
def encN (c : Nat) (m : Int) : Nat := (c + m.toNat % 256) % 256
def decN (c : Nat) (m : Int) : Nat := (c + 256 - m.toNat % 256) % 256
/-- Each byte with the number that belongs to its place. -/
def crypt (f : Nat → Int → Nat) (s : Int) (xs : List UInt8) : List UInt8 := (List.range xs.length).map fun i => UInt8.ofNat (f (xs.getD i 0).toNat (mac s [(i : Int)]))
theorem crypt_len (f : Nat → Int → Nat) (s : Int) (xs : List UInt8) : (crypt f s xs).length = xs.length := by simp [crypt]
theorem crypt_at (f : Nat → Int → Nat) (s : Int) (xs : List UInt8) (k : Nat) (h : k < xs.length) (hf : f xs[k].toNat (mac s [(k : Int)]) < 256) : ((crypt f s xs).map bv)[k]? = some (.int .u8 ((f xs[k].toNat (mac s [(k : Int)]) : Nat) : Int)) := by
  simp only [crypt, List.map_map, List.getElem?_map, List.getElem?_range h, Option.map_some, Function.comp, bv, List.getD, List.getElem?_eq_getElem h, Option.getD_some, UInt8.toNat_ofNat']
  rw [Nat.mod_eq_of_lt hf]
theorem encN_lt (c : Nat) (m : Int) : encN c m < 256 := Nat.mod_lt _ (by omega)
theorem decN_lt (c : Nat) (m : Int) : decN c m < 256 := Nat.mod_lt _ (by omega)
theorem ext_ad {wr w1 : World} {o : Obj} (y : Below (wr.alloc o).drew.heap.size (wr.alloc o).drew w1) : Below wr.heap.size wr w1 := ext_trans (Below.drew (ext_alloc (ext_refl wr) o)) y
theorem cell_ad {wr w1 : World} {o : Obj} {p : Addr} {v : Value} (h : wr.cell? p = some v) (y : Below (wr.alloc o).drew.heap.size (wr.alloc o).drew w1) : w1.cell? p = some v := ((ext_ad y).cell (World.block_lt_of_cell? wr p h)).trans h
theorem frozen_ad {wr w1 : World} {o : Obj} {p : Addr} {v : Value} (h : wr.cell? p = some v) (f : wr.frozen? p = false) (y : Below (wr.alloc o).drew.heap.size (wr.alloc o).drew w1) : w1.frozen? p = false := ((ext_ad y).frozen (World.block_lt_of_cell? wr p h)).trans f
theorem enc_val (c : Nat) (m : Int) (h : 0 ≤ m) : IntKind.u8.wrap ((c : Int) + IntKind.u8.wrap (m.tmod 256)) = ((encN c m : Nat) : Int) := by
  rw [Int.tmod_eq_emod_of_nonneg h, IntKind.wrap_u8, IntKind.wrap_u8]; unfold encN; omega
theorem dec_val (c : Nat) (m : Int) (h : 0 ≤ m) : IntKind.u8.wrap ((c : Int) - IntKind.u8.wrap (m.tmod 256)) = ((decN c m : Nat) : Int) := by
  rw [Int.tmod_eq_emod_of_nonneg h, IntKind.wrap_u8, IntKind.wrap_u8]; unfold decN; omega
theorem enc_val2 (c : Nat) (m : Int) (hc : c < 256) (h : 0 ≤ m) (h' : m < 2147483647) : IntKind.u8.wrap ((IntKind.i64.wrap (IntKind.i64.wrap (c : Int) + m.tmod 256)).tmod 256) = ((encN c m : Nat) : Int) := by
  rw [Int.tmod_eq_emod_of_nonneg h, IntKind.wrap_i64, IntKind.wrap_i64, IntKind.wrap_u8]
  have e : (((c : Int) + 9223372036854775808) % 18446744073709551616 - 9223372036854775808 + m % 256 + 9223372036854775808) % 18446744073709551616 - 9223372036854775808 = (c : Int) + m % 256 := by omega
  rw [e, Int.tmod_eq_emod_of_nonneg (by omega)]; unfold encN; omega
theorem dec_val2 (c : Nat) (m : Int) (hc : c < 256) (h : 0 ≤ m) (h' : m < 2147483647) : IntKind.u8.wrap ((IntKind.i64.wrap (IntKind.i64.wrap (c : Int) - m.tmod 256)) % 256) = ((decN c m : Nat) : Int) := by
  rw [Int.tmod_eq_emod_of_nonneg h, IntKind.wrap_i64, IntKind.wrap_i64, IntKind.wrap_u8]
  have e : (((c : Int) + 9223372036854775808) % 18446744073709551616 - 9223372036854775808 - m % 256 + 9223372036854775808) % 18446744073709551616 - 9223372036854775808 = (c : Int) - m % 256 := by omega
  rw [e]; unfold decN; omega
theorem take_next {α : Type} (l : List α) (k : Nat) (u : α) (h : l[k]? = some u) : l.take (k + 1) = l.take k ++ [u] := by
  obtain ⟨hk, rfl⟩ := List.getElem?_eq_some_iff.1 h
  rw [List.take_succ_eq_append_getElem hk]
theorem keep_own {w W w1 : World} {lo hi n : Nat} {p : Addr} {v u : Value} {zs : List Value} (h : W.cell? p = some v ∧ W.frozen? p = false ∧ Own W lo hi 5 1 u n zs ∧ Below w.heap.size w W) (y : Below W.heap.size W w1) :
    w1.cell? p = some v ∧ w1.frozen? p = false ∧ Own w1 lo hi 5 1 u n zs ∧ Below w.heap.size w w1 :=
  ⟨(y.cell (World.block_lt_of_cell? W p h.1)).trans h.1, (y.frozen (World.block_lt_of_cell? W p h.1)).trans h.2.1, h.2.2.1.ext y, ext_trans h.2.2.2 y⟩
set_option maxRecDepth 100000 in
set_option maxHeartbeats 2000000 in
theorem implEncrypt_c {w : World} {lo hi n : Nat} {v : Value} {s : Int} {xs : List UInt8} (h : Rd w lo hi 1 v n (xs.map bv)) (hn : n ≤ 4294967296) :
    Calls Try.prog 42 #[.int .i64 s, v] w (Gives w fun r w' => Own w' w.heap.size w'.heap.size 5 1 r n ((crypt encN s xs).map bv)) := by
  have hxl : xs.length = n := by have := h.1; simpa using this
  have HX := hid hxl
  have HL : Hid ((xs.map bv).length = ((crypt encN s xs).map bv).length) := by rw [Hid, List.length_map, List.length_map, crypt_len]
  clear hxl
  go_enter Try.func42, Try.ntmps42
  go_wp2_with fail
  refine (cloneByte_c h (by omega)).mono ?_
  rintro e w1 ⟨v1, rfl, o1, y1⟩
  obtain ⟨a1, cap1, rfl, hm1⟩ := o1.rd.form
  clear h
  go_wp2
  go_loopw [11] (fun i wr => ∃ k : Nat, k ≤ n ∧ i = .int .i64 k ∧ Own wr w.heap.size wr.heap.size 5 1 (.slice a1 n cap1) n (mix ((crypt encN s xs).map bv) (xs.map bv) k) ∧ Below w.heap.size w wr) (fun i _ => n - (intOf i).toNat)
  case atStart => exact ⟨0, Nat.zero_le _, rfl, by rw [mix_zero]; exact o1, y1⟩
  case round =>
    obtain ⟨k, hk, rfl, ho, hb⟩ := hrel
    clear o1 y1
    by_cases hlt : k < n
    · have hkx : k < xs.length := by rw [HX.out]; exact hlt
      have HC := hid (crypt_at encN s xs k hkx (encN_lt _ _))
      have hcb : xs[k].toNat < 256 := UInt8.toNat_lt _
      obtain ⟨g, cp, hv, _, _, _, _, hgs, hfz, hcl, _⟩ := ho.at_ (by omega)
      simp only [Value.slice.injEq, true_and] at hv
      obtain ⟨rfl, rfl⟩ := hv
      have f1 := hfz k
      have c1 : wr.cell? ⟨g, k, none⟩ = some (.int .u8 (xs[k].toNat : Int)) := hcl k _ (by rw [mix_get _ _ k (by rw [List.length_map, crypt_len]; exact hkx)]; simp [hkx, bv])
      clear hfz hcl
      have hmb := mac_bd s [(k : Int)]
      obtain ⟨m1, m2⟩ := hmb
      have i0 : (0 : Int) ≤ (k : Int) := by omega
      have i1 : (k : Int) < (n : Int) := by omega
      go_wp2_with fail
      go_region_with (go_at_call 36; refine (implComputeMAC_c (rd_int1d _ _) (by decide)).mono ?_; rintro e w1 ⟨_, rfl, rfl, y1⟩; have c2 := cell_ad c1 y1; have f2 := frozen_ad c1 f1 y1)
      all_goals
        have ho1 := ho.ext (ext_ad y1)
        have hb1 := ext_trans hb (ext_ad y1)
        rw [enc_val _ _ m1]
        obtain ⟨g', cp', hv', _, _, _, _, _, _, _, hst⟩ := ho1.at_ (by omega)
        simp only [Value.slice.injEq, Option.some.injEq, Addr.mk.injEq, and_true, true_and] at hv'
        obtain ⟨rfl, rfl⟩ := hv'
        obtain ⟨ho2, hmu⟩ := hst k (.int .u8 ((encN xs[k].toNat (mac s [(k : Int)]) : Nat) : Int))
        rw [mix_set _ _ k HL.out _ HC.out] at ho2
        have hsz := (ext_ad y1).size
        clear hst ho1 y1 c2 f2 c1 f1
        go_wp2
        go_roundw
        case rel => exact ⟨k + 1, by omega, by go_num, ho2.mono (Nat.le_refl _) (by simp [World.setCell]; exact hsz), hmu.ext hb1 (Nat.le_refl _)⟩
        case measure => simp [intOf]; omega
    · have hkn : k = n := by omega
      subst hkn
      rw [mix_all _ _ k (by rw [List.length_map, crypt_len, HX.out]; omega) (by rw [List.length_map, HX.out]; omega)] at ho
      go_wp2
      go_ret
      exact gives_of _ ho hb
set_option maxRecDepth 100000 in
set_option maxHeartbeats 2000000 in
theorem implDecrypt_c {w : World} {lo hi n : Nat} {v : Value} {s : Int} {xs : List UInt8} (h : Rd w lo hi 1 v n (xs.map bv)) (hn : n ≤ 4294967296) :
    Calls Try.prog 44 #[.int .i64 s, v] w (Gives w fun r w' => Own w' w.heap.size w'.heap.size 5 1 r n ((crypt decN s xs).map bv)) := by
  have hxl : xs.length = n := by have := h.1; simpa using this
  have HX := hid hxl
  have HL : Hid ((xs.map bv).length = ((crypt decN s xs).map bv).length) := by rw [Hid, List.length_map, List.length_map, crypt_len]
  clear hxl
  go_enter Try.func44, Try.ntmps44
  go_wp2_with fail
  refine (cloneByte_c h (by omega)).mono ?_
  rintro e w1 ⟨v1, rfl, o1, y1⟩
  obtain ⟨a1, cap1, rfl, hm1⟩ := o1.rd.form
  clear h
  go_wp2
  go_loopw [11] (fun i wr => ∃ k : Nat, k ≤ n ∧ i = .int .i64 k ∧ Own wr w.heap.size wr.heap.size 5 1 (.slice a1 n cap1) n (mix ((crypt decN s xs).map bv) (xs.map bv) k) ∧ Below w.heap.size w wr) (fun i _ => n - (intOf i).toNat)
  case atStart => exact ⟨0, Nat.zero_le _, rfl, by rw [mix_zero]; exact o1, y1⟩
  case round =>
    obtain ⟨k, hk, rfl, ho, hb⟩ := hrel
    clear o1 y1
    by_cases hlt : k < n
    · have hkx : k < xs.length := by rw [HX.out]; exact hlt
      have HC := hid (crypt_at decN s xs k hkx (decN_lt _ _))
      have hcb : xs[k].toNat < 256 := UInt8.toNat_lt _
      obtain ⟨g, cp, hv, _, _, _, _, hgs, hfz, hcl, _⟩ := ho.at_ (by omega)
      simp only [Value.slice.injEq, true_and] at hv
      obtain ⟨rfl, rfl⟩ := hv
      have f1 := hfz k
      have c1 : wr.cell? ⟨g, k, none⟩ = some (.int .u8 (xs[k].toNat : Int)) := hcl k _ (by rw [mix_get _ _ k (by rw [List.length_map, crypt_len]; exact hkx)]; simp [hkx, bv])
      clear hfz hcl
      have hmb := mac_bd s [(k : Int)]
      obtain ⟨m1, m2⟩ := hmb
      have i0 : (0 : Int) ≤ (k : Int) := by omega
      have i1 : (k : Int) < (n : Int) := by omega
      go_wp2_with fail
      go_region_with (go_at_call 36; refine (implComputeMAC_c (rd_int1d _ _) (by decide)).mono ?_; rintro e w1 ⟨_, rfl, rfl, y1⟩; have c2 := cell_ad c1 y1; have f2 := frozen_ad c1 f1 y1)
      all_goals
        have ho1 := ho.ext (ext_ad y1)
        have hb1 := ext_trans hb (ext_ad y1)
        rw [dec_val _ _ m1]
        obtain ⟨g', cp', hv', _, _, _, _, _, _, _, hst⟩ := ho1.at_ (by omega)
        simp only [Value.slice.injEq, Option.some.injEq, Addr.mk.injEq, and_true, true_and] at hv'
        obtain ⟨rfl, rfl⟩ := hv'
        obtain ⟨ho2, hmu⟩ := hst k (.int .u8 ((decN xs[k].toNat (mac s [(k : Int)]) : Nat) : Int))
        rw [mix_set _ _ k HL.out _ HC.out] at ho2
        have hsz := (ext_ad y1).size
        clear hst ho1 y1 c2 f2 c1 f1
        go_wp2
        go_roundw
        case rel => exact ⟨k + 1, by omega, by go_num, ho2.mono (Nat.le_refl _) (by simp [World.setCell]; exact hsz), hmu.ext hb1 (Nat.le_refl _)⟩
        case measure => simp [intOf]; omega
    · have hkn : k = n := by omega
      subst hkn
      rw [mix_all _ _ k (by rw [List.length_map, crypt_len, HX.out]; omega) (by rw [List.length_map, HX.out]; omega)] at ho
      go_wp2
      go_ret
      exact gives_of _ ho hb
set_option maxRecDepth 100000 in
set_option maxHeartbeats 2000000 in
theorem specEncrypt_c {w : World} {lo hi n : Nat} {v : Value} {s : Int} {xs : List UInt8} (h : Rd w lo hi 1 v n (xs.map bv)) (hn : n ≤ 4294967296) :
    Calls Try.prog 43 #[.int .i64 s, v] w (Gives w fun r w' => Own w' w.heap.size w'.heap.size 5 1 r n ((crypt encN s xs).map bv)) := by
  obtain ⟨hl, a, cap, rfl, hc, hm, hat⟩ := h
  rw [List.length_map, Nat.mul_one] at hl
  have HX := hid hl
  clear hl
  obtain ⟨j0, hj0, hy0, hy1, hy2⟩ := info_parts info_byte
  have o0 := Own.new w #[] 5 1 0 (by decide) rfl
  go_enter Try.func43, Try.ntmps43
  go_wp2
  go_loopw [5, 6] (fun u i wr => ∃ k : Nat, k ≤ n ∧ i = .int .i64 k ∧ Own wr w.heap.size wr.heap.size 5 1 u k (((crypt encN s xs).map bv).take k) ∧ Below w.heap.size w wr) (fun _ i _ => n - (intOf i).toNat)
  case atStart => exact ⟨0, Nat.zero_le _, rfl, o0.mono (Nat.le_refl _) (by simp), ext_alloc (ext_refl w) _⟩
  case round =>
    obtain ⟨k, hk, rfl, ho, hb⟩ := hrel
    clear o0
    by_cases hlt : k < n
    · obtain ⟨b, off, rfl, _, _, hbs, hcell⟩ := hat (by omega)
      have hkx : k < xs.length := by rw [HX.out]; exact hlt
      have HC := hid (crypt_at encN s xs k hkx (encN_lt _ _))
      have hcb : xs[k].toNat < 256 := UInt8.toNat_lt _
      have c1 : wr.cell? ⟨b, off + k, none⟩ = some (.int .u8 (xs[k].toNat : Int)) := (hb.cell (by exact hbs)).trans (hcell k _ (by simp [hkx, bv]))
      have hmb := mac_bd s [(k : Int)]
      obtain ⟨m1, m2⟩ := hmb
      have i0 : (0 : Int) ≤ (k : Int) := by omega
      have i1 : (k : Int) < (n : Int) := by omega
      have hbr : b < wr.heap.size := Nat.lt_of_lt_of_le hbs hb.size
      clear hcell hat
      go_wp2_with fail
      go_region_law (first | (refine step_append_Own rfl (.tmp 14) (.tmp 28) 22 rfl 5 j0 (.int .u8 0) 1 1 Try.underlying22 hj0 hy0 hy1 hy2 rfl (by decide) rfl (ho1.ext (ext_alloc (ext_refl _) _)) rfl (Rd.new _ [.int .u8 _] 5 1 1 (by decide) rfl) (by simp; rfl) (by omega) (by omega) (by simp; omega) ?_; intro v' w' ho2 hmu) | (go_simp; go_at_call 37; refine (specComputeMAC_c (rd_int1d _ _) (by decide)).mono ?_; rintro e w1 ⟨_, rfl, rfl, y1⟩; have c2 := cell_ad c1 y1; have ho1 := ho.ext (ext_ad y1); have hsz := (ext_trans hb (ext_ad y1)).size))
      all_goals
        have x2 := hmu.ext (ext_alloc (ext_trans hb (ext_ad y1)) _) (Nat.le_refl _)
        rw [enc_val2 _ _ hcb m1 m2] at ho2
        have ho3 := ho2
        rw [← take_next _ _ _ HC.out] at ho3
        clear hmu ho1 ho2 y1 c2 c1 hsz
        go_wp2
        go_roundw
        case rel => exact ⟨k + 1, by omega, by go_num, ho3, x2⟩
        case measure => simp [intOf]; omega
    · have hkn : k = n := by omega
      subst hkn
      rw [List.take_of_length_le (by rw [List.length_map, crypt_len, HX.out]; omega)] at ho
      go_wp2
      go_ret
      exact gives_of _ ho hb
set_option maxRecDepth 100000 in
set_option maxHeartbeats 2000000 in
theorem specDecrypt_c {w : World} {lo hi n : Nat} {v : Value} {s : Int} {xs : List UInt8} (h : Rd w lo hi 1 v n (xs.map bv)) (hn : n ≤ 4294967296) :
    Calls Try.prog 45 #[.int .i64 s, v] w (Gives w fun r w' => Own w' w.heap.size w'.heap.size 5 1 r n ((crypt decN s xs).map bv)) := by
  obtain ⟨hl, a, cap, rfl, hc, hm, hat⟩ := h
  rw [List.length_map, Nat.mul_one] at hl
  have HX := hid hl
  clear hl
  obtain ⟨j0, hj0, hy0, hy1, hy2⟩ := info_parts info_byte
  have o0 := Own.new w #[] 5 1 0 (by decide) rfl
  go_enter Try.func45, Try.ntmps45
  go_wp2
  go_loopw [5, 6] (fun u i wr => ∃ k : Nat, k ≤ n ∧ i = .int .i64 k ∧ Own wr w.heap.size wr.heap.size 5 1 u k (((crypt decN s xs).map bv).take k) ∧ Below w.heap.size w wr) (fun _ i _ => n - (intOf i).toNat)
  case atStart => exact ⟨0, Nat.zero_le _, rfl, o0.mono (Nat.le_refl _) (by simp), ext_alloc (ext_refl w) _⟩
  case round =>
    obtain ⟨k, hk, rfl, ho, hb⟩ := hrel
    clear o0
    by_cases hlt : k < n
    · obtain ⟨b, off, rfl, _, _, hbs, hcell⟩ := hat (by omega)
      have hkx : k < xs.length := by rw [HX.out]; exact hlt
      have HC := hid (crypt_at decN s xs k hkx (decN_lt _ _))
      have hcb : xs[k].toNat < 256 := UInt8.toNat_lt _
      have c1 : wr.cell? ⟨b, off + k, none⟩ = some (.int .u8 (xs[k].toNat : Int)) := (hb.cell (by exact hbs)).trans (hcell k _ (by simp [hkx, bv]))
      have hmb := mac_bd s [(k : Int)]
      obtain ⟨m1, m2⟩ := hmb
      have i0 : (0 : Int) ≤ (k : Int) := by omega
      have i1 : (k : Int) < (n : Int) := by omega
      have hbr : b < wr.heap.size := Nat.lt_of_lt_of_le hbs hb.size
      clear hcell hat
      go_wp2_with fail
      go_region_law (first | (refine step_append_Own rfl (.tmp 14) (.tmp 28) 22 rfl 5 j0 (.int .u8 0) 1 1 Try.underlying22 hj0 hy0 hy1 hy2 rfl (by decide) rfl (ho1.ext (ext_alloc (ext_refl _) _)) rfl (Rd.new _ [.int .u8 _] 5 1 1 (by decide) rfl) (by simp; rfl) (by omega) (by omega) (by simp; omega) ?_; intro v' w' ho2 hmu) | (go_simp; go_at_call 37; refine (specComputeMAC_c (rd_int1d _ _) (by decide)).mono ?_; rintro e w1 ⟨_, rfl, rfl, y1⟩; have c2 := cell_ad c1 y1; have ho1 := ho.ext (ext_ad y1); have hsz := (ext_trans hb (ext_ad y1)).size) | (go_simp; go_at_call 71; refine (specMod_c (by omega) (by omega)).mono ?_; rintro e w2 ⟨rfl, rfl⟩))
      all_goals
        have x2 := hmu.ext (ext_alloc (ext_trans hb (ext_ad y1)) _) (Nat.le_refl _)
        rw [dec_val2 _ _ hcb m1 m2] at ho2
        have ho3 := ho2
        rw [← take_next _ _ _ HC.out] at ho3
        clear hmu ho1 ho2 y1 c2 c1 hsz
        go_wp2
        go_roundw
        case rel => exact ⟨k + 1, by omega, by go_num, ho3, x2⟩
        case measure => simp [intOf]; omega
    · have hkn : k = n := by omega
      subst hkn
      rw [List.take_of_length_le (by rw [List.length_map, crypt_len, HX.out]; omega)] at ho
      go_wp2
      go_ret
      exact gives_of _ ho hb
end Go.Proofs.Ytiikpkkpacjamaa
