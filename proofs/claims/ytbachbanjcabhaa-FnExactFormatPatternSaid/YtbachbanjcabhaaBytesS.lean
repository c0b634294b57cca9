/- Slices of bytes: what the laws' helpers toByteS, eqByteS, markByteS, heldByteS and the library's Equal and Clone do. Conditions: the slice reads as the bytes; where it is copied its length is bounded. -/
import Derived.Test.YtbachbanjcabhaaRows
import Derived.Test.YtbachbanjcabhaaBase
import Derived.Test.YtbachbanjcabhaaApp
import Derived.WalkSpells
import Derived.Deep.QuietTactic
import Derived.BigQuiet
namespace Go.Proofs.Ytbachbanjcabhaa
open Go.RowKit
def bv (b : UInt8) : Value := .int .u8 (b.toNat : Int)
theorem info_byte : (Try.prog.info? 5).map (fun i => (i.zero, i.size, i.bytes)) = some (some (.int .u8 0), 1, 1) := by kernel_rfl
theorem bv_one (xs : List UInt8) : ∀ u ∈ xs.map bv, u.oneCell' = true := by
  intro u hu; obtain ⟨_, _, rfl⟩ := List.mem_map.1 hu; rfl

theorem toByteS_c {w : World} {lo hi n : Nat} {v : Value} {xs : List UInt8} (h : Rd w lo hi 1 v n (xs.map bv)) (hn : n ≤ 140737488355328) :
    Calls Try.prog 61 #[v] w (Gives w fun r w' => Own w' w.heap.size w'.heap.size 5 1 r n (xs.map bv)) := by
  obtain ⟨hl, a, cap, rfl, hc, hm, hat⟩ := h
  rw [Nat.mul_one] at hl
  have H0 := hid hl
  clear hl
  obtain ⟨i0, hi0, hz0, hz1, hz2⟩ := info_parts info_byte
  go_enter Try.func61, Try.ntmps61
  go_wp2_with (at_make; refine wpList_make_full _ rfl _ _ 68 rfl w.heap.size 5 i0 (.int .u8 0) 1 Try.underlying68 hi0 hz0 hz1 _ _ _ _ n rfl rfl rfl rfl (by rw [hz2]; omega) (by unfold maxLen; omega) (Nat.le_refl _) ?_)
  intro w1 ho hg
  have x1 : Below w.heap.size w w1 := (ext_refl w).grown hg (Nat.le_refl _) (fun k hk => by cases hk)
  obtain ⟨zs, hzs, hzl⟩ : ∃ zs : List Value, Own w1 w.heap.size w1.heap.size 5 1 (.slice (some ⟨w.heap.size, 0, none⟩) n n) n zs ∧ Hid (zs.length = n) := ⟨_, Own.of_row ho, by have := ho.1; rwa [Nat.mul_one] at this⟩
  have hlen : Hid (zs.length = (xs.map bv).length) := by rw [Hid, hzl.out, H0.out]
  clear hg ho hi0 hz0 hz1 hz2
  go_wp2
  go_loopw [4] (fun i wr => ∃ k : Nat, k ≤ n ∧ i = .int .i64 k ∧ Own wr w.heap.size wr.heap.size 5 1 (.slice (some ⟨w.heap.size, 0, none⟩) n n) n (mix (xs.map bv) zs k) ∧ Below w.heap.size w wr) (fun i _ => n - (intOf i).toNat)
  case atStart => exact ⟨0, Nat.zero_le _, rfl, by rw [mix_zero]; exact hzs, x1⟩
  case round =>
    obtain ⟨k, hk, rfl, ho, hb⟩ := hrel
    clear hzs x1
    by_cases hlt : k < n
    · obtain ⟨b, off, rfl, _, _, hbs, hcell⟩ := hat (by omega)
      have hkx : k < xs.length := by have := H0.out; rw [List.length_map] at this; omega
      have hu : (xs.map bv)[k]? = some (bv xs[k]) := by simp [hkx]
      have c1 : wr.cell? ⟨b, off + k, none⟩ = some (bv xs[k]) := (hb.cell (by exact hbs)).trans (hcell k _ hu)
      obtain ⟨g, cp, hv, _, _, _, _, hgs, hfz, hcl, hst⟩ := ho.at_ (by omega)
      simp only [Value.slice.injEq, Option.some.injEq, Addr.mk.injEq, and_true, true_and] at hv
      obtain ⟨rfl, rfl⟩ := hv
      have f1 := hfz k
      obtain ⟨z, hz⟩ : ∃ z, zs[k]? = some z := ⟨_, List.getElem?_eq_getElem (by rw [hzl.out]; exact hlt)⟩
      have c2 := hcl k z (by rw [mix_get _ _ k (by rw [H0.out]; exact hlt)]; exact hz)
      obtain ⟨ho', hm'⟩ := hst k (bv xs[k])
      rw [mix_set _ _ k hlen.out _ hu] at ho'
      clear hcell hat hfz hcl hst ho hu hz
      unfold bv at c1
      go_wp2
      go_roundw
      case rel => exact ⟨k + 1, by omega, by go_num, ho'.mono (Nat.le_refl _) (by simp [World.setCell]), hm'.ext hb (Nat.le_refl _)⟩
      case measure => simp [intOf]; omega
    · go_wp2
      go_ret
      refine gives_of _ ?_ hb
      rwa [mix_all _ _ k (by rw [H0.out]; omega) (by rw [hzl.out]; omega)] at ho

theorem eqByteS_c {w : World} {lo hi lo' hi' n m : Nat} {v v' : Value} {xs ys : List UInt8} (h : Rd w lo hi 1 v n (xs.map bv)) (h' : Rd w lo' hi' 1 v' m (ys.map bv)) :
    Calls Try.prog 63 #[v, v'] w (Gives w fun r _ => r = .bool (decide (xs = ys))) := by
  obtain ⟨hl, a, cap, rfl, hc, hm, hat⟩ := h
  obtain ⟨hl', a', cap', rfl, hc', hm', hat'⟩ := h'
  simp only [List.length_map, Nat.mul_one] at hl hl'
  by_cases hnm : n = m
  · subst hnm
    have H1 := hid hl
    have H2 := hid hl'
    clear hl hl'
    go_enter Try.func63, Try.ntmps63
    go_wp2
    go_loopw [5] (fun i wr => ∃ k : Nat, k ≤ n ∧ i = .int .i64 k ∧ xs.take k = ys.take k ∧ Below w.heap.size w wr) (fun i _ => n - (intOf i).toNat)
    case atStart => exact ⟨0, Nat.zero_le _, rfl, rfl, ext_refl w⟩
    case round =>
      obtain ⟨k, hk, rfl, hpre, hb⟩ := hrel
      have HP := hid hpre
      clear hpre
      by_cases hlt : k < n
      · obtain ⟨b, off, rfl, _, _, hbs, hcell⟩ := hat (by omega)
        obtain ⟨b', off', rfl, _, _, hbs', hcell'⟩ := hat' (by omega)
        have hkx : k < xs.length := by rw [H1.out]; exact hlt
        have hky : k < ys.length := by rw [H2.out]; exact hlt
        have c1 : wr.cell? ⟨b, off + k, none⟩ = some (bv xs[k]) := (hb.cell (by exact hbs)).trans (hcell k _ (by simp [hkx]))
        have c2 : wr.cell? ⟨b', off' + k, none⟩ = some (bv ys[k]) := (hb.cell (by exact hbs')).trans (hcell' k _ (by simp [hky]))
        clear hcell hcell' hat hat'
        unfold bv at c1 c2
        by_cases e : xs[k] = ys[k]
        · have e1 : (((xs[k].toNat : Int)) != (ys[k].toNat : Int)) = false := by simp [e]
          go_wp2
          go_quiet (fail)
          go_wp2
          go_roundw
          case rel => exact ⟨k + 1, by omega, by go_num, take_step HP.out hkx hky e, ext_trans hb (ext_drewN _ _)⟩
          case measure => simp [intOf]; omega
        · have e1 : (((xs[k].toNat : Int)) != (ys[k].toNat : Int)) = true := by simpa [bne, Int.ofNat_inj, UInt8.toNat_inj] using e
          go_wp2
          go_quiet (fail)
          go_wp2
          go_ret
          exact gives_bool (by rw [decide_eq_false (take_ne hkx hky e)]) (ext_trans hb (ext_drewN _ _))
      · go_wp2
        go_ret
        exact gives_bool (by rw [decide_eq_true (take_all HP.out (by rw [H1.out]; omega) (by rw [H2.out]; omega))]) hb
  · have hne : (((n : Int)) != (m : Int)) = true := by simp; omega
    go_enter Try.func63, Try.ntmps63
    go_wp2
    go_ret
    exact gives_bool (by rw [decide_eq_false (by intro e; subst e; omega)]) (ext_refl _)



/-- The marks from k on. -/
def markByte (k : Int) : Value := .int .u8 (IntKind.u8.wrap (k))
def marksByte (k : Int) (n : Nat) : List Value := (List.range n).map fun (i : Nat) => markByte (k + (i : Int))
theorem marksByte_len (k : Int) (n : Nat) : (marksByte k n).length = n := by simp [marksByte]
theorem marksByte_at (k : Int) (n i : Nat) (h : i < n) : (marksByte k n)[i]? = some (markByte (k + (i : Int))) := by simp [marksByte, h]
theorem markByteS_c {w : World} {lo hi n : Nat} {v : Value} {zs : List Value} (h : Own w lo hi 5 1 v n zs) {k0 : Int} (h1 : 0 ≤ k0) (h2 : k0 ≤ 1000000000000) (hn : n ≤ 1000000000000) :
    Calls Try.prog 64 #[v, .int .i64 k0] w fun e w' => e = .returned (.int .i64 (k0 + n)) ∧ Own w' lo hi 5 1 v n (marksByte k0 n) ∧ Mut lo hi w w' := by
  have hl := h.1
  rw [Nat.mul_one] at hl
  have H0 := hid hl
  have HL : Hid (zs.length = (marksByte k0 n).length) := by rw [Hid, marksByte_len, hl]
  clear hl
  have hr := h.rd
  obtain ⟨_, a, cap, rfl, hc, hm, _⟩ := hr
  go_enter Try.func64, Try.ntmps64
  go_wp2
  go_loopw [1, 5] (fun q i wr => ∃ k : Nat, k ≤ n ∧ i = .int .i64 k ∧ q = .int .i64 (k0 + (k : Int)) ∧ Own wr lo hi 5 1 (.slice a n cap) n (mix (marksByte k0 n) zs k) ∧ Mut lo hi w wr) (fun _ i _ => n - (intOf i).toNat)
  case atStart => exact ⟨0, Nat.zero_le _, rfl, by simp, by rw [mix_zero]; exact h, Mut.refl _ _ _⟩
  case round =>
    obtain ⟨k, hk, rfl, rfl, ho, hb⟩ := hrel
    clear h
    by_cases hlt : k < n
    · obtain ⟨g, cp, hv, _, _, _, _, hgs, hfz, hcl, hst⟩ := ho.at_ (by omega)
      simp only [Value.slice.injEq, true_and] at hv
      obtain ⟨rfl, rfl⟩ := hv
      have f1 := hfz k
      obtain ⟨z, hz⟩ : ∃ z, zs[k]? = some z := ⟨_, List.getElem?_eq_getElem (by rw [H0.out]; exact hlt)⟩
      have c2 := hcl k z (by rw [mix_get _ _ k (by rw [marksByte_len]; exact hlt)]; exact hz)
      obtain ⟨ho', hm'⟩ := hst k (markByte (k0 + (k : Int)))
      rw [mix_set _ _ k HL.out _ (marksByte_at k0 n k hlt)] at ho'
      clear hfz hcl hst ho hz
      go_wp2
      go_roundw
      case rel => exact ⟨k + 1, by omega, by go_num, by go_num, ho', hb.trans hm'⟩
      case measure => simp [intOf]; omega
    · have hkn : k = n := by omega
      subst hkn
      go_wp2
      go_ret
      refine ⟨rfl, ?_, hb⟩
      rwa [mix_all _ _ k (by rw [marksByte_len]; omega) (by rw [H0.out]; omega)] at ho
theorem heldByteS_c {w : World} {lo hi n : Nat} {v : Value} {k0 : Int} (h : Rd w lo hi 1 v n (marksByte k0 n)) (h1 : 0 ≤ k0) (h2 : k0 ≤ 1000000000000) (hn : n ≤ 1000000000000) :
    Calls Try.prog 65 #[v, .int .i64 k0] w (Gives w fun r _ => r = .int .i64 (k0 + n)) := by
  obtain ⟨_, a, cap, rfl, hc, hm, hat⟩ := h
  go_enter Try.func65, Try.ntmps65
  go_wp2
  go_loopw [1, 5] (fun q i wr => ∃ k : Nat, k ≤ n ∧ i = .int .i64 k ∧ q = .int .i64 (k0 + (k : Int)) ∧ Below w.heap.size w wr) (fun _ i _ => n - (intOf i).toNat)
  case atStart => exact ⟨0, Nat.zero_le _, rfl, by simp, ext_refl _⟩
  case round =>
    obtain ⟨k, hk, rfl, rfl, hb⟩ := hrel
    by_cases hlt : k < n
    · obtain ⟨b, off, rfl, _, _, hbs, hcell⟩ := hat (by omega)
      have c1 : wr.cell? ⟨b, off + k, none⟩ = some (markByte (k0 + (k : Int))) := (hb.cell (by exact hbs)).trans (hcell k _ (marksByte_at k0 n k hlt))
      unfold markByte at c1
      clear hcell hat
      go_wp2
      go_roundw
      case rel => exact ⟨k + 1, by omega, by go_num, by go_num, hb⟩
      case measure => simp [intOf]; omega
    · have hkn : k = n := by omega
      subst hkn
      go_wp2
      go_ret
      exact gives_int rfl hb

theorem cloneByte_c {w : World} {lo hi n : Nat} {v : Value} {xs : List UInt8} (h : Rd w lo hi 1 v n (xs.map bv)) (hn : n ≤ 140737488355328) :
    Calls Try.prog 100 #[v] w (Gives w fun r w' => Own w' w.heap.size w'.heap.size 5 1 r n (xs.map bv)) := by
  obtain ⟨i0, hi0, hz0, hz1, hz2⟩ := info_parts info_byte
  obtain ⟨a, cap, rfl, hm⟩ := h.form
  have k1 := Lib.run_eql_slice_nil (P := Try.prog) w 68 5 a n cap 0 0 Try.underlying68
  cases a with
  | none =>
    have hn0 : n = 0 := by
      obtain ⟨_, a, c', he, _, _, hat⟩ := h
      rcases Nat.eq_zero_or_pos n with h0 | h0
      · exact h0
      · obtain ⟨b, off, ha, _⟩ := hat h0
        rw [ha] at he; cases he
    subst hn0
    have hx : xs = [] := by have := h.1; simpa using this
    subst hx
    clear h
    go_enter Try.func100, Try.ntmps100
    go_wp2
    go_ret
    exact gives_of (.slice none 0 0) (Own.none_ _ _ _ _ _ _) (ext_refl _)
  | some ad =>
    have h' := h.ext (ext_alloc (ext_refl w) (.cells #[] 5))
    have o0 := Own.new w #[] 5 1 0 (by decide) rfl
    clear h
    go_enter Try.func100, Try.ntmps100
    go_wp2_with (at_builtin; refine wpList_append_Own rfl _ _ 68 rfl 5 i0 (.int .u8 0) 1 1 Try.underlying68 hi0 hz0 hz1 hz2 rfl (by decide) rfl o0 rfl h' (bv_one xs) (by omega) (by omega) (by simp) ?_)
    intro v' w' ho hmu
    have x := Mut.ext (ext_alloc (ext_refl w) (.cells #[] 5)) hmu (Nat.le_refl _)
    clear hmu o0 h' hi0 hz0 hz1 hz2
    go_wp2
    go_ret
    exact gives_of _ (by simpa using ho) x
end Go.Proofs.Ytbachbanjcabhaa
