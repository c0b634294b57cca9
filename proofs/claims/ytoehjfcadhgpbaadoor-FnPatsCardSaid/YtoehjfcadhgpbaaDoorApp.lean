/- append onto a slice that the call owns, from any slice that reads as cells. Conditions: the new length, in cells and in bytes, is within the model's bounds. Nothing here speaks of the program. -/
import Derived.Test.YtoehjfcadhgpbaaDoorBase
namespace Go.Proofs.YtoehjfcadhgpbaaDoor
open Go.RowKit
section
variable {P : Program}
theorem run_append_empty (w : World) (t ty e : TypeId) (i : TypeInfo) (size : Nat) (ht : P.underlying t = some (.slice e)) (hi : P.info? e = some i) {lo hi' : Nat} {v : Value} {n : Nat} {xs : List Value} (h : Own w lo hi' e size v n xs) (A : Option Addr) (c : Nat) :
    (Builtin.append_ #[t, t] ty #[v, .slice A 0 c]).run P w = .ok v w := by
  rcases h with ⟨_, ⟨rfl, a, rfl⟩ | ⟨g, cap, cur, rfl, _, _, _, hnc, _⟩⟩
  · cases A <;> cases a <;> simp [Builtin.append_, run_underlying ht, sizeOf, typeInfo, hi, Builtin.lenOf, Builtin.firstCells, storeCells, loadCells, loadCellsFrom]
  · cases A <;> simp [Builtin.append_, run_underlying ht, sizeOf, typeInfo, hi, Builtin.lenOf, Builtin.firstCells, hnc, storeCells, loadCells, loadCellsFrom]
theorem run_append_Own (w : World) (t ty e : TypeId) (i : TypeInfo) (z : Value) (size bytes : Nat) (ht : P.underlying t = some (.slice e)) (hi : P.info? e = some i) (hz : i.zero = some z)
    (hsize : i.size = size) (hby : i.bytes = bytes) (hzs : z.cells.size = size) (hsz : 0 < size) {lo hi' lo' hi'' : Nat}
    {v : Value} {n : Nat} {xs : List Value} (h : Own w lo hi' e size v n xs) {u : Value} {m : Nat} {news : List Value} (hr : Rd w lo' hi'' size u m news) (h1 : ∀ u ∈ news, u.oneCell' = true)
    (h63 : n + m ≤ 9223372036854775807) (hbytes : (n + m) * bytes ≤ 140737488355328) (hlo : lo ≤ w.heap.size) :
    ∃ v' w', (Builtin.append_ #[t, t] ty #[v, u]).run P w = .ok v' w' ∧ Own w' lo w'.heap.size e size v' (n + m) (xs ++ news) ∧ Mut lo hi' w w' := by
  obtain ⟨hnl, A, c, rfl, _, _, hat⟩ := hr
  by_cases hm : 0 < m
  · obtain ⟨b, off, rfl, _, _, _, hcell⟩ := hat hm
    have hc : ∀ j u, news[j]? = some u → w.cell? ((⟨b, off, none⟩ : Addr).add j) = some u := fun j u hu => by rw [Addr.add_lit]; exact hcell j u hu
    rcases h.row with ⟨rfl, rfl, a, rfl⟩ | ⟨hrow, hblk⟩
    · cases a with
      | none =>
        have hown : w.ownsRow w.heap.size e size (.slice none 0 0) 0 [] := World.ownsRow_nil _ _ _ _
        obtain ⟨v', w', hrun, r1, r2, _⟩ := run_append_own (P := P) w w.heap.size t ty e i z size bytes ht hi hz hsize hby hzs hsz _ 0 [] hown _ m c news hnl hc h1 (by unfold maxLen; omega) hbytes (Nat.le_refl _)
        exact ⟨v', w', hrun, (Own.of_row r1).mono hlo (Nat.le_refl _), Mut.grown r2 (fun k hk => by simp [Value.ownBlock] at hk)⟩
      | some a =>
        obtain ⟨v', w', hrun, r1, r2⟩ := run_append_arg_grows (P := P) w t ty e i z size bytes ht hi hz hsize hby hzs hsz a 0 0 [] (by simp) (by simp) _ m c news hnl hc (by omega) (by unfold maxLen; omega) hbytes
        exact ⟨v', w', hrun, (Own.of_row r1).mono hlo (Nat.le_refl _), Mut.grown r2 (fun k hk => by cases hk)⟩
    · obtain ⟨v', w', hrun, r1, r2, _⟩ := run_append_own (P := P) w lo t ty e i z size bytes ht hi hz hsize hby hzs hsz v n xs hrow _ m c news hnl hc h1 (by unfold maxLen; omega) hbytes hlo
      exact ⟨v', w', hrun, Own.of_row r1, Mut.grown r2 hblk⟩
  · have hm0 : m = 0 := by omega
    subst hm0
    have hn : news = [] := List.eq_nil_of_length_eq_zero (by simpa using hnl)
    subst hn
    refine ⟨v, w, run_append_empty w t ty e i size ht hi h A c, ?_, Mut.refl _ _ _⟩
    rw [List.append_nil, Nat.add_zero]
    rcases h.row with ⟨rfl, rfl, a, rfl⟩ | ⟨hrow, _⟩
    · exact Own.none_ _ _ _ _ _ _
    · exact Own.of_row hrow
theorem wpList_append_Own {w : World} {ops : Array Oper} {rest : List Oper} {o : Oper} {a : Act} {Q : Exit → Act → World → Prop} (hgd : o.guard = none) (s x : Operand) (t : TypeId)
    (ho : o.op = .call { callee := .builtin .append, args := #[s, x], argTypes := #[t, t] })
    (e : TypeId) (i : TypeInfo) (z : Value) (size bytes : Nat) (ht : P.underlying t = some (.slice e)) (hi : P.info? e = some i) (hz : i.zero = some z)
    (hsize : i.size = size) (hby : i.bytes = bytes) (hzs : z.cells.size = size) (hsz : 0 < size) {lo hi' lo' hi'' : Nat}
    {v : Value} {n : Nat} {xs : List Value} (hs : a.eval s = v) (h : Own w lo hi' e size v n xs) {u : Value} {m : Nat} {news : List Value} (hx : a.eval x = u) (hr : Rd w lo' hi'' size u m news) (h1 : ∀ u ∈ news, u.oneCell' = true)
    (h63 : n + m ≤ 9223372036854775807) (hbytes : (n + m) * bytes ≤ 140737488355328) (hlo : lo ≤ w.heap.size)
    (hK : ∀ v' w', Own w' lo w'.heap.size e size v' (n + m) (xs ++ news) → Mut lo hi' w w' → wpList P ops Q rest (a.put o.dst v') w') : wpList P ops Q (o :: rest) a w := by
  refine wpList_plain hgd fun K hK' => ?_
  obtain ⟨v', w', hrun, h2, h3⟩ := run_append_Own (P := P) w t o.type e i z size bytes ht hi hz hsize hby hzs hsz h hr h1 h63 hbytes hlo
  unfold Oper.wp execOp
  simp only [ho, resolve, invoke, builtin, Sem.run_bind, Sem.run_pure, Result.andThen_ok, List.map_toArray, List.map_cons, List.map_nil, hs, hx, hrun]
  exact hK' _ _ (hK v' w' h2 h3)
theorem step_append_Own {w : World} {ops : Array Oper} {o : Oper} {a : Act} {K : Act → World → Prop} {Q : Exit → Act → World → Prop} {E : Prop} (hgd : o.guard = none) (s x : Operand) (t : TypeId)
    (ho : o.op = .call { callee := .builtin .append, args := #[s, x], argTypes := #[t, t] })
    (e : TypeId) (i : TypeInfo) (z : Value) (size bytes : Nat) (ht : P.underlying t = some (.slice e)) (hi : P.info? e = some i) (hz : i.zero = some z)
    (hsize : i.size = size) (hby : i.bytes = bytes) (hzs : z.cells.size = size) (hsz : 0 < size) {lo hi' lo' hi'' : Nat}
    {v : Value} {n : Nat} {xs : List Value} (hs : a.eval s = v) (h : Own w lo hi' e size v n xs) {u : Value} {m : Nat} {news : List Value} (hx : a.eval x = u) (hr : Rd w lo' hi'' size u m news) (h1 : ∀ u ∈ news, u.oneCell' = true)
    (h63 : n + m ≤ 9223372036854775807) (hbytes : (n + m) * bytes ≤ 140737488355328) (hlo : lo ≤ w.heap.size)
    (hK : ∀ v' w', Own w' lo w'.heap.size e size v' (n + m) (xs ++ news) → Mut lo hi' w w' → K (a.put o.dst v') w') :
    if Region.wanted o (yielded ops a.tmps) = true then Oper.wp P o a w K Q else E := by
  have hw : Region.wanted o (yielded ops a.tmps) = true := by simp [Region.wanted, hgd]
  rw [if_pos hw]
  obtain ⟨v', w', hrun, h2, h3⟩ := run_append_Own (P := P) w t o.type e i z size bytes ht hi hz hsize hby hzs hsz h hr h1 h63 hbytes hlo
  unfold Oper.wp execOp
  simp only [ho, resolve, invoke, builtin, Sem.run_bind, Sem.run_pure, Result.andThen_ok, List.map_toArray, List.map_cons, List.map_nil, hs, hx, hrun]
  exact hK v' w' h2 h3
/-- A new block of k elements, read from its head. -/
theorem Rd.new (w : World) (cs : List Value) (e : TypeId) (size k : Nat) (hk : k ≤ 9223372036854775807) (hs : cs.length = k * size) : Rd (w.alloc (.cells cs.toArray e)) w.heap.size (w.heap.size + 1) size (.slice (some ⟨w.heap.size, 0, none⟩) k k) k cs :=
  (Own.new w cs.toArray e size k (by unfold maxLen; omega) (by simpa using hs)).rd
end
end Go.Proofs.YtoehjfcadhgpbaaDoor
