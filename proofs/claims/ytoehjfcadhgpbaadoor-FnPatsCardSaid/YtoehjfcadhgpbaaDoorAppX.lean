/- append onto a slice that the call owns, told exactly: what comes of it lies in the old range of blocks or in a new one. Conditions: the new length, in cells and in bytes, is within the model's bounds. Nothing here speaks of the program. -/
import Derived.Test.YtoehjfcadhgpbaaDoorApp
import Derived.OwnWalk
namespace Go.Proofs.YtoehjfcadhgpbaaDoor
open Go.RowKit
section
variable {P : Program}
theorem run_append_exact (w : World) (t ty e : TypeId) (i : TypeInfo) (z : Value) (size bytes : Nat) (ht : P.underlying t = some (.slice e)) (hi : P.info? e = some i) (hz : i.zero = some z)
    (hsize : i.size = size) (hby : i.bytes = bytes) (hzs : z.cells.size = size) (hsz : 0 < size) {lo hi' lo' hi'' : Nat}
    {v : Value} {n : Nat} {xs : List Value} (h : Own w lo hi' e size v n xs) {u : Value} {m : Nat} {news : List Value} (hr : Rd w lo' hi'' size u m news) (h1 : ∀ u ∈ news, u.oneCell' = true) (hm : 0 < m)
    (h63 : n + m ≤ 9223372036854775807) (hbytes : (n + m) * bytes ≤ 140737488355328) :
    ∃ v' w' o, (Builtin.append_ #[t, t] ty #[v, u]).run P w = .ok v' w' ∧ (o = (lo, hi') ∨ o = (w.heap.size, w'.heap.size)) ∧ Own w' o.1 o.2 e size v' (n + m) (xs ++ news) ∧ Mut lo hi' w w' := by
  obtain ⟨hnl, A, c, rfl, _, _, hat⟩ := hr
  obtain ⟨b, off, rfl, _, _, _, hcell⟩ := hat hm
  have hc : ∀ j u, news[j]? = some u → w.cell? ((⟨b, off, none⟩ : Addr).add j) = some u := fun j u hu => by rw [Addr.add_lit]; exact hcell j u hu
  have h0 := h
  obtain ⟨hl0, ⟨rfl, a, rfl⟩ | ⟨g, cap, cur, rfl, hlo, hhi, hg, hnc, hcm, hcs, htk⟩⟩ := h
  · have hx : xs = [] := List.eq_nil_of_length_eq_zero (by simpa using hl0)
    subst hx
    cases a with
    | none =>
      obtain ⟨v', w', hrun, r1, r2, _⟩ := run_append_own (P := P) w w.heap.size t ty e i z size bytes ht hi hz hsize hby hzs hsz _ 0 [] (World.ownsRow_nil _ _ _ _) _ m c news hnl hc h1 (by unfold maxLen; omega) hbytes (Nat.le_refl _)
      exact ⟨v', w', _, hrun, .inr rfl, Own.of_row r1, Mut.grown r2 (fun k hk => by simp [Value.ownBlock] at hk)⟩
    | some a =>
      obtain ⟨v', w', hrun, r1, r2⟩ := run_append_arg_grows (P := P) w t ty e i z size bytes ht hi hz hsize hby hzs hsz a 0 0 [] (by simp) (by simp) _ m c news hnl hc (by omega) (by unfold maxLen; omega) hbytes
      exact ⟨v', w', _, hrun, .inr rfl, Own.of_row r1, Mut.grown r2 (fun k hk => by cases hk)⟩
  · have hown : w.ownsRow g e size (.slice (some ⟨g, 0, none⟩) n cap) n xs := ⟨hl0, .inr ⟨g, cap, cur, rfl, Nat.le_refl _, hg, hnc, hcm, hcs, htk⟩⟩
    by_cases hfit : n + m ≤ cap
    · obtain ⟨w', hrun, r1, r2⟩ := run_append_fits (P := P) w g t ty e i size ht hi hsize g n cap xs hown _ m c news hnl hc h1 hfit
      refine ⟨_, w', (lo, hi'), hrun, .inl rfl, ?_, Mut.grown r2 (fun k hk => by simp at hk; omega)⟩
      obtain ⟨q0, ⟨q1, _⟩ | ⟨g', cap', cur', q1, q2, q3, q4⟩⟩ := r1
      · cases q1
      · injection q1 with q5 q6 q7
        injection q5 with q8
        injection q8 with q9
        subst q9
        exact ⟨q0, .inr ⟨g, cap', cur', by rw [q7], hlo, hhi, q3, q4⟩⟩
    · obtain ⟨v', w', hrun, r1, r2⟩ := run_append_arg_grows (P := P) w t ty e i z size bytes ht hi hz hsize hby hzs hsz ⟨g, 0, none⟩ n cap xs hl0 (fun j u hu => by
        rw [Addr.add_lit, Nat.zero_add, hown.cellAt j (by have := (List.getElem?_eq_some_iff.1 hu).1; omega), hu]) _ m c news hnl hc (by omega) (by unfold maxLen; omega) hbytes
      exact ⟨v', w', _, hrun, .inr rfl, Own.of_row r1, Mut.grown r2 (fun k hk => by cases hk)⟩
theorem wpList_append_exact {w : World} {ops : Array Oper} {rest : List Oper} {o : Oper} {a : Act} {Q : Exit → Act → World → Prop} (hgd : o.guard = none) (s x : Operand) (t : TypeId)
    (ho : o.op = .call { callee := .builtin .append, args := #[s, x], argTypes := #[t, t] })
    (e : TypeId) (i : TypeInfo) (z : Value) (size bytes : Nat) (ht : P.underlying t = some (.slice e)) (hi : P.info? e = some i) (hz : i.zero = some z)
    (hsize : i.size = size) (hby : i.bytes = bytes) (hzs : z.cells.size = size) (hsz : 0 < size) {lo hi' lo' hi'' : Nat}
    {v : Value} {n : Nat} {xs : List Value} (hs : a.eval s = v) (h : Own w lo hi' e size v n xs) {u : Value} {m : Nat} {news : List Value} (hx : a.eval x = u) (hr : Rd w lo' hi'' size u m news) (h1 : ∀ u ∈ news, u.oneCell' = true) (hm : 0 < m)
    (h63 : n + m ≤ 9223372036854775807) (hbytes : (n + m) * bytes ≤ 140737488355328)
    (hK : ∀ v' w' o', Hid (o' = (lo, hi') ∨ o' = (w.heap.size, w'.heap.size)) → Own w' o'.1 o'.2 e size v' (n + m) (xs ++ news) → Mut lo hi' w w' → wpList P ops Q rest (a.put o.dst v') w') : wpList P ops Q (o :: rest) a w := by
  refine wpList_plain hgd fun K hK' => ?_
  obtain ⟨v', w', o', hrun, h2, h3, h4⟩ := run_append_exact (P := P) w t o.type e i z size bytes ht hi hz hsize hby hzs hsz h hr h1 hm h63 hbytes
  unfold Oper.wp execOp
  simp only [ho, resolve, invoke, builtin, Sem.run_bind, Sem.run_pure, Result.andThen_ok, List.map_toArray, List.map_cons, List.map_nil, hs, hx, hrun]
  exact hK' _ _ (hK v' w' o' h2 h3 h4)
theorem step_append_exact {w : World} {ops : Array Oper} {o : Oper} {a : Act} {K : Act → World → Prop} {Q : Exit → Act → World → Prop} {E : Prop} (hgd : o.guard = none) (s x : Operand) (t : TypeId)
    (ho : o.op = .call { callee := .builtin .append, args := #[s, x], argTypes := #[t, t] })
    (e : TypeId) (i : TypeInfo) (z : Value) (size bytes : Nat) (ht : P.underlying t = some (.slice e)) (hi : P.info? e = some i) (hz : i.zero = some z)
    (hsize : i.size = size) (hby : i.bytes = bytes) (hzs : z.cells.size = size) (hsz : 0 < size) {lo hi' lo' hi'' : Nat}
    {v : Value} {n : Nat} {xs : List Value} (hs : a.eval s = v) (h : Own w lo hi' e size v n xs) {u : Value} {m : Nat} {news : List Value} (hx : a.eval x = u) (hr : Rd w lo' hi'' size u m news) (h1 : ∀ u ∈ news, u.oneCell' = true) (hm : 0 < m)
    (h63 : n + m ≤ 9223372036854775807) (hbytes : (n + m) * bytes ≤ 140737488355328)
    (hK : ∀ v' w' o', (o' = (lo, hi') ∨ o' = (w.heap.size, w'.heap.size)) → Own w' o'.1 o'.2 e size v' (n + m) (xs ++ news) → Mut lo hi' w w' → K (a.put o.dst v') w') :
    if Region.wanted o (yielded ops a.tmps) = true then Oper.wp P o a w K Q else E := by
  have hw : Region.wanted o (yielded ops a.tmps) = true := by simp [Region.wanted, hgd]
  rw [if_pos hw]
  obtain ⟨v', w', o', hrun, h2, h3, h4⟩ := run_append_exact (P := P) w t o.type e i z size bytes ht hi hz hsize hby hzs hsz h hr h1 hm h63 hbytes
  unfold Oper.wp execOp
  simp only [ho, resolve, invoke, builtin, Sem.run_bind, Sem.run_pure, Result.andThen_ok, List.map_toArray, List.map_cons, List.map_nil, hs, hx, hrun]
  exact hK v' w' o' h2 h3 h4
end
end Go.Proofs.YtoehjfcadhgpbaaDoor
