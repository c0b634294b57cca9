/- How an argument that is an interest (a name and three ints) is opened. Condition: it reads as data in the world W. -/
import Derived.Test.YtbachbanjcabhaaFrameN
import Derived.Test.YtbachbanjcabhaaWant
set_option maxRecDepth 100000
namespace Go.Proofs.Ytbachbanjcabhaa
open Go.ChangeShapes Go.WideShapes Go.ChangeAt Go.RowKit Go.Joins Go.Deep
theorem ew_refl (xs : List ByteArray) (a b c : Int) : ew xs xs a b c a b c = true := by unfold ew; simp
/-- Two that read alike are one. -/
theorem eqInterestSame_c {w : World} {lo hi lo' hi' n m : Nat} {v v' : Value} {xs : List ByteArray} {a b c : Int} (h : RdW w lo hi v n (xs.map sv) a b c) (h' : RdW w lo' hi' v' m (xs.map sv) a b c) :
    Calls Try.prog 53 #[v, v'] w (Gives w fun r _ => r = .bool true) := by
  have C := eqInterest_c h h'
  rw [ew_refl] at C
  exact C
def I64 (a : Int) : Prop := -9223372036854775808 ≤ a ∧ a ≤ 9223372036854775807
section
variable {H : Type} {enc : TypeId × Value → H} {W : World} {base : Nat} {v : Value} {d : DataW H} {p : List MemPlace}
theorem i64_of {a : Int} (h : (Lit.int .i64 a).wf = true) : I64 a := bounds_i64 h
theorem rd_want {t e : TypeId} {f0 f1 f2 f3 g : Field} (hs : Try.prog.underlying t = some (.struct #[f0, f1, f2, f3])) (hone : oneCellFields Try.prog #[f0, f1, f2, f3] = true) (hC : Try.prog.cellsOf t = 4)
    (hn : Try.prog.underlying f0.type = some (.struct #[g])) (hone' : oneCellFields Try.prog #[g] = true) (ht : Try.prog.underlying g.type = some (.slice e)) (he : Try.prog.underlying e = some .string) (hc : Try.prog.cellsOf e = 1)
    (h1 : Try.prog.underlying f1.type = some (.int .i64)) (h2 : Try.prog.underlying f2.type = some (.int .i64)) (h3 : Try.prog.underlying f3.type = some (.int .i64))
    (hv : Value.okWide Try.prog W .any base t v) (h : DataW.Trod enc Try.prog W 0 (fun _ => true) true t v d p) :
    ∃ (ss : List ByteArray) (a b c : Int), RdW W 0 W.heap.size v ss.length (ss.map sv) a b c ∧ (∀ s ∈ ss, s.size ≤ 9223372036854775807) ∧ I64 a ∧ I64 b ∧ I64 c := by
  obtain ⟨v0, v1, v2, v3, y0, y1, y2, y3, n, rfl, _, _, t0, t1, t2, t3⟩ := open_agg4 hs hone hC hv h
  obtain ⟨a, ha, _, wa⟩ := DataW.trod_int h1 t1
  obtain ⟨b, hb, _, wb⟩ := DataW.trod_int h2 t2
  obtain ⟨c, hc', _, wc⟩ := DataW.trod_int h3 t3
  obtain ⟨xs, m, _, hx, _, hlen, hg⟩ := DataW.trod_struct hn t0
  obtain ⟨o0, k0⟩ := hone_of hone' 0 g rfl
  match xs, hlen with
  | [z0], _ =>
    have g0 : DataW.trod enc Try.prog W 0 (fun _ => true) true m g.type [v0] = some z0 := by simpa [o0, k0] using hg 0 g rfl
    obtain ⟨ss, hr, hw⟩ := rd_strs ht he hc g0
    simp at ha hb hc'
    subst ha hb hc'
    exact ⟨ss, a, b, c, ⟨v0, rfl, hr⟩, hw, i64_of wa, i64_of wb, i64_of wc⟩
end
end Go.Proofs.Ytbachbanjcabhaa
