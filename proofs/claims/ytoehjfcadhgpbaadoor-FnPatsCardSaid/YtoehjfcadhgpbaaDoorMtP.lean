/- What Match means, in plain lists. Nothing here speaks of the program. -/
import Derived.Test.YtoehjfcadhgpbaaDoorBind
import Derived.Test.YtoehjfcadhgpbaaDoorVpat
import Derived.Test.YtoehjfcadhgpbaaDoorVn
namespace Go.Proofs.YtoehjfcadhgpbaaDoor
def st1 : ByteArray := ⟨#[42]⟩
def st2 : ByteArray := ⟨#[42, 42]⟩
/-- One part s against one part x, the bindings so far. -/
def m1 (s x : ByteArray) (out : List ByteArray) : Option (List ByteArray) :=
  if s = st1 then some out else if lt s = true then (if bi out s 0 = -1 then some (out ++ [s, x]) else if bval out s = x then some out else none) else if s = x then some out else none
def mg : List ByteArray → List ByteArray → List ByteArray → Option (List ByteArray)
  | [], ns, out => if ns.length = 0 then some out else none
  | s :: ps, ns, out => if s = st2 then some out else match ns with
    | [] => none
    | x :: ns => match m1 s x out with
      | none => none
      | some o => mg ps ns o
def mR (ps ns l : List ByteArray) : List ByteArray × Bool :=
  if (vpt ps && vn ns) = true then (match mg ps ns l with | some o => (o, true) | none => (l, false)) else (l, false)
theorem mR_bad {ps ns l : List ByteArray} (h : (vpt ps && vn ns) = false) : mR ps ns l = (l, false) := by unfold mR; rw [h]; rfl
theorem mR_none {ps ns l : List ByteArray} (h : (vpt ps && vn ns) = true) (g : mg ps ns l = none) : mR ps ns l = (l, false) := by unfold mR; rw [if_pos h, g]
theorem mR_some {ps ns l o : List ByteArray} (h : (vpt ps && vn ns) = true) (g : mg ps ns l = some o) : mR ps ns l = (o, true) := by unfold mR; rw [if_pos h, g]
theorem mg_star {ps ns out : List ByteArray} {k : Nat} (h : k < ps.length) (e : ps[k] = st2) : mg (ps.drop k) (ns.drop k) out = some out := by
  rw [List.drop_eq_getElem_cons h, mg.eq_def]; simp only; rw [if_pos e]
theorem mg_short {ps ns out : List ByteArray} {k : Nat} (h : k < ps.length) (e : ¬ ps[k] = st2) (g : ns.length ≤ k) : mg (ps.drop k) (ns.drop k) out = none := by
  rw [List.drop_eq_getElem_cons h, List.drop_eq_nil_of_le g, mg.eq_def]; simp only; rw [if_neg e]
theorem mg_yes {ps ns out o : List ByteArray} {k : Nat} (h : k < ps.length) (e : ¬ ps[k] = st2) (g : k < ns.length) (q : m1 ps[k] ns[k] out = some o) : mg (ps.drop k) (ns.drop k) out = mg (ps.drop (k + 1)) (ns.drop (k + 1)) o := by
  rw [List.drop_eq_getElem_cons h, List.drop_eq_getElem_cons g, mg.eq_def]; simp only; rw [if_neg e, q]
theorem mg_no {ps ns out : List ByteArray} {k : Nat} (h : k < ps.length) (e : ¬ ps[k] = st2) (g : k < ns.length) (q : m1 ps[k] ns[k] out = none) : mg (ps.drop k) (ns.drop k) out = none := by
  rw [List.drop_eq_getElem_cons h, List.drop_eq_getElem_cons g, mg.eq_def]; simp only; rw [if_neg e, q]
theorem mg_end {ps ns out : List ByteArray} {k : Nat} (h : ps.length ≤ k) (g : ns.length ≤ k) : mg (ps.drop k) (ns.drop k) out = some out := by
  rw [List.drop_eq_nil_of_le h, List.drop_eq_nil_of_le g]; rfl
theorem mg_long {ps ns out : List ByteArray} {k : Nat} (h : ps.length ≤ k) (g : k < ns.length) : mg (ps.drop k) (ns.drop k) out = none := by
  rw [List.drop_eq_nil_of_le h, mg.eq_def]; simp only; rw [if_neg (by rw [List.length_drop]; omega)]
theorem m1_star {s x : ByteArray} {out : List ByteArray} (h : s = st1) : m1 s x out = some out := by unfold m1; rw [if_pos h]
theorem m1_new {s x : ByteArray} {out : List ByteArray} (h : ¬ s = st1) (l : lt s = true) (b : bi out s 0 = -1) : m1 s x out = some (out ++ [s, x]) := by unfold m1; rw [if_neg h, if_pos l, if_pos b]
theorem m1_same {s x : ByteArray} {out : List ByteArray} (h : ¬ s = st1) (l : lt s = true) (b : ¬ bi out s 0 = -1) (e : bval out s = x) : m1 s x out = some out := by unfold m1; rw [if_neg h, if_pos l, if_neg b, if_pos e]
theorem m1_other {s x : ByteArray} {out : List ByteArray} (h : ¬ s = st1) (l : lt s = true) (b : ¬ bi out s 0 = -1) (e : ¬ bval out s = x) : m1 s x out = none := by unfold m1; rw [if_neg h, if_pos l, if_neg b, if_neg e]
theorem m1_lit {s x : ByteArray} {out : List ByteArray} (h : ¬ s = st1) (l : lt s = false) (e : s = x) : m1 s x out = some out := by unfold m1; rw [if_neg h, if_neg (by rw [l]; decide), if_pos e]
theorem m1_lit_no {s x : ByteArray} {out : List ByteArray} (h : ¬ s = st1) (l : lt s = false) (e : ¬ s = x) : m1 s x out = none := by unfold m1; rw [if_neg h, if_neg (by rw [l]; decide), if_neg e]
theorem m1_len {s x : ByteArray} {out o : List ByteArray} (h : m1 s x out = some o) : o.length ≤ out.length + 2 := by
  unfold m1 at h
  split at h
  · cases h; omega
  · split at h
    · split at h
      · cases h; simp
      · split at h
        · cases h; omega
        · cases h
    · split at h
      · cases h; omega
      · cases h
theorem mg_len : ∀ (ps ns out o : List ByteArray), mg ps ns out = some o → o.length ≤ out.length + 2 * ps.length
  | [], ns, out, o, h => by
    rw [mg.eq_def] at h; simp only at h
    split at h
    · cases h; omega
    · cases h
  | s :: ps, [], out, o, h => by
    rw [mg.eq_def] at h; simp only at h
    split at h
    · cases h; omega
    · cases h
  | s :: ps, x :: ns, out, o, h => by
    rw [mg.eq_def] at h; simp only at h
    split at h
    · cases h; omega
    · cases hq : m1 s x out with
      | none => rw [hq] at h; cases h
      | some o1 =>
        rw [hq] at h
        have h1 := m1_len hq
        have h2 := mg_len ps ns o1 o h
        simp only [List.length_cons]
        omega
theorem mR_len (ps ns ls : List ByteArray) : (mR ps ns ls).1.length ≤ ls.length + 2 * ps.length := by
  unfold mR
  split
  · cases h : mg ps ns ls with
    | none => simp only; omega
    | some o => exact mg_len ps ns ls o h
  · simp only; omega
end Go.Proofs.YtoehjfcadhgpbaaDoor
