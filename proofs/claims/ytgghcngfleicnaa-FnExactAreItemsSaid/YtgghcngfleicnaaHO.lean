import Derived.Deep.Slices
import Derived.Deep.Fields
import Derived.ChangeSame
import Derived.SizedLaws
import Derived.ChangeSlices
import Derived.Lib.SmallJoins
import Derived.Test.YtgghcngfleicnaaWWords
namespace Go.Proofs.Ytgghcngfleicnaa.HO
open Go.ChangeShapes Go.WideShapes Go.Deep Go.RowKit Go.Proofs.YtgghcngfleicnaaW.PrintWords
set_option linter.unusedVariables false
section
variable {H : Type} {enc : TypeId × Value → H} {P : Program} {w : World} {base : Nat} {spare : Nat → Bool} {held : Bool}

/-- A slice of structs of n whole numbers each, opened: F i j is field j of element i. -/
theorem open_ints_struct {t e : TypeId} {fs : Array Field} {fuel : Nat} {cs : List Value} {x : DataW H × List MemPlace} (ht : P.underlying t = some (.slice e)) (he : P.underlying e = some (.struct fs))
    (hone : oneCellFields P fs = true) (hC : P.cellsOf e = fs.size) (hk : ∀ (j : Nat) (f : Field), fs[j]? = some f → P.underlying f.type = some (.int .i64)) (h : DataW.trod enc P w base spare held fuel t cs = some x) :
    (cs = [.slice none 0 0] ∧ x = (.nil, [])) ∨
    ∃ (a : Addr) (len cap : Nat) (F : Nat → Nat → Int) (el sp : List (DataW H)) (ps : List MemPlace), cs = [.slice (some a) len cap] ∧ len ≤ cap ∧ cap ≤ maxLen ∧ x = (.slice el sp, ps) ∧ el.length = len ∧
      ∀ i, i < len → ∀ j, j < fs.size → w.cell? (a.add (i * fs.size + j)) = some (.int .i64 (F i j)) ∧ (Lit.int .i64 (F i j)).wf = true := by
  rcases open_slice ht h with h0 | ⟨a, len, cap, m, n, D, Pl, hcs, hb, hl, hm, hmm, hx, hi⟩
  · exact .inl h0
  · have hlm : len ≤ m := by rw [hmm]; split <;> omega
    have key : ∀ i, i < len → ∃ G : Nat → Int, ∀ j, j < fs.size → w.cell? (a.add (i * fs.size + j)) = some (.int .i64 (G j)) ∧ (Lit.int .i64 (G j)).wf = true := fun i hil => by
      obtain ⟨cs', hc, ht'⟩ := hi i (by omega)
      rw [hC] at hc
      obtain ⟨ys, n', hn', hy, hlen, hyl, hf⟩ := DataW.trod_struct he ht'
      obtain ⟨_, hcl, hat⟩ := World.cells?_some hc
      refine choose_lt (α := Int) (p := fun j v => w.cell? (a.add (i * fs.size + j)) = some (.int .i64 v) ∧ (Lit.int .i64 v).wf = true) (fun j hj => ?_)
      have hfj : fs[j]? = some fs[j] := Array.getElem?_eq_getElem hj
      obtain ⟨ho, hk1⟩ := hone_of hone j _ hfj
      have hcell := hat j hj
      have hv : cs'[j]? = some (cs'[j]'(by omega)) := List.getElem?_eq_getElem (by omega)
      have h1 := hf j _ hfj
      rw [ho, hk1] at h1
      have hone' : (cs'.drop j).take 1 = [cs'[j]'(by omega)] := by
        rw [List.drop_eq_getElem_cons (by omega)]
        rfl
      rw [hone'] at h1
      have hys : ys[j]? = some (ys[j]'(by omega)) := List.getElem?_eq_getElem (by omega)
      obtain ⟨v, e0, _, wv⟩ := DataW.trod_int (hk j _ hfj) (h1.trans hys)
      refine ⟨v, ?_, wv⟩
      rw [← Go.Deep.add_add, hcell, hv]
      simp only [List.cons.injEq, and_true] at e0
      rw [e0]
    obtain ⟨F, hF⟩ := choose_lt (α := Nat → Int) (p := fun i G => ∀ j, j < fs.size → w.cell? (a.add (i * fs.size + j)) = some (.int .i64 (G j)) ∧ (Lit.int .i64 (G j)).wf = true) key
    exact .inr ⟨a, len, cap, F, _, _, _, hcs, hl, hm, hx, by simp, hF⟩

/-- The same of an argument: the numbers, and how many at most. -/
theorem open_structs {t e : TypeId} {fs : Array Field} {a : Option Addr} {len cap : Nat} {d : DataW H} {ps : List MemPlace} {ts : List TypeId} {ds : List (DataW H)} {j : Nat}
    (hsz : (DataW.weightsEach P ts ds).all (· ≤ reachBytes) = true) (htj : ts[j]? = some t) (hdj : ds[j]? = some d) (ht : P.underlying t = some (.slice e)) (he : P.underlying e = some (.struct fs))
    (hone : oneCellFields P fs = true) (hC : P.cellsOf e = fs.size) (hk : ∀ (j : Nat) (f : Field), fs[j]? = some f → P.underlying f.type = some (.int .i64)) {B : Nat} (hB : P.bytesOf e = B)
    (h : DataW.Trod enc P w base spare held t (.slice a len cap) d ps) :
    ∃ F : Nat → Nat → Int, len ≤ cap ∧ len ≤ maxLen ∧ len * B ≤ 140737488351232 ∧ (0 < len → ∃ ad, a = some ad ∧ ∀ i, i < len → ∀ j, j < fs.size → w.cell? (ad.add (i * fs.size + j)) = some (.int .i64 (F i j))) ∧ ∀ i, i < len → ∀ j, j < fs.size → (Lit.int .i64 (F i j)).wf = true := by
  obtain ⟨fuel, hf⟩ := h
  rcases open_ints_struct ht he hone hC hk hf with ⟨hcs, _⟩ | ⟨x, l, c, F, el, sp, ps', hcs, hl, hm, hx, hel, hF⟩
  · simp [Value.cells] at hcs
    obtain ⟨rfl, rfl, rfl⟩ := hcs
    exact ⟨fun _ _ => 0, by omega, by omega, by omega, fun h => absurd h (by omega), fun i hi => absurd hi (by omega)⟩
  · simp [Value.cells] at hcs
    obtain ⟨rfl, rfl, rfl⟩ := hcs
    obtain ⟨hx, _⟩ := Prod.mk.inj hx
    subst hx
    have z := sized_slice hsz htj hdj ht
    rw [hB, hel] at z
    refine ⟨F, hl, by omega, ?_, fun _ => ⟨x, rfl, fun i hi j hj => (hF i hi j hj).1⟩, fun i hi j hj => (hF i hi j hj).2⟩
    have : reachBytes = 140737488351232 := by decide
    rw [this] at z
    exact Nat.le_trans (Nat.mul_le_mul_right _ (by omega)) z

/-- A struct of two whole numbers, by value. -/
theorem open_pair {r : Reach} {b0 : Nat} {t : TypeId} {f0 f1 : Field} {v : Value} {d : DataW H} {p : List MemPlace} (hs : P.underlying t = some (.struct #[f0, f1])) (hone : oneCellFields P #[f0, f1] = true) (hC : P.cellsOf t = 2)
    (h0 : P.underlying f0.type = some (.int .i64)) (h1 : P.underlying f1.type = some (.int .i64)) (hv : Value.okWide P w r b0 t v) (h : DataW.Trod enc P w base spare held t v d p) :
    ∃ x y : Int, v = .agg #[.int .i64 x, .int .i64 y] ∧ p = [] ∧ (Lit.int .i64 x).wf = true ∧ (Lit.int .i64 y).wf = true := by
  obtain ⟨v0, v1, y0, y1, n, rfl, rfl, rfl, g0, g1⟩ := Go.Joins.open_agg2 hs hone hC hv h
  obtain ⟨x, e0, rfl, w0⟩ := DataW.trod_int h0 g0
  obtain ⟨y, e1, rfl, w1⟩ := DataW.trod_int h1 g1
  simp only [List.cons.injEq, and_true] at e0 e1
  subst e0 e1
  exact ⟨x, y, rfl, rfl, w0, w1⟩
end
end Go.Proofs.Ytgghcngfleicnaa.HO
