/-
  PROVED: for all arguments, the program's StrongestFirst returns what the reference's returns; the arguments read behind the call as before.
  CONDITIONS: none beyond the statement's own.
-/
import Derived.Test.YtbmefldckdaopaaZFnExactStrongestFirst3
import Derived.Test.YtbmefldckdaopaaZFnExactStrongestFirst2
import Derived.Test.YtbmefldckdaopaaZFnExactStrongestFirst1
import Derived.Deep.Slices
import Derived.Deep.Fields
import Derived.ChangeSame
import Derived.SizedLaws
import Derived.ChangeSlices
import Derived.Lib.SmallJoins
import Derived.Test.YtbmefldckdaopaaWWords
import Derived.Test.YtbmefldckdaopaaRows
import Derived.WalkKit
import Derived.ProofKit
import Derived.OpenShut
import Derived.ShutString
import Derived.ChangeOld
import Derived.Below
import Derived.Test.YtbmefldckdaopaaWSized
namespace Go.Proofs.Ytbmefldckdaopaa.Q
open Go.RowKit Go.Proofs.YtbmefldckdaopaaW.PrintWords Go.Proofs.YtbmefldckdaopaaW.PrintLast Go.Proofs.YtbmefldckdaopaaW.PrintMore
set_option linter.unusedVariables false
set_option linter.unusedSimpArgs false

/-- Things whose numbers are small. -/
def Small (l : List Thing) : Prop := ∀ i : Int, 0 ≤ i → i < (l.length : Int) → (1 ≤ (rd_T49 l i).f0 ∧ (rd_T49 l i).f0 ≤ 1000) ∧ 0 ≤ (rd_T49 l i).f1 ∧ (rd_T49 l i).f1 ≤ 1000
theorem small_of {l : List Thing} (h : impl_AreStackable.f l = some true) : 1 ≤ l.length ∧ l.length ≤ 7 ∧ Small l := by
  unfold impl_AreStackable.f at h
  injection h with h
  simp only [Bool.and_eq_true, decide_eq_true_eq, List.all_eq_true] at h
  refine ⟨h.1.1, h.1.2, fun i h0 h1 => ?_⟩
  have hm : rd_T49 l i ∈ l := by
    unfold rd_T49
    rw [List.getD_eq_getElem?_getD, List.getElem?_eq_getElem (by omega)]
    exact List.getElem_mem _
  have := h.2 _ hm
  unfold okThing at this
  simp only [Bool.and_eq_true, decide_eq_true_eq] at this
  omega
theorem own_st (l : List Int) (h : l.length < 1000000) : spec_l1Own.f l = some l := by
  unfold spec_l1Own.f
  simp only [Option.bind_some, List.length_nil, List.nil_append]
  rw [if_pos (by omega)]
/-- The spec's 'before', of two places. -/
def befS (l : List Thing) (x y : Int) : Bool := decide (wrap64 ((rd_T49 l y).f0 + (rd_T49 l y).f1) < wrap64 ((rd_T49 l x).f0 + (rd_T49 l x).f1))
theorem bef_same (l : List Thing) (h : Small l) (x y : Int) (h1 : 0 ≤ x) (h2 : x < (l.length : Int)) (h3 : 0 ≤ y) (h4 : y < (l.length : Int)) : ltZ (cmpStrong l) x y = befS l x y := by
  have a := h x h1 h2
  have b := h y h3 h4
  unfold ltZ cmpStrong befS
  rw [w64 (i := (rd_T49 l y).f0 + (rd_T49 l y).f1) (by omega) (by omega), w64 (i := (rd_T49 l x).f0 + (rd_T49 l x).f1) (by omega) (by omega)]
  rw [w64 (i := (rd_T49 l y).f0 + (rd_T49 l y).f1 - (rd_T49 l x).f0) (by omega) (by omega), w64 (by omega) (by omega), decide_eq_decide]
  omega
def InsideT (l : List Thing) (ch : List Int) : Prop := ∀ i ∈ ch, 0 ≤ i ∧ i < (l.length : Int)
theorem str_l1 (l : List Thing) (hn : l.length ≤ 1000) (i : Nat) (hi : i < l.length) (ord : List Int) (hin : InsideT l ord) (hl : ord.length ≤ 1000) :
    ∀ d k, d ≤ ord.length → d < k → ∃ k', k' + (d + 1) ≥ k ∧ k' ≤ k ∧
      spec_StrongestFirst.l1 k l ord (i : Int) (d : Int) l (l.length : Int) (i : Int) (rd_T49 l (i : Int)).f0 (rd_T49 l (i : Int)).f1 (rd_T49 l (i : Int)).f2 =
        spec_StrongestFirst.l0 k' l ((insR (befS l) (i : Int) (ord.take d).reverse).reverse ++ ord.drop d) l (l.length : Int) ((i + 1 : Nat) : Int) := by
  intro d
  induction d with
  | zero =>
    intro k hd hk
    obtain ⟨k, rfl⟩ : ∃ m, k = m + 1 := ⟨k - 1, by omega⟩
    refine ⟨k, by omega, by omega, ?_⟩
    simp only [spec_StrongestFirst.l1, Option.bind_some]
    rw [if_neg (by omega), if_pos (by omega), if_pos (by omega), own_st _ (by simp)]
    simp only [Option.bind_some, Int.natCast_zero, Int.toNat_zero, List.take_zero, List.drop_zero, List.nil_append, List.length_nil, List.length_cons]
    rw [if_pos (by omega), if_pos (by omega), w64 (by omega) (by omega)]
    rfl
  | succ d ih =>
    intro k hd hk
    obtain ⟨k, rfl⟩ : ∃ m, k = m + 1 := ⟨k - 1, by omega⟩
    have hlt : d < ord.length := by omega
    have hx := hin _ (List.getElem_mem hlt)
    simp only [spec_StrongestFirst.l1, Option.bind_some]
    rw [if_pos (by omega), w64 (i := ((d + 1 : Nat) : Int) - 1) (by omega) (by omega), show ((d + 1 : Nat) : Int) - 1 = (d : Int) by omega, if_pos (by omega), if_pos (by omega), rd_nat ord d hlt, if_pos (by omega), if_pos (by omega)]
    rw [take_rev ord d hlt, insR]
    by_cases hb : wrap64 ((rd_T49 l ord[d]).f0 + (rd_T49 l ord[d]).f1) < wrap64 ((rd_T49 l (i : Int)).f0 + (rd_T49 l (i : Int)).f1)
    · obtain ⟨k', h1, h2, h3⟩ := ih k (by omega) (by omega)
      refine ⟨k', by omega, by omega, ?_⟩
      rw [if_pos hb, h3, if_pos (by unfold befS; exact decide_eq_true hb)]
      congr 1
      rw [List.reverse_cons, List.append_assoc, List.drop_eq_getElem_cons hlt]
      rfl
    · have hbs : ¬ (befS l (i : Int) ord[d] = true) := by unfold befS; rw [decide_eq_false hb]; decide
      refine ⟨k, by omega, by omega, ?_⟩
      rw [if_neg hb, if_neg hbs, if_pos (by omega), if_pos (by omega), show (((d + 1 : Nat) : Int)).toNat = d + 1 by omega, own_st _ (by simp; omega)]
      simp only [Option.bind_some, List.length_append, List.length_take, List.length_drop, List.length_cons, List.length_nil]
      rw [if_pos (by omega), if_pos (by omega), w64 (by omega) (by omega)]
      rw [List.reverse_cons, List.reverse_cons, List.reverse_reverse, List.take_add_one, List.getElem?_eq_getElem hlt]
      rfl
theorem insR_mem (lt : Int → Int → Bool) (x y : Int) (l : List Int) : y ∈ insR lt x l ↔ y = x ∨ y ∈ l := by
  rw [(insR_perm lt x l).mem_iff]; simp
theorem insR_congr (lt lt' : Int → Int → Bool) (x : Int) : ∀ l : List Int, (∀ y ∈ l, lt x y = lt' x y) → insR lt x l = insR lt' x l
  | [], _ => rfl
  | y :: ys, h => by
    rw [insR, insR, h y List.mem_cons_self, insR_congr lt lt' x ys (fun z hz => h z (List.mem_cons_of_mem _ hz))]
theorem str_l0 (l : List Thing) (hS : Small l) (hn : l.length ≤ 1000) :
    ∀ d k i (ord : List Int), i + d = l.length → ord.length = i → (d + 1) * 3000 ≤ k → (((List.range d).map fun j => ((i + j : Nat) : Int)).foldl (fun r x => insR (ltZ (cmpStrong l)) x r) ord.reverse).reverse = strongL l → InsideT l ord → spec_StrongestFirst.l0 k l ord l (l.length : Int) (i : Int) = some (strongL l, true) := by
  intro d
  induction d with
  | zero =>
    intro k i ord hi hl hk hs hin
    obtain ⟨k, rfl⟩ : ∃ m, k = m + 1 := ⟨k - 1, by omega⟩
    simp only [spec_StrongestFirst.l0, Option.bind_some]
    have hs2 : ord = strongL l := by simpa using hs
    rw [if_neg (by omega), hs2]
  | succ d ih =>
    intro k i ord hi hl hk hs hin
    obtain ⟨k, rfl⟩ : ∃ m, k = m + 1 := ⟨k - 1, by omega⟩
    simp only [spec_StrongestFirst.l0, Option.bind_some]
    rw [if_pos (by omega), if_pos (by omega), if_pos (by omega)]
    obtain ⟨k', h1, h2, h3⟩ := str_l1 l hn i (by omega) ord hin (by omega) ord.length k (Nat.le_refl _) (by omega)
    refine h3.trans ?_
    have hsame : insR (befS l) (i : Int) ord.reverse = insR (ltZ (cmpStrong l)) (i : Int) ord.reverse := insR_congr _ _ _ _ fun y hy => by
      have := hin y (List.mem_reverse.1 hy)
      exact (bef_same l hS (i : Int) y (by omega) (by omega) this.1 this.2).symm
    rw [List.take_length, List.drop_length, List.append_nil, hsame]
    refine ih k' (i + 1) _ (by omega) (by rw [List.length_reverse, insR_length, List.length_reverse, hl]) (by clear h3 ih hs hin hsame; rw [Nat.succ_mul] at hk; generalize (d + 1) * 3000 = e at hk ⊢; omega) ?_ ?_
    · rw [← hs, List.reverse_reverse, List.range_succ_eq_map, List.map_cons, List.foldl_cons, List.map_map]
      congr 2
      congr 1
      funext j
      simp only [Function.comp]
      omega
    · intro x hx
      rw [List.mem_reverse, insR_mem] at hx
      rcases hx with rfl | hx
      · omega
      · exact hin x (List.mem_reverse.1 hx)
theorem strongestFirst_both (l : List Thing) (hm : l.length ≤ 10000000) : ∃ r : List Int × Bool, Ev (fun k => spec_StrongestFirst.f k l) r ∧ Ev (fun _ => impl_StrongestFirst.f l) r ∧ r.1.length ≤ 10000000 := by
  obtain ⟨t, ht⟩ : ∃ t, impl_AreStackable.f l = some t := ⟨_, rfl⟩
  have hg := fun k (hk : l.length < k) => (scGood_eq l (by omega) k hk).trans ht
  unfold spec_StrongestFirst.f impl_StrongestFirst.f
  rw [ht]
  cases t with
  | false => exact ⟨([], false), Ev_from l.length fun k hk => by rw [hg k hk]; rfl, Ev_from 0 fun k _ => rfl, by simp⟩
  | true =>
    obtain ⟨h1, h2, hS⟩ := small_of ht
    refine ⟨(strongL l, true), Ev_from 1000000 fun k hk => ?_, Ev_from 0 fun k _ => ?_, by rw [strongL_length]; omega⟩
    · rw [hg k (by omega)]; simp only [Option.bind_some, if_true]
      have := str_l0 l hS (by omega) l.length k 0 [] (by omega) rfl (by omega) (by simp [strongL, sortL, upToL]) (fun x hx => by cases hx)
      simpa using this
    · simp only [Option.bind_some, if_true]; rw [if_pos (by omega)]
end Go.Proofs.Ytbmefldckdaopaa.Q

namespace Go.Proofs.Ytbmefldckdaopaa.Q
open Go.RowKit Go.Proofs.YtbmefldckdaopaaW.PrintWords Go.Proofs.YtbmefldckdaopaaW.PrintLast Go.Proofs.YtbmefldckdaopaaW.PrintMore
set_option linter.unusedVariables false
set_option linter.unusedSimpArgs false

def marksThing (a : Int) (n : Nat) : List S49 := (List.range n).map fun (j : Nat) => ⟨a + 3 * (j : Int), a + 3 * (j : Int) + 1, a + 3 * (j : Int) + 2⟩
theorem marksThing_length (a : Int) (n : Nat) : (marksThing a n).length = n := by simp [marksThing]

theorem markThingS_l0 (a : Int) (n : Nat) (h0 : 0 ≤ a) (hn : a + 3 * n ≤ 100000000000000) : ∀ d k i (x : List S49), i + d = n → d < k → x.length = n →
    ∃ y, laws_markThingS.l0 k x (a + 3 * (i : Int)) (i : Int) = some (a + 3 * (n : Int), y) ∧ y.length = n := by
  intro d
  induction d with
  | zero =>
    intro k i x hi hk hx
    obtain ⟨k, rfl⟩ : ∃ m, k = m + 1 := ⟨k - 1, by omega⟩
    simp only [laws_markThingS.l0]; rw [if_neg (by omega)]
    have : i = n := by omega
    subst this
    exact ⟨x, rfl, hx⟩
  | succ d ih =>
    intro k i x hi hk hx
    obtain ⟨k, rfl⟩ : ∃ m, k = m + 1 := ⟨k - 1, by omega⟩
    simp only [laws_markThingS.l0]
    rw [if_pos (by omega), if_pos (by omega)]
    simp only [Option.bind_some]
    rw [w64Thing (i := a + 3 * (i : Int) + 1) (by omega) (by omega), w64Thing (i := a + 3 * (i : Int) + 1 + 1) (by omega) (by omega), w64Thing (i := a + 3 * (i : Int) + 1 + 1 + 1) (by omega) (by omega), w64Thing (i := (i : Int) + 1) (by omega) (by omega)]
    rw [show a + 3 * (i : Int) + 1 + 1 + 1 = a + 3 * ((i + 1 : Nat) : Int) by omega, show (i : Int) + 1 = ((i + 1 : Nat) : Int) by omega]
    exact ih k (i + 1) _ (by omega) (by omega) (by simp [hx])
/-- Marking counts on, whatever it writes. -/
theorem markThingS_eq (x : List S49) (a : Int) (h0 : 0 ≤ a) (hn : a + 3 * x.length ≤ 100000000000000) (k : Nat) (hk : x.length < k) : ∃ y, laws_markThingS.f k x a = some (a + 3 * (x.length : Int), y) := by
  unfold laws_markThingS.f
  obtain ⟨y, h, _⟩ := markThingS_l0 a x.length h0 hn x.length k 0 x (by omega) hk rfl
  exact ⟨y, by simpa using h⟩
theorem markThingS_ev (x : List S49) (h : x.length ≤ 10000000) (a : Int) (h0 : 0 ≤ a) (hn : a ≤ 10000000000) : ∃ y, Ev (fun k => laws_markThingS.f k x a) (a + 3 * (x.length : Int), y) := by
  obtain ⟨y, hy⟩ := markThingS_eq x a h0 (by omega) (x.length + 1) (by omega)
  exact ⟨y, Ev.of (fun k => laws_markThingS.mono x a k) hy⟩
end Go.Proofs.Ytbmefldckdaopaa.Q

namespace Go.Proofs.Ytbmefldckdaopaa.Pure
open Go.RowKit Go.Proofs.Ytbmefldckdaopaa.Q Go.Proofs.YtbmefldckdaopaaW.PrintWords Go.Proofs.YtbmefldckdaopaaW.PrintLast
set_option linter.unusedVariables false
set_option linter.unusedSimpArgs false

set_option maxHeartbeats 2000000 in
set_option maxRecDepth 10000 in
theorem FnExactStrongestFirst : ∀ (l0 : List S51), l0.length ≤ maxLen → l0.length * 24 ≤ 140737488351232 → (∀ x ∈ l0, (Lit.int .i64 x.f0).wf = true ∧ (Lit.int .i64 x.f1).wf = true ∧ (Lit.int .i64 x.f2).wf = true) → ∃ k, laws_FnExactStrongestFirst.f k l0 = some true := by
  intro l0 _ h0 g0
  refine Ev.rounds (g := fun k => laws_FnExactStrongestFirst.f k l0) ?_
  by_cases hl0 : l0.length ≤ 1048576
  · skip
    have hm0 : (l0.map cvThing).length ≤ 1048576 := by simpa using hl0
    obtain ⟨r, hs, hi, hb0⟩ := strongestFirst_both (l0.map cvThing) (by omega)
    obtain ⟨y0, hy0⟩ := markThingS_ev (l0.map cvThing) (by omega) 1 (by omega) (by omega)
    simp only [laws_FnExactStrongestFirst.f, szThingS_small l0 hl0, Option.bind_some]
    repeat' (first
      | exact Ev_some _
      | (simp (disch := omega) only [Option.bind_some, if_neg, if_pos, bne_self_eq_false, Bool.false_eq_true, if_false, if_true, eq_self])
      | refine Ev.bind (toThingS_ev l0 (by omega)) ?_
      | refine Ev.bind (eqThingS_ev (l0.map cvThing) (by omega)) ?_
      | refine Ev.bind hy0 ?_
      | refine Ev.bind hs ?_
      | refine Ev.bind hi ?_
      | refine Ev.bind (eqIntS_ev r.1 hb0) ?_
      | refine Ev.bind (markIntS_ev r.1 hb0 1 (by omega) (by omega)) ?_
      | refine Ev.bind (heldIntS_ev r.1.length hb0 1 (by omega) (by omega)) ?_
      | refine Ev.step (fun k => by rw [laws_FnExactStrongestFirst.j0]) ?_
      | refine Ev.step (fun k => by rw [laws_FnExactStrongestFirst.j1]) ?_
      | refine Ev.step (fun k => by rw [laws_FnExactStrongestFirst.j2]) ?_)
  · simp only [laws_FnExactStrongestFirst.f, szThingS_great l0 (by omega) (by omega)]
    simp (disch := omega) only [Option.bind_some, if_neg, if_pos]
    exact Ev_some _
end Go.Proofs.Ytbmefldckdaopaa.Pure

namespace Go.Proofs.Ytbmefldckdaopaa.HO
open Go.ChangeShapes Go.WideShapes Go.Deep Go.RowKit Go.Proofs.YtbmefldckdaopaaW.PrintWords
set_option linter.unusedVariables false
section
variable {H : Type} {enc : TypeId × Value → H} {P : Program} {w : World} {base : Nat} {spare : Nat → Bool} {held : Bool}

/-- A slice of structs of n whole numbers each, opened: F i j is field j of element i. -/
theorem open_ints_struct {t e : TypeId} {fs : Array Field} {fuel : Nat} {cs : List Value} {x : DataW H × List MemPlace} (ht : P.underlying t = some (.slice e)) (he : P.underlying e = some (.struct fs))
    (hone : oneCellFields P fs = true) (hC : P.cellsOf e = fs.size) (hk : ∀ (j : Nat) (f : Field), fs[j]? = some f → P.underlying f.type = some (.int .i64)) (h : DataW.trod enc P w base spare held fuel t cs = some x) :
    (cs = [.slice none 0 0] ∧ x = (.nil, [])) ∨
    ∃ (a : Addr) (len cap : Nat) (F : Nat → Nat → Int) (el sp : List (DataW H)) (ps : List MemPlace), cs = [.slice (some a) len cap] ∧ len ≤ cap ∧ cap ≤ maxLen ∧ x = (.slice el sp, ps) ∧ el.length = len ∧
      ∀ i, i < len → ∀ j, j < fs.size → w.cell? (a.add (i * fs.size + j)) = some (.int .i64 (F i j)) ∧ (Lit.int .i64 (F i j)).wf = true := by
  rcases open_slice ht h with h0 | ⟨a, len, cap, m, n, D, Pl, hcs, hb, hl, hm, hmm, hx, hi⟩
  · exact .inl h0
  · have hlm : len ≤ m := by rw [hmm]; split <;> omega
    have key : ∀ i, i < len → ∃ G : Nat → Int, ∀ j, j < fs.size → w.cell? (a.add (i * fs.size + j)) = some (.int .i64 (G j)) ∧ (Lit.int .i64 (G j)).wf = true := fun i hil => by
      obtain ⟨cs', hc, ht'⟩ := hi i (by omega)
      rw [hC] at hc
      obtain ⟨ys, n', hn', hy, hlen, hyl, hf⟩ := DataW.trod_struct he ht'
      obtain ⟨_, hcl, hat⟩ := World.cells?_some hc
      refine choose_lt (α := Int) (p := fun j v => w.cell? (a.add (i * fs.size + j)) = some (.int .i64 v) ∧ (Lit.int .i64 v).wf = true) (fun j hj => ?_)
      have hfj : fs[j]? = some fs[j] := Array.getElem?_eq_getElem hj
      obtain ⟨ho, hk1⟩ := hone_of hone j _ hfj
      have hcell := hat j hj
      have hv : cs'[j]? = some (cs'[j]'(by omega)) := List.getElem?_eq_getElem (by omega)
      have h1 := hf j _ hfj
      rw [ho, hk1] at h1
      have hone' : (cs'.drop j).take 1 = [cs'[j]'(by omega)] := by
        rw [List.drop_eq_getElem_cons (by omega)]
        rfl
      rw [hone'] at h1
      have hys : ys[j]? = some (ys[j]'(by omega)) := List.getElem?_eq_getElem (by omega)
      obtain ⟨v, e0, _, wv⟩ := DataW.trod_int (hk j _ hfj) (h1.trans hys)
      refine ⟨v, ?_, wv⟩
      rw [← Go.Deep.add_add, hcell, hv]
      simp only [List.cons.injEq, and_true] at e0
      rw [e0]
    obtain ⟨F, hF⟩ := choose_lt (α := Nat → Int) (p := fun i G => ∀ j, j < fs.size → w.cell? (a.add (i * fs.size + j)) = some (.int .i64 (G j)) ∧ (Lit.int .i64 (G j)).wf = true) key
    exact .inr ⟨a, len, cap, F, _, _, _, hcs, hl, hm, hx, by simp, hF⟩

/-- The same of an argument: the numbers, and how many at most. -/
theorem open_structs {t e : TypeId} {fs : Array Field} {a : Option Addr} {len cap : Nat} {d : DataW H} {ps : List MemPlace} {ts : List TypeId} {ds : List (DataW H)} {j : Nat}
    (hsz : (DataW.weightsEach P ts ds).all (· ≤ reachBytes) = true) (htj : ts[j]? = some t) (hdj : ds[j]? = some d) (ht : P.underlying t = some (.slice e)) (he : P.underlying e = some (.struct fs))
    (hone : oneCellFields P fs = true) (hC : P.cellsOf e = fs.size) (hk : ∀ (j : Nat) (f : Field), fs[j]? = some f → P.underlying f.type = some (.int .i64)) {B : Nat} (hB : P.bytesOf e = B)
    (h : DataW.Trod enc P w base spare held t (.slice a len cap) d ps) :
    ∃ F : Nat → Nat → Int, len ≤ cap ∧ len ≤ maxLen ∧ len * B ≤ 140737488351232 ∧ (0 < len → ∃ ad, a = some ad ∧ ∀ i, i < len → ∀ j, j < fs.size → w.cell? (ad.add (i * fs.size + j)) = some (.int .i64 (F i j))) ∧ ∀ i, i < len → ∀ j, j < fs.size → (Lit.int .i64 (F i j)).wf = true := by
  obtain ⟨fuel, hf⟩ := h
  rcases open_ints_struct ht he hone hC hk hf with ⟨hcs, _⟩ | ⟨x, l, c, F, el, sp, ps', hcs, hl, hm, hx, hel, hF⟩
  · simp [Value.cells] at hcs
    obtain ⟨rfl, rfl, rfl⟩ := hcs
    exact ⟨fun _ _ => 0, by omega, by omega, by omega, fun h => absurd h (by omega), fun i hi => absurd hi (by omega)⟩
  · simp [Value.cells] at hcs
    obtain ⟨rfl, rfl, rfl⟩ := hcs
    obtain ⟨hx, _⟩ := Prod.mk.inj hx
    subst hx
    have z := sized_slice hsz htj hdj ht
    rw [hB, hel] at z
    refine ⟨F, hl, by omega, ?_, fun _ => ⟨x, rfl, fun i hi j hj => (hF i hi j hj).1⟩, fun i hi j hj => (hF i hi j hj).2⟩
    have : reachBytes = 140737488351232 := by decide
    rw [this] at z
    exact Nat.le_trans (Nat.mul_le_mul_right _ (by omega)) z

/-- A struct of two whole numbers, by value. -/
theorem open_pair {r : Reach} {b0 : Nat} {t : TypeId} {f0 f1 : Field} {v : Value} {d : DataW H} {p : List MemPlace} (hs : P.underlying t = some (.struct #[f0, f1])) (hone : oneCellFields P #[f0, f1] = true) (hC : P.cellsOf t = 2)
    (h0 : P.underlying f0.type = some (.int .i64)) (h1 : P.underlying f1.type = some (.int .i64)) (hv : Value.okWide P w r b0 t v) (h : DataW.Trod enc P w base spare held t v d p) :
    ∃ x y : Int, v = .agg #[.int .i64 x, .int .i64 y] ∧ p = [] ∧ (Lit.int .i64 x).wf = true ∧ (Lit.int .i64 y).wf = true := by
  obtain ⟨v0, v1, y0, y1, n, rfl, rfl, rfl, g0, g1⟩ := Go.Joins.open_agg2 hs hone hC hv h
  obtain ⟨x, e0, rfl, w0⟩ := DataW.trod_int h0 g0
  obtain ⟨y, e1, rfl, w1⟩ := DataW.trod_int h1 g1
  simp only [List.cons.injEq, and_true] at e0 e1
  subst e0 e1
  exact ⟨x, y, rfl, rfl, w0, w1⟩
end
end Go.Proofs.Ytbmefldckdaopaa.HO

namespace Go.Proofs.Ytbmefldckdaopaa.fnExactStrongestFirst
open Go.ChangeShapes Go.WideShapes Go.ChangeAt Go.RowKit Go.Proofs.YtbmefldckdaopaaW Go.Proofs.YtbmefldckdaopaaW.PrintWords
open Go.ChangeMaps (open_string shut_string)
set_option linter.unusedVariables false
theorem own : ownKnob Try.prog.godebug = none := by kernel_rfl
theorem laidOut : laidOutB Try.prog = true := by kernel_rfl
theorem mk_C51 {w : World} {A : Option Addr} {n : Nat} {F : Nat → Nat → Int} (hn : n ≤ maxLen) (h : 0 < n → ∃ ad, A = some ad ∧ ∀ i, i < n → ∀ j, j < 3 → w.cell? (ad.add (i * 3 + j)) = some (.int .i64 (F i j))) (hw : ∀ i, i < n → ∀ j, j < 3 → (Lit.int .i64 (F i j)).wf = true) :
    ∃ l : List Q.S51, l.length = n ∧ Kd.C Q.k51 w A l.length l ∧ ∀ x ∈ l, (Lit.int .i64 x.f0).wf = true ∧ (Lit.int .i64 x.f1).wf = true ∧ (Lit.int .i64 x.f2).wf = true := by
  refine ⟨(List.range n).map fun i => ⟨F i 0, F i 1, F i 2⟩, by simp, ⟨rfl, by unfold maxLen at hn; simp; omega, fun h0 => ?_⟩, fun x hx => ?_⟩
  · rw [List.length_map, List.length_range] at h0
    obtain ⟨ad, ha, hc⟩ := h h0
    refine ⟨ad, ha, fun j p hj => ?_⟩
    rw [List.getElem?_map] at hj
    obtain ⟨i, hi, rfl⟩ := Option.map_eq_some_iff.1 hj
    have hji : j < n := by have := (List.getElem?_eq_some_iff.1 hi).1; simpa using this
    have hij : i = j := by rw [List.getElem?_range hji] at hi; injection hi with hi; exact hi.symm
    subst hij
    refine ⟨[.int .i64 (F i 0), .int .i64 (F i 1), .int .i64 (F i 2)], rfl, Q.k51_mk w _, fun q u hq => ?_⟩
    match q, hq with
    | 0, hq => injection hq with hq; subst hq; exact hc i hji 0 (by omega)
    | 1, hq => injection hq with hq; subst hq; exact hc i hji 1 (by omega)
    | 2, hq => injection hq with hq; subst hq; exact hc i hji 2 (by omega)
    | q + 3, hq => simp at hq
  · rw [List.mem_map] at hx
    obtain ⟨i, hi, rfl⟩ := hx
    rw [List.mem_range] at hi
    exact ⟨hw i hi 0 (by omega), hw i hi 1 (by omega), hw i hi 2 (by omega)⟩
set_option maxRecDepth 100000 in
theorem lifted (os : Os) (started : os.Started) (H : Type) (enc : TypeId × Value → H) :
    ReturnsInHanded {} Try.checked os 11 .any (Rows.fnExactStrongestFirstSpec.pre6 enc Try.prog Try.f11 Rows.fnExactStrongestFirstRow.domain false) (Rows.fnExactStrongestFirstSpec.post enc Try.prog Try.f11 false true false false) := by
  refine returnsInHanded_of_change_sized (C := Try.checked) own started (by kernel_rfl) Try.func11
    (ChangeSpec.witness6 (enc := enc) (C := Try.checked) false ⟨#[], #[.slice none 0 0], []⟩ 8 (by kernel_rfl) (by kernel_rfl) (by kernel_rfl) (by kernel_rfl)) ?_
  intro W base args ds gs before hval0 hW hcnd hsz0 _
  have hsz : (DataW.weightsEach Try.prog (Try.f11.params.toList ++ Rows.fnExactStrongestFirstSpec.plain.varTypes Try.prog) (ds ++ gs)).all (· ≤ reachBytes) = true := hsz0
  have hval : ∀ (j : Nat) t v, Try.f11.params[j]? = some t → args[j]? = some v → Value.okWide Try.prog W .any base t v := hval0
  have hW' := hW
  obtain ⟨p, q, hA0, hV, rfl, hfz, hnd⟩ := hW
  have hA : DataW.TrodAll enc Try.prog W 0 (fun _ => true) true Try.f11.params.toList args.toList ds p := hA0
  rw [Try.params11] at hA hval hsz
  obtain ⟨v0, vs0, d0, ds0, p0, q0, hargs, rfl, rfl, h0, r0⟩ := trodAll_cons hA
  obtain ⟨rfl, rfl, rfl⟩ := trodAll_nil r0
  obtain rfl : args = #[v0] := by cases args; simp_all
  obtain ⟨rfl, rfl⟩ := trodVars_none hV
  obtain ⟨a0, len0, cap0, rfl⟩ := okWide_slice Try.underlying22 (hval 0 22 v0 rfl rfl)
  have k0 := h0
  have lt0 : ∀ x ∈ p0, x.block < W.heap.size := by obtain ⟨m, hm⟩ := k0; exact DataW.trod_lt m _ _ _ hm
  obtain ⟨F0, hc0, hm0, y0, hcell0, hw0⟩ := HO.open_structs (j := 0) (t := 22) (B := 24) hsz rfl rfl Try.underlying22 Try.underlying51 (by kernel_rfl) (by kernel_rfl) (fun j f hj => by
    have hj3 : j < 3 := (Array.getElem?_eq_some_iff.1 hj).1
    match j, hj3 with
    | 0, _ => injection hj with hj; subst hj; exact Try.underlying3
    | 1, _ => injection hj with hj; subst hj; exact Try.underlying3
    | 2, _ => injection hj with hj; subst hj; exact Try.underlying3
    ) (by kernel_rfl) h0
  obtain ⟨l0, hl0, hr0, hz0⟩ := mk_C51 hm0 hcell0 hw0
  subst hl0
  clear hA0 hval0 hsz0 hsz
  obtain ⟨k, hh⟩ := Pure.FnExactStrongestFirst l0 hm0 y0 hz0
  refine (Q.laws_FnExactStrongestFirst.calls k _ _ l0 true W hr0 hc0 hh).mono fun e W' ⟨he, bel⟩ => ?_
  subst he
  exact ⟨_, rfl, _, _, _, [], _, [], hW', trodAll_mk1 (shut_bool Try.underlying4 _), (trodAll_cons_mk (Below.trod laidOut (by kernel_rfl) (of_decide_eq_true (by kernel_rfl)) k0 bel lt0) trodAll_mk0), rfl, bel.frame _, fun h => by cases h⟩
theorem over : Rows.fnExactStrongestFirstRow.holds Try.pinned (OpenSpec.ofChange Rows.fnExactStrongestFirstSpec) :=
  OpenClaim.holds_of_wide 11 Try.f11 rfl rfl rfl rfl rfl rfl rfl ⟨rfl, rfl, rfl, rfl, rfl⟩ rfl rfl rfl rfl rfl (by kernel_rfl) Try.func11 (by kernel_rfl)
    (of_decide_eq_true (by kernel_rfl)) (by unfold Func.isWrapper; first | (rw [if_pos (by decide +kernel)]; kernel_rfl) | (rw [if_neg (by decide +kernel)]; exact ⟨rfl, rfl⟩))
    (fun os started H enc _ => lifted os started H enc)
theorem proved : Rows.FnExactStrongestFirstSaid := over
#print axioms proved
end Go.Proofs.Ytbmefldckdaopaa.fnExactStrongestFirst
namespace Go.Proofs.Ytbmefldckdaopaa
/-- The row, under a short name, for the claim. -/
theorem fnExactStrongestFirst_holds : Rows.FnExactStrongestFirstSaid := fnExactStrongestFirst.proved
end Go.Proofs.Ytbmefldckdaopaa
