/-
  PROVED: for all arguments, the program's PutOn returns what the reference's returns; the arguments read behind the call as before.
  CONDITIONS: none beyond the statement's own.
-/
import Derived.Test.YtehjicblchnknaaZFnExactPutOn4
import Derived.Test.YtehjicblchnknaaZFnExactPutOn5
import Derived.Test.YtehjicblchnknaaZFnExactPutOn2
import Derived.Test.YtehjicblchnknaaZFnExactPutOn3
import Derived.Test.YtehjicblchnknaaZFnExactPutOn1
import Derived.Deep.Slices
import Derived.Deep.Fields
import Derived.ChangeSame
import Derived.SizedLaws
import Derived.ChangeSlices
import Derived.Lib.SmallJoins
import Derived.Test.YtehjicblchnknaaWWords
import Derived.Test.YtehjicblchnknaaRows
import Derived.WalkKit
import Derived.ProofKit
import Derived.OpenShut
import Derived.ShutString
import Derived.ChangeOld
import Derived.Below
import Derived.Test.YtehjicblchnknaaWSized
namespace Go.Proofs.Ytehjicblchnknaa.Q
open Go.RowKit Go.Proofs.YtehjicblchnknaaW.PrintWords Go.Proofs.YtehjicblchnknaaW.PrintLast Go.Proofs.YtehjicblchnknaaW.PrintMore
set_option linter.unusedVariables false
set_option linter.unusedSimpArgs false
set_option maxRecDepth 100000

theorem isStack_both (list : List Thing) (st : List Int) (hm : list.length ≤ 10000000) (hn : st.length ≤ 10000000) : ∃ r : Bool × Bool, Ev (fun k => spec_IsStack.f k list st) r ∧ Ev (fun _ => impl_IsStack.f list st) r := by
  obtain ⟨t, h1, h2, h3⟩ := good_cases list hm
  unfold spec_IsStack.f impl_IsStack.f
  cases t with
  | false => exact ⟨(false, false), Ev_from 100000000 fun k hk => by rw [h2 k (by omega)]; rfl, Ev_from 0 fun k _ => by rw [h1]; rfl⟩
  | true => exact ⟨(okStack list.length st, true), Ev_from 100000000 fun k hk => by rw [h2 k (by omega), scStack_eq list st hm (by omega) true h1 k (by omega)]; simp, Ev_from 0 fun k _ => by rw [h1, isStack_eq list st hm (by omega)]; simp⟩
theorem heightOf_both (list : List Thing) (st : List Int) (hm : list.length ≤ 10000000) (hn : st.length ≤ 10000000) : ∃ r : Int × Bool, Ev (fun k => spec_HeightOf.f k list st) r ∧ Ev (fun k => impl_HeightOf.f k list st) r := by
  obtain ⟨t, h1, h2, h3⟩ := stacked_cases list st hm hn
  unfold spec_HeightOf.f impl_HeightOf.f
  cases t with
  | false => exact ⟨(0, false), Ev_from 100000000 fun k hk => by rw [h2 k (by omega)]; rfl, Ev_from 0 fun k _ => by rw [h1]; rfl⟩
  | true =>
    obtain ⟨hS, hin, _, hl⟩ := h3 rfl
    exact ⟨(highV list st, true), Ev_from 100000000 fun k hk => by rw [h2 k (by omega)]; simp only [Option.bind_some, if_true]; rw [scHigh_eq list st hin (by omega) k (by omega)]; rfl, Ev_from 100000000 fun k hk => by rw [h1]; simp only [Option.bind_some, if_true]; rw [high_eq list st hin (by omega) k (by omega)]; rfl⟩
theorem isSafe_both (list : List Thing) (st : List Int) (hm : list.length ≤ 10000000) (hn : st.length ≤ 10000000) : ∃ r : Bool × Bool, Ev (fun k => spec_IsSafe.f k list st) r ∧ Ev (fun k => impl_IsSafe.f k list st) r := by
  obtain ⟨t, h1, h2, h3⟩ := stacked_cases list st hm hn
  unfold spec_IsSafe.f impl_IsSafe.f
  cases t with
  | false => exact ⟨(false, false), Ev_from 100000000 fun k hk => by rw [h2 k (by omega)]; rfl, Ev_from 0 fun k _ => by rw [h1]; rfl⟩
  | true =>
    obtain ⟨hS, hin, _, hl⟩ := h3 rfl
    exact ⟨(safeL list st, true), Ev_from 100000000 fun k hk => by rw [h2 k (by omega)]; simp only [Option.bind_some, if_true]; rw [scSafe_eq hS st hin (by omega) k (by omega)]; rfl, Ev_from 100000000 fun k hk => by rw [h1]; simp only [Option.bind_some, if_true]; rw [bearsMore_eq list st hin (by omega) k (by omega), ← safe_may hS st hin (by omega)]; rfl⟩
theorem weightsAbove_both (list : List Thing) (st : List Int) (hm : list.length ≤ 10000000) (hn : st.length ≤ 10000000) : ∃ r : List Int × Bool, Ev (fun k => spec_WeightsAbove.f k list st) r ∧ Ev (fun _ => impl_WeightsAbove.f list st) r ∧ r.1.length ≤ 10000000 := by
  obtain ⟨t, h1, h2, h3⟩ := stacked_cases list st hm hn
  unfold spec_WeightsAbove.f impl_WeightsAbove.f
  cases t with
  | false => exact ⟨([], false), Ev_from 100000000 fun k hk => by rw [h2 k (by omega)]; rfl, Ev_from 0 fun k _ => by rw [h1]; rfl, by simp⟩
  | true =>
    obtain ⟨hS, hin, _, hl⟩ := h3 rfl
    exact ⟨(aboveS list st, true), Ev_from 100000000 fun k hk => by rw [h2 k (by omega)]; simp only [Option.bind_some, if_true]; rw [scAbove_eq hS st hin (by omega) k (by omega)]; rfl, Ev_from 0 fun k _ => by rw [h1]; simp only [Option.bind_some, if_true]; rw [above_eq hS st hin (by omega)]; rfl, by simp only [aboveS_length]; omega⟩
/-! the lowest that fails -/
def whoL (list : List Thing) : List Int → List Int → Int × Bool
  | i :: st, n :: ab => if n > (rd_T46 list i).f1 then (i, true) else whoL list st ab
  | _, _ => (0, false)
theorem who_l0 (list : List Thing) (st ab : List Int) (hw : Inside list st) (hl : ab.length = st.length) (hn : st.length ≤ 1000000000) : ∀ d k i, i + d = st.length → d < k →
    spec_WhoFails.l0 k list st ab (ab.length : Int) (i : Int) = some (whoL list (st.drop i) (ab.drop i)) ∧ impl_WhoFails.l0 k list st ab (ab.length : Int) (i : Int) = some (whoL list (st.drop i) (ab.drop i)) := by
  intro d
  induction d with
  | zero =>
    intro k i hi hk
    obtain ⟨k, rfl⟩ : ∃ q, k = q + 1 := ⟨k - 1, by omega⟩
    constructor
    · simp only [spec_WhoFails.l0]; rw [if_neg (by omega), List.drop_of_length_le (by omega), List.drop_of_length_le (by omega)]; rfl
    · simp only [impl_WhoFails.l0]; rw [if_neg (by omega), List.drop_of_length_le (by omega), List.drop_of_length_le (by omega)]; rfl
  | succ d ih =>
    intro k i hi hk
    obtain ⟨k, rfl⟩ : ∃ q, k = q + 1 := ⟨k - 1, by omega⟩
    have hlt : i < st.length := by omega
    have hlt2 : i < ab.length := by omega
    have hin := hw st[i] (List.getElem_mem hlt)
    have h := ih k (i + 1) (by omega) (by omega)
    rw [show ((i + 1 : Nat) : Int) = (i : Int) + 1 by omega] at h
    constructor
    · simp only [spec_WhoFails.l0]
      rw [if_pos (by omega), if_pos (by omega), if_pos (by omega), if_pos (by omega), rd_nat st i hlt, if_pos hin.1, if_pos hin.2, rd_nat ab i hlt2, w64 (i := (i : Int) + 1) (by omega) (by omega), List.drop_eq_getElem_cons hlt, List.drop_eq_getElem_cons hlt2, whoL]
      by_cases hc : ab[i] > (rd_T46 list st[i]).f1
      · rw [if_pos hc, if_pos hc]
      · rw [if_neg hc, if_neg hc]; exact h.1
    · simp only [impl_WhoFails.l0]
      rw [if_pos (by omega), if_pos (by omega), if_pos (by omega), if_pos (by omega), rd_nat st i hlt, if_pos hin.1, if_pos hin.2, rd_nat ab i hlt2, w64 (i := (i : Int) + 1) (by omega) (by omega), List.drop_eq_getElem_cons hlt, List.drop_eq_getElem_cons hlt2, whoL]
      by_cases hc : ab[i] > (rd_T46 list st[i]).f1
      · rw [if_pos hc, if_pos hc]
      · rw [if_neg hc, if_neg hc]; exact h.2
theorem whoFails_both (list : List Thing) (st : List Int) (hm : list.length ≤ 10000000) (hn : st.length ≤ 10000000) : ∃ r : Int × Bool, Ev (fun k => spec_WhoFails.f k list st) r ∧ Ev (fun k => impl_WhoFails.f k list st) r := by
  obtain ⟨t, h1, h2, h3⟩ := stacked_cases list st hm hn
  unfold spec_WhoFails.f impl_WhoFails.f
  cases t with
  | false => exact ⟨(0, false), Ev_from 100000000 fun k hk => by rw [h2 k (by omega)]; rfl, Ev_from 0 fun k _ => by rw [h1]; rfl⟩
  | true =>
    obtain ⟨hS, hin, _, hl⟩ := h3 rfl
    have h := fun k (hk : 100000000 ≤ k) => who_l0 list st (aboveS list st) hin (aboveS_length list st) (by omega) st.length k 0 (by omega) (by omega)
    simp only [Int.natCast_zero, List.drop_zero] at h
    exact ⟨whoL list st (aboveS list st), Ev_from 100000000 fun k hk => by rw [h2 k (by omega)]; simp only [Option.bind_some, if_true]; rw [scAbove_eq hS st hin (by omega) k (by omega)]; exact (h k (by omega)).1, Ev_from 100000000 fun k hk => by rw [h1]; simp only [Option.bind_some, if_true]; rw [above_eq hS st hin (by omega)]; exact (h k (by omega)).2⟩
/-! how much more -/
theorem least_mn (a b : Int) : spec_l1Least.f a b = some (mn a b) := by
  unfold spec_l1Least.f mn
  by_cases h : a < b
  · rw [if_pos h, if_neg (by omega)]
  · rw [if_neg h]
    by_cases h2 : b < a
    · rw [if_pos h2]
    · rw [if_neg h2]; congr 1; omega
theorem more_l0 (list : List Thing) (st ab : List Int) (hw : Inside list st) (hl : ab.length = st.length) (hn : st.length ≤ 1000000000) : ∀ d k i m, i + d = st.length → d < k →
    spec_CanBearMore.l0 k list st m ab (ab.length : Int) (i : Int) = some (bearsL list (st.drop i) (ab.drop i) m, true) := by
  intro d
  induction d with
  | zero =>
    intro k i m hi hk
    obtain ⟨k, rfl⟩ : ∃ q, k = q + 1 := ⟨k - 1, by omega⟩
    simp only [spec_CanBearMore.l0]; rw [if_neg (by omega), List.drop_of_length_le (by omega), List.drop_of_length_le (by omega)]; rfl
  | succ d ih =>
    intro k i m hi hk
    obtain ⟨k, rfl⟩ : ∃ q, k = q + 1 := ⟨k - 1, by omega⟩
    have hlt : i < st.length := by omega
    have hlt2 : i < ab.length := by omega
    have hin := hw st[i] (List.getElem_mem hlt)
    simp only [spec_CanBearMore.l0]
    rw [if_pos (by omega), if_pos (by omega), if_pos (by omega), if_pos (by omega), rd_nat st i hlt, if_pos hin.1, if_pos hin.2, rd_nat ab i hlt2, w64 (i := (i : Int) + 1) (by omega) (by omega), List.drop_eq_getElem_cons hlt, List.drop_eq_getElem_cons hlt2, bearsL, least_mn]
    simp only [Option.bind_some]
    have := ih k (i + 1) (mn m (wrap64 ((rd_T46 list st[i]).f1 - ab[i]))) (by omega) (by omega)
    rw [show ((i + 1 : Nat) : Int) = (i : Int) + 1 by omega] at this
    exact this
theorem canBearMore_both (list : List Thing) (st : List Int) (hm : list.length ≤ 10000000) (hn : st.length ≤ 10000000) : ∃ r : Int × Bool, Ev (fun k => spec_CanBearMore.f k list st) r ∧ Ev (fun k => impl_CanBearMore.f k list st) r := by
  obtain ⟨t, h1, h2, h3⟩ := stacked_cases list st hm hn
  unfold spec_CanBearMore.f impl_CanBearMore.f
  cases t with
  | false => exact ⟨(0, false), Ev_from 100000000 fun k hk => by
      obtain ⟨k, rfl⟩ : ∃ q, k = q + 1 := ⟨k - 1, by omega⟩
      rw [h2 (k + 1) (by omega)]; simp only [Option.bind_some, spec_CanBearMore.j0]; rfl, Ev_from 0 fun k _ => by rw [h1]; rfl⟩
  | true =>
    obtain ⟨hS, hin, _, hl⟩ := h3 rfl
    have hs := safe_may hS st hin (by omega)
    have hA := aboveAll_S hS st hin (by omega)
    cases hsv : safeL list st with
    | false =>
      have hneg : bearsV list st < 0 := by rw [hsv] at hs; have := of_decide_eq_false hs; omega
      exact ⟨(0, false), Ev_from 100000000 fun k hk => by
        obtain ⟨k, rfl⟩ : ∃ q, k = q + 1 := ⟨k - 1, by omega⟩
        rw [h2 (k + 1) (by omega)]; simp only [Option.bind_some, if_true]; rw [scSafe_eq hS st hin (by omega) (k + 1) (by omega), hsv]; simp only [Option.bind_some, spec_CanBearMore.j0]; rfl,
        Ev_from 100000000 fun k hk => by rw [h1]; simp only [Option.bind_some, if_true]; rw [bearsMore_eq list st hin (by omega) k (by omega)]; simp only [Option.bind_some]; rw [if_pos hneg]⟩
    | true =>
      have hpos : ¬ bearsV list st < 0 := by rw [hsv] at hs; have := of_decide_eq_true hs; omega
      exact ⟨(bearsV list st, true), Ev_from 100000000 fun k hk => by
        obtain ⟨k, rfl⟩ : ∃ q, k = q + 1 := ⟨k - 1, by omega⟩
        rw [h2 (k + 1) (by omega)]; simp only [Option.bind_some, if_true]; rw [scSafe_eq hS st hin (by omega) (k + 1) (by omega), hsv]; simp only [Option.bind_some, spec_CanBearMore.j0, Bool.not_true, Bool.false_eq_true, if_false]
        rw [scAbove_eq hS st hin (by omega) k (by omega)]
        simp only [Option.bind_some]
        have := more_l0 list st (aboveS list st) hin (aboveS_length list st) (by omega) st.length k 0 1000 (by omega) (by omega)
        simp only [Int.natCast_zero, List.drop_zero] at this
        rw [this]; unfold bearsV; rw [hA],
        Ev_from 100000000 fun k hk => by rw [h1]; simp only [Option.bind_some, if_true]; rw [bearsMore_eq list st hin (by omega) k (by omega)]; simp only [Option.bind_some]; rw [if_neg hpos]⟩
/-! on and off -/
theorem takeTop_both (list : List Thing) (st : List Int) (hm : list.length ≤ 10000000) (hn : st.length ≤ 10000000) : ∃ r : List Int × Int × Bool, Ev (fun k => spec_TakeTop.f k list st) r ∧ Ev (fun _ => impl_TakeTop.f list st) r ∧ r.1.length ≤ 10000000 := by
  obtain ⟨t, h1, h2, h3⟩ := stacked_cases list st hm hn
  unfold spec_TakeTop.f impl_TakeTop.f
  cases t with
  | false => exact ⟨([], 0, false), Ev_from 100000000 fun k hk => by rw [h2 k (by omega)]; rfl, Ev_from 0 fun k _ => by rw [h1]; rfl, by simp⟩
  | true =>
    obtain ⟨hS, hin, _, hl⟩ := h3 rfl
    by_cases h0 : st.length = 0
    · exact ⟨([], 0, false), Ev_from 100000000 fun k hk => by rw [h2 k (by omega)]; simp only [Option.bind_some, if_true]; rw [if_pos (by omega)], Ev_from 0 fun k _ => by rw [h1, w64 (by omega) (by omega)]; simp only [Option.bind_some, if_true]; rw [if_pos (by omega)], by simp⟩
    · have hw : wrap64 ((st.length : Int) - 1) = (st.length : Int) - 1 := w64 (by omega) (by omega)
      have htl : (st.take ((st.length : Int) - 1).toNat).length ≤ 7 := by rw [List.length_take]; omega
      refine ⟨(st.take ((st.length : Int) - 1).toNat, rd st ((st.length : Int) - 1), true), Ev_from 100000000 fun k hk => ?_, Ev_from 0 fun k _ => ?_, by simp only; omega⟩
      · rw [h2 k (by omega), hw]; simp only [Option.bind_some, if_true]; rw [if_neg (by omega), if_pos (by omega), if_pos (by omega), l1Own_eq _ (by omega)]; simp only [Option.bind_some]; rw [if_pos (by omega)]
      · rw [h1, hw]; simp only [Option.bind_some, if_true]; rw [if_neg (by omega), if_pos (by omega), if_pos (by omega)]; unfold slices_Clone_int.f; rw [if_pos (by omega)]; simp only [Option.bind_some]; rw [if_pos (by omega)]
theorem okStack_snoc (n : Nat) (st : List Int) (a : Int) (h : okStack n st = true) : okStack n (st ++ [a]) = ((decide (0 ≤ a) && decide (a ≤ (n : Int) - 1)) && !st.contains a) := by
  unfold okStack at h ⊢
  simp only [Bool.and_eq_true, decide_eq_true_eq] at h
  rw [List.all_append, h.1, Bool.eq_iff_iff]
  simp only [Bool.true_and, List.all_cons, List.all_nil, Bool.and_true, Bool.and_eq_true, decide_eq_true_eq, Bool.not_eq_true', List.contains_eq_mem, decide_eq_false_iff_not, List.nodup_append, List.mem_singleton, forall_eq]
  constructor
  · rintro ⟨h1, _, _, h3⟩
    exact ⟨h1, fun hx => h3 a hx rfl⟩
  · rintro ⟨h1, h2⟩
    exact ⟨h1, h.2, by simp, fun x hx e => h2 (e ▸ hx)⟩
theorem putOn_both (list : List Thing) (st : List Int) (a : Int) (hm : list.length ≤ 10000000) (hn : st.length ≤ 1048576) : ∃ r : List Int × Bool, Ev (fun k => spec_PutOn.f k list st a) r ∧ Ev (fun _ => impl_PutOn.f list st a) r ∧ r.1.length ≤ 10000000 := by
  obtain ⟨t, h1, h2, h3⟩ := stacked_cases list st hm (by omega)
  have hiA := isStack_eq list (st ++ [a]) hm (by simp; omega)
  have hw : wrap64 ((list.length : Int) - 1) = (list.length : Int) - 1 := w64 (by omega) (by omega)
  unfold spec_PutOn.f impl_PutOn.f slices_Clone_int.f
  rw [if_pos (by omega)]
  cases t with
  | false => exact ⟨([], false), Ev_from 100000000 fun k hk => by rw [h2 k (by omega)]; rfl, Ev_from 0 fun k _ => by rw [h1]; simp only [Option.bind_some]; rw [if_pos (by omega)]; rfl, by simp⟩
  | true =>
    obtain ⟨hS, hin, hd, hl⟩ := h3 rfl
    have hok : okStack list.length st = true := by
      unfold okStack
      simp only [Bool.and_eq_true, List.all_eq_true, decide_eq_true_eq]
      exact ⟨fun x hx => by have := hin x hx; omega, hd⟩
    rw [okStack_snoc _ _ a hok] at hiA
    have hI : (fun k => spec_PutOn.f k list st a) = fun k => spec_PutOn.f k list st a := rfl
    have hown : spec_l1Own.f st = some st := l1Own_eq _ (by omega)
    cases hc : (decide (0 ≤ a) && decide (a ≤ (list.length : Int) - 1)) with
    | false =>
      rw [hc] at hiA
      refine ⟨([], false), Ev_from 100000000 fun k hk => ?_, Ev_from 0 fun k _ => ?_, by simp⟩
      · rw [h2 k (by omega), hw, inThing, hc]; rfl
      · rw [h1]; simp only [Option.bind_some, if_true]; rw [if_pos (by omega), hiA]; rfl
    | true =>
      rw [hc] at hiA
      cases hcn : st.contains a with
      | true =>
        rw [hcn] at hiA
        refine ⟨([], false), Ev_from 100000000 fun k hk => ?_, Ev_from 0 fun k _ => ?_, by simp⟩
        · rw [h2 k (by omega), hw, inThing, hc]; simp only [Option.bind_some, if_true]; rw [l1Has_eq st a (by omega) k (by omega), hcn]; rfl
        · rw [h1]; simp only [Option.bind_some, if_true]; rw [if_pos (by omega), hiA]; rfl
      | false =>
        rw [hcn] at hiA
        refine ⟨(st ++ [a], true), Ev_from 100000000 fun k hk => ?_, Ev_from 0 fun k _ => ?_, by simp; omega⟩
        · rw [h2 k (by omega), hw, inThing, hc]; simp only [Option.bind_some, if_true]; rw [l1Has_eq st a (by omega) k (by omega), hcn, hown]; simp only [Option.bind_some, Bool.false_eq_true, if_false]; rw [if_pos (by omega)]
        · rw [h1]; simp only [Option.bind_some, if_true]; rw [if_pos (by omega), hiA]; rfl
end Go.Proofs.Ytehjicblchnknaa.Q

namespace Go.Proofs.Ytehjicblchnknaa.Q
open Go.RowKit Go.Proofs.YtehjicblchnknaaW.PrintWords Go.Proofs.YtehjicblchnknaaW.PrintLast Go.Proofs.YtehjicblchnknaaW.PrintMore
set_option linter.unusedVariables false
set_option linter.unusedSimpArgs false

def marksThing (a : Int) (n : Nat) : List S46 := (List.range n).map fun (j : Nat) => ⟨a + 3 * (j : Int), a + 3 * (j : Int) + 1, a + 3 * (j : Int) + 2⟩
theorem marksThing_length (a : Int) (n : Nat) : (marksThing a n).length = n := by simp [marksThing]

theorem markThingS_l0 (a : Int) (n : Nat) (h0 : 0 ≤ a) (hn : a + 3 * n ≤ 100000000000000) : ∀ d k i (x : List S46), i + d = n → d < k → x.length = n →
    ∃ y, laws_markThingS.l0 k x (a + 3 * (i : Int)) (i : Int) = some (a + 3 * (n : Int), y) ∧ y.length = n := by
  intro d
  induction d with
  | zero =>
    intro k i x hi hk hx
    obtain ⟨k, rfl⟩ : ∃ m, k = m + 1 := ⟨k - 1, by omega⟩
    simp only [laws_markThingS.l0]; rw [if_neg (by omega)]
    have : i = n := by omega
    subst this
    exact ⟨x, rfl, hx⟩
  | succ d ih =>
    intro k i x hi hk hx
    obtain ⟨k, rfl⟩ : ∃ m, k = m + 1 := ⟨k - 1, by omega⟩
    simp only [laws_markThingS.l0]
    rw [if_pos (by omega), if_pos (by omega)]
    simp only [Option.bind_some]
    rw [w64Thing (i := a + 3 * (i : Int) + 1) (by omega) (by omega), w64Thing (i := a + 3 * (i : Int) + 1 + 1) (by omega) (by omega), w64Thing (i := a + 3 * (i : Int) + 1 + 1 + 1) (by omega) (by omega), w64Thing (i := (i : Int) + 1) (by omega) (by omega)]
    rw [show a + 3 * (i : Int) + 1 + 1 + 1 = a + 3 * ((i + 1 : Nat) : Int) by omega, show (i : Int) + 1 = ((i + 1 : Nat) : Int) by omega]
    exact ih k (i + 1) _ (by omega) (by omega) (by simp [hx])
/-- Marking counts on, whatever it writes. -/
theorem markThingS_eq (x : List S46) (a : Int) (h0 : 0 ≤ a) (hn : a + 3 * x.length ≤ 100000000000000) (k : Nat) (hk : x.length < k) : ∃ y, laws_markThingS.f k x a = some (a + 3 * (x.length : Int), y) := by
  unfold laws_markThingS.f
  obtain ⟨y, h, _⟩ := markThingS_l0 a x.length h0 hn x.length k 0 x (by omega) hk rfl
  exact ⟨y, by simpa using h⟩
theorem markThingS_ev (x : List S46) (h : x.length ≤ 10000000) (a : Int) (h0 : 0 ≤ a) (hn : a ≤ 10000000000) : ∃ y, Ev (fun k => laws_markThingS.f k x a) (a + 3 * (x.length : Int), y) := by
  obtain ⟨y, hy⟩ := markThingS_eq x a h0 (by omega) (x.length + 1) (by omega)
  exact ⟨y, Ev.of (fun k => laws_markThingS.mono x a k) hy⟩
end Go.Proofs.Ytehjicblchnknaa.Q

namespace Go.Proofs.Ytehjicblchnknaa.Q
open Go.RowKit Go.Proofs.YtehjicblchnknaaW.PrintWords Go.Proofs.YtehjicblchnknaaW.PrintLast Go.Proofs.YtehjicblchnknaaW.PrintMore
set_option linter.unusedVariables false
set_option linter.unusedSimpArgs false

theorem toIntS_l0 (l : List Int) (hn : l.length ≤ 100000000000000) : ∀ d k i (x : List Int), i + d = l.length → d < k → x.length = l.length → (∀ j (hj : j < x.length) (hj2 : j < l.length), j < i → x[j] = l[j]) →
    laws_toIntS.l0 k l x (i : Int) = some l := by
  intro d
  induction d with
  | zero =>
    intro k i x hi hk hx hj
    obtain ⟨k, rfl⟩ : ∃ m, k = m + 1 := ⟨k - 1, by omega⟩
    simp only [laws_toIntS.l0]; rw [if_neg (by omega)]
    congr 1
    apply List.ext_getElem
    · omega
    · intro j h1 h2
      exact hj j h1 (by omega) (by omega)
  | succ d ih =>
    intro k i x hi hk hx hj
    obtain ⟨k, rfl⟩ : ∃ m, k = m + 1 := ⟨k - 1, by omega⟩
    simp only [laws_toIntS.l0]
    rw [if_pos (by omega), if_pos (by omega), if_pos (by omega), w64 (i := (i : Int) + 1) (by omega) (by omega), rd_nat l i (by omega)]
    have := ih k (i + 1) (x.set (i : Int).toNat (l[i]'(by omega))) (by omega) (by omega) (by simp [hx]) (fun j hj1 hj2 hj3 => by
      simp only [Int.toNat_natCast]
      rw [List.getElem_set]
      split
      · rename_i e; subst e; rfl
      · rename_i e; exact hj j (by simpa using hj1) hj2 (by omega))
    rw [show ((i + 1 : Nat) : Int) = (i : Int) + 1 by omega] at this
    exact this
theorem toIntS_eq (l : List Int) (hn : l.length ≤ 1000000000) (k : Nat) (hk : l.length < k) : laws_toIntS.f k l = some l := by
  unfold laws_toIntS.f
  rw [if_pos (by omega), if_pos (by omega)]
  exact toIntS_l0 l (by omega) l.length k 0 _ (by omega) hk (by simp) (fun j _ _ h => absurd h (by omega))
theorem toIntS_ev (a : List Int) (h : a.length ≤ 10000000) : Ev (fun k => laws_toIntS.f k a) a := ⟨a.length + 1, fun k hk => toIntS_eq a (by omega) k (by omega)⟩
end Go.Proofs.Ytehjicblchnknaa.Q

namespace Go.Proofs.Ytehjicblchnknaa.Pure
open Go.RowKit Go.Proofs.Ytehjicblchnknaa.Q Go.Proofs.YtehjicblchnknaaW.PrintWords Go.Proofs.YtehjicblchnknaaW.PrintLast
set_option linter.unusedVariables false
set_option linter.unusedSimpArgs false

set_option maxHeartbeats 2000000 in
set_option maxRecDepth 10000 in
theorem FnExactPutOn : ∀ (l0 : List S48) (l1 : List Int) (a2 : Int), l0.length ≤ maxLen → l0.length * 24 ≤ 140737488351232 → (∀ x ∈ l0, (Lit.int .i64 x.f0).wf = true ∧ (Lit.int .i64 x.f1).wf = true ∧ (Lit.int .i64 x.f2).wf = true) → l1.length ≤ maxLen → l1.length * 8 ≤ 140737488351232 → (∀ x ∈ l1, (Lit.int .i64 x).wf = true) → (Lit.int .i64 a2).wf = true → ∃ k, laws_FnExactPutOn.f k l0 l1 a2 = some true := by
  intro l0 l1 a2 _ h0 g0 _ h1 g1 w2
  refine Ev.rounds (g := fun k => laws_FnExactPutOn.f k l0 l1 a2) ?_
  by_cases hl1 : l1.length ≤ 1048576
  · skip
    by_cases hl0 : l0.length ≤ 1048576
    · skip
      have hm0 : (l0.map cvThing).length ≤ 1048576 := by simpa using hl0
      obtain ⟨r, hs, hi, hb0⟩ := putOn_both (l0.map cvThing) l1 a2 (by omega) (by omega)
      obtain ⟨y0, hy0⟩ := markThingS_ev (l0.map cvThing) (by omega) 1 (by omega) (by omega)
      simp only [laws_FnExactPutOn.f, szThingS_small l0 hl0, Option.bind_some]
      repeat' (first
        | exact Ev_some _
        | (simp (disch := omega) only [Option.bind_some, if_neg, if_pos, bne_self_eq_false, Bool.false_eq_true, if_false, if_true, eq_self])
        | refine Ev.bind (toThingS_ev l0 (by omega)) ?_
        | refine Ev.bind (eqThingS_ev (l0.map cvThing) (by omega)) ?_
        | refine Ev.bind hy0 ?_
        | refine Ev.bind (toIntS_ev l1 (by omega)) ?_
        | refine Ev.bind (eqIntS_ev l1 (by omega)) ?_
        | refine Ev.bind (markIntS_ev l1 (by omega) _ (by omega) (by omega)) ?_
        | refine Ev.bind hs ?_
        | refine Ev.bind hi ?_
        | refine Ev.bind (eqIntS_ev r.1 hb0) ?_
        | refine Ev.bind (markIntS_ev r.1 hb0 1 (by omega) (by omega)) ?_
        | refine Ev.bind (heldIntS_ev r.1.length hb0 1 (by omega) (by omega)) ?_
        | refine Ev.step (fun k => by rw [laws_FnExactPutOn.j0]) ?_
        | refine Ev.step (fun k => by rw [laws_FnExactPutOn.j1]) ?_
        | refine Ev.step (fun k => by rw [laws_FnExactPutOn.j2]) ?_)
    · simp only [laws_FnExactPutOn.f, szThingS_great l0 (by omega) (by omega)]
      simp (disch := omega) only [Option.bind_some, if_neg, if_pos]
      exact Ev_some _
  · simp (disch := omega) only [laws_FnExactPutOn.f, if_pos, if_neg]
    exact Ev_some _
end Go.Proofs.Ytehjicblchnknaa.Pure

namespace Go.Proofs.Ytehjicblchnknaa.HO
open Go.ChangeShapes Go.WideShapes Go.Deep Go.RowKit Go.Proofs.YtehjicblchnknaaW.PrintWords
set_option linter.unusedVariables false
section
variable {H : Type} {enc : TypeId × Value → H} {P : Program} {w : World} {base : Nat} {spare : Nat → Bool} {held : Bool}

/-- A slice of structs of n whole numbers each, opened: F i j is field j of element i. -/
theorem open_ints_struct {t e : TypeId} {fs : Array Field} {fuel : Nat} {cs : List Value} {x : DataW H × List MemPlace} (ht : P.underlying t = some (.slice e)) (he : P.underlying e = some (.struct fs))
    (hone : oneCellFields P fs = true) (hC : P.cellsOf e = fs.size) (hk : ∀ (j : Nat) (f : Field), fs[j]? = some f → P.underlying f.type = some (.int .i64)) (h : DataW.trod enc P w base spare held fuel t cs = some x) :
    (cs = [.slice none 0 0] ∧ x = (.nil, [])) ∨
    ∃ (a : Addr) (len cap : Nat) (F : Nat → Nat → Int) (el sp : List (DataW H)) (ps : List MemPlace), cs = [.slice (some a) len cap] ∧ len ≤ cap ∧ cap ≤ maxLen ∧ x = (.slice el sp, ps) ∧ el.length = len ∧
      ∀ i, i < len → ∀ j, j < fs.size → w.cell? (a.add (i * fs.size + j)) = some (.int .i64 (F i j)) ∧ (Lit.int .i64 (F i j)).wf = true := by
  rcases open_slice ht h with h0 | ⟨a, len, cap, m, n, D, Pl, hcs, hb, hl, hm, hmm, hx, hi⟩
  · exact .inl h0
  · have hlm : len ≤ m := by rw [hmm]; split <;> omega
    have key : ∀ i, i < len → ∃ G : Nat → Int, ∀ j, j < fs.size → w.cell? (a.add (i * fs.size + j)) = some (.int .i64 (G j)) ∧ (Lit.int .i64 (G j)).wf = true := fun i hil => by
      obtain ⟨cs', hc, ht'⟩ := hi i (by omega)
      rw [hC] at hc
      obtain ⟨ys, n', hn', hy, hlen, hyl, hf⟩ := DataW.trod_struct he ht'
      obtain ⟨_, hcl, hat⟩ := World.cells?_some hc
      refine choose_lt (α := Int) (p := fun j v => w.cell? (a.add (i * fs.size + j)) = some (.int .i64 v) ∧ (Lit.int .i64 v).wf = true) (fun j hj => ?_)
      have hfj : fs[j]? = some fs[j] := Array.getElem?_eq_getElem hj
      obtain ⟨ho, hk1⟩ := hone_of hone j _ hfj
      have hcell := hat j hj
      have hv : cs'[j]? = some (cs'[j]'(by omega)) := List.getElem?_eq_getElem (by omega)
      have h1 := hf j _ hfj
      rw [ho, hk1] at h1
      have hone' : (cs'.drop j).take 1 = [cs'[j]'(by omega)] := by
        rw [List.drop_eq_getElem_cons (by omega)]
        rfl
      rw [hone'] at h1
      have hys : ys[j]? = some (ys[j]'(by omega)) := List.getElem?_eq_getElem (by omega)
      obtain ⟨v, e0, _, wv⟩ := DataW.trod_int (hk j _ hfj) (h1.trans hys)
      refine ⟨v, ?_, wv⟩
      rw [← Go.Deep.add_add, hcell, hv]
      simp only [List.cons.injEq, and_true] at e0
      rw [e0]
    obtain ⟨F, hF⟩ := choose_lt (α := Nat → Int) (p := fun i G => ∀ j, j < fs.size → w.cell? (a.add (i * fs.size + j)) = some (.int .i64 (G j)) ∧ (Lit.int .i64 (G j)).wf = true) key
    exact .inr ⟨a, len, cap, F, _, _, _, hcs, hl, hm, hx, by simp, hF⟩

/-- The same of an argument: the numbers, and how many at most. -/
theorem open_structs {t e : TypeId} {fs : Array Field} {a : Option Addr} {len cap : Nat} {d : DataW H} {ps : List MemPlace} {ts : List TypeId} {ds : List (DataW H)} {j : Nat}
    (hsz : (DataW.weightsEach P ts ds).all (· ≤ reachBytes) = true) (htj : ts[j]? = some t) (hdj : ds[j]? = some d) (ht : P.underlying t = some (.slice e)) (he : P.underlying e = some (.struct fs))
    (hone : oneCellFields P fs = true) (hC : P.cellsOf e = fs.size) (hk : ∀ (j : Nat) (f : Field), fs[j]? = some f → P.underlying f.type = some (.int .i64)) {B : Nat} (hB : P.bytesOf e = B)
    (h : DataW.Trod enc P w base spare held t (.slice a len cap) d ps) :
    ∃ F : Nat → Nat → Int, len ≤ cap ∧ len ≤ maxLen ∧ len * B ≤ 140737488351232 ∧ (0 < len → ∃ ad, a = some ad ∧ ∀ i, i < len → ∀ j, j < fs.size → w.cell? (ad.add (i * fs.size + j)) = some (.int .i64 (F i j))) ∧ ∀ i, i < len → ∀ j, j < fs.size → (Lit.int .i64 (F i j)).wf = true := by
  obtain ⟨fuel, hf⟩ := h
  rcases open_ints_struct ht he hone hC hk hf with ⟨hcs, _⟩ | ⟨x, l, c, F, el, sp, ps', hcs, hl, hm, hx, hel, hF⟩
  · simp [Value.cells] at hcs
    obtain ⟨rfl, rfl, rfl⟩ := hcs
    exact ⟨fun _ _ => 0, by omega, by omega, by omega, fun h => absurd h (by omega), fun i hi => absurd hi (by omega)⟩
  · simp [Value.cells] at hcs
    obtain ⟨rfl, rfl, rfl⟩ := hcs
    obtain ⟨hx, _⟩ := Prod.mk.inj hx
    subst hx
    have z := sized_slice hsz htj hdj ht
    rw [hB, hel] at z
    refine ⟨F, hl, by omega, ?_, fun _ => ⟨x, rfl, fun i hi j hj => (hF i hi j hj).1⟩, fun i hi j hj => (hF i hi j hj).2⟩
    have : reachBytes = 140737488351232 := by decide
    rw [this] at z
    exact Nat.le_trans (Nat.mul_le_mul_right _ (by omega)) z

/-- A struct of two whole numbers, by value. -/
theorem open_pair {r : Reach} {b0 : Nat} {t : TypeId} {f0 f1 : Field} {v : Value} {d : DataW H} {p : List MemPlace} (hs : P.underlying t = some (.struct #[f0, f1])) (hone : oneCellFields P #[f0, f1] = true) (hC : P.cellsOf t = 2)
    (h0 : P.underlying f0.type = some (.int .i64)) (h1 : P.underlying f1.type = some (.int .i64)) (hv : Value.okWide P w r b0 t v) (h : DataW.Trod enc P w base spare held t v d p) :
    ∃ x y : Int, v = .agg #[.int .i64 x, .int .i64 y] ∧ p = [] ∧ (Lit.int .i64 x).wf = true ∧ (Lit.int .i64 y).wf = true := by
  obtain ⟨v0, v1, y0, y1, n, rfl, rfl, rfl, g0, g1⟩ := Go.Joins.open_agg2 hs hone hC hv h
  obtain ⟨x, e0, rfl, w0⟩ := DataW.trod_int h0 g0
  obtain ⟨y, e1, rfl, w1⟩ := DataW.trod_int h1 g1
  simp only [List.cons.injEq, and_true] at e0 e1
  subst e0 e1
  exact ⟨x, y, rfl, rfl, w0, w1⟩
end
end Go.Proofs.Ytehjicblchnknaa.HO

namespace Go.Proofs.Ytehjicblchnknaa.fnExactPutOn
open Go.ChangeShapes Go.WideShapes Go.ChangeAt Go.RowKit Go.Proofs.YtehjicblchnknaaW Go.Proofs.YtehjicblchnknaaW.PrintWords
open Go.ChangeMaps (open_string shut_string)
set_option linter.unusedVariables false
theorem own : ownKnob Try.prog.godebug = none := by kernel_rfl
theorem laidOut : laidOutB Try.prog = true := by kernel_rfl
def IsRow (k : IntKind) (w : World) (a : Option Addr) (len cap : Nat) (zs : List Int) : Prop :=
  (a = none ∧ len = 0 ∧ cap = 0 ∧ zs = []) ∨
  ∃ x, a = some x ∧ len ≤ cap ∧ cap ≤ maxLen ∧ zs.length = cap ∧ (∀ i, i < zs.length → w.cell? (x.add i) = some (.int k (zs.getD i 0))) ∧ ∀ n ∈ zs, (Lit.int k n).wf = true
theorem mk_C48 {w : World} {A : Option Addr} {n : Nat} {F : Nat → Nat → Int} (hn : n ≤ maxLen) (h : 0 < n → ∃ ad, A = some ad ∧ ∀ i, i < n → ∀ j, j < 3 → w.cell? (ad.add (i * 3 + j)) = some (.int .i64 (F i j))) (hw : ∀ i, i < n → ∀ j, j < 3 → (Lit.int .i64 (F i j)).wf = true) :
    ∃ l : List Q.S48, l.length = n ∧ Kd.C Q.k48 w A l.length l ∧ ∀ x ∈ l, (Lit.int .i64 x.f0).wf = true ∧ (Lit.int .i64 x.f1).wf = true ∧ (Lit.int .i64 x.f2).wf = true := by
  refine ⟨(List.range n).map fun i => ⟨F i 0, F i 1, F i 2⟩, by simp, ⟨rfl, by unfold maxLen at hn; simp; omega, fun h0 => ?_⟩, fun x hx => ?_⟩
  · rw [List.length_map, List.length_range] at h0
    obtain ⟨ad, ha, hc⟩ := h h0
    refine ⟨ad, ha, fun j p hj => ?_⟩
    rw [List.getElem?_map] at hj
    obtain ⟨i, hi, rfl⟩ := Option.map_eq_some_iff.1 hj
    have hji : j < n := by have := (List.getElem?_eq_some_iff.1 hi).1; simpa using this
    have hij : i = j := by rw [List.getElem?_range hji] at hi; injection hi with hi; exact hi.symm
    subst hij
    refine ⟨[.int .i64 (F i 0), .int .i64 (F i 1), .int .i64 (F i 2)], rfl, Q.k48_mk w _, fun q u hq => ?_⟩
    match q, hq with
    | 0, hq => injection hq with hq; subst hq; exact hc i hji 0 (by omega)
    | 1, hq => injection hq with hq; subst hq; exact hc i hji 1 (by omega)
    | 2, hq => injection hq with hq; subst hq; exact hc i hji 2 (by omega)
    | q + 3, hq => simp at hq
  · rw [List.mem_map] at hx
    obtain ⟨i, hi, rfl⟩ := hx
    rw [List.mem_range] at hi
    exact ⟨hw i hi 0 (by omega), hw i hi 1 (by omega), hw i hi 2 (by omega)⟩
set_option maxRecDepth 100000 in
theorem lifted (os : Os) (started : os.Started) (H : Type) (enc : TypeId × Value → H) :
    ReturnsInHanded {} Try.checked os 6 .any (Rows.fnExactPutOnSpec.pre6 enc Try.prog Try.f6 Rows.fnExactPutOnRow.domain false) (Rows.fnExactPutOnSpec.post enc Try.prog Try.f6 false true false false) := by
  refine returnsInHanded_of_change_sized (C := Try.checked) own started (by kernel_rfl) Try.func6
    (ChangeSpec.witness6 (enc := enc) (C := Try.checked) false ⟨#[], #[.slice none 0 0, .slice none 0 0, .int .i64 0], []⟩ 8 (by kernel_rfl) (by kernel_rfl) (by kernel_rfl) (by kernel_rfl)) ?_
  intro W base args ds gs before hval0 hW hcnd hsz0 _
  have hsz : (DataW.weightsEach Try.prog (Try.f6.params.toList ++ Rows.fnExactPutOnSpec.plain.varTypes Try.prog) (ds ++ gs)).all (· ≤ reachBytes) = true := hsz0
  have hval : ∀ (j : Nat) t v, Try.f6.params[j]? = some t → args[j]? = some v → Value.okWide Try.prog W .any base t v := hval0
  have hW' := hW
  obtain ⟨p, q, hA0, hV, rfl, hfz, hnd⟩ := hW
  have hA : DataW.TrodAll enc Try.prog W 0 (fun _ => true) true Try.f6.params.toList args.toList ds p := hA0
  rw [Try.params6] at hA hval hsz
  obtain ⟨v0, vs0, d0, ds0, p0, q0, hargs, rfl, rfl, h0, r0⟩ := trodAll_cons hA
  obtain ⟨v1, vs1, d1, ds1, p1, q1, rfl, rfl, rfl, h1, r1⟩ := trodAll_cons r0
  obtain ⟨v2, vs2, d2, ds2, p2, q2, rfl, rfl, rfl, h2, r2⟩ := trodAll_cons r1
  obtain ⟨rfl, rfl, rfl⟩ := trodAll_nil r2
  obtain rfl : args = #[v0, v1, v2] := by cases args; simp_all
  obtain ⟨rfl, rfl⟩ := trodVars_none hV
  obtain ⟨a0, len0, cap0, rfl⟩ := okWide_slice Try.underlying22 (hval 0 22 v0 rfl rfl)
  have k0 := h0
  have lt0 : ∀ x ∈ p0, x.block < W.heap.size := by obtain ⟨m, hm⟩ := k0; exact DataW.trod_lt m _ _ _ hm
  obtain ⟨F0, hc0, hm0, y0, hcell0, hw0⟩ := HO.open_structs (j := 0) (t := 22) (B := 24) hsz rfl rfl Try.underlying22 Try.underlying48 (by kernel_rfl) (by kernel_rfl) (fun j f hj => by
    have hj3 : j < 3 := (Array.getElem?_eq_some_iff.1 hj).1
    match j, hj3 with
    | 0, _ => injection hj with hj; subst hj; exact Try.underlying3
    | 1, _ => injection hj with hj; subst hj; exact Try.underlying3
    | 2, _ => injection hj with hj; subst hj; exact Try.underlying3
    ) (by kernel_rfl) h0
  obtain ⟨l0, hl0, hr0, hz0⟩ := mk_C48 hm0 hcell0 hw0
  subst hl0
  obtain ⟨a1, len1, cap1, rfl⟩ := okWide_slice Try.underlying23 (hval 1 23 v1 rfl rfl)
  have k1 := h1
  have lt1 : ∀ x ∈ p1, x.block < W.heap.size := by obtain ⟨m, hm⟩ := k1; exact DataW.trod_lt m _ _ _ hm
  obtain ⟨z1, w1⟩ : ∃ zs, IsRow .i64 W a1 len1 cap1 zs := by
    obtain ⟨fuel, hf⟩ := h1
    rcases open_ints Try.underlying23 Try.underlying3 (by kernel_rfl) hf with ⟨hcs, _⟩ | ⟨x, l, c, zs, hcs, _, hl, hm, hz, _, hcell, hwz⟩
    · simp [Value.cells] at hcs
      obtain ⟨rfl, rfl, rfl⟩ := hcs
      exact ⟨[], .inl ⟨rfl, rfl, rfl, rfl⟩⟩
    · simp [Value.cells] at hcs
      obtain ⟨rfl, rfl, rfl⟩ := hcs
      exact ⟨zs, .inr ⟨_, rfl, hl, hm, by simpa using hz, hcell, hwz⟩⟩
  have y1 : len1 * 8 ≤ 140737488351232 := PrintWords.sized_ints hsz (j := 1) (t := 23) rfl rfl Try.underlying23 Try.underlying3 (by kernel_rfl) (by kernel_rfl) h1
  obtain ⟨a2, rfl, rfl, rfl, w2⟩ := open_int Try.underlying3 (hval 2 3 v2 rfl rfl) h2
  clear hA0 hval0 hsz0 hsz
  obtain ⟨l1, rfl, hr1, hm1, hw1, hc1⟩ := ReadsInt.ofRowC w1
  obtain ⟨k, hh⟩ := Pure.FnExactPutOn l0 l1 a2 hm0 y0 hz0 hm1 y1 hw1 w2
  refine (Q.laws_FnExactPutOn.calls k _ _ l0 _ _ l1 a2 true W hr0 hc0 (Kd.C_of_reads (d := (0 : Int)) (h1 := fun _ => rfl) hr1) hc1 hh).mono fun e W' ⟨he, bel⟩ => ?_
  subst he
  exact ⟨_, rfl, _, _, _, [], _, [], hW', trodAll_mk1 (shut_bool Try.underlying4 _), (trodAll_cons_mk (Below.trod laidOut (by kernel_rfl) (of_decide_eq_true (by kernel_rfl)) k0 bel lt0) (trodAll_cons_mk (Below.trod laidOut (by kernel_rfl) (of_decide_eq_true (by kernel_rfl)) k1 bel lt1) (trodAll_cons_mk (shut_int Try.underlying3 w2) trodAll_mk0))), rfl, bel.frame _, fun h => by cases h⟩
theorem over : Rows.fnExactPutOnRow.holds Try.pinned (OpenSpec.ofChange Rows.fnExactPutOnSpec) :=
  OpenClaim.holds_of_wide 6 Try.f6 rfl rfl rfl rfl rfl rfl rfl ⟨rfl, rfl, rfl, rfl, rfl⟩ rfl rfl rfl rfl rfl (by kernel_rfl) Try.func6 (by kernel_rfl)
    (of_decide_eq_true (by kernel_rfl)) (by unfold Func.isWrapper; first | (rw [if_pos (by decide +kernel)]; kernel_rfl) | (rw [if_neg (by decide +kernel)]; exact ⟨rfl, rfl⟩))
    (fun os started H enc _ => lifted os started H enc)
theorem proved : Rows.FnExactPutOnSaid := over
#print axioms proved
end Go.Proofs.Ytehjicblchnknaa.fnExactPutOn
namespace Go.Proofs.Ytehjicblchnknaa
/-- The row, under a short name, for the claim. -/
theorem fnExactPutOn_holds : Rows.FnExactPutOnSaid := fnExactPutOn.proved
end Go.Proofs.Ytehjicblchnknaa
