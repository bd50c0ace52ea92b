/-
  PROVED: for all arguments, the program's TotalsOf returns what the reference's returns; its result is memory of its own, and the arguments read behind the call as before.
  CONDITIONS: none beyond the statement's own.
-/
import Derived.Test.YtgghcngfleicnaaZFnExactTotalsOf2
import Derived.Test.YtgghcngfleicnaaZFnExactTotalsOf3
import Derived.Test.YtgghcngfleicnaaZFnExactTotalsOf1
import Derived.Deep.Slices
import Derived.Deep.Fields
import Derived.ChangeSame
import Derived.SizedLaws
import Derived.ChangeSlices
import Derived.Lib.SmallJoins
import Derived.Test.YtgghcngfleicnaaWWords
import Derived.Test.YtgghcngfleicnaaRows
import Derived.WalkKit
import Derived.ProofKit
import Derived.OpenShut
import Derived.ShutString
import Derived.ChangeOld
import Derived.Below
import Derived.Test.YtgghcngfleicnaaWSized
namespace Go.Proofs.Ytgghcngfleicnaa.Q
open Go.RowKit Go.Proofs.YtgghcngfleicnaaW.PrintWords Go.Proofs.YtgghcngfleicnaaW.PrintLast Go.Proofs.YtgghcngfleicnaaW.PrintMore
set_option linter.unusedVariables false
set_option linter.unusedSimpArgs false

/-- One item more. -/
def addTo (items : List Item) (s : Int × Int × Int) (i : Int) : Int × Int × Int :=
  (wrap64 (s.1 + (rd_T54 items i).f0), wrap64 (s.2.1 + (rd_T54 items i).f1), wrap64 (s.2.2 + (rd_T54 items i).f2))
def Inside (items : List Item) (ch : List Int) : Prop := ∀ i ∈ ch, 0 ≤ i ∧ i < (items.length : Int)
/-- Weight, bulk and value together. -/
def tot (items : List Item) (ch : List Int) : Int × Int × Int := ch.foldl (addTo items) (0, 0, 0)

theorem totals_l0 (items : List Item) (ch : List Int) (hw : Inside items ch) (hn : ch.length ≤ 100000000000000) : ∀ d k i (s : Int × Int × Int), i + d = ch.length → d < k →
    impl_totals.l0 k items ch (ch.length : Int) (i : Int) s.1 s.2.1 s.2.2 = some ((ch.drop i).foldl (addTo items) s) := by
  intro d
  induction d with
  | zero =>
    intro k i s hi hk
    obtain ⟨k, rfl⟩ : ∃ m, k = m + 1 := ⟨k - 1, by omega⟩
    simp only [impl_totals.l0]; rw [if_neg (by omega), List.drop_of_length_le (by omega)]; rfl
  | succ d ih =>
    intro k i s hi hk
    obtain ⟨k, rfl⟩ : ∃ m, k = m + 1 := ⟨k - 1, by omega⟩
    have hlt : i < ch.length := by omega
    have hin := hw ch[i] (List.getElem_mem hlt)
    simp only [impl_totals.l0]
    rw [if_pos (by omega), if_pos (by omega), if_pos (by omega), rd_nat ch i hlt, if_pos hin.1, if_pos hin.2, w64 (i := (i : Int) + 1) (by omega) (by omega), List.drop_eq_getElem_cons hlt, List.foldl_cons]
    have := ih k (i + 1) (addTo items s ch[i]) (by omega) (by omega)
    rw [show ((i + 1 : Nat) : Int) = (i : Int) + 1 by omega] at this
    exact this
theorem totals_eq (items : List Item) (ch : List Int) (hw : Inside items ch) (hn : ch.length ≤ 100000000000000) (k : Nat) (hk : ch.length < k) : impl_totals.f k items ch = some (tot items ch) := by
  unfold impl_totals.f
  exact totals_l0 items ch hw hn ch.length k 0 (0, 0, 0) (by omega) hk
theorem suTotals_l0 (items : List Item) (ch : List Int) (hw : Inside items ch) (hn : ch.length ≤ 100000000000000) : ∀ d k i (s : Int × Int × Int), i + d = ch.length → d < k →
    spec_suTotals.l0 k items s.1 s.2.1 s.2.2 ch (ch.length : Int) (i : Int) = some ((ch.drop i).foldl (addTo items) s) := by
  intro d
  induction d with
  | zero =>
    intro k i s hi hk
    obtain ⟨k, rfl⟩ : ∃ m, k = m + 1 := ⟨k - 1, by omega⟩
    simp only [spec_suTotals.l0]; rw [if_neg (by omega), List.drop_of_length_le (by omega)]; rfl
  | succ d ih =>
    intro k i s hi hk
    obtain ⟨k, rfl⟩ : ∃ m, k = m + 1 := ⟨k - 1, by omega⟩
    have hlt : i < ch.length := by omega
    have hin := hw ch[i] (List.getElem_mem hlt)
    simp only [spec_suTotals.l0]
    rw [if_pos (by omega), if_pos (by omega), if_pos (by omega), rd_nat ch i hlt, if_pos hin.1, if_pos hin.2, w64 (i := (i : Int) + 1) (by omega) (by omega), List.drop_eq_getElem_cons hlt, List.foldl_cons]
    have := ih k (i + 1) (addTo items s ch[i]) (by omega) (by omega)
    rw [show ((i + 1 : Nat) : Int) = (i : Int) + 1 by omega] at this
    exact this
theorem suTotals_eq (items : List Item) (ch : List Int) (hw : Inside items ch) (hn : ch.length ≤ 100000000000000) (k : Nat) (hk : ch.length < k) : spec_suTotals.f k items ch = some (tot items ch) := by
  unfold spec_suTotals.f
  exact suTotals_l0 items ch hw hn ch.length k 0 (0, 0, 0) (by omega) hk

/-- A list of items, strictly increasing. -/
def IsChosen (items : List Item) (ch : List Int) : Prop := (∀ j (h : j < ch.length), 1 ≤ j → ch[j - 1] < ch[j]) ∧ Inside items ch

theorem areChosen_l0 (items : List Item) (ch : List Int) (hm : items.length ≤ 100000000000000) (hn : ch.length ≤ 100000000000000) : ∀ d k i, ch.length - i = d → 1 ≤ i → d < k → (∀ j (h : j < ch.length), 1 ≤ j → j < i → ch[j - 1] < ch[j]) →
    ∃ b, impl_areChosen.l0 k items ch (i : Int) = some b ∧ (b = true ↔ IsChosen items ch) := by
  intro d
  induction d with
  | zero =>
    intro k i hi h1 hk hinv
    obtain ⟨k, rfl⟩ : ∃ m, k = m + 1 := ⟨k - 1, by omega⟩
    simp only [impl_areChosen.l0]; rw [if_neg (by omega), w64 (by omega) (by omega)]
    unfold impl_areWithin.f
    refine ⟨_, rfl, ?_⟩
    rw [List.all_eq_true]
    refine ⟨fun h => ⟨fun j hj hj1 => hinv j hj hj1 (by omega), fun x hx => ?_⟩, fun h x hx => ?_⟩
    · have := h x hx
      simp only [Bool.and_eq_true, decide_eq_true_eq] at this
      omega
    · have := h.2 x hx
      simp only [Bool.and_eq_true, decide_eq_true_eq]
      omega
  | succ d ih =>
    intro k i hi h1 hk hinv
    obtain ⟨k, rfl⟩ : ∃ m, k = m + 1 := ⟨k - 1, by omega⟩
    have hlt : i < ch.length := by omega
    simp only [impl_areChosen.l0]
    rw [if_pos (by omega), if_pos (by omega), w64 (i := (i : Int) - 1) (by omega) (by omega), if_pos (by omega), if_pos (by omega), rd_nat ch i hlt, show (i : Int) - 1 = ((i - 1 : Nat) : Int) by omega, rd_nat ch (i - 1) (by omega), w64 (i := (i : Int) + 1) (by omega) (by omega)]
    by_cases h : ch[i] ≤ ch[i - 1]
    · rw [if_pos h]
      refine ⟨false, rfl, ⟨fun h => Bool.noConfusion h, fun hc => ?_⟩⟩
      have := hc.1 i hlt h1
      omega
    · rw [if_neg h, show (i : Int) + 1 = ((i + 1 : Nat) : Int) by omega]
      exact ih k (i + 1) (by omega) (by omega) (by omega) (fun j hj hj1 hj2 => by
        by_cases e : j = i
        · subst e; omega
        · exact hinv j hj hj1 (by omega))
theorem areChosen_eq (items : List Item) (ch : List Int) (hm : items.length ≤ 100000000000000) (hn : ch.length ≤ 100000000000000) (k : Nat) (hk : ch.length < k) : ∃ b, impl_areChosen.f k items ch = some b ∧ (b = true ↔ IsChosen items ch) := by
  unfold impl_areChosen.f
  exact areChosen_l0 items ch hm hn (ch.length - 1) k 1 rfl (by omega) (by omega) (fun j _ h1 h2 => absurd h1 (by omega))

theorem l1Rising_l0 (items : List Item) (ch : List Int) (hm : items.length ≤ 100000000000000) (hn : ch.length ≤ 100000000000000) : ∀ d k i, i + d = ch.length → d < k → (∀ j (h : j < ch.length), 1 ≤ j → j < i → ch[j - 1] < ch[j]) → (∀ j (h : j < ch.length), j < i → 0 ≤ ch[j] ∧ ch[j] < (items.length : Int)) →
    ∃ b, spec_l1Rising.l0 k ch 0 ((items.length : Int) - 1) ch (ch.length : Int) (i : Int) = some b ∧ (b = true ↔ IsChosen items ch) := by
  intro d
  induction d with
  | zero =>
    intro k i hi hk hinv hin
    obtain ⟨k, rfl⟩ : ∃ m, k = m + 1 := ⟨k - 1, by omega⟩
    simp only [spec_l1Rising.l0]; rw [if_neg (by omega)]
    refine ⟨true, rfl, ⟨fun _ => ⟨fun j hj hj1 => hinv j hj hj1 (by omega), fun x hx => ?_⟩, fun _ => rfl⟩⟩
    obtain ⟨j, hj, rfl⟩ := List.mem_iff_getElem.1 hx
    exact hin j hj (by omega)
  | succ d ih =>
    intro k i hi hk hinv hin
    obtain ⟨k, rfl⟩ : ∃ m, k = m + 1 := ⟨k - 1, by omega⟩
    have hlt : i < ch.length := by omega
    simp only [spec_l1Rising.l0, inItem, Option.bind_some]
    rw [if_pos (by omega), if_pos (by omega), if_pos (by omega), rd_nat ch i hlt]
    by_cases hb : 0 ≤ ch[i] ∧ ch[i] < (items.length : Int)
    · rw [if_pos (by simp only [Bool.and_eq_true, decide_eq_true_eq]; omega), w64 (i := (i : Int) + 1) (by omega) (by omega)]
      have hin' : ∀ j (h : j < ch.length), j < i + 1 → 0 ≤ ch[j] ∧ ch[j] < (items.length : Int) := fun j hj hj2 => by
        by_cases e : j = i
        · subst e; exact hb
        · exact hin j hj (by omega)
      by_cases h0 : i = 0
      · subst h0
        rw [if_neg (by omega)]
        exact ih k 1 (by omega) (by omega) (fun j _ h1 h2 => absurd h1 (by omega)) hin'
      · rw [if_pos (by omega), w64 (i := (i : Int) - 1) (by omega) (by omega), if_pos (by omega), if_pos (by omega), show (i : Int) - 1 = ((i - 1 : Nat) : Int) by omega, rd_nat ch (i - 1) (by omega)]
        by_cases h : ch[i] ≤ ch[i - 1]
        · rw [if_pos h]
          refine ⟨false, rfl, ⟨fun h => Bool.noConfusion h, fun hc => ?_⟩⟩
          have := hc.1 i hlt (by omega)
          omega
        · rw [if_neg (by omega), show (i : Int) + 1 = ((i + 1 : Nat) : Int) by omega]
          exact ih k (i + 1) (by omega) (by omega) (fun j hj hj1 hj2 => by
            by_cases e : j = i
            · subst e; omega
            · exact hinv j hj hj1 (by omega)) hin'
    · rw [if_neg (by simp only [Bool.and_eq_true, decide_eq_true_eq]; omega)]
      exact ⟨false, rfl, ⟨fun h => Bool.noConfusion h, fun hc => absurd (hc.2 _ (List.getElem_mem hlt)) hb⟩⟩
theorem suList_eq (items : List Item) (ch : List Int) (hm : items.length ≤ 100000000000000) (hn : ch.length ≤ 100000000000000) (k : Nat) (hk : ch.length < k) : ∃ b, spec_suList.f k items ch = some b ∧ (b = true ↔ IsChosen items ch) := by
  unfold spec_suList.f spec_l1Rising.f
  by_cases h : ch.length = 0
  · rw [if_pos (by omega)]
    refine ⟨true, rfl, ⟨fun _ => ⟨fun j hj => absurd hj (by omega), fun x hx => ?_⟩, fun _ => rfl⟩⟩
    rw [List.eq_nil_of_length_eq_zero h] at hx
    cases hx
  · rw [if_neg (by omega), w64 (by omega) (by omega)]
    obtain ⟨b, hb, hi⟩ := l1Rising_l0 items ch hm hn ch.length k 0 (by omega) hk (fun j _ h1 h2 => absurd h1 (by omega)) (fun j _ h => absurd h (by omega))
    exact ⟨b, by simp only [Int.natCast_zero] at hb; rw [hb]; rfl, hi⟩
/-- Both tell the same. -/
theorem chosen_both (items : List Item) (ch : List Int) (hm : items.length ≤ 100000000000000) (hn : ch.length ≤ 100000000000000) : ∃ b, (∀ k, ch.length < k → impl_areChosen.f k items ch = some b) ∧ (∀ k, ch.length < k → spec_suList.f k items ch = some b) ∧ (b = true ↔ IsChosen items ch) := by
  obtain ⟨b, h1, hb⟩ := areChosen_eq items ch hm hn (ch.length + 1) (by omega)
  refine ⟨b, fun k hk => ?_, fun k hk => ?_, hb⟩
  · obtain ⟨b', h2, hb'⟩ := areChosen_eq items ch hm hn k hk
    rw [h2, Bool.eq_iff_iff.2 (hb'.trans hb.symm)]
  · obtain ⟨b', h2, hb'⟩ := suList_eq items ch hm hn k hk
    rw [h2, Bool.eq_iff_iff.2 (hb'.trans hb.symm)]
end Go.Proofs.Ytgghcngfleicnaa.Q

namespace Go.Proofs.Ytgghcngfleicnaa.Q
open Go.RowKit Go.Proofs.YtgghcngfleicnaaW.PrintWords Go.Proofs.YtgghcngfleicnaaW.PrintLast Go.Proofs.YtgghcngfleicnaaW.PrintMore
set_option linter.unusedVariables false
set_option linter.unusedSimpArgs false

theorem totalsOf_both (items : List Item) (ch : List Int) (hm : items.length ≤ 10000000) (hn : ch.length ≤ 10000000) :
    ∃ r : List Int × Bool, Ev (fun k => spec_TotalsOf.f k items ch) r ∧ Ev (fun k => impl_TotalsOf.f k items ch) r ∧ r.1.length ≤ 10000000 := by
  obtain ⟨b, hi, hs, hb⟩ := chosen_both items ch (by omega) (by omega)
  have hg := fun k hk => suGood_eq items (by omega) k hk
  unfold impl_AreItems.f at hg
  cases hq : (decide (1 ≤ items.length) && decide (items.length ≤ 10) && items.all okItem) with
  | false =>
    refine ⟨([], false), Ev_from items.length fun k hk => ?_, Ev_from 0 fun k _ => ?_, by simp⟩
    · unfold spec_TotalsOf.f; rw [hg k hk, hq]; rfl
    · unfold impl_TotalsOf.f impl_AreItems.f; rw [hq]; rfl
  | true =>
    cases b with
    | false =>
      refine ⟨([], false), Ev_from (items.length + ch.length) fun k hk => ?_, Ev_from ch.length fun k hk => ?_, by simp⟩
      · unfold spec_TotalsOf.f; rw [hg k (by omega), hq]; simp only [Option.bind_some, if_true]; rw [hs k (by omega)]; rfl
      · unfold impl_TotalsOf.f impl_AreItems.f; rw [hq]; simp only [Option.bind_some, if_true]; rw [hi k hk]; rfl
    | true =>
      have hw := (hb.1 rfl).2
      refine ⟨([(tot items ch).1, (tot items ch).2.1, (tot items ch).2.2], true), Ev_from (items.length + ch.length) fun k hk => ?_, Ev_from ch.length fun k hk => ?_, by simp⟩
      · unfold spec_TotalsOf.f; rw [hg k (by omega), hq]; simp only [Option.bind_some, if_true]; rw [hs k (by omega)]; simp only [Option.bind_some, if_true]; rw [suTotals_eq items ch hw (by omega) k (by omega)]; rfl
      · unfold impl_TotalsOf.f impl_AreItems.f; rw [hq]; simp only [Option.bind_some, if_true]; rw [hi k hk]; simp only [Option.bind_some, if_true]; rw [totals_eq items ch hw (by omega) k (by omega)]; rfl
end Go.Proofs.Ytgghcngfleicnaa.Q

namespace Go.Proofs.Ytgghcngfleicnaa.Q
open Go.RowKit Go.Proofs.YtgghcngfleicnaaW.PrintWords Go.Proofs.YtgghcngfleicnaaW.PrintLast Go.Proofs.YtgghcngfleicnaaW.PrintMore
set_option linter.unusedVariables false
set_option linter.unusedSimpArgs false

theorem toIntS_l0 (l : List Int) (hn : l.length ≤ 100000000000000) : ∀ d k i (x : List Int), i + d = l.length → d < k → x.length = l.length → (∀ j (hj : j < x.length) (hj2 : j < l.length), j < i → x[j] = l[j]) →
    laws_toIntS.l0 k l x (i : Int) = some l := by
  intro d
  induction d with
  | zero =>
    intro k i x hi hk hx hj
    obtain ⟨k, rfl⟩ : ∃ m, k = m + 1 := ⟨k - 1, by omega⟩
    simp only [laws_toIntS.l0]; rw [if_neg (by omega)]
    congr 1
    apply List.ext_getElem
    · omega
    · intro j h1 h2
      exact hj j h1 (by omega) (by omega)
  | succ d ih =>
    intro k i x hi hk hx hj
    obtain ⟨k, rfl⟩ : ∃ m, k = m + 1 := ⟨k - 1, by omega⟩
    simp only [laws_toIntS.l0]
    rw [if_pos (by omega), if_pos (by omega), if_pos (by omega), w64 (i := (i : Int) + 1) (by omega) (by omega), rd_nat l i (by omega)]
    have := ih k (i + 1) (x.set (i : Int).toNat (l[i]'(by omega))) (by omega) (by omega) (by simp [hx]) (fun j hj1 hj2 hj3 => by
      simp only [Int.toNat_natCast]
      rw [List.getElem_set]
      split
      · rename_i e; subst e; rfl
      · rename_i e; exact hj j (by simpa using hj1) hj2 (by omega))
    rw [show ((i + 1 : Nat) : Int) = (i : Int) + 1 by omega] at this
    exact this
theorem toIntS_eq (l : List Int) (hn : l.length ≤ 1000000000) (k : Nat) (hk : l.length < k) : laws_toIntS.f k l = some l := by
  unfold laws_toIntS.f
  rw [if_pos (by omega), if_pos (by omega)]
  exact toIntS_l0 l (by omega) l.length k 0 _ (by omega) hk (by simp) (fun j _ _ h => absurd h (by omega))
theorem toIntS_ev (a : List Int) (h : a.length ≤ 10000000) : Ev (fun k => laws_toIntS.f k a) a := ⟨a.length + 1, fun k hk => toIntS_eq a (by omega) k (by omega)⟩
end Go.Proofs.Ytgghcngfleicnaa.Q

namespace Go.Proofs.Ytgghcngfleicnaa.Q
open Go.RowKit Go.Proofs.YtgghcngfleicnaaW.PrintWords Go.Proofs.YtgghcngfleicnaaW.PrintLast Go.Proofs.YtgghcngfleicnaaW.PrintMore
set_option linter.unusedVariables false
set_option linter.unusedSimpArgs false

def marksItem (a : Int) (n : Nat) : List S54 := (List.range n).map fun (j : Nat) => ⟨a + 3 * (j : Int), a + 3 * (j : Int) + 1, a + 3 * (j : Int) + 2⟩
theorem marksItem_length (a : Int) (n : Nat) : (marksItem a n).length = n := by simp [marksItem]

theorem markItemS_l0 (a : Int) (n : Nat) (h0 : 0 ≤ a) (hn : a + 3 * n ≤ 100000000000000) : ∀ d k i (x : List S54), i + d = n → d < k → x.length = n →
    ∃ y, laws_markItemS.l0 k x (a + 3 * (i : Int)) (i : Int) = some (a + 3 * (n : Int), y) ∧ y.length = n := by
  intro d
  induction d with
  | zero =>
    intro k i x hi hk hx
    obtain ⟨k, rfl⟩ : ∃ m, k = m + 1 := ⟨k - 1, by omega⟩
    simp only [laws_markItemS.l0]; rw [if_neg (by omega)]
    have : i = n := by omega
    subst this
    exact ⟨x, rfl, hx⟩
  | succ d ih =>
    intro k i x hi hk hx
    obtain ⟨k, rfl⟩ : ∃ m, k = m + 1 := ⟨k - 1, by omega⟩
    simp only [laws_markItemS.l0]
    rw [if_pos (by omega), if_pos (by omega)]
    simp only [Option.bind_some]
    rw [w64Item (i := a + 3 * (i : Int) + 1) (by omega) (by omega), w64Item (i := a + 3 * (i : Int) + 1 + 1) (by omega) (by omega), w64Item (i := a + 3 * (i : Int) + 1 + 1 + 1) (by omega) (by omega), w64Item (i := (i : Int) + 1) (by omega) (by omega)]
    rw [show a + 3 * (i : Int) + 1 + 1 + 1 = a + 3 * ((i + 1 : Nat) : Int) by omega, show (i : Int) + 1 = ((i + 1 : Nat) : Int) by omega]
    exact ih k (i + 1) _ (by omega) (by omega) (by simp [hx])
/-- Marking counts on, whatever it writes. -/
theorem markItemS_eq (x : List S54) (a : Int) (h0 : 0 ≤ a) (hn : a + 3 * x.length ≤ 100000000000000) (k : Nat) (hk : x.length < k) : ∃ y, laws_markItemS.f k x a = some (a + 3 * (x.length : Int), y) := by
  unfold laws_markItemS.f
  obtain ⟨y, h, _⟩ := markItemS_l0 a x.length h0 hn x.length k 0 x (by omega) hk rfl
  exact ⟨y, by simpa using h⟩
theorem markItemS_ev (x : List S54) (h : x.length ≤ 10000000) (a : Int) (h0 : 0 ≤ a) (hn : a ≤ 10000000000) : ∃ y, Ev (fun k => laws_markItemS.f k x a) (a + 3 * (x.length : Int), y) := by
  obtain ⟨y, hy⟩ := markItemS_eq x a h0 (by omega) (x.length + 1) (by omega)
  exact ⟨y, Ev.of (fun k => laws_markItemS.mono x a k) hy⟩
end Go.Proofs.Ytgghcngfleicnaa.Q

namespace Go.Proofs.Ytgghcngfleicnaa.Pure
open Go.RowKit Go.Proofs.Ytgghcngfleicnaa.Q Go.Proofs.YtgghcngfleicnaaW.PrintWords Go.Proofs.YtgghcngfleicnaaW.PrintLast
set_option linter.unusedVariables false
set_option linter.unusedSimpArgs false

set_option maxHeartbeats 2000000 in
set_option maxRecDepth 10000 in
theorem FnExactTotalsOf : ∀ (l0 : List S56) (l1 : List Int), l0.length ≤ maxLen → l0.length * 24 ≤ 140737488351232 → (∀ x ∈ l0, (Lit.int .i64 x.f0).wf = true ∧ (Lit.int .i64 x.f1).wf = true ∧ (Lit.int .i64 x.f2).wf = true) → l1.length ≤ maxLen → l1.length * 8 ≤ 140737488351232 → (∀ x ∈ l1, (Lit.int .i64 x).wf = true) → ∃ k, laws_FnExactTotalsOf.f k l0 l1 = some true := by
  intro l0 l1 _ h0 g0 _ h1 g1
  refine Ev.rounds (g := fun k => laws_FnExactTotalsOf.f k l0 l1) ?_
  by_cases hl1 : l1.length ≤ 1048576
  · skip
    by_cases hl0 : l0.length ≤ 1048576
    · skip
      have hm0 : (l0.map cvItem).length ≤ 1048576 := by simpa using hl0
      obtain ⟨r, hs, hi, hb0⟩ := totalsOf_both (l0.map cvItem) l1 (by omega) (by omega)
      obtain ⟨y0, hy0⟩ := markItemS_ev (l0.map cvItem) (by omega) 1 (by omega) (by omega)
      simp only [laws_FnExactTotalsOf.f, szItemS_small l0 hl0, Option.bind_some]
      repeat' (first
        | exact Ev_some _
        | (simp (disch := omega) only [Option.bind_some, if_neg, if_pos, bne_self_eq_false, Bool.false_eq_true, if_false, if_true, eq_self])
        | refine Ev.bind (toItemS_ev l0 (by omega)) ?_
        | refine Ev.bind (eqItemS_ev (l0.map cvItem) (by omega)) ?_
        | refine Ev.bind hy0 ?_
        | refine Ev.bind (toIntS_ev l1 (by omega)) ?_
        | refine Ev.bind (eqIntS_ev l1 (by omega)) ?_
        | refine Ev.bind (markIntS_ev l1 (by omega) _ (by omega) (by omega)) ?_
        | refine Ev.bind hs ?_
        | refine Ev.bind hi ?_
        | refine Ev.bind (eqIntS_ev r.1 hb0) ?_
        | refine Ev.bind (markIntS_ev r.1 hb0 1 (by omega) (by omega)) ?_
        | refine Ev.bind (heldIntS_ev r.1.length hb0 1 (by omega) (by omega)) ?_
        | refine Ev.step (fun k => by rw [laws_FnExactTotalsOf.j0]) ?_
        | refine Ev.step (fun k => by rw [laws_FnExactTotalsOf.j1]) ?_
        | refine Ev.step (fun k => by rw [laws_FnExactTotalsOf.j2]) ?_)
    · simp only [laws_FnExactTotalsOf.f, szItemS_great l0 (by omega) (by omega)]
      simp (disch := omega) only [Option.bind_some, if_neg, if_pos]
      exact Ev_some _
  · simp (disch := omega) only [laws_FnExactTotalsOf.f, if_pos, if_neg]
    exact Ev_some _
end Go.Proofs.Ytgghcngfleicnaa.Pure

namespace Go.Proofs.Ytgghcngfleicnaa.HO
open Go.ChangeShapes Go.WideShapes Go.Deep Go.RowKit Go.Proofs.YtgghcngfleicnaaW.PrintWords
set_option linter.unusedVariables false
section
variable {H : Type} {enc : TypeId × Value → H} {P : Program} {w : World} {base : Nat} {spare : Nat → Bool} {held : Bool}

/-- A slice of structs of n whole numbers each, opened: F i j is field j of element i. -/
theorem open_ints_struct {t e : TypeId} {fs : Array Field} {fuel : Nat} {cs : List Value} {x : DataW H × List MemPlace} (ht : P.underlying t = some (.slice e)) (he : P.underlying e = some (.struct fs))
    (hone : oneCellFields P fs = true) (hC : P.cellsOf e = fs.size) (hk : ∀ (j : Nat) (f : Field), fs[j]? = some f → P.underlying f.type = some (.int .i64)) (h : DataW.trod enc P w base spare held fuel t cs = some x) :
    (cs = [.slice none 0 0] ∧ x = (.nil, [])) ∨
    ∃ (a : Addr) (len cap : Nat) (F : Nat → Nat → Int) (el sp : List (DataW H)) (ps : List MemPlace), cs = [.slice (some a) len cap] ∧ len ≤ cap ∧ cap ≤ maxLen ∧ x = (.slice el sp, ps) ∧ el.length = len ∧
      ∀ i, i < len → ∀ j, j < fs.size → w.cell? (a.add (i * fs.size + j)) = some (.int .i64 (F i j)) ∧ (Lit.int .i64 (F i j)).wf = true := by
  rcases open_slice ht h with h0 | ⟨a, len, cap, m, n, D, Pl, hcs, hb, hl, hm, hmm, hx, hi⟩
  · exact .inl h0
  · have hlm : len ≤ m := by rw [hmm]; split <;> omega
    have key : ∀ i, i < len → ∃ G : Nat → Int, ∀ j, j < fs.size → w.cell? (a.add (i * fs.size + j)) = some (.int .i64 (G j)) ∧ (Lit.int .i64 (G j)).wf = true := fun i hil => by
      obtain ⟨cs', hc, ht'⟩ := hi i (by omega)
      rw [hC] at hc
      obtain ⟨ys, n', hn', hy, hlen, hyl, hf⟩ := DataW.trod_struct he ht'
      obtain ⟨_, hcl, hat⟩ := World.cells?_some hc
      refine choose_lt (α := Int) (p := fun j v => w.cell? (a.add (i * fs.size + j)) = some (.int .i64 v) ∧ (Lit.int .i64 v).wf = true) (fun j hj => ?_)
      have hfj : fs[j]? = some fs[j] := Array.getElem?_eq_getElem hj
      obtain ⟨ho, hk1⟩ := hone_of hone j _ hfj
      have hcell := hat j hj
      have hv : cs'[j]? = some (cs'[j]'(by omega)) := List.getElem?_eq_getElem (by omega)
      have h1 := hf j _ hfj
      rw [ho, hk1] at h1
      have hone' : (cs'.drop j).take 1 = [cs'[j]'(by omega)] := by
        rw [List.drop_eq_getElem_cons (by omega)]
        rfl
      rw [hone'] at h1
      have hys : ys[j]? = some (ys[j]'(by omega)) := List.getElem?_eq_getElem (by omega)
      obtain ⟨v, e0, _, wv⟩ := DataW.trod_int (hk j _ hfj) (h1.trans hys)
      refine ⟨v, ?_, wv⟩
      rw [← Go.Deep.add_add, hcell, hv]
      simp only [List.cons.injEq, and_true] at e0
      rw [e0]
    obtain ⟨F, hF⟩ := choose_lt (α := Nat → Int) (p := fun i G => ∀ j, j < fs.size → w.cell? (a.add (i * fs.size + j)) = some (.int .i64 (G j)) ∧ (Lit.int .i64 (G j)).wf = true) key
    exact .inr ⟨a, len, cap, F, _, _, _, hcs, hl, hm, hx, by simp, hF⟩

/-- The same of an argument: the numbers, and how many at most. -/
theorem open_structs {t e : TypeId} {fs : Array Field} {a : Option Addr} {len cap : Nat} {d : DataW H} {ps : List MemPlace} {ts : List TypeId} {ds : List (DataW H)} {j : Nat}
    (hsz : (DataW.weightsEach P ts ds).all (· ≤ reachBytes) = true) (htj : ts[j]? = some t) (hdj : ds[j]? = some d) (ht : P.underlying t = some (.slice e)) (he : P.underlying e = some (.struct fs))
    (hone : oneCellFields P fs = true) (hC : P.cellsOf e = fs.size) (hk : ∀ (j : Nat) (f : Field), fs[j]? = some f → P.underlying f.type = some (.int .i64)) {B : Nat} (hB : P.bytesOf e = B)
    (h : DataW.Trod enc P w base spare held t (.slice a len cap) d ps) :
    ∃ F : Nat → Nat → Int, len ≤ cap ∧ len ≤ maxLen ∧ len * B ≤ 140737488351232 ∧ (0 < len → ∃ ad, a = some ad ∧ ∀ i, i < len → ∀ j, j < fs.size → w.cell? (ad.add (i * fs.size + j)) = some (.int .i64 (F i j))) ∧ ∀ i, i < len → ∀ j, j < fs.size → (Lit.int .i64 (F i j)).wf = true := by
  obtain ⟨fuel, hf⟩ := h
  rcases open_ints_struct ht he hone hC hk hf with ⟨hcs, _⟩ | ⟨x, l, c, F, el, sp, ps', hcs, hl, hm, hx, hel, hF⟩
  · simp [Value.cells] at hcs
    obtain ⟨rfl, rfl, rfl⟩ := hcs
    exact ⟨fun _ _ => 0, by omega, by omega, by omega, fun h => absurd h (by omega), fun i hi => absurd hi (by omega)⟩
  · simp [Value.cells] at hcs
    obtain ⟨rfl, rfl, rfl⟩ := hcs
    obtain ⟨hx, _⟩ := Prod.mk.inj hx
    subst hx
    have z := sized_slice hsz htj hdj ht
    rw [hB, hel] at z
    refine ⟨F, hl, by omega, ?_, fun _ => ⟨x, rfl, fun i hi j hj => (hF i hi j hj).1⟩, fun i hi j hj => (hF i hi j hj).2⟩
    have : reachBytes = 140737488351232 := by decide
    rw [this] at z
    exact Nat.le_trans (Nat.mul_le_mul_right _ (by omega)) z

/-- A struct of two whole numbers, by value. -/
theorem open_pair {r : Reach} {b0 : Nat} {t : TypeId} {f0 f1 : Field} {v : Value} {d : DataW H} {p : List MemPlace} (hs : P.underlying t = some (.struct #[f0, f1])) (hone : oneCellFields P #[f0, f1] = true) (hC : P.cellsOf t = 2)
    (h0 : P.underlying f0.type = some (.int .i64)) (h1 : P.underlying f1.type = some (.int .i64)) (hv : Value.okWide P w r b0 t v) (h : DataW.Trod enc P w base spare held t v d p) :
    ∃ x y : Int, v = .agg #[.int .i64 x, .int .i64 y] ∧ p = [] ∧ (Lit.int .i64 x).wf = true ∧ (Lit.int .i64 y).wf = true := by
  obtain ⟨v0, v1, y0, y1, n, rfl, rfl, rfl, g0, g1⟩ := Go.Joins.open_agg2 hs hone hC hv h
  obtain ⟨x, e0, rfl, w0⟩ := DataW.trod_int h0 g0
  obtain ⟨y, e1, rfl, w1⟩ := DataW.trod_int h1 g1
  simp only [List.cons.injEq, and_true] at e0 e1
  subst e0 e1
  exact ⟨x, y, rfl, rfl, w0, w1⟩
end
end Go.Proofs.Ytgghcngfleicnaa.HO

namespace Go.Proofs.Ytgghcngfleicnaa.fnExactTotalsOf
open Go.ChangeShapes Go.WideShapes Go.ChangeAt Go.RowKit Go.Proofs.YtgghcngfleicnaaW Go.Proofs.YtgghcngfleicnaaW.PrintWords
open Go.ChangeMaps (open_string shut_string)
set_option linter.unusedVariables false
theorem own : ownKnob Try.prog.godebug = none := by kernel_rfl
theorem laidOut : laidOutB Try.prog = true := by kernel_rfl
def IsRow (k : IntKind) (w : World) (a : Option Addr) (len cap : Nat) (zs : List Int) : Prop :=
  (a = none ∧ len = 0 ∧ cap = 0 ∧ zs = []) ∨
  ∃ x, a = some x ∧ len ≤ cap ∧ cap ≤ maxLen ∧ zs.length = cap ∧ (∀ i, i < zs.length → w.cell? (x.add i) = some (.int k (zs.getD i 0))) ∧ ∀ n ∈ zs, (Lit.int k n).wf = true
theorem mk_C56 {w : World} {A : Option Addr} {n : Nat} {F : Nat → Nat → Int} (hn : n ≤ maxLen) (h : 0 < n → ∃ ad, A = some ad ∧ ∀ i, i < n → ∀ j, j < 3 → w.cell? (ad.add (i * 3 + j)) = some (.int .i64 (F i j))) (hw : ∀ i, i < n → ∀ j, j < 3 → (Lit.int .i64 (F i j)).wf = true) :
    ∃ l : List Q.S56, l.length = n ∧ Kd.C Q.k56 w A l.length l ∧ ∀ x ∈ l, (Lit.int .i64 x.f0).wf = true ∧ (Lit.int .i64 x.f1).wf = true ∧ (Lit.int .i64 x.f2).wf = true := by
  refine ⟨(List.range n).map fun i => ⟨F i 0, F i 1, F i 2⟩, by simp, ⟨rfl, by unfold maxLen at hn; simp; omega, fun h0 => ?_⟩, fun x hx => ?_⟩
  · rw [List.length_map, List.length_range] at h0
    obtain ⟨ad, ha, hc⟩ := h h0
    refine ⟨ad, ha, fun j p hj => ?_⟩
    rw [List.getElem?_map] at hj
    obtain ⟨i, hi, rfl⟩ := Option.map_eq_some_iff.1 hj
    have hji : j < n := by have := (List.getElem?_eq_some_iff.1 hi).1; simpa using this
    have hij : i = j := by rw [List.getElem?_range hji] at hi; injection hi with hi; exact hi.symm
    subst hij
    refine ⟨[.int .i64 (F i 0), .int .i64 (F i 1), .int .i64 (F i 2)], rfl, Q.k56_mk w _, fun q u hq => ?_⟩
    match q, hq with
    | 0, hq => injection hq with hq; subst hq; exact hc i hji 0 (by omega)
    | 1, hq => injection hq with hq; subst hq; exact hc i hji 1 (by omega)
    | 2, hq => injection hq with hq; subst hq; exact hc i hji 2 (by omega)
    | q + 3, hq => simp at hq
  · rw [List.mem_map] at hx
    obtain ⟨i, hi, rfl⟩ := hx
    rw [List.mem_range] at hi
    exact ⟨hw i hi 0 (by omega), hw i hi 1 (by omega), hw i hi 2 (by omega)⟩
set_option maxRecDepth 100000 in
theorem lifted (os : Os) (started : os.Started) (H : Type) (enc : TypeId × Value → H) :
    ReturnsInHanded {} Try.checked os 7 .any (Rows.fnExactTotalsOfSpec.pre6 enc Try.prog Try.f7 Rows.fnExactTotalsOfRow.domain false) (Rows.fnExactTotalsOfSpec.post enc Try.prog Try.f7 false true false false) := by
  refine returnsInHanded_of_change_sized (C := Try.checked) own started (by kernel_rfl) Try.func7
    (ChangeSpec.witness6 (enc := enc) (C := Try.checked) false ⟨#[], #[.slice none 0 0, .slice none 0 0], []⟩ 8 (by kernel_rfl) (by kernel_rfl) (by kernel_rfl) (by kernel_rfl)) ?_
  intro W base args ds gs before hval0 hW hcnd hsz0 _
  have hsz : (DataW.weightsEach Try.prog (Try.f7.params.toList ++ Rows.fnExactTotalsOfSpec.plain.varTypes Try.prog) (ds ++ gs)).all (· ≤ reachBytes) = true := hsz0
  have hval : ∀ (j : Nat) t v, Try.f7.params[j]? = some t → args[j]? = some v → Value.okWide Try.prog W .any base t v := hval0
  have hW' := hW
  obtain ⟨p, q, hA0, hV, rfl, hfz, hnd⟩ := hW
  have hA : DataW.TrodAll enc Try.prog W 0 (fun _ => true) true Try.f7.params.toList args.toList ds p := hA0
  rw [Try.params7] at hA hval hsz
  obtain ⟨v0, vs0, d0, ds0, p0, q0, hargs, rfl, rfl, h0, r0⟩ := trodAll_cons hA
  obtain ⟨v1, vs1, d1, ds1, p1, q1, rfl, rfl, rfl, h1, r1⟩ := trodAll_cons r0
  obtain ⟨rfl, rfl, rfl⟩ := trodAll_nil r1
  obtain rfl : args = #[v0, v1] := by cases args; simp_all
  obtain ⟨rfl, rfl⟩ := trodVars_none hV
  obtain ⟨a0, len0, cap0, rfl⟩ := okWide_slice Try.underlying22 (hval 0 22 v0 rfl rfl)
  have k0 := h0
  have lt0 : ∀ x ∈ p0, x.block < W.heap.size := by obtain ⟨m, hm⟩ := k0; exact DataW.trod_lt m _ _ _ hm
  obtain ⟨F0, hc0, hm0, y0, hcell0, hw0⟩ := HO.open_structs (j := 0) (t := 22) (B := 24) hsz rfl rfl Try.underlying22 Try.underlying56 (by kernel_rfl) (by kernel_rfl) (fun j f hj => by
    have hj3 : j < 3 := (Array.getElem?_eq_some_iff.1 hj).1
    match j, hj3 with
    | 0, _ => injection hj with hj; subst hj; exact Try.underlying3
    | 1, _ => injection hj with hj; subst hj; exact Try.underlying3
    | 2, _ => injection hj with hj; subst hj; exact Try.underlying3
    ) (by kernel_rfl) h0
  obtain ⟨l0, hl0, hr0, hz0⟩ := mk_C56 hm0 hcell0 hw0
  subst hl0
  obtain ⟨a1, len1, cap1, rfl⟩ := okWide_slice Try.underlying29 (hval 1 29 v1 rfl rfl)
  have k1 := h1
  have lt1 : ∀ x ∈ p1, x.block < W.heap.size := by obtain ⟨m, hm⟩ := k1; exact DataW.trod_lt m _ _ _ hm
  obtain ⟨z1, w1⟩ : ∃ zs, IsRow .i64 W a1 len1 cap1 zs := by
    obtain ⟨fuel, hf⟩ := h1
    rcases open_ints Try.underlying29 Try.underlying3 (by kernel_rfl) hf with ⟨hcs, _⟩ | ⟨x, l, c, zs, hcs, _, hl, hm, hz, _, hcell, hwz⟩
    · simp [Value.cells] at hcs
      obtain ⟨rfl, rfl, rfl⟩ := hcs
      exact ⟨[], .inl ⟨rfl, rfl, rfl, rfl⟩⟩
    · simp [Value.cells] at hcs
      obtain ⟨rfl, rfl, rfl⟩ := hcs
      exact ⟨zs, .inr ⟨_, rfl, hl, hm, by simpa using hz, hcell, hwz⟩⟩
  have y1 : len1 * 8 ≤ 140737488351232 := PrintWords.sized_ints hsz (j := 1) (t := 29) rfl rfl Try.underlying29 Try.underlying3 (by kernel_rfl) (by kernel_rfl) h1
  clear hA0 hval0 hsz0 hsz
  obtain ⟨l1, rfl, hr1, hm1, hw1, hc1⟩ := ReadsInt.ofRowC w1
  obtain ⟨k, hh⟩ := Pure.FnExactTotalsOf l0 l1 hm0 y0 hz0 hm1 y1 hw1
  refine (Q.laws_FnExactTotalsOf.calls k _ _ l0 _ _ l1 true W hr0 hc0 (Kd.C_of_reads (d := (0 : Int)) (h1 := fun _ => rfl) hr1) hc1 hh).mono fun e W' ⟨he, bel⟩ => ?_
  subst he
  exact ⟨_, rfl, _, _, _, [], _, [], hW', trodAll_mk1 (shut_bool Try.underlying4 _), (trodAll_cons_mk (Below.trod laidOut (by kernel_rfl) (of_decide_eq_true (by kernel_rfl)) k0 bel lt0) (trodAll_cons_mk (Below.trod laidOut (by kernel_rfl) (of_decide_eq_true (by kernel_rfl)) k1 bel lt1) trodAll_mk0)), rfl, bel.frame _, fun h => by cases h⟩
theorem over : Rows.fnExactTotalsOfRow.holds Try.pinned (OpenSpec.ofChange Rows.fnExactTotalsOfSpec) :=
  OpenClaim.holds_of_wide 7 Try.f7 rfl rfl rfl rfl rfl rfl rfl ⟨rfl, rfl, rfl, rfl, rfl⟩ rfl rfl rfl rfl rfl (by kernel_rfl) Try.func7 (by kernel_rfl)
    (of_decide_eq_true (by kernel_rfl)) (by unfold Func.isWrapper; first | (rw [if_pos (by decide +kernel)]; kernel_rfl) | (rw [if_neg (by decide +kernel)]; exact ⟨rfl, rfl⟩))
    (fun os started H enc _ => lifted os started H enc)
theorem proved : Rows.FnExactTotalsOfSaid := over
#print axioms proved
end Go.Proofs.Ytgghcngfleicnaa.fnExactTotalsOf
namespace Go.Proofs.Ytgghcngfleicnaa
/-- The row, under a short name, for the claim. -/
theorem fnExactTotalsOf_holds : Rows.FnExactTotalsOfSaid := fnExactTotalsOf.proved
end Go.Proofs.Ytgghcngfleicnaa
