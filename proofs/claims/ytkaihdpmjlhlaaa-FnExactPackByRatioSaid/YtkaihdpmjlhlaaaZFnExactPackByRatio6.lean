/-
  Part 6 of the proof of FnExactPackByRatio: what Go functions that it reaches compute, each shown by a walk of its code, and plain laws on numbers and lists.
  CONDITIONS: each theorem's own, as stated.
-/
import Derived.Test.YtkaihdpmjlhlaaaZFnExactPackByRatio2
import Derived.Test.YtkaihdpmjlhlaaaZFnExactPackByRatio5
import Derived.Test.YtkaihdpmjlhlaaaZFnExactPackByRatio1
import Derived.Deep.RegionHeld3
import Derived.StillTailTactics
import Derived.BigQuiet
import Derived.IntWalk
import Derived.Laws.EntriesVeiled
namespace Go.Proofs.Ytkaihdpmjlhlaaa.Q
open Go.RowKit Go.Proofs.YtkaihdpmjlhlaaaW.PrintWords Go.Proofs.YtkaihdpmjlhlaaaW.PrintLast Go.Proofs.YtkaihdpmjlhlaaaW.PrintMore
set_option linter.unusedVariables false
set_option linter.unusedSimpArgs false

theorem inItem (a lo hi : Int) : spec_l1In.f a lo hi = some (decide (lo ≤ a) && decide (a ≤ hi)) := by
  unfold spec_l1In.f
  by_cases h : lo ≤ a
  · rw [if_pos h]; simp [h]
  · rw [if_neg h]; simp [h]
theorem suGood_l0 (l : List Item) (hn : l.length ≤ 100000000000000) : ∀ d k i, i + d = l.length → d < k → spec_suGood.l0 k l (l.length : Int) (i : Int) = some ((l.drop i).all okItem) := by
  intro d
  induction d with
  | zero =>
    intro k i hi hk
    obtain ⟨k, rfl⟩ : ∃ m, k = m + 1 := ⟨k - 1, by omega⟩
    simp only [spec_suGood.l0]; rw [if_neg (by omega), List.drop_of_length_le (by omega)]; rfl
  | succ d ih =>
    intro k i hi hk
    obtain ⟨k, rfl⟩ : ∃ m, k = m + 1 := ⟨k - 1, by omega⟩
    simp only [spec_suGood.l0, spec_suItem.f]
    have hlt : i < l.length := by omega
    rw [if_pos (by omega), if_pos (by omega), if_pos (by omega), w64Item (by omega) (by omega), rdIItem l i hlt, List.drop_eq_getElem_cons hlt, List.all_cons]
    rw [show (i : Int) + 1 = ((i + 1 : Nat) : Int) by omega, ih k (i + 1) (by omega) (by omega)]
    simp only [inItem, Option.bind_some]
    unfold okItem
    generalize l[i] = x
    cases (decide (0 ≤ x.f0) && decide (x.f0 ≤ 200)) <;> cases (decide (0 ≤ x.f1) && decide (x.f1 ≤ 200)) <;> cases (decide (0 ≤ x.f2) && decide (x.f2 ≤ 200)) <;> simp
theorem suGood_eq (l : List Item) (hn : l.length ≤ 100000000000000) (k : Nat) (hk : l.length < k) : spec_suGood.f k l = impl_AreItems.f l := by
  unfold spec_suGood.f impl_AreItems.f
  simp only [inItem, Option.bind_some]
  have e1 : decide ((1 : Int) ≤ (l.length : Int)) = decide (1 ≤ l.length) := by simp; omega
  have e2 : decide ((l.length : Int) ≤ 10) = decide (l.length ≤ 10) := by simp; omega
  rw [e1, e2]
  have := suGood_l0 l hn l.length k 0 (by omega) hk
  simp only [List.drop_zero, Int.natCast_zero] at this
  cases (decide (1 ≤ l.length) && decide (l.length ≤ 10))
  · simp
  · simp [this]
end Go.Proofs.Ytkaihdpmjlhlaaa.Q

namespace Go.Proofs.Ytkaihdpmjlhlaaa.Q
open Go.RowKit Go.Proofs.YtkaihdpmjlhlaaaW.PrintWords Go.Proofs.YtkaihdpmjlhlaaaW.PrintLast Go.Proofs.YtkaihdpmjlhlaaaW.PrintMore
set_option linter.unusedVariables false
set_option linter.unusedSimpArgs false

theorem w64 {i : Int} (h0 : -1000000000000000 ≤ i) (h : i ≤ 1000000000000000) : wrap64 i = i := by
  unfold wrap64; omega
theorem rd_nat (xs : List Int) (i : Nat) (h : i < xs.length) : rd xs (i : Int) = xs[i] := by
  simp [rd, List.getD_eq_getElem?_getD, h]

theorem eqIntS_l0 (a : List Int) (hn : a.length ≤ 100000000000000) : ∀ d k i, i + d = a.length → d < k → laws_eqIntS.l0 k a a (i : Int) = some true := by
  intro d
  induction d with
  | zero =>
    intro k i hi hk
    obtain ⟨k, rfl⟩ : ∃ m, k = m + 1 := ⟨k - 1, by omega⟩
    simp only [laws_eqIntS.l0]; rw [if_neg (by omega)]
  | succ d ih =>
    intro k i hi hk
    obtain ⟨k, rfl⟩ : ∃ m, k = m + 1 := ⟨k - 1, by omega⟩
    simp only [laws_eqIntS.l0]; rw [if_pos (by omega), if_pos (by omega), if_pos (by omega), if_pos trivial, w64 (by omega) (by omega)]
    exact ih k (i + 1) (by omega) (by omega)
theorem eqIntS_self (a : List Int) (hn : a.length ≤ 100000000000000) (k : Nat) (hk : a.length < k) : laws_eqIntS.f k a a = some true := by
  unfold laws_eqIntS.f
  rw [if_pos rfl]
  exact eqIntS_l0 a hn a.length k 0 (by omega) hk

/-- What a marked list holds. -/
def marks (a : Int) (n : Nat) : List Int := (List.range n).map fun (j : Nat) => a + (j : Int)
theorem marks_length (a : Int) (n : Nat) : (marks a n).length = n := by simp [marks]
theorem marks_get (a : Int) (n : Nat) (i : Nat) (h : i < (marks a n).length) : (marks a n)[i] = a + (i : Int) := by simp [marks]

theorem markIntS_l0 (a : Int) (n : Nat) (h0 : 0 ≤ a) (hn : a + n ≤ 100000000000000) : ∀ d k i (x : List Int), i + d = n → d < k → x.length = n → (∀ j (hj : j < x.length), j < i → x[j] = a + (j : Int)) →
    laws_markIntS.l0 k x (a + (i : Int)) (i : Int) = some (a + (n : Int), marks a n) := by
  intro d
  induction d with
  | zero =>
    intro k i x hi hk hx hj
    obtain ⟨k, rfl⟩ : ∃ m, k = m + 1 := ⟨k - 1, by omega⟩
    simp only [laws_markIntS.l0]; rw [if_neg (by omega)]
    have : x = marks a n := by
      apply List.ext_getElem
      · rw [hx, marks_length]
      · intro j h1 h2
        rw [hj j h1 (by omega), marks_get]
    rw [this]
    have : i = n := by omega
    subst this; rfl
  | succ d ih =>
    intro k i x hi hk hx hj
    obtain ⟨k, rfl⟩ : ∃ m, k = m + 1 := ⟨k - 1, by omega⟩
    simp only [laws_markIntS.l0]; rw [if_pos (by omega), if_pos (by omega), w64 (i := a + (i : Int) + 1) (by omega) (by omega), w64 (i := (i : Int) + 1) (by omega) (by omega)]
    have := ih k (i + 1) (x.set (i : Int).toNat (a + (i : Int))) (by omega) (by omega) (by simp [hx]) (fun j hj1 hj2 => by
      simp only [Int.toNat_natCast]
      rw [List.getElem_set]
      split
      · rename_i e; rw [e]
      · rename_i e; exact hj j (by simpa using hj1) (by omega))
    rw [show a + ((i + 1 : Nat) : Int) = a + (i : Int) + 1 by omega, show ((i + 1 : Nat) : Int) = (i : Int) + 1 by omega] at this
    exact this
theorem markIntS_eq (x : List Int) (a : Int) (h0 : 0 ≤ a) (hn : a + x.length ≤ 100000000000000) (k : Nat) (hk : x.length < k) : laws_markIntS.f k x a = some (a + (x.length : Int), marks a x.length) := by
  unfold laws_markIntS.f
  have := markIntS_l0 a x.length h0 hn x.length k 0 x (by omega) hk rfl (fun j _ h => absurd h (by omega))
  simpa using this

theorem heldIntS_l0 (a : Int) (n : Nat) (h0 : 0 ≤ a) (hn : a + n ≤ 100000000000000) : ∀ d k i, i + d = n → d < k → laws_heldIntS.l0 k (marks a n) (a + (i : Int)) (i : Int) = some (a + (n : Int)) := by
  intro d
  induction d with
  | zero =>
    intro k i hi hk
    obtain ⟨k, rfl⟩ : ∃ m, k = m + 1 := ⟨k - 1, by omega⟩
    simp only [laws_heldIntS.l0]; rw [if_neg (by rw [marks_length]; omega)]
    have : i = n := by omega
    subst this; rfl
  | succ d ih =>
    intro k i hi hk
    obtain ⟨k, rfl⟩ : ∃ m, k = m + 1 := ⟨k - 1, by omega⟩
    simp only [laws_heldIntS.l0]
    rw [if_pos (by rw [marks_length]; omega), if_pos (by omega), if_pos (by rw [rd_nat _ i (by rw [marks_length]; omega), marks_get]), w64 (i := a + (i : Int) + 1) (by omega) (by omega), w64 (i := (i : Int) + 1) (by omega) (by omega)]
    have := ih k (i + 1) (by omega) (by omega)
    rw [show a + ((i + 1 : Nat) : Int) = a + (i : Int) + 1 by omega, show ((i + 1 : Nat) : Int) = (i : Int) + 1 by omega] at this
    exact this
theorem heldIntS_eq (n : Nat) (a : Int) (h0 : 0 ≤ a) (hn : a + n ≤ 100000000000000) (k : Nat) (hk : n < k) : laws_heldIntS.f k (marks a n) a = some (a + (n : Int)) := by
  unfold laws_heldIntS.f
  have := heldIntS_l0 a n h0 hn n k 0 (by omega) hk
  simpa using this
end Go.Proofs.Ytkaihdpmjlhlaaa.Q

namespace Go.Proofs.Ytkaihdpmjlhlaaa.Q
open Go.RowKit Go.Proofs.YtkaihdpmjlhlaaaW.PrintWords Go.Proofs.YtkaihdpmjlhlaaaW.PrintLast Go.Proofs.YtkaihdpmjlhlaaaW.PrintMore
set_option linter.unusedVariables false
set_option linter.unusedSimpArgs false

theorem Ev_from {α : Type} {g : Nat → Option α} {r : α} (N : Nat) (h : ∀ k, N < k → g k = some r) : Ev g r := ⟨N + 1, fun k hk => h k (by omega)⟩
theorem Ev_some {α : Type} (r : α) : Ev (fun _ => some r) r := Ev.now r
theorem eqIntS_ev (a : List Int) (h : a.length ≤ 10000000) : Ev (fun k => laws_eqIntS.f k a a) true := Ev_from a.length fun k hk => eqIntS_self a (by omega) k hk
theorem markIntS_ev (a : List Int) (h : a.length ≤ 10000000) (n : Int) (h0 : 0 ≤ n) (hn : n ≤ 10000000000) : Ev (fun k => laws_markIntS.f k a n) (n + (a.length : Int), marks n a.length) := Ev_from a.length fun k hk => markIntS_eq a n h0 (by omega) k hk
theorem heldIntS_ev (m : Nat) (h : m ≤ 10000000) (n : Int) (h0 : 0 ≤ n) (hn : n ≤ 10000000000) : Ev (fun k => laws_heldIntS.f k (marks n m) n) (n + (m : Int)) := Ev_from m fun k hk => heldIntS_eq m n h0 (by omega) k hk
/-- The two answers of one call. -/
theorem Ev_unique {α : Type} {g : Nat → Option α} {r s : α} (h : Ev g r) (h' : Ev g s) : r = s := by
  obtain ⟨K, h⟩ := h
  obtain ⟨K', h'⟩ := h'
  have a := h (max K K') (by omega)
  have b := h' (max K K') (by omega)
  rw [a] at b
  injection b
end Go.Proofs.Ytkaihdpmjlhlaaa.Q

namespace Go.Proofs.Ytkaihdpmjlhlaaa.Q
open Go.RowKit Go.Proofs.YtkaihdpmjlhlaaaW.PrintWords Go.Proofs.YtkaihdpmjlhlaaaW.PrintLast Go.Proofs.YtkaihdpmjlhlaaaW.PrintMore
set_option linter.unusedVariables false
set_option linter.unusedSimpArgs false

/-- One item more. -/
def addTo (items : List Item) (s : Int × Int × Int) (i : Int) : Int × Int × Int :=
  (wrap64 (s.1 + (rd_T49 items i).f0), wrap64 (s.2.1 + (rd_T49 items i).f1), wrap64 (s.2.2 + (rd_T49 items i).f2))
def Inside (items : List Item) (ch : List Int) : Prop := ∀ i ∈ ch, 0 ≤ i ∧ i < (items.length : Int)
/-- Weight, bulk and value together. -/
def tot (items : List Item) (ch : List Int) : Int × Int × Int := ch.foldl (addTo items) (0, 0, 0)

theorem totals_l0 (items : List Item) (ch : List Int) (hw : Inside items ch) (hn : ch.length ≤ 100000000000000) : ∀ d k i (s : Int × Int × Int), i + d = ch.length → d < k →
    impl_totals.l0 k items ch (ch.length : Int) (i : Int) s.1 s.2.1 s.2.2 = some ((ch.drop i).foldl (addTo items) s) := by
  intro d
  induction d with
  | zero =>
    intro k i s hi hk
    obtain ⟨k, rfl⟩ : ∃ m, k = m + 1 := ⟨k - 1, by omega⟩
    simp only [impl_totals.l0]; rw [if_neg (by omega), List.drop_of_length_le (by omega)]; rfl
  | succ d ih =>
    intro k i s hi hk
    obtain ⟨k, rfl⟩ : ∃ m, k = m + 1 := ⟨k - 1, by omega⟩
    have hlt : i < ch.length := by omega
    have hin := hw ch[i] (List.getElem_mem hlt)
    simp only [impl_totals.l0]
    rw [if_pos (by omega), if_pos (by omega), if_pos (by omega), rd_nat ch i hlt, if_pos hin.1, if_pos hin.2, w64 (i := (i : Int) + 1) (by omega) (by omega), List.drop_eq_getElem_cons hlt, List.foldl_cons]
    have := ih k (i + 1) (addTo items s ch[i]) (by omega) (by omega)
    rw [show ((i + 1 : Nat) : Int) = (i : Int) + 1 by omega] at this
    exact this
theorem totals_eq (items : List Item) (ch : List Int) (hw : Inside items ch) (hn : ch.length ≤ 100000000000000) (k : Nat) (hk : ch.length < k) : impl_totals.f k items ch = some (tot items ch) := by
  unfold impl_totals.f
  exact totals_l0 items ch hw hn ch.length k 0 (0, 0, 0) (by omega) hk
theorem suTotals_l0 (items : List Item) (ch : List Int) (hw : Inside items ch) (hn : ch.length ≤ 100000000000000) : ∀ d k i (s : Int × Int × Int), i + d = ch.length → d < k →
    spec_suTotals.l0 k items s.1 s.2.1 s.2.2 ch (ch.length : Int) (i : Int) = some ((ch.drop i).foldl (addTo items) s) := by
  intro d
  induction d with
  | zero =>
    intro k i s hi hk
    obtain ⟨k, rfl⟩ : ∃ m, k = m + 1 := ⟨k - 1, by omega⟩
    simp only [spec_suTotals.l0]; rw [if_neg (by omega), List.drop_of_length_le (by omega)]; rfl
  | succ d ih =>
    intro k i s hi hk
    obtain ⟨k, rfl⟩ : ∃ m, k = m + 1 := ⟨k - 1, by omega⟩
    have hlt : i < ch.length := by omega
    have hin := hw ch[i] (List.getElem_mem hlt)
    simp only [spec_suTotals.l0]
    rw [if_pos (by omega), if_pos (by omega), if_pos (by omega), rd_nat ch i hlt, if_pos hin.1, if_pos hin.2, w64 (i := (i : Int) + 1) (by omega) (by omega), List.drop_eq_getElem_cons hlt, List.foldl_cons]
    have := ih k (i + 1) (addTo items s ch[i]) (by omega) (by omega)
    rw [show ((i + 1 : Nat) : Int) = (i : Int) + 1 by omega] at this
    exact this
theorem suTotals_eq (items : List Item) (ch : List Int) (hw : Inside items ch) (hn : ch.length ≤ 100000000000000) (k : Nat) (hk : ch.length < k) : spec_suTotals.f k items ch = some (tot items ch) := by
  unfold spec_suTotals.f
  exact suTotals_l0 items ch hw hn ch.length k 0 (0, 0, 0) (by omega) hk

/-- A list of items, strictly increasing. -/
def IsChosen (items : List Item) (ch : List Int) : Prop := (∀ j (h : j < ch.length), 1 ≤ j → ch[j - 1] < ch[j]) ∧ Inside items ch

theorem areChosen_l0 (items : List Item) (ch : List Int) (hm : items.length ≤ 100000000000000) (hn : ch.length ≤ 100000000000000) : ∀ d k i, ch.length - i = d → 1 ≤ i → d < k → (∀ j (h : j < ch.length), 1 ≤ j → j < i → ch[j - 1] < ch[j]) →
    ∃ b, impl_areChosen.l0 k items ch (i : Int) = some b ∧ (b = true ↔ IsChosen items ch) := by
  intro d
  induction d with
  | zero =>
    intro k i hi h1 hk hinv
    obtain ⟨k, rfl⟩ : ∃ m, k = m + 1 := ⟨k - 1, by omega⟩
    simp only [impl_areChosen.l0]; rw [if_neg (by omega), w64 (by omega) (by omega)]
    unfold impl_areWithin.f
    refine ⟨_, rfl, ?_⟩
    rw [List.all_eq_true]
    refine ⟨fun h => ⟨fun j hj hj1 => hinv j hj hj1 (by omega), fun x hx => ?_⟩, fun h x hx => ?_⟩
    · have := h x hx
      simp only [Bool.and_eq_true, decide_eq_true_eq] at this
      omega
    · have := h.2 x hx
      simp only [Bool.and_eq_true, decide_eq_true_eq]
      omega
  | succ d ih =>
    intro k i hi h1 hk hinv
    obtain ⟨k, rfl⟩ : ∃ m, k = m + 1 := ⟨k - 1, by omega⟩
    have hlt : i < ch.length := by omega
    simp only [impl_areChosen.l0]
    rw [if_pos (by omega), if_pos (by omega), w64 (i := (i : Int) - 1) (by omega) (by omega), if_pos (by omega), if_pos (by omega), rd_nat ch i hlt, show (i : Int) - 1 = ((i - 1 : Nat) : Int) by omega, rd_nat ch (i - 1) (by omega), w64 (i := (i : Int) + 1) (by omega) (by omega)]
    by_cases h : ch[i] ≤ ch[i - 1]
    · rw [if_pos h]
      refine ⟨false, rfl, ⟨fun h => Bool.noConfusion h, fun hc => ?_⟩⟩
      have := hc.1 i hlt h1
      omega
    · rw [if_neg h, show (i : Int) + 1 = ((i + 1 : Nat) : Int) by omega]
      exact ih k (i + 1) (by omega) (by omega) (by omega) (fun j hj hj1 hj2 => by
        by_cases e : j = i
        · subst e; omega
        · exact hinv j hj hj1 (by omega))
theorem areChosen_eq (items : List Item) (ch : List Int) (hm : items.length ≤ 100000000000000) (hn : ch.length ≤ 100000000000000) (k : Nat) (hk : ch.length < k) : ∃ b, impl_areChosen.f k items ch = some b ∧ (b = true ↔ IsChosen items ch) := by
  unfold impl_areChosen.f
  exact areChosen_l0 items ch hm hn (ch.length - 1) k 1 rfl (by omega) (by omega) (fun j _ h1 h2 => absurd h1 (by omega))

theorem l1Rising_l0 (items : List Item) (ch : List Int) (hm : items.length ≤ 100000000000000) (hn : ch.length ≤ 100000000000000) : ∀ d k i, i + d = ch.length → d < k → (∀ j (h : j < ch.length), 1 ≤ j → j < i → ch[j - 1] < ch[j]) → (∀ j (h : j < ch.length), j < i → 0 ≤ ch[j] ∧ ch[j] < (items.length : Int)) →
    ∃ b, spec_l1Rising.l0 k ch 0 ((items.length : Int) - 1) ch (ch.length : Int) (i : Int) = some b ∧ (b = true ↔ IsChosen items ch) := by
  intro d
  induction d with
  | zero =>
    intro k i hi hk hinv hin
    obtain ⟨k, rfl⟩ : ∃ m, k = m + 1 := ⟨k - 1, by omega⟩
    simp only [spec_l1Rising.l0]; rw [if_neg (by omega)]
    refine ⟨true, rfl, ⟨fun _ => ⟨fun j hj hj1 => hinv j hj hj1 (by omega), fun x hx => ?_⟩, fun _ => rfl⟩⟩
    obtain ⟨j, hj, rfl⟩ := List.mem_iff_getElem.1 hx
    exact hin j hj (by omega)
  | succ d ih =>
    intro k i hi hk hinv hin
    obtain ⟨k, rfl⟩ : ∃ m, k = m + 1 := ⟨k - 1, by omega⟩
    have hlt : i < ch.length := by omega
    simp only [spec_l1Rising.l0, inItem, Option.bind_some]
    rw [if_pos (by omega), if_pos (by omega), if_pos (by omega), rd_nat ch i hlt]
    by_cases hb : 0 ≤ ch[i] ∧ ch[i] < (items.length : Int)
    · rw [if_pos (by simp only [Bool.and_eq_true, decide_eq_true_eq]; omega), w64 (i := (i : Int) + 1) (by omega) (by omega)]
      have hin' : ∀ j (h : j < ch.length), j < i + 1 → 0 ≤ ch[j] ∧ ch[j] < (items.length : Int) := fun j hj hj2 => by
        by_cases e : j = i
        · subst e; exact hb
        · exact hin j hj (by omega)
      by_cases h0 : i = 0
      · subst h0
        rw [if_neg (by omega)]
        exact ih k 1 (by omega) (by omega) (fun j _ h1 h2 => absurd h1 (by omega)) hin'
      · rw [if_pos (by omega), w64 (i := (i : Int) - 1) (by omega) (by omega), if_pos (by omega), if_pos (by omega), show (i : Int) - 1 = ((i - 1 : Nat) : Int) by omega, rd_nat ch (i - 1) (by omega)]
        by_cases h : ch[i] ≤ ch[i - 1]
        · rw [if_pos h]
          refine ⟨false, rfl, ⟨fun h => Bool.noConfusion h, fun hc => ?_⟩⟩
          have := hc.1 i hlt (by omega)
          omega
        · rw [if_neg (by omega), show (i : Int) + 1 = ((i + 1 : Nat) : Int) by omega]
          exact ih k (i + 1) (by omega) (by omega) (fun j hj hj1 hj2 => by
            by_cases e : j = i
            · subst e; omega
            · exact hinv j hj hj1 (by omega)) hin'
    · rw [if_neg (by simp only [Bool.and_eq_true, decide_eq_true_eq]; omega)]
      exact ⟨false, rfl, ⟨fun h => Bool.noConfusion h, fun hc => absurd (hc.2 _ (List.getElem_mem hlt)) hb⟩⟩
theorem suList_eq (items : List Item) (ch : List Int) (hm : items.length ≤ 100000000000000) (hn : ch.length ≤ 100000000000000) (k : Nat) (hk : ch.length < k) : ∃ b, spec_suList.f k items ch = some b ∧ (b = true ↔ IsChosen items ch) := by
  unfold spec_suList.f spec_l1Rising.f
  by_cases h : ch.length = 0
  · rw [if_pos (by omega)]
    refine ⟨true, rfl, ⟨fun _ => ⟨fun j hj => absurd hj (by omega), fun x hx => ?_⟩, fun _ => rfl⟩⟩
    rw [List.eq_nil_of_length_eq_zero h] at hx
    cases hx
  · rw [if_neg (by omega), w64 (by omega) (by omega)]
    obtain ⟨b, hb, hi⟩ := l1Rising_l0 items ch hm hn ch.length k 0 (by omega) hk (fun j _ h1 h2 => absurd h1 (by omega)) (fun j _ h => absurd h (by omega))
    exact ⟨b, by simp only [Int.natCast_zero] at hb; rw [hb]; rfl, hi⟩
/-- Both tell the same. -/
theorem chosen_both (items : List Item) (ch : List Int) (hm : items.length ≤ 100000000000000) (hn : ch.length ≤ 100000000000000) : ∃ b, (∀ k, ch.length < k → impl_areChosen.f k items ch = some b) ∧ (∀ k, ch.length < k → spec_suList.f k items ch = some b) ∧ (b = true ↔ IsChosen items ch) := by
  obtain ⟨b, h1, hb⟩ := areChosen_eq items ch hm hn (ch.length + 1) (by omega)
  refine ⟨b, fun k hk => ?_, fun k hk => ?_, hb⟩
  · obtain ⟨b', h2, hb'⟩ := areChosen_eq items ch hm hn k hk
    rw [h2, Bool.eq_iff_iff.2 (hb'.trans hb.symm)]
  · obtain ⟨b', h2, hb'⟩ := suList_eq items ch hm hn k hk
    rw [h2, Bool.eq_iff_iff.2 (hb'.trans hb.symm)]
end Go.Proofs.Ytkaihdpmjlhlaaa.Q

namespace Go.Proofs.Ytkaihdpmjlhlaaa.Q
open Go.RowKit Go.Proofs.YtkaihdpmjlhlaaaW.PrintWords Go.Proofs.YtkaihdpmjlhlaaaW.PrintLast Go.Proofs.YtkaihdpmjlhlaaaW.PrintMore
attribute [local go_sem] max2_int min2_int max_two min_two max_three min_three max_four min_four   -- for this text's walks alone
set_option linter.unusedVariables false
set_option linter.unusedSimpArgs false

/-! ### impl_upTo: function 62 -/
def impl_upTo.l0 : Nat → List Int → Int → Int → Option (List Int)
  | 0, _, _, _ => none
  | k + 1, x3, x6, x7 => if x7 < x6 then (if x3.length < 17592186044416 then (impl_upTo.l0 k (x3 ++ [x7]) x6 (wrap64 (x7 + 1))) else (none)) else (some x3)
def impl_upTo.f (k : Nat) (a0 : Int) : Option (List Int) := impl_upTo.l0 k (([] : List Int)) a0 0
theorem impl_upTo.mono_l : ∀ k, (∀ y0 y1 y2, LeO (impl_upTo.l0 k y0 y1 y2) (impl_upTo.l0 (k + 1) y0 y1 y2))
  | 0 => fun _ _ _ r h => by simp [impl_upTo.l0] at h
  | k + 1 => by
    have ih0 := impl_upTo.mono_l k
    · intro y0 y1 y2
      unfold impl_upTo.l0
      repeat' first
      | (with_reducible exact ih0 _ _ _)
      | (with_reducible exact LeO.refl _)
      | (with_reducible exact LeO.none _)
      | (with_reducible refine LeO.ite ?_ ?_)
      | (with_reducible refine LeO.bind ?_ (fun _ => ?_))
      | exact ih0 _ _ _
      | exact LeO.none _
      | refine LeO.ite ?_ ?_
      | refine LeO.bind ?_ (fun _ => ?_)
theorem impl_upTo.mono : ∀ a0 k, LeO (impl_upTo.f k a0) (impl_upTo.f (k + 1) a0) := by
  intro a0 k
  have ih0 := impl_upTo.mono_l k
  unfold impl_upTo.f
  repeat' first
      | (with_reducible exact ih0 _ _ _)
      | (with_reducible exact LeO.refl _)
      | (with_reducible exact LeO.none _)
      | (with_reducible refine LeO.ite ?_ ?_)
      | (with_reducible refine LeO.bind ?_ (fun _ => ?_))
      | exact ih0 _ _ _
      | exact LeO.none _
      | refine LeO.ite ?_ ?_
      | refine LeO.bind ?_ (fun _ => ?_)
set_option maxHeartbeats 8000000 in
set_option maxRecDepth 100000 in
theorem impl_upTo.calls (k : Nat) (a0 : Int) (r : List Int) (w : World) (h : impl_upTo.f k a0 = some r) :
    Calls Try.prog 62 #[.int .i64 a0] w fun e w' => ∃ v0_ : Value, e = .returned (v0_) ∧ Kd.R (Kd.int .i64) 3 w' w.heap.size (fun _ => True) v0_ r ∧ Below w.heap.size w w' := by
  have HB := Aside0.mk (Below.refl w.heap.size w)
  have H : (impl_upTo.l0 k (([] : List Int)) a0 0) = some r := h
  clear h
  obtain ⟨y511, hy511⟩ : ∃ y_ : List Int, y_ = (([] : List Int)) := ⟨_, rfl⟩
  replace H : (impl_upTo.l0 k y511 a0 0) = some r := by first | (rw [hy511]; with_reducible exact H) | (have H2_ := (Option.bind_some _ _).symm.trans H; rw [hy511]; with_reducible exact H2_) | (have H2_ := (Option.bind_some _ _).symm.trans H; with_reducible exact H2_) | with_reducible exact H | (rw [hy511]; exact H) | exact H
  have Ny511 := Aside0.mk hy511
  clear hy511
  have H' := Aside0.mk H
  clear H
  go_enter Try.func62, Try.ntmps62
  go_wp2_with (first | ((with_reducible refine gate_dst (N := 5) rfl ?_); refine Kd.R_lit (Kd.int .i64) _ 3 ?hg (N := 5) ?hd (xs := ([] : List Int)) (inner := []) (ok := fun _ => True) (okp := fun _ => True) ?hr ?hp (fun _ hk => hk) trivial (Below.refl _ _) (Nat.le_refl _) (by simp) ?_; (case hd => rfl); (case hg => rfl); (case hr => first | (go_simp; done) | (go_simp; rfl)); (case hp => exact (Reps.none _ _)); intro v512 w2 ho3 hb hg_ hnew_; clear hg_ hnew_; (first | rw [← Ny511.out] at ho3 | (simp only [Int.reduceToNat] at ho3; rw [← Ny511.out] at ho3)); have n0_ := Aside0.mk (Kd.R_lower ho3 (below_size (by repeat (first | (with_reducible first | exact HB.out | apply below_alloc | apply pw_below_drewN | apply below_drew1) | exact HB.out)))); have n1_ := Aside0.mk (below_step (by repeat (first | (with_reducible first | exact HB.out | apply below_alloc | apply pw_below_drewN | apply below_drew1) | exact HB.out)) hb); clear HB; have HO513 := n0_; have HB := n1_; clear n0_ n1_; clear hb ho3))
  go_loopg [3, 7] k (fun kq v3 v7 w' => ∃ (x3_1 : List Int) (x7_1 : Int), v7 = .int .i64 x7_1 ∧ Aside0 (impl_upTo.l0 kq x3_1 a0 x7_1 = some r) ∧ Aside0 (kq ≤ k) ∧ Aside0 (Kd.R (Kd.int .i64) 3 w' w.heap.size (fun _ => True) v3 x3_1) ∧ Aside0 (Below w.heap.size w w'))
  case atStart => exact ⟨(y511), (0), (by first | rfl | (simp; done) | (simp [*]; done)), H', ⟨Nat.le_refl _⟩, ⟨by (with_reducible repeat (first | apply Kd.R_alloc | apply Kd.R_drewN | apply Kd.R_drew)); exact HO513.out⟩, ⟨by repeat (first | (with_reducible first | exact HB.out | apply below_alloc | apply pw_below_drewN | apply below_drew1) | exact HB.out)⟩⟩
  case round =>
    clear H'
    try clear p2
    obtain ⟨x3_1, x7_1, rfl, HA, HK1, HO_3, HB⟩ := hrel
    cases gk with
    | zero => exact absurd HA.out (by simp [impl_upTo.l0])
    | succ k1 =>
      have H := HA.out
      clear HA
      simp only [impl_upTo.l0] at H
      by_cases c4 : x7_1 < a0
      · rw [if_pos c4] at H
        have c4b0 : decide (x7_1 < a0) = true := decide_eq_true c4
        clear c4
        by_cases c5 : x3_1.length < 17592186044416
        · rw [if_pos c5] at H
          have LMc5 := Aside0.mk c5
          clear c5
          obtain ⟨y514, hy514⟩ : ∃ y_ : List Int, y_ = (x3_1 ++ [x7_1]) := ⟨_, rfl⟩
          replace H : (impl_upTo.l0 k1 y514 a0 (wrap64 (x7_1 + 1))) = some r := by first | (rw [hy514]; with_reducible exact H) | (have H2_ := (Option.bind_some _ _).symm.trans H; rw [hy514]; with_reducible exact H2_) | (have H2_ := (Option.bind_some _ _).symm.trans H; with_reducible exact H2_) | with_reducible exact H | (rw [hy514]; exact H) | exact H
          have Ny514 := Aside0.mk hy514
          clear hy514
          have H' := Aside0.mk H
          clear H
          go_wp2_with (first | ((with_reducible refine gate_builtin (b := .append) (xs := #[.tmp 10, .tmp 12]) rfl ?_); at_builtin; refine Kd.R_append (Kd.int .i64) (w0 := w) w.heap.size rfl (.tmp 10) (.tmp 12) 34 3 (.int .i64 0) 8 rfl Try.underlying34 info3 rfl (by decide) (by omega) u3 x3_1 x7_1 [.int .i64 x7_1] (fun _ => True) (fun _ => False) rfl rfl ?aP (fun _ hk => hk.elim) ?aF ?aO ?aB ?aS ?aL ?_; (case aP => exact rfl); (case aB => exact (by repeat (first | (with_reducible first | exact HB.out | apply below_alloc | apply pw_below_drewN | apply below_drew1) | exact HB.out))); (case aF => exact (fun _ _ => trivial)); (case aO => exact (by (with_reducible repeat (first | apply Kd.R_alloc | apply Kd.R_drewN | apply Kd.R_drew)); exact HO_3.out)); (case aS => exact (below_size (by repeat (first | (with_reducible first | exact HB.out | apply below_alloc | apply pw_below_drewN | apply below_drew1) | exact HB.out)))); (case aL => have := LMc5.out; omega); intro v515 w6 ho hb hg hat; rw [← Ny514.out] at ho; have n0_ := Aside0.mk (hb); have n1_ := Aside0.mk (ho); clear HB; clear HO_3; have HB := n0_; have HO516 := n1_; clear n0_ n1_; clear ho hb hg hat))
          go_roundg k1
          case measure => have := HK1.out; omega
          case rel => exact ⟨(y514), (wrap64 (x7_1 + 1)), (by first | rfl | (simp; done) | (simp [*]; done)), H', ⟨by have := HK1.out; omega⟩, ⟨by (with_reducible repeat (first | apply Kd.R_alloc | apply Kd.R_drewN | apply Kd.R_drew)); exact HO516.out⟩, ⟨by repeat (first | (with_reducible first | exact HB.out | apply below_alloc | apply pw_below_drewN | apply below_drew1) | exact HB.out)⟩⟩
        · rw [if_neg c5] at H
          exact absurd H (by simp)
      · rw [if_neg c4] at H
        have c4b0 : decide (x7_1 < a0) = false := decide_eq_false c4
        clear c4
        obtain rfl := Option.some.inj H
        go_wp2
        go_ret
        exact ⟨_, by first | rfl | (simp [errW_none, errW_some] <;> rfl) | (simp [*, errW_none, errW_some] <;> rfl), by (with_reducible repeat (first | apply Kd.R_alloc | apply Kd.R_drewN | apply Kd.R_drew)); exact HO_3.out, by repeat (first | (with_reducible first | exact HB.out | apply below_alloc | apply pw_below_drewN | apply below_drew1) | exact HB.out)⟩

end Go.Proofs.Ytkaihdpmjlhlaaa.Q

namespace Go.Proofs.Ytkaihdpmjlhlaaa.Q
open Go.RowKit Go.Proofs.YtkaihdpmjlhlaaaW.PrintWords Go.Proofs.YtkaihdpmjlhlaaaW.PrintLast Go.Proofs.YtkaihdpmjlhlaaaW.PrintMore
attribute [local go_sem] max2_int min2_int max_two min_two max_three min_three max_four min_four   -- for this text's walks alone
set_option linter.unusedVariables false
set_option linter.unusedSimpArgs false

/-! ### impl_bit: function 71 -/
def impl_bit.f (a0 : Bool) : Option (Int) := if a0 = true then (some 1) else (some 0)
set_option maxHeartbeats 8000000 in
set_option maxRecDepth 100000 in
theorem impl_bit.calls (a0 : Bool) (r : Int) (w : World) (h : impl_bit.f a0 = some r) :
    Calls Try.prog 71 #[.bool a0] w fun e w' => e = .returned (.int .i64 r) ∧ Drawn0 w w' := by
  have H : (if a0 = true then (some 1) else (some 0)) = some r := h
  clear h
  by_cases c2 : a0 = true
  · subst c2
    have H1 : (some 1) = some r := by rw [if_pos rfl] at H; exact H
    clear H
    have H := H1
    clear H1
    obtain rfl := Option.some.inj H
    go_enter Try.func71, Try.ntmps71
    go_wp2
    go_ret
    exact ⟨by first | rfl | (simp; done) | (simp [*]; done), by repeat (first | exact Drawn0.refl _ | apply Drawn0.step)⟩
  · replace c2 := Bool.eq_false_iff.mpr c2
    subst c2
    have H1 : (some 0) = some r := by rw [if_neg (show ¬ (false = true) by decide)] at H; exact H
    clear H
    have H := H1
    clear H1
    obtain rfl := Option.some.inj H
    go_enter Try.func71, Try.ntmps71
    go_wp2
    go_ret
    exact ⟨by first | rfl | (simp; done) | (simp [*]; done), by repeat (first | exact Drawn0.refl _ | apply Drawn0.step)⟩

end Go.Proofs.Ytkaihdpmjlhlaaa.Q

namespace Go.Proofs.Ytkaihdpmjlhlaaa.Q
open Go.RowKit Go.Shelf Go.Sort Go.Proofs.YtkaihdpmjlhlaaaW.PrintWords Go.Proofs.YtkaihdpmjlhlaaaW.PrintLast Go.Proofs.YtkaihdpmjlhlaaaW.PrintMore
set_option linter.unusedVariables false
set_option linter.unusedSimpArgs false

theorem grown2 (W : World) (a b : Obj) : (W.alloc a).alloc b = Sort.grow W #[a, b] := by rw [Sort.alloc_eq_grow, Sort.alloc_eq_grow, Sort.grow_grow]; rfl
theorem grown2q (W : World) (a b : Obj) (q : Nat) : ((W.alloc a).alloc b).drewN q = Sort.grow (W.drewN q) #[a, b] := by rw [grown2]; rfl
/-- A comparison of two items. -/
def CmpItem (g : Nat) (cf : Item → Item → Int) : Prop := ∀ (x y : Item) (W : World), Calls Try.prog g #[valItem x, valItem y] W fun e w' => e = .returned (.int .i64 (cf x y)) ∧ ∃ q os, w' = Sort.grow (W.drewN q) os
def cmpValue (x y : Item) : Int := wrap64 (y.f2 - x.f2)
set_option maxHeartbeats 2000000 in
theorem cmpValue_ok : CmpItem 69 cmpValue := fun x y W => by
  obtain ⟨x0, x1, x2⟩ := x
  obtain ⟨y0, y1, y2⟩ := y
  show Calls Try.prog 69 #[.agg #[.int .i64 x0, .int .i64 x1, .int .i64 x2], .agg #[.int .i64 y0, .int .i64 y1, .int .i64 y2]] W _
  unfold cmpValue
  go_enter Try.func69, Try.ntmps69
  go_wp2
  go_ret
  exact ⟨rfl, 0, _, grown2 W _ _⟩
def bitZ (b : Bool) : Int := if b = true then 1 else 0
def cmpRatio (x y : Item) : Int :=
  if wrap64 (x.f0 + x.f1) = 0 ∨ wrap64 (y.f0 + y.f1) = 0 then wrap64 (bitZ (decide (0 < wrap64 (x.f0 + x.f1))) - bitZ (decide (0 < wrap64 (y.f0 + y.f1)))) else wrap64 (wrap64 (y.f2 * wrap64 (x.f0 + x.f1)) - wrap64 (x.f2 * wrap64 (y.f0 + y.f1)))
theorem bit_z (b : Bool) : impl_bit.f b = some (bitZ b) := by unfold impl_bit.f bitZ; cases b <;> rfl
set_option maxRecDepth 100000 in
set_option maxHeartbeats 2000000 in
theorem cmpRatio_ok : CmpItem 70 cmpRatio := fun x y W => by
  obtain ⟨x0, x1, x2⟩ := x
  obtain ⟨y0, y1, y2⟩ := y
  show Calls Try.prog 70 #[.agg #[.int .i64 x0, .int .i64 x1, .int .i64 x2], .agg #[.int .i64 y0, .int .i64 y1, .int .i64 y2]] W _
  obtain ⟨res, hres⟩ : ∃ res, cmpRatio ⟨x0, x1, x2⟩ ⟨y0, y1, y2⟩ = res := ⟨_, rfl⟩
  rw [hres]
  unfold cmpRatio at hres
  simp only at hres
  have HRES := Aside0.mk hres
  clear hres
  have hb := fun (b : Bool) (W : World) => impl_bit.calls b (bitZ b) W (bit_z b)
  go_enter Try.func70, Try.ntmps70
  go_wp2_with fail
  go_quiet (fail)
  obtain ⟨one, h1⟩ : ∃ one, wrap64 (x0 + x1) = one := ⟨_, rfl⟩
  obtain ⟨two, h2⟩ : ∃ two, wrap64 (y0 + y1) = two := ⟨_, rfl⟩
  rw [h1, h2]
  have H1 := Aside0.mk h1
  have H2 := Aside0.mk h2
  clear h1 h2
  generalize hW : (((W.alloc (.cells #[.int .i64 x0, .int .i64 x1, .int .i64 x2] 49)).alloc (.cells #[.int .i64 y0, .int .i64 y1, .int .i64 y2] 49)).drewN nq) = W2
  have hend : ∃ q os, W2 = Sort.grow (W.drewN q) os := ⟨nq, _, by rw [← hW, grown2q]⟩
  have k0 : W2.cell? ⟨W.heap.size, 2, none⟩ = some (.int .i64 x2) := by
    rw [← hW]
    have h1 := heap_alloc_new W (.cells #[.int .i64 x0, .int .i64 x1, .int .i64 x2] 49)
    have h2 := (Below.heap_alloc (W.alloc (.cells #[.int .i64 x0, .int .i64 x1, .int .i64 x2] 49)) (.cells #[.int .i64 y0, .int .i64 y1, .int .i64 y2] 49) W.heap.size (by simp)).trans h1
    exact (blk_cell (blk_below h2 (pw_below_drewN (Below.refl _ _) nq)) 2).trans rfl
  have k1 : W2.cell? ⟨W.heap.size + 1, 2, none⟩ = some (.int .i64 y2) := by
    rw [← hW]
    have h2 := heap_alloc_new (W.alloc (.cells #[.int .i64 x0, .int .i64 x1, .int .i64 x2] 49)) (.cells #[.int .i64 y0, .int .i64 y1, .int .i64 y2] 49)
    rw [show (W.alloc (.cells #[.int .i64 x0, .int .i64 x1, .int .i64 x2] 49)).heap.size = W.heap.size + 1 by simp] at h2
    exact (blk_cell (blk_below h2 (pw_below_drewN (Below.refl _ _) nq)) 2).trans rfl
  have HE := Aside0.mk hend
  clear hW hend
  have hmore : ∀ a, ∃ q os, W2.drewN a = Sort.grow (W.drewN q) os := fun a => by
    obtain ⟨q, os, he⟩ := HE.out
    exact ⟨q + a, os, by rw [he]; unfold Sort.grow World.drewN; simp [Nat.add_assoc]⟩
  have HM := Aside0.mk hmore
  clear hmore
  have HB1 := Aside0.mk (hb (decide (0 < one)))
  have HB2 := Aside0.mk (hb (decide (0 < two)))
  clear hb
  by_cases c1 : one = 0
  · have C1 := Aside0.mk c1
    have c1z : (one == 0) = true := by simpa using c1
    clear c1
    go_wp2_with (first
      | (go_at_call 71; refine (HB1.out _).mono ?_; rintro e w3 ⟨rfl, n3, rfl⟩)
      | (go_at_call 71; refine (HB2.out _).mono ?_; rintro e w4 ⟨rfl, n4, rfl⟩))
    go_ret
    refine ⟨ret_int ?_, by first | exact HM.out _ | exact HE.out⟩
    rw [← HRES.out, H1.out, H2.out, if_pos (Or.inl C1.out)]
  · have C1 := Aside0.mk c1
    have c1z : (one == 0) = false := by simpa using c1
    clear c1
    by_cases c2 : two = 0
    · have C2 := Aside0.mk c2
      have c2z : (two == 0) = true := by simpa using c2
      clear c2
      go_wp2_with (first
        | (go_at_call 71; refine (HB1.out _).mono ?_; rintro e w3 ⟨rfl, n3, rfl⟩)
        | (go_at_call 71; refine (HB2.out _).mono ?_; rintro e w4 ⟨rfl, n4, rfl⟩))
      go_ret
      refine ⟨ret_int ?_, by first | exact HM.out _ | exact HE.out⟩
      rw [← HRES.out, H1.out, H2.out, if_pos (Or.inr C2.out)]
    · have C2 := Aside0.mk c2
      have c2z : (two == 0) = false := by simpa using c2
      clear c2
      go_wp2
      go_ret
      refine ⟨ret_int ?_, HE.out⟩
      rw [← HRES.out, H1.out, H2.out, if_neg (fun h => h.elim C1.out C2.out)]

set_option maxRecDepth 100000 in
set_option maxHeartbeats 4000000 in
/-- The comparison of two places. -/
theorem pack1_calls (gi : Nat) (cf : Item → Item → Int) (eg : ∀ args w, (callFunc gi args).run Try.prog w = .ok (.enter gi args) w) (hcf : CmpItem gi cf) (Bf Bi : Nat) (A : Option Addr) (c : Nat) (items : List Item) (x y : Int) (W : World)
    (hf : W.cell? ⟨Bf, 0, none⟩ = some (.func (.func gi) #[] #[])) (hi : W.cell? ⟨Bi, 0, none⟩ = some (.slice A items.length c)) (hC : Kd.C k49 W A items.length items) (hx : 0 ≤ x ∧ x < (items.length : Int)) (hy : 0 ≤ y ∧ y < (items.length : Int)) :
    Calls Try.prog 87 #[.int .i64 x, .int .i64 y, .pointer (some ⟨Bf, 0, none⟩), .pointer (some ⟨Bi, 0, none⟩)] W fun e w' => e = .returned (.int .i64 (cf (rd_T49 items x) (rd_T49 items y))) ∧ ∃ q os, w' = Sort.grow (W.drewN q) os := by
  obtain ⟨ad, e, x0, x1, x2⟩ := at_T49 hC x hx.1 hx.2
  subst e
  obtain ⟨ad', e', y0, y1, y2⟩ := at_T49 hC y hy.1 hy.2
  obtain rfl : ad = ad' := by injection e'
  generalize hX : rd_T49 items x = X at x0 x1 x2 ⊢
  generalize hY : rd_T49 items y = Y at y0 y1 y2 ⊢
  have hcall := hcf X Y
  have HCALL := Aside0.mk hcall
  clear hX hY hcall hC
  obtain ⟨a0, a1, a2⟩ := X
  obtain ⟨b0, b1, b2⟩ := Y
  simp only at x0 x1 x2 y0 y1 y2
  unfold valItem at HCALL
  obtain ⟨res, hres⟩ : ∃ res, cf ⟨a0, a1, a2⟩ ⟨b0, b1, b2⟩ = res := ⟨_, rfl⟩
  rw [hres] at HCALL ⊢
  clear hres
  obtain ⟨hx0, hx1⟩ := hx
  obtain ⟨hy0, hy1⟩ := hy
  go_enter Try.func87, Try.ntmps87
  go_wp2_with fail
  go_still_tail 9, (by kernel_rfl)
  change wpList _ _ _ _ _ W.drew
  have hd : ∃ q, W.drew = W.drewN q := ⟨1, rfl⟩
  generalize W.drew = W1 at hd ⊢
  obtain ⟨q1, hd⟩ := hd
  have HD := Aside0.mk hd
  clear hd
  go_wp2_with (go_at_fn gi; refine (HCALL.out W1).mono ?_; rintro e w2 ⟨rfl, hq⟩; have HQ := Aside0.mk hq; clear hq)
  go_ret
  refine ⟨rfl, ?_⟩
  obtain ⟨q, os, hw⟩ := HQ.out
  exact ⟨q1 + q, os, by rw [hw, HD.out]; unfold Sort.grow World.drewN; simp [Nat.add_assoc]⟩
end Go.Proofs.Ytkaihdpmjlhlaaa.Q

namespace Go.Proofs.Ytkaihdpmjlhlaaa.Q
open Go.RowKit Go.Proofs.YtkaihdpmjlhlaaaW.PrintWords Go.Proofs.YtkaihdpmjlhlaaaW.PrintLast Go.Proofs.YtkaihdpmjlhlaaaW.PrintMore
set_option linter.unusedVariables false
set_option linter.unusedSimpArgs false

theorem upTo_l0 (n : Nat) (hn : n ≤ 1000) : ∀ d k (i : Nat) x, i + d = n → d < k → x = (List.range i).map (fun (j : Nat) => (j : Int)) → impl_upTo.l0 k x (n : Int) (i : Int) = some ((List.range n).map (fun (j : Nat) => (j : Int))) := by
  intro d
  induction d with
  | zero =>
    intro k i x hi hk hx
    obtain ⟨k, rfl⟩ : ∃ m, k = m + 1 := ⟨k - 1, by omega⟩
    simp only [impl_upTo.l0]; rw [if_neg (by omega), hx, show i = n by omega]
  | succ d ih =>
    intro k i x hi hk hx
    obtain ⟨k, rfl⟩ : ∃ m, k = m + 1 := ⟨k - 1, by omega⟩
    simp only [impl_upTo.l0]
    rw [if_pos (by omega), if_pos (by rw [hx]; simp; omega), w64 (i := (i : Int) + 1) (by omega) (by omega)]
    have := ih k (i + 1) (x ++ [(i : Int)]) (by omega) (by omega) (by rw [hx, List.range_succ, List.map_append]; rfl)
    rw [show ((i + 1 : Nat) : Int) = (i : Int) + 1 by omega] at this
    exact this
def upToL (n : Nat) : List Int := (List.range n).map (fun (j : Nat) => (j : Int))
theorem upTo_eq (n : Nat) (hn : n ≤ 1000) (k : Nat) (hk : n < k) : impl_upTo.f k (n : Int) = some (upToL n) := by
  unfold impl_upTo.f
  exact upTo_l0 n hn n k 0 [] (by omega) hk rfl
end Go.Proofs.Ytkaihdpmjlhlaaa.Q

namespace Go.Proofs.Ytkaihdpmjlhlaaa.Q
open Go.RowKit Go.Shelf Go.Sort Go.Proofs.YtkaihdpmjlhlaaaW.PrintWords Go.Proofs.YtkaihdpmjlhlaaaW.PrintLast Go.Proofs.YtkaihdpmjlhlaaaW.PrintMore
set_option linter.unusedVariables false
set_option linter.unusedSimpArgs false

abbrev sortZ (zs : List Int) : List Int := zs.mergeSort fun x y => decide (x ≤ y)
def cfP (items : List Item) (cf : Item → Item → Int) (x y : Int) : Int := cf (rd_T49 items x) (rd_T49 items y)
def packStep (items : List Item) (a b : Int) (o : List Int) (i : Int) : List Int := if holdsC a b (tot items (o ++ [i])) = true then o ++ [i] else o
def orderL (items : List Item) (cf : Item → Item → Int) : List Int := sortL (ltZ (cfP items cf)) (upToL items.length)
def packL (items : List Item) (a b : Int) (cf : Item → Item → Int) : List Int := sortZ ((orderL items cf).foldl (packStep items a b) [])
theorem orderL_length (items : List Item) (cf : Item → Item → Int) : (orderL items cf).length = items.length := by
  unfold orderL
  rw [(sortL_perm _ _).length_eq]
  simp [upToL]
theorem upToL_length (n : Nat) : (upToL n).length = n := by simp [upToL]
theorem upToL_mem (n : Nat) (x : Int) (h : x ∈ upToL n) : 0 ≤ x ∧ x < (n : Int) := by
  unfold upToL at h
  obtain ⟨j, hj, rfl⟩ := List.mem_map.1 h
  have := List.mem_range.1 hj
  omega
theorem orderL_inside (items : List Item) (cf : Item → Item → Int) : Inside items (orderL items cf) := fun x hx => upToL_mem _ x ((sortL_perm _ _).mem_iff.1 hx)
theorem pk_b {P1 P2 P3 : Prop} {B : Nat} {w W : World} (h : P1 ∧ P2 ∧ P3 ∧ Below B w W) : Below B w W := h.2.2.2
theorem pk_keep {w W' : World} {Bi Bc : Nat} {a b : Int} {v : Value} {t1 t2 : Nat} (h1 : Boxed w Bi t1 v) (h2 : w.heap[Bc]? = some (.cells #[.int .i64 a, .int .i64 b] t2 (0, 0))) (hb : Below w.heap.size w W') :
    W'.cell? ⟨Bi, 0, none⟩ = some v ∧ W'.cell? ⟨Bc, 0, none⟩ = some (.int .i64 a) ∧ W'.cell? ⟨Bc, 1, none⟩ = some (.int .i64 b) ∧ Below w.heap.size w W' := by
  have h3 := blk_below h2 hb
  exact ⟨(box_below h1 hb).cell, (blk_cell h3 0).trans rfl, (blk_cell h3 1).trans rfl, hb⟩

set_option maxRecDepth 100000 in
set_option maxHeartbeats 40000000 in
theorem packInOrder_calls (gi : Nat) (cf : Item → Item → Int) (eg : ∀ args w, (callFunc gi args).run Try.prog w = .ok (.enter gi args) w) (hcf : CmpItem gi cf) (A0 : Option Addr) (c0 : Nat) (l0 : List Item) (a b : Int) (t : Bool) (w : World) (hr0 : Kd.C k49 w A0 l0.length l0) (hc0 : l0.length ≤ c0) (ht : impl_arePacked.f l0 [⟨a, b⟩] = some t) (hn : t = true → 1 ≤ l0.length ∧ l0.length ≤ 19) :
    Calls Try.prog 68 #[.slice A0 l0.length c0, .agg #[.int .i64 a, .int .i64 b], .func (.func gi) #[] #[]] w fun e w' => ∃ v0_ : Value, e = .returned (.tuple #[v0_, .bool t]) ∧ Kd.R (Kd.int .i64) 3 w' w.heap.size (fun _ => True) v0_ (if t = true then packL l0 a b cf else []) ∧ Below w.heap.size w w' := by
  have x1 := Boxed.new w 28 (.slice A0 l0.length c0)
  obtain ⟨w1, e1⟩ : ∃ w1, w.alloc (.cells #[.slice A0 l0.length c0] 28) = w1 := ⟨_, rfl⟩
  have b1 : Below w.heap.size w w1 := by rw [← e1]; exact (Below.refl _ w).alloc (Nat.le_refl _) _
  have z1 : w1.heap.size = w.heap.size + 1 := by rw [← e1]; simp
  rw [e1] at x1
  have x2 := heap_alloc_new w1 (.cells #[.int .i64 a, .int .i64 b] 30)
  have y1 := x1.alloc (.cells #[.int .i64 a, .int .i64 b] 30)
  obtain ⟨w2, e2⟩ : ∃ w2, w1.alloc (.cells #[.int .i64 a, .int .i64 b] 30) = w2 := ⟨_, rfl⟩
  have b2 : Below w.heap.size w w2 := by rw [← e2]; exact b1.alloc b1.size _
  have z2 : w2.heap.size = w.heap.size + 1 + 1 := by rw [← e2]; simp; omega
  rw [e2] at x2 y1
  rw [z1] at x2
  have x3 := Boxed.new w2 78 (.func (.func gi) #[] #[])
  have y2 := y1.alloc (.cells #[.func (.func gi) #[] #[]] 78)
  have u2 := (Below.heap_alloc w2 (.cells #[.func (.func gi) #[] #[]] 78) (w.heap.size + 1) (by omega)).trans x2
  obtain ⟨w3, e3⟩ : ∃ w3, w2.alloc (.cells #[.func (.func gi) #[] #[]] 78) = w3 := ⟨_, rfl⟩
  have b3 : Below w.heap.size w w3 := by rw [← e3]; exact b2.alloc b2.size _
  have z3 : w3.heap.size = w.heap.size + 1 + 1 + 1 := by rw [← e3]; simp; omega
  rw [e3] at x3 y2 u2
  rw [z2] at x3
  have b4 : Below w3.heap.size w3 (w3.alloc (.cells #[.int .i64 a, .int .i64 b] 30)) := (Below.refl _ w3).alloc (Nat.le_refl _) _
  have hpk := impl_arePacked.calls A0 c0 l0 (some ⟨w.heap.size + 1 + 1 + 1, 0, none⟩) 1 [⟨a, b⟩] t (w3.alloc (.cells #[.int .i64 a, .int .i64 b] 30)) (Kd.C_below hr0 (b3.trans (b4.mono b3.size))) hc0 (by rw [← z3]; simpa using caseRow w3 a b 30) (Nat.le_refl _) ht
  have q1 := y2.cell
  have q2 := (blk_cell u2 0).trans rfl
  have q3 := (blk_cell u2 1).trans rfl
  have X1 := Aside0.mk y2
  have X2 := Aside0.mk u2
  have X3 := Aside0.mk x3
  have HR := Aside0.mk hr0
  have B3 := Aside0.mk b3
  have B4 := Aside0.mk b4
  clear x1 x2 x3 y1 y2 u2 b1 b2 b3 b4 hr0
  cases t with
  | false =>
    clear hn
    go_enter Try.func68, Try.ntmps68
    go_wp2_with (go_at_call 40; refine hpk.mono ?_; rintro e w5 ⟨rfl, hb⟩; have B5 := Aside0.mk ((B3.out.trans (B4.out.mono B3.out.size)).trans (hb.mono (by have := B3.out.size; simp; omega))))
    go_ret2
    exact ⟨_, rfl, Kd.R_nil _ _ _ _ _, B5.out⟩
  | true =>
    obtain ⟨hn1, hn2⟩ := hn rfl
    clear hn
    have hup := fun W => impl_upTo.calls (l0.length + 1) (l0.length : Int) (upToL l0.length) W (upTo_eq l0.length (by omega) _ (by omega))
    have HUP := Aside0.mk hup
    have HCF := Aside0.mk hcf
    clear hup hcf
    go_enter Try.func68, Try.ntmps68
    go_wp2_with (first
      | (go_at_call 40; refine hpk.mono ?_; rintro e w5 ⟨rfl, hb⟩; have C5 := Aside0.mk (B4.out.trans (hb.mono B4.out.size)); have q5 := (box_below X1.out C5.out).cell)
      | (go_at_call 62; refine (HUP.out _).mono ?_; rintro e w6 ⟨v6, rfl, hR6, hb6⟩; obtain ⟨A6, c6, rfl⟩ : ∃ A c, v6 = .slice A l0.length c := (by have := Kd.R_slice hR6; rwa [upToL_length] at this); have C6 := Aside0.mk (C5.out.trans (hb6.mono C5.out.size))))
    rcases R_block hR6 with ⟨hv, hz⟩ | ⟨g, c, cur, hv, hbg, _, hg, hnc, hcm, hs, ht2⟩
    · have := upToL_length l0.length
      rw [hz] at this
      simp only [List.length_nil] at this
      omega
    rw [upToL_length] at hv hnc
    injection hv with f1 f2 f3
    subst f1 f3
    have hgl : g < w6.heap.size := (Array.getElem?_eq_some_iff.1 hg).1
    have hg3 : w3.heap.size ≤ g := Nat.le_trans C5.out.size hbg
    have hcmp : CmpOk 87 #[.pointer (some ⟨w.heap.size + 1 + 1, 0, none⟩), .pointer (some ⟨w.heap.size, 0, none⟩)] l0.length (cfP l0 cf) g w6 := fun W hF x y hx hy => by
      show Calls Try.prog 87 #[.int .i64 x, .int .i64 y, .pointer (some ⟨w.heap.size + 1 + 1, 0, none⟩), .pointer (some ⟨w.heap.size, 0, none⟩)] W _
      exact pack1_calls gi cf eg HCF.out (w.heap.size + 1 + 1) w.heap.size A0 c0 l0 x y W (box_fr (box_below X3.out C6.out) hF (by omega)).cell (box_fr (box_below X1.out C6.out) hF (by omega)).cell
        (Kd.C_below HR.out ((B3.out.trans (C6.out.mono B3.out.size)).trans (hF.below (fun k hk => by omega) (Nat.le_trans B3.out.size C6.out.size)))) hx hy
    have hso := sortStable_calls 87 #[.pointer (some ⟨w.heap.size + 1 + 1, 0, none⟩), .pointer (some ⟨w.heap.size, 0, none⟩)] (enters_of Try.func87 (by kernel_rfl) rfl) l0.length hn1 (cfP l0 cf) 3 g c6 cur (upToL l0.length) w6 (upToL_mem l0.length) (by rw [upToL_length]; exact hn1) (by rw [upToL_length]; exact hn2) hg ht2 hcmp
    rw [upToL_length] at hso
    have hso2 : Calls Try.prog 86 #[.slice (some ⟨g, 0, none⟩) l0.length c6, .func (.func 87) #[] #[.pointer (some ⟨w.heap.size + 1 + 1, 0, none⟩), .pointer (some ⟨w.heap.size, 0, none⟩)]] w6 fun e w' => e = .returned (.tuple #[]) ∧ Kd.R (Kd.int .i64) 3 w' w.heap.size (fun _ => True) (.slice (some ⟨g, 0, none⟩) l0.length c6) (orderL l0 cf) ∧ Below w3.heap.size w3 w' := hso.mono fun e w' ⟨he, q, os, hw⟩ => by
      subst hw
      have hol := orderL_length l0 cf
      have hput := put_R (base := w.heap.size) (ok := fun _ => True) (by omega) trivial hg hcm hs q l0.length (orderL l0 cf).toArray (by simp [hol]) (by simp [hol]; omega)
      rw [show ((orderL l0 cf).toArray.toList.take l0.length) = orderL l0 cf by rw [List.take_of_length_le (by simp [hol])]] at hput
      exact ⟨he, Kd.R_below hput (grow_below _ _), (C6.out.trans ((put_fr w6 g q (orderL l0 cf).toArray).below (fun k hk => by omega) C6.out.size)).trans ((grow_below _ os).mono (by have := C6.out.size; simp [Sort.ahead]; exact this))⟩
    have HSO := Aside0.mk hso2
    clear hso hso2 hcmp hR6 hg ht2 hb6
    go_wp2_with (go_at_call 86; refine HSO.out.mono ?_; rintro e w7 ⟨rfl, hR7, hC7⟩; have R7 := Aside0.mk hR7; have C7 := Aside0.mk hC7; clear hR7 hC7)
    have hR8 : Kd.R (Kd.int .i64) 3 (w7.alloc (.cells #[] 3)) w.heap.size (fun _ => True) (.slice (some ⟨w7.heap.size, 0, none⟩) ([] : List Int).length 0) [] :=
      block_R (by have := C7.out.size; omega) trivial (heap_alloc_new w7 _) (by simp) (by unfold maxLen; omega) rfl rfl
    have R8 := Aside0.mk hR8
    have S8 := Aside0.mk (Kd.R_below R7.out ((Below.refl _ w7).alloc (Nat.le_refl _) (.cells #[] 3)))
    have C8 := Aside0.mk (C7.out.alloc C7.out.size (.cells #[] 3))
    have h78 : w7.heap.size < (w7.alloc (.cells #[] 3)).heap.size := by simp
    clear hR8 R7
    generalize w7.alloc (.cells #[] 3) = w8 at *
    have hol := orderL_length l0 cf
    have hoi := orderL_inside l0 cf
    generalize hord : orderL l0 cf = ord at *
    have HORD := Aside0.mk hord
    have HOI := Aside0.mk hoi
    have HOL := Aside0.mk hol
    clear hord hoi hol
    go_loopg [9, 27] l0.length (fun gg s9 s27 wr => ∃ (k : Nat) (o : List Int) (A : Option Addr) (c : Nat), s9 = .slice A o.length c ∧ s27 = .int .i64 (k : Int) ∧ k ≤ l0.length ∧ l0.length - k ≤ gg ∧ o.length ≤ k ∧ Aside0 (Kd.R (Kd.int .i64) 3 wr w.heap.size (fun _ => True) (.slice A o.length c) o) ∧ Aside0 (Below w8.heap.size w8 wr) ∧ Aside0 (Inside l0 o) ∧ Aside0 ((ord.drop k).foldl (packStep l0 a b) o = ord.foldl (packStep l0 a b) []))
    case atStart => exact ⟨0, [], _, _, rfl, rfl, by omega, by omega, by simp, R8, ⟨Below.refl _ _⟩, ⟨fun x hx => by cases hx⟩, ⟨rfl⟩⟩
    case round =>
      obtain ⟨k, o, A, c, rfl, rfl, hkn, hgg, hok, RO, BR, IO, FO⟩ := hrel
      by_cases hlt : k < l0.length
      · have hltz : (k : Int) < (l0.length : Int) := by omega
        have hk0 : (0 : Int) ≤ (k : Int) := by omega
        have hko : k < ord.length := by have := HOL.out; omega
        rcases R_block (Kd.R_below S8.out BR.out) with ⟨hv, _⟩ | ⟨g', cc, cur', hv, _, _, hg', _, _, _, ht'⟩
        · cases hv
        injection hv with f1 f2 f3
        injection f1 with f1
        injection f1 with f1 _ _
        subst f1
        clear f2 f3
        have l1 := block_cell hg' ht' k hko
        have hfold := FO.out
        rw [List.drop_eq_getElem_cons hko, List.foldl_cons] at hfold
        have hxi := HOI.out _ (List.getElem_mem hko)
        generalize hx : ord[k] = x at l1 hfold hxi
        obtain ⟨ys, hys⟩ : ∃ ys, o ++ [x] = ys := ⟨_, rfl⟩
        have hyi : Inside l0 ys := fun y hy => by
          rw [← hys] at hy
          rcases List.mem_append.1 hy with hy | hy
          · exact IO.out y hy
          · rw [List.mem_singleton.1 hy]; exact hxi
        have hyl : ys.length ≤ k + 1 := by rw [← hys]; simp; omega
        unfold packStep at hfold
        rw [hys] at hfold
        have hho := holds_f a b (tot l0 ys)
        have hnx := fun (A : Option Addr) (c : Nat) (W : World) (hb : Below w8.heap.size w8 W) (hC : Kd.C (Kd.int .i64) W A ys.length ys) (hc : ys.length ≤ c) => impl_totals.calls (ys.length + 1) A0 c0 l0 A c ys (tot l0 ys).1 (tot l0 ys).2.1 (tot l0 ys).2.2 W (Kd.C_below HR.out ((B3.out.trans (C8.out.mono B3.out.size)).trans (hb.mono (Nat.le_trans B3.out.size C8.out.size)))) hc0 hC hc (totals_eq l0 ys hyi (by omega) _ (by omega))
        generalize hnt : tot l0 ys = nt at hho hnx hfold
        obtain ⟨n1, n2, n3⟩ := nt
        simp only at hho hnx
        generalize hhv : holdsC a b (n1, n2, n3) = hv at hho hfold
        have HHO := Aside0.mk hho
        have HNX := Aside0.mk hnx
        have HF := Aside0.mk hfold
        have HYS := Aside0.mk hys
        have HYI := Aside0.mk hyi
        have HYL := Aside0.mk hyl
        clear hho hnx hfold hys hyi hyl hnt hhv hx hg' ht'
        have hclone := clone_int A c o wr (by obtain ⟨A', c', he, _, h2⟩ := Kd.R_reads RO.out; injection he with he1 he2 he3; subst he1; exact h2) (by obtain ⟨A', c', he, h2, _⟩ := Kd.R_reads RO.out; injection he with he1 he2 he3; subst he3; exact h2) (by omega)
        have HCL := Aside0.mk hclone
        clear hclone
        go_wp2_with (first
          | (go_at_call 59; refine HCL.out.mono ?_; rintro e w9 ⟨v9, rfl, hR9, hb9⟩)
          | (at_builtin; refine Kd.R_append (Kd.int .i64) (w0 := w9) wr.heap.size rfl (.tmp 32) (.tmp 34) 34 3 (.int .i64 0) 8 rfl Try.underlying34 info3 rfl (by decide) (by omega) v9 o x [.int .i64 x] (fun q => wr.heap.size ≤ q) (fun _ => False) rfl rfl ?aP (fun _ hq => hq.elim) ?aF ?aO (Below.refl _ _) ?aS ?aL ?_;
              (case aP => exact rfl);
              (case aF => exact fun q hq => Nat.le_trans hb9.size hq);
              (case aO => exact Kd.R_mono (Kd.R_bound hR9) (fun q hq => hq.2.1));
              (case aS => exact hb9.size);
              (case aL => omega);
              rw [HYS.out]; intro v10 w10 hR10 hb10 hg10 hat10; obtain ⟨A10, c10, hv10, hc10, hC10⟩ := Kd.R_reads hR10; subst hv10; have B10 := Aside0.mk (BR.out.trans ((hb9.trans hb10).mono BR.out.size)); have BW := Aside0.mk (hb9.trans hb10); have R10 := Aside0.mk hR10; have XC10 := Aside0.mk hC10))
        have Y1 := Aside0.mk (box_below X1.out (C8.out.trans (B10.out.mono C8.out.size)))
        have Y2 := Aside0.mk (blk_below X2.out (C8.out.trans (B10.out.mono C8.out.size)))
        cases hv with
        | false =>
          have HF2 : Aside0 (((ord.drop (k + 1)).foldl (packStep l0 a b) o) = ord.foldl (packStep l0 a b) []) := ⟨by have := HF.out; simp only [Bool.false_eq_true, if_false] at this; exact this⟩
          clear HF hR10 hb10 hg10 hat10 hR9 hb9 hC10
          go_region_held3 (fun W' => W'.cell? ⟨w.heap.size, 0, none⟩ = some (.slice A0 l0.length c0) ∧ W'.cell? ⟨w.heap.size + 1, 0, none⟩ = some (.int .i64 a) ∧ W'.cell? ⟨w.heap.size + 1, 1, none⟩ = some (.int .i64 b) ∧ Below w10.heap.size w10 W')
            (first | exact pk_keep Y1.out Y2.out ((Below.refl _ w10).drew) | exact pk_keep Y1.out Y2.out (by assumption) | exact pk_keep Y1.out Y2.out (And.right (And.right (And.right (by assumption)))))
            (first
              | (go_at_call 56; refine (HNX.out A10 c10 _ ?h1 ?h2 hc10).mono ?_;
                  (case h1 => exact B10.out.trans ((pk_b (by assumption)).mono B10.out.size));
                  (case h2 => exact Kd.C_below XC10.out (pk_b (by assumption)));
                  rintro e w11 ⟨rfl, hb11⟩; have hbl11 : Below w10.heap.size w10 w11 := Below.trans (pk_b (by assumption)) (hb11.mono (pk_b (by assumption)).size))
              | (go_at_call 60; refine (impl_Case_holds.calls a b n1 n2 n3 _ _ HHO.out).mono ?_; rintro e w12 ⟨rfl, hb12⟩; have hbl12 : Below w10.heap.size w10 w12 := hbl11.trans (hb12.mono hbl11.size)))
          all_goals
            go_wp2
            go_roundg (l0.length - (k + 1))
            case measure => omega
            case rel => exact ⟨k + 1, o, A, c, rfl, by go_num, by omega, by omega, by omega, ⟨Kd.R_below RO.out (BW.out.trans (hbl12.mono BW.out.size))⟩, ⟨B10.out.trans (hbl12.mono B10.out.size)⟩, IO, HF2⟩
        | true =>
          have HF2 : Aside0 (((ord.drop (k + 1)).foldl (packStep l0 a b) ys) = ord.foldl (packStep l0 a b) []) := ⟨by have := HF.out; simp only [if_true] at this; exact this⟩
          clear HF hR10 hb10 hg10 hat10 hR9 hb9 hC10
          go_region_held3 (fun W' => W'.cell? ⟨w.heap.size, 0, none⟩ = some (.slice A0 l0.length c0) ∧ W'.cell? ⟨w.heap.size + 1, 0, none⟩ = some (.int .i64 a) ∧ W'.cell? ⟨w.heap.size + 1, 1, none⟩ = some (.int .i64 b) ∧ Below w10.heap.size w10 W')
            (first | exact pk_keep Y1.out Y2.out ((Below.refl _ w10).drew) | exact pk_keep Y1.out Y2.out (by assumption) | exact pk_keep Y1.out Y2.out (And.right (And.right (And.right (by assumption)))))
            (first
              | (go_at_call 56; refine (HNX.out A10 c10 _ ?h1 ?h2 hc10).mono ?_;
                  (case h1 => exact B10.out.trans ((pk_b (by assumption)).mono B10.out.size));
                  (case h2 => exact Kd.C_below XC10.out (pk_b (by assumption)));
                  rintro e w11 ⟨rfl, hb11⟩; have hbl11 : Below w10.heap.size w10 w11 := Below.trans (pk_b (by assumption)) (hb11.mono (pk_b (by assumption)).size))
              | (go_at_call 60; refine (impl_Case_holds.calls a b n1 n2 n3 _ _ HHO.out).mono ?_; rintro e w12 ⟨rfl, hb12⟩; have hbl12 : Below w10.heap.size w10 w12 := hbl11.trans (hb12.mono hbl11.size)))
          all_goals
            go_wp2
            go_roundg (l0.length - (k + 1))
            case measure => omega
            case rel => exact ⟨k + 1, ys, A10, c10, rfl, by go_num, by omega, by omega, HYL.out, ⟨Kd.R_mono (Kd.R_lower (Kd.R_below R10.out hbl12) (Nat.le_trans (Nat.le_trans B3.out.size C8.out.size) BR.out.size)) (fun _ _ => trivial)⟩, ⟨B10.out.trans (hbl12.mono B10.out.size)⟩, HYI, HF2⟩
      · have hltz : ¬ (k : Int) < (l0.length : Int) := by omega
        have hf := FO.out
        rw [List.drop_eq_nil_of_le (by have := HOL.out; omega)] at hf
        simp only [List.foldl_nil] at hf
        have hres : packL l0 a b cf = sortZ o := by unfold packL; rw [HORD.out, ← hf]
        have HRES := Aside0.mk hres
        have hol := HOL.out
        clear hf hres FO
        rcases R_block RO.out with ⟨hv, hz⟩ | ⟨g', cc, cur', hv, hbg', _, hg', hnc', hcm', hs', ht'⟩
        · injection hv with e1 e2 e3
          subst e1 e3 hz
          go_wp2_with (go_at_call 88; refine (Try.slices_Sort_int_none none 0 wr).mono ?_; rintro e w13 ⟨rfl, rfl⟩)
          go_ret2
          have hz2 : packL l0 a b cf = [] := by rw [HRES.out]; simp
          exact ⟨_, rfl, by rw [hz2]; exact RO.out, B3.out.trans ((C8.out.trans (BR.out.mono C8.out.size)).mono B3.out.size)⟩
        · injection hv with e1 e2 e3
          subst e1 e3
          have hgl' : g' < wr.heap.size := (Array.getElem?_eq_some_iff.1 hg').1
          have hcs := Try.slices_Sort_int g' 0 c o wr (block_holds hg' ht') hgl' (by omega)
          have BW := Aside0.mk (B3.out.trans ((C8.out.trans (BR.out.mono C8.out.size)).mono B3.out.size))
          have HCS := Aside0.mk hcs
          have HG := Aside0.mk hg'
          clear hcs hg' ht'
          go_wp2_with (go_at_call 88; refine HCS.out.mono ?_; rintro e w13 ⟨rfl, q, os, rfl⟩)
          go_ret2
          have hl : (sortZ o).length = o.length := List.length_mergeSort o
          have hput := put_R (base := w.heap.size) (ok := fun _ => True) hbg' trivial HG.out hcm' hs' q o.length (sortZ o).toArray (by simp) (by simp; omega)
          rw [show ((sortZ o).toArray.toList.take o.length) = sortZ o by rw [List.take_of_length_le (by simp)]] at hput
          refine ⟨_, rfl, by rw [HRES.out]; exact Kd.R_below hput (grow_below _ _), ?_⟩
          exact (BW.out.trans ((put_fr wr g' q (sortZ o).toArray).below (fun k hk => by omega) BW.out.size)).trans ((grow_below _ os).mono (by simp [Sort.ahead]; exact BW.out.size))
end Go.Proofs.Ytkaihdpmjlhlaaa.Q

namespace Go.Proofs.Ytkaihdpmjlhlaaa.Q
open Go.RowKit Go.Shelf Go.Sort Go.Proofs.YtkaihdpmjlhlaaaW.PrintWords Go.Proofs.YtkaihdpmjlhlaaaW.PrintLast Go.Proofs.YtkaihdpmjlhlaaaW.PrintMore
set_option linter.unusedVariables false
set_option linter.unusedSimpArgs false

def packF (cf : Item → Item → Int) (l0 : List Item) (a b : Int) : Option (List Int × Bool) :=
  (impl_arePacked.f l0 [⟨a, b⟩]).bind fun t => if t = true then (if 1 ≤ l0.length ∧ l0.length ≤ 19 then some (packL l0 a b cf, true) else none) else some ([], false)
theorem packF_case {cf : Item → Item → Int} {l0 : List Item} {a b : Int} {r1 : List Int} {r2 : Bool} (h : packF cf l0 a b = some (r1, r2)) :
    impl_arePacked.f l0 [⟨a, b⟩] = some r2 ∧ (r2 = true → 1 ≤ l0.length ∧ l0.length ≤ 19) ∧ (if r2 = true then packL l0 a b cf else []) = r1 := by
  unfold packF at h
  obtain ⟨t, ht, h⟩ := Option.bind_eq_some_iff.mp h
  cases t with
  | false =>
    have hr : [] = r1 ∧ false = r2 := by simpa using h
    obtain ⟨rfl, rfl⟩ := hr
    exact ⟨ht, by simp, rfl⟩
  | true =>
    by_cases hn : 1 ≤ l0.length ∧ l0.length ≤ 19
    · rw [if_pos rfl, if_pos hn] at h
      have hr : packL l0 a b cf = r1 ∧ true = r2 := by simpa using h
      obtain ⟨rfl, rfl⟩ := hr
      exact ⟨ht, fun _ => hn, rfl⟩
    · rw [if_pos rfl, if_neg hn] at h
      cases h
def impl_PackByValue.f (l0 : List Item) (a1_0 a1_1 : Int) : Option (List Int × Bool) := packF cmpValue l0 a1_0 a1_1
def impl_PackByRatio.f (l0 : List Item) (a1_0 a1_1 : Int) : Option (List Int × Bool) := packF cmpRatio l0 a1_0 a1_1
theorem impl_PackByValue.calls (A0 : Option Addr) (c0 : Nat) (l0 : List Item) (a1_0 a1_1 : Int) (r1 : List Int) (r2 : Bool) (w : World) (hr0 : Kd.C k49 w A0 l0.length l0) (hc0 : l0.length ≤ c0) (h : impl_PackByValue.f l0 a1_0 a1_1 = some (r1, r2)) :
    Calls Try.prog 33 #[.slice A0 l0.length c0, .agg #[.int .i64 a1_0, .int .i64 a1_1]] w fun e w' => ∃ v0_ : Value, e = .returned (.tuple #[v0_, .bool r2]) ∧ Kd.R (Kd.int .i64) 3 w' w.heap.size (fun _ => True) v0_ r1 ∧ Below w.heap.size w w' := by
  obtain ⟨h1, h2, h3⟩ := packF_case h
  have hp := fun W (hb : Below w.heap.size w W) => packInOrder_calls 69 cmpValue (enters_of Try.func69 (by kernel_rfl) rfl) cmpValue_ok A0 c0 l0 a1_0 a1_1 r2 W (Kd.C_below hr0 hb) hc0 h1 h2
  rw [h3] at hp
  have HP := Aside0.mk hp
  clear hp h h1 h2 h3 hr0
  have b1 := (Below.refl w.heap.size w).alloc (Nat.le_refl _) (.cells #[.int .i64 a1_0, .int .i64 a1_1] 30)
  have B1 := Aside0.mk b1
  clear b1
  go_enter Try.func33, Try.ntmps33
  go_wp2_with (go_at_call 68; refine (HP.out _ (by first | exact B1.out | exact Below.refl _ _)).mono ?_; rintro e w2 ⟨v, rfl, hR, hb⟩)
  go_ret2
  exact ⟨_, rfl, by first | exact hR | exact Kd.R_lower hR B1.out.size, by first | exact hb | exact B1.out.trans (hb.mono B1.out.size)⟩
theorem impl_PackByRatio.calls (A0 : Option Addr) (c0 : Nat) (l0 : List Item) (a1_0 a1_1 : Int) (r1 : List Int) (r2 : Bool) (w : World) (hr0 : Kd.C k49 w A0 l0.length l0) (hc0 : l0.length ≤ c0) (h : impl_PackByRatio.f l0 a1_0 a1_1 = some (r1, r2)) :
    Calls Try.prog 35 #[.slice A0 l0.length c0, .agg #[.int .i64 a1_0, .int .i64 a1_1]] w fun e w' => ∃ v0_ : Value, e = .returned (.tuple #[v0_, .bool r2]) ∧ Kd.R (Kd.int .i64) 3 w' w.heap.size (fun _ => True) v0_ r1 ∧ Below w.heap.size w w' := by
  obtain ⟨h1, h2, h3⟩ := packF_case h
  have hp := fun W (hb : Below w.heap.size w W) => packInOrder_calls 70 cmpRatio (enters_of Try.func70 (by kernel_rfl) rfl) cmpRatio_ok A0 c0 l0 a1_0 a1_1 r2 W (Kd.C_below hr0 hb) hc0 h1 h2
  rw [h3] at hp
  have HP := Aside0.mk hp
  clear hp h h1 h2 h3 hr0
  have b1 := (Below.refl w.heap.size w).alloc (Nat.le_refl _) (.cells #[.int .i64 a1_0, .int .i64 a1_1] 30)
  have B1 := Aside0.mk b1
  clear b1
  go_enter Try.func35, Try.ntmps35
  go_wp2_with (go_at_call 68; refine (HP.out _ (by first | exact B1.out | exact Below.refl _ _)).mono ?_; rintro e w2 ⟨v, rfl, hR, hb⟩)
  go_ret2
  exact ⟨_, rfl, by first | exact hR | exact Kd.R_lower hR B1.out.size, by first | exact hb | exact B1.out.trans (hb.mono B1.out.size)⟩
end Go.Proofs.Ytkaihdpmjlhlaaa.Q
