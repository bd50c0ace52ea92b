/-
  Part 3 of the proof of FnExactAlwaysPacked: what Go functions that it reaches compute, each shown by a walk of its code, and plain laws on numbers and lists.
  CONDITIONS: each theorem's own, as stated.
-/
import Derived.Test.YtkaihdpmjlhlaaaZFnExactAlwaysPacked2
import Derived.Test.YtkaihdpmjlhlaaaZFnExactAlwaysPacked1
import Derived.Deep.RegionHeld3
import Derived.IntWalk
import Derived.Deep.Cut
namespace Go.Proofs.Ytkaihdpmjlhlaaa.Q
open Go.RowKit Go.Proofs.YtkaihdpmjlhlaaaW.PrintWords Go.Proofs.YtkaihdpmjlhlaaaW.PrintLast Go.Proofs.YtkaihdpmjlhlaaaW.PrintMore
set_option linter.unusedVariables false
set_option linter.unusedSimpArgs false

abbrev Item := S49
/-- A Item as a value. -/
def valItem (x : Item) : Value := .agg #[.int .i64 x.f0, .int .i64 x.f1, .int .i64 x.f2]

set_option maxHeartbeats 2000000 in
theorem index_Item (g : Nat) (lb : Array Value) (p : Item → Bool) (eg : ∀ args w, (callFunc g args).run Try.prog w = .ok (.enter g args) w)
    (A : Option Addr) (c : Nat) (xs : List Item) (w : World) (hr : Kd.C k49 w A xs.length xs) (hc : xs.length ≤ c) (hp : PredOk g lb valItem p w) :
    Calls Try.prog 99 #[.slice A xs.length c, .func (.func g) #[] lb] w fun e w' => e = .returned (.int .i64 (idxF p xs)) ∧ Below w.heap.size w w' := by
  have hn : xs.length ≤ 9223372036854775807 := hr.2.1
  have HR := Aside0.mk hr
  clear hr
  go_enter Try.func99, Try.ntmps99
  go_wp2
  go_loopg [5, 8] xs.length (fun gg _ s8 wr => ∃ kk : Nat, kk ≤ xs.length ∧ xs.length - kk ≤ gg ∧ s8 = .int .i64 kk ∧ Aside0 (Below w.heap.size w wr) ∧ Aside0 (∀ j (hj : j < xs.length), j < kk → p xs[j] = false))
  case atStart => exact ⟨0, Nat.zero_le _, by omega, rfl, ⟨Below.refl _ w⟩, ⟨fun j _ hj => absurd hj (Nat.not_lt_zero _)⟩⟩
  case round =>
    obtain ⟨kk, hkk, hg, rfl, BW, AA⟩ := hrel
    by_cases hlt : kk < xs.length
    · have hltz : (kk : Int) < (xs.length : Int) := by omega
      obtain ⟨ad, e, l0, l1, l2⟩ := at_T49 HR.out (kk : Int) (by omega) (by omega)
      have e2 : rd_T49 xs (kk : Int) = xs[kk] := by simp [rd_T49, List.getD_eq_getElem?_getD, hlt]
      rw [e2] at l0 l1 l2
      replace l0 := (BW.out.cell (World.block_lt_of_cell? w _ l0)).trans l0
      replace l1 := (BW.out.cell (World.block_lt_of_cell? w _ l1)).trans l1
      replace l2 := (BW.out.cell (World.block_lt_of_cell? w _ l2)).trans l2
      simp only [Int.toNat_natCast] at l0 l1 l2
      have hcall := hp wr xs[kk] BW.out
      clear e2
      subst e
      have hhit := fun h => idxF_hit p xs kk hlt h AA.out
      have HH : Aside0 (p xs[kk] = true → idxF p xs = kk) := ⟨hhit⟩
      clear hhit
      generalize hy : xs[kk] = y at l0 l1 l2 hcall HH
      have B : Aside0 (xs[kk] = y) := ⟨hy⟩
      clear hy
      unfold valItem at hcall
      cases hq : p y with
      | true =>
        rw [hq] at hcall
        go_wp2_with (go_at_fn g; refine hcall.mono ?_; rintro e w' ⟨rfl, hb'⟩)
        go_ret
        exact ⟨ret_int (HH.out hq).symm, BW.out.trans (hb'.mono BW.out.size)⟩
      | false =>
        rw [hq] at hcall
        go_wp2_with (go_at_fn g; refine hcall.mono ?_; rintro e w' ⟨rfl, hb'⟩)
        go_roundg (xs.length - (kk + 1))
        case measure => omega
        case rel =>
          refine ⟨kk + 1, by omega, by omega, by go_num, ⟨BW.out.trans (hb'.mono BW.out.size)⟩, ⟨fun j hj hlt2 => ?_⟩⟩
          by_cases e : j = kk
          · subst e
            rw [B.out]; exact hq
          · exact AA.out j hj (by omega)
    · have hltz : ¬ (kk : Int) < (xs.length : Int) := by omega
      have : kk = xs.length := by omega
      go_wp2
      go_ret
      exact ⟨ret_int (idxF_miss p xs (fun j hj => AA.out j hj (by omega))).symm, BW.out⟩

theorem contains_Item (g : Nat) (lb : Array Value) (p : Item → Bool) (eg : ∀ args w, (callFunc g args).run Try.prog w = .ok (.enter g args) w)
    (A : Option Addr) (c : Nat) (xs : List Item) (w : World) (hr : Kd.C k49 w A xs.length xs) (hc : xs.length ≤ c) (hp : PredOk g lb valItem p w) :
    Calls Try.prog 90 #[.slice A xs.length c, .func (.func g) #[] lb] w fun e w' => e = .returned (.bool (xs.any p)) ∧ Below w.heap.size w w' := by
  have hcon := index_Item g lb p eg A c xs w hr hc hp
  have E := Aside0.mk (idxF_any p xs)
  clear hp hr
  generalize idxF p xs = r at hcon E
  go_enter Try.func90, Try.ntmps90
  go_wp2_with (go_at_call 99; refine hcon.mono ?_; rintro e w' ⟨rfl, hb'⟩)
  go_ret
  exact ⟨ret_bool E.out, hb'⟩

/-- Is this an item? -/
def okItem (x : Item) : Bool := (decide (0 ≤ x.f0) && decide (x.f0 ≤ 200)) && (decide (0 ≤ x.f1) && decide (x.f1 ≤ 200)) && (decide (0 ≤ x.f2) && decide (x.f2 ≤ 200))

theorem row3 (W : World) (a b c : Int) (t : Nat) : Kd.C (Kd.int .i64) (W.alloc (.cells #[.int .i64 a, .int .i64 b, .int .i64 c] t)) (some ⟨W.heap.size, 0, none⟩) [a, b, c].length [a, b, c] :=
  ⟨rfl, by simp, fun _ => ⟨_, rfl, fun j p hj => ⟨[.int .i64 p], rfl, rfl, fun i u hi => by
    match i, hi with
    | 0, hi =>
      injection hi with hi
      subst hi
      match j, hj with
      | 0, hj => injection hj with hj; subst hj; simp [Kd.int, Kd.scalar, Addr.add]
      | 1, hj => injection hj with hj; subst hj; simp [Kd.int, Kd.scalar, Addr.add]
      | 2, hj => injection hj with hj; subst hj; simp [Kd.int, Kd.scalar, Addr.add]
      | j + 3, hj => simp at hj
    | i + 1, hi => simp at hi⟩⟩⟩

set_option maxHeartbeats 1000000 in
theorem areItems_pred (w : World) : PredOk 91 #[] valItem (fun x => !okItem x) w := fun W x hb => by
  clear hb
  show Calls Try.prog 91 #[.agg #[.int .i64 x.f0, .int .i64 x.f1, .int .i64 x.f2]] W _
  obtain ⟨a, b, c⟩ := x
  have hcon := fun (W1 : World) (h1 : Kd.C (Kd.int .i64) W1 (some ⟨W.heap.size + 1, 0, none⟩) [a, b, c].length [a, b, c]) => impl_areWithin.calls (some ⟨W.heap.size + 1, 0, none⟩) 3 [a, b, c] 0 200 ([a, b, c].all fun n => decide (0 ≤ n) && decide (n ≤ 200)) W1 h1 (by simp) rfl
  have hB : Aside0 (∀ o1 o2, Below W.heap.size W ((W.alloc o1).alloc o2)) := ⟨fun o1 o2 => ((Below.refl _ W).alloc (Nat.le_refl _) _).alloc (by simp) _⟩
  have hrow := Aside0.mk (fun o => row3 (W.alloc o) a b c 3)
  have E : Aside0 (([a, b, c].all fun n => decide (0 ≤ n) && decide (n ≤ 200)) = ((decide (0 ≤ a) && decide (a ≤ 200)) && (decide (0 ≤ b) && decide (b ≤ 200)) && (decide (0 ≤ c) && decide (c ≤ 200)))) := ⟨by simp [Bool.and_assoc]⟩
  generalize ([a, b, c].all fun n => decide (0 ≤ n) && decide (n ≤ 200)) = q at hcon E
  have HCON := Aside0.mk hcon
  clear hcon
  go_enter Try.func91, Try.ntmps91
  go_wp2_with (go_at_call 76; refine (HCON.out _ ?hh).mono ?_; rotate_left; rintro e w' ⟨rfl, hb'⟩)
  case hh => exact (by simpa using hrow.out _)
  go_ret
  exact ⟨ret_bool (by rw [E.out]; rfl), (hB.out _ _).trans (hb'.mono (by simp; omega))⟩

def impl_AreItems.f (l0 : List Item) : Option Bool := some (decide (1 ≤ l0.length) && decide (l0.length ≤ 10) && l0.all okItem)

set_option maxHeartbeats 1000000 in
theorem impl_AreItems.calls (A0 : Option Addr) (c0 : Nat) (l0 : List Item) (r : Bool) (w : World) (hr0 : Kd.C k49 w A0 l0.length l0) (hc0 : l0.length ≤ c0) (h : impl_AreItems.f l0 = some r) :
    Calls Try.prog 73 #[.slice A0 l0.length c0] w fun e w' => e = .returned (.bool r) ∧ Below w.heap.size w w' := by
  have hn : l0.length ≤ 9223372036854775807 := hr0.2.1
  have hcon := contains_Item 91 #[] (fun x => !okItem x) (enters_of Try.func91 (by kernel_rfl) rfl) A0 c0 l0 w hr0 hc0 (areItems_pred w)
  have E : Aside0 ((decide (1 ≤ l0.length) && decide (l0.length ≤ 10) && !l0.any fun x => !okItem x) = r) := ⟨by
    injection h with h
    rw [← h, List.any_eq_not_all_not]
    simp⟩
  clear h hr0
  generalize (l0.any fun x => !okItem x) = q at hcon E
  by_cases c1 : 1 ≤ l0.length
  · by_cases c2 : l0.length ≤ 10
    · have c1z : decide ((1 : Int) ≤ (l0.length : Int)) = true := decide_eq_true (by omega)
      have c2z : decide ((l0.length : Int) ≤ 10) = true := decide_eq_true (by omega)
      go_enter Try.func73, Try.ntmps73
      go_wp2_with (first | (go_at_call 90; refine hcon.mono ?_; rintro e w' ⟨rfl, hb'⟩) | go_in)
      go_ret
      exact ⟨ret_bool (by rw [← E.out]; simp [c1, c2]), hb'⟩
    · go_enter Try.func73, Try.ntmps73
      go_wp2
      go_ret
      exact ⟨ret_bool (by rw [← E.out]; simp [c2]), Below.refl _ _⟩
  · go_enter Try.func73, Try.ntmps73
    go_wp2
    go_ret
    exact ⟨ret_bool (by rw [← E.out]; simp [c1]), Below.refl _ _⟩
end Go.Proofs.Ytkaihdpmjlhlaaa.Q

namespace Go.Proofs.Ytkaihdpmjlhlaaa.Q
open Go.RowKit Go.Proofs.YtkaihdpmjlhlaaaW.PrintWords Go.Proofs.YtkaihdpmjlhlaaaW.PrintLast Go.Proofs.YtkaihdpmjlhlaaaW.PrintMore
set_option linter.unusedVariables false
set_option linter.unusedSimpArgs false

theorem inItem (a lo hi : Int) : spec_l1In.f a lo hi = some (decide (lo ≤ a) && decide (a ≤ hi)) := by
  unfold spec_l1In.f
  by_cases h : lo ≤ a
  · rw [if_pos h]; simp [h]
  · rw [if_neg h]; simp [h]
theorem suGood_l0 (l : List Item) (hn : l.length ≤ 100000000000000) : ∀ d k i, i + d = l.length → d < k → spec_suGood.l0 k l (l.length : Int) (i : Int) = some ((l.drop i).all okItem) := by
  intro d
  induction d with
  | zero =>
    intro k i hi hk
    obtain ⟨k, rfl⟩ : ∃ m, k = m + 1 := ⟨k - 1, by omega⟩
    simp only [spec_suGood.l0]; rw [if_neg (by omega), List.drop_of_length_le (by omega)]; rfl
  | succ d ih =>
    intro k i hi hk
    obtain ⟨k, rfl⟩ : ∃ m, k = m + 1 := ⟨k - 1, by omega⟩
    simp only [spec_suGood.l0, spec_suItem.f]
    have hlt : i < l.length := by omega
    rw [if_pos (by omega), if_pos (by omega), if_pos (by omega), w64Item (by omega) (by omega), rdIItem l i hlt, List.drop_eq_getElem_cons hlt, List.all_cons]
    rw [show (i : Int) + 1 = ((i + 1 : Nat) : Int) by omega, ih k (i + 1) (by omega) (by omega)]
    simp only [inItem, Option.bind_some]
    unfold okItem
    generalize l[i] = x
    cases (decide (0 ≤ x.f0) && decide (x.f0 ≤ 200)) <;> cases (decide (0 ≤ x.f1) && decide (x.f1 ≤ 200)) <;> cases (decide (0 ≤ x.f2) && decide (x.f2 ≤ 200)) <;> simp
theorem suGood_eq (l : List Item) (hn : l.length ≤ 100000000000000) (k : Nat) (hk : l.length < k) : spec_suGood.f k l = impl_AreItems.f l := by
  unfold spec_suGood.f impl_AreItems.f
  simp only [inItem, Option.bind_some]
  have e1 : decide ((1 : Int) ≤ (l.length : Int)) = decide (1 ≤ l.length) := by simp; omega
  have e2 : decide ((l.length : Int) ≤ 10) = decide (l.length ≤ 10) := by simp; omega
  rw [e1, e2]
  have := suGood_l0 l hn l.length k 0 (by omega) hk
  simp only [List.drop_zero, Int.natCast_zero] at this
  cases (decide (1 ≤ l.length) && decide (l.length ≤ 10))
  · simp
  · simp [this]
end Go.Proofs.Ytkaihdpmjlhlaaa.Q

namespace Go.Proofs.Ytkaihdpmjlhlaaa.Q
open Go.RowKit Go.Proofs.YtkaihdpmjlhlaaaW.PrintWords Go.Proofs.YtkaihdpmjlhlaaaW.PrintLast Go.Proofs.YtkaihdpmjlhlaaaW.PrintMore
set_option linter.unusedVariables false
set_option linter.unusedSimpArgs false

theorem w64 {i : Int} (h0 : -1000000000000000 ≤ i) (h : i ≤ 1000000000000000) : wrap64 i = i := by
  unfold wrap64; omega
theorem rd_nat (xs : List Int) (i : Nat) (h : i < xs.length) : rd xs (i : Int) = xs[i] := by
  simp [rd, List.getD_eq_getElem?_getD, h]

theorem eqIntS_l0 (a : List Int) (hn : a.length ≤ 100000000000000) : ∀ d k i, i + d = a.length → d < k → laws_eqIntS.l0 k a a (i : Int) = some true := by
  intro d
  induction d with
  | zero =>
    intro k i hi hk
    obtain ⟨k, rfl⟩ : ∃ m, k = m + 1 := ⟨k - 1, by omega⟩
    simp only [laws_eqIntS.l0]; rw [if_neg (by omega)]
  | succ d ih =>
    intro k i hi hk
    obtain ⟨k, rfl⟩ : ∃ m, k = m + 1 := ⟨k - 1, by omega⟩
    simp only [laws_eqIntS.l0]; rw [if_pos (by omega), if_pos (by omega), if_pos (by omega), if_pos trivial, w64 (by omega) (by omega)]
    exact ih k (i + 1) (by omega) (by omega)
theorem eqIntS_self (a : List Int) (hn : a.length ≤ 100000000000000) (k : Nat) (hk : a.length < k) : laws_eqIntS.f k a a = some true := by
  unfold laws_eqIntS.f
  rw [if_pos rfl]
  exact eqIntS_l0 a hn a.length k 0 (by omega) hk

/-- What a marked list holds. -/
def marks (a : Int) (n : Nat) : List Int := (List.range n).map fun (j : Nat) => a + (j : Int)
theorem marks_length (a : Int) (n : Nat) : (marks a n).length = n := by simp [marks]
theorem marks_get (a : Int) (n : Nat) (i : Nat) (h : i < (marks a n).length) : (marks a n)[i] = a + (i : Int) := by simp [marks]

theorem markIntS_l0 (a : Int) (n : Nat) (h0 : 0 ≤ a) (hn : a + n ≤ 100000000000000) : ∀ d k i (x : List Int), i + d = n → d < k → x.length = n → (∀ j (hj : j < x.length), j < i → x[j] = a + (j : Int)) →
    laws_markIntS.l0 k x (a + (i : Int)) (i : Int) = some (a + (n : Int), marks a n) := by
  intro d
  induction d with
  | zero =>
    intro k i x hi hk hx hj
    obtain ⟨k, rfl⟩ : ∃ m, k = m + 1 := ⟨k - 1, by omega⟩
    simp only [laws_markIntS.l0]; rw [if_neg (by omega)]
    have : x = marks a n := by
      apply List.ext_getElem
      · rw [hx, marks_length]
      · intro j h1 h2
        rw [hj j h1 (by omega), marks_get]
    rw [this]
    have : i = n := by omega
    subst this; rfl
  | succ d ih =>
    intro k i x hi hk hx hj
    obtain ⟨k, rfl⟩ : ∃ m, k = m + 1 := ⟨k - 1, by omega⟩
    simp only [laws_markIntS.l0]; rw [if_pos (by omega), if_pos (by omega), w64 (i := a + (i : Int) + 1) (by omega) (by omega), w64 (i := (i : Int) + 1) (by omega) (by omega)]
    have := ih k (i + 1) (x.set (i : Int).toNat (a + (i : Int))) (by omega) (by omega) (by simp [hx]) (fun j hj1 hj2 => by
      simp only [Int.toNat_natCast]
      rw [List.getElem_set]
      split
      · rename_i e; rw [e]
      · rename_i e; exact hj j (by simpa using hj1) (by omega))
    rw [show a + ((i + 1 : Nat) : Int) = a + (i : Int) + 1 by omega, show ((i + 1 : Nat) : Int) = (i : Int) + 1 by omega] at this
    exact this
theorem markIntS_eq (x : List Int) (a : Int) (h0 : 0 ≤ a) (hn : a + x.length ≤ 100000000000000) (k : Nat) (hk : x.length < k) : laws_markIntS.f k x a = some (a + (x.length : Int), marks a x.length) := by
  unfold laws_markIntS.f
  have := markIntS_l0 a x.length h0 hn x.length k 0 x (by omega) hk rfl (fun j _ h => absurd h (by omega))
  simpa using this

theorem heldIntS_l0 (a : Int) (n : Nat) (h0 : 0 ≤ a) (hn : a + n ≤ 100000000000000) : ∀ d k i, i + d = n → d < k → laws_heldIntS.l0 k (marks a n) (a + (i : Int)) (i : Int) = some (a + (n : Int)) := by
  intro d
  induction d with
  | zero =>
    intro k i hi hk
    obtain ⟨k, rfl⟩ : ∃ m, k = m + 1 := ⟨k - 1, by omega⟩
    simp only [laws_heldIntS.l0]; rw [if_neg (by rw [marks_length]; omega)]
    have : i = n := by omega
    subst this; rfl
  | succ d ih =>
    intro k i hi hk
    obtain ⟨k, rfl⟩ : ∃ m, k = m + 1 := ⟨k - 1, by omega⟩
    simp only [laws_heldIntS.l0]
    rw [if_pos (by rw [marks_length]; omega), if_pos (by omega), if_pos (by rw [rd_nat _ i (by rw [marks_length]; omega), marks_get]), w64 (i := a + (i : Int) + 1) (by omega) (by omega), w64 (i := (i : Int) + 1) (by omega) (by omega)]
    have := ih k (i + 1) (by omega) (by omega)
    rw [show a + ((i + 1 : Nat) : Int) = a + (i : Int) + 1 by omega, show ((i + 1 : Nat) : Int) = (i : Int) + 1 by omega] at this
    exact this
theorem heldIntS_eq (n : Nat) (a : Int) (h0 : 0 ≤ a) (hn : a + n ≤ 100000000000000) (k : Nat) (hk : n < k) : laws_heldIntS.f k (marks a n) a = some (a + (n : Int)) := by
  unfold laws_heldIntS.f
  have := heldIntS_l0 a n h0 hn n k 0 (by omega) hk
  simpa using this
end Go.Proofs.Ytkaihdpmjlhlaaa.Q

namespace Go.Proofs.Ytkaihdpmjlhlaaa.Q
open Go.RowKit Go.Proofs.YtkaihdpmjlhlaaaW.PrintWords Go.Proofs.YtkaihdpmjlhlaaaW.PrintLast Go.Proofs.YtkaihdpmjlhlaaaW.PrintMore
set_option linter.unusedVariables false
set_option linter.unusedSimpArgs false

theorem Ev_from {α : Type} {g : Nat → Option α} {r : α} (N : Nat) (h : ∀ k, N < k → g k = some r) : Ev g r := ⟨N + 1, fun k hk => h k (by omega)⟩
theorem Ev_some {α : Type} (r : α) : Ev (fun _ => some r) r := Ev.now r
theorem eqIntS_ev (a : List Int) (h : a.length ≤ 10000000) : Ev (fun k => laws_eqIntS.f k a a) true := Ev_from a.length fun k hk => eqIntS_self a (by omega) k hk
theorem markIntS_ev (a : List Int) (h : a.length ≤ 10000000) (n : Int) (h0 : 0 ≤ n) (hn : n ≤ 10000000000) : Ev (fun k => laws_markIntS.f k a n) (n + (a.length : Int), marks n a.length) := Ev_from a.length fun k hk => markIntS_eq a n h0 (by omega) k hk
theorem heldIntS_ev (m : Nat) (h : m ≤ 10000000) (n : Int) (h0 : 0 ≤ n) (hn : n ≤ 10000000000) : Ev (fun k => laws_heldIntS.f k (marks n m) n) (n + (m : Int)) := Ev_from m fun k hk => heldIntS_eq m n h0 (by omega) k hk
/-- The two answers of one call. -/
theorem Ev_unique {α : Type} {g : Nat → Option α} {r s : α} (h : Ev g r) (h' : Ev g s) : r = s := by
  obtain ⟨K, h⟩ := h
  obtain ⟨K', h'⟩ := h'
  have a := h (max K K') (by omega)
  have b := h' (max K K') (by omega)
  rw [a] at b
  injection b
end Go.Proofs.Ytkaihdpmjlhlaaa.Q

namespace Go.Proofs.Ytkaihdpmjlhlaaa.Q
open Go.RowKit Go.Proofs.YtkaihdpmjlhlaaaW.PrintWords Go.Proofs.YtkaihdpmjlhlaaaW.PrintLast Go.Proofs.YtkaihdpmjlhlaaaW.PrintMore
set_option linter.unusedVariables false
set_option linter.unusedSimpArgs false

abbrev Case := S30
/-- A Case as a value. -/
def valCase (x : Case) : Value := .agg #[.int .i64 x.f0, .int .i64 x.f1]

set_option maxHeartbeats 2000000 in
theorem index_Case (g : Nat) (lb : Array Value) (p : Case → Bool) (eg : ∀ args w, (callFunc g args).run Try.prog w = .ok (.enter g args) w)
    (A : Option Addr) (c : Nat) (xs : List Case) (w : World) (hr : Kd.C k30 w A xs.length xs) (hc : xs.length ≤ c) (hp : PredOk g lb valCase p w) :
    Calls Try.prog 92 #[.slice A xs.length c, .func (.func g) #[] lb] w fun e w' => e = .returned (.int .i64 (idxF p xs)) ∧ Below w.heap.size w w' := by
  have hn : xs.length ≤ 9223372036854775807 := hr.2.1
  have HR := Aside0.mk hr
  clear hr
  go_enter Try.func92, Try.ntmps92
  go_wp2
  go_loopg [5, 8] xs.length (fun gg _ s8 wr => ∃ kk : Nat, kk ≤ xs.length ∧ xs.length - kk ≤ gg ∧ s8 = .int .i64 kk ∧ Aside0 (Below w.heap.size w wr) ∧ Aside0 (∀ j (hj : j < xs.length), j < kk → p xs[j] = false))
  case atStart => exact ⟨0, Nat.zero_le _, by omega, rfl, ⟨Below.refl _ w⟩, ⟨fun j _ hj => absurd hj (Nat.not_lt_zero _)⟩⟩
  case round =>
    obtain ⟨kk, hkk, hg, rfl, BW, AA⟩ := hrel
    by_cases hlt : kk < xs.length
    · have hltz : (kk : Int) < (xs.length : Int) := by omega
      obtain ⟨ad, e, l0, l1⟩ := at_T30 HR.out (kk : Int) (by omega) (by omega)
      have e2 : rd_T30 xs (kk : Int) = xs[kk] := by simp [rd_T30, List.getD_eq_getElem?_getD, hlt]
      rw [e2] at l0 l1
      replace l0 := (BW.out.cell (World.block_lt_of_cell? w _ l0)).trans l0
      replace l1 := (BW.out.cell (World.block_lt_of_cell? w _ l1)).trans l1
      simp only [Int.toNat_natCast] at l0 l1
      have hcall := hp wr xs[kk] BW.out
      clear e2
      subst e
      have hhit := fun h => idxF_hit p xs kk hlt h AA.out
      have HH : Aside0 (p xs[kk] = true → idxF p xs = kk) := ⟨hhit⟩
      clear hhit
      generalize hy : xs[kk] = y at l0 l1 hcall HH
      have B : Aside0 (xs[kk] = y) := ⟨hy⟩
      clear hy
      unfold valCase at hcall
      cases hq : p y with
      | true =>
        rw [hq] at hcall
        go_wp2_with (go_at_fn g; refine hcall.mono ?_; rintro e w' ⟨rfl, hb'⟩)
        go_ret
        exact ⟨ret_int (HH.out hq).symm, BW.out.trans (hb'.mono BW.out.size)⟩
      | false =>
        rw [hq] at hcall
        go_wp2_with (go_at_fn g; refine hcall.mono ?_; rintro e w' ⟨rfl, hb'⟩)
        go_roundg (xs.length - (kk + 1))
        case measure => omega
        case rel =>
          refine ⟨kk + 1, by omega, by omega, by go_num, ⟨BW.out.trans (hb'.mono BW.out.size)⟩, ⟨fun j hj hlt2 => ?_⟩⟩
          by_cases e : j = kk
          · subst e
            rw [B.out]; exact hq
          · exact AA.out j hj (by omega)
    · have hltz : ¬ (kk : Int) < (xs.length : Int) := by omega
      have : kk = xs.length := by omega
      go_wp2
      go_ret
      exact ⟨ret_int (idxF_miss p xs (fun j hj => AA.out j hj (by omega))).symm, BW.out⟩

theorem contains_Case (g : Nat) (lb : Array Value) (p : Case → Bool) (eg : ∀ args w, (callFunc g args).run Try.prog w = .ok (.enter g args) w)
    (A : Option Addr) (c : Nat) (xs : List Case) (w : World) (hr : Kd.C k30 w A xs.length xs) (hc : xs.length ≤ c) (hp : PredOk g lb valCase p w) :
    Calls Try.prog 74 #[.slice A xs.length c, .func (.func g) #[] lb] w fun e w' => e = .returned (.bool (xs.any p)) ∧ Below w.heap.size w w' := by
  have hcon := index_Case g lb p eg A c xs w hr hc hp
  have E := Aside0.mk (idxF_any p xs)
  clear hp hr
  generalize idxF p xs = r at hcon E
  go_enter Try.func74, Try.ntmps74
  go_wp2_with (go_at_call 92; refine hcon.mono ?_; rintro e w' ⟨rfl, hb'⟩)
  go_ret
  exact ⟨ret_bool E.out, hb'⟩

/-- Is this a suitcase? -/
def okCase (x : Case) : Bool := (decide (0 ≤ x.f0) && decide (x.f0 ≤ 200)) && (decide (0 ≤ x.f1) && decide (x.f1 ≤ 200))

theorem row2 (W : World) (a b : Int) (t : Nat) : Kd.C (Kd.int .i64) (W.alloc (.cells #[.int .i64 a, .int .i64 b] t)) (some ⟨W.heap.size, 0, none⟩) [a, b].length [a, b] :=
  ⟨rfl, by simp, fun _ => ⟨_, rfl, fun j p hj => ⟨[.int .i64 p], rfl, rfl, fun i u hi => by
    match i, hi with
    | 0, hi =>
      injection hi with hi
      subst hi
      match j, hj with
      | 0, hj => injection hj with hj; subst hj; simp [Kd.int, Kd.scalar, Addr.add]
      | 1, hj => injection hj with hj; subst hj; simp [Kd.int, Kd.scalar, Addr.add]
      | j + 2, hj => simp at hj
    | i + 1, hi => simp at hi⟩⟩⟩

set_option maxHeartbeats 1000000 in
theorem arePacked_pred (w : World) : PredOk 75 #[] valCase (fun x => !okCase x) w := fun W x hb => by
  clear hb
  show Calls Try.prog 75 #[.agg #[.int .i64 x.f0, .int .i64 x.f1]] W _
  obtain ⟨a, b⟩ := x
  have hcon := fun (W1 : World) (h1 : Kd.C (Kd.int .i64) W1 (some ⟨W.heap.size + 1, 0, none⟩) [a, b].length [a, b]) => impl_areWithin.calls (some ⟨W.heap.size + 1, 0, none⟩) 2 [a, b] 0 200 ([a, b].all fun n => decide (0 ≤ n) && decide (n ≤ 200)) W1 h1 (by simp) rfl
  have hB : Aside0 (∀ o1 o2, Below W.heap.size W ((W.alloc o1).alloc o2)) := ⟨fun o1 o2 => ((Below.refl _ W).alloc (Nat.le_refl _) _).alloc (by simp) _⟩
  have hrow := Aside0.mk (fun o => row2 (W.alloc o) a b 3)
  have E : Aside0 (([a, b].all fun n => decide (0 ≤ n) && decide (n ≤ 200)) = ((decide (0 ≤ a) && decide (a ≤ 200)) && (decide (0 ≤ b) && decide (b ≤ 200)))) := ⟨by simp [Bool.and_assoc]⟩
  generalize ([a, b].all fun n => decide (0 ≤ n) && decide (n ≤ 200)) = q at hcon E
  have HCON := Aside0.mk hcon
  clear hcon
  go_enter Try.func75, Try.ntmps75
  go_wp2_with (go_at_call 76; refine (HCON.out _ ?hh).mono ?_; rotate_left; rintro e w' ⟨rfl, hb'⟩)
  case hh => exact (by simpa using hrow.out _)
  go_ret
  exact ⟨ret_bool (by rw [E.out]; rfl), (hB.out _ _).trans (hb'.mono (by simp; omega))⟩

/-- Items, and suitcases. -/
def impl_arePacked.f (l0 : List Item) (l1 : List Case) : Option Bool := some ((decide (1 ≤ l0.length) && decide (l0.length ≤ 10) && l0.all okItem) && l1.all okCase)

set_option maxHeartbeats 1000000 in
theorem impl_arePacked.calls (A0 : Option Addr) (c0 : Nat) (l0 : List Item) (A1 : Option Addr) (c1 : Nat) (l1 : List Case) (r : Bool) (w : World) (hr0 : Kd.C k49 w A0 l0.length l0) (hc0 : l0.length ≤ c0)
    (hr1 : Kd.C k30 w A1 l1.length l1) (hc1 : l1.length ≤ c1) (h : impl_arePacked.f l0 l1 = some r) :
    Calls Try.prog 40 #[.slice A0 l0.length c0, .slice A1 l1.length c1] w fun e w' => e = .returned (.bool r) ∧ Below w.heap.size w w' := by
  have hitems := fun q hq => impl_AreItems.calls A0 c0 l0 q w hr0 hc0 hq
  have hcon := fun (W : World) (hb : Below w.heap.size w W) => contains_Case 75 #[] (fun x => !okCase x) (enters_of Try.func75 (by kernel_rfl) rfl) A1 c1 l1 W (Kd.C_below hr1 hb) hc1 (arePacked_pred W)
  have hg := hitems _ rfl
  have E : Aside0 (((decide (1 ≤ l0.length) && decide (l0.length ≤ 10) && l0.all okItem) && !l1.any fun x => !okCase x) = r) := ⟨by
    injection h with h
    rw [← h, List.any_eq_not_all_not]
    simp⟩
  clear h hr0 hr1 hitems
  generalize (decide (1 ≤ l0.length) && decide (l0.length ≤ 10) && l0.all okItem) = g at hg E
  generalize (l1.any fun x => !okCase x) = q at hcon E
  have HCON := Aside0.mk hcon
  clear hcon
  cases g with
  | true =>
    go_enter Try.func40, Try.ntmps40
    go_wp2_with (first | (go_at_call 73; refine hg.mono ?_; rintro e w1 ⟨rfl, hb1⟩; have HB1 := Aside0.mk hb1; clear hb1) | (go_at_call 74; refine (HCON.out _ HB1.out).mono ?_; rintro e w' ⟨rfl, hb'⟩))
    go_ret
    exact ⟨ret_bool (by rw [← E.out]; simp), HB1.out.trans (hb'.mono HB1.out.size)⟩
  | false =>
    go_enter Try.func40, Try.ntmps40
    go_wp2_with (go_at_call 73; refine hg.mono ?_; rintro e w1 ⟨rfl, hb1⟩; have HB1 := Aside0.mk hb1; clear hb1)
    go_ret
    exact ⟨ret_bool (by rw [← E.out]; simp), HB1.out⟩
end Go.Proofs.Ytkaihdpmjlhlaaa.Q

namespace Go.Proofs.Ytkaihdpmjlhlaaa.Q
open Go.RowKit Go.Proofs.YtkaihdpmjlhlaaaW.PrintWords Go.Proofs.YtkaihdpmjlhlaaaW.PrintLast Go.Proofs.YtkaihdpmjlhlaaaW.PrintMore
set_option linter.unusedVariables false
set_option linter.unusedSimpArgs false

/-- One item more. -/
def addTo (items : List Item) (s : Int × Int × Int) (i : Int) : Int × Int × Int :=
  (wrap64 (s.1 + (rd_T49 items i).f0), wrap64 (s.2.1 + (rd_T49 items i).f1), wrap64 (s.2.2 + (rd_T49 items i).f2))
def Inside (items : List Item) (ch : List Int) : Prop := ∀ i ∈ ch, 0 ≤ i ∧ i < (items.length : Int)
/-- Weight, bulk and value together. -/
def tot (items : List Item) (ch : List Int) : Int × Int × Int := ch.foldl (addTo items) (0, 0, 0)

theorem totals_l0 (items : List Item) (ch : List Int) (hw : Inside items ch) (hn : ch.length ≤ 100000000000000) : ∀ d k i (s : Int × Int × Int), i + d = ch.length → d < k →
    impl_totals.l0 k items ch (ch.length : Int) (i : Int) s.1 s.2.1 s.2.2 = some ((ch.drop i).foldl (addTo items) s) := by
  intro d
  induction d with
  | zero =>
    intro k i s hi hk
    obtain ⟨k, rfl⟩ : ∃ m, k = m + 1 := ⟨k - 1, by omega⟩
    simp only [impl_totals.l0]; rw [if_neg (by omega), List.drop_of_length_le (by omega)]; rfl
  | succ d ih =>
    intro k i s hi hk
    obtain ⟨k, rfl⟩ : ∃ m, k = m + 1 := ⟨k - 1, by omega⟩
    have hlt : i < ch.length := by omega
    have hin := hw ch[i] (List.getElem_mem hlt)
    simp only [impl_totals.l0]
    rw [if_pos (by omega), if_pos (by omega), if_pos (by omega), rd_nat ch i hlt, if_pos hin.1, if_pos hin.2, w64 (i := (i : Int) + 1) (by omega) (by omega), List.drop_eq_getElem_cons hlt, List.foldl_cons]
    have := ih k (i + 1) (addTo items s ch[i]) (by omega) (by omega)
    rw [show ((i + 1 : Nat) : Int) = (i : Int) + 1 by omega] at this
    exact this
theorem totals_eq (items : List Item) (ch : List Int) (hw : Inside items ch) (hn : ch.length ≤ 100000000000000) (k : Nat) (hk : ch.length < k) : impl_totals.f k items ch = some (tot items ch) := by
  unfold impl_totals.f
  exact totals_l0 items ch hw hn ch.length k 0 (0, 0, 0) (by omega) hk
theorem suTotals_l0 (items : List Item) (ch : List Int) (hw : Inside items ch) (hn : ch.length ≤ 100000000000000) : ∀ d k i (s : Int × Int × Int), i + d = ch.length → d < k →
    spec_suTotals.l0 k items s.1 s.2.1 s.2.2 ch (ch.length : Int) (i : Int) = some ((ch.drop i).foldl (addTo items) s) := by
  intro d
  induction d with
  | zero =>
    intro k i s hi hk
    obtain ⟨k, rfl⟩ : ∃ m, k = m + 1 := ⟨k - 1, by omega⟩
    simp only [spec_suTotals.l0]; rw [if_neg (by omega), List.drop_of_length_le (by omega)]; rfl
  | succ d ih =>
    intro k i s hi hk
    obtain ⟨k, rfl⟩ : ∃ m, k = m + 1 := ⟨k - 1, by omega⟩
    have hlt : i < ch.length := by omega
    have hin := hw ch[i] (List.getElem_mem hlt)
    simp only [spec_suTotals.l0]
    rw [if_pos (by omega), if_pos (by omega), if_pos (by omega), rd_nat ch i hlt, if_pos hin.1, if_pos hin.2, w64 (i := (i : Int) + 1) (by omega) (by omega), List.drop_eq_getElem_cons hlt, List.foldl_cons]
    have := ih k (i + 1) (addTo items s ch[i]) (by omega) (by omega)
    rw [show ((i + 1 : Nat) : Int) = (i : Int) + 1 by omega] at this
    exact this
theorem suTotals_eq (items : List Item) (ch : List Int) (hw : Inside items ch) (hn : ch.length ≤ 100000000000000) (k : Nat) (hk : ch.length < k) : spec_suTotals.f k items ch = some (tot items ch) := by
  unfold spec_suTotals.f
  exact suTotals_l0 items ch hw hn ch.length k 0 (0, 0, 0) (by omega) hk

/-- A list of items, strictly increasing. -/
def IsChosen (items : List Item) (ch : List Int) : Prop := (∀ j (h : j < ch.length), 1 ≤ j → ch[j - 1] < ch[j]) ∧ Inside items ch

theorem areChosen_l0 (items : List Item) (ch : List Int) (hm : items.length ≤ 100000000000000) (hn : ch.length ≤ 100000000000000) : ∀ d k i, ch.length - i = d → 1 ≤ i → d < k → (∀ j (h : j < ch.length), 1 ≤ j → j < i → ch[j - 1] < ch[j]) →
    ∃ b, impl_areChosen.l0 k items ch (i : Int) = some b ∧ (b = true ↔ IsChosen items ch) := by
  intro d
  induction d with
  | zero =>
    intro k i hi h1 hk hinv
    obtain ⟨k, rfl⟩ : ∃ m, k = m + 1 := ⟨k - 1, by omega⟩
    simp only [impl_areChosen.l0]; rw [if_neg (by omega), w64 (by omega) (by omega)]
    unfold impl_areWithin.f
    refine ⟨_, rfl, ?_⟩
    rw [List.all_eq_true]
    refine ⟨fun h => ⟨fun j hj hj1 => hinv j hj hj1 (by omega), fun x hx => ?_⟩, fun h x hx => ?_⟩
    · have := h x hx
      simp only [Bool.and_eq_true, decide_eq_true_eq] at this
      omega
    · have := h.2 x hx
      simp only [Bool.and_eq_true, decide_eq_true_eq]
      omega
  | succ d ih =>
    intro k i hi h1 hk hinv
    obtain ⟨k, rfl⟩ : ∃ m, k = m + 1 := ⟨k - 1, by omega⟩
    have hlt : i < ch.length := by omega
    simp only [impl_areChosen.l0]
    rw [if_pos (by omega), if_pos (by omega), w64 (i := (i : Int) - 1) (by omega) (by omega), if_pos (by omega), if_pos (by omega), rd_nat ch i hlt, show (i : Int) - 1 = ((i - 1 : Nat) : Int) by omega, rd_nat ch (i - 1) (by omega), w64 (i := (i : Int) + 1) (by omega) (by omega)]
    by_cases h : ch[i] ≤ ch[i - 1]
    · rw [if_pos h]
      refine ⟨false, rfl, ⟨fun h => Bool.noConfusion h, fun hc => ?_⟩⟩
      have := hc.1 i hlt h1
      omega
    · rw [if_neg h, show (i : Int) + 1 = ((i + 1 : Nat) : Int) by omega]
      exact ih k (i + 1) (by omega) (by omega) (by omega) (fun j hj hj1 hj2 => by
        by_cases e : j = i
        · subst e; omega
        · exact hinv j hj hj1 (by omega))
theorem areChosen_eq (items : List Item) (ch : List Int) (hm : items.length ≤ 100000000000000) (hn : ch.length ≤ 100000000000000) (k : Nat) (hk : ch.length < k) : ∃ b, impl_areChosen.f k items ch = some b ∧ (b = true ↔ IsChosen items ch) := by
  unfold impl_areChosen.f
  exact areChosen_l0 items ch hm hn (ch.length - 1) k 1 rfl (by omega) (by omega) (fun j _ h1 h2 => absurd h1 (by omega))

theorem l1Rising_l0 (items : List Item) (ch : List Int) (hm : items.length ≤ 100000000000000) (hn : ch.length ≤ 100000000000000) : ∀ d k i, i + d = ch.length → d < k → (∀ j (h : j < ch.length), 1 ≤ j → j < i → ch[j - 1] < ch[j]) → (∀ j (h : j < ch.length), j < i → 0 ≤ ch[j] ∧ ch[j] < (items.length : Int)) →
    ∃ b, spec_l1Rising.l0 k ch 0 ((items.length : Int) - 1) ch (ch.length : Int) (i : Int) = some b ∧ (b = true ↔ IsChosen items ch) := by
  intro d
  induction d with
  | zero =>
    intro k i hi hk hinv hin
    obtain ⟨k, rfl⟩ : ∃ m, k = m + 1 := ⟨k - 1, by omega⟩
    simp only [spec_l1Rising.l0]; rw [if_neg (by omega)]
    refine ⟨true, rfl, ⟨fun _ => ⟨fun j hj hj1 => hinv j hj hj1 (by omega), fun x hx => ?_⟩, fun _ => rfl⟩⟩
    obtain ⟨j, hj, rfl⟩ := List.mem_iff_getElem.1 hx
    exact hin j hj (by omega)
  | succ d ih =>
    intro k i hi hk hinv hin
    obtain ⟨k, rfl⟩ : ∃ m, k = m + 1 := ⟨k - 1, by omega⟩
    have hlt : i < ch.length := by omega
    simp only [spec_l1Rising.l0, inItem, Option.bind_some]
    rw [if_pos (by omega), if_pos (by omega), if_pos (by omega), rd_nat ch i hlt]
    by_cases hb : 0 ≤ ch[i] ∧ ch[i] < (items.length : Int)
    · rw [if_pos (by simp only [Bool.and_eq_true, decide_eq_true_eq]; omega), w64 (i := (i : Int) + 1) (by omega) (by omega)]
      have hin' : ∀ j (h : j < ch.length), j < i + 1 → 0 ≤ ch[j] ∧ ch[j] < (items.length : Int) := fun j hj hj2 => by
        by_cases e : j = i
        · subst e; exact hb
        · exact hin j hj (by omega)
      by_cases h0 : i = 0
      · subst h0
        rw [if_neg (by omega)]
        exact ih k 1 (by omega) (by omega) (fun j _ h1 h2 => absurd h1 (by omega)) hin'
      · rw [if_pos (by omega), w64 (i := (i : Int) - 1) (by omega) (by omega), if_pos (by omega), if_pos (by omega), show (i : Int) - 1 = ((i - 1 : Nat) : Int) by omega, rd_nat ch (i - 1) (by omega)]
        by_cases h : ch[i] ≤ ch[i - 1]
        · rw [if_pos h]
          refine ⟨false, rfl, ⟨fun h => Bool.noConfusion h, fun hc => ?_⟩⟩
          have := hc.1 i hlt (by omega)
          omega
        · rw [if_neg (by omega), show (i : Int) + 1 = ((i + 1 : Nat) : Int) by omega]
          exact ih k (i + 1) (by omega) (by omega) (fun j hj hj1 hj2 => by
            by_cases e : j = i
            · subst e; omega
            · exact hinv j hj hj1 (by omega)) hin'
    · rw [if_neg (by simp only [Bool.and_eq_true, decide_eq_true_eq]; omega)]
      exact ⟨false, rfl, ⟨fun h => Bool.noConfusion h, fun hc => absurd (hc.2 _ (List.getElem_mem hlt)) hb⟩⟩
theorem suList_eq (items : List Item) (ch : List Int) (hm : items.length ≤ 100000000000000) (hn : ch.length ≤ 100000000000000) (k : Nat) (hk : ch.length < k) : ∃ b, spec_suList.f k items ch = some b ∧ (b = true ↔ IsChosen items ch) := by
  unfold spec_suList.f spec_l1Rising.f
  by_cases h : ch.length = 0
  · rw [if_pos (by omega)]
    refine ⟨true, rfl, ⟨fun _ => ⟨fun j hj => absurd hj (by omega), fun x hx => ?_⟩, fun _ => rfl⟩⟩
    rw [List.eq_nil_of_length_eq_zero h] at hx
    cases hx
  · rw [if_neg (by omega), w64 (by omega) (by omega)]
    obtain ⟨b, hb, hi⟩ := l1Rising_l0 items ch hm hn ch.length k 0 (by omega) hk (fun j _ h1 h2 => absurd h1 (by omega)) (fun j _ h => absurd h (by omega))
    exact ⟨b, by simp only [Int.natCast_zero] at hb; rw [hb]; rfl, hi⟩
/-- Both tell the same. -/
theorem chosen_both (items : List Item) (ch : List Int) (hm : items.length ≤ 100000000000000) (hn : ch.length ≤ 100000000000000) : ∃ b, (∀ k, ch.length < k → impl_areChosen.f k items ch = some b) ∧ (∀ k, ch.length < k → spec_suList.f k items ch = some b) ∧ (b = true ↔ IsChosen items ch) := by
  obtain ⟨b, h1, hb⟩ := areChosen_eq items ch hm hn (ch.length + 1) (by omega)
  refine ⟨b, fun k hk => ?_, fun k hk => ?_, hb⟩
  · obtain ⟨b', h2, hb'⟩ := areChosen_eq items ch hm hn k hk
    rw [h2, Bool.eq_iff_iff.2 (hb'.trans hb.symm)]
  · obtain ⟨b', h2, hb'⟩ := suList_eq items ch hm hn k hk
    rw [h2, Bool.eq_iff_iff.2 (hb'.trans hb.symm)]
end Go.Proofs.Ytkaihdpmjlhlaaa.Q

namespace Go.Proofs.Ytkaihdpmjlhlaaa.Q
open Go.RowKit Go.Shelf Go.Proofs.YtkaihdpmjlhlaaaW.PrintWords Go.Proofs.YtkaihdpmjlhlaaaW.PrintLast Go.Proofs.YtkaihdpmjlhlaaaW.PrintMore
set_option linter.unusedVariables false
set_option linter.unusedSimpArgs false

/-- The lists on the way behind a list, in order: d more places from 'from' on. -/
def loopV : Nat → List Int → Nat → List (List Int)
  | 0, _, _ => []
  | d + 1, ch, i => ((ch ++ [(i : Int)]) :: loopV d (ch ++ [(i : Int)]) (i + 1)) ++ loopV d ch (i + 1)

abbrev valTot (x : Int × Int × Int) : Value := .agg #[.int .i64 x.1, .int .i64 x.2.1, .int .i64 x.2.2]
abbrev kInt : Kd Int := Kd.int .i64
/-- One list. -/
def visit {σ : Type} (items : List Item) (accept : Int × Int × Int → Bool) (step : σ → List Int → σ) (s : σ) (ch : List Int) : σ := if accept (tot items ch) = true then step s ch else s

/-- What the two functions that choices is handed do. -/
structure Two {σ : Type} (items : List Item) (S : Nat → Prop) (I : σ → World → Prop) (base : Nat) (w1 : World) (ga : Nat) (bda fra : Array Value) (ge : Nat) (bde fre : Array Value) (accept : Int × Int × Int → Bool) (step : σ → List Int → σ) : Prop where
  ea : ∀ args w, (callFunc ga args).run Try.prog w = .ok (.enter ga args) w
  ee : ∀ args w, (callFunc ge args).run Try.prog w = .ok (.enter ge args) w
  st : ∀ s W W', I s W → Below W.heap.size W W' → I s W'
  acc : ∀ W x, Fr S w1 W → Calls Try.prog ga (bda.push (valTot x) ++ fra) W fun e w' => e = .returned (.bool (accept x)) ∧ Below W.heap.size W w'
  each : ∀ s W v ch, Fr S w1 W → I s W → Kd.R kInt 3 W base (fun k => ¬ S k) v ch → Inside items ch → ch.length ≤ items.length → accept (tot items ch) = true →
    Calls Try.prog ge (bde ++ (#[v, valTot (tot items ch)] ++ fre)) W fun e w' => e = .returned (.tuple #[]) ∧ I (step s ch) w' ∧ Fr S W w'

set_option maxRecDepth 100000 in
set_option maxHeartbeats 4000000 in
theorem choose_calls {σ : Type} (items : List Item) (A0 : Option Addr) (c0 : Nat) (S : Nat → Prop) (I : σ → World → Prop) (base : Nat) (w1 : World) (ga : Nat) (bda fra : Array Value) (ge : Nat) (bde fre : Array Value) (accept : Int × Int × Int → Bool) (step : σ → List Int → σ)
    (Bi Ba Be Bc : Nat) (hn : items.length ≤ 1000) (T : Two items S I base w1 ga bda fra ge bde fre accept step) (hb1 : base ≤ w1.heap.size) (hSl : ∀ k, S k → k < w1.heap.size)
    (hC : ∀ W, Fr S w1 W → Kd.C k49 W A0 items.length items) (hc0 : items.length ≤ c0)
    (xi : Boxed w1 Bi 28 (.slice A0 items.length c0)) (xa : Boxed w1 Ba 69 (.func (.func ga) bda fra)) (xe : Boxed w1 Be 75 (.func (.func ge) bde fre))
    (xc : Boxed w1 Bc 88 (.func (.func 83) #[] #[.pointer (some ⟨Bi, 0, none⟩), .pointer (some ⟨Ba, 0, none⟩), .pointer (some ⟨Be, 0, none⟩), .pointer (some ⟨Bc, 0, none⟩)]))
    (ni : ¬ S Bi) (na : ¬ S Ba) (ne : ¬ S Be) (nc : ¬ S Bc) :
    ∀ d s W v ch i, i + d = items.length → Fr S w1 W → I s W → Kd.R kInt 3 W base (fun k => ¬ S k) v ch → (∀ x ∈ ch, 0 ≤ x ∧ x < (i : Int)) → ch.length ≤ i →
      Calls Try.prog 83 #[v, .int .i64 (i : Int), .pointer (some ⟨Bi, 0, none⟩), .pointer (some ⟨Ba, 0, none⟩), .pointer (some ⟨Be, 0, none⟩), .pointer (some ⟨Bc, 0, none⟩)] W fun e w' => e = .returned (.tuple #[]) ∧ I ((ch :: loopV d ch i).foldl (visit items accept step) s) w' ∧ Fr S W w' := by
  intro d
  induction d using Nat.strongRecOn with
  | _ d ih =>
  intro s W v ch i hd hF hI hv hch hlen
  have hins : Inside items ch := fun x hx => by have := hch x hx; omega
  have htot : ∃ k, impl_totals.f k items ch = some (tot items ch) := ⟨ch.length + 1, totals_eq items ch hins (by omega) _ (by omega)⟩
  obtain ⟨kt, hkt⟩ := htot
  obtain ⟨A1, c1, rfl, hc1, hC1⟩ := Kd.R_reads hv
  have HI := Aside0.mk hI
  have HV := Aside0.mk hv
  have HF := Aside0.mk hF
  have HC1 := Aside0.mk hC1
  have XI := Aside0.mk xi
  have XA := Aside0.mk xa
  have XE := Aside0.mk xe
  have XC := Aside0.mk xc
  have q1 := (box_fr xi hF ni).cell
  have IH := Aside0.mk ih
  have HCH := Aside0.mk hch
  have HKT := Aside0.mk hkt
  have HD := Aside0.mk hd
  clear hI hv hF hC1 xi xa xe xc ih hch hkt
  have ea := T.ea
  have ee := T.ee
  go_enter Try.func83, Try.ntmps83
  go_wp2_with (go_at_call 56; refine (impl_totals.calls kt A0 c0 items A1 c1 ch (tot items ch).1 (tot items ch).2.1 (tot items ch).2.2 _ (hC _ HF.out) hc0 HC1.out hc1 HKT.out).mono ?_; rintro e w2 ⟨rfl, hb2⟩; have F2 := Aside0.mk (HF.out.then hb2); have q3 := ((box_fr XA.out F2.out na).alloc (.cells #[.int .i64 (tot items ch).1, .int .i64 (tot items ch).2.1, .int .i64 (tot items ch).2.2] 49)).cell)
  obtain ⟨W3, hW3⟩ : ∃ W3, w2.alloc (.cells #[.int .i64 (tot items ch).1, .int .i64 (tot items ch).2.1, .int .i64 (tot items ch).2.2] 49) = W3 := ⟨_, rfl⟩
  have F3 := Aside0.mk (F2.out.alloc (.cells #[.int .i64 (tot items ch).1, .int .i64 (tot items ch).2.1, .int .i64 (tot items ch).2.2] 49))
  have B3 := Aside0.mk (hb2.alloc (o := .cells #[.int .i64 (tot items ch).1, .int .i64 (tot items ch).2.1, .int .i64 (tot items ch).2.2] 49) hb2.size)
  have A3 : Aside0 (∀ W', Below W3.heap.size W3 W' → W'.cell? ⟨w2.heap.size, 0, none⟩ = some (.int .i64 (tot items ch).1) ∧ W'.cell? ⟨w2.heap.size, 1, none⟩ = some (.int .i64 (tot items ch).2.1) ∧ W'.cell? ⟨w2.heap.size, 2, none⟩ = some (.int .i64 (tot items ch).2.2)) := ⟨fun W' hb => by
    have hnew := heap_alloc_new w2 (.cells #[.int .i64 (tot items ch).1, .int .i64 (tot items ch).2.1, .int .i64 (tot items ch).2.2] 49)
    rw [hW3] at hnew
    have h2 := (hb.block w2.heap.size (by rw [← hW3]; simp)).trans hnew
    refine ⟨?_, ?_, ?_⟩ <;> simp [World.cell?, h2]⟩
  rw [hW3] at F3 B3 q3 ⊢
  clear hW3 hb2 q1 q3
  generalize ha : accept (tot items ch) = ac
  have hacc := T.acc W3 (tot items ch) F3.out
  rw [ha] at hacc
  have HA := Aside0.mk ha
  clear ha
  cases ac
  case' false =>
    go_wp2_with (go_at_fn ga; refine hacc.mono ?_; rintro e w5 ⟨rfl, hb4⟩)
    have I5 : Aside0 (I (visit items accept step s ch) w5) := ⟨by unfold visit; rw [HA.out]; exact T.st _ _ _ HI.out (B3.out.trans (hb4.mono B3.out.size))⟩
    have F5 := Aside0.mk (F3.out.then hb4)
    have G5 := Aside0.mk (((Fr.of (S := S) B3.out)).then hb4)
    clear B3 F3 hb4 HI HA hacc A3
  case' true =>
    go_wp2_with (go_at_fn ga; refine hacc.mono ?_; rintro e w4 ⟨rfl, hb4⟩; have F4 := Aside0.mk (F3.out.then hb4); have q4 := (box_fr XE.out F4.out ne).cell; obtain ⟨q5, q6, q7⟩ := A3.out w4 hb4)
    have G4 := Aside0.mk (((Fr.of (S := S) B3.out)).then hb4)
    go_wp2_with (go_at_fn ge; refine (T.each s w4 (.slice A1 ch.length c1) ch F4.out (T.st _ _ _ HI.out (B3.out.trans (hb4.mono B3.out.size))) (R_fr HV.out G4.out (fun _ h => h)) hins (by omega) HA.out).mono ?_; rintro e w5 ⟨rfl, hI5, hF5⟩)
    have I5 : Aside0 (I (visit items accept step s ch) w5) := ⟨by unfold visit; rw [HA.out]; exact hI5⟩
    have F5 := Aside0.mk (F4.out.trans hF5)
    have G5 := Aside0.mk (G4.out.trans hF5)
    clear B3 F3 hb4 HI HA hacc A3 q4 q5 q6 q7 F4 G4 hI5 hF5
  all_goals
    clear F2 HC1
    go_loopg [9] items.length (fun gg s9 wr => ∃ j : Nat, s9 = .int .i64 (j : Int) ∧ i ≤ j ∧ j ≤ items.length ∧ items.length - j ≤ gg ∧ Aside0 (∃ st, I st wr ∧ (loopV (items.length - j) ch j).foldl (visit items accept step) st = (loopV d ch i).foldl (visit items accept step) (visit items accept step s ch)) ∧ Aside0 (Fr S W wr))
    case atStart => exact ⟨i, rfl, Nat.le_refl _, by omega, by omega, ⟨_, I5.out, by rw [show items.length - i = d by omega]⟩, G5⟩
    case round =>
      obtain ⟨j, rfl, hij, hjn, hgg, II, GG⟩ := hrel
      have FF := Aside0.mk (HF.out.trans GG.out)
      have q1 := (box_fr XI.out FF.out ni).cell
      by_cases hlt : j < items.length
      · have hltz : (j : Int) < (items.length : Int) := by omega
        obtain ⟨st, hst, hfold⟩ := II.out
        have HST := Aside0.mk hst
        have HFO := Aside0.mk hfold
        have XCR := Aside0.mk (box_fr XC.out FF.out nc)
        have HSR : Aside0 (∀ k, S k → k < wr.heap.size) := ⟨fun k hk => Nat.lt_of_lt_of_le (hSl k hk) FF.out.size⟩
        have HBR : Aside0 (base ≤ wr.heap.size) := ⟨Nat.le_trans hb1 FF.out.size⟩
        have HVr := Aside0.mk (R_fr HV.out GG.out (fun _ h => h))
        have HCr : Aside0 (∀ W', Fr S wr W' → Kd.C kInt W' A1 ch.length ch) := ⟨fun W' h => by
          obtain ⟨A', c', he, _, hC'⟩ := Kd.R_reads (R_fr HVr.out h (fun _ h => h))
          injection he with he1 he2 he3
          subst he1
          exact hC'⟩
        have hIns : Aside0 (∀ x ∈ ch ++ [(j : Int)], 0 ≤ x ∧ x < ((j + 1 : Nat) : Int)) := ⟨fun x hx => by
          rcases List.mem_append.1 hx with hx | hx
          · have := HCH.out x hx; omega
          · have := List.mem_singleton.1 hx; omega⟩
        have hLen : Aside0 ((ch ++ [(j : Int)]).length ≤ j + 1) := ⟨by simp; omega⟩
        have hmix : Try.prog.follows .mixedOrders = true := by kernel_rfl
        clear II hst hfold
        go_wp2
        have hwr : IntKind.i64.wrap ((j : Int) + 1) = ((j + 1 : Nat) : Int) := by rw [IntWalk.i64_in _ (by omega)]; omega
        go_region_held3 (fun W' => W'.cell? ⟨Bc, 0, none⟩ = some (.func (.func 83) #[] #[.pointer (some ⟨Bi, 0, none⟩), .pointer (some ⟨Ba, 0, none⟩), .pointer (some ⟨Be, 0, none⟩), .pointer (some ⟨Bc, 0, none⟩)]) ∧ Fr S wr W')
          (first | exact held_keep XCR.out nc (Fr.drew (Fr.refl _ _)) | exact held_keep XCR.out nc (by assumption) | exact held_keep XCR.out nc (Fr.alloc (And.right (by assumption)) _))
          (first
            | (go_at_call 59; refine (clone_int A1 c1 ch _ (HCr.out _ (And.right (by assumption))) hc1 (by omega)).mono ?_; rintro e w6 ⟨v6, rfl, hR6, hb6⟩;
                have hfr6 : Fr S wr w6 := Fr.then (And.right (by assumption)) hb6;
                have hbl6 : Below wr.heap.size wr w6 := (by first | exact ((Below.refl _ wr).drew).trans (hb6.mono (Nat.le_refl _)) | exact ((((Below.refl _ wr).drew).alloc (Nat.le_refl _) _)).trans (hb6.mono (by simp)));
                have hRR := own_new (S := S) (wr := wr) (base := base) hR6 (by simp) HSR.out HBR.out)
            | (go_at_call 83; refine (IH.out (items.length - (j + 1)) (by have := HD.out; omega) st w7 v7 (ch ++ [(j : Int)]) (j + 1) (by omega) (FF.out.trans hfr7) (T.st _ _ _ HST.out hbl7) (Kd.R_mono hR7 (fun _ h => h.1)) hIns.out hLen.out).mono ?_; rintro e w8 ⟨rfl, hI8, hF8⟩;
                have hfr8 : Fr S wr w8 := hfr7.trans hF8)
            | (refine app_int (by rfl) _ _ _ base (fun k => ¬ S k ∧ wr.heap.size ≤ k) rfl v6 ch (j : Int) _ rfl rfl ?hcell ?hl ?HO ?hbase ?hfresh ?_;
                (case hcell => first | exact lit_cell _ _ _ | exact lit_cell2 hb6 | exact lit_cell3 hb6);
                (case hl => omega);
                (case HO => first | exact Kd.R_below hRR ((Below.refl _ _).alloc (Nat.le_refl _) _) | exact hRR);
                (case hbase => first | exact Nat.le_trans HBR.out hbl6.size | exact Nat.le_trans HBR.out (hbl6.alloc hbl6.size _).size);
                (case hfresh => first | exact fresh_ok HSR.out hbl6.size | exact fresh_ok HSR.out (hbl6.alloc hbl6.size _).size);
                intro v7 w7 hR7 hg7;
                have hrow : ∀ k, v6.ownBlock = some k → wr.heap.size ≤ k := fun k hk => (hRR.1 k hk).2;
                have hfr7 : Fr S wr w7 := Fr.grown (And.right (by assumption)) hg7 hrow;
                have hbl7 : Below wr.heap.size wr w7 := (by first | exact hbl6.grown hg7 hbl6.size hrow | exact (hbl6.alloc hbl6.size _).grown hg7 (hbl6.alloc hbl6.size _).size hrow)))
        all_goals
          go_wp2
          go_roundg (items.length - (j + 1))
          case measure => omega
          case rel =>
            refine ⟨j + 1, by go_num, by omega, by omega, by omega, ⟨_, hI8, ?_⟩, ⟨GG.out.trans hfr8⟩⟩
            rw [← HFO.out, show items.length - j = (items.length - (j + 1)) + 1 by omega, loopV, List.foldl_append]
      · have hltz : ¬ (j : Int) < (items.length : Int) := by omega
        go_wp2
        go_end0
        obtain ⟨st, hst, hr⟩ := II.out
        rw [show items.length - j = 0 by omega] at hr
        refine ⟨rfl, ?_, GG.out⟩
        rw [← hr]
        exact hst
end Go.Proofs.Ytkaihdpmjlhlaaa.Q

namespace Go.Proofs.Ytkaihdpmjlhlaaa.Q
open Go.RowKit Go.Proofs.YtkaihdpmjlhlaaaW.PrintWords Go.Proofs.YtkaihdpmjlhlaaaW.PrintLast Go.Proofs.YtkaihdpmjlhlaaaW.PrintMore
attribute [local go_sem] max2_int min2_int max_two min_two max_three min_three max_four min_four   -- for this text's walks alone
set_option linter.unusedVariables false
set_option linter.unusedSimpArgs false

/-! ### spec_suFits: function 54 -/
def spec_suFits.f (k : Nat) (l0 : List (S49)) (a1_0 : Int) (a1_1 : Int) (l2 : List Int) : Option (Bool) := (spec_suTotals.f k l0 l2).bind fun bt124 => (if bt124.1 ≤ a1_0 then (some (decide (bt124.2.1 ≤ a1_1))) else (some false))
theorem spec_suFits.mono : ∀ a0 a1 a2 a3 k, LeO (spec_suFits.f k a0 a1 a2 a3) (spec_suFits.f (k + 1) a0 a1 a2 a3) := by
  intro a0 a1 a2 a3 k
  unfold spec_suFits.f
  repeat' first
      | (with_reducible exact spec_suTotals.mono _ _ _)
      | (with_reducible exact LeO.refl _)
      | (with_reducible exact LeO.none _)
      | (with_reducible refine LeO.ite ?_ ?_)
      | (with_reducible refine LeO.bind ?_ (fun _ => ?_))
      | exact spec_suTotals.mono _ _ _
      | exact LeO.none _
      | refine LeO.ite ?_ ?_
      | refine LeO.bind ?_ (fun _ => ?_)
set_option maxHeartbeats 8000000 in
set_option maxRecDepth 100000 in
theorem spec_suFits.calls (k : Nat) (A0 : Option Addr) (c0 : Nat) (l0 : List (S49)) (a1_0 : Int) (a1_1 : Int) (A2 : Option Addr) (c2 : Nat) (l2 : List Int) (r : Bool) (w : World) (hr0 : Kd.C k49 w A0 l0.length l0) (hc0 : l0.length ≤ c0) (hr2 : Kd.C (Kd.int .i64) w A2 l2.length l2) (hc2 : l2.length ≤ c2) (h : spec_suFits.f k l0 a1_0 a1_1 l2 = some r) :
    Calls Try.prog 54 #[.slice A0 l0.length c0, .agg #[.int .i64 a1_0, .int .i64 a1_1], .slice A2 l2.length c2] w fun e w' => e = .returned (.bool r) ∧ Below w.heap.size w w' := by
  have hu30 := Try.underlying30
  have HR0 := Aside0.mk hr0
  have HC0 := Aside0.mk hc0
  clear hr0 hc0
  have HR2 := Aside0.mk hr2
  have HC2 := Aside0.mk hc2
  clear hr2 hc2
  have HB := Aside0.mk (Below.refl w.heap.size w)
  have H : ((spec_suTotals.f k l0 l2).bind fun bt124 => (if bt124.1 ≤ a1_0 then (some (decide (bt124.2.1 ≤ a1_1))) else (some false))) = some r := h
  clear h
  replace H := Option.bind_eq_some_iff.mp H
  obtain ⟨⟨t124, t125, t126⟩, A40, H⟩ := H
  replace H : (if t124 ≤ a1_0 then (some (decide (t125 ≤ a1_1))) else (some false)) = some r := H
  have A4 := Aside0.mk A40
  clear A40
  by_cases c5 : t124 ≤ a1_0
  · rw [if_pos c5] at H
    have c5b0 : decide (t124 ≤ a1_0) = true := decide_eq_true c5
    clear c5
    obtain rfl := Option.some.inj H
    go_enter Try.func54, Try.ntmps54
    go_wp2_with (first | ((with_reducible refine gate_dst (N := 4) rfl ?_); refine box_event ?hg (N := 4) ?hd (cs := #[.int .i64 a1_0, .int .i64 a1_1]) (t := 30) ?hr ?_; (case hd => rfl); (case hg => rfl); (case hr => first | (go_simp; done) | (go_simp; rfl)); intro gb123 hg w6 hbox hb; have n0_ := Aside0.mk (below_step (by repeat (first | (with_reducible first | exact HB.out | apply below_alloc | apply pw_below_drewN | apply below_drew1) | exact HB.out)) hb); have n1_ := Aside0.mk (hbox); have n2_ := Aside0.mk ((by rw [hg]; exact (below_size (by repeat (first | (with_reducible first | exact HB.out | apply below_alloc | apply pw_below_drewN | apply below_drew1) | exact HB.out))) : w.heap.size ≤ gb123)); have n3_ := Aside0.mk ((by rw [hg]; exact (below_size (by repeat (first | (with_reducible first | exact HB.out | apply below_alloc | apply pw_below_drewN | apply below_drew1) | exact HB.out))) : w.heap.size ≤ gb123)); clear HB; have HB := n0_; have BK123 := n1_; have GW123 := n2_; have GE123 := n3_; clear n0_ n1_ n2_ n3_; clear hb hbox hg) | ((with_reducible refine gate_callee (f := 50) rfl ?_); refine goesL_ (some 13) rfl rfl Try.func50 (by kernel_rfl) rfl #[.slice A0 l0.length c0, .slice A2 l2.length c2] rfl (by (try simp only [List.map_toArray, List.map_cons, List.map_nil]); first | done | rfl | (simp only [List.length_drop, List.length_take]; rfl)) ?_; (with_reducible refine (spec_suTotals.calls k _ _ l0 _ _ l2 t124 t125 t126 _ ?side1 ?side2 ?side3 ?side4 A4.out).mono ?_); (case side1 => repeat (first | exact (Kd.C_below HR0.out HB.out) | (with_reducible refine Kd.C_alloc ?_ _) | (with_reducible refine Kd.C_drewN ?_ _) | (with_reducible refine Kd.C_drew ?_))); (case side2 => exact HC0.out); (case side3 => repeat (first | exact (Kd.C_below HR2.out HB.out) | (with_reducible refine Kd.C_alloc ?_ _) | (with_reducible refine Kd.C_drewN ?_ _) | (with_reducible refine Kd.C_drew ?_))); (case side4 => exact HC2.out); rintro e w' ⟨rfl, ⟨nd, rfl⟩⟩; refine ⟨_, rfl, ?_⟩; have hcz7_0 : w6.cell? ⟨gb123, 0, none⟩ = some (.int .i64 a1_0) := (blk_cell BK123.out 0).trans rfl; have hcz7_1 : w6.cell? ⟨gb123, 1, none⟩ = some (.int .i64 a1_1) := (blk_cell BK123.out 1).trans rfl; have hfz7_0 := blk_frozen BK123.out 0; have hfz7_1 := blk_frozen BK123.out 1))
    go_ret
    exact ⟨by first | rfl | (simp [errW_none, errW_some] <;> rfl) | (simp [*, errW_none, errW_some] <;> rfl), by repeat (first | (with_reducible first | exact HB.out | apply below_alloc | apply pw_below_drewN | apply below_drew1 | refine below_set ?_ GE123.out) | exact HB.out)⟩
  · rw [if_neg c5] at H
    have c5b0 : decide (t124 ≤ a1_0) = false := decide_eq_false c5
    clear c5
    obtain rfl := Option.some.inj H
    go_enter Try.func54, Try.ntmps54
    go_wp2_with (first | ((with_reducible refine gate_dst (N := 4) rfl ?_); refine box_event ?hg (N := 4) ?hd (cs := #[.int .i64 a1_0, .int .i64 a1_1]) (t := 30) ?hr ?_; (case hd => rfl); (case hg => rfl); (case hr => first | (go_simp; done) | (go_simp; rfl)); intro gb123 hg w8 hbox hb; have n0_ := Aside0.mk (below_step (by repeat (first | (with_reducible first | exact HB.out | apply below_alloc | apply pw_below_drewN | apply below_drew1) | exact HB.out)) hb); have n1_ := Aside0.mk (hbox); have n2_ := Aside0.mk ((by rw [hg]; exact (below_size (by repeat (first | (with_reducible first | exact HB.out | apply below_alloc | apply pw_below_drewN | apply below_drew1) | exact HB.out))) : w.heap.size ≤ gb123)); have n3_ := Aside0.mk ((by rw [hg]; exact (below_size (by repeat (first | (with_reducible first | exact HB.out | apply below_alloc | apply pw_below_drewN | apply below_drew1) | exact HB.out))) : w.heap.size ≤ gb123)); clear HB; have HB := n0_; have BK123 := n1_; have GW123 := n2_; have GE123 := n3_; clear n0_ n1_ n2_ n3_; clear hb hbox hg) | ((with_reducible refine gate_callee (f := 50) rfl ?_); refine goesL_ (some 13) rfl rfl Try.func50 (by kernel_rfl) rfl #[.slice A0 l0.length c0, .slice A2 l2.length c2] rfl (by (try simp only [List.map_toArray, List.map_cons, List.map_nil]); first | done | rfl | (simp only [List.length_drop, List.length_take]; rfl)) ?_; (with_reducible refine (spec_suTotals.calls k _ _ l0 _ _ l2 t124 t125 t126 _ ?side1 ?side2 ?side3 ?side4 A4.out).mono ?_); (case side1 => repeat (first | exact (Kd.C_below HR0.out HB.out) | (with_reducible refine Kd.C_alloc ?_ _) | (with_reducible refine Kd.C_drewN ?_ _) | (with_reducible refine Kd.C_drew ?_))); (case side2 => exact HC0.out); (case side3 => repeat (first | exact (Kd.C_below HR2.out HB.out) | (with_reducible refine Kd.C_alloc ?_ _) | (with_reducible refine Kd.C_drewN ?_ _) | (with_reducible refine Kd.C_drew ?_))); (case side4 => exact HC2.out); rintro e w' ⟨rfl, ⟨nd, rfl⟩⟩; refine ⟨_, rfl, ?_⟩; have hcz9_0 : w8.cell? ⟨gb123, 0, none⟩ = some (.int .i64 a1_0) := (blk_cell BK123.out 0).trans rfl; have hcz9_1 : w8.cell? ⟨gb123, 1, none⟩ = some (.int .i64 a1_1) := (blk_cell BK123.out 1).trans rfl; have hfz9_0 := blk_frozen BK123.out 0; have hfz9_1 := blk_frozen BK123.out 1))
    go_ret
    exact ⟨by first | rfl | (simp [errW_none, errW_some] <;> rfl) | (simp [*, errW_none, errW_some] <;> rfl), by repeat (first | (with_reducible first | exact HB.out | apply below_alloc | apply pw_below_drewN | apply below_drew1 | refine below_set ?_ GE123.out) | exact HB.out)⟩

end Go.Proofs.Ytkaihdpmjlhlaaa.Q

namespace Go.Proofs.Ytkaihdpmjlhlaaa.Q
open Go.RowKit Go.Proofs.YtkaihdpmjlhlaaaW.PrintWords Go.Proofs.YtkaihdpmjlhlaaaW.PrintLast Go.Proofs.YtkaihdpmjlhlaaaW.PrintMore
attribute [local go_sem] max2_int min2_int max_two min_two max_three min_three max_four min_four   -- for this text's walks alone
set_option linter.unusedVariables false
set_option linter.unusedSimpArgs false

/-! ### impl_Case_holds: function 60 -/
def impl_Case_holds.f (a0_0 : Int) (a0_1 : Int) (a1_0 : Int) (a1_1 : Int) (a1_2 : Int) : Option (Bool) := if a1_0 ≤ a0_0 then (some (decide (a1_1 ≤ a0_1))) else (some false)
set_option maxHeartbeats 8000000 in
set_option maxRecDepth 100000 in
theorem impl_Case_holds.calls (a0_0 : Int) (a0_1 : Int) (a1_0 : Int) (a1_1 : Int) (a1_2 : Int) (r : Bool) (w : World) (h : impl_Case_holds.f a0_0 a0_1 a1_0 a1_1 a1_2 = some r) :
    Calls Try.prog 60 #[.agg #[.int .i64 a0_0, .int .i64 a0_1], .agg #[.int .i64 a1_0, .int .i64 a1_1, .int .i64 a1_2]] w fun e w' => e = .returned (.bool r) ∧ Below w.heap.size w w' := by
  have hu30 := Try.underlying30
  have hu49 := Try.underlying49
  have HB := Aside0.mk (Below.refl w.heap.size w)
  have H : (if a1_0 ≤ a0_0 then (some (decide (a1_1 ≤ a0_1))) else (some false)) = some r := h
  clear h
  by_cases c3 : a1_0 ≤ a0_0
  · rw [if_pos c3] at H
    have c3b0 : decide (a1_0 ≤ a0_0) = true := decide_eq_true c3
    clear c3
    obtain rfl := Option.some.inj H
    go_enter Try.func60, Try.ntmps60
    go_wp2_with (first | ((with_reducible refine gate_dst (N := 2) rfl ?_); refine box_event ?hg (N := 2) ?hd (cs := #[.int .i64 a0_0, .int .i64 a0_1]) (t := 30) ?hr ?_; (case hd => rfl); (case hg => rfl); (case hr => first | (go_simp; done) | (go_simp; rfl)); intro gb445 hg w4 hbox hb; have n0_ := Aside0.mk (below_step (by repeat (first | (with_reducible first | exact HB.out | apply below_alloc | apply pw_below_drewN | apply below_drew1) | exact HB.out)) hb); have n1_ := Aside0.mk (hbox); have n2_ := Aside0.mk ((by rw [hg]; exact (below_size (by repeat (first | (with_reducible first | exact HB.out | apply below_alloc | apply pw_below_drewN | apply below_drew1) | exact HB.out))) : w.heap.size ≤ gb445)); have n3_ := Aside0.mk ((by rw [hg]; exact (below_size (by repeat (first | (with_reducible first | exact HB.out | apply below_alloc | apply pw_below_drewN | apply below_drew1) | exact HB.out))) : w.heap.size ≤ gb445)); clear HB; have HB := n0_; have BK445 := n1_; have GW445 := n2_; have GE445 := n3_; clear n0_ n1_ n2_ n3_; clear hb hbox hg) | ((with_reducible refine gate_dst (N := 3) rfl ?_); refine box_event ?hg (N := 3) ?hd (cs := #[.int .i64 a1_0, .int .i64 a1_1, .int .i64 a1_2]) (t := 49) ?hr ?_; (case hd => rfl); (case hg => rfl); (case hr => first | (go_simp; done) | (go_simp; rfl)); intro gb446 hg w5 hbox hb; have n0_ := Aside0.mk (blk_below (g := gb445) (o := .cells #[.int .i64 a0_0, .int .i64 a0_1] 30 (0, 0)) (by (with_reducible repeat (first | refine blk_drewN ?_ _ | refine blk_drew ?_ | refine blk_alloc ?_ _)); exact BK445.out) hb); have n1_ := Aside0.mk (below_step (by repeat (first | (with_reducible first | exact HB.out | apply below_alloc | apply pw_below_drewN | apply below_drew1 | refine below_set ?_ GE445.out) | exact HB.out)) hb); have n2_ := Aside0.mk (hbox); have n3_ := Aside0.mk ((by rw [hg]; exact (below_size (by repeat (first | (with_reducible first | exact HB.out | apply below_alloc | apply pw_below_drewN | apply below_drew1 | refine below_set ?_ GE445.out) | exact HB.out))) : w.heap.size ≤ gb446)); have n4_ := Aside0.mk ((by rw [hg]; exact (below_size (by repeat (first | (with_reducible first | exact HB.out | apply below_alloc | apply pw_below_drewN | apply below_drew1 | refine below_set ?_ GE445.out) | exact HB.out))) : w.heap.size ≤ gb446)); have n5_ := Aside0.mk ((by rw [hg]; exact Nat.ne_of_lt (blk_lt (g := gb445) (o := .cells #[.int .i64 a0_0, .int .i64 a0_1] 30 (0, 0)) (by (with_reducible repeat (first | refine blk_drewN ?_ _ | refine blk_drew ?_ | refine blk_alloc ?_ _)); exact BK445.out)) : gb445 ≠ gb446)); have n6_ := Aside0.mk ((by rw [hg]; exact Nat.ne_of_gt (blk_lt (g := gb445) (o := .cells #[.int .i64 a0_0, .int .i64 a0_1] 30 (0, 0)) (by (with_reducible repeat (first | refine blk_drewN ?_ _ | refine blk_drew ?_ | refine blk_alloc ?_ _)); exact BK445.out)) : gb446 ≠ gb445)); clear BK445; clear HB; have BK445 := n0_; have HB := n1_; have BK446 := n2_; have GW446 := n3_; have GE446 := n4_; have NB445_446 := n5_; have NB446_445 := n6_; clear n0_ n1_ n2_ n3_ n4_ n5_ n6_; clear hb hbox hg; have hnb6 := NB446_445.out; have hnc6 := NB445_446.out; have hcz7_0 : w5.cell? ⟨gb446, 0, none⟩ = some (.int .i64 a1_0) := (blk_cell BK446.out 0).trans rfl; have hcz7_1 : w5.cell? ⟨gb446, 1, none⟩ = some (.int .i64 a1_1) := (blk_cell BK446.out 1).trans rfl; have hcz7_2 : w5.cell? ⟨gb446, 2, none⟩ = some (.int .i64 a1_2) := (blk_cell BK446.out 2).trans rfl; have hfz7_0 := blk_frozen BK446.out 0; have hfz7_1 := blk_frozen BK446.out 1; have hfz7_2 := blk_frozen BK446.out 2; have hcz8_0 : w5.cell? ⟨gb445, 0, none⟩ = some (.int .i64 a0_0) := (blk_cell BK445.out 0).trans rfl; have hcz8_1 : w5.cell? ⟨gb445, 1, none⟩ = some (.int .i64 a0_1) := (blk_cell BK445.out 1).trans rfl; have hfz8_0 := blk_frozen BK445.out 0; have hfz8_1 := blk_frozen BK445.out 1))
    go_ret
    exact ⟨by first | rfl | (simp [errW_none, errW_some] <;> rfl) | (simp [*, errW_none, errW_some] <;> rfl), by repeat (first | (with_reducible first | exact HB.out | apply below_alloc | apply pw_below_drewN | apply below_drew1 | refine below_set ?_ GE445.out | refine below_set ?_ GE446.out) | exact HB.out)⟩
  · rw [if_neg c3] at H
    have c3b0 : decide (a1_0 ≤ a0_0) = false := decide_eq_false c3
    clear c3
    obtain rfl := Option.some.inj H
    go_enter Try.func60, Try.ntmps60
    go_wp2_with (first | ((with_reducible refine gate_dst (N := 2) rfl ?_); refine box_event ?hg (N := 2) ?hd (cs := #[.int .i64 a0_0, .int .i64 a0_1]) (t := 30) ?hr ?_; (case hd => rfl); (case hg => rfl); (case hr => first | (go_simp; done) | (go_simp; rfl)); intro gb445 hg w9 hbox hb; have n0_ := Aside0.mk (below_step (by repeat (first | (with_reducible first | exact HB.out | apply below_alloc | apply pw_below_drewN | apply below_drew1) | exact HB.out)) hb); have n1_ := Aside0.mk (hbox); have n2_ := Aside0.mk ((by rw [hg]; exact (below_size (by repeat (first | (with_reducible first | exact HB.out | apply below_alloc | apply pw_below_drewN | apply below_drew1) | exact HB.out))) : w.heap.size ≤ gb445)); have n3_ := Aside0.mk ((by rw [hg]; exact (below_size (by repeat (first | (with_reducible first | exact HB.out | apply below_alloc | apply pw_below_drewN | apply below_drew1) | exact HB.out))) : w.heap.size ≤ gb445)); clear HB; have HB := n0_; have BK445 := n1_; have GW445 := n2_; have GE445 := n3_; clear n0_ n1_ n2_ n3_; clear hb hbox hg) | ((with_reducible refine gate_dst (N := 3) rfl ?_); refine box_event ?hg (N := 3) ?hd (cs := #[.int .i64 a1_0, .int .i64 a1_1, .int .i64 a1_2]) (t := 49) ?hr ?_; (case hd => rfl); (case hg => rfl); (case hr => first | (go_simp; done) | (go_simp; rfl)); intro gb446 hg w10 hbox hb; have n0_ := Aside0.mk (blk_below (g := gb445) (o := .cells #[.int .i64 a0_0, .int .i64 a0_1] 30 (0, 0)) (by (with_reducible repeat (first | refine blk_drewN ?_ _ | refine blk_drew ?_ | refine blk_alloc ?_ _)); exact BK445.out) hb); have n1_ := Aside0.mk (below_step (by repeat (first | (with_reducible first | exact HB.out | apply below_alloc | apply pw_below_drewN | apply below_drew1 | refine below_set ?_ GE445.out) | exact HB.out)) hb); have n2_ := Aside0.mk (hbox); have n3_ := Aside0.mk ((by rw [hg]; exact (below_size (by repeat (first | (with_reducible first | exact HB.out | apply below_alloc | apply pw_below_drewN | apply below_drew1 | refine below_set ?_ GE445.out) | exact HB.out))) : w.heap.size ≤ gb446)); have n4_ := Aside0.mk ((by rw [hg]; exact (below_size (by repeat (first | (with_reducible first | exact HB.out | apply below_alloc | apply pw_below_drewN | apply below_drew1 | refine below_set ?_ GE445.out) | exact HB.out))) : w.heap.size ≤ gb446)); have n5_ := Aside0.mk ((by rw [hg]; exact Nat.ne_of_lt (blk_lt (g := gb445) (o := .cells #[.int .i64 a0_0, .int .i64 a0_1] 30 (0, 0)) (by (with_reducible repeat (first | refine blk_drewN ?_ _ | refine blk_drew ?_ | refine blk_alloc ?_ _)); exact BK445.out)) : gb445 ≠ gb446)); have n6_ := Aside0.mk ((by rw [hg]; exact Nat.ne_of_gt (blk_lt (g := gb445) (o := .cells #[.int .i64 a0_0, .int .i64 a0_1] 30 (0, 0)) (by (with_reducible repeat (first | refine blk_drewN ?_ _ | refine blk_drew ?_ | refine blk_alloc ?_ _)); exact BK445.out)) : gb446 ≠ gb445)); clear BK445; clear HB; have BK445 := n0_; have HB := n1_; have BK446 := n2_; have GW446 := n3_; have GE446 := n4_; have NB445_446 := n5_; have NB446_445 := n6_; clear n0_ n1_ n2_ n3_ n4_ n5_ n6_; clear hb hbox hg; have hnb11 := NB446_445.out; have hnc11 := NB445_446.out; have hcz12_0 : w10.cell? ⟨gb446, 0, none⟩ = some (.int .i64 a1_0) := (blk_cell BK446.out 0).trans rfl; have hcz12_1 : w10.cell? ⟨gb446, 1, none⟩ = some (.int .i64 a1_1) := (blk_cell BK446.out 1).trans rfl; have hcz12_2 : w10.cell? ⟨gb446, 2, none⟩ = some (.int .i64 a1_2) := (blk_cell BK446.out 2).trans rfl; have hfz12_0 := blk_frozen BK446.out 0; have hfz12_1 := blk_frozen BK446.out 1; have hfz12_2 := blk_frozen BK446.out 2; have hcz13_0 : w10.cell? ⟨gb445, 0, none⟩ = some (.int .i64 a0_0) := (blk_cell BK445.out 0).trans rfl; have hcz13_1 : w10.cell? ⟨gb445, 1, none⟩ = some (.int .i64 a0_1) := (blk_cell BK445.out 1).trans rfl; have hfz13_0 := blk_frozen BK445.out 0; have hfz13_1 := blk_frozen BK445.out 1))
    go_ret
    exact ⟨by first | rfl | (simp [errW_none, errW_some] <;> rfl) | (simp [*, errW_none, errW_some] <;> rfl), by repeat (first | (with_reducible first | exact HB.out | apply below_alloc | apply pw_below_drewN | apply below_drew1 | refine below_set ?_ GE445.out | refine below_set ?_ GE446.out) | exact HB.out)⟩

end Go.Proofs.Ytkaihdpmjlhlaaa.Q

namespace Go.Proofs.Ytkaihdpmjlhlaaa.Q
open Go.RowKit Go.Proofs.YtkaihdpmjlhlaaaW.PrintWords Go.Proofs.YtkaihdpmjlhlaaaW.PrintLast Go.Proofs.YtkaihdpmjlhlaaaW.PrintMore
set_option linter.unusedVariables false
set_option linter.unusedSimpArgs false

theorem suAsked_eq (items : List Item) (a b : Int) (hn : items.length ≤ 10000000) (k : Nat) (hk : items.length < k) : spec_suAsked.f k items a b = impl_arePacked.f items [⟨a, b⟩] := by
  unfold spec_suAsked.f
  rw [suGood_eq items (by omega) k hk]
  unfold impl_AreItems.f impl_arePacked.f
  simp only [inItem, Option.bind_some, List.all_cons, List.all_nil, Bool.and_true]
  unfold okCase
  cases (decide (1 ≤ items.length) && decide (items.length ≤ 10) && items.all okItem) <;> cases (decide (0 ≤ a) && decide (a ≤ 200)) <;> cases (decide (0 ≤ b) && decide (b ≤ 200)) <;> simp
theorem packed_good {items : List Item} {a b : Int} (h : impl_arePacked.f items [⟨a, b⟩] = some true) : items.length ≤ 10 ∧ 1 ≤ items.length ∧ (∀ x ∈ items, okItem x = true) ∧ (0 ≤ a ∧ a ≤ 200) ∧ 0 ≤ b ∧ b ≤ 200 := by
  unfold impl_arePacked.f at h
  injection h with h
  simp only [List.all_cons, List.all_nil, Bool.and_true, Bool.and_eq_true, decide_eq_true_eq, okCase, List.all_eq_true] at h
  exact ⟨h.1.1.2, h.1.1.1, h.1.2, h.2.1, h.2.2⟩

theorem holds_eq (a b x y z : Int) : impl_Case_holds.f a b x y z = some (decide (x ≤ a) && decide (y ≤ b)) := by
  unfold impl_Case_holds.f
  by_cases h : x ≤ a
  · rw [if_pos h]; simp [h]
  · rw [if_neg h]; simp [h]
theorem suFits_eq (items : List Item) (a b : Int) (ch : List Int) (hw : Inside items ch) (hn : ch.length ≤ 100000000000000) (k : Nat) (hk : ch.length < k) :
    spec_suFits.f k items a b ch = some (decide ((tot items ch).1 ≤ a) && decide ((tot items ch).2.1 ≤ b)) := by
  unfold spec_suFits.f
  rw [suTotals_eq items ch hw hn k hk]
  simp only [Option.bind_some]
  by_cases h : (tot items ch).1 ≤ a
  · rw [if_pos h]; simp [h]
  · rw [if_neg h]; simp [h]

end Go.Proofs.Ytkaihdpmjlhlaaa.Q

namespace Go.Proofs.Ytkaihdpmjlhlaaa.Q
open Go.RowKit Go.Proofs.YtkaihdpmjlhlaaaW.PrintWords Go.Proofs.YtkaihdpmjlhlaaaW.PrintLast Go.Proofs.YtkaihdpmjlhlaaaW.PrintMore
attribute [local go_sem] max2_int min2_int max_two min_two max_three min_three max_four min_four   -- for this text's walks alone
set_option linter.unusedVariables false
set_option linter.unusedSimpArgs false

/-! ### spec_l1Own: function 51 -/
def spec_l1Own.f (l0 : List Int) : Option (List Int) := (some (([] : List Int) : List Int)).bind fun y113 => (if y113.length + l0.length < 17592186044416 then (some (y113 ++ l0)) else (none))
set_option maxHeartbeats 8000000 in
set_option maxRecDepth 100000 in
theorem spec_l1Own.calls (A0 : Option Addr) (c0 : Nat) (l0 : List Int) (r : List Int) (w : World) (hr0 : Kd.C (Kd.int .i64) w A0 l0.length l0) (hc0 : l0.length ≤ c0) (h : spec_l1Own.f l0 = some r) :
    Calls Try.prog 51 #[.slice A0 l0.length c0] w fun e w' => ∃ v0_ : Value, e = .returned (v0_) ∧ Kd.R (Kd.int .i64) 3 w' w.heap.size (fun _ => True) v0_ r ∧ Below w.heap.size w w' := by
  have HR0 := Aside0.mk hr0
  have HC0 := Aside0.mk hc0
  clear hr0 hc0
  have HB := Aside0.mk (Below.refl w.heap.size w)
  have H : ((some (([] : List Int) : List Int)).bind fun y113 => (if y113.length + l0.length < 17592186044416 then (some (y113 ++ l0)) else (none))) = some r := h
  clear h
  obtain ⟨y113, hy113⟩ : ∃ y_ : List Int, y_ = (([] : List Int)) := ⟨_, rfl⟩
  replace H : (if y113.length + l0.length < 17592186044416 then (some (y113 ++ l0)) else (none)) = some r := by first | (rw [hy113]; with_reducible exact H) | (have H2_ := (Option.bind_some _ _).symm.trans H; rw [hy113]; with_reducible exact H2_) | (have H2_ := (Option.bind_some _ _).symm.trans H; with_reducible exact H2_) | with_reducible exact H | (rw [hy113]; exact H) | exact H
  have Ny113 := Aside0.mk hy113
  clear hy113
  by_cases c2 : y113.length + l0.length < 17592186044416
  · rw [if_pos c2] at H
    have LMc2 := Aside0.mk c2
    clear c2
    obtain ⟨y116, hy116⟩ : ∃ y_ : List Int, y_ = (y113 ++ l0) := ⟨_, rfl⟩
    replace H : (some y116) = some r := by first | (rw [hy116]; with_reducible exact H) | (have H2_ := (Option.bind_some _ _).symm.trans H; rw [hy116]; with_reducible exact H2_) | (have H2_ := (Option.bind_some _ _).symm.trans H; with_reducible exact H2_) | with_reducible exact H | (rw [hy116]; exact H) | exact H
    have Ny116 := Aside0.mk hy116
    clear hy116
    obtain rfl := Option.some.inj H
    go_enter Try.func51, Try.ntmps51
    go_wp2_with (first | ((with_reducible refine gate_dst (N := 3) rfl ?_); refine Kd.R_lit (Kd.int .i64) _ 3 ?hg (N := 3) ?hd (xs := ([] : List Int)) (inner := []) (ok := fun _ => True) (okp := fun _ => True) ?hr ?hp (fun _ hk => hk) trivial (Below.refl _ _) (Nat.le_refl _) (by simp) ?_; (case hd => rfl); (case hg => rfl); (case hr => first | (go_simp; done) | (go_simp; rfl)); (case hp => exact (Reps.none _ _)); intro v114 w3 ho4 hb hg_ hnew_; clear hg_ hnew_; (first | rw [← Ny113.out] at ho4 | (simp only [Int.reduceToNat] at ho4; rw [← Ny113.out] at ho4)); have n0_ := Aside0.mk (Kd.R_lower ho4 (below_size (by repeat (first | (with_reducible first | exact HB.out | apply below_alloc | apply pw_below_drewN | apply below_drew1) | exact HB.out)))); have n1_ := Aside0.mk (below_step (by repeat (first | (with_reducible first | exact HB.out | apply below_alloc | apply pw_below_drewN | apply below_drew1) | exact HB.out)) hb); clear HB; have HO115 := n0_; have HB := n1_; clear n0_ n1_; clear hb ho4) | ((with_reducible refine gate_builtin (b := .append) (xs := #[.tmp 3, .tmp 4]) rfl ?_); at_builtin; refine Kd.R_append_rows (Kd.int .i64) (w0 := w) w.heap.size rfl (.tmp 3) (.tmp 4) 34 3 (.int .i64 0) 8 rfl Try.underlying34 info3 rfl (by decide) (by omega) v114 y113 l0 _ _ _ (fun _ => True) (fun _ => False) rfl rfl ?aO ?aR (fun _ _ h => h) (fun _ h => h.elim) ?aF ?aB ?aS ?aL ?_; (case aR => repeat (first | exact (Kd.C_below HR0.out HB.out) | (with_reducible refine Kd.C_alloc ?_ _) | (with_reducible refine Kd.C_drewN ?_ _) | (with_reducible refine Kd.C_drew ?_))); (case aB => exact (by repeat (first | (with_reducible first | exact HB.out | apply below_alloc | apply pw_below_drewN | apply below_drew1) | exact HB.out))); (case aF => exact (fun _ _ => trivial)); (case aO => exact (by (with_reducible repeat (first | apply Kd.R_alloc | apply Kd.R_drewN | apply Kd.R_drew)); exact HO115.out)); (case aS => exact (below_size (by repeat (first | (with_reducible first | exact HB.out | apply below_alloc | apply pw_below_drewN | apply below_drew1) | exact HB.out)))); (case aL => have := LMc2.out; omega); intro v117 w5 ho hb hg hat; rw [← Ny116.out] at ho; have n0_ := Aside0.mk (hb); have n1_ := Aside0.mk (ho); clear HB; clear HO115; have HB := n0_; have HO118 := n1_; clear n0_ n1_; clear ho hb hg hat))
    go_ret
    exact ⟨_, by first | rfl | (simp [errW_none, errW_some] <;> rfl) | (simp [*, errW_none, errW_some] <;> rfl), by (with_reducible repeat (first | apply Kd.R_alloc | apply Kd.R_drewN | apply Kd.R_drew)); exact HO118.out, by repeat (first | (with_reducible first | exact HB.out | apply below_alloc | apply pw_below_drewN | apply below_drew1) | exact HB.out)⟩
  · rw [if_neg c2] at H
    exact absurd H (by simp)

end Go.Proofs.Ytkaihdpmjlhlaaa.Q

namespace Go.Proofs.Ytkaihdpmjlhlaaa.Q
open Go.RowKit Go.Shelf Go.Proofs.YtkaihdpmjlhlaaaW.PrintWords Go.Proofs.YtkaihdpmjlhlaaaW.PrintLast Go.Proofs.YtkaihdpmjlhlaaaW.PrintMore
set_option linter.unusedVariables false
set_option linter.unusedSimpArgs false

def fitsC (items : List Item) (a b : Int) (ch : List Int) : Bool := decide ((tot items ch).1 ≤ a) && decide ((tot items ch).2.1 ≤ b)
/-- The choices on the way behind a choice, in order. -/
def lookV (items : List Item) (a b : Int) : Nat → List Int → Nat → List (List Int)
  | 0, _, _ => []
  | d + 1, ch, i => (if fitsC items a b (ch ++ [(i : Int)]) = true then (ch ++ [(i : Int)]) :: lookV items a b d (ch ++ [(i : Int)]) (i + 1) else []) ++ lookV items a b d ch (i + 1)
theorem lookV_length (items : List Item) (a b : Int) : ∀ d ch i, (lookV items a b d ch i).length + 1 ≤ 2 ^ d
  | 0, _, _ => by simp [lookV]
  | d + 1, ch, i => by
    have h1 := lookV_length items a b d (ch ++ [(i : Int)]) (i + 1)
    have h2 := lookV_length items a b d ch (i + 1)
    unfold lookV
    rw [List.length_append, Nat.pow_succ]
    split
    · rw [List.length_cons]; omega
    · simp; omega

abbrev kInts : Kd (List Int) := Kd.slice 3 kInt
/-- What may lie behind the list that is built. -/
abbrev okL (base Bo : Nat) : Nat → Prop := fun k => k ≠ Bo ∧ base ≤ k

theorem L_apart {base Bo : Nat} {W : World} {ok : Nat → Prop} {vo vb : Value} {xss : List (List Int)} {ch : List Int} (hN : Kd.N kInts 34 W base ok vo xss) (hv : Kd.R kInt 3 W base (fun k => k ≠ Bo) vb ch) : Kd.R kInt 3 W base (fun k => okL base Bo k ∧ some k ≠ vo.ownBlock) vb ch := by
  refine Kd.R_mono (Kd.R_bound hv) fun k hk => ⟨⟨hk.1, hk.2.1⟩, fun he => ?_⟩
  obtain ⟨_, _, _, q, hq, cells, hc⟩ := hk
  obtain ⟨cells', hc'⟩ := Kd.N_typed hN k he.symm
  rw [hc] at hc'
  injection hc' with hc'
  injection hc' with _ h2 _
  subst h2
  simp [Kd.int, Kd.scalar] at hq
theorem own_f (l : List Int) (h : l.length < 1000000) : spec_l1Own.f l = some l := by
  unfold spec_l1Own.f
  simp only [Option.bind_some]
  rw [if_pos (by simp; omega)]
  simp

set_option maxRecDepth 100000 in
set_option maxHeartbeats 4000000 in
theorem suLook_calls (items : List Item) (A0 : Option Addr) (c0 : Nat) (a b : Int) (Bo base : Nat) (w1 : World) (hn : items.length ≤ 30) (hb1 : base ≤ w1.heap.size) (hbo : base ≤ Bo) (hBo : Bo < w1.heap.size)
    (hC : ∀ W, Below base w1 W → Kd.C k49 W A0 items.length items) (hc0 : items.length ≤ c0) :
    ∀ d W vo xss vb ch i, i + d = items.length → Below base w1 W → Boxed W Bo 54 vo → Kd.N kInts 34 W base (okL base Bo) vo xss → Kd.R kInt 3 W base (fun k => k ≠ Bo) vb ch → (∀ x ∈ ch, 0 ≤ x ∧ x < (i : Int)) → ch.length ≤ i → xss.length + 2 ^ (d + 1) ≤ 1000000000000 →
      Calls Try.prog 77 #[.slice A0 items.length c0, .agg #[.int .i64 a, .int .i64 b], vb, .int .i64 (i : Int), .pointer (some ⟨Bo, 0, none⟩)] W fun e w' => e = .returned (.tuple #[]) ∧
        (∃ vo', Boxed w' Bo 54 vo' ∧ Kd.N kInts 34 w' base (okL base Bo) vo' (xss ++ ch :: lookV items a b d ch i) ∧ (vo'.ownBlock = vo.ownBlock ∨ ∃ k, vo'.ownBlock = some k ∧ W.heap.size ≤ k)) ∧ Fr (fun k => k = Bo ∨ some k = vo.ownBlock) W w' := by
  intro d
  induction d using Nat.strongRecOn with
  | _ d ih =>
  intro W vo xss vb ch i hd hB hbx hN hv hch hlen hbig
  have hp := Nat.one_le_two_pow (n := d)
  have hp2 : 2 ^ (d + 1) = 2 ^ d * 2 := Nat.pow_succ 2 d
  obtain ⟨Ao, co, rfl⟩ := Kd.N_slice hN
  obtain ⟨A1, c1, rfl, hc1, hC1⟩ := Kd.R_reads hv
  have HB := Aside0.mk hB
  have HX := Aside0.mk hbx
  have HN := Aside0.mk hN
  have HV := Aside0.mk hv
  have HCH := Aside0.mk hch
  have IH := Aside0.mk ih
  clear hB hbx hN hv hch ih hC1
  go_enter Try.func77, Try.ntmps77
  go_upto_region 1 with (fail)
  obtain ⟨W0, e0⟩ : ∃ W0, W.alloc (.cells #[.int .i64 a, .int .i64 b] 30) = W0 := ⟨_, rfl⟩
  have HBK : Aside0 (W0.heap[W.heap.size]? = some (.cells #[.int .i64 a, .int .i64 b] 30 (0, 0))) := ⟨by rw [← e0]; exact heap_alloc_new W _⟩
  have b0 : Below W.heap.size W W0 := by rw [← e0]; exact (Below.refl _ W).alloc (Nat.le_refl _) _
  have z0 : W0.heap.size = W.heap.size + 1 := by rw [← e0]; simp
  rw [e0]
  have X0 := Aside0.mk (box_below HX.out b0)
  have N0 := Aside0.mk (Kd.N_below HN.out b0)
  have V0 := Aside0.mk (L_apart (Kd.N_below HN.out b0) (Kd.R_below HV.out b0))
  have hbW : base ≤ W.heap.size := Nat.le_trans hb1 HB.out.size
  have hoW : Bo < W.heap.size := Nat.lt_of_lt_of_le hBo HB.out.size
  have HNB : Aside0 (∀ k, k = Bo ∨ some k = (Value.slice Ao xss.length co).ownBlock → base ≤ k ∧ k < W.heap.size) := ⟨fun k hk => by
    rcases hk with rfl | hk
    · exact ⟨hbo, hoW⟩
    · exact ⟨Kd.N_base HN.out k hk.symm, Kd.N_lt HN.out k hk.symm⟩⟩
  have B0 := Aside0.mk b0
  have Z0 := Aside0.mk z0
  clear HX HN HV e0 b0 z0
  generalize hBc : W.heap.size = Bc at *
  have HBc := Aside0.mk hBc
  clear hBc
  have q1 := X0.out.cell
  go_upto_region 2 with
    (at_builtin; refine Kd.N_append kInts (w0 := W0) base rfl (.tmp 15) (.tmp 17) 54 34 (.slice none 0 0) 24 rfl Try.underlying54 info34 rfl (by decide) (by omega) (.slice Ao xss.length co) xss ch [.slice A1 ch.length c1] (okL base Bo) (fun k => okL base Bo k ∧ some k ≠ (Value.slice Ao xss.length co).ownBlock) rfl rfl ?aP (fun _ hk => hk) ?aF N0.out (Below.refl _ _) ?aS ?aL ?_;
      (case aP => exact Kd.FK_slice_mk hc1 (Kd.N_F (Kd.R_N V0.out)));
      (case aF => exact fun k hk => ⟨by have := Z0.out; omega, by have := Z0.out; omega⟩);
      (case aS => have := Z0.out; omega);
      (case aL => omega);
      intro v1 w2 hN2 hb2 hg2 hat2; have X2 := X0.out.kept hg2 (Kd.N_away N0.out (fun k hk => hk.1)); have f2 := X2.frozen; have q2 := X2.cell; obtain ⟨A2, c2, rfl⟩ := Kd.N_slice hN2)
  have hl2 : (xss ++ [ch]).length = xss.length + 1 := by simp
  rw [hl2] at hN2 hat2
  have XV := Aside0.mk (X2.set (.slice A2 (xss.length + 1) c2))
  have NV := Aside0.mk (Kd.N_far hN2 (p := ⟨Bo, 0, none⟩) (fun k hk => hk.1) (.slice A2 (xss.length + 1) c2))
  have FV : Aside0 (Fr (fun k => k = Bo ∨ some k = (Value.slice Ao xss.length co).ownBlock) W0 (w2.setCell ⟨Bo, 0, none⟩ (.slice A2 (xss.length + 1) c2))) :=
    ⟨((Fr.refl _ W0).grownS hg2 (fun k hk => .inl (.inr hk.symm))).set _ _ (.inl (.inl rfl))⟩
  have AT := Aside0.mk hat2
  generalize w2.setCell ⟨Bo, 0, none⟩ (.slice A2 (xss.length + 1) c2) = V at *
  clear hN2 hb2 hg2 hat2 X2 f2 q2 q1 X0 N0 hl2
  have hS0 : Aside0 (∀ k, k < W0.heap.size → k ≠ Bc → True) := ⟨fun _ _ _ => trivial⟩
  have HIT : Aside0 (∀ wr, Fr (fun k => k = Bo ∨ some k = (Value.slice Ao xss.length co).ownBlock) W0 wr → Kd.C k49 wr A0 items.length items) :=
    ⟨fun wr h => hC wr ((HB.out.trans (B0.out.mono hbW)).trans (h.below (fun k hk => (HNB.out k hk).1) (by have := Z0.out; omega)))⟩
  have HCS : Aside0 (∀ wr, Fr (fun k => k = Bo ∨ some k = (Value.slice Ao xss.length co).ownBlock) W0 wr → wr.heap[Bc]? = some (.cells #[.int .i64 a, .int .i64 b] 30 (0, 0))) :=
    ⟨fun wr h => (h.block Bc (by have := Z0.out; omega) (fun hs => by have := (HNB.out Bc hs).2; omega)).trans HBK.out⟩
  have HVC : Aside0 (∀ wr, Fr (fun k => k = Bo ∨ some k = (Value.slice Ao xss.length co).ownBlock) W0 wr → Kd.C kInt wr A1 ch.length ch) := ⟨fun wr h => by
    obtain ⟨A', c', he, _, hC'⟩ := Kd.R_reads (R_fr V0.out h (fun k hk hs => by rcases hs with hs | hs; exact hk.1.1 hs; exact hk.2 hs))
    injection he with he1 he2 he3
    subst he1
    exact hC'⟩
  go_wp2
  go_loopg [10] items.length (fun gg s10 wr => ∃ j : Nat, s10 = .int .i64 (j : Int) ∧ i ≤ j ∧ j ≤ items.length ∧ items.length - j ≤ gg ∧
    Aside0 (∃ Aq cq yss, Boxed wr Bo 54 (.slice Aq yss.length cq) ∧ Kd.N kInts 34 wr base (okL base Bo) (.slice Aq yss.length cq) yss ∧ yss ++ lookV items a b (items.length - j) ch j = xss ++ ch :: lookV items a b d ch i ∧
      yss.length + 2 ^ (items.length - j) ≤ xss.length + 1 + 2 ^ d ∧ ((Value.slice Aq yss.length cq).ownBlock = (Value.slice Ao xss.length co).ownBlock ∨ ∃ k, (Value.slice Aq yss.length cq).ownBlock = some k ∧ W0.heap.size ≤ k)) ∧
    Aside0 (Fr (fun k => k = Bo ∨ some k = (Value.slice Ao xss.length co).ownBlock) W0 wr))
  case atStart =>
    refine ⟨i, rfl, Nat.le_refl _, by omega, by omega, ⟨A2, c2, xss ++ [ch], by simpa using XV.out, by simpa using NV.out, ?_, ?_, by simpa using AT.out⟩, FV⟩
    · rw [show items.length - i = d by omega]; simp
    · rw [show items.length - i = d by omega]; simp
  case round =>
    clear XV NV FV AT
    obtain ⟨j, rfl, hij, hjn, hgg, II, GG⟩ := hrel
    by_cases hlt : j < items.length
    · have hltz : (j : Int) < (items.length : Int) := by omega
      obtain ⟨Aq, cq, yss, hX, hN, heq, hbd, hat⟩ := II.out
      have HX := Aside0.mk hX
      have HN := Aside0.mk hN
      have HEQ := Aside0.mk heq
      have HBD := Aside0.mk hbd
      have HAT := Aside0.mk hat
      clear II hX hN heq hbd hat
      obtain ⟨ch', hch'⟩ : ∃ y, y = ch ++ [(j : Int)] := ⟨_, rfl⟩
      have hin' : Aside0 (∀ x ∈ ch', 0 ≤ x ∧ x < ((j + 1 : Nat) : Int)) := ⟨fun x hx => by
        rw [hch'] at hx
        rcases List.mem_append.1 hx with hx | hx
        · have := HCH.out x hx; omega
        · have := List.mem_singleton.1 hx; omega⟩
      have hl' : ch'.length ≤ j + 1 := by rw [hch']; simp; omega
      have HCH' := Aside0.mk hch'
      clear hch'
      have hfit : spec_suFits.f (ch'.length + 1) items a b ch' = some (fitsC items a b ch') := suFits_eq items a b ch' (fun x hx => by have := hin'.out x hx; omega) (by omega) _ (by omega)
      have HFIT := Aside0.mk hfit
      clear hfit
      generalize hft : fitsC items a b ch' = ft at HFIT
      have HFT := Aside0.mk hft
      clear hft
      have hwr : IntKind.i64.wrap ((j : Int) + 1) = ((j + 1 : Nat) : Int) := by rw [IntWalk.i64_in _ (by omega)]; omega
      have HWS : Aside0 (W0.heap.size ≤ wr.heap.size) := ⟨GG.out.size⟩
      have HBW : Aside0 (∀ wr, Fr (fun k => k = Bo ∨ some k = (Value.slice Ao xss.length co).ownBlock) W0 wr → Below base w1 wr) :=
        ⟨fun wr h => (HB.out.trans (B0.out.mono hbW)).trans (h.below (fun k hk => (HNB.out k hk).1) (by have := Z0.out; omega))⟩
      have HB2 : Aside0 (yss.length + 2 ^ ((items.length - (j + 1)) + 1) ≤ 1000000000000) := ⟨by have := HBD.out; rw [show items.length - j = (items.length - (j + 1)) + 1 by omega] at this; omega⟩
      cases ft
      all_goals
        go_wp2_with (first
          | (go_at_call 51; refine (spec_l1Own.calls A1 c1 ch ch _ (HVC.out _ GG.out) hc1 (own_f ch (by omega))).mono ?_; rintro e w6 ⟨v6, rfl, hR6, hb6⟩)
          | (at_builtin; refine Kd.R_append kInt (w0 := w6) wr.heap.size rfl (.tmp 28) (.tmp 30) 34 3 (.int .i64 0) 8 rfl Try.underlying34 info3 rfl (by decide) (by omega) v6 ch (j : Int) [.int .i64 (j : Int)] (fun k => wr.heap.size ≤ k) (fun _ => False) rfl rfl ?aP (fun _ hk => hk.elim) ?aF ?aO (Below.refl _ _) ?aS ?aL ?_;
              (case aP => exact rfl);
              (case aF => exact fun k hk => Nat.le_trans hb6.size hk);
              (case aO => exact Kd.R_mono (Kd.R_bound hR6) (fun k hk => hk.2.1));
              (case aS => exact hb6.size);
              (case aL => omega);
              rw [← HCH'.out]; intro v7 w7 hR7 hb7 hg7 hat7; obtain ⟨A7, c7, rfl⟩ := Kd.R_slice hR7; have B7 := Aside0.mk (hb6.trans hb7); have bk := blk_cell (HCS.out _ (GG.out.then B7.out)); have bk0 := (bk 0).trans rfl; have bk1 := (bk 1).trans rfl; clear bk; have HR8 : Aside0 (∀ w8, Below w7.heap.size w7 w8 → Kd.R kInt 3 w8 base (fun k => k ≠ Bo) (.slice A7 ch'.length c7) ch') := ⟨fun w8 hb => Kd.R_below (Kd.R_lower (Kd.R_mono hR7 (fun k hk => by have := HWS.out; have := Z0.out; omega)) (by have := HWS.out; have := Z0.out; omega)) hb⟩)
          | (go_at_call 54; obtain ⟨A', c', he, hle, hC7⟩ := Kd.R_reads hR7; injection he with he1 he2 he3; subst he1 he3; refine (spec_suFits.calls (ch'.length + 1) A0 c0 items a b A7 c7 ch' _ _ (HIT.out _ (GG.out.then B7.out)) hc0 hC7 hle HFIT.out).mono ?_; rintro e w8 ⟨rfl, hb8⟩; have B8 := Aside0.mk (B7.out.trans (hb8.mono B7.out.size)); have ck := blk_cell (HCS.out _ (GG.out.then B8.out)); have ck0 := (ck 0).trans rfl; have ck1 := (ck 1).trans rfl; clear ck)
          | (go_at_call 77; refine (IH.out (items.length - (j + 1)) (by omega) w8 (.slice Aq yss.length cq) yss (.slice A7 ch'.length c7) ch' (j + 1) (by omega) (HBW.out _ (GG.out.then B8.out)) (box_below HX.out B8.out) (Kd.N_below HN.out B8.out) (HR8.out w8 (hb8)) hin'.out hl' HB2.out).mono ?_; rintro e w9 ⟨rfl, ⟨vo9, hX9, hN9, hat9⟩, hF9⟩))
      · go_roundg (items.length - (j + 1))
        case measure => omega
        case rel =>
          refine ⟨j + 1, by go_num, by omega, by omega, by omega, ⟨Aq, cq, yss, box_below HX.out B8.out, Kd.N_below HN.out B8.out, ?_, ?_, HAT.out⟩, ⟨GG.out.then B8.out⟩⟩
          · rw [← HEQ.out, show items.length - j = (items.length - (j + 1)) + 1 by omega, lookV, ← HCH'.out, if_neg (by rw [HFT.out]; decide), List.nil_append]
          · have := HBD.out
            rw [show items.length - j = (items.length - (j + 1)) + 1 by omega, Nat.pow_succ] at this
            omega
      · go_roundg (items.length - (j + 1))
        case measure => omega
        case rel =>
          obtain ⟨A9, c9, rfl⟩ := Kd.N_slice hN9
          refine ⟨j + 1, by go_num, by omega, by omega, by omega, ⟨A9, c9, _, hX9, hN9, ?_, ?_, ?_⟩, ⟨(GG.out.then B8.out).thenS hF9 ?_⟩⟩
          · rw [← HEQ.out, show items.length - j = (items.length - (j + 1)) + 1 by omega, lookV, ← HCH'.out, if_pos HFT.out, List.append_assoc]
          · have h1 := HBD.out
            have h2 := lookV_length items a b (items.length - (j + 1)) ch' (j + 1)
            rw [show items.length - j = (items.length - (j + 1)) + 1 by omega, Nat.pow_succ] at h1
            rw [List.length_append, List.length_cons]
            omega
          · rcases hat9 with h | ⟨k, hk, hkl⟩
            · rw [h]; exact HAT.out
            · exact .inr ⟨k, hk, by have := B8.out.size; have := HWS.out; omega⟩
          · intro q hq hs
            rcases hs with hs | hs
            · exact .inl hs
            · rcases HAT.out with h | ⟨k, hk, hkl⟩
              · exact .inr (hs.trans h)
              · rw [hk] at hs
                injection hs with hs
                omega
    · have hltz : ¬ (j : Int) < (items.length : Int) := by omega
      go_wp2
      go_end0
      obtain ⟨Aq, cq, yss, hX, hN, heq, _, hat⟩ := II.out
      rw [show items.length - j = 0 by omega] at heq
      have heq2 : yss = xss ++ ch :: lookV items a b d ch i := by rw [← heq]; simp [lookV]
      have := HBc.out
      refine ⟨rfl, ⟨_, hX, heq2 ▸ hN, ?_⟩, ((Fr.of (by rw [this]; exact B0.out)).trans GG.out)⟩
      rcases hat with hat | ⟨k, hk, hkl⟩
      · exact .inl hat
      · exact .inr ⟨k, hk, by have := Z0.out; omega⟩

def spec_suAll.f (l0 : List Item) (a1_0 a1_1 : Int) : Option (List (List Int)) := if l0.length ≤ 30 then some ([] :: lookV l0 a1_0 a1_1 l0.length [] 0) else none
set_option maxHeartbeats 2000000 in
theorem spec_suAll.calls (A0 : Option Addr) (c0 : Nat) (l0 : List Item) (a1_0 a1_1 : Int) (r : List (List Int)) (w : World) (hr0 : Kd.C k49 w A0 l0.length l0) (hc0 : l0.length ≤ c0) (h : spec_suAll.f l0 a1_0 a1_1 = some r) :
    Calls Try.prog 44 #[.slice A0 l0.length c0, .agg #[.int .i64 a1_0, .int .i64 a1_1]] w fun e w' => ∃ v0_ : Value, e = .returned (v0_) ∧ Kd.N (Kd.slice 3 (Kd.int .i64)) 34 w' w.heap.size (fun k_ => (w.heap.size ≤ k_)) v0_ r ∧ Below w.heap.size w w' := by
  have hn : l0.length ≤ 30 := by
    unfold spec_suAll.f at h
    split at h
    · assumption
    · cases h
  have hre : r = [] :: lookV l0 a1_0 a1_1 l0.length [] 0 := by
    unfold spec_suAll.f at h
    rw [if_pos hn] at h
    injection h with h
    exact h.symm
  have HRE := Aside0.mk hre
  have x1 := Boxed.new (w.alloc (.cells #[.int .i64 a1_0, .int .i64 a1_1] 30)) 54 (.slice none 0 0)
  have b2 : Below w.heap.size w ((w.alloc (.cells #[.int .i64 a1_0, .int .i64 a1_1] 30)).alloc (.cells #[.slice none 0 0] 54)) := ((Below.refl _ w).alloc (by simp) _).alloc (by simp) _
  have z2 : ((w.alloc (.cells #[.int .i64 a1_0, .int .i64 a1_1] 30)).alloc (.cells #[.slice none 0 0] 54)).heap.size = w.heap.size + 2 := by simp
  have hpow : 2 ^ (l0.length + 1) ≤ 2 ^ 31 := Nat.pow_le_pow_right (by decide) (by omega)
  simp only [show ∀ (W : World) (o : Obj), (W.alloc o).heap.size = W.heap.size + 1 from fun W o => by simp] at x1 z2
  obtain ⟨W2, e2⟩ : ∃ W2, ((w.alloc (.cells #[.int .i64 a1_0, .int .i64 a1_1] 30)).alloc (.cells #[.slice none 0 0] 54)) = W2 := ⟨_, rfl⟩
  rw [e2] at x1 b2
  have z3 : W2.heap.size = w.heap.size + 2 := by rw [← e2]; simp
  have hcall := suLook_calls l0 A0 c0 a1_0 a1_1 (w.heap.size + 1) w.heap.size W2 hn (by omega) (by omega) (by omega) (fun W hb => Kd.C_below hr0 (b2.trans hb)) hc0
    l0.length W2 (.slice none 0 0) [] (.slice none 0 0) [] 0 (by omega) (Below.refl _ _) x1 (Kd.N_nil _ _ _ _ _) (Kd.R_nil _ _ _ _ _) (fun x hx => by cases hx) (by simp) (by simp; omega)
  have HCALL := Aside0.mk hcall
  have B2 := Aside0.mk b2
  have Z3 := Aside0.mk z3
  have E2 := Aside0.mk e2
  clear hcall b2 z2 z3 x1 hr0 h hre e2
  go_enter Try.func44, Try.ntmps44
  go_wp2_with (go_at_call 77; rw [E2.out]; refine HCALL.out.mono ?_; rintro e w6 ⟨rfl, ⟨vo, hX, hN, hat⟩, hF⟩; obtain ⟨A1, c1, rfl⟩ := Kd.N_slice hN; have q6 := hX.cell)
  go_ret
  refine ⟨_, rfl, ?_, B2.out.trans (hF.below (fun k hk => ?_) B2.out.size)⟩
  · rw [HRE.out]
    exact Kd.N_mono hN (fun k hk => hk.2)
  · rcases hk with rfl | hk
    · omega
    · simp [Value.ownBlock] at hk
end Go.Proofs.Ytkaihdpmjlhlaaa.Q

namespace Go.Proofs.Ytkaihdpmjlhlaaa.Q
open Go.RowKit Go.Proofs.YtkaihdpmjlhlaaaW.PrintWords Go.Proofs.YtkaihdpmjlhlaaaW.PrintLast Go.Proofs.YtkaihdpmjlhlaaaW.PrintMore
attribute [local go_sem] max2_int min2_int max_two min_two max_three min_three max_four min_four   -- for this text's walks alone
set_option linter.unusedVariables false
set_option linter.unusedSimpArgs false

/-! ### spec_suBest: function 47 -/
def spec_suBest.l0 : Nat → List (S49) → List (List Int) → Int → List (List Int) → Int → Int → Option ((List (List Int)) × Int)
  | 0, _, _, _, _, _, _ => none
  | k + 1, x0, x6, x7, x15, x16, x17 => if x17 < x16 then (if 0 ≤ x17 then (if x17 < (x15.length : Int) then ((spec_suTotals.f k x0 (rd_L5 x15 x17)).bind fun bt132 => (if bt132.2.2 > x7 then (if bt132.2.2 = bt132.2.2 then (if ([] : List (List Int)).length < 5864062014805 then (spec_suBest.l0 k x0 (([] : List (List Int)) ++ [rd_L5 x15 x17]) bt132.2.2 x15 x16 (wrap64 (x17 + 1))) else (none)) else (spec_suBest.l0 k x0 ([] : List (List Int)) bt132.2.2 x15 x16 (wrap64 (x17 + 1)))) else (if bt132.2.2 = x7 then (if x6.length < 5864062014805 then (spec_suBest.l0 k x0 (x6 ++ [rd_L5 x15 x17]) x7 x15 x16 (wrap64 (x17 + 1))) else (none)) else (spec_suBest.l0 k x0 x6 x7 x15 x16 (wrap64 (x17 + 1)))))) else (none)) else (none)) else (some (x6, x7))
def spec_suBest.f (k : Nat) (l0 : List (S49)) (a1_0 : Int) (a1_1 : Int) : Option ((List (List Int)) × Int) := (spec_suAll.f l0 a1_0 a1_1).bind fun t128 => (spec_suBest.l0 k l0 ([] : List (List Int)) 0 t128 (t128.length : Int) 0)
theorem spec_suBest.mono_l : ∀ k, (∀ y0 y1 y2 y3 y4 y5, LeO (spec_suBest.l0 k y0 y1 y2 y3 y4 y5) (spec_suBest.l0 (k + 1) y0 y1 y2 y3 y4 y5))
  | 0 => fun _ _ _ _ _ _ r h => by simp [spec_suBest.l0] at h
  | k + 1 => by
    have ih0 := spec_suBest.mono_l k
    · intro y0 y1 y2 y3 y4 y5
      unfold spec_suBest.l0
      repeat' first
      | (with_reducible exact ih0 _ _ _ _ _ _)
      | (with_reducible exact spec_suTotals.mono _ _ _)
      | (with_reducible exact LeO.refl _)
      | (with_reducible exact LeO.none _)
      | (with_reducible refine LeO.ite ?_ ?_)
      | (with_reducible refine LeO.bind ?_ (fun _ => ?_))
      | exact ih0 _ _ _ _ _ _
      | exact spec_suTotals.mono _ _ _
      | exact LeO.none _
      | refine LeO.ite ?_ ?_
      | refine LeO.bind ?_ (fun _ => ?_)
theorem spec_suBest.mono : ∀ a0 a1 a2 k, LeO (spec_suBest.f k a0 a1 a2) (spec_suBest.f (k + 1) a0 a1 a2) := by
  intro a0 a1 a2 k
  have ih0 := spec_suBest.mono_l k
  unfold spec_suBest.f
  repeat' first
      | (with_reducible exact ih0 _ _ _ _ _ _)
      | (with_reducible exact spec_suTotals.mono _ _ _)
      | (with_reducible exact LeO.refl _)
      | (with_reducible exact LeO.none _)
      | (with_reducible refine LeO.ite ?_ ?_)
      | (with_reducible refine LeO.bind ?_ (fun _ => ?_))
      | exact ih0 _ _ _ _ _ _
      | exact spec_suTotals.mono _ _ _
      | exact LeO.none _
      | refine LeO.ite ?_ ?_
      | refine LeO.bind ?_ (fun _ => ?_)
set_option maxHeartbeats 8000000 in
set_option maxRecDepth 100000 in
theorem spec_suBest.calls (k : Nat) (A0 : Option Addr) (c0 : Nat) (l0 : List (S49)) (a1_0 : Int) (a1_1 : Int) (r1 : List (List Int)) (r2 : Int) (w : World) (hr0 : Kd.C k49 w A0 l0.length l0) (hc0 : l0.length ≤ c0) (h : spec_suBest.f k l0 a1_0 a1_1 = some (r1, r2)) :
    Calls Try.prog 47 #[.slice A0 l0.length c0, .agg #[.int .i64 a1_0, .int .i64 a1_1]] w fun e w' => ∃ v0_ : Value, e = .returned (.tuple #[v0_, .int .i64 r2]) ∧ Kd.N (Kd.slice 3 (Kd.int .i64)) 34 w' w.heap.size (fun k_ => (w.heap.size ≤ k_)) v0_ r1 ∧ Below w.heap.size w w' := by
  have hu30 := Try.underlying30
  have HR0 := Aside0.mk hr0
  have HC0 := Aside0.mk hc0
  clear hr0 hc0
  have HB := Aside0.mk (Below.refl w.heap.size w)
  have H : ((spec_suAll.f l0 a1_0 a1_1).bind fun t128 => (spec_suBest.l0 k l0 ([] : List (List Int)) 0 t128 (t128.length : Int) 0)) = some (r1, r2) := h
  clear h
  replace H := Option.bind_eq_some_iff.mp H
  obtain ⟨t128, A30, H⟩ := H
  replace H : (spec_suBest.l0 k l0 ([] : List (List Int)) 0 t128 (t128.length : Int) 0) = some (r1, r2) := H
  have A3 := Aside0.mk A30
  clear A30
  have H' := Aside0.mk H
  clear H
  go_enter Try.func47, Try.ntmps47
  go_wp2_with (first | ((with_reducible refine gate_dst (N := 3) rfl ?_); refine box_event ?hg (N := 3) ?hd (cs := #[.int .i64 a1_0, .int .i64 a1_1]) (t := 30) ?hr ?_; (case hd => rfl); (case hg => rfl); (case hr => first | (go_simp; done) | (go_simp; rfl)); intro gb127 hg w4 hbox hb; have n0_ := Aside0.mk (below_step (by repeat (first | (with_reducible first | exact HB.out | apply below_alloc | apply pw_below_drewN | apply below_drew1) | exact HB.out)) hb); have n1_ := Aside0.mk (hbox); have n2_ := Aside0.mk ((by rw [hg]; exact (below_size (by repeat (first | (with_reducible first | exact HB.out | apply below_alloc | apply pw_below_drewN | apply below_drew1) | exact HB.out))) : w.heap.size ≤ gb127)); have n3_ := Aside0.mk ((by rw [hg]; exact (below_size (by repeat (first | (with_reducible first | exact HB.out | apply below_alloc | apply pw_below_drewN | apply below_drew1) | exact HB.out))) : w.heap.size ≤ gb127)); clear HB; have HB := n0_; have BK127 := n1_; have GW127 := n2_; have GE127 := n3_; clear n0_ n1_ n2_ n3_; clear hb hbox hg; have hcz5_0 : w4.cell? ⟨gb127, 0, none⟩ = some (.int .i64 a1_0) := (blk_cell BK127.out 0).trans rfl; have hcz5_1 : w4.cell? ⟨gb127, 1, none⟩ = some (.int .i64 a1_1) := (blk_cell BK127.out 1).trans rfl; have hfz5_0 := blk_frozen BK127.out 0; have hfz5_1 := blk_frozen BK127.out 1) | ((with_reducible refine gate_callee (f := 44) rfl ?_); refine goesL_ (some 15) rfl rfl Try.func44 (by kernel_rfl) rfl #[.slice A0 l0.length c0, .agg #[.int .i64 a1_0, .int .i64 a1_1]] rfl (by (try simp only [List.map_toArray, List.map_cons, List.map_nil]); first | done | rfl | (simp only [List.length_drop, List.length_take]; rfl)) ?_; (with_reducible refine (spec_suAll.calls _ _ l0 a1_0 a1_1 t128 _ ?side1 ?side2 A3.out).mono ?_); (case side1 => repeat (first | exact (Kd.C_below HR0.out HB.out) | (with_reducible refine Kd.C_alloc ?_ _) | (with_reducible refine Kd.C_drewN ?_ _) | (with_reducible refine Kd.C_drew ?_))); (case side2 => exact HC0.out); rintro e w6 ⟨v129, rfl, ho0, hb⟩; refine ⟨_, rfl, ?_⟩; have n0_ := Aside0.mk (Kd.N_lower (Kd.N_mono (ok' := fun k_ => (w.heap.size ≤ k_) ∧ k_ ≠ gb127) ho0 (fun k_ hk_ => ⟨(Nat.le_trans (below_size (by repeat (first | (with_reducible first | exact HB.out | apply below_alloc | apply pw_below_drewN | apply below_drew1 | refine below_set ?_ GE127.out) | exact HB.out))) hk_), (Kd.freshB (g := gb127) (o := .cells #[.int .i64 a1_0, .int .i64 a1_1] 30 (0, 0)) (by (with_reducible repeat (first | refine blk_drewN ?_ _ | refine blk_drew ?_ | refine blk_alloc ?_ _)); exact BK127.out) k_ hk_)⟩)) (below_size (by repeat (first | (with_reducible first | exact HB.out | apply below_alloc | apply pw_below_drewN | apply below_drew1 | refine below_set ?_ GE127.out) | exact HB.out)))); have n1_ := Aside0.mk (blk_below (g := gb127) (o := .cells #[.int .i64 a1_0, .int .i64 a1_1] 30 (0, 0)) (by (with_reducible repeat (first | refine blk_drewN ?_ _ | refine blk_drew ?_ | refine blk_alloc ?_ _)); exact BK127.out) hb); have n2_ := Aside0.mk (below_step (by repeat (first | (with_reducible first | exact HB.out | apply below_alloc | apply pw_below_drewN | apply below_drew1 | refine below_set ?_ GE127.out) | exact HB.out)) hb); clear BK127; clear HB; have HO130 := n0_; have BK127 := n1_; have HB := n2_; clear n0_ n1_ n2_; (try clear hb); (try clear hb2); (try clear hk); (try clear hi); (try clear ho0); obtain ⟨Ao7, co7, eo7⟩ := Kd.N_slice HO130.out; subst eo7))
  go_loopg [6, 7, 17] k (fun kq v6 v7 v17 w' => ∃ (x6_1 : List (List Int)) (x7_1 : Int) (x17_1 : Int), v7 = .int .i64 x7_1 ∧ v17 = .int .i64 x17_1 ∧ Aside0 (spec_suBest.l0 kq l0 x6_1 x7_1 t128 (t128.length : Int) x17_1 = some (r1, r2)) ∧ Aside0 (kq ≤ k) ∧ Aside0 (Kd.N (Kd.slice 3 (Kd.int .i64)) 34 w' w.heap.size (fun k_ => (w.heap.size ≤ k_) ∧ some k_ ≠ ((.slice Ao7 t128.length co7) : Value).ownBlock ∧ k_ ≠ gb127) v6 x6_1) ∧ Aside0 (Kd.N (Kd.slice 3 (Kd.int .i64)) 34 w' w.heap.size (fun k_ => (w.heap.size ≤ k_) ∧ some k_ ≠ (v6 : Value).ownBlock ∧ k_ ≠ gb127) (.slice Ao7 t128.length co7) t128) ∧ Aside0 (w'.heap[gb127]? = some (.cells #[.int .i64 a1_0, .int .i64 a1_1] 30 (0, 0))) ∧ Aside0 (Below w.heap.size w w'))
  case atStart => exact ⟨(([] : List (List Int))), (0), (0), (by first | rfl | (simp; done) | (simp [*]; done)), (by first | rfl | (simp; done) | (simp [*]; done)), H', ⟨Nat.le_refl _⟩, ⟨by first | exact Kd.S_nil _ _ _ _ _ | exact Kd.N_nil _ _ _ _ _ | exact Kd.V_nil _ _ _ _ _ | exact Kd.Q_nil _ _ _ _ _ | exact Kd.R_nil _ _ _ _ _⟩, ⟨by (with_reducible repeat (first | apply Kd.N_alloc | apply Kd.N_drewN | apply Kd.N_drew)); exact Kd.N_mono HO130.out (fun _ hk => ⟨hk.1, ⟨(by simp [Value.ownBlock]), hk.2⟩⟩)⟩, ⟨by (with_reducible repeat (first | refine blk_drewN ?_ _ | refine blk_drew ?_ | refine blk_alloc ?_ _)); exact BK127.out⟩, ⟨by repeat (first | (with_reducible first | exact HB.out | apply below_alloc | apply pw_below_drewN | apply below_drew1 | refine below_set ?_ GE127.out) | exact HB.out)⟩⟩
  case round =>
    clear H'
    try clear p2
    try clear c4
    try clear hcz5_0
    try clear hcz5_1
    try clear hfz5_0
    try clear hfz5_1
    obtain ⟨x6_1, x7_1, x17_1, rfl, rfl, HA, HK1, HO_6, HO_15, BK127, HB⟩ := hrel
    cases gk with
    | zero => exact absurd HA.out (by simp [spec_suBest.l0])
    | succ k1 =>
      have H := HA.out
      clear HA
      rw [spec_suBest.l0] at H
      by_cases c8 : x17_1 < (t128.length : Int)
      · rw [if_pos c8] at H
        have c8b0 : decide (x17_1 < (t128.length : Int)) = true := decide_eq_true c8
        clear c8
        by_cases c9 : 0 ≤ x17_1
        · rw [if_pos c9] at H
          have c9b0 : decide (0 ≤ x17_1) = true := decide_eq_true c9
          clear c9
          by_cases c10 : x17_1 < (t128.length : Int)
          · rw [if_pos c10] at H
            have c10b0 : decide (x17_1 < (t128.length : Int)) = true := decide_eq_true c10
            clear c10
            replace H := Option.bind_eq_some_iff.mp H
            obtain ⟨⟨t132, t133, t134⟩, A110, H⟩ := H
            replace H : (if t134 > x7_1 then (if t134 = t134 then (if ([] : List (List Int)).length < 5864062014805 then (spec_suBest.l0 k1 l0 (([] : List (List Int)) ++ [rd_L5 t128 x17_1]) t134 t128 (t128.length : Int) (wrap64 (x17_1 + 1))) else (none)) else (spec_suBest.l0 k1 l0 ([] : List (List Int)) t134 t128 (t128.length : Int) (wrap64 (x17_1 + 1)))) else (if t134 = x7_1 then (if x6_1.length < 5864062014805 then (spec_suBest.l0 k1 l0 (x6_1 ++ [rd_L5 t128 x17_1]) x7_1 t128 (t128.length : Int) (wrap64 (x17_1 + 1))) else (none)) else (spec_suBest.l0 k1 l0 x6_1 x7_1 t128 (t128.length : Int) (wrap64 (x17_1 + 1))))) = some (r1, r2) := H
            have A11 := Aside0.mk A110
            clear A110
            by_cases c12 : t134 > x7_1
            · rw [if_pos c12] at H
              have c12b0 : decide (x7_1 < t134) = true := decide_eq_true c12
              clear c12
              by_cases c13 : t134 = t134
              · rw [if_pos c13] at H
                have c13b0 : (t134 == t134) = true := beq_iff_eq.mpr c13
                have c13b1 : (t134 != t134) = false := bne_eq_false_iff_eq.mpr c13
                clear c13
                by_cases c14 : ([] : List (List Int)).length < 5864062014805
                · rw [if_pos c14] at H
                  have LMc14 := Aside0.mk c14
                  clear c14
                  obtain ⟨y135, hy135⟩ : ∃ y_ : List (List Int), y_ = (([] : List (List Int)) ++ [rd_L5 t128 x17_1]) := ⟨_, rfl⟩
                  replace H : (spec_suBest.l0 k1 l0 y135 t134 t128 (t128.length : Int) (wrap64 (x17_1 + 1))) = some (r1, r2) := by first | (rw [hy135]; with_reducible exact H) | (have H2_ := (Option.bind_some _ _).symm.trans H; rw [hy135]; with_reducible exact H2_) | (have H2_ := (Option.bind_some _ _).symm.trans H; with_reducible exact H2_) | with_reducible exact H | (rw [hy135]; exact H) | exact H
                  have Ny135 := Aside0.mk hy135
                  clear hy135
                  have H' := Aside0.mk H
                  clear H
                  have p131 : 0 ≤ (x17_1 : Int) := of_decide_eq_true (by first | (with_reducible assumption) | assumption)
                  have q131 : x17_1 < (t128.length : Int) := of_decide_eq_true (by first | (with_reducible assumption) | assumption)
                  obtain ⟨ad131, A131_0, c131_0, e131, hx131_0, hl131_0, hi131_0⟩ := at_L5 (Kd.N_reads' HO_15.out).2.2 x17_1 p131 q131
                  cases e131
                  obtain ⟨ce131, hce131, hMe131, hcc131⟩ := Kd.N_get HO_15.out [] x17_1 p131 (by first | exact q131 | exact of_decide_eq_true (by first | (with_reducible assumption) | assumption) | (have e_ := (Kd.N_reads' HO_15.out).1; omega))
                  obtain ⟨ua131_0, uc131_0, rfl, ul131_0, ge131_0⟩ := Kd.FK_slice_open hMe131
                  have hv131_0 := hcc131 0 _ rfl
                  rw [Nat.add_zero, show ((Kd.slice 3 (Kd.int .i64))).sz = 1 from rfl, Nat.mul_one] at hv131_0
                  replace hv131_0 := Option.some.inj (hv131_0.symm.trans hx131_0)
                  injection hv131_0 with hva_ hvn_ hvc_
                  rw [hva_] at ge131_0
                  rw [hvc_] at ul131_0
                  have HL131_0 := Aside0.mk (show Kd.V (Kd.int .i64) 3 _ w.heap.size _ _ (rd_L5 t128 x17_1) from Kd.V_mk ul131_0 ge131_0)
                  clear hva_ hvn_ hvc_ ge131_0 ul131_0
                  clear hcc131 hce131
                  have HR131_0 := Aside0.mk hi131_0
                  have HC131_0 := Aside0.mk hl131_0
                  clear hi131_0 hl131_0
                  replace p131 := eq_true p131
                  replace q131 := eq_true q131
                  go_wp2_with (first | ((with_reducible refine gate_callee (f := 50) rfl ?_); refine goesL_ (some 24) rfl rfl Try.func50 (by kernel_rfl) rfl #[.slice A0 l0.length c0, .slice A131_0 (rd_L5 t128 x17_1).length c131_0] rfl (by (try simp only [List.map_toArray, List.map_cons, List.map_nil]); first | done | rfl | (simp only [List.length_drop, List.length_take]; rfl)) ?_; (with_reducible refine (spec_suTotals.calls k1 _ _ l0 _ _ (rd_L5 t128 x17_1) t132 t133 t134 _ ?side1 ?side2 ?side3 ?side4 A11.out).mono ?_); (case side1 => repeat (first | exact (Kd.C_below HR0.out HB.out) | (with_reducible refine Kd.C_alloc ?_ _) | (with_reducible refine Kd.C_drewN ?_ _) | (with_reducible refine Kd.C_drew ?_))); (case side2 => exact HC0.out); (case side3 => repeat (first | exact (by repeat (first | (with_reducible exact HR131_0.out) | (with_reducible refine Kd.C_alloc ?_ _) | (with_reducible refine Kd.C_drewN ?_ _) | (with_reducible refine Kd.C_drew ?_) | exact HR131_0.out)) | (with_reducible refine Kd.C_alloc ?_ _) | (with_reducible refine Kd.C_drewN ?_ _) | (with_reducible refine Kd.C_drew ?_))); (case side4 => exact HC131_0.out); rintro e w' ⟨rfl, ⟨nd, rfl⟩⟩; refine ⟨_, rfl, ?_⟩) | ((with_reducible refine gate_builtin (b := .append) (xs := #[.tmp 35, .tmp 37]) rfl ?_); at_builtin; refine Kd.N_append (Kd.slice 3 (Kd.int .i64)) (w0 := w) w.heap.size rfl (.tmp 35) (.tmp 37) 54 34 (.slice none 0 0) 24 rfl Try.underlying54 info34 rfl (by decide) (by omega) (.slice none 0 0) ([] : List (List Int)) (rd_L5 t128 x17_1) [.slice A131_0 (rd_L5 t128 x17_1).length c131_0] (fun k_ => (w.heap.size ≤ k_) ∧ some k_ ≠ (u6 : Value).ownBlock ∧ some k_ ≠ (.slice (some ad131) t128.length co7 : Value).ownBlock ∧ k_ ≠ gb127) (fun k_ => ((fun k_ => (w.heap.size ≤ k_) ∧ some k_ ≠ (u6 : Value).ownBlock ∧ some k_ ≠ (.slice (some ad131) t128.length co7 : Value).ownBlock ∧ k_ ≠ gb127)) k_ ∧ some k_ ≠ (.slice none 0 0 : Value).ownBlock) rfl rfl ?aP (fun _ hk => hk) ?aF ?aO ?aB ?aS ?aL ?_; (case aP => exact (Kd.FK_slice_mk (Kd.V_reads' (Kd.V_mono (ok' := (fun k_ => ((fun k_ => (w.heap.size ≤ k_) ∧ some k_ ≠ (u6 : Value).ownBlock ∧ some k_ ≠ (.slice (some ad131) t128.length co7 : Value).ownBlock ∧ k_ ≠ gb127)) k_ ∧ some k_ ≠ (.slice none 0 0 : Value).ownBlock)) (HL131_0.out) (fun k_ hk => ⟨⟨hk.1.1, ⟨hk.1.2.1, ⟨hk.2, hk.1.2.2⟩⟩⟩, (by simp [Value.ownBlock])⟩))).2.1 (Kd.V_F (Kd.V_mono (ok' := (fun k_ => ((fun k_ => (w.heap.size ≤ k_) ∧ some k_ ≠ (u6 : Value).ownBlock ∧ some k_ ≠ (.slice (some ad131) t128.length co7 : Value).ownBlock ∧ k_ ≠ gb127)) k_ ∧ some k_ ≠ (.slice none 0 0 : Value).ownBlock)) (Kd.V_drewN HL131_0.out _) (fun k_ hk => ⟨⟨hk.1.1, ⟨hk.1.2.1, ⟨hk.2, hk.1.2.2⟩⟩⟩, (by simp [Value.ownBlock])⟩))))); (case aB => exact (by repeat (first | (with_reducible first | exact HB.out | apply below_alloc | apply pw_below_drewN | apply below_drew1 | refine below_set ?_ GE127.out) | exact HB.out))); (case aF => exact (fun k_ hk => ⟨(Nat.le_trans (below_size (by repeat (first | (with_reducible first | exact HB.out | apply below_alloc | apply pw_below_drewN | apply below_drew1 | refine below_set ?_ GE127.out) | exact HB.out))) hk), Kd.fresh' (Kd.N_lt (by (with_reducible repeat (first | apply Kd.N_alloc | apply Kd.N_drewN | apply Kd.N_drew)); exact HO_6.out)) k_ hk, Kd.fresh' (Kd.N_lt (by (with_reducible repeat (first | apply Kd.N_alloc | apply Kd.N_drewN | apply Kd.N_drew)); exact HO_15.out)) k_ hk, Kd.freshB (g := gb127) (o := .cells #[.int .i64 a1_0, .int .i64 a1_1] 30 (0, 0)) (by (with_reducible repeat (first | refine blk_drewN ?_ _ | refine blk_drew ?_ | refine blk_alloc ?_ _)); exact BK127.out) k_ hk⟩)); (case aO => exact ((Kd.N_nil _ _ _ _ (fun k_ => (w.heap.size ≤ k_) ∧ some k_ ≠ (u6 : Value).ownBlock ∧ some k_ ≠ (.slice (some ad131) t128.length co7 : Value).ownBlock ∧ k_ ≠ gb127)))); (case aS => exact (below_size (by repeat (first | (with_reducible first | exact HB.out | apply below_alloc | apply pw_below_drewN | apply below_drew1 | refine below_set ?_ GE127.out) | exact HB.out)))); (case aL => have := LMc14.out; omega); intro v136 w15 ho hb hg hat; rw [← Ny135.out] at ho; have n0_ := Aside0.mk (Kd.N_afterv (Kd.N_apart_nil (by (with_reducible repeat (first | apply Kd.N_alloc | apply Kd.N_drewN | apply Kd.N_drew)); exact HO_6.out)) hg hat); have n1_ := Aside0.mk (Kd.N_afterv (Kd.N_apart_nil (by (with_reducible repeat (first | apply Kd.N_alloc | apply Kd.N_drewN | apply Kd.N_drew)); exact HO_15.out)) hg hat); have n2_ := Aside0.mk (blk_grown (g := gb127) (o := .cells #[.int .i64 a1_0, .int .i64 a1_1] 30 (0, 0)) (by (with_reducible repeat (first | refine blk_drewN ?_ _ | refine blk_drew ?_ | refine blk_alloc ?_ _)); exact BK127.out) hg (by simp [Value.ownBlock])); have n3_ := Aside0.mk (Kd.V_afterv (Kd.V_apart_nil (by (with_reducible repeat (first | apply Kd.V_alloc | apply Kd.V_drewN | apply Kd.V_drew)); exact HL131_0.out)) hg hat); have n4_ := Aside0.mk (hb); have n5_ := Aside0.mk (ho); clear HO_6; clear HO_15; clear BK127; clear HL131_0; clear HB; have HO_6 := n0_; have HO_15 := n1_; have BK127 := n2_; have HL131_0 := n3_; have HB := n4_; have HO137 := n5_; clear n0_ n1_ n2_ n3_ n4_ n5_; clear ho hb hg hat))
                  go_roundg k1
                  case measure => have := HK1.out; omega
                  case rel => exact ⟨(y135), (t134), (wrap64 (x17_1 + 1)), (by first | rfl | (simp; done) | (simp [*]; done)), (by first | rfl | (simp; done) | (simp [*]; done)), H', ⟨by have := HK1.out; omega⟩, ⟨by (with_reducible repeat (first | apply Kd.N_alloc | apply Kd.N_drewN | apply Kd.N_drew)); exact Kd.N_mono HO137.out (fun _ hk => ⟨hk.1, ⟨hk.2.2.1, hk.2.2.2⟩⟩)⟩, ⟨by (with_reducible repeat (first | apply Kd.N_alloc | apply Kd.N_drewN | apply Kd.N_drew)); exact Kd.N_mono HO_15.out (fun _ hk => ⟨hk.1.1, ⟨hk.2, hk.1.2.2⟩⟩)⟩, ⟨by (with_reducible repeat (first | refine blk_drewN ?_ _ | refine blk_drew ?_ | refine blk_alloc ?_ _)); exact BK127.out⟩, ⟨by repeat (first | (with_reducible first | exact HB.out | apply below_alloc | apply pw_below_drewN | apply below_drew1 | refine below_set ?_ GE127.out) | exact HB.out)⟩⟩
                · rw [if_neg c14] at H
                  exact absurd H (by simp)
              · exact absurd rfl c13
            · rw [if_neg c12] at H
              have c12b0 : decide (x7_1 < t134) = false := decide_eq_false c12
              clear c12
              by_cases c16 : t134 = x7_1
              · rw [if_pos c16] at H
                have c16b0 : (t134 == x7_1) = true := beq_iff_eq.mpr c16
                have c16b1 : (t134 != x7_1) = false := bne_eq_false_iff_eq.mpr c16
                clear c16
                by_cases c17 : x6_1.length < 5864062014805
                · rw [if_pos c17] at H
                  have LMc17 := Aside0.mk c17
                  clear c17
                  obtain ⟨y138, hy138⟩ : ∃ y_ : List (List Int), y_ = (x6_1 ++ [rd_L5 t128 x17_1]) := ⟨_, rfl⟩
                  replace H : (spec_suBest.l0 k1 l0 y138 x7_1 t128 (t128.length : Int) (wrap64 (x17_1 + 1))) = some (r1, r2) := by first | (rw [hy138]; with_reducible exact H) | (have H2_ := (Option.bind_some _ _).symm.trans H; rw [hy138]; with_reducible exact H2_) | (have H2_ := (Option.bind_some _ _).symm.trans H; with_reducible exact H2_) | with_reducible exact H | (rw [hy138]; exact H) | exact H
                  have Ny138 := Aside0.mk hy138
                  clear hy138
                  have H' := Aside0.mk H
                  clear H
                  have p131 : 0 ≤ (x17_1 : Int) := of_decide_eq_true (by first | (with_reducible assumption) | assumption)
                  have q131 : x17_1 < (t128.length : Int) := of_decide_eq_true (by first | (with_reducible assumption) | assumption)
                  obtain ⟨ad131, A131_0, c131_0, e131, hx131_0, hl131_0, hi131_0⟩ := at_L5 (Kd.N_reads' HO_15.out).2.2 x17_1 p131 q131
                  cases e131
                  obtain ⟨ce131, hce131, hMe131, hcc131⟩ := Kd.N_get HO_15.out [] x17_1 p131 (by first | exact q131 | exact of_decide_eq_true (by first | (with_reducible assumption) | assumption) | (have e_ := (Kd.N_reads' HO_15.out).1; omega))
                  obtain ⟨ua131_0, uc131_0, rfl, ul131_0, ge131_0⟩ := Kd.FK_slice_open hMe131
                  have hv131_0 := hcc131 0 _ rfl
                  rw [Nat.add_zero, show ((Kd.slice 3 (Kd.int .i64))).sz = 1 from rfl, Nat.mul_one] at hv131_0
                  replace hv131_0 := Option.some.inj (hv131_0.symm.trans hx131_0)
                  injection hv131_0 with hva_ hvn_ hvc_
                  rw [hva_] at ge131_0
                  rw [hvc_] at ul131_0
                  have HL131_0 := Aside0.mk (show Kd.V (Kd.int .i64) 3 _ w.heap.size _ _ (rd_L5 t128 x17_1) from Kd.V_mk ul131_0 ge131_0)
                  clear hva_ hvn_ hvc_ ge131_0 ul131_0
                  clear hcc131 hce131
                  have HR131_0 := Aside0.mk hi131_0
                  have HC131_0 := Aside0.mk hl131_0
                  clear hi131_0 hl131_0
                  replace p131 := eq_true p131
                  replace q131 := eq_true q131
                  go_wp2_with (first | ((with_reducible refine gate_callee (f := 50) rfl ?_); refine goesL_ (some 24) rfl rfl Try.func50 (by kernel_rfl) rfl #[.slice A0 l0.length c0, .slice A131_0 (rd_L5 t128 x17_1).length c131_0] rfl (by (try simp only [List.map_toArray, List.map_cons, List.map_nil]); first | done | rfl | (simp only [List.length_drop, List.length_take]; rfl)) ?_; (with_reducible refine (spec_suTotals.calls k1 _ _ l0 _ _ (rd_L5 t128 x17_1) t132 t133 t134 _ ?side1 ?side2 ?side3 ?side4 A11.out).mono ?_); (case side1 => repeat (first | exact (Kd.C_below HR0.out HB.out) | (with_reducible refine Kd.C_alloc ?_ _) | (with_reducible refine Kd.C_drewN ?_ _) | (with_reducible refine Kd.C_drew ?_))); (case side2 => exact HC0.out); (case side3 => repeat (first | exact (by repeat (first | (with_reducible exact HR131_0.out) | (with_reducible refine Kd.C_alloc ?_ _) | (with_reducible refine Kd.C_drewN ?_ _) | (with_reducible refine Kd.C_drew ?_) | exact HR131_0.out)) | (with_reducible refine Kd.C_alloc ?_ _) | (with_reducible refine Kd.C_drewN ?_ _) | (with_reducible refine Kd.C_drew ?_))); (case side4 => exact HC131_0.out); rintro e w' ⟨rfl, ⟨nd, rfl⟩⟩; refine ⟨_, rfl, ?_⟩) | ((with_reducible refine gate_builtin (b := .append) (xs := #[.tmp 35, .tmp 37]) rfl ?_); at_builtin; refine Kd.N_append (Kd.slice 3 (Kd.int .i64)) (w0 := w) w.heap.size rfl (.tmp 35) (.tmp 37) 54 34 (.slice none 0 0) 24 rfl Try.underlying54 info34 rfl (by decide) (by omega) u6 x6_1 (rd_L5 t128 x17_1) [.slice A131_0 (rd_L5 t128 x17_1).length c131_0] (fun k_ => (w.heap.size ≤ k_) ∧ some k_ ≠ (.slice (some ad131) t128.length co7 : Value).ownBlock ∧ k_ ≠ gb127) (fun k_ => ((fun k_ => (w.heap.size ≤ k_) ∧ some k_ ≠ (.slice (some ad131) t128.length co7 : Value).ownBlock ∧ k_ ≠ gb127)) k_ ∧ some k_ ≠ (u6 : Value).ownBlock) rfl rfl ?aP (fun _ hk => hk) ?aF ?aO ?aB ?aS ?aL ?_; (case aP => exact (Kd.FK_slice_mk (Kd.V_reads' (Kd.V_mono (ok' := (fun k_ => ((fun k_ => (w.heap.size ≤ k_) ∧ some k_ ≠ (.slice (some ad131) t128.length co7 : Value).ownBlock ∧ k_ ≠ gb127)) k_ ∧ some k_ ≠ (u6 : Value).ownBlock)) (HL131_0.out) (fun k_ hk => ⟨⟨hk.1.1, ⟨hk.2, hk.1.2.2⟩⟩, hk.1.2.1⟩))).2.1 (Kd.V_F (Kd.V_mono (ok' := (fun k_ => ((fun k_ => (w.heap.size ≤ k_) ∧ some k_ ≠ (.slice (some ad131) t128.length co7 : Value).ownBlock ∧ k_ ≠ gb127)) k_ ∧ some k_ ≠ (u6 : Value).ownBlock)) (Kd.V_drewN HL131_0.out _) (fun k_ hk => ⟨⟨hk.1.1, ⟨hk.2, hk.1.2.2⟩⟩, hk.1.2.1⟩))))); (case aB => exact (by repeat (first | (with_reducible first | exact HB.out | apply below_alloc | apply pw_below_drewN | apply below_drew1 | refine below_set ?_ GE127.out) | exact HB.out))); (case aF => exact (fun k_ hk => ⟨(Nat.le_trans (below_size (by repeat (first | (with_reducible first | exact HB.out | apply below_alloc | apply pw_below_drewN | apply below_drew1 | refine below_set ?_ GE127.out) | exact HB.out))) hk), Kd.fresh' (Kd.N_lt (by (with_reducible repeat (first | apply Kd.N_alloc | apply Kd.N_drewN | apply Kd.N_drew)); exact HO_15.out)) k_ hk, Kd.freshB (g := gb127) (o := .cells #[.int .i64 a1_0, .int .i64 a1_1] 30 (0, 0)) (by (with_reducible repeat (first | refine blk_drewN ?_ _ | refine blk_drew ?_ | refine blk_alloc ?_ _)); exact BK127.out) k_ hk⟩)); (case aO => exact (by (with_reducible repeat (first | apply Kd.N_alloc | apply Kd.N_drewN | apply Kd.N_drew)); exact HO_6.out)); (case aS => exact (below_size (by repeat (first | (with_reducible first | exact HB.out | apply below_alloc | apply pw_below_drewN | apply below_drew1 | refine below_set ?_ GE127.out) | exact HB.out)))); (case aL => have := LMc17.out; omega); intro v139 w18 ho hb hg hat; rw [← Ny138.out] at ho; have n0_ := Aside0.mk (Kd.N_afterv (ok := (fun k_ => (w.heap.size ≤ k_) ∧ k_ ≠ gb127)) (by (with_reducible repeat (first | apply Kd.N_alloc | apply Kd.N_drewN | apply Kd.N_drew)); exact Kd.N_mono HO_15.out (fun _ hk => ⟨⟨hk.1, hk.2.2⟩, hk.2.1⟩)) hg hat); have n1_ := Aside0.mk (blk_grown (g := gb127) (o := .cells #[.int .i64 a1_0, .int .i64 a1_1] 30 (0, 0)) (by (with_reducible repeat (first | refine blk_drewN ?_ _ | refine blk_drew ?_ | refine blk_alloc ?_ _)); exact BK127.out) hg (Kd.N_ne HO_6.out BK127.out (by decide))); have n2_ := Aside0.mk (Kd.V_afterv (ok := (fun k_ => (w.heap.size ≤ k_) ∧ some k_ ≠ (.slice (some ad131) t128.length co7 : Value).ownBlock ∧ k_ ≠ gb127)) (by (with_reducible repeat (first | apply Kd.V_alloc | apply Kd.V_drewN | apply Kd.V_drew)); exact Kd.V_mono HL131_0.out (fun _ hk => ⟨⟨hk.1.1, ⟨hk.2, hk.1.2.2⟩⟩, hk.1.2.1⟩)) hg hat); have n3_ := Aside0.mk (hb); have n4_ := Aside0.mk (ho); clear HO_15; clear BK127; clear HL131_0; clear HB; clear HO_6; have HO_15 := n0_; have BK127 := n1_; have HL131_0 := n2_; have HB := n3_; have HO140 := n4_; clear n0_ n1_ n2_ n3_ n4_; clear ho hb hg hat))
                  go_roundg k1
                  case measure => have := HK1.out; omega
                  case rel => exact ⟨(y138), (x7_1), (wrap64 (x17_1 + 1)), (by first | rfl | (simp; done) | (simp [*]; done)), (by first | rfl | (simp; done) | (simp [*]; done)), H', ⟨by have := HK1.out; omega⟩, ⟨by (with_reducible repeat (first | apply Kd.N_alloc | apply Kd.N_drewN | apply Kd.N_drew)); exact HO140.out⟩, ⟨by (with_reducible repeat (first | apply Kd.N_alloc | apply Kd.N_drewN | apply Kd.N_drew)); exact Kd.N_mono HO_15.out (fun _ hk => ⟨hk.1.1, ⟨hk.2, hk.1.2⟩⟩)⟩, ⟨by (with_reducible repeat (first | refine blk_drewN ?_ _ | refine blk_drew ?_ | refine blk_alloc ?_ _)); exact BK127.out⟩, ⟨by repeat (first | (with_reducible first | exact HB.out | apply below_alloc | apply pw_below_drewN | apply below_drew1 | refine below_set ?_ GE127.out) | exact HB.out)⟩⟩
                · rw [if_neg c17] at H
                  exact absurd H (by simp)
              · rw [if_neg c16] at H
                have c16b0 : (t134 == x7_1) = false := beq_eq_false_iff_ne.mpr c16
                have c16b1 : (t134 != x7_1) = true := bne_iff_ne.mpr c16
                have H' := Aside0.mk H
                clear H
                have p131 : 0 ≤ (x17_1 : Int) := of_decide_eq_true (by first | (with_reducible assumption) | assumption)
                have q131 : x17_1 < (t128.length : Int) := of_decide_eq_true (by first | (with_reducible assumption) | assumption)
                obtain ⟨ad131, A131_0, c131_0, e131, hx131_0, hl131_0, hi131_0⟩ := at_L5 (Kd.N_reads' HO_15.out).2.2 x17_1 p131 q131
                cases e131
                obtain ⟨ce131, hce131, hMe131, hcc131⟩ := Kd.N_get HO_15.out [] x17_1 p131 (by first | exact q131 | exact of_decide_eq_true (by first | (with_reducible assumption) | assumption) | (have e_ := (Kd.N_reads' HO_15.out).1; omega))
                obtain ⟨ua131_0, uc131_0, rfl, ul131_0, ge131_0⟩ := Kd.FK_slice_open hMe131
                have hv131_0 := hcc131 0 _ rfl
                rw [Nat.add_zero, show ((Kd.slice 3 (Kd.int .i64))).sz = 1 from rfl, Nat.mul_one] at hv131_0
                replace hv131_0 := Option.some.inj (hv131_0.symm.trans hx131_0)
                injection hv131_0 with hva_ hvn_ hvc_
                rw [hva_] at ge131_0
                rw [hvc_] at ul131_0
                have HL131_0 := Aside0.mk (show Kd.V (Kd.int .i64) 3 _ w.heap.size _ _ (rd_L5 t128 x17_1) from Kd.V_mk ul131_0 ge131_0)
                clear hva_ hvn_ hvc_ ge131_0 ul131_0
                clear hcc131 hce131
                have HR131_0 := Aside0.mk hi131_0
                have HC131_0 := Aside0.mk hl131_0
                clear hi131_0 hl131_0
                replace p131 := eq_true p131
                replace q131 := eq_true q131
                go_wp2_with (first | ((with_reducible refine gate_callee (f := 50) rfl ?_); refine goesL_ (some 24) rfl rfl Try.func50 (by kernel_rfl) rfl #[.slice A0 l0.length c0, .slice A131_0 (rd_L5 t128 x17_1).length c131_0] rfl (by (try simp only [List.map_toArray, List.map_cons, List.map_nil]); first | done | rfl | (simp only [List.length_drop, List.length_take]; rfl)) ?_; (with_reducible refine (spec_suTotals.calls k1 _ _ l0 _ _ (rd_L5 t128 x17_1) t132 t133 t134 _ ?side1 ?side2 ?side3 ?side4 A11.out).mono ?_); (case side1 => repeat (first | exact (Kd.C_below HR0.out HB.out) | (with_reducible refine Kd.C_alloc ?_ _) | (with_reducible refine Kd.C_drewN ?_ _) | (with_reducible refine Kd.C_drew ?_))); (case side2 => exact HC0.out); (case side3 => repeat (first | exact (by repeat (first | (with_reducible exact HR131_0.out) | (with_reducible refine Kd.C_alloc ?_ _) | (with_reducible refine Kd.C_drewN ?_ _) | (with_reducible refine Kd.C_drew ?_) | exact HR131_0.out)) | (with_reducible refine Kd.C_alloc ?_ _) | (with_reducible refine Kd.C_drewN ?_ _) | (with_reducible refine Kd.C_drew ?_))); (case side4 => exact HC131_0.out); rintro e w' ⟨rfl, ⟨nd, rfl⟩⟩; refine ⟨_, rfl, ?_⟩))
                go_roundg k1
                case measure => have := HK1.out; omega
                case rel => exact ⟨(x6_1), (x7_1), (wrap64 (x17_1 + 1)), (by first | rfl | (simp; done) | (simp [*]; done)), (by first | rfl | (simp; done) | (simp [*]; done)), H', ⟨by have := HK1.out; omega⟩, ⟨by (with_reducible repeat (first | apply Kd.N_alloc | apply Kd.N_drewN | apply Kd.N_drew)); exact HO_6.out⟩, ⟨by (with_reducible repeat (first | apply Kd.N_alloc | apply Kd.N_drewN | apply Kd.N_drew)); exact HO_15.out⟩, ⟨by (with_reducible repeat (first | refine blk_drewN ?_ _ | refine blk_drew ?_ | refine blk_alloc ?_ _)); exact BK127.out⟩, ⟨by repeat (first | (with_reducible first | exact HB.out | apply below_alloc | apply pw_below_drewN | apply below_drew1 | refine below_set ?_ GE127.out) | exact HB.out)⟩⟩
          · rw [if_neg c10] at H
            exact absurd H (by simp)
        · rw [if_neg c9] at H
          exact absurd H (by simp)
      · rw [if_neg c8] at H
        have c8b0 : decide (x17_1 < (t128.length : Int)) = false := decide_eq_false c8
        clear c8
        simp only [Option.some.injEq, Prod.mk.injEq] at H
        obtain ⟨rfl, rfl⟩ := H
        go_wp2
        go_ret2
        exact ⟨_, by first | rfl | (simp [errW_none, errW_some] <;> rfl) | (simp [*, errW_none, errW_some] <;> rfl), by (with_reducible repeat (first | apply Kd.N_alloc | apply Kd.N_drewN | apply Kd.N_drew)); exact Kd.N_mono HO_6.out (fun _ hk => hk.1), by repeat (first | (with_reducible first | exact HB.out | apply below_alloc | apply pw_below_drewN | apply below_drew1 | refine below_set ?_ GE127.out) | exact HB.out)⟩

end Go.Proofs.Ytkaihdpmjlhlaaa.Q

namespace Go.Proofs.Ytkaihdpmjlhlaaa.Q
open Go.RowKit Go.Proofs.YtkaihdpmjlhlaaaW.PrintWords Go.Proofs.YtkaihdpmjlhlaaaW.PrintLast Go.Proofs.YtkaihdpmjlhlaaaW.PrintMore
attribute [local go_sem] max2_int min2_int max_two min_two max_three min_three max_four min_four   -- for this text's walks alone
set_option linter.unusedVariables false
set_option linter.unusedSimpArgs false

/-! ### spec_l1Has: function 52 -/
def spec_l1Has.l0 : Nat → Int → List Int → Int → Int → Option (Bool)
  | 0, _, _, _, _ => none
  | k + 1, x1, x7, x8, x9 => if x9 < x8 then (if 0 ≤ x9 then (if x9 < (x7.length : Int) then (if (rd x7 x9) = x1 then (some true) else (spec_l1Has.l0 k x1 x7 x8 (wrap64 (x9 + 1)))) else (none)) else (none)) else (some false)
def spec_l1Has.f (k : Nat) (l0 : List Int) (a1 : Int) : Option (Bool) := spec_l1Has.l0 k a1 l0 (l0.length : Int) 0
theorem spec_l1Has.mono_l : ∀ k, (∀ y0 y1 y2 y3, LeO (spec_l1Has.l0 k y0 y1 y2 y3) (spec_l1Has.l0 (k + 1) y0 y1 y2 y3))
  | 0 => fun _ _ _ _ r h => by simp [spec_l1Has.l0] at h
  | k + 1 => by
    have ih0 := spec_l1Has.mono_l k
    · intro y0 y1 y2 y3
      unfold spec_l1Has.l0
      repeat' first
      | (with_reducible exact ih0 _ _ _ _)
      | (with_reducible exact LeO.refl _)
      | (with_reducible exact LeO.none _)
      | (with_reducible refine LeO.ite ?_ ?_)
      | (with_reducible refine LeO.bind ?_ (fun _ => ?_))
      | exact ih0 _ _ _ _
      | exact LeO.none _
      | refine LeO.ite ?_ ?_
      | refine LeO.bind ?_ (fun _ => ?_)
theorem spec_l1Has.mono : ∀ a0 a1 k, LeO (spec_l1Has.f k a0 a1) (spec_l1Has.f (k + 1) a0 a1) := by
  intro a0 a1 k
  have ih0 := spec_l1Has.mono_l k
  unfold spec_l1Has.f
  repeat' first
      | (with_reducible exact ih0 _ _ _ _)
      | (with_reducible exact LeO.refl _)
      | (with_reducible exact LeO.none _)
      | (with_reducible refine LeO.ite ?_ ?_)
      | (with_reducible refine LeO.bind ?_ (fun _ => ?_))
      | exact ih0 _ _ _ _
      | exact LeO.none _
      | refine LeO.ite ?_ ?_
      | refine LeO.bind ?_ (fun _ => ?_)
set_option maxHeartbeats 8000000 in
set_option maxRecDepth 100000 in
theorem spec_l1Has.calls (k : Nat) (A0 : Option Addr) (c0 : Nat) (l0 : List Int) (a1 : Int) (r : Bool) (w : World) (hr0 : Kd.C (Kd.int .i64) w A0 l0.length l0) (hc0 : l0.length ≤ c0) (h : spec_l1Has.f k l0 a1 = some r) :
    Calls Try.prog 52 #[.slice A0 l0.length c0, .int .i64 a1] w fun e w' => e = .returned (.bool r) ∧ Drawn0 w w' := by
  have HR0 := Aside0.mk hr0
  have HC0 := Aside0.mk hc0
  clear hr0 hc0
  have H : (spec_l1Has.l0 k a1 l0 (l0.length : Int) 0) = some r := h
  clear h
  have H' := Aside0.mk H
  clear H
  go_enter Try.func52, Try.ntmps52
  go_wp2
  go_loopg [9] k (fun kq v9 w' => ∃ (x9_1 : Int), v9 = .int .i64 x9_1 ∧ Aside0 (spec_l1Has.l0 kq a1 l0 (l0.length : Int) x9_1 = some r) ∧ Aside0 (kq ≤ k) ∧ Drawn0 w w')
  case atStart => exact ⟨(0), (by first | rfl | (simp; done) | (simp [*]; done)), H', ⟨Nat.le_refl _⟩, by repeat (first | exact Drawn0.refl _ | apply Drawn0.step)⟩
  case round =>
    clear H'
    try clear p2
    obtain ⟨x9_1, rfl, HA, HK1, ⟨m1, rfl⟩⟩ := hrel
    cases gk with
    | zero => exact absurd HA.out (by simp [spec_l1Has.l0])
    | succ k1 =>
      have H := HA.out
      clear HA
      simp only [spec_l1Has.l0] at H
      by_cases c3 : x9_1 < (l0.length : Int)
      · rw [if_pos c3] at H
        have c3b0 : decide (x9_1 < (l0.length : Int)) = true := decide_eq_true c3
        clear c3
        by_cases c4 : 0 ≤ x9_1
        · rw [if_pos c4] at H
          have c4b0 : decide (0 ≤ x9_1) = true := decide_eq_true c4
          clear c4
          by_cases c5 : x9_1 < (l0.length : Int)
          · rw [if_pos c5] at H
            have c5b0 : decide (x9_1 < (l0.length : Int)) = true := decide_eq_true c5
            clear c5
            by_cases c6 : (rd l0 x9_1) = a1
            · rw [if_pos c6] at H
              have c6b0 : ((rd l0 x9_1) == a1) = true := beq_iff_eq.mpr c6
              have c6b1 : ((rd l0 x9_1) != a1) = false := bne_eq_false_iff_eq.mpr c6
              clear c6
              obtain rfl := Option.some.inj H
              have p365 : 0 ≤ (x9_1 : Int) := of_decide_eq_true (by first | (with_reducible assumption) | assumption)
              have q365 : x9_1 < (l0.length : Int) := of_decide_eq_true (by first | (with_reducible assumption) | assumption)
              obtain ⟨ad365, e365, hx365_0⟩ := Kd.at_int HR0.out x9_1 p365 q365
              cases e365
              replace p365 := eq_true p365
              replace q365 := eq_true q365
              go_wp2
              go_ret
              exact ⟨by first | rfl | (simp; done) | (simp [*]; done), by repeat (first | exact Drawn0.refl _ | apply Drawn0.step)⟩
            · rw [if_neg c6] at H
              have c6b0 : ((rd l0 x9_1) == a1) = false := beq_eq_false_iff_ne.mpr c6
              have c6b1 : ((rd l0 x9_1) != a1) = true := bne_iff_ne.mpr c6
              have H' := Aside0.mk H
              clear H
              have p365 : 0 ≤ (x9_1 : Int) := of_decide_eq_true (by first | (with_reducible assumption) | assumption)
              have q365 : x9_1 < (l0.length : Int) := of_decide_eq_true (by first | (with_reducible assumption) | assumption)
              obtain ⟨ad365, e365, hx365_0⟩ := Kd.at_int HR0.out x9_1 p365 q365
              cases e365
              replace p365 := eq_true p365
              replace q365 := eq_true q365
              go_wp2
              go_roundg k1
              case measure => have := HK1.out; omega
              case rel => exact ⟨(wrap64 (x9_1 + 1)), (by first | rfl | (simp; done) | (simp [*]; done)), H', ⟨by have := HK1.out; omega⟩, by repeat (first | exact Drawn0.refl _ | apply Drawn0.step)⟩
          · rw [if_neg c5] at H
            exact absurd H (by simp)
        · rw [if_neg c4] at H
          exact absurd H (by simp)
      · rw [if_neg c3] at H
        have c3b0 : decide (x9_1 < (l0.length : Int)) = false := decide_eq_false c3
        clear c3
        obtain rfl := Option.some.inj H
        go_wp2
        go_ret
        exact ⟨by first | rfl | (simp; done) | (simp [*]; done), by repeat (first | exact Drawn0.refl _ | apply Drawn0.step)⟩

end Go.Proofs.Ytkaihdpmjlhlaaa.Q
