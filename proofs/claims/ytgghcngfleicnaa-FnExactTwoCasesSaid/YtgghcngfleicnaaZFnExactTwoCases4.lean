/-
  Part 4 of the proof of FnExactTwoCases: what Go functions that it reaches compute, each shown by a walk of its code, and plain laws on numbers and lists.
  CONDITIONS: each theorem's own, as stated.
-/
import Derived.Test.YtgghcngfleicnaaZFnExactTwoCases3
import Derived.Test.YtgghcngfleicnaaZFnExactTwoCases1
import Derived.Test.YtgghcngfleicnaaZFnExactTwoCases2
namespace Go.Proofs.Ytgghcngfleicnaa.Q
open Go.RowKit Go.Proofs.YtgghcngfleicnaaW.PrintWords Go.Proofs.YtgghcngfleicnaaW.PrintLast Go.Proofs.YtgghcngfleicnaaW.PrintMore
set_option linter.unusedVariables false
set_option linter.unusedSimpArgs false

theorem tot_snoc (items : List Item) (ch : List Int) (i : Int) : tot items (ch ++ [i]) = addTo items (tot items ch) i := by simp [tot]
theorem tot_bound {items : List Item} (hL : Light items) : ∀ n (ch : List Int), ch.length = n → Inside items ch → n ≤ 1000 → (0 ≤ (tot items ch).1 ∧ (tot items ch).1 ≤ 200 * n) ∧ (0 ≤ (tot items ch).2.1 ∧ (tot items ch).2.1 ≤ 200 * n) ∧ 0 ≤ (tot items ch).2.2 ∧ (tot items ch).2.2 ≤ 200 * n := by
  intro n
  induction n with
  | zero => intro ch h _ _; rw [List.eq_nil_of_length_eq_zero h]; simp [tot]
  | succ n ih =>
    intro ch h hin hle
    have hne : ch ≠ [] := by intro e; subst e; simp at h
    rw [← List.dropLast_concat_getLast hne, tot_snoc]
    have hi := hin _ (List.getLast_mem hne)
    have h1 := ih ch.dropLast (by simp [h]) (fun x hx => hin x (List.dropLast_subset _ hx)) (by omega)
    have h2 := hL.2 _ hi.1 hi.2
    unfold addTo
    simp only
    rw [w64 (by omega) (by omega), w64 (by omega) (by omega), w64 (by omega) (by omega)]
    omega
theorem tot_add {items : List Item} (hL : Light items) (ch : List Int) (i : Int) (hin : Inside items ch) (hi : 0 ≤ i ∧ i < (items.length : Int)) (hl : ch.length ≤ 900) :
    (tot items (ch ++ [i])).1 = (tot items ch).1 + (rd_T54 items i).f0 ∧ (tot items (ch ++ [i])).2.1 = (tot items ch).2.1 + (rd_T54 items i).f1 ∧ (tot items (ch ++ [i])).2.2 = (tot items ch).2.2 + (rd_T54 items i).f2 := by
  have h1 := tot_bound hL _ ch rfl hin (by omega)
  have h2 := hL.2 i hi.1 hi.2
  rw [tot_snoc]
  unfold addTo
  exact ⟨w64 (by omega) (by omega), w64 (by omega) (by omega), w64 (by omega) (by omega)⟩
theorem fits_less {items : List Item} (hL : Light items) (a b : Int) (ch : List Int) (i : Int) (hin : Inside items ch) (hi : 0 ≤ i ∧ i < (items.length : Int)) (hl : ch.length ≤ 900) (h : fitsC items a b ch = false) : fitsC items a b (ch ++ [i]) = false := by
  have h1 := tot_add hL ch i hin hi hl
  have h2 := hL.2 i hi.1 hi.2
  unfold fitsC at h ⊢
  rw [h1.1, h1.2.1]
  simp only [Bool.and_eq_false_iff, decide_eq_false_iff_not] at h ⊢
  omega
theorem inside_snoc {items : List Item} {ch : List Int} {i : Nat} (h : ∀ x ∈ ch, 0 ≤ x ∧ x < (i : Int)) : ∀ x ∈ ch ++ [(i : Int)], 0 ≤ x ∧ x < ((i + 1 : Nat) : Int) := fun x hx => by
  rcases List.mem_append.1 hx with hx | hx
  · have := h x hx; omega
  · have := List.mem_singleton.1 hx; omega
theorem inside_of {items : List Item} {ch : List Int} {i : Nat} (h : ∀ x ∈ ch, 0 ≤ x ∧ x < (i : Int)) (hi : i ≤ items.length) : Inside items ch := fun x hx => by have := h x hx; omega
theorem loopV_none {items : List Item} (hL : Light items) (a b : Int) : ∀ d ch i, i + d = items.length → (∀ x ∈ ch, 0 ≤ x ∧ x < (i : Int)) → ch.length ≤ i → fitsC items a b ch = false → (loopV d ch i).filter (fitsC items a b) = [] := by
  intro d
  induction d with
  | zero => intro ch i _ _ _ _; rfl
  | succ d ih =>
    intro ch i hd hin hl hf
    have h10 := hL.1
    have hf2 := fits_less hL a b ch (i : Int) (inside_of hin (by omega)) ⟨by omega, by omega⟩ (by omega) hf
    unfold loopV
    rw [List.filter_append, List.filter_cons, if_neg (by rw [hf2]; decide), ih _ (i + 1) (by omega) (inside_snoc (items := items) hin) (by simp; omega) hf2, ih ch (i + 1) (by omega) (fun x hx => by have := hin x hx; omega) (by omega) hf]
    rfl
theorem loopV_look {items : List Item} (hL : Light items) (a b : Int) : ∀ d ch i, i + d = items.length → (∀ x ∈ ch, 0 ≤ x ∧ x < (i : Int)) → ch.length ≤ i → (loopV d ch i).filter (fitsC items a b) = lookV items a b d ch i := by
  intro d
  induction d with
  | zero => intro ch i _ _ _; rfl
  | succ d ih =>
    intro ch i hd hin hl
    have h10 := hL.1
    unfold loopV lookV
    rw [List.filter_append, List.filter_cons, ih ch (i + 1) (by omega) (fun x hx => by have := hin x hx; omega) (by omega)]
    by_cases hf : fitsC items a b (ch ++ [(i : Int)]) = true
    · rw [if_pos hf, if_pos hf, ih _ (i + 1) (by omega) (inside_snoc (items := items) hin) (by simp; omega)]
    · rw [if_neg hf, if_neg hf, loopV_none hL a b d _ (i + 1) (by omega) (inside_snoc (items := items) hin) (by simp; omega) (by simpa using hf)]
/-- All choices, in order. -/
def choicesL (items : List Item) (a b : Int) : List (List Int) := [] :: lookV items a b items.length [] 0
theorem allV_choices {items : List Item} (hL : Light items) (a b : Int) (ha : 0 ≤ a) (hb : 0 ≤ b) : (allV items.length).filter (fitsC items a b) = choicesL items a b := by
  unfold allV choicesL
  rw [List.filter_cons, if_pos (by simp [fitsC, tot, ha, hb]), loopV_look hL a b items.length [] 0 (by omega) (fun x hx => by cases hx) (by simp)]
theorem foldl_visit {σ : Type} (items : List Item) (accept : Int × Int × Int → Bool) (step : σ → List Int → σ) : ∀ (L : List (List Int)) (s : σ), L.foldl (visit items accept step) s = (L.filter (fun ch => accept (tot items ch))).foldl step s := by
  intro L
  induction L with
  | nil => intro s; rfl
  | cons ch L ih =>
    intro s
    rw [List.foldl_cons, List.filter_cons, ih]
    unfold visit
    split <;> simp
/-- What is done at each choice. -/
theorem visit_choices {σ : Type} {items : List Item} (hL : Light items) (a b : Int) (ha : 0 ≤ a) (hb : 0 ≤ b) (step : σ → List Int → σ) (s : σ) : (allV items.length).foldl (visit items (holdsC a b) step) s = (choicesL items a b).foldl step s := by
  rw [foldl_visit, ← allV_choices hL a b ha hb]
  rfl
theorem lookV_inside (items : List Item) (a b : Int) : ∀ d ch i, i + d = items.length → (∀ x ∈ ch, 0 ≤ x ∧ x < (i : Int)) → ch.length ≤ i → ∀ c ∈ lookV items a b d ch i, Inside items c ∧ c.length ≤ items.length := by
  intro d
  induction d with
  | zero => intro ch i _ _ _ c hc; cases hc
  | succ d ih =>
    intro ch i hd hin hl c hc
    unfold lookV at hc
    rcases List.mem_append.1 hc with hc | hc
    · split at hc
      · rcases List.mem_cons.1 hc with rfl | hc
        · exact ⟨inside_of (inside_snoc (items := items) hin) (by omega), by simp; omega⟩
        · exact ih _ (i + 1) (by omega) (inside_snoc (items := items) hin) (by simp; omega) c hc
      · cases hc
    · exact ih ch (i + 1) (by omega) (fun x hx => by have := hin x hx; omega) (by omega) c hc
theorem choicesL_inside (items : List Item) (a b : Int) : ∀ c ∈ choicesL items a b, Inside items c ∧ c.length ≤ items.length := by
  intro c hc
  rcases List.mem_cons.1 hc with rfl | hc
  · exact ⟨fun x hx => (by cases hx), by simp⟩
  · exact lookV_inside items a b items.length [] 0 (by omega) (fun x hx => by cases hx) (by simp) c hc
theorem choicesL_length {items : List Item} (hn : items.length ≤ 10) (a b : Int) : (choicesL items a b).length ≤ 1024 := by
  have := lookV_length items a b items.length [] 0
  have hp : 2 ^ items.length ≤ 2 ^ 10 := Nat.pow_le_pow_right (by decide) hn
  unfold choicesL
  rw [List.length_cons]
  omega

/-! ### the reference's best -/
def suStep (items : List Item) (s : List (List Int) × Int) (ch : List Int) : List (List Int) × Int :=
  if s.2 < (tot items ch).2.2 then ([ch], (tot items ch).2.2) else if (tot items ch).2.2 = s.2 then (s.1 ++ [ch], s.2) else s
theorem suBest_l0 (items : List Item) (L : List (List Int)) (hw : ∀ c ∈ L, Inside items c ∧ c.length ≤ 1000) (hn : L.length ≤ 1000000) : ∀ d k i (s : List (List Int) × Int), i + d = L.length → d + 1000 < k → s.1.length ≤ i →
    spec_suBest.l0 k items s.1 s.2 L (L.length : Int) (i : Int) = some ((L.drop i).foldl (suStep items) s) := by
  intro d
  induction d with
  | zero =>
    intro k i s hi hk _
    obtain ⟨k, rfl⟩ : ∃ m, k = m + 1 := ⟨k - 1, by omega⟩
    simp only [spec_suBest.l0]; rw [if_neg (by omega), List.drop_of_length_le (by omega)]; rfl
  | succ d ih =>
    intro k i s hi hk hs
    obtain ⟨k, rfl⟩ : ∃ m, k = m + 1 := ⟨k - 1, by omega⟩
    have hlt : i < L.length := by omega
    have hin := hw L[i] (List.getElem_mem hlt)
    have hrd : rd_L7 L (i : Int) = L[i] := by simp [rd_L7, List.getD_eq_getElem?_getD, hlt]
    simp only [spec_suBest.l0]
    rw [if_pos (by omega), if_pos (by omega), if_pos (by omega), hrd, suTotals_eq items L[i] hin.1 (by omega) k (by omega), w64 (i := (i : Int) + 1) (by omega) (by omega), List.drop_eq_getElem_cons hlt, List.foldl_cons]
    simp only [Option.bind_some, gt_iff_lt]
    by_cases h1 : s.2 < (tot items L[i]).2.2
    · rw [if_pos h1, if_pos trivial, if_pos (by simp), show suStep items s L[i] = ([L[i]], (tot items L[i]).2.2) by unfold suStep; rw [if_pos h1]]
      have := ih k (i + 1) ([L[i]], (tot items L[i]).2.2) (by omega) (by omega) (by simp)
      rw [show ((i + 1 : Nat) : Int) = (i : Int) + 1 by omega] at this
      simpa using this
    · rw [if_neg h1]
      by_cases h2 : (tot items L[i]).2.2 = s.2
      · rw [if_pos h2, if_pos (by omega), show suStep items s L[i] = (s.1 ++ [L[i]], s.2) by unfold suStep; rw [if_neg h1, if_pos h2]]
        have := ih k (i + 1) (s.1 ++ [L[i]], s.2) (by omega) (by omega) (by simp; omega)
        rw [show ((i + 1 : Nat) : Int) = (i : Int) + 1 by omega] at this
        exact this
      · rw [if_neg h2, show suStep items s L[i] = s by unfold suStep; rw [if_neg h1, if_neg h2]]
        have := ih k (i + 1) s (by omega) (by omega) (by omega)
        rw [show ((i + 1 : Nat) : Int) = (i : Int) + 1 by omega] at this
        exact this
/-- The choices with the greatest value, and this. -/
def bestL (items : List Item) (a b : Int) : List (List Int) × Int := (choicesL items a b).foldl (suStep items) ([], 0)
theorem suBest_eq (items : List Item) (a b : Int) (hn : items.length ≤ 10) (k : Nat) (hk : 3000 < k) : spec_suBest.f k items a b = some (bestL items a b) := by
  unfold spec_suBest.f spec_suAll.f
  rw [if_pos (by omega)]
  simp only [Option.bind_some]
  have hl := choicesL_length hn a b
  have := suBest_l0 items (choicesL items a b) (fun c hc => by have := choicesL_inside items a b c hc; exact ⟨this.1, by omega⟩) (by omega) (choicesL items a b).length k 0 ([], 0) (by omega) (by omega) (by simp)
  simpa [choicesL, bestL] using this
theorem best_rel {items : List Item} (hL : Light items) : ∀ (L : List (List Int)) (s : List (List Int) × Int) (t : Best), (∀ c ∈ L, Inside items c ∧ c.length ≤ items.length) → (∃ x xs, s.1 = x :: xs ∧ t.1 = x) → t.2.1 = s.2 → t.2.2 = (s.1.length : Int) → s.1.length + L.length ≤ 1000000 →
    ∃ x xs, (L.foldl (suStep items) s).1 = x :: xs ∧ (L.foldl (bestStep items (fun _ y => y.2.2)) t) = (x, (L.foldl (suStep items) s).2, (((L.foldl (suStep items) s).1.length : Nat) : Int)) := by
  intro L
  induction L with
  | nil =>
    rintro ⟨s1, s2⟩ ⟨t1, t2, t3⟩ _ ⟨x, xs, h1, h2⟩ h3 h4 _
    simp only at h1 h2 h3 h4
    exact ⟨x, xs, h1, by simp [h2, h3, h4]⟩
  | cons ch L ih =>
    rintro ⟨s1, s2⟩ ⟨t1, t2, t3⟩ hin ⟨x, xs, h1, h2⟩ h3 h4 hl
    simp only at h1 h2 h3 h4
    subst h1 h2 h3 h4
    rw [List.foldl_cons, List.foldl_cons]
    simp only [List.length_cons] at hl
    unfold suStep bestStep
    simp only
    by_cases c1 : t2 < (tot items ch).2.2
    · rw [if_pos c1, if_pos c1]
      exact ih _ _ (fun c hc => hin c (List.mem_cons_of_mem _ hc)) ⟨ch, [], rfl, rfl⟩ rfl (by simp) (by simp; omega)
    · rw [if_neg c1, if_neg c1]
      by_cases c2 : (tot items ch).2.2 = t2
      · rw [if_pos c2, if_pos c2]
        refine ih _ _ (fun c hc => hin c (List.mem_cons_of_mem _ hc)) ⟨t1, xs ++ [ch], rfl, rfl⟩ rfl ?_ (by simp; omega)
        simp only [List.length_cons, List.cons_append, List.length_append, List.length_nil]
        rw [w64 (by omega) (by omega)]
        omega
      · rw [if_neg c2, if_neg c2]
        exact ih _ _ (fun c hc => hin c (List.mem_cons_of_mem _ hc)) ⟨t1, xs, rfl, rfl⟩ rfl rfl (by simp; omega)
/-- The program's best is the reference's. -/
theorem best_same {items : List Item} (hL : Light items) (a b : Int) (ha : 0 ≤ a) (hb : 0 ≤ b) : ∃ x xs, (bestL items a b).1 = x :: xs ∧ bestAll items a b (fun _ y => y.2.2) = (x, (bestL items a b).2, (((bestL items a b).1.length : Nat) : Int)) := by
  unfold bestAll
  rw [visit_choices hL a b ha hb]
  have hl := choicesL_length hL.1 a b
  have hin := choicesL_inside items a b
  unfold bestL
  unfold choicesL at hl hin ⊢
  rw [List.foldl_cons, List.foldl_cons]
  refine best_rel hL _ _ _ (fun c hc => hin c (List.mem_cons_of_mem _ hc)) ⟨[], [], by simp [suStep, tot], by simp [bestStep, tot]⟩ (by simp [suStep, bestStep, tot]) (by simp [suStep, bestStep, tot]) ?_
  simp only [List.length_cons] at hl
  simp [suStep, tot]; omega
end Go.Proofs.Ytgghcngfleicnaa.Q

namespace Go.Proofs.Ytgghcngfleicnaa.Q
open Go.RowKit Go.Proofs.YtgghcngfleicnaaW.PrintWords Go.Proofs.YtgghcngfleicnaaW.PrintLast Go.Proofs.YtgghcngfleicnaaW.PrintMore
attribute [local go_sem] max2_int min2_int max_two min_two max_three min_three max_four min_four   -- for this text's walks alone
set_option linter.unusedVariables false
set_option linter.unusedSimpArgs false

/-! ### spec_l1Has: function 57 -/
def spec_l1Has.l0 : Nat → Int → List Int → Int → Int → Option (Bool)
  | 0, _, _, _, _ => none
  | k + 1, x1, x7, x8, x9 => if x9 < x8 then (if 0 ≤ x9 then (if x9 < (x7.length : Int) then (if (rd x7 x9) = x1 then (some true) else (spec_l1Has.l0 k x1 x7 x8 (wrap64 (x9 + 1)))) else (none)) else (none)) else (some false)
def spec_l1Has.f (k : Nat) (l0 : List Int) (a1 : Int) : Option (Bool) := spec_l1Has.l0 k a1 l0 (l0.length : Int) 0
theorem spec_l1Has.mono_l : ∀ k, (∀ y0 y1 y2 y3, LeO (spec_l1Has.l0 k y0 y1 y2 y3) (spec_l1Has.l0 (k + 1) y0 y1 y2 y3))
  | 0 => fun _ _ _ _ r h => by simp [spec_l1Has.l0] at h
  | k + 1 => by
    have ih0 := spec_l1Has.mono_l k
    · intro y0 y1 y2 y3
      unfold spec_l1Has.l0
      repeat' first
      | (with_reducible exact ih0 _ _ _ _)
      | (with_reducible exact LeO.refl _)
      | (with_reducible exact LeO.none _)
      | (with_reducible refine LeO.ite ?_ ?_)
      | (with_reducible refine LeO.bind ?_ (fun _ => ?_))
      | exact ih0 _ _ _ _
      | exact LeO.none _
      | refine LeO.ite ?_ ?_
      | refine LeO.bind ?_ (fun _ => ?_)
theorem spec_l1Has.mono : ∀ a0 a1 k, LeO (spec_l1Has.f k a0 a1) (spec_l1Has.f (k + 1) a0 a1) := by
  intro a0 a1 k
  have ih0 := spec_l1Has.mono_l k
  unfold spec_l1Has.f
  repeat' first
      | (with_reducible exact ih0 _ _ _ _)
      | (with_reducible exact LeO.refl _)
      | (with_reducible exact LeO.none _)
      | (with_reducible refine LeO.ite ?_ ?_)
      | (with_reducible refine LeO.bind ?_ (fun _ => ?_))
      | exact ih0 _ _ _ _
      | exact LeO.none _
      | refine LeO.ite ?_ ?_
      | refine LeO.bind ?_ (fun _ => ?_)
set_option maxHeartbeats 8000000 in
set_option maxRecDepth 100000 in
theorem spec_l1Has.calls (k : Nat) (A0 : Option Addr) (c0 : Nat) (l0 : List Int) (a1 : Int) (r : Bool) (w : World) (hr0 : Kd.C (Kd.int .i64) w A0 l0.length l0) (hc0 : l0.length ≤ c0) (h : spec_l1Has.f k l0 a1 = some r) :
    Calls Try.prog 57 #[.slice A0 l0.length c0, .int .i64 a1] w fun e w' => e = .returned (.bool r) ∧ Drawn0 w w' := by
  have HR0 := Aside0.mk hr0
  have HC0 := Aside0.mk hc0
  clear hr0 hc0
  have H : (spec_l1Has.l0 k a1 l0 (l0.length : Int) 0) = some r := h
  clear h
  have H' := Aside0.mk H
  clear H
  go_enter Try.func57, Try.ntmps57
  go_wp2
  go_loopg [9] k (fun kq v9 w' => ∃ (x9_1 : Int), v9 = .int .i64 x9_1 ∧ Aside0 (spec_l1Has.l0 kq a1 l0 (l0.length : Int) x9_1 = some r) ∧ Aside0 (kq ≤ k) ∧ Drawn0 w w')
  case atStart => exact ⟨(0), (by first | rfl | (simp; done) | (simp [*]; done)), H', ⟨Nat.le_refl _⟩, by repeat (first | exact Drawn0.refl _ | apply Drawn0.step)⟩
  case round =>
    clear H'
    try clear p2
    obtain ⟨x9_1, rfl, HA, HK1, ⟨m1, rfl⟩⟩ := hrel
    cases gk with
    | zero => exact absurd HA.out (by simp [spec_l1Has.l0])
    | succ k1 =>
      have H := HA.out
      clear HA
      simp only [spec_l1Has.l0] at H
      by_cases c3 : x9_1 < (l0.length : Int)
      · rw [if_pos c3] at H
        have c3b0 : decide (x9_1 < (l0.length : Int)) = true := decide_eq_true c3
        clear c3
        by_cases c4 : 0 ≤ x9_1
        · rw [if_pos c4] at H
          have c4b0 : decide (0 ≤ x9_1) = true := decide_eq_true c4
          clear c4
          by_cases c5 : x9_1 < (l0.length : Int)
          · rw [if_pos c5] at H
            have c5b0 : decide (x9_1 < (l0.length : Int)) = true := decide_eq_true c5
            clear c5
            by_cases c6 : (rd l0 x9_1) = a1
            · rw [if_pos c6] at H
              have c6b0 : ((rd l0 x9_1) == a1) = true := beq_iff_eq.mpr c6
              have c6b1 : ((rd l0 x9_1) != a1) = false := bne_eq_false_iff_eq.mpr c6
              clear c6
              obtain rfl := Option.some.inj H
              have p387 : 0 ≤ (x9_1 : Int) := of_decide_eq_true (by first | (with_reducible assumption) | assumption)
              have q387 : x9_1 < (l0.length : Int) := of_decide_eq_true (by first | (with_reducible assumption) | assumption)
              obtain ⟨ad387, e387, hx387_0⟩ := Kd.at_int HR0.out x9_1 p387 q387
              cases e387
              replace p387 := eq_true p387
              replace q387 := eq_true q387
              go_wp2
              go_ret
              exact ⟨by first | rfl | (simp; done) | (simp [*]; done), by repeat (first | exact Drawn0.refl _ | apply Drawn0.step)⟩
            · rw [if_neg c6] at H
              have c6b0 : ((rd l0 x9_1) == a1) = false := beq_eq_false_iff_ne.mpr c6
              have c6b1 : ((rd l0 x9_1) != a1) = true := bne_iff_ne.mpr c6
              have H' := Aside0.mk H
              clear H
              have p387 : 0 ≤ (x9_1 : Int) := of_decide_eq_true (by first | (with_reducible assumption) | assumption)
              have q387 : x9_1 < (l0.length : Int) := of_decide_eq_true (by first | (with_reducible assumption) | assumption)
              obtain ⟨ad387, e387, hx387_0⟩ := Kd.at_int HR0.out x9_1 p387 q387
              cases e387
              replace p387 := eq_true p387
              replace q387 := eq_true q387
              go_wp2
              go_roundg k1
              case measure => have := HK1.out; omega
              case rel => exact ⟨(wrap64 (x9_1 + 1)), (by first | rfl | (simp; done) | (simp [*]; done)), H', ⟨by have := HK1.out; omega⟩, by repeat (first | exact Drawn0.refl _ | apply Drawn0.step)⟩
          · rw [if_neg c5] at H
            exact absurd H (by simp)
        · rw [if_neg c4] at H
          exact absurd H (by simp)
      · rw [if_neg c3] at H
        have c3b0 : decide (x9_1 < (l0.length : Int)) = false := decide_eq_false c3
        clear c3
        obtain rfl := Option.some.inj H
        go_wp2
        go_ret
        exact ⟨by first | rfl | (simp; done) | (simp [*]; done), by repeat (first | exact Drawn0.refl _ | apply Drawn0.step)⟩

end Go.Proofs.Ytgghcngfleicnaa.Q

namespace Go.Proofs.Ytgghcngfleicnaa.Q
open Go.RowKit Go.Proofs.YtgghcngfleicnaaW.PrintWords Go.Proofs.YtgghcngfleicnaaW.PrintLast Go.Proofs.YtgghcngfleicnaaW.PrintMore
set_option linter.unusedVariables false
set_option linter.unusedSimpArgs false

theorem l1Has_l0 (st : List Int) (x : Int) (hn : st.length ≤ 1000000000) : ∀ d k i, i + d = st.length → d < k → spec_l1Has.l0 k x st (st.length : Int) (i : Int) = some ((st.drop i).contains x) := by
  intro d
  induction d with
  | zero =>
    intro k i hi hk
    obtain ⟨k, rfl⟩ : ∃ q, k = q + 1 := ⟨k - 1, by omega⟩
    simp only [spec_l1Has.l0]; rw [if_neg (by omega), List.drop_of_length_le (by omega)]; rfl
  | succ d ih =>
    intro k i hi hk
    obtain ⟨k, rfl⟩ : ∃ q, k = q + 1 := ⟨k - 1, by omega⟩
    have hlt : i < st.length := by omega
    simp only [spec_l1Has.l0]
    rw [if_pos (by omega), if_pos (by omega), if_pos (by omega), rd_nat st i hlt, w64 (i := (i : Int) + 1) (by omega) (by omega), List.drop_eq_getElem_cons hlt, List.contains_cons]
    by_cases h : st[i] = x
    · rw [if_pos h, beq_iff_eq.mpr h.symm, Bool.true_or]
    · rw [if_neg h, beq_eq_false_iff_ne.mpr (fun e => h e.symm), Bool.false_or, show (i : Int) + 1 = ((i + 1 : Nat) : Int) by omega, ih k (i + 1) (by omega) (by omega)]
theorem l1Has_eq (st : List Int) (x : Int) (hn : st.length ≤ 1000000000) (k : Nat) (hk : st.length < k) : spec_l1Has.f k st x = some (st.contains x) := by
  unfold spec_l1Has.f
  have := l1Has_l0 st x hn st.length k 0 (by omega) hk
  simpa using this


end Go.Proofs.Ytgghcngfleicnaa.Q

namespace Go.Proofs.Ytgghcngfleicnaa.Q
open Go.RowKit Go.Proofs.YtgghcngfleicnaaW.PrintWords Go.Proofs.YtgghcngfleicnaaW.PrintLast Go.Proofs.YtgghcngfleicnaaW.PrintMore
attribute [local go_sem] max2_int min2_int max_two min_two max_three min_three max_four min_four   -- for this text's walks alone
set_option linter.unusedVariables false
set_option linter.unusedSimpArgs false

/-! ### spec_l1Most: function 59 -/
def spec_l1Most.f (a0 : Int) (a1 : Int) : Option (Int) := if a0 > a1 then (some a0) else (some a1)
set_option maxHeartbeats 8000000 in
set_option maxRecDepth 100000 in
theorem spec_l1Most.calls (a0 : Int) (a1 : Int) (r : Int) (w : World) (h : spec_l1Most.f a0 a1 = some r) :
    Calls Try.prog 59 #[.int .i64 a0, .int .i64 a1] w fun e w' => e = .returned (.int .i64 r) ∧ Drawn0 w w' := by
  have H : (if a0 > a1 then (some a0) else (some a1)) = some r := h
  clear h
  by_cases c3 : a0 > a1
  · rw [if_pos c3] at H
    have c3b0 : decide (a1 < a0) = true := decide_eq_true c3
    clear c3
    obtain rfl := Option.some.inj H
    go_enter Try.func59, Try.ntmps59
    go_wp2
    go_ret
    exact ⟨by first | rfl | (simp; done) | (simp [*]; done), by repeat (first | exact Drawn0.refl _ | apply Drawn0.step)⟩
  · rw [if_neg c3] at H
    have c3b0 : decide (a1 < a0) = false := decide_eq_false c3
    clear c3
    obtain rfl := Option.some.inj H
    go_enter Try.func59, Try.ntmps59
    go_wp2
    go_ret
    exact ⟨by first | rfl | (simp; done) | (simp [*]; done), by repeat (first | exact Drawn0.refl _ | apply Drawn0.step)⟩

end Go.Proofs.Ytgghcngfleicnaa.Q

namespace Go.Proofs.Ytgghcngfleicnaa.Q
open Go.RowKit Go.Shelf Go.Proofs.YtgghcngfleicnaaW.PrintWords Go.Proofs.YtgghcngfleicnaaW.PrintLast Go.Proofs.YtgghcngfleicnaaW.PrintMore
set_option linter.unusedVariables false
set_option linter.unusedSimpArgs false

/-- The items from place i on, d of them, that a choice leaves. -/
def restL (items : List Item) (ch : List Int) : Nat → Nat → List Item
  | 0, _ => []
  | d + 1, i => (if ch.contains (i : Int) = true then [] else [rd_T54 items (i : Int)]) ++ restL items ch d (i + 1)
theorem restL_length (items : List Item) (ch : List Int) : ∀ d i, (restL items ch d i).length ≤ d
  | 0, _ => by simp [restL]
  | d + 1, i => by
    have := restL_length items ch d (i + 1)
    rw [restL, List.length_append]
    split <;> simp <;> omega
def mostZ (a b : Int) : Int := if a > b then a else b
def casesStep (items : List Item) (d0 d1 : Int) (m : Int) (ch : List Int) : Int := mostZ m (wrap64 ((tot items ch).2.2 + (bestL (restL items ch items.length 0) d0 d1).2))
theorem l1Most_f (a b : Int) : spec_l1Most.f a b = some (mostZ a b) := by unfold spec_l1Most.f mostZ; split <;> rfl
def spec_TwoCases.f (l0 : List Item) (a1_0 a1_1 a2_0 a2_1 : Int) : Option (Int × Bool) :=
  (spec_suAsked.f (l0.length + 1) l0 a1_0 a1_1).bind fun t => if t = true then ((spec_suAsked.f (l0.length + 1) l0 a2_0 a2_1).bind fun u => if u = true then (if l0.length ≤ 10 then some ((choicesL l0 a1_0 a1_1).foldl (casesStep l0 a2_0 a2_1) 0, true) else none) else some (0, false)) else some (0, false)
set_option maxRecDepth 100000 in
set_option maxHeartbeats 2000000 in
theorem spec_TwoCases.calls (A0 : Option Addr) (c0 : Nat) (l0 : List Item) (a1_0 a1_1 a2_0 a2_1 : Int) (r1 : Int) (r2 : Bool) (w : World) (hr0 : Kd.C k54 w A0 l0.length l0) (hc0 : l0.length ≤ c0) (h : spec_TwoCases.f l0 a1_0 a1_1 a2_0 a2_1 = some (r1, r2)) :
    Calls Try.prog 31 #[.slice A0 l0.length c0, .agg #[.int .i64 a1_0, .int .i64 a1_1], .agg #[.int .i64 a2_0, .int .i64 a2_1]] w fun e w' => e = .returned (.tuple #[.int .i64 r1, .bool r2]) ∧ Below w.heap.size w w' := by
  unfold spec_TwoCases.f at h
  obtain ⟨t, ht, h⟩ := Option.bind_eq_some_iff.mp h
  have HR := Aside0.mk hr0
  have hu39 := Try.underlying39
  have hu54 := Try.underlying54
  have hask1 := fun W (hb : Below w.heap.size w W) => spec_suAsked.calls _ A0 c0 l0 a1_0 a1_1 t W (Kd.C_below HR.out hb) hc0 ht
  have HA1 := Aside0.mk hask1
  have HH := Aside0.mk h
  clear ht hr0 h hask1
  go_enter Try.func31, Try.ntmps31
  go_upto_region 1 with (fail)
  have x1 := blk_below (heap_alloc_new w (.cells #[.int .i64 a1_0, .int .i64 a1_1] 39)) ((Below.refl _ _).alloc (Nat.le_refl _) (.cells #[.int .i64 a2_0, .int .i64 a2_1] 39))
  have x2 := heap_alloc_new (w.alloc (.cells #[.int .i64 a1_0, .int .i64 a1_1] 39)) (.cells #[.int .i64 a2_0, .int .i64 a2_1] 39)
  have b2 : Below w.heap.size w ((w.alloc (.cells #[.int .i64 a1_0, .int .i64 a1_1] 39)).alloc (.cells #[.int .i64 a2_0, .int .i64 a2_1] 39)) := ((Below.refl _ w).alloc (by simp) _).alloc (by simp) _
  generalize (w.alloc (.cells #[.int .i64 a1_0, .int .i64 a1_1] 39)).alloc (.cells #[.int .i64 a2_0, .int .i64 a2_1] 39) = W2 at x1 x2 b2 ⊢
  simp only [show ∀ (W : World) (o : Obj), (W.alloc o).heap.size = W.heap.size + 1 from fun W o => by simp] at x2
  have X1 := Aside0.mk x1
  have X2 := Aside0.mk x2
  have B2 := Aside0.mk b2
  have g0 := (blk_cell x1 0).trans rfl
  have g1 := (blk_cell x1 1).trans rfl
  clear x1 x2 b2
  cases t with
  | false =>
    have hr : (0 : Int) = r1 ∧ false = r2 := by simpa using HH.out
    obtain ⟨rfl, rfl⟩ := hr
    go_wp2_with (go_at_call 46; with_reducible refine (HA1.out W2 B2.out).mono ?_; rintro e w3 ⟨rfl, hb⟩; have B3 := Aside0.mk (B2.out.trans (hb.mono B2.out.size)); clear hb)
    go_ret2
    exact ⟨rfl, B3.out⟩
  | true =>
    have h := HH.out
    rw [if_pos rfl] at h
    obtain ⟨u, hu, h⟩ := Option.bind_eq_some_iff.mp h
    have hask2 := fun W (hb : Below w.heap.size w W) => spec_suAsked.calls _ A0 c0 l0 a2_0 a2_1 u W (Kd.C_below HR.out hb) hc0 hu
    have HA2 := Aside0.mk hask2
    have H2 := Aside0.mk h
    clear HH h hu hask2
    cases u with
    | false =>
      have hr : (0 : Int) = r1 ∧ false = r2 := by simpa using H2.out
      obtain ⟨rfl, rfl⟩ := hr
      go_wp2_with (first
        | (go_at_call 46; with_reducible refine (HA1.out W2 B2.out).mono ?_; rintro e w3 ⟨rfl, hb⟩; have D3 := Aside0.mk hb; have B3 := Aside0.mk (B2.out.trans (hb.mono B2.out.size)); have g2 := (blk_cell (blk_below X2.out hb) 0).trans rfl; have g3 := (blk_cell (blk_below X2.out hb) 1).trans rfl; clear hb g0 g1)
        | (go_at_call 46; with_reducible refine (HA2.out w3 B3.out).mono ?_; rintro e w4 ⟨rfl, hb⟩; have B4 := Aside0.mk (B3.out.trans (hb.mono B3.out.size)); clear hb))
      go_ret2
      exact ⟨rfl, B4.out⟩
    | true =>
      have h := H2.out
      by_cases hn : l0.length ≤ 10
      case neg => rw [if_pos rfl, if_neg hn] at h; cases h
      rw [if_pos rfl, if_pos hn] at h
      have hr : (choicesL l0 a1_0 a1_1).foldl (casesStep l0 a2_0 a2_1) 0 = r1 ∧ true = r2 := by simpa using h
      obtain ⟨hr, rfl⟩ := hr
      clear h H2
      have hin := choicesL_inside l0 a1_0 a1_1
      have hll := choicesL_length hn a1_0 a1_1
      have hall := fun W (hb : Below w.heap.size w W) => spec_suAll.calls A0 c0 l0 a1_0 a1_1 (choicesL l0 a1_0 a1_1) W (Kd.C_below HR.out hb) hc0 (by unfold spec_suAll.f choicesL; rw [if_pos (by omega)])
      generalize choicesL l0 a1_0 a1_1 = L at hr hin hll hall
      have HRR := Aside0.mk hr
      have HIN := Aside0.mk hin
      have HALL := Aside0.mk hall
      clear hr hin hall
      go_upto_region 5 with (first
        | (go_at_call 46; with_reducible refine (HA1.out W2 B2.out).mono ?_; rintro e w3 ⟨rfl, hb⟩; have D3 := Aside0.mk hb; have B3 := Aside0.mk (B2.out.trans (hb.mono B2.out.size)); have g2 := (blk_cell (blk_below X2.out hb) 0).trans rfl; have g3 := (blk_cell (blk_below X2.out hb) 1).trans rfl; clear hb g0 g1)
        | (go_at_call 46; with_reducible refine (HA2.out w3 B3.out).mono ?_; rintro e w4 ⟨rfl, hb⟩; have D4 := Aside0.mk (D3.out.trans (hb.mono D3.out.size)); have B4 := Aside0.mk (B3.out.trans (hb.mono B3.out.size)); have g4 := (blk_cell (blk_below X1.out D4.out) 0).trans rfl; have g5 := (blk_cell (blk_below X1.out D4.out) 1).trans rfl; clear hb g2 g3)
        | (go_at_call 50; refine (HALL.out w4 B4.out).mono ?_; rintro e w5 ⟨v5, rfl, hN5, hb⟩; have D5 := Aside0.mk (D4.out.trans (hb.mono D4.out.size)); have B5 := Aside0.mk (B4.out.trans (hb.mono B4.out.size)); obtain ⟨A5, c5, hv5⟩ := Kd.N_slice hN5; subst hv5; have N5 := Aside0.mk hN5; clear hb hN5 g4 g5))
      have HL : Aside0 (∀ W, Below w5.heap.size w5 W → Kd.C kInts W A5 L.length L) := ⟨fun W hb => (Kd.N_reads' (Kd.N_below N5.out hb)).2.2⟩
      have BW : Aside0 (∀ W, Below w5.heap.size w5 W → Below w.heap.size w W) := ⟨fun W hb => B5.out.trans (hb.mono B5.out.size)⟩
      have X5 : Aside0 (∀ W, Below w5.heap.size w5 W → W.heap[w.heap.size + 1]? = some (.cells #[.int .i64 a2_0, .int .i64 a2_1] 39 (0, 0))) := ⟨fun W hb => blk_below X2.out (D5.out.trans (hb.mono D5.out.size))⟩
      clear B2 B3 B4 D3 D4 D5 X1 X2 HALL HA1 HA2 N5
      go_loopg [8, 33] L.length (fun gg s8 s33 wr => ∃ (j : Nat) (m : Int), s8 = .int .i64 m ∧ s33 = .int .i64 (j : Int) ∧ j ≤ L.length ∧ L.length - j ≤ gg ∧ Aside0 ((L.drop j).foldl (casesStep l0 a2_0 a2_1) m = r1) ∧ Aside0 (Below w5.heap.size w5 wr))
      case atStart => exact ⟨0, 0, rfl, rfl, by omega, by omega, ⟨by simpa using HRR.out⟩, ⟨Below.refl _ _⟩⟩
      case round =>
        obtain ⟨j, m, rfl, rfl, hjn, hgg, FO, GG⟩ := hrel
        by_cases hlt : j < L.length
        · have hltz : (j : Int) < (L.length : Int) := by omega
          have hj0 : (0 : Int) ≤ (j : Int) := by omega
          have fo := FO.out
          rw [List.drop_eq_getElem_cons hlt, List.foldl_cons] at fo
          have hch := HIN.out L[j] (List.getElem_mem hlt)
          obtain ⟨ad, cs, e, _, hK, hcell⟩ := Kd.C_get (HL.out wr GG.out) [] (j : Int) hj0 hltz
          have hge : L.getD (j : Int).toNat [] = L[j] := by rw [Int.toNat_natCast, List.getD_eq_getElem?_getD, List.getElem?_eq_getElem hlt]; rfl
          rw [hge] at hK
          subst e
          obtain ⟨Ac, cc, rfl, hcc, hCc⟩ := hK
          have q0 := hcell 0 _ rfl
          rw [Int.toNat_natCast, show j * kInts.sz + 0 = j by simp [Kd.slice]] at q0
          generalize L[j] = ch at fo hch hcc hCc q0
          have hlen : ch.length ≤ 10 := by have := hch.2; omega
          have FO2 := Aside0.mk fo
          have HCC := Aside0.mk hCc
          have HCH := Aside0.mk hch.1
          have htot := fun W (hb : Below w5.heap.size w5 W) (hw : Below wr.heap.size wr W) => spec_suTotals.calls (ch.length + 1) A0 c0 l0 Ac cc ch (tot l0 ch).1 (tot l0 ch).2.1 (tot l0 ch).2.2 W (Kd.C_below HR.out (BW.out W hb)) hc0 (Kd.C_below hCc hw) hcc (suTotals_eq l0 ch hch.1 (by omega) _ (by omega))
          obtain ⟨t1, ht1⟩ : ∃ t, (tot l0 ch).1 = t := ⟨_, rfl⟩
          obtain ⟨t2, ht2⟩ : ∃ t, (tot l0 ch).2.1 = t := ⟨_, rfl⟩
          obtain ⟨t3, ht3⟩ : ∃ t, (tot l0 ch).2.2 = t := ⟨_, rfl⟩
          rw [ht1, ht2, ht3] at htot
          have HT3 := Aside0.mk ht3
          have HTOT := Aside0.mk htot
          clear fo hch hcell hge hCc htot ht1 ht2 ht3 FO
          go_wp2_with (go_at_call 54; refine (HTOT.out wr GG.out (Below.refl _ _)).mono ?_; rintro e w6 ⟨rfl, hd⟩; have D6 := Aside0.mk hd.below; have G6 := Aside0.mk (GG.out.trans (hd.below.mono GG.out.size)); clear hd q0)
          go_loopg [14, 46] l0.length (fun gg s14 s46 wr => ∃ (i : Nat) (ys : List Item) (A : Option Addr) (c : Nat), s14 = .slice A ys.length c ∧ s46 = .int .i64 (i : Int) ∧ i ≤ l0.length ∧ l0.length - i ≤ gg ∧ ys.length ≤ i ∧ Aside0 (Kd.R k54 54 wr w6.heap.size (fun k => w6.heap.size ≤ k) (.slice A ys.length c) ys) ∧ Aside0 (ys ++ restL l0 ch (l0.length - i) i = restL l0 ch l0.length 0) ∧ Aside0 (Below w6.heap.size w6 wr))
          case atStart => exact ⟨0, [], none, 0, rfl, rfl, by omega, by omega, by simp, ⟨Kd.R_nil _ _ _ _ _⟩, ⟨rfl⟩, ⟨Below.refl _ _⟩⟩
          case round =>
            obtain ⟨i, ys, Ay, cy, rfl, rfl, hin, hgg2, hyl, RY, EY, QQ⟩ := hrel
            have G5 : Aside0 (∀ W, Below wr.heap.size wr W → Below w5.heap.size w5 W) := ⟨fun W hb => G6.out.trans ((QQ.out.trans (hb.mono QQ.out.size)).mono G6.out.size)⟩
            have C5 : Aside0 (∀ W, Below wr.heap.size wr W → Kd.C kInt W Ac ch.length ch) := ⟨fun W hb => Kd.C_below HCC.out (D6.out.trans ((QQ.out.trans (hb.mono QQ.out.size)).mono D6.out.size))⟩
            by_cases hlt2 : i < l0.length
            · have hltz2 : (i : Int) < (l0.length : Int) := by omega
              have hi0 : (0 : Int) ≤ (i : Int) := by omega
              obtain ⟨ad2, e2, p0, p1, p2⟩ := at_T54 (Kd.C_below HR.out (BW.out wr (G5.out wr (Below.refl _ _)))) (i : Int) hi0 hltz2
              subst e2
              rw [Int.toNat_natCast] at p0 p1 p2
              have ey := EY.out
              rw [show l0.length - i = (l0.length - (i + 1)) + 1 by omega, restL] at ey
              generalize rd_T54 l0 (i : Int) = x at p0 p1 p2 ey
              obtain ⟨f0, f1, f2⟩ := x
              simp only at p0 p1 p2
              have hhas := fun W (hb : Below wr.heap.size wr W) => spec_l1Has.calls (ch.length + 1) Ac cc ch (i : Int) (ch.contains (i : Int)) W (C5.out W hb) hcc (l1Has_eq ch (i : Int) (by omega) _ (by omega))
              generalize ch.contains (i : Int) = b at ey hhas
              have EY2 := Aside0.mk ey
              have HHAS := Aside0.mk hhas
              clear ey hhas EY
              have k16 := heap_alloc_new wr (.cells #[.int .i64 f0, .int .i64 f1, .int .i64 f2] 54)
              have b16 : Below wr.heap.size wr (wr.alloc (.cells #[.int .i64 f0, .int .i64 f1, .int .i64 f2] 54)) := (Below.refl _ _).alloc (Nat.le_refl _) _
              have K16 := Aside0.mk k16
              have B16 := Aside0.mk b16
              clear k16 b16
              have hwi : IntKind.i64.wrap ((i : Int) + 1) = ((i + 1 : Nat) : Int) := by rw [IntWalk.i64_in _ (by omega)]; omega
              cases b with
              | true =>
                go_wp2_with (go_at_call 57; refine (HHAS.out _ B16.out).mono ?_; rintro e w8 ⟨rfl, hd⟩; have B8 := Aside0.mk (B16.out.trans (hd.below.mono B16.out.size)); clear hd)
                go_roundg (l0.length - (i + 1))
                case measure => omega
                case rel => exact ⟨i + 1, ys, Ay, cy, rfl, by go_num, by omega, by omega, by omega, ⟨Kd.R_below RY.out B8.out⟩, ⟨by have := EY2.out; simpa using this⟩, ⟨QQ.out.trans (B8.out.mono QQ.out.size)⟩⟩
              | false =>
                go_wp2_with (first
                  | (go_at_call 57; refine (HHAS.out _ B16.out).mono ?_; rintro e w8 ⟨rfl, hd⟩; have B8 := Aside0.mk (B16.out.trans (hd.below.mono B16.out.size)); have p3 := (blk_cell (blk_below K16.out hd.below) 0).trans rfl; have p4 := (blk_cell (blk_below K16.out hd.below) 1).trans rfl; have p5 := (blk_cell (blk_below K16.out hd.below) 2).trans rfl; have R8 := Aside0.mk (Kd.R_below RY.out B8.out); clear hd)
                  | (at_builtin; refine Kd.R_append k54 (w0 := w6) w6.heap.size rfl (.tmp 55) (.tmp 57) 25 54 (.agg #[(.int .i64 0), (.int .i64 0), (.int .i64 0)]) 24 rfl Try.underlying25 info54 rfl (by decide) (by omega) (.slice Ay ys.length cy) ys ⟨f0, f1, f2⟩ [.int .i64 f0, .int .i64 f1, .int .i64 f2] (fun k => w6.heap.size ≤ k) (fun _ => False) rfl rfl ?aP (fun _ hk => hk.elim) ?aF ?aO ?aB ?aS ?aL ?_;
                      (case aP => exact k54_mkM _ _ _ _);
                      (case aF => exact fun k hk => Nat.le_trans (QQ.out.size) (Nat.le_trans B8.out.size hk));
                      (case aO => exact R8.out);
                      (case aB => exact QQ.out.trans (B8.out.mono QQ.out.size));
                      (case aS => exact Nat.le_trans QQ.out.size B8.out.size);
                      (case aL => omega);
                      intro v9 w9 hR9 hb9 hg9 hat9; obtain ⟨A9, c9, rfl⟩ := Kd.R_slice hR9; have R9 := Aside0.mk hR9; have Q9 := Aside0.mk hb9; clear hR9 hb9 hg9 hat9))
                go_roundg (l0.length - (i + 1))
                case measure => omega
                case rel => exact ⟨i + 1, ys ++ [⟨f0, f1, f2⟩], A9, c9, (by simp), by go_num, by omega, by omega, by simp; omega, R9, ⟨by have := EY2.out; simpa using this⟩, Q9⟩
            · have hltz2 : ¬ (i : Int) < (l0.length : Int) := by omega
              have ey := EY.out
              rw [show l0.length - i = 0 by omega, restL, List.append_nil] at ey
              have hrl := restL_length l0 ch l0.length 0
              rw [← ey] at hrl
              have hbest := fun W (hb : Below wr.heap.size wr W) => spec_suBest.calls 3001 Ay cy ys a2_0 a2_1 (bestL ys a2_0 a2_1).1 (bestL ys a2_0 a2_1).2 W (Kd.R_reads' (Kd.R_below RY.out hb)).2.2 (Kd.R_reads' RY.out).2.1 (suBest_eq ys a2_0 a2_1 (by omega) 3001 (by omega))
              obtain ⟨bv, hbv⟩ : ∃ bv, (bestL ys a2_0 a2_1).2 = bv := ⟨_, rfl⟩
              rw [hbv] at hbest
              have hmost := fun W => spec_l1Most.calls m (wrap64 (t3 + bv)) (mostZ m (wrap64 (t3 + bv))) W (l1Most_f _ _)
              have HBEST := Aside0.mk hbest
              have HMOST := Aside0.mk hmost
              have HBV := Aside0.mk hbv
              have EY2 := Aside0.mk ey
              have xx := X5.out wr (G5.out wr (Below.refl _ _))
              have g4 := (blk_cell xx 0).trans rfl
              have g5 := (blk_cell xx 1).trans rfl
              have hwj : IntKind.i64.wrap ((j : Int) + 1) = ((j + 1 : Nat) : Int) := by rw [IntWalk.i64_in _ (by omega)]; omega
              clear hbest hmost hbv ey xx
              go_wp2_with (first
                | (go_at_call 58; refine (HBEST.out wr (Below.refl _ _)).mono ?_; rintro e w8 ⟨v8, rfl, _, hb⟩; have B8 := Aside0.mk hb; clear hb)
                | (go_at_call 59; refine (HMOST.out w8).mono ?_; rintro e w9 ⟨rfl, hd⟩; have B9 := Aside0.mk (B8.out.trans (hd.below.mono B8.out.size)); clear hd))
              go_roundg (L.length - (j + 1))
              case measure => omega
              case rel =>
                refine ⟨j + 1, _, rfl, by go_num, by omega, by omega, ⟨?_⟩, ⟨G5.out w9 B9.out⟩⟩
                rw [← FO2.out, casesStep, HT3.out, ← EY2.out, HBV.out]
        · have hltz : ¬ (j : Int) < (L.length : Int) := by omega
          have fo := FO.out
          rw [List.drop_of_length_le (by omega)] at fo
          have fo2 : m = r1 := fo
          subst fo2
          go_wp2
          go_ret2
          exact ⟨rfl, BW.out wr GG.out⟩
end Go.Proofs.Ytgghcngfleicnaa.Q

namespace Go.Proofs.Ytgghcngfleicnaa.Q
open Go.RowKit Go.Proofs.YtgghcngfleicnaaW.PrintWords Go.Proofs.YtgghcngfleicnaaW.PrintLast Go.Proofs.YtgghcngfleicnaaW.PrintMore
attribute [local go_sem] max2_int min2_int max_two min_two max_three min_three max_four min_four   -- for this text's walks alone
set_option linter.unusedVariables false
set_option linter.unusedSimpArgs false

/-! ### laws_FnExactTwoCases: function 8 -/
def laws_FnExactTwoCases.j0 : Nat → List (S56) → List (S54) → Bool → Option (Bool)
  | 0, _, _, _ => none
  | k + 1, x0, x10, x46 => if x46 = true then (some false) else ((laws_toItemS.f k x0).bind fun t423 => ((laws_eqItemS.f k x10 t423).bind fun t426 => (if t426 = true then (some true) else (some false))))
def laws_FnExactTwoCases.f (k : Nat) (l0 : List (S56)) (a1_0 : Int) (a1_1 : Int) (a2_0 : Int) (a2_1 : Int) : Option (Bool) := (laws_szItemS.f l0 1048576).bind fun t404 => (if t404 < 0 then (some true) else ((laws_toItemS.f k l0).bind fun t405 => ((laws_toCase.f a1_0 a1_1).bind fun bt408 => ((laws_toCase.f a2_0 a2_1).bind fun bt410 => ((spec_TwoCases.f t405 bt408.1 bt408.2 bt410.1 bt410.2).bind fun bt412 => ((laws_toItemS.f k l0).bind fun t414 => ((laws_toCase.f a1_0 a1_1).bind fun bt417 => ((laws_toCase.f a2_0 a2_1).bind fun bt419 => ((impl_TwoCases.f t414 bt417.1 bt417.2 bt419.1 bt419.2).bind fun bt421 => (if bt421.1 = bt412.1 then (laws_FnExactTwoCases.j0 k l0 t414 (bt421.2 != bt412.2)) else (laws_FnExactTwoCases.j0 k l0 t414 true)))))))))))
theorem laws_FnExactTwoCases.mono_l : ∀ k, (∀ y0 y1 y2, LeO (laws_FnExactTwoCases.j0 k y0 y1 y2) (laws_FnExactTwoCases.j0 (k + 1) y0 y1 y2))
  | 0 => fun _ _ _ r h => by simp [laws_FnExactTwoCases.j0] at h
  | k + 1 => by
    have ih0 := laws_FnExactTwoCases.mono_l k
    · intro y0 y1 y2
      unfold laws_FnExactTwoCases.j0
      repeat' first
      | (with_reducible exact ih0 _ _ _)
      | (with_reducible exact laws_eqItemS.mono _ _ _)
      | (with_reducible exact laws_toItemS.mono _ _)
      | (with_reducible exact LeO.refl _)
      | (with_reducible exact LeO.none _)
      | (with_reducible refine LeO.ite ?_ ?_)
      | (with_reducible refine LeO.bind ?_ (fun _ => ?_))
      | exact ih0 _ _ _
      | exact laws_eqItemS.mono _ _ _
      | exact laws_toItemS.mono _ _
      | exact LeO.none _
      | refine LeO.ite ?_ ?_
      | refine LeO.bind ?_ (fun _ => ?_)
theorem laws_FnExactTwoCases.mono : ∀ a0 a1 a2 a3 a4 k, LeO (laws_FnExactTwoCases.f k a0 a1 a2 a3 a4) (laws_FnExactTwoCases.f (k + 1) a0 a1 a2 a3 a4) := by
  intro a0 a1 a2 a3 a4 k
  have ih0 := laws_FnExactTwoCases.mono_l k
  unfold laws_FnExactTwoCases.f
  repeat' first
      | (with_reducible exact ih0 _ _ _)
      | (with_reducible exact laws_eqItemS.mono _ _ _)
      | (with_reducible exact laws_toItemS.mono _ _)
      | (with_reducible exact LeO.refl _)
      | (with_reducible exact LeO.none _)
      | (with_reducible refine LeO.ite ?_ ?_)
      | (with_reducible refine LeO.bind ?_ (fun _ => ?_))
      | exact ih0 _ _ _
      | exact laws_eqItemS.mono _ _ _
      | exact laws_toItemS.mono _ _
      | exact LeO.none _
      | refine LeO.ite ?_ ?_
      | refine LeO.bind ?_ (fun _ => ?_)
def laws_FnExactTwoCases.T5 : Bool × List (List Nat × List Nat) := (true, [([], []), ([0], [0]), ([], []), ([2, 1], [2]), ([], []), ([4, 3], [4]), ([1, 3, 5, 5], [1, 3, 5]), ([6], [6]), ([7], [7]), ([7], [7]), ([8, 6, 0, 1, 2, 3, 4, 5, 6, 7, 8], [8]), ([9, 10, 0, 1, 2, 3, 4, 5, 6, 7, 8, 9, 10], [9])])
def laws_FnExactTwoCases.B5 : List Nat := [0, 1, 0, 7, 0, 31, 63, 127, 255, 255, 511, 2047]
theorem laws_FnExactTwoCases.tab5 : rtab .any (opsOf Try.f8 5) = laws_FnExactTwoCases.T5 := by kernel_rfl
theorem laws_FnExactTwoCases.bits5 : waitsOk laws_FnExactTwoCases.T5.2 laws_FnExactTwoCases.B5 = true := by kernel_rfl
def laws_FnExactTwoCases.T7 : Bool × List (List Nat × List Nat) := (true, [([], []), ([], []), ([1], [1]), ([], []), ([3, 2], [3]), ([0, 2, 4, 4], [0, 2, 4]), ([5], [5]), ([6], [6]), ([6], [6]), ([7, 5, 0, 1, 2, 3, 4, 5, 6, 7], [7]), ([8, 9, 0, 1, 2, 3, 4, 5, 6, 7, 8, 9], [8])])
def laws_FnExactTwoCases.B7 : List Nat := [0, 0, 2, 0, 14, 31, 63, 127, 127, 255, 1023]
theorem laws_FnExactTwoCases.tab7 : rtab .any (opsOf Try.f8 7) = laws_FnExactTwoCases.T7 := by kernel_rfl
theorem laws_FnExactTwoCases.bits7 : waitsOk laws_FnExactTwoCases.T7.2 laws_FnExactTwoCases.B7 = true := by kernel_rfl
set_option maxHeartbeats 8000000 in
set_option maxRecDepth 100000 in
theorem laws_FnExactTwoCases.calls (k : Nat) (A0 : Option Addr) (c0 : Nat) (l0 : List (S56)) (a1_0 : Int) (a1_1 : Int) (a2_0 : Int) (a2_1 : Int) (r : Bool) (w : World) (hr0 : Kd.C k56 w A0 l0.length l0) (hc0 : l0.length ≤ c0) (h : laws_FnExactTwoCases.f k l0 a1_0 a1_1 a2_0 a2_1 = some r) :
    Calls Try.prog 8 #[.slice A0 l0.length c0, .agg #[.int .i64 a1_0, .int .i64 a1_1], .agg #[.int .i64 a2_0, .int .i64 a2_1]] w fun e w' => e = .returned (.bool r) ∧ Below w.heap.size w w' := by
  have hu36 := Try.underlying36
  have HR0 := Aside0.mk hr0
  have HC0 := Aside0.mk hc0
  clear hr0 hc0
  have HB := Aside0.mk (Below.refl w.heap.size w)
  have H : ((laws_szItemS.f l0 1048576).bind fun t404 => (if t404 < 0 then (some true) else ((laws_toItemS.f k l0).bind fun t405 => ((laws_toCase.f a1_0 a1_1).bind fun bt408 => ((laws_toCase.f a2_0 a2_1).bind fun bt410 => ((spec_TwoCases.f t405 bt408.1 bt408.2 bt410.1 bt410.2).bind fun bt412 => ((laws_toItemS.f k l0).bind fun t414 => ((laws_toCase.f a1_0 a1_1).bind fun bt417 => ((laws_toCase.f a2_0 a2_1).bind fun bt419 => ((impl_TwoCases.f t414 bt417.1 bt417.2 bt419.1 bt419.2).bind fun bt421 => (if bt421.1 = bt412.1 then (laws_FnExactTwoCases.j0 k l0 t414 (bt421.2 != bt412.2)) else (laws_FnExactTwoCases.j0 k l0 t414 true)))))))))))) = some r := h
  clear h
  replace H := Option.bind_eq_some_iff.mp H
  obtain ⟨t404, A40, H⟩ := H
  replace H : (if t404 < 0 then (some true) else ((laws_toItemS.f k l0).bind fun t405 => ((laws_toCase.f a1_0 a1_1).bind fun bt408 => ((laws_toCase.f a2_0 a2_1).bind fun bt410 => ((spec_TwoCases.f t405 bt408.1 bt408.2 bt410.1 bt410.2).bind fun bt412 => ((laws_toItemS.f k l0).bind fun t414 => ((laws_toCase.f a1_0 a1_1).bind fun bt417 => ((laws_toCase.f a2_0 a2_1).bind fun bt419 => ((impl_TwoCases.f t414 bt417.1 bt417.2 bt419.1 bt419.2).bind fun bt421 => (if bt421.1 = bt412.1 then (laws_FnExactTwoCases.j0 k l0 t414 (bt421.2 != bt412.2)) else (laws_FnExactTwoCases.j0 k l0 t414 true))))))))))) = some r := H
  have A4 := Aside0.mk A40
  clear A40
  by_cases c5 : t404 < 0
  · rw [if_pos c5] at H
    have c5b0 : decide (t404 < 0) = true := decide_eq_true c5
    clear c5
    obtain rfl := Option.some.inj H
    go_enter Try.func8, Try.ntmps8
    go_wp2_with (first | ((with_reducible refine gate_dst (N := 4) rfl ?_); refine box_event ?hg (N := 4) ?hd (cs := #[.int .i64 a1_0, .int .i64 a1_1]) (t := 36) ?hr ?_; (case hd => rfl); (case hg => rfl); (case hr => first | (go_simp; done) | (go_simp; rfl)); intro gb402 hg w6 hbox hb; have n0_ := Aside0.mk (below_step (by repeat (first | (with_reducible first | exact HB.out | apply below_alloc | apply pw_below_drewN | apply below_drew1) | exact HB.out)) hb); have n1_ := Aside0.mk (hbox); have n2_ := Aside0.mk ((by rw [hg]; exact (below_size (by repeat (first | (with_reducible first | exact HB.out | apply below_alloc | apply pw_below_drewN | apply below_drew1) | exact HB.out))) : w.heap.size ≤ gb402)); have n3_ := Aside0.mk ((by rw [hg]; exact (below_size (by repeat (first | (with_reducible first | exact HB.out | apply below_alloc | apply pw_below_drewN | apply below_drew1) | exact HB.out))) : w.heap.size ≤ gb402)); clear HB; have HB := n0_; have BK402 := n1_; have GW402 := n2_; have GE402 := n3_; clear n0_ n1_ n2_ n3_; clear hb hbox hg) | ((with_reducible refine gate_dst (N := 5) rfl ?_); refine box_event ?hg (N := 5) ?hd (cs := #[.int .i64 a2_0, .int .i64 a2_1]) (t := 36) ?hr ?_; (case hd => rfl); (case hg => rfl); (case hr => first | (go_simp; done) | (go_simp; rfl)); intro gb403 hg w7 hbox hb; have n0_ := Aside0.mk (blk_below (g := gb402) (o := .cells #[.int .i64 a1_0, .int .i64 a1_1] 36 (0, 0)) (by (with_reducible repeat (first | refine blk_drewN ?_ _ | refine blk_drew ?_ | refine blk_alloc ?_ _)); exact BK402.out) hb); have n1_ := Aside0.mk (below_step (by repeat (first | (with_reducible first | exact HB.out | apply below_alloc | apply pw_below_drewN | apply below_drew1 | refine below_set ?_ GE402.out) | exact HB.out)) hb); have n2_ := Aside0.mk (hbox); have n3_ := Aside0.mk ((by rw [hg]; exact (below_size (by repeat (first | (with_reducible first | exact HB.out | apply below_alloc | apply pw_below_drewN | apply below_drew1 | refine below_set ?_ GE402.out) | exact HB.out))) : w.heap.size ≤ gb403)); have n4_ := Aside0.mk ((by rw [hg]; exact (below_size (by repeat (first | (with_reducible first | exact HB.out | apply below_alloc | apply pw_below_drewN | apply below_drew1 | refine below_set ?_ GE402.out) | exact HB.out))) : w.heap.size ≤ gb403)); have n5_ := Aside0.mk ((by rw [hg]; exact Nat.ne_of_lt (blk_lt (g := gb402) (o := .cells #[.int .i64 a1_0, .int .i64 a1_1] 36 (0, 0)) (by (with_reducible repeat (first | refine blk_drewN ?_ _ | refine blk_drew ?_ | refine blk_alloc ?_ _)); exact BK402.out)) : gb402 ≠ gb403)); have n6_ := Aside0.mk ((by rw [hg]; exact Nat.ne_of_gt (blk_lt (g := gb402) (o := .cells #[.int .i64 a1_0, .int .i64 a1_1] 36 (0, 0)) (by (with_reducible repeat (first | refine blk_drewN ?_ _ | refine blk_drew ?_ | refine blk_alloc ?_ _)); exact BK402.out)) : gb403 ≠ gb402)); clear BK402; clear HB; have BK402 := n0_; have HB := n1_; have BK403 := n2_; have GW403 := n3_; have GE403 := n4_; have NB402_403 := n5_; have NB403_402 := n6_; clear n0_ n1_ n2_ n3_ n4_ n5_ n6_; clear hb hbox hg) | ((with_reducible refine gate_callee (f := 12) rfl ?_); refine goesL_ (some 15) rfl rfl Try.func12 (by kernel_rfl) rfl #[.slice A0 l0.length c0, .int .i64 1048576] rfl (by (try simp only [List.map_toArray, List.map_cons, List.map_nil]); first | done | rfl | (simp only [List.length_drop, List.length_take]; rfl)) ?_; (with_reducible refine (laws_szItemS.calls _ _ l0 1048576 t404 _ ?side1 ?side2 A4.out).mono ?_); (case side1 => repeat (first | exact (Kd.C_below HR0.out HB.out) | (with_reducible refine Kd.C_alloc ?_ _) | (with_reducible refine Kd.C_drewN ?_ _) | (with_reducible refine Kd.C_drew ?_))); (case side2 => exact HC0.out); rintro e w' ⟨rfl, ⟨nd, rfl⟩⟩; refine ⟨_, rfl, ?_⟩))
    go_ret
    exact ⟨by first | rfl | (simp [errW_none, errW_some] <;> rfl) | (simp [*, errW_none, errW_some] <;> rfl), by repeat (first | (with_reducible first | exact HB.out | apply below_alloc | apply pw_below_drewN | apply below_drew1 | refine below_set ?_ GE402.out | refine below_set ?_ GE403.out) | exact HB.out)⟩
  · rw [if_neg c5] at H
    have c5b0 : decide (t404 < 0) = false := decide_eq_false c5
    clear c5
    replace H := Option.bind_eq_some_iff.mp H
    obtain ⟨t405, A80, H⟩ := H
    replace H : ((laws_toCase.f a1_0 a1_1).bind fun bt408 => ((laws_toCase.f a2_0 a2_1).bind fun bt410 => ((spec_TwoCases.f t405 bt408.1 bt408.2 bt410.1 bt410.2).bind fun bt412 => ((laws_toItemS.f k l0).bind fun t414 => ((laws_toCase.f a1_0 a1_1).bind fun bt417 => ((laws_toCase.f a2_0 a2_1).bind fun bt419 => ((impl_TwoCases.f t414 bt417.1 bt417.2 bt419.1 bt419.2).bind fun bt421 => (if bt421.1 = bt412.1 then (laws_FnExactTwoCases.j0 k l0 t414 (bt421.2 != bt412.2)) else (laws_FnExactTwoCases.j0 k l0 t414 true))))))))) = some r := H
    have A8 := Aside0.mk A80
    clear A80
    replace H := Option.bind_eq_some_iff.mp H
    obtain ⟨⟨t408, t409⟩, A90, H⟩ := H
    replace H : ((laws_toCase.f a2_0 a2_1).bind fun bt410 => ((spec_TwoCases.f t405 t408 t409 bt410.1 bt410.2).bind fun bt412 => ((laws_toItemS.f k l0).bind fun t414 => ((laws_toCase.f a1_0 a1_1).bind fun bt417 => ((laws_toCase.f a2_0 a2_1).bind fun bt419 => ((impl_TwoCases.f t414 bt417.1 bt417.2 bt419.1 bt419.2).bind fun bt421 => (if bt421.1 = bt412.1 then (laws_FnExactTwoCases.j0 k l0 t414 (bt421.2 != bt412.2)) else (laws_FnExactTwoCases.j0 k l0 t414 true)))))))) = some r := H
    have A9 := Aside0.mk A90
    clear A90
    replace H := Option.bind_eq_some_iff.mp H
    obtain ⟨⟨t410, t411⟩, A100, H⟩ := H
    replace H : ((spec_TwoCases.f t405 t408 t409 t410 t411).bind fun bt412 => ((laws_toItemS.f k l0).bind fun t414 => ((laws_toCase.f a1_0 a1_1).bind fun bt417 => ((laws_toCase.f a2_0 a2_1).bind fun bt419 => ((impl_TwoCases.f t414 bt417.1 bt417.2 bt419.1 bt419.2).bind fun bt421 => (if bt421.1 = bt412.1 then (laws_FnExactTwoCases.j0 k l0 t414 (bt421.2 != bt412.2)) else (laws_FnExactTwoCases.j0 k l0 t414 true))))))) = some r := H
    have A10 := Aside0.mk A100
    clear A100
    replace H := Option.bind_eq_some_iff.mp H
    obtain ⟨⟨t412, t413⟩, A110, H⟩ := H
    replace H : ((laws_toItemS.f k l0).bind fun t414 => ((laws_toCase.f a1_0 a1_1).bind fun bt417 => ((laws_toCase.f a2_0 a2_1).bind fun bt419 => ((impl_TwoCases.f t414 bt417.1 bt417.2 bt419.1 bt419.2).bind fun bt421 => (if bt421.1 = t412 then (laws_FnExactTwoCases.j0 k l0 t414 (bt421.2 != t413)) else (laws_FnExactTwoCases.j0 k l0 t414 true)))))) = some r := H
    have A11 := Aside0.mk A110
    clear A110
    replace H := Option.bind_eq_some_iff.mp H
    obtain ⟨t414, A120, H⟩ := H
    replace H : ((laws_toCase.f a1_0 a1_1).bind fun bt417 => ((laws_toCase.f a2_0 a2_1).bind fun bt419 => ((impl_TwoCases.f t414 bt417.1 bt417.2 bt419.1 bt419.2).bind fun bt421 => (if bt421.1 = t412 then (laws_FnExactTwoCases.j0 k l0 t414 (bt421.2 != t413)) else (laws_FnExactTwoCases.j0 k l0 t414 true))))) = some r := H
    have A12 := Aside0.mk A120
    clear A120
    replace H := Option.bind_eq_some_iff.mp H
    obtain ⟨⟨t417, t418⟩, A130, H⟩ := H
    replace H : ((laws_toCase.f a2_0 a2_1).bind fun bt419 => ((impl_TwoCases.f t414 t417 t418 bt419.1 bt419.2).bind fun bt421 => (if bt421.1 = t412 then (laws_FnExactTwoCases.j0 k l0 t414 (bt421.2 != t413)) else (laws_FnExactTwoCases.j0 k l0 t414 true)))) = some r := H
    have A13 := Aside0.mk A130
    clear A130
    replace H := Option.bind_eq_some_iff.mp H
    obtain ⟨⟨t419, t420⟩, A140, H⟩ := H
    replace H : ((impl_TwoCases.f t414 t417 t418 t419 t420).bind fun bt421 => (if bt421.1 = t412 then (laws_FnExactTwoCases.j0 k l0 t414 (bt421.2 != t413)) else (laws_FnExactTwoCases.j0 k l0 t414 true))) = some r := H
    have A14 := Aside0.mk A140
    clear A140
    replace H := Option.bind_eq_some_iff.mp H
    obtain ⟨⟨t421, t422⟩, A150, H⟩ := H
    replace H : (if t421 = t412 then (laws_FnExactTwoCases.j0 k l0 t414 (t422 != t413)) else (laws_FnExactTwoCases.j0 k l0 t414 true)) = some r := H
    have A15 := Aside0.mk A150
    clear A150
    have HC16 := Aside0.mk H
    clear H
    go_enter Try.func8, Try.ntmps8
    try go_wp2_with (first | ((with_reducible refine gate_dst (N := 4) rfl ?_); refine box_event ?hg (N := 4) ?hd (cs := #[.int .i64 a1_0, .int .i64 a1_1]) (t := 36) ?hr ?_; (case hd => rfl); (case hg => rfl); (case hr => first | (go_simp; done) | (go_simp; rfl)); intro gb402 hg w17 hbox hb; have n0_ := Aside0.mk (below_step (by repeat (first | (with_reducible first | exact HB.out | apply below_alloc | apply pw_below_drewN | apply below_drew1) | exact HB.out)) hb); have n1_ := Aside0.mk (hbox); have n2_ := Aside0.mk ((by rw [hg]; exact (below_size (by repeat (first | (with_reducible first | exact HB.out | apply below_alloc | apply pw_below_drewN | apply below_drew1) | exact HB.out))) : w.heap.size ≤ gb402)); have n3_ := Aside0.mk ((by rw [hg]; exact (below_size (by repeat (first | (with_reducible first | exact HB.out | apply below_alloc | apply pw_below_drewN | apply below_drew1) | exact HB.out))) : w.heap.size ≤ gb402)); clear HB; have HB := n0_; have BK402 := n1_; have GW402 := n2_; have GE402 := n3_; clear n0_ n1_ n2_ n3_; clear hb hbox hg) | ((with_reducible refine gate_dst (N := 5) rfl ?_); refine box_event ?hg (N := 5) ?hd (cs := #[.int .i64 a2_0, .int .i64 a2_1]) (t := 36) ?hr ?_; (case hd => rfl); (case hg => rfl); (case hr => first | (go_simp; done) | (go_simp; rfl)); intro gb403 hg w18 hbox hb; have n0_ := Aside0.mk (blk_below (g := gb402) (o := .cells #[.int .i64 a1_0, .int .i64 a1_1] 36 (0, 0)) (by (with_reducible repeat (first | refine blk_drewN ?_ _ | refine blk_drew ?_ | refine blk_alloc ?_ _)); exact BK402.out) hb); have n1_ := Aside0.mk (below_step (by repeat (first | (with_reducible first | exact HB.out | apply below_alloc | apply pw_below_drewN | apply below_drew1 | refine below_set ?_ GE402.out) | exact HB.out)) hb); have n2_ := Aside0.mk (hbox); have n3_ := Aside0.mk ((by rw [hg]; exact (below_size (by repeat (first | (with_reducible first | exact HB.out | apply below_alloc | apply pw_below_drewN | apply below_drew1 | refine below_set ?_ GE402.out) | exact HB.out))) : w.heap.size ≤ gb403)); have n4_ := Aside0.mk ((by rw [hg]; exact (below_size (by repeat (first | (with_reducible first | exact HB.out | apply below_alloc | apply pw_below_drewN | apply below_drew1 | refine below_set ?_ GE402.out) | exact HB.out))) : w.heap.size ≤ gb403)); have n5_ := Aside0.mk ((by rw [hg]; exact Nat.ne_of_lt (blk_lt (g := gb402) (o := .cells #[.int .i64 a1_0, .int .i64 a1_1] 36 (0, 0)) (by (with_reducible repeat (first | refine blk_drewN ?_ _ | refine blk_drew ?_ | refine blk_alloc ?_ _)); exact BK402.out)) : gb402 ≠ gb403)); have n6_ := Aside0.mk ((by rw [hg]; exact Nat.ne_of_gt (blk_lt (g := gb402) (o := .cells #[.int .i64 a1_0, .int .i64 a1_1] 36 (0, 0)) (by (with_reducible repeat (first | refine blk_drewN ?_ _ | refine blk_drew ?_ | refine blk_alloc ?_ _)); exact BK402.out)) : gb403 ≠ gb402)); clear BK402; clear HB; have BK402 := n0_; have HB := n1_; have BK403 := n2_; have GW403 := n3_; have GE403 := n4_; have NB402_403 := n5_; have NB403_402 := n6_; clear n0_ n1_ n2_ n3_ n4_ n5_ n6_; clear hb hbox hg) | ((with_reducible refine gate_callee (f := 12) rfl ?_); refine goesL_ (some 15) rfl rfl Try.func12 (by kernel_rfl) rfl #[.slice A0 l0.length c0, .int .i64 1048576] rfl (by (try simp only [List.map_toArray, List.map_cons, List.map_nil]); first | done | rfl | (simp only [List.length_drop, List.length_take]; rfl)) ?_; (with_reducible refine (laws_szItemS.calls _ _ l0 1048576 t404 _ ?side1 ?side2 A4.out).mono ?_); (case side1 => repeat (first | exact (Kd.C_below HR0.out HB.out) | (with_reducible refine Kd.C_alloc ?_ _) | (with_reducible refine Kd.C_drewN ?_ _) | (with_reducible refine Kd.C_drew ?_))); (case side2 => exact HC0.out); rintro e w' ⟨rfl, ⟨nd, rfl⟩⟩; refine ⟨_, rfl, ?_⟩))
    (try (rw [drewN_self w18]; generalize hq_ : World.drewN w18 _ = w18; have n0_ : Aside0 (w18.heap[gb402]? = some (.cells #[.int .i64 a1_0, .int .i64 a1_1] 36 (0, 0))) := ⟨by rw [← hq_]; exact (by (with_reducible repeat (first | refine blk_drewN ?_ _ | refine blk_drew ?_ | refine blk_alloc ?_ _)); exact BK402.out)⟩; have n1_ : Aside0 (w18.heap[gb403]? = some (.cells #[.int .i64 a2_0, .int .i64 a2_1] 36 (0, 0))) := ⟨by rw [← hq_]; exact (by (with_reducible repeat (first | refine blk_drewN ?_ _ | refine blk_drew ?_ | refine blk_alloc ?_ _)); exact BK403.out)⟩; have n2_ : Aside0 (Below w.heap.size w w18) := ⟨by rw [← hq_]; exact (by repeat (first | (with_reducible first | exact HB.out | apply below_alloc | apply pw_below_drewN | apply below_drew1 | refine below_set ?_ GE402.out | refine below_set ?_ GE403.out) | exact HB.out))⟩; clear BK402 BK403 HB hq_; have BK402 := n0_; have BK403 := n1_; have HB := n2_; clear n0_ n1_ n2_))
    have n0_ := Aside0.mk (blk_drew BK402.out)
    have n1_ := Aside0.mk (blk_drew BK403.out)
    have n2_ := Aside0.mk (below_drew1 HB.out)
    clear BK402
    clear BK403
    clear HB
    have BK402 := n0_
    have BK403 := n1_
    have HB := n2_
    clear n0_ n1_ n2_
    refine start_ (n := 12) (S := fun w' => w'.cell? ⟨gb402, 0, none⟩ = some (.int .i64 a1_0) ∧ w'.cell? ⟨gb402, 1, none⟩ = some (.int .i64 a1_1) ∧ w'.cell? ⟨gb403, 0, none⟩ = some (.int .i64 a2_0) ∧ w'.cell? ⟨gb403, 1, none⟩ = some (.int .i64 a2_1)) (ds := []) #[false, false, false, false, false, false, false, false, false, false, false, false] (by kernel_rfl) rfl rfl ⟨(blk_cell BK402.out 0).trans rfl, (blk_cell BK402.out 1).trans rfl, (blk_cell BK403.out 0).trans rfl, (blk_cell BK403.out 1).trans rfl⟩ (fun hHeld => ?_); refine with_tabW laws_FnExactTwoCases.tab5 laws_FnExactTwoCases.bits5 (fun HT_ HW_ => ?_)
    generalize w18.drew = w19 at BK402 BK403 HB hHeld ⊢
    refine pure_ (i := 0) (N := some 19) (v := ?_) (a' := ?_) #[true, false, false, false, false, false, false, false, false, false, false, false] rfl rfl (any_of HT_.out (by kernel_rfl)) (fun _ _ _ h => h) (Or.inl ⟨by rfl, ?_⟩) ?_ ?_
    rotate_left
    · intro w'
      go_simp
      with_reducible rfl
    rotate_left
    · simp only [Act.put, List.setIfInBounds_toArray, List.set_cons_zero, List.set_cons_succ, i64_w, i32_w]
      rfl
    refine take_ (i := 2) (N := some 21) (v := ?_) (a' := ?_) #[true, false, true, false, false, false, false, false, false, false, false, false] rfl rfl (take_ofW HT_.out HW_.out (by kernel_rfl)) (fun _ _ _ h => h) (Or.inl ⟨by rfl, ?_⟩) hHeld ?_ ?_
    rotate_left
    · rintro w' ⟨s0, s1, s2, s3⟩
      go_simp
      with_reducible rfl
    rotate_left
    · simp only [Act.put, List.setIfInBounds_toArray, List.set_cons_zero, List.set_cons_succ, i64_w, i32_w]
      rfl
    refine take_ (i := 4) (N := some 23) (v := ?_) (a' := ?_) #[true, false, true, false, true, false, false, false, false, false, false, false] rfl rfl (take_ofW HT_.out HW_.out (by kernel_rfl)) (fun _ _ _ h => h) (Or.inl ⟨by rfl, ?_⟩) hHeld ?_ ?_
    rotate_left
    · rintro w' ⟨s0, s1, s2, s3⟩
      go_simp
      with_reducible rfl
    rotate_left
    · simp only [Act.put, List.setIfInBounds_toArray, List.set_cons_zero, List.set_cons_succ, i64_w, i32_w]
      rfl
    refine one_ (i := 1) (N := some 20) #[true, true, true, false, true, false, false, false, false, false, false, false] rfl rfl (one_of HT_.out (by kernel_rfl)) (by decide) (fun K hK => ?_)
    refine goes_ Try.func14 (by kernel_rfl) rfl #[.slice A0 l0.length c0] (by rfl) rfl rfl (by (try simp only [List.map_toArray, List.map_cons, List.map_nil]); first | done | rfl | (simp only [List.length_drop, List.length_take]; rfl)) ?_
    with_reducible refine (laws_toItemS.calls k _ _ l0 t405 _ ?side1 ?side2 A8.out).mono ?_
    (case side1 => repeat (first | exact (Kd.C_below HR0.out HB.out) | (with_reducible refine Kd.C_alloc ?_ _) | (with_reducible refine Kd.C_drewN ?_ _) | (with_reducible refine Kd.C_drew ?_)))
    (case side2 => exact HC0.out)
    rintro e w20 ⟨v406, rfl, ho0, hb⟩
    refine ⟨_, rfl, ?_⟩
    have n0_ := Aside0.mk (Kd.R_lower ho0 (below_size (by repeat (first | (with_reducible first | exact HB.out | apply below_alloc | apply pw_below_drewN | apply below_drew1 | refine below_set ?_ GE402.out | refine below_set ?_ GE403.out) | exact HB.out))))
    have n1_ := Aside0.mk (blk_below (g := gb402) (o := .cells #[.int .i64 a1_0, .int .i64 a1_1] 36 (0, 0)) (by (with_reducible repeat (first | refine blk_drewN ?_ _ | refine blk_drew ?_ | refine blk_alloc ?_ _)); exact BK402.out) hb)
    have n2_ := Aside0.mk (blk_below (g := gb403) (o := .cells #[.int .i64 a2_0, .int .i64 a2_1] 36 (0, 0)) (by (with_reducible repeat (first | refine blk_drewN ?_ _ | refine blk_drew ?_ | refine blk_alloc ?_ _)); exact BK403.out) hb)
    have n3_ := Aside0.mk (below_step (by repeat (first | (with_reducible first | exact HB.out | apply below_alloc | apply pw_below_drewN | apply below_drew1 | refine below_set ?_ GE402.out | refine below_set ?_ GE403.out) | exact HB.out)) hb)
    clear BK402
    clear BK403
    clear HB
    have HO407 := n0_
    have BK402 := n1_
    have BK403 := n2_
    have HB := n3_
    clear n0_ n1_ n2_ n3_
    (try clear hb)
    (try clear hb2)
    (try clear hk)
    (try clear hi)
    (try clear ho0)
    refine hK.out _ _ ⟨(blk_cell BK402.out 0).trans rfl, (blk_cell BK402.out 1).trans rfl, (blk_cell BK403.out 0).trans rfl, (blk_cell BK403.out 1).trans rfl⟩ (fun hHeld => ?_)
    clear hK K
    refine norm_ (a' := ?_) ?_ ?_
    rotate_left
    · show Act.put _ (some 20) _ = _
      simp only [Act.put, List.setIfInBounds_toArray, List.set_cons_zero, List.set_cons_succ, i64_w, i32_w]
      rfl
    refine one_ (i := 3) (N := some 22) #[true, true, true, true, true, false, false, false, false, false, false, false] rfl rfl (one_of HT_.out (by kernel_rfl)) (by decide) (fun K hK => ?_)
    refine goes_ Try.func24 (by kernel_rfl) rfl #[.agg #[.int .i64 a1_0, .int .i64 a1_1]] (by rfl) rfl rfl (by (try simp only [List.map_toArray, List.map_cons, List.map_nil]); first | done | rfl | (simp only [List.length_drop, List.length_take]; rfl)) ?_
    with_reducible refine (laws_toCase.calls a1_0 a1_1 t408 t409 _ A9.out).mono ?_
    rintro e w21 ⟨rfl, hb⟩
    refine ⟨_, rfl, ?_⟩
    have n0_ := Aside0.mk (Kd.R_below (by (with_reducible repeat (first | apply Kd.R_alloc | apply Kd.R_drewN | apply Kd.R_drew)); exact HO407.out) hb)
    have n1_ := Aside0.mk (blk_below (g := gb402) (o := .cells #[.int .i64 a1_0, .int .i64 a1_1] 36 (0, 0)) (by (with_reducible repeat (first | refine blk_drewN ?_ _ | refine blk_drew ?_ | refine blk_alloc ?_ _)); exact BK402.out) hb)
    have n2_ := Aside0.mk (blk_below (g := gb403) (o := .cells #[.int .i64 a2_0, .int .i64 a2_1] 36 (0, 0)) (by (with_reducible repeat (first | refine blk_drewN ?_ _ | refine blk_drew ?_ | refine blk_alloc ?_ _)); exact BK403.out) hb)
    have n3_ := Aside0.mk (below_step (by repeat (first | (with_reducible first | exact HB.out | apply below_alloc | apply pw_below_drewN | apply below_drew1 | refine below_set ?_ GE402.out | refine below_set ?_ GE403.out) | exact HB.out)) hb)
    clear HO407
    clear BK402
    clear BK403
    clear HB
    have HO407 := n0_
    have BK402 := n1_
    have BK403 := n2_
    have HB := n3_
    clear n0_ n1_ n2_ n3_
    (try clear hb)
    (try clear hb2)
    (try clear hk)
    (try clear hi)
    refine hK.out _ _ ⟨(blk_cell BK402.out 0).trans rfl, (blk_cell BK402.out 1).trans rfl, (blk_cell BK403.out 0).trans rfl, (blk_cell BK403.out 1).trans rfl⟩ (fun hHeld => ?_)
    clear hK K
    refine norm_ (a' := ?_) ?_ ?_
    rotate_left
    · show Act.put _ (some 22) _ = _
      simp only [Act.put, List.setIfInBounds_toArray, List.set_cons_zero, List.set_cons_succ, i64_w, i32_w]
      rfl
    refine one_ (i := 5) (N := some 24) #[true, true, true, true, true, true, false, false, false, false, false, false] rfl rfl (one_of HT_.out (by kernel_rfl)) (by decide) (fun K hK => ?_)
    refine goes_ Try.func24 (by kernel_rfl) rfl #[.agg #[.int .i64 a2_0, .int .i64 a2_1]] (by rfl) rfl rfl (by (try simp only [List.map_toArray, List.map_cons, List.map_nil]); first | done | rfl | (simp only [List.length_drop, List.length_take]; rfl)) ?_
    with_reducible refine (laws_toCase.calls a2_0 a2_1 t410 t411 _ A10.out).mono ?_
    rintro e w22 ⟨rfl, hb⟩
    refine ⟨_, rfl, ?_⟩
    have n0_ := Aside0.mk (Kd.R_below (by (with_reducible repeat (first | apply Kd.R_alloc | apply Kd.R_drewN | apply Kd.R_drew)); exact HO407.out) hb)
    have n1_ := Aside0.mk (blk_below (g := gb402) (o := .cells #[.int .i64 a1_0, .int .i64 a1_1] 36 (0, 0)) (by (with_reducible repeat (first | refine blk_drewN ?_ _ | refine blk_drew ?_ | refine blk_alloc ?_ _)); exact BK402.out) hb)
    have n2_ := Aside0.mk (blk_below (g := gb403) (o := .cells #[.int .i64 a2_0, .int .i64 a2_1] 36 (0, 0)) (by (with_reducible repeat (first | refine blk_drewN ?_ _ | refine blk_drew ?_ | refine blk_alloc ?_ _)); exact BK403.out) hb)
    have n3_ := Aside0.mk (below_step (by repeat (first | (with_reducible first | exact HB.out | apply below_alloc | apply pw_below_drewN | apply below_drew1 | refine below_set ?_ GE402.out | refine below_set ?_ GE403.out) | exact HB.out)) hb)
    clear HO407
    clear BK402
    clear BK403
    clear HB
    have HO407 := n0_
    have BK402 := n1_
    have BK403 := n2_
    have HB := n3_
    clear n0_ n1_ n2_ n3_
    (try clear hb)
    (try clear hb2)
    (try clear hk)
    (try clear hi)
    obtain ⟨Ao23, co23, eo23⟩ := Kd.R_slice HO407.out
    (first | subst eo23 | (injection eo23 with f1_ f2_ f3_; have f4_ := f1_.symm; have f5_ := f3_.symm; clear f1_ f2_ f3_; subst f4_; subst f5_))
    refine hK.out _ _ ⟨(blk_cell BK402.out 0).trans rfl, (blk_cell BK402.out 1).trans rfl, (blk_cell BK403.out 0).trans rfl, (blk_cell BK403.out 1).trans rfl⟩ (fun hHeld => ?_)
    clear hK K
    refine norm_ (a' := ?_) ?_ ?_
    rotate_left
    · show Act.put _ (some 24) _ = _
      simp only [Act.put, List.setIfInBounds_toArray, List.set_cons_zero, List.set_cons_succ, i64_w, i32_w]
      rfl
    refine one_ (i := 6) (N := some 25) #[true, true, true, true, true, true, true, false, false, false, false, false] rfl rfl (one_of HT_.out (by kernel_rfl)) (by decide) (fun K hK => ?_)
    refine goes_ Try.func31 (by kernel_rfl) rfl #[.slice Ao23 t405.length co23, .agg #[.int .i64 t408, .int .i64 t409], .agg #[.int .i64 t410, .int .i64 t411]] (by rfl) rfl rfl (by (try simp only [List.map_toArray, List.map_cons, List.map_nil]); first | done | rfl | (simp only [List.length_drop, List.length_take]; rfl)) ?_
    with_reducible refine (spec_TwoCases.calls _ _ t405 t408 t409 t410 t411 t412 t413 _ ?side1 ?side2 A11.out).mono ?_
    (case side1 => repeat (first | exact (Kd.R_reads' HO407.out).2.2 | (with_reducible refine Kd.C_alloc ?_ _) | (with_reducible refine Kd.C_drewN ?_ _) | (with_reducible refine Kd.C_drew ?_)))
    (case side2 => exact (Kd.R_reads' HO407.out).2.1)
    rintro e w24 ⟨rfl, hb⟩
    refine ⟨_, rfl, ?_⟩
    have n0_ := Aside0.mk (Kd.R_below (by (with_reducible repeat (first | apply Kd.R_alloc | apply Kd.R_drewN | apply Kd.R_drew)); exact HO407.out) hb)
    have n1_ := Aside0.mk (blk_below (g := gb402) (o := .cells #[.int .i64 a1_0, .int .i64 a1_1] 36 (0, 0)) (by (with_reducible repeat (first | refine blk_drewN ?_ _ | refine blk_drew ?_ | refine blk_alloc ?_ _)); exact BK402.out) hb)
    have n2_ := Aside0.mk (blk_below (g := gb403) (o := .cells #[.int .i64 a2_0, .int .i64 a2_1] 36 (0, 0)) (by (with_reducible repeat (first | refine blk_drewN ?_ _ | refine blk_drew ?_ | refine blk_alloc ?_ _)); exact BK403.out) hb)
    have n3_ := Aside0.mk (below_step (by repeat (first | (with_reducible first | exact HB.out | apply below_alloc | apply pw_below_drewN | apply below_drew1 | refine below_set ?_ GE402.out | refine below_set ?_ GE403.out) | exact HB.out)) hb)
    clear HO407
    clear BK402
    clear BK403
    clear HB
    have HO407 := n0_
    have BK402 := n1_
    have BK403 := n2_
    have HB := n3_
    clear n0_ n1_ n2_ n3_
    (try clear hb)
    (try clear hb2)
    (try clear hk)
    (try clear hi)
    refine hK.out _ _ ⟨(blk_cell BK402.out 0).trans rfl, (blk_cell BK402.out 1).trans rfl, (blk_cell BK403.out 0).trans rfl, (blk_cell BK403.out 1).trans rfl⟩ (fun hHeld => ?_)
    clear hK K
    refine norm_ (a' := ?_) ?_ ?_
    rotate_left
    · show Act.put _ (some 25) _ = _
      simp only [Act.put, List.setIfInBounds_toArray, List.set_cons_zero, List.set_cons_succ, i64_w, i32_w]
      rfl
    refine pure_ (i := 7) (N := some 18) (v := ?_) (a' := ?_) #[true, true, true, true, true, true, true, true, false, false, false, false] rfl rfl (any_of HT_.out (by kernel_rfl)) (fun _ _ _ h => h) (Or.inl ⟨by rfl, ?_⟩) ?_ ?_
    rotate_left
    · intro w'
      go_simp
      with_reducible rfl
    rotate_left
    · simp only [Act.put, List.setIfInBounds_toArray, List.set_cons_zero, List.set_cons_succ, i64_w, i32_w]
      rfl
    refine pure_ (i := 8) (N := some 26) (v := ?_) (a' := ?_) #[true, true, true, true, true, true, true, true, true, false, false, false] rfl rfl (any_of HT_.out (by kernel_rfl)) (fun _ _ _ h => h) (Or.inl ⟨by rfl, ?_⟩) ?_ ?_
    rotate_left
    · intro w'
      go_simp
      with_reducible rfl
    rotate_left
    · simp only [Act.put, List.setIfInBounds_toArray, List.set_cons_zero, List.set_cons_succ, i64_w, i32_w]
      rfl
    refine pure_ (i := 9) (N := some 27) (v := ?_) (a' := ?_) #[true, true, true, true, true, true, true, true, true, true, false, false] rfl rfl (any_of HT_.out (by kernel_rfl)) (fun _ _ _ h => h) (Or.inl ⟨by rfl, ?_⟩) ?_ ?_
    rotate_left
    · intro w'
      go_simp
      with_reducible rfl
    rotate_left
    · simp only [Act.put, List.setIfInBounds_toArray, List.set_cons_zero, List.set_cons_succ, i64_w, i32_w]
      rfl
    refine pure_ (i := 10) (N := some 8) (v := ?_) (a' := ?_) #[true, true, true, true, true, true, true, true, true, true, true, false] rfl rfl (any_of HT_.out (by kernel_rfl)) (fun _ _ _ h => h) (Or.inl ⟨by rfl, ?_⟩) ?_ ?_
    rotate_left
    · intro w'
      go_simp
      with_reducible rfl
    rotate_left
    · simp only [Act.put, List.setIfInBounds_toArray, List.set_cons_zero, List.set_cons_succ, i64_w, i32_w]
      rfl
    refine pure_ (i := 11) (N := some 9) (v := ?_) (a' := ?_) #[true, true, true, true, true, true, true, true, true, true, true, true] rfl rfl (any_of HT_.out (by kernel_rfl)) (fun _ _ _ h => h) (Or.inl ⟨by rfl, ?_⟩) ?_ ?_
    rotate_left
    · intro w'
      go_simp
      with_reducible rfl
    rotate_left
    · simp only [Act.put, List.setIfInBounds_toArray, List.set_cons_zero, List.set_cons_succ, i64_w, i32_w]
      rfl
    refine done_ (done_of HT_.out (by kernel_rfl)) ?_
    try go_wp2_with (first | ((with_reducible refine gate_callee (f := 14) rfl ?_); refine goesL_ (some 29) rfl rfl Try.func14 (by kernel_rfl) rfl #[.slice A0 l0.length c0] rfl (by (try simp only [List.map_toArray, List.map_cons, List.map_nil]); first | done | rfl | (simp only [List.length_drop, List.length_take]; rfl)) ?_; (with_reducible refine (laws_toItemS.calls k _ _ l0 t414 _ ?side1 ?side2 A12.out).mono ?_); (case side1 => repeat (first | exact (Kd.C_below HR0.out HB.out) | (with_reducible refine Kd.C_alloc ?_ _) | (with_reducible refine Kd.C_drewN ?_ _) | (with_reducible refine Kd.C_drew ?_))); (case side2 => exact HC0.out); rintro e w25 ⟨v415, rfl, ho0, hb⟩; refine ⟨_, rfl, ?_⟩; have n0_ := Aside0.mk (Kd.R_elder' (by (with_reducible repeat (first | apply Kd.R_alloc | apply Kd.R_drewN | apply Kd.R_drew)); exact HO407.out) (Kd.R_base ho0) hb); have n1_ := Aside0.mk (Kd.R_lower (Kd.R_new' ho0 (Kd.R_lt (by (with_reducible repeat (first | apply Kd.R_alloc | apply Kd.R_drewN | apply Kd.R_drew)); exact HO407.out))) (below_size (by repeat (first | (with_reducible first | exact HB.out | apply below_alloc | apply pw_below_drewN | apply below_drew1 | refine below_set ?_ GE402.out | refine below_set ?_ GE403.out) | exact HB.out)))); have n2_ := Aside0.mk (blk_below (g := gb402) (o := .cells #[.int .i64 a1_0, .int .i64 a1_1] 36 (0, 0)) (by (with_reducible repeat (first | refine blk_drewN ?_ _ | refine blk_drew ?_ | refine blk_alloc ?_ _)); exact BK402.out) hb); have n3_ := Aside0.mk (blk_below (g := gb403) (o := .cells #[.int .i64 a2_0, .int .i64 a2_1] 36 (0, 0)) (by (with_reducible repeat (first | refine blk_drewN ?_ _ | refine blk_drew ?_ | refine blk_alloc ?_ _)); exact BK403.out) hb); have n4_ := Aside0.mk (below_step (by repeat (first | (with_reducible first | exact HB.out | apply below_alloc | apply pw_below_drewN | apply below_drew1 | refine below_set ?_ GE402.out | refine below_set ?_ GE403.out) | exact HB.out)) hb); clear HO407; clear BK402; clear BK403; clear HB; have HO407 := n0_; have HO416 := n1_; have BK402 := n2_; have BK403 := n3_; have HB := n4_; clear n0_ n1_ n2_ n3_ n4_; (try clear hb); (try clear hb2); (try clear hk); (try clear hi); (try clear ho0)))
    have n0_ := Aside0.mk (Kd.R_drew HO407.out)
    have n1_ := Aside0.mk (Kd.R_drew HO416.out)
    have n2_ := Aside0.mk (blk_drew BK402.out)
    have n3_ := Aside0.mk (blk_drew BK403.out)
    have n4_ := Aside0.mk (below_drew1 HB.out)
    clear HO407
    clear HO416
    clear BK402
    clear BK403
    clear HB
    have HO407 := n0_
    have HO416 := n1_
    have BK402 := n2_
    have BK403 := n3_
    have HB := n4_
    clear n0_ n1_ n2_ n3_ n4_
    refine start_ (n := 11) (S := fun w' => w'.cell? ⟨gb402, 0, none⟩ = some (.int .i64 a1_0) ∧ w'.cell? ⟨gb402, 1, none⟩ = some (.int .i64 a1_1) ∧ w'.cell? ⟨gb403, 0, none⟩ = some (.int .i64 a2_0) ∧ w'.cell? ⟨gb403, 1, none⟩ = some (.int .i64 a2_1)) (ds := []) #[false, false, false, false, false, false, false, false, false, false, false] (by kernel_rfl) rfl rfl ⟨(blk_cell BK402.out 0).trans rfl, (blk_cell BK402.out 1).trans rfl, (blk_cell BK403.out 0).trans rfl, (blk_cell BK403.out 1).trans rfl⟩ (fun hHeld => ?_); refine with_tabW laws_FnExactTwoCases.tab7 laws_FnExactTwoCases.bits7 (fun HT_ HW_ => ?_)
    generalize w25.drew = w26 at HO407 HO416 BK402 BK403 HB hHeld ⊢
    refine pure_ (i := 0) (N := some 31) (v := ?_) (a' := ?_) #[true, false, false, false, false, false, false, false, false, false, false] rfl rfl (any_of HT_.out (by kernel_rfl)) (fun _ _ _ h => h) (Or.inl ⟨by rfl, ?_⟩) ?_ ?_
    rotate_left
    · intro w'
      go_simp
      with_reducible rfl
    rotate_left
    · simp only [Act.put, List.setIfInBounds_toArray, List.set_cons_zero, List.set_cons_succ, i64_w, i32_w]
      rfl
    refine take_ (i := 1) (N := some 32) (v := ?_) (a' := ?_) #[true, true, false, false, false, false, false, false, false, false, false] rfl rfl (take_ofW HT_.out HW_.out (by kernel_rfl)) (fun _ _ _ h => h) (Or.inl ⟨by rfl, ?_⟩) hHeld ?_ ?_
    rotate_left
    · rintro w' ⟨s0, s1, s2, s3⟩
      go_simp
      with_reducible rfl
    rotate_left
    · simp only [Act.put, List.setIfInBounds_toArray, List.set_cons_zero, List.set_cons_succ, i64_w, i32_w]
      rfl
    refine take_ (i := 3) (N := some 34) (v := ?_) (a' := ?_) #[true, true, false, true, false, false, false, false, false, false, false] rfl rfl (take_ofW HT_.out HW_.out (by kernel_rfl)) (fun _ _ _ h => h) (Or.inl ⟨by rfl, ?_⟩) hHeld ?_ ?_
    rotate_left
    · rintro w' ⟨s0, s1, s2, s3⟩
      go_simp
      with_reducible rfl
    rotate_left
    · simp only [Act.put, List.setIfInBounds_toArray, List.set_cons_zero, List.set_cons_succ, i64_w, i32_w]
      rfl
    refine one_ (i := 2) (N := some 33) #[true, true, true, true, false, false, false, false, false, false, false] rfl rfl (one_of HT_.out (by kernel_rfl)) (by decide) (fun K hK => ?_)
    refine goes_ Try.func24 (by kernel_rfl) rfl #[.agg #[.int .i64 a1_0, .int .i64 a1_1]] (by rfl) rfl rfl (by (try simp only [List.map_toArray, List.map_cons, List.map_nil]); first | done | rfl | (simp only [List.length_drop, List.length_take]; rfl)) ?_
    with_reducible refine (laws_toCase.calls a1_0 a1_1 t417 t418 _ A13.out).mono ?_
    rintro e w27 ⟨rfl, hb⟩
    refine ⟨_, rfl, ?_⟩
    have n0_ := Aside0.mk (Kd.R_below (by (with_reducible repeat (first | apply Kd.R_alloc | apply Kd.R_drewN | apply Kd.R_drew)); exact HO407.out) hb)
    have n1_ := Aside0.mk (Kd.R_below (by (with_reducible repeat (first | apply Kd.R_alloc | apply Kd.R_drewN | apply Kd.R_drew)); exact HO416.out) hb)
    have n2_ := Aside0.mk (blk_below (g := gb402) (o := .cells #[.int .i64 a1_0, .int .i64 a1_1] 36 (0, 0)) (by (with_reducible repeat (first | refine blk_drewN ?_ _ | refine blk_drew ?_ | refine blk_alloc ?_ _)); exact BK402.out) hb)
    have n3_ := Aside0.mk (blk_below (g := gb403) (o := .cells #[.int .i64 a2_0, .int .i64 a2_1] 36 (0, 0)) (by (with_reducible repeat (first | refine blk_drewN ?_ _ | refine blk_drew ?_ | refine blk_alloc ?_ _)); exact BK403.out) hb)
    have n4_ := Aside0.mk (below_step (by repeat (first | (with_reducible first | exact HB.out | apply below_alloc | apply pw_below_drewN | apply below_drew1 | refine below_set ?_ GE402.out | refine below_set ?_ GE403.out) | exact HB.out)) hb)
    clear HO407
    clear HO416
    clear BK402
    clear BK403
    clear HB
    have HO407 := n0_
    have HO416 := n1_
    have BK402 := n2_
    have BK403 := n3_
    have HB := n4_
    clear n0_ n1_ n2_ n3_ n4_
    (try clear hb)
    (try clear hb2)
    (try clear hk)
    (try clear hi)
    refine hK.out _ _ ⟨(blk_cell BK402.out 0).trans rfl, (blk_cell BK402.out 1).trans rfl, (blk_cell BK403.out 0).trans rfl, (blk_cell BK403.out 1).trans rfl⟩ (fun hHeld => ?_)
    clear hK K
    refine norm_ (a' := ?_) ?_ ?_
    rotate_left
    · show Act.put _ (some 33) _ = _
      simp only [Act.put, List.setIfInBounds_toArray, List.set_cons_zero, List.set_cons_succ, i64_w, i32_w]
      rfl
    refine one_ (i := 4) (N := some 35) #[true, true, true, true, true, false, false, false, false, false, false] rfl rfl (one_of HT_.out (by kernel_rfl)) (by decide) (fun K hK => ?_)
    refine goes_ Try.func24 (by kernel_rfl) rfl #[.agg #[.int .i64 a2_0, .int .i64 a2_1]] (by rfl) rfl rfl (by (try simp only [List.map_toArray, List.map_cons, List.map_nil]); first | done | rfl | (simp only [List.length_drop, List.length_take]; rfl)) ?_
    with_reducible refine (laws_toCase.calls a2_0 a2_1 t419 t420 _ A14.out).mono ?_
    rintro e w28 ⟨rfl, hb⟩
    refine ⟨_, rfl, ?_⟩
    have n0_ := Aside0.mk (Kd.R_below (by (with_reducible repeat (first | apply Kd.R_alloc | apply Kd.R_drewN | apply Kd.R_drew)); exact HO407.out) hb)
    have n1_ := Aside0.mk (Kd.R_below (by (with_reducible repeat (first | apply Kd.R_alloc | apply Kd.R_drewN | apply Kd.R_drew)); exact HO416.out) hb)
    have n2_ := Aside0.mk (blk_below (g := gb402) (o := .cells #[.int .i64 a1_0, .int .i64 a1_1] 36 (0, 0)) (by (with_reducible repeat (first | refine blk_drewN ?_ _ | refine blk_drew ?_ | refine blk_alloc ?_ _)); exact BK402.out) hb)
    have n3_ := Aside0.mk (blk_below (g := gb403) (o := .cells #[.int .i64 a2_0, .int .i64 a2_1] 36 (0, 0)) (by (with_reducible repeat (first | refine blk_drewN ?_ _ | refine blk_drew ?_ | refine blk_alloc ?_ _)); exact BK403.out) hb)
    have n4_ := Aside0.mk (below_step (by repeat (first | (with_reducible first | exact HB.out | apply below_alloc | apply pw_below_drewN | apply below_drew1 | refine below_set ?_ GE402.out | refine below_set ?_ GE403.out) | exact HB.out)) hb)
    clear HO407
    clear HO416
    clear BK402
    clear BK403
    clear HB
    have HO407 := n0_
    have HO416 := n1_
    have BK402 := n2_
    have BK403 := n3_
    have HB := n4_
    clear n0_ n1_ n2_ n3_ n4_
    (try clear hb)
    (try clear hb2)
    (try clear hk)
    (try clear hi)
    obtain ⟨Ao29, co29, eo29⟩ := Kd.R_slice HO416.out
    (first | subst eo29 | (injection eo29 with f1_ f2_ f3_; have f4_ := f1_.symm; have f5_ := f3_.symm; clear f1_ f2_ f3_; subst f4_; subst f5_))
    refine hK.out _ _ ⟨(blk_cell BK402.out 0).trans rfl, (blk_cell BK402.out 1).trans rfl, (blk_cell BK403.out 0).trans rfl, (blk_cell BK403.out 1).trans rfl⟩ (fun hHeld => ?_)
    clear hK K
    refine norm_ (a' := ?_) ?_ ?_
    rotate_left
    · show Act.put _ (some 35) _ = _
      simp only [Act.put, List.setIfInBounds_toArray, List.set_cons_zero, List.set_cons_succ, i64_w, i32_w]
      rfl
    refine one_ (i := 5) (N := some 36) #[true, true, true, true, true, true, false, false, false, false, false] rfl rfl (one_of HT_.out (by kernel_rfl)) (by decide) (fun K hK => ?_)
    refine goes_ Try.func32 (by kernel_rfl) rfl #[.slice Ao29 t414.length co29, .agg #[.int .i64 t417, .int .i64 t418], .agg #[.int .i64 t419, .int .i64 t420]] (by rfl) rfl rfl (by (try simp only [List.map_toArray, List.map_cons, List.map_nil]); first | done | rfl | (simp only [List.length_drop, List.length_take]; rfl)) ?_
    with_reducible refine (impl_TwoCases.calls _ _ t414 t417 t418 t419 t420 t421 t422 _ ?side1 ?side2 A15.out).mono ?_
    (case side1 => repeat (first | exact (Kd.R_reads' HO416.out).2.2 | (with_reducible refine Kd.C_alloc ?_ _) | (with_reducible refine Kd.C_drewN ?_ _) | (with_reducible refine Kd.C_drew ?_)))
    (case side2 => exact (Kd.R_reads' HO416.out).2.1)
    rintro e w30 ⟨rfl, hb⟩
    refine ⟨_, rfl, ?_⟩
    have n0_ := Aside0.mk (Kd.R_below (by (with_reducible repeat (first | apply Kd.R_alloc | apply Kd.R_drewN | apply Kd.R_drew)); exact HO407.out) hb)
    have n1_ := Aside0.mk (Kd.R_below (by (with_reducible repeat (first | apply Kd.R_alloc | apply Kd.R_drewN | apply Kd.R_drew)); exact HO416.out) hb)
    have n2_ := Aside0.mk (blk_below (g := gb402) (o := .cells #[.int .i64 a1_0, .int .i64 a1_1] 36 (0, 0)) (by (with_reducible repeat (first | refine blk_drewN ?_ _ | refine blk_drew ?_ | refine blk_alloc ?_ _)); exact BK402.out) hb)
    have n3_ := Aside0.mk (blk_below (g := gb403) (o := .cells #[.int .i64 a2_0, .int .i64 a2_1] 36 (0, 0)) (by (with_reducible repeat (first | refine blk_drewN ?_ _ | refine blk_drew ?_ | refine blk_alloc ?_ _)); exact BK403.out) hb)
    have n4_ := Aside0.mk (below_step (by repeat (first | (with_reducible first | exact HB.out | apply below_alloc | apply pw_below_drewN | apply below_drew1 | refine below_set ?_ GE402.out | refine below_set ?_ GE403.out) | exact HB.out)) hb)
    clear HO407
    clear HO416
    clear BK402
    clear BK403
    clear HB
    have HO407 := n0_
    have HO416 := n1_
    have BK402 := n2_
    have BK403 := n3_
    have HB := n4_
    clear n0_ n1_ n2_ n3_ n4_
    (try clear hb)
    (try clear hb2)
    (try clear hk)
    (try clear hi)
    refine hK.out _ _ ⟨(blk_cell BK402.out 0).trans rfl, (blk_cell BK402.out 1).trans rfl, (blk_cell BK403.out 0).trans rfl, (blk_cell BK403.out 1).trans rfl⟩ (fun hHeld => ?_)
    clear hK K
    refine norm_ (a' := ?_) ?_ ?_
    rotate_left
    · show Act.put _ (some 36) _ = _
      simp only [Act.put, List.setIfInBounds_toArray, List.set_cons_zero, List.set_cons_succ, i64_w, i32_w]
      rfl
    refine pure_ (i := 6) (N := some 30) (v := ?_) (a' := ?_) #[true, true, true, true, true, true, true, false, false, false, false] rfl rfl (any_of HT_.out (by kernel_rfl)) (fun _ _ _ h => h) (Or.inl ⟨by rfl, ?_⟩) ?_ ?_
    rotate_left
    · intro w'
      go_simp
      with_reducible rfl
    rotate_left
    · simp only [Act.put, List.setIfInBounds_toArray, List.set_cons_zero, List.set_cons_succ, i64_w, i32_w]
      rfl
    refine pure_ (i := 7) (N := some 37) (v := ?_) (a' := ?_) #[true, true, true, true, true, true, true, true, false, false, false] rfl rfl (any_of HT_.out (by kernel_rfl)) (fun _ _ _ h => h) (Or.inl ⟨by rfl, ?_⟩) ?_ ?_
    rotate_left
    · intro w'
      go_simp
      with_reducible rfl
    rotate_left
    · simp only [Act.put, List.setIfInBounds_toArray, List.set_cons_zero, List.set_cons_succ, i64_w, i32_w]
      rfl
    refine pure_ (i := 8) (N := some 38) (v := ?_) (a' := ?_) #[true, true, true, true, true, true, true, true, true, false, false] rfl rfl (any_of HT_.out (by kernel_rfl)) (fun _ _ _ h => h) (Or.inl ⟨by rfl, ?_⟩) ?_ ?_
    rotate_left
    · intro w'
      go_simp
      with_reducible rfl
    rotate_left
    · simp only [Act.put, List.setIfInBounds_toArray, List.set_cons_zero, List.set_cons_succ, i64_w, i32_w]
      rfl
    refine pure_ (i := 9) (N := some 11) (v := ?_) (a' := ?_) #[true, true, true, true, true, true, true, true, true, true, false] rfl rfl (any_of HT_.out (by kernel_rfl)) (fun _ _ _ h => h) (Or.inl ⟨by rfl, ?_⟩) ?_ ?_
    rotate_left
    · intro w'
      go_simp
      with_reducible rfl
    rotate_left
    · simp only [Act.put, List.setIfInBounds_toArray, List.set_cons_zero, List.set_cons_succ, i64_w, i32_w]
      rfl
    refine pure_ (i := 10) (N := some 12) (v := ?_) (a' := ?_) #[true, true, true, true, true, true, true, true, true, true, true] rfl rfl (any_of HT_.out (by kernel_rfl)) (fun _ _ _ h => h) (Or.inl ⟨by rfl, ?_⟩) ?_ ?_
    rotate_left
    · intro w'
      go_simp
      with_reducible rfl
    rotate_left
    · simp only [Act.put, List.setIfInBounds_toArray, List.set_cons_zero, List.set_cons_succ, i64_w, i32_w]
      rfl
    refine done_ (done_of HT_.out (by kernel_rfl)) ?_
    go_upto_region 8 with (fail)
    go_cut [46] (fun v46 wc => ∃ (kq : Nat) (x46_15 : Bool), v46 = .bool x46_15 ∧ Aside0 (laws_FnExactTwoCases.j0 kq l0 t414 x46_15 = some r) ∧ Aside0 (kq ≤ k) ∧ Aside0 (Kd.R k54 54 wc w.heap.size (fun _ => True) (.slice Ao29 t414.length co29) t414) ∧ Aside0 (wc.heap[gb402]? = some (.cells #[.int .i64 a1_0, .int .i64 a1_1] 36 (0, 0))) ∧ Aside0 (wc.heap[gb403]? = some (.cells #[.int .i64 a2_0, .int .i64 a2_1] 36 (0, 0))) ∧ Aside0 (Below w.heap.size w wc))
    case first =>
      have H := HC16.out
      clear HC16
      by_cases c31 : t421 = t412
      · rw [if_pos c31] at H
        have c31b0 : (t421 == t412) = true := beq_iff_eq.mpr c31
        have c31b1 : (t421 != t412) = false := bne_eq_false_iff_eq.mpr c31
        clear c31
        (first | rw [c31b0] | (simp only [i64_w, i32_w]; rw [c31b0]) | skip)
        have H' := Aside0.mk H
        clear H
        go_wp2
        go_meet
        case rel => exact ⟨_, ((t422 != t413)), (by first | rfl | (simp; done) | (simp [*]; done)), H', ⟨by first | omega | exact Nat.le_refl _⟩, ⟨by (with_reducible repeat (first | apply Kd.R_alloc | apply Kd.R_drewN | apply Kd.R_drew)); exact Kd.R_mono HO416.out (fun _ hk => trivial)⟩, ⟨by (with_reducible repeat (first | refine blk_drewN ?_ _ | refine blk_drew ?_ | refine blk_alloc ?_ _)); exact BK402.out⟩, ⟨by (with_reducible repeat (first | refine blk_drewN ?_ _ | refine blk_drew ?_ | refine blk_alloc ?_ _)); exact BK403.out⟩, ⟨by repeat (first | (with_reducible first | exact HB.out | apply below_alloc | apply pw_below_drewN | apply below_drew1 | refine below_set ?_ GE402.out | refine below_set ?_ GE403.out) | exact HB.out)⟩⟩
      · rw [if_neg c31] at H
        have c31b0 : (t421 == t412) = false := beq_eq_false_iff_ne.mpr c31
        have c31b1 : (t421 != t412) = true := bne_iff_ne.mpr c31
        (first | rw [c31b0] | (simp only [i64_w, i32_w]; rw [c31b0]) | skip)
        have H' := Aside0.mk H
        clear H
        go_wp2
        go_meet
        case rel => exact ⟨_, (true), (by first | rfl | (simp; done) | (simp [*]; done)), H', ⟨by first | omega | exact Nat.le_refl _⟩, ⟨by (with_reducible repeat (first | apply Kd.R_alloc | apply Kd.R_drewN | apply Kd.R_drew)); exact Kd.R_mono HO416.out (fun _ hk => trivial)⟩, ⟨by (with_reducible repeat (first | refine blk_drewN ?_ _ | refine blk_drew ?_ | refine blk_alloc ?_ _)); exact BK402.out⟩, ⟨by (with_reducible repeat (first | refine blk_drewN ?_ _ | refine blk_drew ?_ | refine blk_alloc ?_ _)); exact BK403.out⟩, ⟨by repeat (first | (with_reducible first | exact HB.out | apply below_alloc | apply pw_below_drewN | apply below_drew1 | refine below_set ?_ GE402.out | refine below_set ?_ GE403.out) | exact HB.out)⟩⟩
    case rest =>
      clear HC16
      try clear c1
      try clear c2
      try clear p2
      try clear c3
      try clear c5
      try clear c5b0
      try clear c8
      try clear c12
      try clear c14
      try clear c24
      try clear c31
      try clear c31b0
      try clear c31b1
      obtain ⟨kq, x46_15, rfl, HA, HJ15, HO_10, BK402, BK403, HB⟩ := hcut
      cases kq with
      | zero => exact absurd HA.out (by simp [laws_FnExactTwoCases.j0])
      | succ kj15 =>
        have H := HA.out
        clear HA
        simp only [laws_FnExactTwoCases.j0] at H
        by_cases c32 : x46_15 = true
        · subst c32
          have H1 : (some false) = some r := by rw [if_pos rfl] at H; exact H
          clear H
          have H := H1
          clear H1
          obtain rfl := Option.some.inj H
          go_wp2
          go_ret
          exact ⟨by first | rfl | (simp [errW_none, errW_some] <;> rfl) | (simp [*, errW_none, errW_some] <;> rfl), by repeat (first | (with_reducible first | exact HB.out | apply below_alloc | apply pw_below_drewN | apply below_drew1 | refine below_set ?_ GE402.out | refine below_set ?_ GE403.out) | exact HB.out)⟩
        · replace c32 := Bool.eq_false_iff.mpr c32
          subst c32
          have H1 : ((laws_toItemS.f kj15 l0).bind fun t423 => ((laws_eqItemS.f kj15 t414 t423).bind fun t426 => (if t426 = true then (some true) else (some false)))) = some r := by rw [if_neg (show ¬ (false = true) by decide)] at H; exact H
          clear H
          have H := H1
          clear H1
          replace H := Option.bind_eq_some_iff.mp H
          obtain ⟨t423, A330, H⟩ := H
          replace H : ((laws_eqItemS.f kj15 t414 t423).bind fun t426 => (if t426 = true then (some true) else (some false))) = some r := H
          have A33 := Aside0.mk A330
          clear A330
          replace H := Option.bind_eq_some_iff.mp H
          obtain ⟨t426, A340, H⟩ := H
          replace H : (if t426 = true then (some true) else (some false)) = some r := H
          have A34 := Aside0.mk A340
          clear A340
          by_cases c35 : t426 = true
          · subst c35
            have H1 : (some true) = some r := by rw [if_pos rfl] at H; exact H
            clear H
            have H := H1
            clear H1
            obtain rfl := Option.some.inj H
            go_wp2_with (first | ((with_reducible refine gate_callee (f := 14) rfl ?_); refine goesL_ (some 49) rfl rfl Try.func14 (by kernel_rfl) rfl #[.slice A0 l0.length c0] rfl (by (try simp only [List.map_toArray, List.map_cons, List.map_nil]); first | done | rfl | (simp only [List.length_drop, List.length_take]; rfl)) ?_; (with_reducible refine (laws_toItemS.calls kj15 _ _ l0 t423 _ ?side1 ?side2 A33.out).mono ?_); (case side1 => repeat (first | exact (Kd.C_below HR0.out HB.out) | (with_reducible refine Kd.C_alloc ?_ _) | (with_reducible refine Kd.C_drewN ?_ _) | (with_reducible refine Kd.C_drew ?_))); (case side2 => exact HC0.out); rintro e w36 ⟨v424, rfl, ho0, hb⟩; refine ⟨_, rfl, ?_⟩; have n0_ := Aside0.mk (Kd.R_elder' (by (with_reducible repeat (first | apply Kd.R_alloc | apply Kd.R_drewN | apply Kd.R_drew)); exact HO_10.out) (Kd.R_base ho0) hb); have n1_ := Aside0.mk (Kd.R_lower (Kd.R_new' ho0 (Kd.R_lt (by (with_reducible repeat (first | apply Kd.R_alloc | apply Kd.R_drewN | apply Kd.R_drew)); exact HO_10.out))) (below_size (by repeat (first | (with_reducible first | exact HB.out | apply below_alloc | apply pw_below_drewN | apply below_drew1 | refine below_set ?_ GE402.out | refine below_set ?_ GE403.out) | exact HB.out)))); have n2_ := Aside0.mk (blk_below (g := gb402) (o := .cells #[.int .i64 a1_0, .int .i64 a1_1] 36 (0, 0)) (by (with_reducible repeat (first | refine blk_drewN ?_ _ | refine blk_drew ?_ | refine blk_alloc ?_ _)); exact BK402.out) hb); have n3_ := Aside0.mk (blk_below (g := gb403) (o := .cells #[.int .i64 a2_0, .int .i64 a2_1] 36 (0, 0)) (by (with_reducible repeat (first | refine blk_drewN ?_ _ | refine blk_drew ?_ | refine blk_alloc ?_ _)); exact BK403.out) hb); have n4_ := Aside0.mk (below_step (by repeat (first | (with_reducible first | exact HB.out | apply below_alloc | apply pw_below_drewN | apply below_drew1 | refine below_set ?_ GE402.out | refine below_set ?_ GE403.out) | exact HB.out)) hb); clear HO_10; clear BK402; clear BK403; clear HB; have HO_10 := n0_; have HO425 := n1_; have BK402 := n2_; have BK403 := n3_; have HB := n4_; clear n0_ n1_ n2_ n3_ n4_; (try clear hb); (try clear hb2); (try clear hk); (try clear hi); (try clear ho0); obtain ⟨Ao37, co37, eo37⟩ := Kd.R_slice HO425.out; subst eo37) | ((with_reducible refine gate_callee (f := 16) rfl ?_); refine goesL_ (some 50) rfl rfl Try.func16 (by kernel_rfl) rfl #[.slice Ao29 t414.length co29, .slice Ao37 t423.length co37] rfl (by (try simp only [List.map_toArray, List.map_cons, List.map_nil]); first | done | rfl | (simp only [List.length_drop, List.length_take]; rfl)) ?_; (with_reducible refine (laws_eqItemS.calls kj15 _ _ t414 _ _ t423 true _ ?side1 ?side2 ?side3 ?side4 A34.out).mono ?_); (case side1 => repeat (first | exact (Kd.R_reads' HO_10.out).2.2 | (with_reducible refine Kd.C_alloc ?_ _) | (with_reducible refine Kd.C_drewN ?_ _) | (with_reducible refine Kd.C_drew ?_))); (case side2 => exact (Kd.R_reads' HO_10.out).2.1); (case side3 => repeat (first | exact (Kd.R_reads' HO425.out).2.2 | (with_reducible refine Kd.C_alloc ?_ _) | (with_reducible refine Kd.C_drewN ?_ _) | (with_reducible refine Kd.C_drew ?_))); (case side4 => exact (Kd.R_reads' HO425.out).2.1); rintro e w38 ⟨rfl, hb⟩; refine ⟨_, rfl, ?_⟩; have n0_ := Aside0.mk (Kd.R_below (by (with_reducible repeat (first | apply Kd.R_alloc | apply Kd.R_drewN | apply Kd.R_drew)); exact HO_10.out) hb); have n1_ := Aside0.mk (Kd.R_below (by (with_reducible repeat (first | apply Kd.R_alloc | apply Kd.R_drewN | apply Kd.R_drew)); exact HO425.out) hb); have n2_ := Aside0.mk (blk_below (g := gb402) (o := .cells #[.int .i64 a1_0, .int .i64 a1_1] 36 (0, 0)) (by (with_reducible repeat (first | refine blk_drewN ?_ _ | refine blk_drew ?_ | refine blk_alloc ?_ _)); exact BK402.out) hb); have n3_ := Aside0.mk (blk_below (g := gb403) (o := .cells #[.int .i64 a2_0, .int .i64 a2_1] 36 (0, 0)) (by (with_reducible repeat (first | refine blk_drewN ?_ _ | refine blk_drew ?_ | refine blk_alloc ?_ _)); exact BK403.out) hb); have n4_ := Aside0.mk (below_step (by repeat (first | (with_reducible first | exact HB.out | apply below_alloc | apply pw_below_drewN | apply below_drew1 | refine below_set ?_ GE402.out | refine below_set ?_ GE403.out) | exact HB.out)) hb); clear HO_10; clear HO425; clear BK402; clear BK403; clear HB; have HO_10 := n0_; have HO425 := n1_; have BK402 := n2_; have BK403 := n3_; have HB := n4_; clear n0_ n1_ n2_ n3_ n4_; (try clear hb); (try clear hb2); (try clear hk); (try clear hi)))
            go_ret
            exact ⟨by first | rfl | (simp [errW_none, errW_some] <;> rfl) | (simp [*, errW_none, errW_some] <;> rfl), by repeat (first | (with_reducible first | exact HB.out | apply below_alloc | apply pw_below_drewN | apply below_drew1 | refine below_set ?_ GE402.out | refine below_set ?_ GE403.out) | exact HB.out)⟩
          · replace c35 := Bool.eq_false_iff.mpr c35
            subst c35
            have H1 : (some false) = some r := by rw [if_neg (show ¬ (false = true) by decide)] at H; exact H
            clear H
            have H := H1
            clear H1
            obtain rfl := Option.some.inj H
            go_wp2_with (first | ((with_reducible refine gate_callee (f := 14) rfl ?_); refine goesL_ (some 49) rfl rfl Try.func14 (by kernel_rfl) rfl #[.slice A0 l0.length c0] rfl (by (try simp only [List.map_toArray, List.map_cons, List.map_nil]); first | done | rfl | (simp only [List.length_drop, List.length_take]; rfl)) ?_; (with_reducible refine (laws_toItemS.calls kj15 _ _ l0 t423 _ ?side1 ?side2 A33.out).mono ?_); (case side1 => repeat (first | exact (Kd.C_below HR0.out HB.out) | (with_reducible refine Kd.C_alloc ?_ _) | (with_reducible refine Kd.C_drewN ?_ _) | (with_reducible refine Kd.C_drew ?_))); (case side2 => exact HC0.out); rintro e w39 ⟨v424, rfl, ho0, hb⟩; refine ⟨_, rfl, ?_⟩; have n0_ := Aside0.mk (Kd.R_elder' (by (with_reducible repeat (first | apply Kd.R_alloc | apply Kd.R_drewN | apply Kd.R_drew)); exact HO_10.out) (Kd.R_base ho0) hb); have n1_ := Aside0.mk (Kd.R_lower (Kd.R_new' ho0 (Kd.R_lt (by (with_reducible repeat (first | apply Kd.R_alloc | apply Kd.R_drewN | apply Kd.R_drew)); exact HO_10.out))) (below_size (by repeat (first | (with_reducible first | exact HB.out | apply below_alloc | apply pw_below_drewN | apply below_drew1 | refine below_set ?_ GE402.out | refine below_set ?_ GE403.out) | exact HB.out)))); have n2_ := Aside0.mk (blk_below (g := gb402) (o := .cells #[.int .i64 a1_0, .int .i64 a1_1] 36 (0, 0)) (by (with_reducible repeat (first | refine blk_drewN ?_ _ | refine blk_drew ?_ | refine blk_alloc ?_ _)); exact BK402.out) hb); have n3_ := Aside0.mk (blk_below (g := gb403) (o := .cells #[.int .i64 a2_0, .int .i64 a2_1] 36 (0, 0)) (by (with_reducible repeat (first | refine blk_drewN ?_ _ | refine blk_drew ?_ | refine blk_alloc ?_ _)); exact BK403.out) hb); have n4_ := Aside0.mk (below_step (by repeat (first | (with_reducible first | exact HB.out | apply below_alloc | apply pw_below_drewN | apply below_drew1 | refine below_set ?_ GE402.out | refine below_set ?_ GE403.out) | exact HB.out)) hb); clear HO_10; clear BK402; clear BK403; clear HB; have HO_10 := n0_; have HO425 := n1_; have BK402 := n2_; have BK403 := n3_; have HB := n4_; clear n0_ n1_ n2_ n3_ n4_; (try clear hb); (try clear hb2); (try clear hk); (try clear hi); (try clear ho0); obtain ⟨Ao40, co40, eo40⟩ := Kd.R_slice HO425.out; subst eo40) | ((with_reducible refine gate_callee (f := 16) rfl ?_); refine goesL_ (some 50) rfl rfl Try.func16 (by kernel_rfl) rfl #[.slice Ao29 t414.length co29, .slice Ao40 t423.length co40] rfl (by (try simp only [List.map_toArray, List.map_cons, List.map_nil]); first | done | rfl | (simp only [List.length_drop, List.length_take]; rfl)) ?_; (with_reducible refine (laws_eqItemS.calls kj15 _ _ t414 _ _ t423 false _ ?side1 ?side2 ?side3 ?side4 A34.out).mono ?_); (case side1 => repeat (first | exact (Kd.R_reads' HO_10.out).2.2 | (with_reducible refine Kd.C_alloc ?_ _) | (with_reducible refine Kd.C_drewN ?_ _) | (with_reducible refine Kd.C_drew ?_))); (case side2 => exact (Kd.R_reads' HO_10.out).2.1); (case side3 => repeat (first | exact (Kd.R_reads' HO425.out).2.2 | (with_reducible refine Kd.C_alloc ?_ _) | (with_reducible refine Kd.C_drewN ?_ _) | (with_reducible refine Kd.C_drew ?_))); (case side4 => exact (Kd.R_reads' HO425.out).2.1); rintro e w41 ⟨rfl, hb⟩; refine ⟨_, rfl, ?_⟩; have n0_ := Aside0.mk (Kd.R_below (by (with_reducible repeat (first | apply Kd.R_alloc | apply Kd.R_drewN | apply Kd.R_drew)); exact HO_10.out) hb); have n1_ := Aside0.mk (Kd.R_below (by (with_reducible repeat (first | apply Kd.R_alloc | apply Kd.R_drewN | apply Kd.R_drew)); exact HO425.out) hb); have n2_ := Aside0.mk (blk_below (g := gb402) (o := .cells #[.int .i64 a1_0, .int .i64 a1_1] 36 (0, 0)) (by (with_reducible repeat (first | refine blk_drewN ?_ _ | refine blk_drew ?_ | refine blk_alloc ?_ _)); exact BK402.out) hb); have n3_ := Aside0.mk (blk_below (g := gb403) (o := .cells #[.int .i64 a2_0, .int .i64 a2_1] 36 (0, 0)) (by (with_reducible repeat (first | refine blk_drewN ?_ _ | refine blk_drew ?_ | refine blk_alloc ?_ _)); exact BK403.out) hb); have n4_ := Aside0.mk (below_step (by repeat (first | (with_reducible first | exact HB.out | apply below_alloc | apply pw_below_drewN | apply below_drew1 | refine below_set ?_ GE402.out | refine below_set ?_ GE403.out) | exact HB.out)) hb); clear HO_10; clear HO425; clear BK402; clear BK403; clear HB; have HO_10 := n0_; have HO425 := n1_; have BK402 := n2_; have BK403 := n3_; have HB := n4_; clear n0_ n1_ n2_ n3_ n4_; (try clear hb); (try clear hb2); (try clear hk); (try clear hi)))
            go_ret
            exact ⟨by first | rfl | (simp [errW_none, errW_some] <;> rfl) | (simp [*, errW_none, errW_some] <;> rfl), by repeat (first | (with_reducible first | exact HB.out | apply below_alloc | apply pw_below_drewN | apply below_drew1 | refine below_set ?_ GE402.out | refine below_set ?_ GE403.out) | exact HB.out)⟩

end Go.Proofs.Ytgghcngfleicnaa.Q

namespace Go.Proofs.Ytgghcngfleicnaa.Q
open Go.RowKit Go.Proofs.YtgghcngfleicnaaW.PrintWords Go.Proofs.YtgghcngfleicnaaW.PrintLast Go.Proofs.YtgghcngfleicnaaW.PrintMore
set_option linter.unusedVariables false
set_option linter.unusedSimpArgs false

/-- m is the greatest of S. -/
def IsMax (S : Int → Prop) (m : Int) : Prop := S m ∧ ∀ v, S v → v ≤ m
theorem IsMax.one {S : Int → Prop} {m m' : Int} (h : IsMax S m) (h' : IsMax S m') : m = m' := by
  have h1 := h.2 _ h'.1
  have h2 := h'.2 _ h.1
  omega
theorem IsMax.congr {S S' : Int → Prop} {m : Int} (h : IsMax S m) (hs : ∀ v, S v ↔ S' v) : IsMax S' m := ⟨(hs m).1 h.1, fun v hv => h.2 v ((hs v).2 hv)⟩
theorem IsMax.join {S T : Int → Prop} {m n : Int} (h : IsMax S m) (k : IsMax T n) : IsMax (fun v => S v ∨ T v) (maxI m n) := by
  unfold maxI
  split
  · refine ⟨.inr k.1, fun v hv => ?_⟩
    rcases hv with hv | hv
    · have := h.2 v hv; omega
    · exact k.2 v hv
  · refine ⟨.inl h.1, fun v hv => ?_⟩
    rcases hv with hv | hv
    · exact h.2 v hv
    · have := k.2 v hv; omega
theorem maxI_max {S T : Int → Prop} {m n : Int} {b : Bool} (h : IsMax S m) (k : b = true → IsMax T n) : IsMax (fun v => S v ∨ (b = true ∧ T v)) (if b = true then maxI m n else m) := by
  cases b with
  | true =>
    rw [if_pos rfl]
    exact (h.join (k rfl)).congr (fun v => by simp)
  | false =>
    rw [if_neg (by decide)]
    exact h.congr (fun v => by simp)

/-- b is what some of the items rs are together, a suitcase that holds them all the way. -/
inductive Reach (d0 d1 : Int) : List Item → Sum3 → Prop
  | nil : Reach d0 d1 [] (0, 0, 0)
  | skip (rs : List Item) (x : Item) (b : Sum3) : Reach d0 d1 rs b → Reach d0 d1 (rs ++ [x]) b
  | take (rs : List Item) (x : Item) (b : Sum3) : Reach d0 d1 rs b → holdsC d0 d1 (addI b x) = true → Reach d0 d1 (rs ++ [x]) (addI b x)
theorem reach_snoc {d0 d1 : Int} {rs : List Item} {x : Item} {b : Sum3} : Reach d0 d1 (rs ++ [x]) b ↔ Reach d0 d1 rs b ∨ (∃ b', Reach d0 d1 rs b' ∧ holdsC d0 d1 (addI b' x) = true ∧ b = addI b' x) := by
  constructor
  · intro h
    generalize he : rs ++ [x] = l at h
    cases h with
    | nil => simp at he
    | skip rs' x' b h =>
      obtain ⟨rfl, e2⟩ := List.append_inj' he rfl
      exact .inl h
    | take rs' x' b h hb =>
      obtain ⟨rfl, e2⟩ := List.append_inj' he rfl
      injection e2 with e2
      subst e2
      exact .inr ⟨b, h, hb, rfl⟩
  · rintro (h | ⟨b', h, hb, rfl⟩)
    · exact .skip _ _ _ h
    · exact .take _ _ _ h hb
theorem reach_nil {d0 d1 : Int} {b : Sum3} : Reach d0 d1 [] b ↔ b = (0, 0, 0) := by
  constructor
  · intro h
    generalize he : ([] : List Item) = l at h
    cases h with
    | nil => rfl
    | skip rs' x' b h => simp at he
    | take rs' x' b h hb => simp at he
  · rintro rfl; exact .nil
/-- The greatest value of items i .. and of a list rs that is left, over what goes into the first suitcase. -/
def outV (B : List Item → Int) (items : List Item) (c0 c1 : Int) : Nat → Nat → Sum3 → List Item → Int
  | 0, _, a, rs => a.2.2 + B rs
  | d + 1, i, a, rs => if holdsC c0 c1 (addI a (rd_T54 items (i : Int))) = true then maxI (outV B items c0 c1 d (i + 1) a (rs ++ [rd_T54 items (i : Int)])) (outV B items c0 c1 d (i + 1) (addI a (rd_T54 items (i : Int))) rs) else outV B items c0 c1 d (i + 1) a (rs ++ [rd_T54 items (i : Int)])
theorem twoV_max (items : List Item) (c0 c1 d0 d1 : Int) : ∀ d i (a b : Sum3), IsMax (fun v => (∃ n, (d = n + 1 ∧ (v = twoV items c0 c1 d0 d1 n (i + 1) a b ∨ (holdsC c0 c1 (addI a (rd_T54 items (i : Int))) = true ∧ v = twoV items c0 c1 d0 d1 n (i + 1) (addI a (rd_T54 items (i : Int))) b) ∨ (holdsC d0 d1 (addI b (rd_T54 items (i : Int))) = true ∧ v = twoV items c0 c1 d0 d1 n (i + 1) a (addI b (rd_T54 items (i : Int))))))) ∨ (d = 0 ∧ v = a.2.2 + b.2.2)) (twoV items c0 c1 d0 d1 d i a b) := by
  intro d i a b
  cases d with
  | zero =>
    rw [twoV]
    exact ⟨.inr ⟨rfl, rfl⟩, fun v hv => by rcases hv with ⟨n, hn, _⟩ | ⟨_, hv⟩; omega; omega⟩
  | succ d =>
    rw [twoV]
    have one : ∀ m : Int, IsMax (fun v => v = m) m := fun m => ⟨rfl, fun v hv => by omega⟩
    have h1 := maxI_max (b := holdsC c0 c1 (addI a (rd_T54 items (i : Int)))) (one (twoV items c0 c1 d0 d1 d (i + 1) a b)) (fun _ => one (twoV items c0 c1 d0 d1 d (i + 1) (addI a (rd_T54 items (i : Int))) b))
    have h2 := maxI_max (b := holdsC d0 d1 (addI b (rd_T54 items (i : Int)))) h1 (fun _ => one (twoV items c0 c1 d0 d1 d (i + 1) a (addI b (rd_T54 items (i : Int)))))
    refine h2.congr (fun v => ?_)
    constructor
    · rintro ((h | h) | h)
      · exact .inl ⟨d, rfl, .inl h⟩
      · exact .inl ⟨d, rfl, .inr (.inl h)⟩
      · exact .inl ⟨d, rfl, .inr (.inr h)⟩
    · rintro (⟨n, hn, h⟩ | ⟨h, _⟩)
      · obtain rfl : n = d := by omega
        rcases h with h | h | h
        · exact .inl (.inl h)
        · exact .inl (.inr h)
        · exact .inr h
      · omega
theorem outV_max (B : List Item → Int) (items : List Item) (c0 c1 d0 d1 : Int) (P : List Item → Prop) (hP : ∀ rs, P rs → IsMax (fun v => ∃ b, Reach d0 d1 rs b ∧ v = b.2.2) (B rs)) :
    ∀ d i (a : Sum3) (rs : List Item), (∀ (m : Nat) rs', d = m → rs.length ≤ rs'.length → rs'.length ≤ rs.length + m → (∀ y ∈ rs', y ∈ rs ∨ ∃ j : Nat, i ≤ j ∧ j < i + d ∧ y = rd_T54 items (j : Int)) → P rs') → IsMax (fun v => ∃ b, Reach d0 d1 rs b ∧ v = twoV items c0 c1 d0 d1 d i a b) (outV B items c0 c1 d i a rs) := by
  intro d
  induction d with
  | zero =>
    intro i a rs hp
    have h := hP rs (hp 0 rs rfl (Nat.le_refl _) (Nat.le_refl _) (fun y hy => .inl hy))
    rw [outV]
    obtain ⟨⟨b, hb, e⟩, hmax⟩ := h
    refine ⟨⟨b, hb, by rw [twoV, e]⟩, fun v hv => ?_⟩
    obtain ⟨b', hb', e'⟩ := hv
    rw [twoV] at e'
    have := hmax _ ⟨b', hb', rfl⟩
    omega
  | succ d ih =>
    intro i a rs hp
    rw [outV]
    generalize hx : rd_T54 items (i : Int) = x
    have h1 := ih (i + 1) a (rs ++ [x]) (fun m rs' hm h2 h3 h4 => hp (m + 1) rs' (by omega) (by simp at h2; omega) (by simp at h3; omega) (fun y hy => by
      rcases h4 y hy with h | ⟨j, hj1, hj2, hj3⟩
      · rw [List.mem_append, List.mem_singleton] at h
        rcases h with h | h
        · exact .inl h
        · exact .inr ⟨i, Nat.le_refl _, by omega, by rw [h, hx]⟩
      · exact .inr ⟨j, by omega, by omega, hj3⟩))
    have h2 := ih (i + 1) (addI a x) rs (fun m rs' hm h2 h3 h4 => hp (m + 1) rs' (by omega) h2 (by omega) (fun y hy => by
      rcases h4 y hy with h | ⟨j, hj1, hj2, hj3⟩
      · exact .inl h
      · exact .inr ⟨j, by omega, by omega, hj3⟩))
    have h3 := maxI_max (b := holdsC c0 c1 (addI a x)) h1 (fun _ => h2)
    refine ⟨?_, fun v hv => ?_⟩
    · obtain ⟨S1, S2⟩ := h3
      -- attained: the value is one of twoV's, and twoV's greatest is not greater
      have key : ∀ b v, Reach d0 d1 rs b → v = twoV items c0 c1 d0 d1 (d + 1) i a b → v ≤ (if holdsC c0 c1 (addI a x) = true then maxI (outV B items c0 c1 d (i + 1) a (rs ++ [x])) (outV B items c0 c1 d (i + 1) (addI a x) rs) else outV B items c0 c1 d (i + 1) a (rs ++ [x])) := fun b v hb hv => by
        have hm := (twoV_max items c0 c1 d0 d1 (d + 1) i a b).1
        rw [← hv, hx] at hm
        rcases hm with ⟨n, hn, h⟩ | ⟨h, _⟩
        · obtain rfl : n = d := by omega
          rcases h with h | h | h
          · exact S2 v (.inl ⟨b, .skip _ _ _ hb, h⟩)
          · exact S2 v (.inr ⟨h.1, b, hb, h.2⟩)
          · exact S2 v (.inl ⟨addI b x, .take _ _ _ hb h.1, h.2⟩)
        · omega
      have low : ∀ v, ((∃ b, Reach d0 d1 (rs ++ [x]) b ∧ v = twoV items c0 c1 d0 d1 d (i + 1) a b) ∨ (holdsC c0 c1 (addI a x) = true ∧ ∃ b, Reach d0 d1 rs b ∧ v = twoV items c0 c1 d0 d1 d (i + 1) (addI a x) b)) → ∃ b, Reach d0 d1 rs b ∧ v ≤ twoV items c0 c1 d0 d1 (d + 1) i a b := fun v hv => by
        rcases hv with ⟨b, hb, hv⟩ | ⟨hc, b, hb, hv⟩
        · rcases reach_snoc.1 hb with hb | ⟨b', hb', hh, rfl⟩
          · exact ⟨b, hb, (twoV_max items c0 c1 d0 d1 (d + 1) i a b).2 v (.inl ⟨d, rfl, .inl hv⟩)⟩
          · exact ⟨b', hb', (twoV_max items c0 c1 d0 d1 (d + 1) i a b').2 v (.inl ⟨d, rfl, .inr (.inr (by rw [hx]; exact ⟨hh, hv⟩))⟩)⟩
        · exact ⟨b, hb, (twoV_max items c0 c1 d0 d1 (d + 1) i a b).2 v (.inl ⟨d, rfl, .inr (.inl (by rw [hx]; exact ⟨hc, hv⟩))⟩)⟩
      obtain ⟨b, hb, hle⟩ := low _ S1
      have hge := key b _ hb rfl
      exact ⟨b, hb, by omega⟩
    · obtain ⟨b, hb, hv⟩ := hv
      have hm := (twoV_max items c0 c1 d0 d1 (d + 1) i a b).1
      rw [← hv, hx] at hm
      rcases hm with ⟨n, hn, h⟩ | ⟨h, _⟩
      · obtain rfl : n = d := by omega
        rcases h with h | h | h
        · exact h3.2 v (.inl ⟨b, .skip _ _ _ hb, h⟩)
        · exact h3.2 v (.inr ⟨h.1, b, hb, h.2⟩)
        · exact h3.2 v (.inl ⟨addI b x, .take _ _ _ hb h.1, h.2⟩)
      · omega
end Go.Proofs.Ytgghcngfleicnaa.Q

namespace Go.Proofs.Ytgghcngfleicnaa.Q
open Go.RowKit Go.Proofs.YtgghcngfleicnaaW.PrintWords Go.Proofs.YtgghcngfleicnaaW.PrintLast Go.Proofs.YtgghcngfleicnaaW.PrintMore
set_option linter.unusedVariables false
set_option linter.unusedSimpArgs false

theorem su_fold (items : List Item) : ∀ (L : List (List Int)) (s : List (List Int) × Int), s.2 ≤ (L.foldl (suStep items) s).2 ∧ (∀ c ∈ L, (tot items c).2.2 ≤ (L.foldl (suStep items) s).2) ∧ ((L.foldl (suStep items) s).2 = s.2 ∨ ∃ c ∈ L, (L.foldl (suStep items) s).2 = (tot items c).2.2) := by
  intro L
  induction L with
  | nil => intro s; exact ⟨Int.le_refl _, fun c hc => (by cases hc), .inl rfl⟩
  | cons ch L ih =>
    intro s
    rw [List.foldl_cons]
    obtain ⟨h1, h2, h3⟩ := ih (suStep items s ch)
    have hs : (suStep items s ch).2 = s.2 ∧ (tot items ch).2.2 ≤ s.2 ∨ (suStep items s ch).2 = (tot items ch).2.2 ∧ s.2 < (tot items ch).2.2 := by
      unfold suStep
      split
      · exact .inr ⟨rfl, by assumption⟩
      · split
        · exact .inl ⟨rfl, by omega⟩
        · exact .inl ⟨rfl, by omega⟩
    refine ⟨by omega, fun c hc => ?_, ?_⟩
    · rcases List.mem_cons.1 hc with rfl | hc
      · omega
      · exact h2 c hc
    · rcases h3 with h3 | ⟨c, hc, h3⟩
      · rcases hs with hs | hs
        · exact .inl (by omega)
        · exact .inr ⟨ch, by simp, by omega⟩
      · exact .inr ⟨c, by simp [hc], h3⟩
theorem rd_at (rs : List Item) (i : Nat) (h : i < rs.length) : rd_T54 rs (i : Int) = rs[i] := by
  unfold rd_T54
  rw [Int.toNat_natCast, List.getD_eq_getElem?_getD, List.getElem?_eq_getElem h]; rfl
theorem take_snoc (rs : List Item) (i : Nat) (h : i < rs.length) : rs.take (i + 1) = rs.take i ++ [rd_T54 rs (i : Int)] := by
  rw [rd_at rs i h, List.take_add_one, List.getElem?_eq_getElem h]; rfl
theorem tot_addI {rs : List Item} (hL : Light rs) (ch : List Int) (i : Nat) (hin : ∀ x ∈ ch, 0 ≤ x ∧ x < (i : Int)) (hl : ch.length ≤ i) (hi : i < rs.length) : tot rs (ch ++ [(i : Int)]) = addI (tot rs ch) (rd_T54 rs (i : Int)) := by
  have h10 := hL.1
  have h := tot_add hL ch (i : Int) (inside_of hin (by omega)) ⟨by omega, by omega⟩ (by omega)
  unfold addI
  exact Prod.ext h.1 (Prod.ext h.2.1 h.2.2)
theorem look_reach {rs : List Item} (hL : Light rs) (d0 d1 : Int) : ∀ d ch i, i + d = rs.length → (∀ x ∈ ch, 0 ≤ x ∧ x < (i : Int)) → ch.length ≤ i → Reach d0 d1 (rs.take i) (tot rs ch) → ∀ c ∈ ch :: lookV rs d0 d1 d ch i, Reach d0 d1 rs (tot rs c) := by
  intro d
  induction d with
  | zero =>
    intro ch i hd hin hl hr c hc
    have hc2 : c = ch := by simpa [lookV] using hc
    subst hc2
    rwa [List.take_of_length_le (by omega)] at hr
  | succ d ih =>
    intro ch i hd hin hl hr c hc
    have hi : i < rs.length := by omega
    have h1 := ih ch (i + 1) (by omega) (fun x hx => by have := hin x hx; omega) (by omega) (by rw [take_snoc rs i hi]; exact .skip _ _ _ hr)
    rcases List.mem_cons.1 hc with rfl | hc
    · exact h1 _ (by simp)
    · unfold lookV at hc
      rcases List.mem_append.1 hc with hc | hc
      · split at hc
        · rename_i hf
          refine ih (ch ++ [(i : Int)]) (i + 1) (by omega) (inside_snoc (items := rs) hin) (by simp; omega) ?_ c hc
          rw [take_snoc rs i hi, tot_addI hL ch i hin hl hi]
          refine .take _ _ _ hr ?_
          rw [← tot_addI hL ch i hin hl hi]
          exact hf
        · cases hc
      · exact h1 c (by simp [hc])
theorem reach_look {rs : List Item} (hL : Light rs) (d0 d1 : Int) : ∀ i, i ≤ rs.length → ∀ b, Reach d0 d1 (rs.take i) b → ∃ ch, (∀ x ∈ ch, 0 ≤ x ∧ x < (i : Int)) ∧ ch.length ≤ i ∧ tot rs ch = b ∧ ∀ c ∈ ch :: lookV rs d0 d1 (rs.length - i) ch i, c ∈ choicesL rs d0 d1 := by
  intro i
  induction i with
  | zero =>
    intro _ b hb
    rw [List.take_zero, reach_nil] at hb
    subst hb
    exact ⟨[], fun x hx => (by cases hx), by simp, rfl, fun c hc => hc⟩
  | succ i ih =>
    intro hi b hb
    have hlt : i < rs.length := by omega
    have hsub : ∀ ch c, c ∈ ch :: lookV rs d0 d1 (rs.length - (i + 1)) ch (i + 1) → c ∈ ch :: lookV rs d0 d1 (rs.length - i) ch i := fun ch c hc => by
      rw [show rs.length - i = (rs.length - (i + 1)) + 1 by omega, lookV]
      rcases List.mem_cons.1 hc with rfl | hc
      · simp
      · simp [hc]
    rw [take_snoc rs i hlt] at hb
    rcases reach_snoc.1 hb with hb | ⟨b', hb', hh, rfl⟩
    · obtain ⟨ch, h1, h2, h3, h4⟩ := ih (by omega) b hb
      exact ⟨ch, fun x hx => by have := h1 x hx; omega, by omega, h3, fun c hc => h4 c (hsub ch c hc)⟩
    · obtain ⟨ch, h1, h2, h3, h4⟩ := ih (by omega) b' hb'
      have ht := tot_addI hL ch i h1 h2 hlt
      rw [h3] at ht
      refine ⟨ch ++ [(i : Int)], inside_snoc (items := rs) h1, by simp; omega, ht, fun c hc => h4 c ?_⟩
      have hf : fitsC rs d0 d1 (ch ++ [(i : Int)]) = true := by
        have : fitsC rs d0 d1 (ch ++ [(i : Int)]) = holdsC d0 d1 (tot rs (ch ++ [(i : Int)])) := rfl
        rw [this, ht]; exact hh
      rw [show rs.length - i = (rs.length - (i + 1)) + 1 by omega, lookV, if_pos hf]
      rw [List.mem_cons, List.mem_append]
      exact .inr (.inl hc)
theorem best_reach {rs : List Item} (hL : Light rs) (d0 d1 : Int) : IsMax (fun v => ∃ b, Reach d0 d1 rs b ∧ v = b.2.2) (bestL rs d0 d1).2 := by
  obtain ⟨h1, h2, h3⟩ := su_fold rs (choicesL rs d0 d1) ([], 0)
  have hr := look_reach hL d0 d1 rs.length [] 0 (by omega) (fun x hx => (by cases hx)) (by simp) (by rw [List.take_zero]; exact .nil)
  refine ⟨?_, fun v hv => ?_⟩
  · rcases h3 with h3 | ⟨c, hc, h3⟩
    · exact ⟨(0, 0, 0), hr [] (by simp), h3⟩
    · exact ⟨tot rs c, hr c hc, h3⟩
  · obtain ⟨b, hb, rfl⟩ := hv
    obtain ⟨ch, _, _, ht, hc⟩ := reach_look hL d0 d1 rs.length (Nat.le_refl _) b (by rw [List.take_of_length_le (Nat.le_refl _)]; exact hb)
    have := h2 ch (hc ch (by simp))
    rw [ht] at this
    exact this
theorem restL_snoc (items : List Item) (ch : List Int) : ∀ d i, restL items ch (d + 1) i = restL items ch d i ++ (if ch.contains ((i + d : Nat) : Int) = true then [] else [rd_T54 items ((i + d : Nat) : Int)]) := by
  intro d
  induction d with
  | zero => intro i; simp [restL]
  | succ d ih =>
    intro i
    show (if ch.contains (i : Int) = true then [] else [rd_T54 items (i : Int)]) ++ restL items ch (d + 1) (i + 1) = _
    rw [ih (i + 1), ← List.append_assoc, show i + 1 + d = i + (d + 1) by omega]
    rfl
theorem restL_same (items : List Item) (ch ch' : List Int) : ∀ d i, (∀ j : Nat, i ≤ j → j < i + d → ch.contains (j : Int) = ch'.contains (j : Int)) → restL items ch d i = restL items ch' d i := by
  intro d
  induction d with
  | zero => intro i _; rfl
  | succ d ih =>
    intro i h
    rw [restL, restL, h i (Nat.le_refl _) (by omega), ih (i + 1) (fun j h1 h2 => h j (by omega) (by omega))]
theorem contains_not {ch : List Int} {i : Nat} (hin : ∀ x ∈ ch, 0 ≤ x ∧ x < (i : Int)) : ch.contains (i : Int) = false := by
  rw [List.contains_eq_mem, decide_eq_false_iff_not]
  intro h
  have := hin _ h
  omega
theorem out_look (B : List Item → Int) {items : List Item} (hL : Light items) (c0 c1 : Int) : ∀ d ch i, i + d = items.length → (∀ x ∈ ch, 0 ≤ x ∧ x < (i : Int)) → ch.length ≤ i →
    IsMax (fun v => ∃ c ∈ ch :: lookV items c0 c1 d ch i, v = (tot items c).2.2 + B (restL items c items.length 0)) (outV B items c0 c1 d i (tot items ch) (restL items ch i 0)) := by
  intro d
  induction d with
  | zero =>
    intro ch i hd hin hl
    rw [outV, show i = items.length by omega]
    exact ⟨⟨ch, by simp, rfl⟩, fun v hv => by
      obtain ⟨c, hc, e⟩ := hv
      have hc2 : c = ch := by simpa [lookV] using hc
      subst hc2
      omega⟩
  | succ d ih =>
    intro ch i hd hin hl
    have hi : i < items.length := by omega
    have h1 := ih ch (i + 1) (by omega) (fun x hx => by have := hin x hx; omega) (by omega)
    have h2 := ih (ch ++ [(i : Int)]) (i + 1) (by omega) (inside_snoc (items := items) hin) (by simp; omega)
    have e1 : restL items ch (i + 1) 0 = restL items ch i 0 ++ [rd_T54 items (i : Int)] := by
      rw [restL_snoc, Nat.zero_add, contains_not hin, if_neg (by decide)]
    have e2 : restL items (ch ++ [(i : Int)]) (i + 1) 0 = restL items ch i 0 := by
      rw [restL_snoc, Nat.zero_add, if_pos (by simp), List.append_nil]
      refine restL_same items _ _ _ _ (fun j _ hj => ?_)
      have : (i : Int) ≠ (j : Int) := by omega
      simp only [List.contains_eq_mem, List.mem_append, List.mem_singleton, decide_eq_decide]
      constructor
      · rintro (h | h)
        · exact h
        · omega
      · exact .inl
    have e3 := tot_addI hL ch i hin hl hi
    rw [e1] at h1
    rw [e2, e3] at h2
    rw [outV]
    have h3 := maxI_max (b := holdsC c0 c1 (addI (tot items ch) (rd_T54 items (i : Int)))) h1 (fun _ => h2)
    refine h3.congr (fun v => ?_)
    have hf : fitsC items c0 c1 (ch ++ [(i : Int)]) = holdsC c0 c1 (addI (tot items ch) (rd_T54 items (i : Int))) := by rw [← e3]; rfl
    rw [← hf, lookV]
    constructor
    · rintro (⟨c, hc, e⟩ | ⟨hfit, c, hc, e⟩)
      · refine ⟨c, ?_, e⟩
        rcases List.mem_cons.1 hc with rfl | hc
        · simp
        · simp [hc]
      · refine ⟨c, ?_, e⟩
        rw [if_pos hfit, List.mem_cons, List.mem_append]
        exact .inr (.inl hc)
    · rintro ⟨c, hc, e⟩
      rcases List.mem_cons.1 hc with rfl | hc
      · exact .inl ⟨c, by simp, e⟩
      · rcases List.mem_append.1 hc with hc | hc
        · split at hc
          · rename_i hfit
            exact .inr ⟨hfit, c, hc, e⟩
          · cases hc
        · exact .inl ⟨c, by simp [hc], e⟩
theorem cases_fold (items : List Item) (d0 d1 : Int) : ∀ (L : List (List Int)) (m : Int), (∀ c ∈ L, wrap64 ((tot items c).2.2 + (bestL (restL items c items.length 0) d0 d1).2) = (tot items c).2.2 + (bestL (restL items c items.length 0) d0 d1).2) →
    m ≤ L.foldl (casesStep items d0 d1) m ∧ (∀ c ∈ L, (tot items c).2.2 + (bestL (restL items c items.length 0) d0 d1).2 ≤ L.foldl (casesStep items d0 d1) m) ∧ (L.foldl (casesStep items d0 d1) m = m ∨ ∃ c ∈ L, L.foldl (casesStep items d0 d1) m = (tot items c).2.2 + (bestL (restL items c items.length 0) d0 d1).2) := by
  intro L
  induction L with
  | nil => intro m _; exact ⟨Int.le_refl _, fun c hc => (by cases hc), .inl rfl⟩
  | cons ch L ih =>
    intro m hw
    rw [List.foldl_cons]
    obtain ⟨h1, h2, h3⟩ := ih (casesStep items d0 d1 m ch) (fun c hc => hw c (by simp [hc]))
    have e : casesStep items d0 d1 m ch = mostZ m ((tot items ch).2.2 + (bestL (restL items ch items.length 0) d0 d1).2) := by unfold casesStep; rw [hw ch (by simp)]
    rw [e] at h1 h2 h3 ⊢
    generalize hv : (tot items ch).2.2 + (bestL (restL items ch items.length 0) d0 d1).2 = v at *
    have hm : mostZ m v = m ∧ v ≤ m ∨ mostZ m v = v ∧ m ≤ v := by unfold mostZ; split; exact .inl ⟨rfl, by omega⟩; exact .inr ⟨rfl, by omega⟩
    refine ⟨by omega, fun c hc => ?_, ?_⟩
    · rcases List.mem_cons.1 hc with rfl | hc
      · omega
      · exact h2 c hc
    · rcases h3 with h3 | ⟨c, hc, h3⟩
      · rcases hm with hm | hm
        · exact .inl (by omega)
        · exact .inr ⟨ch, by simp, by omega⟩
      · exact .inr ⟨c, by simp [hc], h3⟩
theorem light_rest {items : List Item} (hL : Light items) {rs : List Item} (hn : rs.length ≤ items.length) (h : ∀ y ∈ rs, ∃ j : Nat, j < items.length ∧ y = rd_T54 items (j : Int)) : Light rs := by
  refine ⟨by have := hL.1; omega, fun i h0 h1 => ?_⟩
  obtain ⟨j, hj, e⟩ := h _ (rd_item rs i h0 h1)
  rw [e]
  exact hL.2 (j : Int) (by omega) (by omega)
theorem restL_mem (items : List Item) (ch : List Int) : ∀ d i y, y ∈ restL items ch d i → ∃ j : Nat, j < i + d ∧ y = rd_T54 items (j : Int) := by
  intro d
  induction d with
  | zero => intro i y h; cases h
  | succ d ih =>
    intro i y h
    rw [restL, List.mem_append] at h
    rcases h with h | h
    · split at h
      · cases h
      · exact ⟨i, by omega, by simpa using h⟩
    · obtain ⟨j, hj, e⟩ := ih (i + 1) y h
      exact ⟨j, by omega, e⟩
theorem bestL_small {rs : List Item} (hL : Light rs) (d0 d1 : Int) : 0 ≤ (bestL rs d0 d1).2 ∧ (bestL rs d0 d1).2 ≤ 2000 := by
  obtain ⟨h1, h2, h3⟩ := su_fold rs (choicesL rs d0 d1) ([], 0)
  have e : (bestL rs d0 d1).2 = ((choicesL rs d0 d1).foldl (suStep rs) ([], 0)).2 := rfl
  rw [e]
  refine ⟨h1, ?_⟩
  rcases h3 with h3 | ⟨c, hc, h3⟩
  · rw [h3]; decide
  · have hi := choicesL_inside rs d0 d1 c hc
    have := tot_bound hL c.length c rfl hi.1 (by have := hL.1; omega)
    have := hL.1
    rw [h3]; omega
/-- What the program finds is what the reference finds. -/
theorem twoCases_eq {items : List Item} (hL : Light items) (c0 c1 d0 d1 : Int) : twoV items c0 c1 d0 d1 items.length 0 (0, 0, 0) (0, 0, 0) = (choicesL items c0 c1).foldl (casesStep items d0 d1) 0 := by
  have hP : ∀ rs, Light rs → IsMax (fun v => ∃ b, Reach d0 d1 rs b ∧ v = b.2.2) (bestL rs d0 d1).2 := fun rs h => best_reach h d0 d1
  have h1 := outV_max (fun rs => (bestL rs d0 d1).2) items c0 c1 d0 d1 Light hP items.length 0 (0, 0, 0) [] (fun m rs' hm h2 h3 h4 => light_rest hL (by simp at h3; omega) (fun y hy => by
    rcases h4 y hy with h | ⟨j, _, hj, e⟩
    · cases h
    · exact ⟨j, by omega, e⟩))
  have h2 : IsMax (fun v => v = twoV items c0 c1 d0 d1 items.length 0 (0, 0, 0) (0, 0, 0)) (outV (fun rs => (bestL rs d0 d1).2) items c0 c1 items.length 0 (0, 0, 0) []) := h1.congr (fun v => by
    constructor
    · rintro ⟨b, hb, e⟩
      rw [reach_nil] at hb
      subst hb
      exact e
    · intro e; exact ⟨_, .nil, e⟩)
  have h3 := out_look (fun rs => (bestL rs d0 d1).2) hL c0 c1 items.length [] 0 (by omega) (fun x hx => (by cases hx)) (by simp)
  have hsm : ∀ c ∈ choicesL items c0 c1, (0 ≤ (tot items c).2.2 ∧ (tot items c).2.2 ≤ 2000) ∧ 0 ≤ (bestL (restL items c items.length 0) d0 d1).2 ∧ (bestL (restL items c items.length 0) d0 d1).2 ≤ 2000 := fun c hc => by
    have hi := choicesL_inside items c0 c1 c hc
    have := tot_bound hL c.length c rfl hi.1 (by have := hL.1; omega)
    have := hL.1
    have hr := bestL_small (light_rest hL (restL_length items c items.length 0) (fun y hy => by
      obtain ⟨j, hj, e⟩ := restL_mem items c items.length 0 y hy
      exact ⟨j, by omega, e⟩)) d0 d1
    omega
  obtain ⟨f1, f2, f3⟩ := cases_fold items d0 d1 (choicesL items c0 c1) 0 (fun c hc => by have := hsm c hc; exact w64 (by omega) (by omega))
  have h4 : IsMax (fun v => ∃ c ∈ [] :: lookV items c0 c1 items.length [] 0, v = (tot items c).2.2 + (bestL (restL items c items.length 0) d0 d1).2) ((choicesL items c0 c1).foldl (casesStep items d0 d1) 0) := by
    refine ⟨?_, fun v hv => ?_⟩
    · rcases f3 with f3 | ⟨c, hc, f3⟩
      · have h5 := f2 [] (by simp [choicesL])
        have h6 := hsm [] (by simp [choicesL])
        exact ⟨[], by simp, by omega⟩
      · exact ⟨c, hc, f3⟩
    · obtain ⟨c, hc, rfl⟩ := hv
      exact f2 c hc
  have h5 := h2.1
  have h6 : outV (fun rs => (bestL rs d0 d1).2) items c0 c1 items.length 0 (0, 0, 0) [] = (choicesL items c0 c1).foldl (casesStep items d0 d1) 0 := IsMax.one h3 h4
  omega
theorem twoCases_both (l0 : List Item) (a1_0 a1_1 a2_0 a2_1 : Int) (hn : l0.length ≤ 10000000) : ∃ r : Int × Bool, Ev (fun _ => spec_TwoCases.f l0 a1_0 a1_1 a2_0 a2_1) r ∧ Ev (fun _ => impl_TwoCases.f l0 a1_0 a1_1 a2_0 a2_1) r := by
  have e1 := suAsked_eq l0 a1_0 a1_1 hn (l0.length + 1) (by omega)
  have e2 := suAsked_eq l0 a2_0 a2_1 hn (l0.length + 1) (by omega)
  obtain ⟨b, hb⟩ : ∃ b, impl_arePacked.f l0 [⟨a1_0, a1_1⟩, ⟨a2_0, a2_1⟩] = some b := ⟨_, rfl⟩
  cases b with
  | true =>
    have hg : impl_arePacked.f l0 [⟨a1_0, a1_1⟩] = some true ∧ impl_arePacked.f l0 [⟨a2_0, a2_1⟩] = some true := by
      unfold impl_arePacked.f at hb ⊢
      injection hb with hb
      simp only [List.all_cons, List.all_nil, Bool.and_true, Bool.and_eq_true] at hb
      simp [hb]
    have h1 := packed_good hg.1
    have hL := light_of h1.1 h1.2.2.1
    have htb : twoB l0 = true := by
      unfold twoB
      simp only [Bool.and_eq_true, decide_eq_true_eq, List.all_eq_true]
      refine ⟨h1.1, fun x hx => ?_⟩
      have := h1.2.2.1 x hx
      unfold okItem at this
      simp only [Bool.and_eq_true, decide_eq_true_eq] at this
      omega
    refine ⟨(twoV l0 a1_0 a1_1 a2_0 a2_1 l0.length 0 (0, 0, 0) (0, 0, 0), true), ⟨0, fun k _ => ?_⟩, ⟨0, fun k _ => ?_⟩⟩
    · show spec_TwoCases.f _ _ _ _ _ = _
      unfold spec_TwoCases.f
      rw [e1, hg.1, Option.bind_some, if_pos rfl, e2, hg.2, Option.bind_some, if_pos rfl, if_pos h1.1, twoCases_eq hL]
    · show impl_TwoCases.f _ _ _ _ _ = _
      unfold impl_TwoCases.f
      rw [hb, Option.bind_some, if_pos rfl, if_pos htb]
  | false =>
    refine ⟨(0, false), ⟨0, fun k _ => ?_⟩, ⟨0, fun k _ => ?_⟩⟩
    · show spec_TwoCases.f _ _ _ _ _ = _
      unfold spec_TwoCases.f
      obtain ⟨b1, h1⟩ : ∃ b, impl_arePacked.f l0 [⟨a1_0, a1_1⟩] = some b := ⟨_, rfl⟩
      obtain ⟨b2, h2⟩ : ∃ b, impl_arePacked.f l0 [⟨a2_0, a2_1⟩] = some b := ⟨_, rfl⟩
      rw [e1, h1, e2, h2, Option.bind_some, Option.bind_some]
      cases b1 <;> cases b2
      · rfl
      · rfl
      · rfl
      · exfalso
        unfold impl_arePacked.f at hb h1 h2
        injection hb with hb
        injection h1 with h1
        injection h2 with h2
        simp only [List.all_cons, List.all_nil, Bool.and_true, Bool.and_eq_true] at hb h1 h2
        simp [h1, h2] at hb
    · show impl_TwoCases.f _ _ _ _ _ = _
      unfold impl_TwoCases.f
      rw [hb, Option.bind_some, if_neg (by decide)]
end Go.Proofs.Ytgghcngfleicnaa.Q
