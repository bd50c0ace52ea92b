/-
  Part 4 of the proof of FnExactCountChoices: what Go functions that it reaches compute, each shown by a walk of its code, and plain laws on numbers and lists.
  CONDITIONS: each theorem's own, as stated.
-/
import Derived.Test.YtgghcngfleicnaaZFnExactCountChoices3
import Derived.Laws.EntriesVeiled
import Derived.Test.YtgghcngfleicnaaZFnExactCountChoices1
import Derived.Test.YtgghcngfleicnaaZFnExactCountChoices2
namespace Go.Proofs.Ytgghcngfleicnaa.Q
open Go.RowKit Go.Shelf Go.Proofs.YtgghcngfleicnaaW.PrintWords Go.Proofs.YtgghcngfleicnaaW.PrintLast Go.Proofs.YtgghcngfleicnaaW.PrintMore
set_option linter.unusedVariables false
set_option linter.unusedSimpArgs false

theorem Two.later {σ : Type} {items : List Item} {S : Nat → Prop} {I : σ → World → Prop} {base : Nat} {w w1 : World} {ga : Nat} {bda fra : Array Value} {ge : Nat} {bde fre : Array Value} {accept : Int × Int × Int → Bool} {step : σ → List Int → σ}
    (T : Two items S I base w ga bda fra ge bde fre accept step) (h : Fr S w w1) : Two items S I base w1 ga bda fra ge bde fre accept step :=
  ⟨T.ea, T.ee, T.st, fun W x hF => T.acc W x (h.trans hF), fun s W v ch hF => T.each s W v ch (h.trans hF)⟩

/-- All lists of items, in order. -/
def allV (n : Nat) : List (List Int) := [] :: loopV n [] 0

set_option maxRecDepth 100000 in
set_option maxHeartbeats 4000000 in
theorem choices_calls {σ : Type} (items : List Item) (A0 : Option Addr) (c0 : Nat) (S : Nat → Prop) (I : σ → World → Prop) (base : Nat) (w : World) (ga : Nat) (bda fra : Array Value) (ge : Nat) (bde fre : Array Value) (accept : Int × Int × Int → Bool) (step : σ → List Int → σ) (s : σ)
    (hn : items.length ≤ 1000) (T : Two items S I base w ga bda fra ge bde fre accept step) (hb : base ≤ w.heap.size) (hSl : ∀ k, S k → k < w.heap.size)
    (hC : ∀ W, Fr S w W → Kd.C k54 W A0 items.length items) (hc0 : items.length ≤ c0) (hI : I s w) :
    Calls Try.prog 64 #[.slice A0 items.length c0, .func (.func ga) bda fra, .func (.func ge) bde fre] w fun e w' => e = .returned (.tuple #[]) ∧ I ((allV items.length).foldl (visit items accept step) s) w' ∧ Fr S w w' := by
  have x1 := Boxed.new w 25 (.slice A0 items.length c0)
  obtain ⟨w1, e1⟩ : ∃ w1, w.alloc (.cells #[.slice A0 items.length c0] 25) = w1 := ⟨_, rfl⟩
  have b1 : Below w.heap.size w w1 := by rw [← e1]; exact (Below.refl _ w).alloc (Nat.le_refl _) _
  rw [e1] at x1
  have x2 := Boxed.new w1 60 (.func (.func ga) bda fra)
  have y1 := x1.alloc (.cells #[.func (.func ga) bda fra] 60)
  obtain ⟨w2, e2⟩ : ∃ w2, w1.alloc (.cells #[.func (.func ga) bda fra] 60) = w2 := ⟨_, rfl⟩
  have b2 : Below w.heap.size w w2 := by rw [← e2]; exact b1.alloc b1.size _
  rw [e2] at x2 y1
  have x3 := Boxed.new w2 81 (.func (.func ge) bde fre)
  have y2 := x2.alloc (.cells #[.func (.func ge) bde fre] 81)
  have u1 := y1.alloc (.cells #[.func (.func ge) bde fre] 81)
  obtain ⟨w3, e3⟩ : ∃ w3, w2.alloc (.cells #[.func (.func ge) bde fre] 81) = w3 := ⟨_, rfl⟩
  have b3 : Below w.heap.size w w3 := by rw [← e3]; exact b2.alloc b2.size _
  rw [e3] at x3 y2 u1
  obtain ⟨fv, hfv⟩ : ∃ fv : Value, fv = .func (.func 78) #[] #[.pointer (some ⟨w.heap.size, 0, none⟩), .pointer (some ⟨w1.heap.size, 0, none⟩), .pointer (some ⟨w2.heap.size, 0, none⟩), .pointer (some ⟨w3.heap.size, 0, none⟩)] := ⟨_, rfl⟩
  have x4 := Boxed.new w3 90 fv
  have y3 := x3.alloc (.cells #[fv] 90)
  have u2 := y2.alloc (.cells #[fv] 90)
  have v1 := u1.alloc (.cells #[fv] 90)
  obtain ⟨w4, e4⟩ : ∃ w4, w3.alloc (.cells #[fv] 90) = w4 := ⟨_, rfl⟩
  have b4 : Below w.heap.size w w4 := by rw [← e4]; exact b3.alloc b3.size _
  rw [e4] at x4 y3 u2 v1
  have F4 : Fr S w w4 := Fr.of b4
  have nS : ∀ k, w.heap.size ≤ k → ¬ S k := fun k hk hs => by have := hSl k hs; omega
  have hcall := choose_calls items A0 c0 S I base w4 ga bda fra ge bde fre accept step w.heap.size w1.heap.size (w2.heap.size) (w3.heap.size) hn (T.later F4) (Nat.le_trans hb b4.size) (fun k hk => Nat.lt_of_lt_of_le (hSl k hk) b4.size) (fun W h => hC W (F4.trans h)) hc0 v1 u2 y3 (hfv ▸ x4) (nS _ (Nat.le_refl _)) (nS _ b1.size) (nS _ b2.size) (nS _ b3.size)
    items.length s w4 (.slice none 0 0) [] 0 (by omega) (Fr.refl _ _) (T.st _ _ _ hI b4) (Kd.R_nil _ _ _ _ _) (fun x hx => by cases hx) (by simp)
  have HCALL := Aside0.mk hcall
  have q4 := x4.cell
  have HF4 := Aside0.mk F4
  clear hcall x1 x2 x3 x4 y1 y2 y3 u1 u2 v1 b1 b2 b3 b4 T hC hI F4
  subst hfv
  go_enter Try.func64, Try.ntmps64
  go_wp2_with (go_at_call 78; refine HCALL.out.mono ?_; rintro e w5 ⟨rfl, hI5, hF5⟩)
  go_end0
  exact ⟨rfl, hI5, HF4.out.trans hF5⟩

/-! bestOf -/
abbrev Best := List Int × Int × Int
def bestStep (items : List Item) (sc : List Int → Int × Int × Int → Int) (s : Best) (ch : List Int) : Best :=
  if s.2.1 < sc ch (tot items ch) then (ch, sc ch (tot items ch), 1) else if sc ch (tot items ch) = s.2.1 then (s.1, s.2.1, wrap64 (s.2.2 + 1)) else s
/-- What the score is. -/
def ScoreOk (g : Nat) (sc : List Int → Int × Int × Int → Int) : Prop :=
  ∀ (W : World) (A : Option Addr) (c : Nat) (ch : List Int) (x : Int × Int × Int), Kd.C kInt W A ch.length ch → ch.length ≤ c →
    Calls Try.prog g #[.slice A ch.length c, valTot x] W fun e w' => e = .returned (.int .i64 (sc ch x)) ∧ Below W.heap.size W w'
/-- The three variables of bestOf. -/
def Three (base Bb Bm Bk : Nat) (s : Best) (W : World) : Prop :=
  (∃ v, Boxed W Bb 29 v ∧ Kd.R kInt 3 W base (fun k => ¬ (k = Bb ∨ k = Bm ∨ k = Bk)) v s.1) ∧ Boxed W Bm 3 (.int .i64 s.2.1) ∧ Boxed W Bk 3 (.int .i64 s.2.2)
theorem Three.later {base Bb Bm Bk : Nat} {s : Best} {W W' : World} (h : Three base Bb Bm Bk s W) (hb : Below W.heap.size W W') : Three base Bb Bm Bk s W' := by
  obtain ⟨⟨v, h1, h2⟩, h3, h4⟩ := h
  exact ⟨⟨v, box_below h1 hb, Kd.R_below h2 hb⟩, box_below h3 hb, box_below h4 hb⟩

set_option maxRecDepth 100000 in
set_option maxHeartbeats 4000000 in
theorem bestOf1_calls (items : List Item) (g : Nat) (sc : List Int → Int × Int × Int → Int) (eg : ∀ args w, (callFunc g args).run Try.prog w = .ok (.enter g args) w) (hsc : ScoreOk g sc) (base Bs Bb Bm Bk : Nat) (hbm : Bb ≠ Bm) (hbk : Bb ≠ Bk) (hmk : Bm ≠ Bk)
    (s : Best) (W : World) (v : Value) (ch : List Int) (hs : Boxed W Bs 69 (.func (.func g) #[] #[])) (hI : Three base Bb Bm Bk s W) (hv : Kd.R kInt 3 W base (fun k => ¬ (k = Bb ∨ k = Bm ∨ k = Bk)) v ch) :
    Calls Try.prog 75 #[v, valTot (tot items ch), .pointer (some ⟨Bs, 0, none⟩), .pointer (some ⟨Bm, 0, none⟩), .pointer (some ⟨Bb, 0, none⟩), .pointer (some ⟨Bk, 0, none⟩)] W
      fun e w' => e = .returned (.tuple #[]) ∧ Three base Bb Bm Bk (bestStep items sc s ch) w' ∧ Fr (fun k => k = Bb ∨ k = Bm ∨ k = Bk) W w' := by
  obtain ⟨A1, c1, rfl, hc1, hC1⟩ := Kd.R_reads hv
  have HI := Aside0.mk hI
  have HV := Aside0.mk hv
  have HC1 := Aside0.mk hC1
  have XS := Aside0.mk hs
  clear hI hv hC1 hs
  have q1 := (XS.out.alloc (.cells #[.int .i64 (tot items ch).1, .int .i64 (tot items ch).2.1, .int .i64 (tot items ch).2.2] 54)).cell
  go_enter Try.func75, Try.ntmps75
  have hcall := hsc (W.alloc (.cells #[.int .i64 (tot items ch).1, .int .i64 (tot items ch).2.1, .int .i64 (tot items ch).2.2] 54)) A1 c1 ch (tot items ch) (Kd.C_below HC1.out ((Below.refl _ W).alloc (Nat.le_refl _) _)) hc1
  have B1 := Aside0.mk ((Below.refl _ W).alloc (Nat.le_refl _) (.cells #[.int .i64 (tot items ch).1, .int .i64 (tot items ch).2.1, .int .i64 (tot items ch).2.2] 54))
  generalize hn : sc ch (tot items ch) = n at hcall
  have HN := Aside0.mk hn
  clear hn
  have hbm2 := Ne.symm hbm
  have hbk2 := Ne.symm hbk
  have hmk2 := Ne.symm hmk
  obtain ⟨b, m, k⟩ := s
  by_cases h1 : m < n
  · go_wp2_with (go_at_fn g; refine hcall.mono ?_; rintro e w2 ⟨rfl, hb2⟩; have B2 := Aside0.mk (B1.out.trans (hb2.mono B1.out.size)); obtain ⟨⟨vb, xb, xr⟩, xm, xk⟩ := HI.out.later B2.out; have qm := xm.cell; have fm := xm.frozen; have fb := xb.frozen; have fk := xk.frozen; have qb := xb.cell; have qk := xk.cell)
    go_end0
    have hF : Fr (fun k => k = Bb ∨ k = Bm ∨ k = Bk) W (((w2.setCell ⟨Bb, 0, none⟩ (.slice A1 ch.length c1)).setCell ⟨Bm, 0, none⟩ (.int .i64 n)).setCell ⟨Bk, 0, none⟩ (.int .i64 1)) :=
      (((Fr.of B2.out).set _ _ (.inl (.inl rfl))).set _ _ (.inl (.inr (.inl rfl)))).set _ _ (.inl (.inr (.inr rfl)))
    refine ⟨rfl, ?_, hF⟩
    unfold bestStep
    rw [HN.out, if_pos h1]
    exact ⟨⟨_, ((xb.set _).other hbm _).other hbk _, R_fr HV.out hF (fun _ h => h)⟩, ((xm.other hbm2 _).set _).other hmk _, ((xk.other hbk2 _).other hmk2 _).set _⟩
  · by_cases h2 : n = m
    · go_wp2_with (go_at_fn g; refine hcall.mono ?_; rintro e w2 ⟨rfl, hb2⟩; have B2 := Aside0.mk (B1.out.trans (hb2.mono B1.out.size)); obtain ⟨⟨vb, xb, xr⟩, xm, xk⟩ := HI.out.later B2.out; have qm := xm.cell; have fm := xm.frozen; have fb := xb.frozen; have fk := xk.frozen; have qb := xb.cell; have qk := xk.cell)
      go_end0
      have hF : Fr (fun k => k = Bb ∨ k = Bm ∨ k = Bk) W (w2.setCell ⟨Bk, 0, none⟩ (.int .i64 (wrap64 (k + 1)))) := (Fr.of B2.out).set _ _ (.inl (.inr (.inr rfl)))
      refine ⟨rfl, ?_, hF⟩
      unfold bestStep
      rw [HN.out, if_neg (by simp only; omega), if_pos h2]
      exact ⟨⟨_, xb.other hbk _, R_fr xr (Fr.set (Fr.refl _ w2) _ _ (.inl (.inr (.inr rfl)))) (fun _ h => h)⟩, xm.other hmk _, xk.set _⟩
    · go_wp2_with (go_at_fn g; refine hcall.mono ?_; rintro e w2 ⟨rfl, hb2⟩; have B2 := Aside0.mk (B1.out.trans (hb2.mono B1.out.size)); obtain ⟨⟨vb, xb, xr⟩, xm, xk⟩ := HI.out.later B2.out; have qm := xm.cell; have fm := xm.frozen; have fb := xb.frozen; have fk := xk.frozen; have qb := xb.cell; have qk := xk.cell)
      go_end0
      refine ⟨rfl, ?_, Fr.of B2.out⟩
      unfold bestStep
      rw [HN.out, if_neg (by simp only; omega), if_neg (by simp only; omega)]
      exact ⟨⟨_, xb, xr⟩, xm, xk⟩
end Go.Proofs.Ytgghcngfleicnaa.Q

namespace Go.Proofs.Ytgghcngfleicnaa.Q
open Go.RowKit Go.Shelf Go.Proofs.YtgghcngfleicnaaW.PrintWords Go.Proofs.YtgghcngfleicnaaW.PrintLast Go.Proofs.YtgghcngfleicnaaW.PrintMore
set_option linter.unusedVariables false
set_option linter.unusedSimpArgs false

/-- Does a suitcase hold so much? -/
def holdsC (a b : Int) (x : Int × Int × Int) : Bool := decide (x.1 ≤ a) && decide (x.2.1 ≤ b)
theorem holds_f (a b : Int) (x : Int × Int × Int) : impl_Case_holds.f a b x.1 x.2.1 x.2.2 = some (holdsC a b x) := by
  unfold impl_Case_holds.f holdsC
  by_cases h : x.1 ≤ a <;> simp [h]
/-- The first choice with the greatest score, this, and how many have it. -/
def bestAll (items : List Item) (a b : Int) (sc : List Int → Int × Int × Int → Int) : Best := (allV items.length).foldl (visit items (holdsC a b) (bestStep items sc)) ([], -1, 0)

set_option maxRecDepth 100000 in
set_option maxHeartbeats 4000000 in
theorem bestOf_calls (items : List Item) (A0 : Option Addr) (c0 : Nat) (a b : Int) (g : Nat) (sc : List Int → Int × Int × Int → Int) (w : World) (eg : ∀ args w, (callFunc g args).run Try.prog w = .ok (.enter g args) w) (hsc : ScoreOk g sc)
    (hn : items.length ≤ 1000) (hr0 : Kd.C k54 w A0 items.length items) (hc0 : items.length ≤ c0) (r : Best) (hr : bestAll items a b sc = r) :
    Calls Try.prog 51 #[.slice A0 items.length c0, .agg #[.int .i64 a, .int .i64 b], .func (.func g) #[] #[]] w fun e w' => ∃ v0_ : Value, e = .returned (.tuple #[v0_, .int .i64 r.2.1, .int .i64 r.2.2]) ∧ Kd.R kInt 3 w' w.heap.size (fun _ => True) v0_ r.1 ∧ Below w.heap.size w w' := by
  have HR0 := Aside0.mk hr0
  have HSC := Aside0.mk hsc
  have HRR := Aside0.mk hr
  clear hr0 hsc hr
  go_enter Try.func51, Try.ntmps51
  go_wp2_with fail
  have x1 := (((Boxed.new (w.alloc (.cells #[.int .i64 a, .int .i64 b] 39)) 69 (.func (.func g) #[] #[])).alloc (.cells #[.slice none 0 0] 29)).alloc (.cells #[.int .i64 (-1)] 3)).alloc (.cells #[.int .i64 0] 3)
  have x2 := ((Boxed.new ((w.alloc (.cells #[.int .i64 a, .int .i64 b] 39)).alloc (.cells #[.func (.func g) #[] #[]] 69)) 29 (.slice none 0 0)).alloc (.cells #[.int .i64 (-1)] 3)).alloc (.cells #[.int .i64 0] 3)
  have x3 := (Boxed.new (((w.alloc (.cells #[.int .i64 a, .int .i64 b] 39)).alloc (.cells #[.func (.func g) #[] #[]] 69)).alloc (.cells #[.slice none 0 0] 29)) 3 (.int .i64 (-1))).alloc (.cells #[.int .i64 0] 3)
  have x4 := Boxed.new ((((w.alloc (.cells #[.int .i64 a, .int .i64 b] 39)).alloc (.cells #[.func (.func g) #[] #[]] 69)).alloc (.cells #[.slice none 0 0] 29)).alloc (.cells #[.int .i64 (-1)] 3)) 3 (.int .i64 0)
  have b5 : Below w.heap.size w (((((w.alloc (.cells #[.int .i64 a, .int .i64 b] 39)).alloc (.cells #[.func (.func g) #[] #[]] 69)).alloc (.cells #[.slice none 0 0] 29)).alloc (.cells #[.int .i64 (-1)] 3)).alloc (.cells #[.int .i64 0] 3)) :=
    (((((Below.refl _ w).alloc (by simp) _).alloc (by simp) _).alloc (by simp <;> omega) _).alloc (by simp <;> omega) _).alloc (by simp <;> omega) _
  have z5 : (((((w.alloc (.cells #[.int .i64 a, .int .i64 b] 39)).alloc (.cells #[.func (.func g) #[] #[]] 69)).alloc (.cells #[.slice none 0 0] 29)).alloc (.cells #[.int .i64 (-1)] 3)).alloc (.cells #[.int .i64 0] 3)).heap.size = w.heap.size + 5 := by simp
  generalize (((((w.alloc (.cells #[.int .i64 a, .int .i64 b] 39)).alloc (.cells #[.func (.func g) #[] #[]] 69)).alloc (.cells #[.slice none 0 0] 29)).alloc (.cells #[.int .i64 (-1)] 3)).alloc (.cells #[.int .i64 0] 3)) = W5 at x1 x2 x3 x4 b5 z5 ⊢
  simp only [show ∀ (W : World) (o : Obj), (W.alloc o).heap.size = W.heap.size + 1 from fun W o => by simp] at x1 x2 x3 x4
  have h3 : Three w.heap.size (w.heap.size + 1 + 1) (w.heap.size + 1 + 1 + 1) (w.heap.size + 1 + 1 + 1 + 1) ([], -1, 0) W5 := ⟨⟨_, x2, Kd.R_nil _ _ _ _ _⟩, x3, x4⟩
  have hT : Two items (fun k => k = w.heap.size + 1 + 1 ∨ k = w.heap.size + 1 + 1 + 1 ∨ k = w.heap.size + 1 + 1 + 1 + 1) (Three w.heap.size (w.heap.size + 1 + 1) (w.heap.size + 1 + 1 + 1) (w.heap.size + 1 + 1 + 1 + 1)) w.heap.size W5
      61 #[.agg #[.int .i64 a, .int .i64 b]] #[] 75 #[] #[.pointer (some ⟨w.heap.size + 1, 0, none⟩), .pointer (some ⟨w.heap.size + 1 + 1 + 1, 0, none⟩), .pointer (some ⟨w.heap.size + 1 + 1, 0, none⟩), .pointer (some ⟨w.heap.size + 1 + 1 + 1 + 1, 0, none⟩)] (holdsC a b) (bestStep items sc) := by
    refine ⟨enters_of Try.func61 (by kernel_rfl) rfl, enters_of Try.func75 (by kernel_rfl) rfl, fun s W W' h hb => h.later hb, fun W x _ => ?_, fun s W v ch hF hI hv _ _ _ => ?_⟩
    · exact impl_Case_holds.calls a b x.1 x.2.1 x.2.2 _ W (holds_f a b x)
    · exact bestOf1_calls items g sc eg HSC.out w.heap.size (w.heap.size + 1) (w.heap.size + 1 + 1) (w.heap.size + 1 + 1 + 1) (w.heap.size + 1 + 1 + 1 + 1) (by omega) (by omega) (by omega) s W v ch (box_fr x1 hF (by omega)) hI hv
  have hcall := choices_calls items A0 c0 _ _ w.heap.size W5 _ _ _ _ _ _ _ _ ([], -1, 0) hn hT b5.size (fun k hk => by rw [z5]; omega)
    (fun W h => Kd.C_below HR0.out (b5.trans (h.below (fun k hk => by omega) b5.size))) hc0 h3
  rw [show (allV items.length).foldl (visit items (holdsC a b) (bestStep items sc)) ([], -1, 0) = r from HRR.out] at hcall
  have B5 := Aside0.mk b5
  clear x1 x2 x3 x4 h3 hT b5 z5
  go_wp2_with (go_at_call 64; refine hcall.mono ?_; rintro e w6 ⟨rfl, ⟨⟨v, xb, xr⟩, xm, xk⟩, hF6⟩)
  obtain ⟨A1, c1, rfl⟩ := Kd.R_slice xr
  have q1 := xb.cell
  have q2 := xm.cell
  have q3 := xk.cell
  have HX := Aside0.mk xr
  clear xr
  go_region
  all_goals
    go_wp2
    go_ret3
    exact ⟨_, rfl, Kd.R_mono HX.out (fun _ _ => trivial), (B5.out.trans (hF6.below (fun k hk => by omega) B5.out.size)).drew⟩

/-- The totals' value. -/
theorem scoreValue_ok : ScoreOk 77 (fun _ x => x.2.2) := by
  intro W A c ch x hC hc
  go_enter Try.func77, Try.ntmps77
  go_wp2
  go_ret
  exact ⟨rfl, (Below.refl _ W).alloc (Nat.le_refl _) _⟩

def impl_byValue.f (l0 : List Item) (a1_0 a1_1 : Int) : Option (List Int × Int × Int) := if l0.length ≤ 1000 then some (bestAll l0 a1_0 a1_1 (fun _ x => x.2.2)) else none
set_option maxHeartbeats 2000000 in
theorem impl_byValue.calls (A0 : Option Addr) (c0 : Nat) (l0 : List Item) (a1_0 a1_1 : Int) (r1 : List Int) (r2 r3 : Int) (w : World) (hr0 : Kd.C k54 w A0 l0.length l0) (hc0 : l0.length ≤ c0) (h : impl_byValue.f l0 a1_0 a1_1 = some (r1, r2, r3)) :
    Calls Try.prog 62 #[.slice A0 l0.length c0, .agg #[.int .i64 a1_0, .int .i64 a1_1]] w fun e w' => ∃ v0_ : Value, e = .returned (.tuple #[v0_, .int .i64 r2, .int .i64 r3]) ∧ Kd.R (Kd.int .i64) 3 w' w.heap.size (fun _ => True) v0_ r1 ∧ Below w.heap.size w w' := by
  have hn : l0.length ≤ 1000 := by
    unfold impl_byValue.f at h
    split at h
    · assumption
    · cases h
  have hr : bestAll l0 a1_0 a1_1 (fun _ x => x.2.2) = (r1, r2, r3) := by
    unfold impl_byValue.f at h
    rw [if_pos hn] at h
    injection h
  have hcall := bestOf_calls l0 A0 c0 a1_0 a1_1 77 (fun _ x => x.2.2) (w.alloc (.cells #[.int .i64 a1_0, .int .i64 a1_1] 39)) (enters_of Try.func77 (by kernel_rfl) rfl) scoreValue_ok hn (Kd.C_below hr0 ((Below.refl _ w).alloc (Nat.le_refl _) _)) hc0 _ hr
  clear hr0 h hr
  go_enter Try.func62, Try.ntmps62
  go_wp2_with (go_at_call 51; refine hcall.mono ?_; rintro e w' ⟨v, rfl, hR, hb⟩; obtain ⟨A1, c1, rfl⟩ := Kd.R_slice hR)
  go_ret3
  exact ⟨_, rfl, Kd.R_lower hR (by simp), ((Below.refl _ w).alloc (Nat.le_refl _) _).trans (hb.mono (by simp))⟩
end Go.Proofs.Ytgghcngfleicnaa.Q

namespace Go.Proofs.Ytgghcngfleicnaa.Q
open Go.RowKit Go.Shelf Go.Proofs.YtgghcngfleicnaaW.PrintWords Go.Proofs.YtgghcngfleicnaaW.PrintLast Go.Proofs.YtgghcngfleicnaaW.PrintMore
set_option linter.unusedVariables false
set_option linter.unusedSimpArgs false

theorem caseRow (W : World) (a b : Int) (t : Nat) : Kd.C k39 (W.alloc (.cells #[.int .i64 a, .int .i64 b] t)) (some ⟨W.heap.size, 0, none⟩) [(⟨a, b⟩ : Case)].length [(⟨a, b⟩ : Case)] := by
  have hnew := heap_alloc_new W (.cells #[.int .i64 a, .int .i64 b] t)
  refine ⟨rfl, by simp, fun _ => ⟨_, rfl, fun j p hj => ?_⟩⟩
  have hj0 : j = 0 := by have := (List.getElem?_eq_some_iff.1 hj).1; simp at this; omega
  subst hj0
  have hp : (⟨a, b⟩ : Case) = p := by simpa using hj
  subst hp
  refine ⟨_, rfl, k39_mk _ _, fun i u hu => ?_⟩
  rcases i with _ | _ | i
  · have : Value.int .i64 a = u := by simpa using hu
    subst this
    exact (blk_cell hnew 0).trans rfl
  · have : Value.int .i64 b = u := by simpa using hu
    subst this
    exact (blk_cell hnew 1).trans rfl
  · simp at hu

theorem scoreZero_ok : ScoreOk 52 (fun _ _ => 0) := by
  intro W A c ch x hC hc
  go_enter Try.func52, Try.ntmps52
  go_wp2
  go_ret
  exact ⟨rfl, (Below.refl _ W).alloc (Nat.le_refl _) _⟩

def impl_CountChoices.f (l0 : List Item) (a1_0 a1_1 : Int) : Option (Int × Bool) :=
  (impl_arePacked.f l0 [⟨a1_0, a1_1⟩]).bind fun t => if t = true then (if l0.length ≤ 1000 then some ((bestAll l0 a1_0 a1_1 (fun _ _ => 0)).2.2, true) else none) else some (0, false)
set_option maxHeartbeats 2000000 in
theorem impl_CountChoices.calls (A0 : Option Addr) (c0 : Nat) (l0 : List Item) (a1_0 a1_1 : Int) (r1 : Int) (r2 : Bool) (w : World) (hr0 : Kd.C k54 w A0 l0.length l0) (hc0 : l0.length ≤ c0) (h : impl_CountChoices.f l0 a1_0 a1_1 = some (r1, r2)) :
    Calls Try.prog 28 #[.slice A0 l0.length c0, .agg #[.int .i64 a1_0, .int .i64 a1_1]] w fun e w' => e = .returned (.tuple #[.int .i64 r1, .bool r2]) ∧ Below w.heap.size w w' := by
  unfold impl_CountChoices.f at h
  obtain ⟨t, ht, h⟩ := Option.bind_eq_some_iff.mp h
  have HT := Aside0.mk ht
  have HR := Aside0.mk hr0
  have B2 := Aside0.mk ((((Below.refl w.heap.size w).alloc (Nat.le_refl _) (.cells #[.int .i64 a1_0, .int .i64 a1_1] 39))).alloc (by simp) (.cells #[.int .i64 a1_0, .int .i64 a1_1] 39))
  have BK : Aside0 (((w.alloc (.cells #[.int .i64 a1_0, .int .i64 a1_1] 39)).alloc (.cells #[.int .i64 a1_0, .int .i64 a1_1] 39)).heap[w.heap.size]? = some (.cells #[.int .i64 a1_0, .int .i64 a1_1] 39 (0, 0))) :=
    ⟨(Below.heap_alloc _ _ _ (by simp)).trans (heap_alloc_new w _)⟩
  clear ht hr0
  cases t with
  | false =>
    have hr : r1 = 0 ∧ r2 = false := by simpa [eq_comm] using h
    obtain ⟨rfl, rfl⟩ := hr
    clear h
    go_enter Try.func28, Try.ntmps28
    go_wp2_with (go_at_call 48; refine (impl_arePacked.calls A0 c0 l0 (some ⟨w.heap.size + 1, 0, none⟩) 1 [⟨a1_0, a1_1⟩] _ _ (Kd.C_below HR.out B2.out) hc0 ?hrow (Nat.le_refl _) HT.out).mono ?_; (case hrow => simpa using caseRow (w.alloc (.cells #[.int .i64 a1_0, .int .i64 a1_1] 39)) a1_0 a1_1 39); rintro e w' ⟨rfl, hb⟩)
    go_ret2
    exact ⟨rfl, B2.out.trans (hb.mono B2.out.size)⟩
  | true =>
    have hn : l0.length ≤ 1000 := by
      by_cases hn : l0.length ≤ 1000
      · exact hn
      · simp [hn] at h
    have hr : (bestAll l0 a1_0 a1_1 (fun _ _ => 0)).2.2 = r1 ∧ true = r2 := by simpa [hn] using h
    obtain ⟨hr, rfl⟩ := hr
    have HRR := Aside0.mk hr
    clear h hr
    have eg := enters_of Try.func52 (by kernel_rfl) rfl
    go_enter Try.func28, Try.ntmps28
    go_wp2_with (first
      | (go_at_call 48; refine (impl_arePacked.calls A0 c0 l0 (some ⟨w.heap.size + 1, 0, none⟩) 1 [⟨a1_0, a1_1⟩] _ _ (Kd.C_below HR.out B2.out) hc0 ?hrow (Nat.le_refl _) HT.out).mono ?_; (case hrow => simpa using caseRow (w.alloc (.cells #[.int .i64 a1_0, .int .i64 a1_1] 39)) a1_0 a1_1 39); rintro e w' ⟨rfl, hb⟩; have B3 := Aside0.mk (B2.out.trans (hb.mono B2.out.size)); have bk := blk_cell (blk_below BK.out hb); have bk0 := (bk 0).trans rfl; have bk1 := (bk 1).trans rfl; clear bk)
      | (go_at_call 51; refine (bestOf_calls l0 A0 c0 a1_0 a1_1 _ (fun _ _ => 0) _ eg scoreZero_ok hn (Kd.C_below HR.out B3.out) hc0 _ rfl).mono ?_; rintro e w6 ⟨v, rfl, hR, hb6⟩; rw [HRR.out]; obtain ⟨A1, c1, rfl⟩ := Kd.R_slice hR))
    go_ret2
    exact ⟨rfl, B3.out.trans (hb6.mono B3.out.size)⟩
end Go.Proofs.Ytgghcngfleicnaa.Q

namespace Go.Proofs.Ytgghcngfleicnaa.Q
open Go.RowKit Go.Proofs.YtgghcngfleicnaaW.PrintWords Go.Proofs.YtgghcngfleicnaaW.PrintLast Go.Proofs.YtgghcngfleicnaaW.PrintMore
attribute [local go_sem] max2_int min2_int max_two min_two max_three min_three max_four min_four   -- for this text's walks alone
set_option linter.unusedVariables false
set_option linter.unusedSimpArgs false

/-! ### laws_FnExactCountChoices: function 6 -/
def laws_FnExactCountChoices.j0 : Nat → List (S56) → List (S54) → Bool → Option (Bool)
  | 0, _, _, _ => none
  | k + 1, x0, x8, x40 => if x40 = true then (some false) else ((laws_toItemS.f k x0).bind fun t316 => ((laws_eqItemS.f k x8 t316).bind fun t319 => (if t319 = true then (some true) else (some false))))
def laws_FnExactCountChoices.f (k : Nat) (l0 : List (S56)) (a1_0 : Int) (a1_1 : Int) : Option (Bool) := (laws_szItemS.f l0 1048576).bind fun t301 => (if t301 < 0 then (some true) else ((laws_toItemS.f k l0).bind fun t302 => ((laws_toCase.f a1_0 a1_1).bind fun bt305 => ((spec_CountChoices.f k t302 bt305.1 bt305.2).bind fun bt307 => ((laws_toItemS.f k l0).bind fun t309 => ((laws_toCase.f a1_0 a1_1).bind fun bt312 => ((impl_CountChoices.f t309 bt312.1 bt312.2).bind fun bt314 => (if bt314.1 = bt307.1 then (laws_FnExactCountChoices.j0 k l0 t309 (bt314.2 != bt307.2)) else (laws_FnExactCountChoices.j0 k l0 t309 true)))))))))
theorem laws_FnExactCountChoices.mono_l : ∀ k, (∀ y0 y1 y2, LeO (laws_FnExactCountChoices.j0 k y0 y1 y2) (laws_FnExactCountChoices.j0 (k + 1) y0 y1 y2))
  | 0 => fun _ _ _ r h => by simp [laws_FnExactCountChoices.j0] at h
  | k + 1 => by
    have ih0 := laws_FnExactCountChoices.mono_l k
    · intro y0 y1 y2
      unfold laws_FnExactCountChoices.j0
      repeat' first
      | (with_reducible exact ih0 _ _ _)
      | (with_reducible exact laws_eqItemS.mono _ _ _)
      | (with_reducible exact laws_toItemS.mono _ _)
      | (with_reducible exact spec_CountChoices.mono _ _ _ _)
      | (with_reducible exact LeO.refl _)
      | (with_reducible exact LeO.none _)
      | (with_reducible refine LeO.ite ?_ ?_)
      | (with_reducible refine LeO.bind ?_ (fun _ => ?_))
      | exact ih0 _ _ _
      | exact laws_eqItemS.mono _ _ _
      | exact laws_toItemS.mono _ _
      | exact spec_CountChoices.mono _ _ _ _
      | exact LeO.none _
      | refine LeO.ite ?_ ?_
      | refine LeO.bind ?_ (fun _ => ?_)
theorem laws_FnExactCountChoices.mono : ∀ a0 a1 a2 k, LeO (laws_FnExactCountChoices.f k a0 a1 a2) (laws_FnExactCountChoices.f (k + 1) a0 a1 a2) := by
  intro a0 a1 a2 k
  have ih0 := laws_FnExactCountChoices.mono_l k
  unfold laws_FnExactCountChoices.f
  repeat' first
      | (with_reducible exact ih0 _ _ _)
      | (with_reducible exact laws_eqItemS.mono _ _ _)
      | (with_reducible exact laws_toItemS.mono _ _)
      | (with_reducible exact spec_CountChoices.mono _ _ _ _)
      | (with_reducible exact LeO.refl _)
      | (with_reducible exact LeO.none _)
      | (with_reducible refine LeO.ite ?_ ?_)
      | (with_reducible refine LeO.bind ?_ (fun _ => ?_))
      | exact ih0 _ _ _
      | exact laws_eqItemS.mono _ _ _
      | exact laws_toItemS.mono _ _
      | exact spec_CountChoices.mono _ _ _ _
      | exact LeO.none _
      | refine LeO.ite ?_ ?_
      | refine LeO.bind ?_ (fun _ => ?_)
def laws_FnExactCountChoices.T5 : Bool × List (List Nat × List Nat) := (true, [([], []), ([0], [0]), ([], []), ([2, 1], [2]), ([1, 3, 3], [1, 3]), ([4], [4]), ([5], [5]), ([5], [5]), ([6, 4, 0, 1, 2, 3, 4, 5, 6], [6]), ([7, 8, 0, 1, 2, 3, 4, 5, 6, 7, 8], [7])])
def laws_FnExactCountChoices.B5 : List Nat := [0, 1, 0, 7, 15, 31, 63, 63, 127, 511]
theorem laws_FnExactCountChoices.tab5 : rtab .any (opsOf Try.f6 5) = laws_FnExactCountChoices.T5 := by kernel_rfl
theorem laws_FnExactCountChoices.bits5 : waitsOk laws_FnExactCountChoices.T5.2 laws_FnExactCountChoices.B5 = true := by kernel_rfl
set_option maxHeartbeats 8000000 in
set_option maxRecDepth 100000 in
theorem laws_FnExactCountChoices.calls (k : Nat) (A0 : Option Addr) (c0 : Nat) (l0 : List (S56)) (a1_0 : Int) (a1_1 : Int) (r : Bool) (w : World) (hr0 : Kd.C k56 w A0 l0.length l0) (hc0 : l0.length ≤ c0) (h : laws_FnExactCountChoices.f k l0 a1_0 a1_1 = some r) :
    Calls Try.prog 6 #[.slice A0 l0.length c0, .agg #[.int .i64 a1_0, .int .i64 a1_1]] w fun e w' => e = .returned (.bool r) ∧ Below w.heap.size w w' := by
  have hu36 := Try.underlying36
  have HR0 := Aside0.mk hr0
  have HC0 := Aside0.mk hc0
  clear hr0 hc0
  have HB := Aside0.mk (Below.refl w.heap.size w)
  have H : ((laws_szItemS.f l0 1048576).bind fun t301 => (if t301 < 0 then (some true) else ((laws_toItemS.f k l0).bind fun t302 => ((laws_toCase.f a1_0 a1_1).bind fun bt305 => ((spec_CountChoices.f k t302 bt305.1 bt305.2).bind fun bt307 => ((laws_toItemS.f k l0).bind fun t309 => ((laws_toCase.f a1_0 a1_1).bind fun bt312 => ((impl_CountChoices.f t309 bt312.1 bt312.2).bind fun bt314 => (if bt314.1 = bt307.1 then (laws_FnExactCountChoices.j0 k l0 t309 (bt314.2 != bt307.2)) else (laws_FnExactCountChoices.j0 k l0 t309 true)))))))))) = some r := h
  clear h
  replace H := Option.bind_eq_some_iff.mp H
  obtain ⟨t301, A30, H⟩ := H
  replace H : (if t301 < 0 then (some true) else ((laws_toItemS.f k l0).bind fun t302 => ((laws_toCase.f a1_0 a1_1).bind fun bt305 => ((spec_CountChoices.f k t302 bt305.1 bt305.2).bind fun bt307 => ((laws_toItemS.f k l0).bind fun t309 => ((laws_toCase.f a1_0 a1_1).bind fun bt312 => ((impl_CountChoices.f t309 bt312.1 bt312.2).bind fun bt314 => (if bt314.1 = bt307.1 then (laws_FnExactCountChoices.j0 k l0 t309 (bt314.2 != bt307.2)) else (laws_FnExactCountChoices.j0 k l0 t309 true))))))))) = some r := H
  have A3 := Aside0.mk A30
  clear A30
  by_cases c4 : t301 < 0
  · rw [if_pos c4] at H
    have c4b0 : decide (t301 < 0) = true := decide_eq_true c4
    clear c4
    obtain rfl := Option.some.inj H
    go_enter Try.func6, Try.ntmps6
    go_wp2_with (first | ((with_reducible refine gate_dst (N := 3) rfl ?_); refine box_event ?hg (N := 3) ?hd (cs := #[.int .i64 a1_0, .int .i64 a1_1]) (t := 36) ?hr ?_; (case hd => rfl); (case hg => rfl); (case hr => first | (go_simp; done) | (go_simp; rfl)); intro gb300 hg w5 hbox hb; have n0_ := Aside0.mk (below_step (by repeat (first | (with_reducible first | exact HB.out | apply below_alloc | apply pw_below_drewN | apply below_drew1) | exact HB.out)) hb); have n1_ := Aside0.mk (hbox); have n2_ := Aside0.mk ((by rw [hg]; exact (below_size (by repeat (first | (with_reducible first | exact HB.out | apply below_alloc | apply pw_below_drewN | apply below_drew1) | exact HB.out))) : w.heap.size ≤ gb300)); have n3_ := Aside0.mk ((by rw [hg]; exact (below_size (by repeat (first | (with_reducible first | exact HB.out | apply below_alloc | apply pw_below_drewN | apply below_drew1) | exact HB.out))) : w.heap.size ≤ gb300)); clear HB; have HB := n0_; have BK300 := n1_; have GW300 := n2_; have GE300 := n3_; clear n0_ n1_ n2_ n3_; clear hb hbox hg) | ((with_reducible refine gate_callee (f := 12) rfl ?_); refine goesL_ (some 13) rfl rfl Try.func12 (by kernel_rfl) rfl #[.slice A0 l0.length c0, .int .i64 1048576] rfl (by (try simp only [List.map_toArray, List.map_cons, List.map_nil]); first | done | rfl | (simp only [List.length_drop, List.length_take]; rfl)) ?_; (with_reducible refine (laws_szItemS.calls _ _ l0 1048576 t301 _ ?side1 ?side2 A3.out).mono ?_); (case side1 => repeat (first | exact (Kd.C_below HR0.out HB.out) | (with_reducible refine Kd.C_alloc ?_ _) | (with_reducible refine Kd.C_drewN ?_ _) | (with_reducible refine Kd.C_drew ?_))); (case side2 => exact HC0.out); rintro e w' ⟨rfl, ⟨nd, rfl⟩⟩; refine ⟨_, rfl, ?_⟩))
    go_ret
    exact ⟨by first | rfl | (simp [errW_none, errW_some] <;> rfl) | (simp [*, errW_none, errW_some] <;> rfl), by repeat (first | (with_reducible first | exact HB.out | apply below_alloc | apply pw_below_drewN | apply below_drew1 | refine below_set ?_ GE300.out) | exact HB.out)⟩
  · rw [if_neg c4] at H
    have c4b0 : decide (t301 < 0) = false := decide_eq_false c4
    clear c4
    replace H := Option.bind_eq_some_iff.mp H
    obtain ⟨t302, A60, H⟩ := H
    replace H : ((laws_toCase.f a1_0 a1_1).bind fun bt305 => ((spec_CountChoices.f k t302 bt305.1 bt305.2).bind fun bt307 => ((laws_toItemS.f k l0).bind fun t309 => ((laws_toCase.f a1_0 a1_1).bind fun bt312 => ((impl_CountChoices.f t309 bt312.1 bt312.2).bind fun bt314 => (if bt314.1 = bt307.1 then (laws_FnExactCountChoices.j0 k l0 t309 (bt314.2 != bt307.2)) else (laws_FnExactCountChoices.j0 k l0 t309 true))))))) = some r := H
    have A6 := Aside0.mk A60
    clear A60
    replace H := Option.bind_eq_some_iff.mp H
    obtain ⟨⟨t305, t306⟩, A70, H⟩ := H
    replace H : ((spec_CountChoices.f k t302 t305 t306).bind fun bt307 => ((laws_toItemS.f k l0).bind fun t309 => ((laws_toCase.f a1_0 a1_1).bind fun bt312 => ((impl_CountChoices.f t309 bt312.1 bt312.2).bind fun bt314 => (if bt314.1 = bt307.1 then (laws_FnExactCountChoices.j0 k l0 t309 (bt314.2 != bt307.2)) else (laws_FnExactCountChoices.j0 k l0 t309 true)))))) = some r := H
    have A7 := Aside0.mk A70
    clear A70
    replace H := Option.bind_eq_some_iff.mp H
    obtain ⟨⟨t307, t308⟩, A80, H⟩ := H
    replace H : ((laws_toItemS.f k l0).bind fun t309 => ((laws_toCase.f a1_0 a1_1).bind fun bt312 => ((impl_CountChoices.f t309 bt312.1 bt312.2).bind fun bt314 => (if bt314.1 = t307 then (laws_FnExactCountChoices.j0 k l0 t309 (bt314.2 != t308)) else (laws_FnExactCountChoices.j0 k l0 t309 true))))) = some r := H
    have A8 := Aside0.mk A80
    clear A80
    replace H := Option.bind_eq_some_iff.mp H
    obtain ⟨t309, A90, H⟩ := H
    replace H : ((laws_toCase.f a1_0 a1_1).bind fun bt312 => ((impl_CountChoices.f t309 bt312.1 bt312.2).bind fun bt314 => (if bt314.1 = t307 then (laws_FnExactCountChoices.j0 k l0 t309 (bt314.2 != t308)) else (laws_FnExactCountChoices.j0 k l0 t309 true)))) = some r := H
    have A9 := Aside0.mk A90
    clear A90
    replace H := Option.bind_eq_some_iff.mp H
    obtain ⟨⟨t312, t313⟩, A100, H⟩ := H
    replace H : ((impl_CountChoices.f t309 t312 t313).bind fun bt314 => (if bt314.1 = t307 then (laws_FnExactCountChoices.j0 k l0 t309 (bt314.2 != t308)) else (laws_FnExactCountChoices.j0 k l0 t309 true))) = some r := H
    have A10 := Aside0.mk A100
    clear A100
    replace H := Option.bind_eq_some_iff.mp H
    obtain ⟨⟨t314, t315⟩, A110, H⟩ := H
    replace H : (if t314 = t307 then (laws_FnExactCountChoices.j0 k l0 t309 (t315 != t308)) else (laws_FnExactCountChoices.j0 k l0 t309 true)) = some r := H
    have A11 := Aside0.mk A110
    clear A110
    have HC12 := Aside0.mk H
    clear H
    go_enter Try.func6, Try.ntmps6
    try go_wp2_with (first | ((with_reducible refine gate_dst (N := 3) rfl ?_); refine box_event ?hg (N := 3) ?hd (cs := #[.int .i64 a1_0, .int .i64 a1_1]) (t := 36) ?hr ?_; (case hd => rfl); (case hg => rfl); (case hr => first | (go_simp; done) | (go_simp; rfl)); intro gb300 hg w13 hbox hb; have n0_ := Aside0.mk (below_step (by repeat (first | (with_reducible first | exact HB.out | apply below_alloc | apply pw_below_drewN | apply below_drew1) | exact HB.out)) hb); have n1_ := Aside0.mk (hbox); have n2_ := Aside0.mk ((by rw [hg]; exact (below_size (by repeat (first | (with_reducible first | exact HB.out | apply below_alloc | apply pw_below_drewN | apply below_drew1) | exact HB.out))) : w.heap.size ≤ gb300)); have n3_ := Aside0.mk ((by rw [hg]; exact (below_size (by repeat (first | (with_reducible first | exact HB.out | apply below_alloc | apply pw_below_drewN | apply below_drew1) | exact HB.out))) : w.heap.size ≤ gb300)); clear HB; have HB := n0_; have BK300 := n1_; have GW300 := n2_; have GE300 := n3_; clear n0_ n1_ n2_ n3_; clear hb hbox hg) | ((with_reducible refine gate_callee (f := 12) rfl ?_); refine goesL_ (some 13) rfl rfl Try.func12 (by kernel_rfl) rfl #[.slice A0 l0.length c0, .int .i64 1048576] rfl (by (try simp only [List.map_toArray, List.map_cons, List.map_nil]); first | done | rfl | (simp only [List.length_drop, List.length_take]; rfl)) ?_; (with_reducible refine (laws_szItemS.calls _ _ l0 1048576 t301 _ ?side1 ?side2 A3.out).mono ?_); (case side1 => repeat (first | exact (Kd.C_below HR0.out HB.out) | (with_reducible refine Kd.C_alloc ?_ _) | (with_reducible refine Kd.C_drewN ?_ _) | (with_reducible refine Kd.C_drew ?_))); (case side2 => exact HC0.out); rintro e w' ⟨rfl, ⟨nd, rfl⟩⟩; refine ⟨_, rfl, ?_⟩))
    (try (rw [drewN_self w13]; generalize hq_ : World.drewN w13 _ = w13; have n0_ : Aside0 (w13.heap[gb300]? = some (.cells #[.int .i64 a1_0, .int .i64 a1_1] 36 (0, 0))) := ⟨by rw [← hq_]; exact (by (with_reducible repeat (first | refine blk_drewN ?_ _ | refine blk_drew ?_ | refine blk_alloc ?_ _)); exact BK300.out)⟩; have n1_ : Aside0 (Below w.heap.size w w13) := ⟨by rw [← hq_]; exact (by repeat (first | (with_reducible first | exact HB.out | apply below_alloc | apply pw_below_drewN | apply below_drew1 | refine below_set ?_ GE300.out) | exact HB.out))⟩; clear BK300 HB hq_; have BK300 := n0_; have HB := n1_; clear n0_ n1_))
    have n0_ := Aside0.mk (blk_drew BK300.out)
    have n1_ := Aside0.mk (below_drew1 HB.out)
    clear BK300
    clear HB
    have BK300 := n0_
    have HB := n1_
    clear n0_ n1_
    refine start_ (n := 10) (S := fun w' => w'.cell? ⟨gb300, 0, none⟩ = some (.int .i64 a1_0) ∧ w'.cell? ⟨gb300, 1, none⟩ = some (.int .i64 a1_1)) (ds := []) #[false, false, false, false, false, false, false, false, false, false] (by kernel_rfl) rfl rfl ⟨(blk_cell BK300.out 0).trans rfl, (blk_cell BK300.out 1).trans rfl⟩ (fun hHeld => ?_); refine with_tabW laws_FnExactCountChoices.tab5 laws_FnExactCountChoices.bits5 (fun HT_ HW_ => ?_)
    generalize w13.drew = w14 at BK300 HB hHeld ⊢
    refine pure_ (i := 0) (N := some 17) (v := ?_) (a' := ?_) #[true, false, false, false, false, false, false, false, false, false] rfl rfl (any_of HT_.out (by kernel_rfl)) (fun _ _ _ h => h) (Or.inl ⟨by rfl, ?_⟩) ?_ ?_
    rotate_left
    · intro w'
      go_simp
      with_reducible rfl
    rotate_left
    · simp only [Act.put, List.setIfInBounds_toArray, List.set_cons_zero, List.set_cons_succ, i64_w, i32_w]
      rfl
    refine take_ (i := 2) (N := some 19) (v := ?_) (a' := ?_) #[true, false, true, false, false, false, false, false, false, false] rfl rfl (take_ofW HT_.out HW_.out (by kernel_rfl)) (fun _ _ _ h => h) (Or.inl ⟨by rfl, ?_⟩) hHeld ?_ ?_
    rotate_left
    · rintro w' ⟨s0, s1⟩
      go_simp
      with_reducible rfl
    rotate_left
    · simp only [Act.put, List.setIfInBounds_toArray, List.set_cons_zero, List.set_cons_succ, i64_w, i32_w]
      rfl
    refine one_ (i := 1) (N := some 18) #[true, true, true, false, false, false, false, false, false, false] rfl rfl (one_of HT_.out (by kernel_rfl)) (by decide) (fun K hK => ?_)
    refine goes_ Try.func14 (by kernel_rfl) rfl #[.slice A0 l0.length c0] (by rfl) rfl rfl (by (try simp only [List.map_toArray, List.map_cons, List.map_nil]); first | done | rfl | (simp only [List.length_drop, List.length_take]; rfl)) ?_
    with_reducible refine (laws_toItemS.calls k _ _ l0 t302 _ ?side1 ?side2 A6.out).mono ?_
    (case side1 => repeat (first | exact (Kd.C_below HR0.out HB.out) | (with_reducible refine Kd.C_alloc ?_ _) | (with_reducible refine Kd.C_drewN ?_ _) | (with_reducible refine Kd.C_drew ?_)))
    (case side2 => exact HC0.out)
    rintro e w15 ⟨v303, rfl, ho0, hb⟩
    refine ⟨_, rfl, ?_⟩
    have n0_ := Aside0.mk (Kd.R_lower ho0 (below_size (by repeat (first | (with_reducible first | exact HB.out | apply below_alloc | apply pw_below_drewN | apply below_drew1 | refine below_set ?_ GE300.out) | exact HB.out))))
    have n1_ := Aside0.mk (blk_below (g := gb300) (o := .cells #[.int .i64 a1_0, .int .i64 a1_1] 36 (0, 0)) (by (with_reducible repeat (first | refine blk_drewN ?_ _ | refine blk_drew ?_ | refine blk_alloc ?_ _)); exact BK300.out) hb)
    have n2_ := Aside0.mk (below_step (by repeat (first | (with_reducible first | exact HB.out | apply below_alloc | apply pw_below_drewN | apply below_drew1 | refine below_set ?_ GE300.out) | exact HB.out)) hb)
    clear BK300
    clear HB
    have HO304 := n0_
    have BK300 := n1_
    have HB := n2_
    clear n0_ n1_ n2_
    (try clear hb)
    (try clear hb2)
    (try clear hk)
    (try clear hi)
    (try clear ho0)
    refine hK.out _ _ ⟨(blk_cell BK300.out 0).trans rfl, (blk_cell BK300.out 1).trans rfl⟩ (fun hHeld => ?_)
    clear hK K
    refine norm_ (a' := ?_) ?_ ?_
    rotate_left
    · show Act.put _ (some 18) _ = _
      simp only [Act.put, List.setIfInBounds_toArray, List.set_cons_zero, List.set_cons_succ, i64_w, i32_w]
      rfl
    refine one_ (i := 3) (N := some 20) #[true, true, true, true, false, false, false, false, false, false] rfl rfl (one_of HT_.out (by kernel_rfl)) (by decide) (fun K hK => ?_)
    refine goes_ Try.func24 (by kernel_rfl) rfl #[.agg #[.int .i64 a1_0, .int .i64 a1_1]] (by rfl) rfl rfl (by (try simp only [List.map_toArray, List.map_cons, List.map_nil]); first | done | rfl | (simp only [List.length_drop, List.length_take]; rfl)) ?_
    with_reducible refine (laws_toCase.calls a1_0 a1_1 t305 t306 _ A7.out).mono ?_
    rintro e w16 ⟨rfl, hb⟩
    refine ⟨_, rfl, ?_⟩
    have n0_ := Aside0.mk (Kd.R_below (by (with_reducible repeat (first | apply Kd.R_alloc | apply Kd.R_drewN | apply Kd.R_drew)); exact HO304.out) hb)
    have n1_ := Aside0.mk (blk_below (g := gb300) (o := .cells #[.int .i64 a1_0, .int .i64 a1_1] 36 (0, 0)) (by (with_reducible repeat (first | refine blk_drewN ?_ _ | refine blk_drew ?_ | refine blk_alloc ?_ _)); exact BK300.out) hb)
    have n2_ := Aside0.mk (below_step (by repeat (first | (with_reducible first | exact HB.out | apply below_alloc | apply pw_below_drewN | apply below_drew1 | refine below_set ?_ GE300.out) | exact HB.out)) hb)
    clear HO304
    clear BK300
    clear HB
    have HO304 := n0_
    have BK300 := n1_
    have HB := n2_
    clear n0_ n1_ n2_
    (try clear hb)
    (try clear hb2)
    (try clear hk)
    (try clear hi)
    obtain ⟨Ao17, co17, eo17⟩ := Kd.R_slice HO304.out
    (first | subst eo17 | (injection eo17 with f1_ f2_ f3_; have f4_ := f1_.symm; have f5_ := f3_.symm; clear f1_ f2_ f3_; subst f4_; subst f5_))
    refine hK.out _ _ ⟨(blk_cell BK300.out 0).trans rfl, (blk_cell BK300.out 1).trans rfl⟩ (fun hHeld => ?_)
    clear hK K
    refine norm_ (a' := ?_) ?_ ?_
    rotate_left
    · show Act.put _ (some 20) _ = _
      simp only [Act.put, List.setIfInBounds_toArray, List.set_cons_zero, List.set_cons_succ, i64_w, i32_w]
      rfl
    refine one_ (i := 4) (N := some 21) #[true, true, true, true, true, false, false, false, false, false] rfl rfl (one_of HT_.out (by kernel_rfl)) (by decide) (fun K hK => ?_)
    refine goes_ Try.func27 (by kernel_rfl) rfl #[.slice Ao17 t302.length co17, .agg #[.int .i64 t305, .int .i64 t306]] (by rfl) rfl rfl (by (try simp only [List.map_toArray, List.map_cons, List.map_nil]); first | done | rfl | (simp only [List.length_drop, List.length_take]; rfl)) ?_
    with_reducible refine (spec_CountChoices.calls k _ _ t302 t305 t306 t307 t308 _ ?side1 ?side2 A8.out).mono ?_
    (case side1 => repeat (first | exact (Kd.R_reads' HO304.out).2.2 | (with_reducible refine Kd.C_alloc ?_ _) | (with_reducible refine Kd.C_drewN ?_ _) | (with_reducible refine Kd.C_drew ?_)))
    (case side2 => exact (Kd.R_reads' HO304.out).2.1)
    rintro e w18 ⟨rfl, hb⟩
    refine ⟨_, rfl, ?_⟩
    have n0_ := Aside0.mk (Kd.R_below (by (with_reducible repeat (first | apply Kd.R_alloc | apply Kd.R_drewN | apply Kd.R_drew)); exact HO304.out) hb)
    have n1_ := Aside0.mk (blk_below (g := gb300) (o := .cells #[.int .i64 a1_0, .int .i64 a1_1] 36 (0, 0)) (by (with_reducible repeat (first | refine blk_drewN ?_ _ | refine blk_drew ?_ | refine blk_alloc ?_ _)); exact BK300.out) hb)
    have n2_ := Aside0.mk (below_step (by repeat (first | (with_reducible first | exact HB.out | apply below_alloc | apply pw_below_drewN | apply below_drew1 | refine below_set ?_ GE300.out) | exact HB.out)) hb)
    clear HO304
    clear BK300
    clear HB
    have HO304 := n0_
    have BK300 := n1_
    have HB := n2_
    clear n0_ n1_ n2_
    (try clear hb)
    (try clear hb2)
    (try clear hk)
    (try clear hi)
    refine hK.out _ _ ⟨(blk_cell BK300.out 0).trans rfl, (blk_cell BK300.out 1).trans rfl⟩ (fun hHeld => ?_)
    clear hK K
    refine norm_ (a' := ?_) ?_ ?_
    rotate_left
    · show Act.put _ (some 21) _ = _
      simp only [Act.put, List.setIfInBounds_toArray, List.set_cons_zero, List.set_cons_succ, i64_w, i32_w]
      rfl
    refine pure_ (i := 5) (N := some 16) (v := ?_) (a' := ?_) #[true, true, true, true, true, true, false, false, false, false] rfl rfl (any_of HT_.out (by kernel_rfl)) (fun _ _ _ h => h) (Or.inl ⟨by rfl, ?_⟩) ?_ ?_
    rotate_left
    · intro w'
      go_simp
      with_reducible rfl
    rotate_left
    · simp only [Act.put, List.setIfInBounds_toArray, List.set_cons_zero, List.set_cons_succ, i64_w, i32_w]
      rfl
    refine pure_ (i := 6) (N := some 22) (v := ?_) (a' := ?_) #[true, true, true, true, true, true, true, false, false, false] rfl rfl (any_of HT_.out (by kernel_rfl)) (fun _ _ _ h => h) (Or.inl ⟨by rfl, ?_⟩) ?_ ?_
    rotate_left
    · intro w'
      go_simp
      with_reducible rfl
    rotate_left
    · simp only [Act.put, List.setIfInBounds_toArray, List.set_cons_zero, List.set_cons_succ, i64_w, i32_w]
      rfl
    refine pure_ (i := 7) (N := some 23) (v := ?_) (a' := ?_) #[true, true, true, true, true, true, true, true, false, false] rfl rfl (any_of HT_.out (by kernel_rfl)) (fun _ _ _ h => h) (Or.inl ⟨by rfl, ?_⟩) ?_ ?_
    rotate_left
    · intro w'
      go_simp
      with_reducible rfl
    rotate_left
    · simp only [Act.put, List.setIfInBounds_toArray, List.set_cons_zero, List.set_cons_succ, i64_w, i32_w]
      rfl
    refine pure_ (i := 8) (N := some 6) (v := ?_) (a' := ?_) #[true, true, true, true, true, true, true, true, true, false] rfl rfl (any_of HT_.out (by kernel_rfl)) (fun _ _ _ h => h) (Or.inl ⟨by rfl, ?_⟩) ?_ ?_
    rotate_left
    · intro w'
      go_simp
      with_reducible rfl
    rotate_left
    · simp only [Act.put, List.setIfInBounds_toArray, List.set_cons_zero, List.set_cons_succ, i64_w, i32_w]
      rfl
    refine pure_ (i := 9) (N := some 7) (v := ?_) (a' := ?_) #[true, true, true, true, true, true, true, true, true, true] rfl rfl (any_of HT_.out (by kernel_rfl)) (fun _ _ _ h => h) (Or.inl ⟨by rfl, ?_⟩) ?_ ?_
    rotate_left
    · intro w'
      go_simp
      with_reducible rfl
    rotate_left
    · simp only [Act.put, List.setIfInBounds_toArray, List.set_cons_zero, List.set_cons_succ, i64_w, i32_w]
      rfl
    refine done_ (done_of HT_.out (by kernel_rfl)) ?_
    go_upto_region 8 with (first | ((with_reducible refine gate_callee (f := 14) rfl ?_); refine goesL_ (some 25) rfl rfl Try.func14 (by kernel_rfl) rfl #[.slice A0 l0.length c0] rfl (by (try simp only [List.map_toArray, List.map_cons, List.map_nil]); first | done | rfl | (simp only [List.length_drop, List.length_take]; rfl)) ?_; (with_reducible refine (laws_toItemS.calls k _ _ l0 t309 _ ?side1 ?side2 A9.out).mono ?_); (case side1 => repeat (first | exact (Kd.C_below HR0.out HB.out) | (with_reducible refine Kd.C_alloc ?_ _) | (with_reducible refine Kd.C_drewN ?_ _) | (with_reducible refine Kd.C_drew ?_))); (case side2 => exact HC0.out); rintro e w19 ⟨v310, rfl, ho0, hb⟩; refine ⟨_, rfl, ?_⟩; have n0_ := Aside0.mk (Kd.R_elder' (by (with_reducible repeat (first | apply Kd.R_alloc | apply Kd.R_drewN | apply Kd.R_drew)); exact HO304.out) (Kd.R_base ho0) hb); have n1_ := Aside0.mk (Kd.R_lower (Kd.R_new' ho0 (Kd.R_lt (by (with_reducible repeat (first | apply Kd.R_alloc | apply Kd.R_drewN | apply Kd.R_drew)); exact HO304.out))) (below_size (by repeat (first | (with_reducible first | exact HB.out | apply below_alloc | apply pw_below_drewN | apply below_drew1 | refine below_set ?_ GE300.out) | exact HB.out)))); have n2_ := Aside0.mk (blk_below (g := gb300) (o := .cells #[.int .i64 a1_0, .int .i64 a1_1] 36 (0, 0)) (by (with_reducible repeat (first | refine blk_drewN ?_ _ | refine blk_drew ?_ | refine blk_alloc ?_ _)); exact BK300.out) hb); have n3_ := Aside0.mk (below_step (by repeat (first | (with_reducible first | exact HB.out | apply below_alloc | apply pw_below_drewN | apply below_drew1 | refine below_set ?_ GE300.out) | exact HB.out)) hb); clear HO304; clear BK300; clear HB; have HO304 := n0_; have HO311 := n1_; have BK300 := n2_; have HB := n3_; clear n0_ n1_ n2_ n3_; (try clear hb); (try clear hb2); (try clear hk); (try clear hi); (try clear ho0); have hcz20_0 : w19.cell? ⟨gb300, 0, none⟩ = some (.int .i64 a1_0) := (blk_cell BK300.out 0).trans rfl; have hcz20_1 : w19.cell? ⟨gb300, 1, none⟩ = some (.int .i64 a1_1) := (blk_cell BK300.out 1).trans rfl; have hfz20_0 := blk_frozen BK300.out 0; have hfz20_1 := blk_frozen BK300.out 1) | ((with_reducible refine gate_callee (f := 24) rfl ?_); refine goesL_ (some 29) rfl rfl Try.func24 (by kernel_rfl) rfl #[.agg #[.int .i64 a1_0, .int .i64 a1_1]] rfl (by (try simp only [List.map_toArray, List.map_cons, List.map_nil]); first | done | rfl | (simp only [List.length_drop, List.length_take]; rfl)) ?_; (with_reducible refine (laws_toCase.calls a1_0 a1_1 t312 t313 _ A10.out).mono ?_); rintro e w21 ⟨rfl, hb⟩; refine ⟨_, rfl, ?_⟩; have n0_ := Aside0.mk (Kd.R_below (by (with_reducible repeat (first | apply Kd.R_alloc | apply Kd.R_drewN | apply Kd.R_drew)); exact HO304.out) hb); have n1_ := Aside0.mk (Kd.R_below (by (with_reducible repeat (first | apply Kd.R_alloc | apply Kd.R_drewN | apply Kd.R_drew)); exact HO311.out) hb); have n2_ := Aside0.mk (blk_below (g := gb300) (o := .cells #[.int .i64 a1_0, .int .i64 a1_1] 36 (0, 0)) (by (with_reducible repeat (first | refine blk_drewN ?_ _ | refine blk_drew ?_ | refine blk_alloc ?_ _)); exact BK300.out) hb); have n3_ := Aside0.mk (below_step (by repeat (first | (with_reducible first | exact HB.out | apply below_alloc | apply pw_below_drewN | apply below_drew1 | refine below_set ?_ GE300.out) | exact HB.out)) hb); clear HO304; clear HO311; clear BK300; clear HB; have HO304 := n0_; have HO311 := n1_; have BK300 := n2_; have HB := n3_; clear n0_ n1_ n2_ n3_; (try clear hb); (try clear hb2); (try clear hk); (try clear hi); obtain ⟨Ao22, co22, eo22⟩ := Kd.R_slice HO311.out; subst eo22) | ((with_reducible refine gate_callee (f := 28) rfl ?_); refine goesL_ (some 30) rfl rfl Try.func28 (by kernel_rfl) rfl #[.slice Ao22 t309.length co22, .agg #[.int .i64 t312, .int .i64 t313]] rfl (by (try simp only [List.map_toArray, List.map_cons, List.map_nil]); first | done | rfl | (simp only [List.length_drop, List.length_take]; rfl)) ?_; (with_reducible refine (impl_CountChoices.calls _ _ t309 t312 t313 t314 t315 _ ?side1 ?side2 A11.out).mono ?_); (case side1 => repeat (first | exact (Kd.R_reads' HO311.out).2.2 | (with_reducible refine Kd.C_alloc ?_ _) | (with_reducible refine Kd.C_drewN ?_ _) | (with_reducible refine Kd.C_drew ?_))); (case side2 => exact (Kd.R_reads' HO311.out).2.1); rintro e w23 ⟨rfl, hb⟩; refine ⟨_, rfl, ?_⟩; have n0_ := Aside0.mk (Kd.R_below (by (with_reducible repeat (first | apply Kd.R_alloc | apply Kd.R_drewN | apply Kd.R_drew)); exact HO304.out) hb); have n1_ := Aside0.mk (Kd.R_below (by (with_reducible repeat (first | apply Kd.R_alloc | apply Kd.R_drewN | apply Kd.R_drew)); exact HO311.out) hb); have n2_ := Aside0.mk (blk_below (g := gb300) (o := .cells #[.int .i64 a1_0, .int .i64 a1_1] 36 (0, 0)) (by (with_reducible repeat (first | refine blk_drewN ?_ _ | refine blk_drew ?_ | refine blk_alloc ?_ _)); exact BK300.out) hb); have n3_ := Aside0.mk (below_step (by repeat (first | (with_reducible first | exact HB.out | apply below_alloc | apply pw_below_drewN | apply below_drew1 | refine below_set ?_ GE300.out) | exact HB.out)) hb); clear HO304; clear HO311; clear BK300; clear HB; have HO304 := n0_; have HO311 := n1_; have BK300 := n2_; have HB := n3_; clear n0_ n1_ n2_ n3_; (try clear hb); (try clear hb2); (try clear hk); (try clear hi)))
    (try simp only [Act.put, List.setIfInBounds_toArray, List.set_cons_zero, List.set_cons_succ])
    go_cut [40] (fun v40 wc => ∃ (kq : Nat) (x40_11 : Bool), v40 = .bool x40_11 ∧ Aside0 (laws_FnExactCountChoices.j0 kq l0 t309 x40_11 = some r) ∧ Aside0 (kq ≤ k) ∧ Aside0 (Kd.R k54 54 wc w.heap.size (fun _ => True) (.slice Ao22 t309.length co22) t309) ∧ Aside0 (wc.heap[gb300]? = some (.cells #[.int .i64 a1_0, .int .i64 a1_1] 36 (0, 0))) ∧ Aside0 (Below w.heap.size w wc))
    case first =>
      have H := HC12.out
      clear HC12
      by_cases c24 : t314 = t307
      · rw [if_pos c24] at H
        have c24b0 : (t314 == t307) = true := beq_iff_eq.mpr c24
        have c24b1 : (t314 != t307) = false := bne_eq_false_iff_eq.mpr c24
        clear c24
        (first | rw [c24b0] | (simp only [i64_w, i32_w]; rw [c24b0]) | skip)
        have H' := Aside0.mk H
        clear H
        go_wp2
        go_meet
        case rel => exact ⟨_, ((t315 != t308)), (by first | rfl | (simp; done) | (simp [*]; done)), H', ⟨by first | omega | exact Nat.le_refl _⟩, ⟨by (with_reducible repeat (first | apply Kd.R_alloc | apply Kd.R_drewN | apply Kd.R_drew)); exact Kd.R_mono HO311.out (fun _ hk => trivial)⟩, ⟨by (with_reducible repeat (first | refine blk_drewN ?_ _ | refine blk_drew ?_ | refine blk_alloc ?_ _)); exact BK300.out⟩, ⟨by repeat (first | (with_reducible first | exact HB.out | apply below_alloc | apply pw_below_drewN | apply below_drew1 | refine below_set ?_ GE300.out) | exact HB.out)⟩⟩
      · rw [if_neg c24] at H
        have c24b0 : (t314 == t307) = false := beq_eq_false_iff_ne.mpr c24
        have c24b1 : (t314 != t307) = true := bne_iff_ne.mpr c24
        (first | rw [c24b0] | (simp only [i64_w, i32_w]; rw [c24b0]) | skip)
        have H' := Aside0.mk H
        clear H
        go_wp2
        go_meet
        case rel => exact ⟨_, (true), (by first | rfl | (simp; done) | (simp [*]; done)), H', ⟨by first | omega | exact Nat.le_refl _⟩, ⟨by (with_reducible repeat (first | apply Kd.R_alloc | apply Kd.R_drewN | apply Kd.R_drew)); exact Kd.R_mono HO311.out (fun _ hk => trivial)⟩, ⟨by (with_reducible repeat (first | refine blk_drewN ?_ _ | refine blk_drew ?_ | refine blk_alloc ?_ _)); exact BK300.out⟩, ⟨by repeat (first | (with_reducible first | exact HB.out | apply below_alloc | apply pw_below_drewN | apply below_drew1 | refine below_set ?_ GE300.out) | exact HB.out)⟩⟩
    case rest =>
      clear HC12
      try clear c1
      try clear c2
      try clear p2
      try clear c4
      try clear c4b0
      try clear c6
      try clear c12
      try clear c14
      try clear c24
      try clear c24b0
      try clear c24b1
      try clear hcz20_0
      try clear hcz20_1
      try clear hfz20_0
      try clear hfz20_1
      obtain ⟨kq, x40_11, rfl, HA, HJ11, HO_8, BK300, HB⟩ := hcut
      cases kq with
      | zero => exact absurd HA.out (by simp [laws_FnExactCountChoices.j0])
      | succ kj11 =>
        have H := HA.out
        clear HA
        simp only [laws_FnExactCountChoices.j0] at H
        by_cases c25 : x40_11 = true
        · subst c25
          have H1 : (some false) = some r := by rw [if_pos rfl] at H; exact H
          clear H
          have H := H1
          clear H1
          obtain rfl := Option.some.inj H
          go_wp2
          go_ret
          exact ⟨by first | rfl | (simp [errW_none, errW_some] <;> rfl) | (simp [*, errW_none, errW_some] <;> rfl), by repeat (first | (with_reducible first | exact HB.out | apply below_alloc | apply pw_below_drewN | apply below_drew1 | refine below_set ?_ GE300.out) | exact HB.out)⟩
        · replace c25 := Bool.eq_false_iff.mpr c25
          subst c25
          have H1 : ((laws_toItemS.f kj11 l0).bind fun t316 => ((laws_eqItemS.f kj11 t309 t316).bind fun t319 => (if t319 = true then (some true) else (some false)))) = some r := by rw [if_neg (show ¬ (false = true) by decide)] at H; exact H
          clear H
          have H := H1
          clear H1
          replace H := Option.bind_eq_some_iff.mp H
          obtain ⟨t316, A260, H⟩ := H
          replace H : ((laws_eqItemS.f kj11 t309 t316).bind fun t319 => (if t319 = true then (some true) else (some false))) = some r := H
          have A26 := Aside0.mk A260
          clear A260
          replace H := Option.bind_eq_some_iff.mp H
          obtain ⟨t319, A270, H⟩ := H
          replace H : (if t319 = true then (some true) else (some false)) = some r := H
          have A27 := Aside0.mk A270
          clear A270
          by_cases c28 : t319 = true
          · subst c28
            have H1 : (some true) = some r := by rw [if_pos rfl] at H; exact H
            clear H
            have H := H1
            clear H1
            obtain rfl := Option.some.inj H
            go_wp2_with (first | ((with_reducible refine gate_callee (f := 14) rfl ?_); refine goesL_ (some 43) rfl rfl Try.func14 (by kernel_rfl) rfl #[.slice A0 l0.length c0] rfl (by (try simp only [List.map_toArray, List.map_cons, List.map_nil]); first | done | rfl | (simp only [List.length_drop, List.length_take]; rfl)) ?_; (with_reducible refine (laws_toItemS.calls kj11 _ _ l0 t316 _ ?side1 ?side2 A26.out).mono ?_); (case side1 => repeat (first | exact (Kd.C_below HR0.out HB.out) | (with_reducible refine Kd.C_alloc ?_ _) | (with_reducible refine Kd.C_drewN ?_ _) | (with_reducible refine Kd.C_drew ?_))); (case side2 => exact HC0.out); rintro e w29 ⟨v317, rfl, ho0, hb⟩; refine ⟨_, rfl, ?_⟩; have n0_ := Aside0.mk (Kd.R_elder' (by (with_reducible repeat (first | apply Kd.R_alloc | apply Kd.R_drewN | apply Kd.R_drew)); exact HO_8.out) (Kd.R_base ho0) hb); have n1_ := Aside0.mk (Kd.R_lower (Kd.R_new' ho0 (Kd.R_lt (by (with_reducible repeat (first | apply Kd.R_alloc | apply Kd.R_drewN | apply Kd.R_drew)); exact HO_8.out))) (below_size (by repeat (first | (with_reducible first | exact HB.out | apply below_alloc | apply pw_below_drewN | apply below_drew1 | refine below_set ?_ GE300.out) | exact HB.out)))); have n2_ := Aside0.mk (blk_below (g := gb300) (o := .cells #[.int .i64 a1_0, .int .i64 a1_1] 36 (0, 0)) (by (with_reducible repeat (first | refine blk_drewN ?_ _ | refine blk_drew ?_ | refine blk_alloc ?_ _)); exact BK300.out) hb); have n3_ := Aside0.mk (below_step (by repeat (first | (with_reducible first | exact HB.out | apply below_alloc | apply pw_below_drewN | apply below_drew1 | refine below_set ?_ GE300.out) | exact HB.out)) hb); clear HO_8; clear BK300; clear HB; have HO_8 := n0_; have HO318 := n1_; have BK300 := n2_; have HB := n3_; clear n0_ n1_ n2_ n3_; (try clear hb); (try clear hb2); (try clear hk); (try clear hi); (try clear ho0); obtain ⟨Ao30, co30, eo30⟩ := Kd.R_slice HO318.out; subst eo30) | ((with_reducible refine gate_callee (f := 16) rfl ?_); refine goesL_ (some 44) rfl rfl Try.func16 (by kernel_rfl) rfl #[.slice Ao22 t309.length co22, .slice Ao30 t316.length co30] rfl (by (try simp only [List.map_toArray, List.map_cons, List.map_nil]); first | done | rfl | (simp only [List.length_drop, List.length_take]; rfl)) ?_; (with_reducible refine (laws_eqItemS.calls kj11 _ _ t309 _ _ t316 true _ ?side1 ?side2 ?side3 ?side4 A27.out).mono ?_); (case side1 => repeat (first | exact (Kd.R_reads' HO_8.out).2.2 | (with_reducible refine Kd.C_alloc ?_ _) | (with_reducible refine Kd.C_drewN ?_ _) | (with_reducible refine Kd.C_drew ?_))); (case side2 => exact (Kd.R_reads' HO_8.out).2.1); (case side3 => repeat (first | exact (Kd.R_reads' HO318.out).2.2 | (with_reducible refine Kd.C_alloc ?_ _) | (with_reducible refine Kd.C_drewN ?_ _) | (with_reducible refine Kd.C_drew ?_))); (case side4 => exact (Kd.R_reads' HO318.out).2.1); rintro e w31 ⟨rfl, hb⟩; refine ⟨_, rfl, ?_⟩; have n0_ := Aside0.mk (Kd.R_below (by (with_reducible repeat (first | apply Kd.R_alloc | apply Kd.R_drewN | apply Kd.R_drew)); exact HO_8.out) hb); have n1_ := Aside0.mk (Kd.R_below (by (with_reducible repeat (first | apply Kd.R_alloc | apply Kd.R_drewN | apply Kd.R_drew)); exact HO318.out) hb); have n2_ := Aside0.mk (blk_below (g := gb300) (o := .cells #[.int .i64 a1_0, .int .i64 a1_1] 36 (0, 0)) (by (with_reducible repeat (first | refine blk_drewN ?_ _ | refine blk_drew ?_ | refine blk_alloc ?_ _)); exact BK300.out) hb); have n3_ := Aside0.mk (below_step (by repeat (first | (with_reducible first | exact HB.out | apply below_alloc | apply pw_below_drewN | apply below_drew1 | refine below_set ?_ GE300.out) | exact HB.out)) hb); clear HO_8; clear HO318; clear BK300; clear HB; have HO_8 := n0_; have HO318 := n1_; have BK300 := n2_; have HB := n3_; clear n0_ n1_ n2_ n3_; (try clear hb); (try clear hb2); (try clear hk); (try clear hi)))
            go_ret
            exact ⟨by first | rfl | (simp [errW_none, errW_some] <;> rfl) | (simp [*, errW_none, errW_some] <;> rfl), by repeat (first | (with_reducible first | exact HB.out | apply below_alloc | apply pw_below_drewN | apply below_drew1 | refine below_set ?_ GE300.out) | exact HB.out)⟩
          · replace c28 := Bool.eq_false_iff.mpr c28
            subst c28
            have H1 : (some false) = some r := by rw [if_neg (show ¬ (false = true) by decide)] at H; exact H
            clear H
            have H := H1
            clear H1
            obtain rfl := Option.some.inj H
            go_wp2_with (first | ((with_reducible refine gate_callee (f := 14) rfl ?_); refine goesL_ (some 43) rfl rfl Try.func14 (by kernel_rfl) rfl #[.slice A0 l0.length c0] rfl (by (try simp only [List.map_toArray, List.map_cons, List.map_nil]); first | done | rfl | (simp only [List.length_drop, List.length_take]; rfl)) ?_; (with_reducible refine (laws_toItemS.calls kj11 _ _ l0 t316 _ ?side1 ?side2 A26.out).mono ?_); (case side1 => repeat (first | exact (Kd.C_below HR0.out HB.out) | (with_reducible refine Kd.C_alloc ?_ _) | (with_reducible refine Kd.C_drewN ?_ _) | (with_reducible refine Kd.C_drew ?_))); (case side2 => exact HC0.out); rintro e w32 ⟨v317, rfl, ho0, hb⟩; refine ⟨_, rfl, ?_⟩; have n0_ := Aside0.mk (Kd.R_elder' (by (with_reducible repeat (first | apply Kd.R_alloc | apply Kd.R_drewN | apply Kd.R_drew)); exact HO_8.out) (Kd.R_base ho0) hb); have n1_ := Aside0.mk (Kd.R_lower (Kd.R_new' ho0 (Kd.R_lt (by (with_reducible repeat (first | apply Kd.R_alloc | apply Kd.R_drewN | apply Kd.R_drew)); exact HO_8.out))) (below_size (by repeat (first | (with_reducible first | exact HB.out | apply below_alloc | apply pw_below_drewN | apply below_drew1 | refine below_set ?_ GE300.out) | exact HB.out)))); have n2_ := Aside0.mk (blk_below (g := gb300) (o := .cells #[.int .i64 a1_0, .int .i64 a1_1] 36 (0, 0)) (by (with_reducible repeat (first | refine blk_drewN ?_ _ | refine blk_drew ?_ | refine blk_alloc ?_ _)); exact BK300.out) hb); have n3_ := Aside0.mk (below_step (by repeat (first | (with_reducible first | exact HB.out | apply below_alloc | apply pw_below_drewN | apply below_drew1 | refine below_set ?_ GE300.out) | exact HB.out)) hb); clear HO_8; clear BK300; clear HB; have HO_8 := n0_; have HO318 := n1_; have BK300 := n2_; have HB := n3_; clear n0_ n1_ n2_ n3_; (try clear hb); (try clear hb2); (try clear hk); (try clear hi); (try clear ho0); obtain ⟨Ao33, co33, eo33⟩ := Kd.R_slice HO318.out; subst eo33) | ((with_reducible refine gate_callee (f := 16) rfl ?_); refine goesL_ (some 44) rfl rfl Try.func16 (by kernel_rfl) rfl #[.slice Ao22 t309.length co22, .slice Ao33 t316.length co33] rfl (by (try simp only [List.map_toArray, List.map_cons, List.map_nil]); first | done | rfl | (simp only [List.length_drop, List.length_take]; rfl)) ?_; (with_reducible refine (laws_eqItemS.calls kj11 _ _ t309 _ _ t316 false _ ?side1 ?side2 ?side3 ?side4 A27.out).mono ?_); (case side1 => repeat (first | exact (Kd.R_reads' HO_8.out).2.2 | (with_reducible refine Kd.C_alloc ?_ _) | (with_reducible refine Kd.C_drewN ?_ _) | (with_reducible refine Kd.C_drew ?_))); (case side2 => exact (Kd.R_reads' HO_8.out).2.1); (case side3 => repeat (first | exact (Kd.R_reads' HO318.out).2.2 | (with_reducible refine Kd.C_alloc ?_ _) | (with_reducible refine Kd.C_drewN ?_ _) | (with_reducible refine Kd.C_drew ?_))); (case side4 => exact (Kd.R_reads' HO318.out).2.1); rintro e w34 ⟨rfl, hb⟩; refine ⟨_, rfl, ?_⟩; have n0_ := Aside0.mk (Kd.R_below (by (with_reducible repeat (first | apply Kd.R_alloc | apply Kd.R_drewN | apply Kd.R_drew)); exact HO_8.out) hb); have n1_ := Aside0.mk (Kd.R_below (by (with_reducible repeat (first | apply Kd.R_alloc | apply Kd.R_drewN | apply Kd.R_drew)); exact HO318.out) hb); have n2_ := Aside0.mk (blk_below (g := gb300) (o := .cells #[.int .i64 a1_0, .int .i64 a1_1] 36 (0, 0)) (by (with_reducible repeat (first | refine blk_drewN ?_ _ | refine blk_drew ?_ | refine blk_alloc ?_ _)); exact BK300.out) hb); have n3_ := Aside0.mk (below_step (by repeat (first | (with_reducible first | exact HB.out | apply below_alloc | apply pw_below_drewN | apply below_drew1 | refine below_set ?_ GE300.out) | exact HB.out)) hb); clear HO_8; clear HO318; clear BK300; clear HB; have HO_8 := n0_; have HO318 := n1_; have BK300 := n2_; have HB := n3_; clear n0_ n1_ n2_ n3_; (try clear hb); (try clear hb2); (try clear hk); (try clear hi)))
            go_ret
            exact ⟨by first | rfl | (simp [errW_none, errW_some] <;> rfl) | (simp [*, errW_none, errW_some] <;> rfl), by repeat (first | (with_reducible first | exact HB.out | apply below_alloc | apply pw_below_drewN | apply below_drew1 | refine below_set ?_ GE300.out) | exact HB.out)⟩

end Go.Proofs.Ytgghcngfleicnaa.Q

namespace Go.Proofs.Ytgghcngfleicnaa.Q
open Go.RowKit Go.Proofs.YtgghcngfleicnaaW.PrintWords Go.Proofs.YtgghcngfleicnaaW.PrintLast Go.Proofs.YtgghcngfleicnaaW.PrintMore
attribute [local go_sem] max2_int min2_int max_two min_two max_three min_three max_four min_four   -- for this text's walks alone
set_option linter.unusedVariables false
set_option linter.unusedSimpArgs false

/-! ### spec_suBest: function 58 -/
def spec_suBest.l0 : Nat → List (S54) → List (List Int) → Int → List (List Int) → Int → Int → Option ((List (List Int)) × Int)
  | 0, _, _, _, _, _, _ => none
  | k + 1, x0, x6, x7, x15, x16, x17 => if x17 < x16 then (if 0 ≤ x17 then (if x17 < (x15.length : Int) then ((spec_suTotals.f k x0 (rd_L7 x15 x17)).bind fun bt393 => (if bt393.2.2 > x7 then (if bt393.2.2 = bt393.2.2 then (if ([] : List (List Int)).length < 5864062014805 then (spec_suBest.l0 k x0 (([] : List (List Int)) ++ [rd_L7 x15 x17]) bt393.2.2 x15 x16 (wrap64 (x17 + 1))) else (none)) else (spec_suBest.l0 k x0 ([] : List (List Int)) bt393.2.2 x15 x16 (wrap64 (x17 + 1)))) else (if bt393.2.2 = x7 then (if x6.length < 5864062014805 then (spec_suBest.l0 k x0 (x6 ++ [rd_L7 x15 x17]) x7 x15 x16 (wrap64 (x17 + 1))) else (none)) else (spec_suBest.l0 k x0 x6 x7 x15 x16 (wrap64 (x17 + 1)))))) else (none)) else (none)) else (some (x6, x7))
def spec_suBest.f (k : Nat) (l0 : List (S54)) (a1_0 : Int) (a1_1 : Int) : Option ((List (List Int)) × Int) := (spec_suAll.f l0 a1_0 a1_1).bind fun t389 => (spec_suBest.l0 k l0 ([] : List (List Int)) 0 t389 (t389.length : Int) 0)
theorem spec_suBest.mono_l : ∀ k, (∀ y0 y1 y2 y3 y4 y5, LeO (spec_suBest.l0 k y0 y1 y2 y3 y4 y5) (spec_suBest.l0 (k + 1) y0 y1 y2 y3 y4 y5))
  | 0 => fun _ _ _ _ _ _ r h => by simp [spec_suBest.l0] at h
  | k + 1 => by
    have ih0 := spec_suBest.mono_l k
    · intro y0 y1 y2 y3 y4 y5
      unfold spec_suBest.l0
      repeat' first
      | (with_reducible exact ih0 _ _ _ _ _ _)
      | (with_reducible exact spec_suTotals.mono _ _ _)
      | (with_reducible exact LeO.refl _)
      | (with_reducible exact LeO.none _)
      | (with_reducible refine LeO.ite ?_ ?_)
      | (with_reducible refine LeO.bind ?_ (fun _ => ?_))
      | exact ih0 _ _ _ _ _ _
      | exact spec_suTotals.mono _ _ _
      | exact LeO.none _
      | refine LeO.ite ?_ ?_
      | refine LeO.bind ?_ (fun _ => ?_)
theorem spec_suBest.mono : ∀ a0 a1 a2 k, LeO (spec_suBest.f k a0 a1 a2) (spec_suBest.f (k + 1) a0 a1 a2) := by
  intro a0 a1 a2 k
  have ih0 := spec_suBest.mono_l k
  unfold spec_suBest.f
  repeat' first
      | (with_reducible exact ih0 _ _ _ _ _ _)
      | (with_reducible exact spec_suTotals.mono _ _ _)
      | (with_reducible exact LeO.refl _)
      | (with_reducible exact LeO.none _)
      | (with_reducible refine LeO.ite ?_ ?_)
      | (with_reducible refine LeO.bind ?_ (fun _ => ?_))
      | exact ih0 _ _ _ _ _ _
      | exact spec_suTotals.mono _ _ _
      | exact LeO.none _
      | refine LeO.ite ?_ ?_
      | refine LeO.bind ?_ (fun _ => ?_)
set_option maxHeartbeats 8000000 in
set_option maxRecDepth 100000 in
theorem spec_suBest.calls (k : Nat) (A0 : Option Addr) (c0 : Nat) (l0 : List (S54)) (a1_0 : Int) (a1_1 : Int) (r1 : List (List Int)) (r2 : Int) (w : World) (hr0 : Kd.C k54 w A0 l0.length l0) (hc0 : l0.length ≤ c0) (h : spec_suBest.f k l0 a1_0 a1_1 = some (r1, r2)) :
    Calls Try.prog 58 #[.slice A0 l0.length c0, .agg #[.int .i64 a1_0, .int .i64 a1_1]] w fun e w' => ∃ v0_ : Value, e = .returned (.tuple #[v0_, .int .i64 r2]) ∧ Kd.N (Kd.slice 3 (Kd.int .i64)) 29 w' w.heap.size (fun k_ => (w.heap.size ≤ k_)) v0_ r1 ∧ Below w.heap.size w w' := by
  have hu39 := Try.underlying39
  have HR0 := Aside0.mk hr0
  have HC0 := Aside0.mk hc0
  clear hr0 hc0
  have HB := Aside0.mk (Below.refl w.heap.size w)
  have H : ((spec_suAll.f l0 a1_0 a1_1).bind fun t389 => (spec_suBest.l0 k l0 ([] : List (List Int)) 0 t389 (t389.length : Int) 0)) = some (r1, r2) := h
  clear h
  replace H := Option.bind_eq_some_iff.mp H
  obtain ⟨t389, A30, H⟩ := H
  replace H : (spec_suBest.l0 k l0 ([] : List (List Int)) 0 t389 (t389.length : Int) 0) = some (r1, r2) := H
  have A3 := Aside0.mk A30
  clear A30
  have H' := Aside0.mk H
  clear H
  go_enter Try.func58, Try.ntmps58
  go_wp2_with (first | ((with_reducible refine gate_dst (N := 3) rfl ?_); refine box_event ?hg (N := 3) ?hd (cs := #[.int .i64 a1_0, .int .i64 a1_1]) (t := 39) ?hr ?_; (case hd => rfl); (case hg => rfl); (case hr => first | (go_simp; done) | (go_simp; rfl)); intro gb388 hg w4 hbox hb; have n0_ := Aside0.mk (below_step (by repeat (first | (with_reducible first | exact HB.out | apply below_alloc | apply pw_below_drewN | apply below_drew1) | exact HB.out)) hb); have n1_ := Aside0.mk (hbox); have n2_ := Aside0.mk ((by rw [hg]; exact (below_size (by repeat (first | (with_reducible first | exact HB.out | apply below_alloc | apply pw_below_drewN | apply below_drew1) | exact HB.out))) : w.heap.size ≤ gb388)); have n3_ := Aside0.mk ((by rw [hg]; exact (below_size (by repeat (first | (with_reducible first | exact HB.out | apply below_alloc | apply pw_below_drewN | apply below_drew1) | exact HB.out))) : w.heap.size ≤ gb388)); clear HB; have HB := n0_; have BK388 := n1_; have GW388 := n2_; have GE388 := n3_; clear n0_ n1_ n2_ n3_; clear hb hbox hg; have hcz5_0 : w4.cell? ⟨gb388, 0, none⟩ = some (.int .i64 a1_0) := (blk_cell BK388.out 0).trans rfl; have hcz5_1 : w4.cell? ⟨gb388, 1, none⟩ = some (.int .i64 a1_1) := (blk_cell BK388.out 1).trans rfl; have hfz5_0 := blk_frozen BK388.out 0; have hfz5_1 := blk_frozen BK388.out 1) | ((with_reducible refine gate_callee (f := 50) rfl ?_); refine goesL_ (some 15) rfl rfl Try.func50 (by kernel_rfl) rfl #[.slice A0 l0.length c0, .agg #[.int .i64 a1_0, .int .i64 a1_1]] rfl (by (try simp only [List.map_toArray, List.map_cons, List.map_nil]); first | done | rfl | (simp only [List.length_drop, List.length_take]; rfl)) ?_; (with_reducible refine (spec_suAll.calls _ _ l0 a1_0 a1_1 t389 _ ?side1 ?side2 A3.out).mono ?_); (case side1 => repeat (first | exact (Kd.C_below HR0.out HB.out) | (with_reducible refine Kd.C_alloc ?_ _) | (with_reducible refine Kd.C_drewN ?_ _) | (with_reducible refine Kd.C_drew ?_))); (case side2 => exact HC0.out); rintro e w6 ⟨v390, rfl, ho0, hb⟩; refine ⟨_, rfl, ?_⟩; have n0_ := Aside0.mk (Kd.N_lower (Kd.N_mono (ok' := fun k_ => (w.heap.size ≤ k_) ∧ k_ ≠ gb388) ho0 (fun k_ hk_ => ⟨(Nat.le_trans (below_size (by repeat (first | (with_reducible first | exact HB.out | apply below_alloc | apply pw_below_drewN | apply below_drew1 | refine below_set ?_ GE388.out) | exact HB.out))) hk_), (Kd.freshB (g := gb388) (o := .cells #[.int .i64 a1_0, .int .i64 a1_1] 39 (0, 0)) (by (with_reducible repeat (first | refine blk_drewN ?_ _ | refine blk_drew ?_ | refine blk_alloc ?_ _)); exact BK388.out) k_ hk_)⟩)) (below_size (by repeat (first | (with_reducible first | exact HB.out | apply below_alloc | apply pw_below_drewN | apply below_drew1 | refine below_set ?_ GE388.out) | exact HB.out)))); have n1_ := Aside0.mk (blk_below (g := gb388) (o := .cells #[.int .i64 a1_0, .int .i64 a1_1] 39 (0, 0)) (by (with_reducible repeat (first | refine blk_drewN ?_ _ | refine blk_drew ?_ | refine blk_alloc ?_ _)); exact BK388.out) hb); have n2_ := Aside0.mk (below_step (by repeat (first | (with_reducible first | exact HB.out | apply below_alloc | apply pw_below_drewN | apply below_drew1 | refine below_set ?_ GE388.out) | exact HB.out)) hb); clear BK388; clear HB; have HO391 := n0_; have BK388 := n1_; have HB := n2_; clear n0_ n1_ n2_; (try clear hb); (try clear hb2); (try clear hk); (try clear hi); (try clear ho0); obtain ⟨Ao7, co7, eo7⟩ := Kd.N_slice HO391.out; subst eo7))
  go_loopg [6, 7, 17] k (fun kq v6 v7 v17 w' => ∃ (x6_1 : List (List Int)) (x7_1 : Int) (x17_1 : Int), v7 = .int .i64 x7_1 ∧ v17 = .int .i64 x17_1 ∧ Aside0 (spec_suBest.l0 kq l0 x6_1 x7_1 t389 (t389.length : Int) x17_1 = some (r1, r2)) ∧ Aside0 (kq ≤ k) ∧ Aside0 (Kd.N (Kd.slice 3 (Kd.int .i64)) 29 w' w.heap.size (fun k_ => (w.heap.size ≤ k_) ∧ some k_ ≠ ((.slice Ao7 t389.length co7) : Value).ownBlock ∧ k_ ≠ gb388) v6 x6_1) ∧ Aside0 (Kd.N (Kd.slice 3 (Kd.int .i64)) 29 w' w.heap.size (fun k_ => (w.heap.size ≤ k_) ∧ some k_ ≠ (v6 : Value).ownBlock ∧ k_ ≠ gb388) (.slice Ao7 t389.length co7) t389) ∧ Aside0 (w'.heap[gb388]? = some (.cells #[.int .i64 a1_0, .int .i64 a1_1] 39 (0, 0))) ∧ Aside0 (Below w.heap.size w w'))
  case atStart => exact ⟨(([] : List (List Int))), (0), (0), (by first | rfl | (simp; done) | (simp [*]; done)), (by first | rfl | (simp; done) | (simp [*]; done)), H', ⟨Nat.le_refl _⟩, ⟨by first | exact Kd.S_nil _ _ _ _ _ | exact Kd.N_nil _ _ _ _ _ | exact Kd.V_nil _ _ _ _ _ | exact Kd.Q_nil _ _ _ _ _ | exact Kd.R_nil _ _ _ _ _⟩, ⟨by (with_reducible repeat (first | apply Kd.N_alloc | apply Kd.N_drewN | apply Kd.N_drew)); exact Kd.N_mono HO391.out (fun _ hk => ⟨hk.1, ⟨(by simp [Value.ownBlock]), hk.2⟩⟩)⟩, ⟨by (with_reducible repeat (first | refine blk_drewN ?_ _ | refine blk_drew ?_ | refine blk_alloc ?_ _)); exact BK388.out⟩, ⟨by repeat (first | (with_reducible first | exact HB.out | apply below_alloc | apply pw_below_drewN | apply below_drew1 | refine below_set ?_ GE388.out) | exact HB.out)⟩⟩
  case round =>
    clear H'
    try clear p2
    try clear c5
    try clear hcz5_0
    try clear hcz5_1
    try clear hfz5_0
    try clear hfz5_1
    obtain ⟨x6_1, x7_1, x17_1, rfl, rfl, HA, HK1, HO_6, HO_15, BK388, HB⟩ := hrel
    cases gk with
    | zero => exact absurd HA.out (by simp [spec_suBest.l0])
    | succ k1 =>
      have H := HA.out
      clear HA
      rw [spec_suBest.l0] at H
      by_cases c8 : x17_1 < (t389.length : Int)
      · rw [if_pos c8] at H
        have c8b0 : decide (x17_1 < (t389.length : Int)) = true := decide_eq_true c8
        clear c8
        by_cases c9 : 0 ≤ x17_1
        · rw [if_pos c9] at H
          have c9b0 : decide (0 ≤ x17_1) = true := decide_eq_true c9
          clear c9
          by_cases c10 : x17_1 < (t389.length : Int)
          · rw [if_pos c10] at H
            have c10b0 : decide (x17_1 < (t389.length : Int)) = true := decide_eq_true c10
            clear c10
            replace H := Option.bind_eq_some_iff.mp H
            obtain ⟨⟨t393, t394, t395⟩, A110, H⟩ := H
            replace H : (if t395 > x7_1 then (if t395 = t395 then (if ([] : List (List Int)).length < 5864062014805 then (spec_suBest.l0 k1 l0 (([] : List (List Int)) ++ [rd_L7 t389 x17_1]) t395 t389 (t389.length : Int) (wrap64 (x17_1 + 1))) else (none)) else (spec_suBest.l0 k1 l0 ([] : List (List Int)) t395 t389 (t389.length : Int) (wrap64 (x17_1 + 1)))) else (if t395 = x7_1 then (if x6_1.length < 5864062014805 then (spec_suBest.l0 k1 l0 (x6_1 ++ [rd_L7 t389 x17_1]) x7_1 t389 (t389.length : Int) (wrap64 (x17_1 + 1))) else (none)) else (spec_suBest.l0 k1 l0 x6_1 x7_1 t389 (t389.length : Int) (wrap64 (x17_1 + 1))))) = some (r1, r2) := H
            have A11 := Aside0.mk A110
            clear A110
            by_cases c12 : t395 > x7_1
            · rw [if_pos c12] at H
              have c12b0 : decide (x7_1 < t395) = true := decide_eq_true c12
              clear c12
              by_cases c13 : t395 = t395
              · rw [if_pos c13] at H
                have c13b0 : (t395 == t395) = true := beq_iff_eq.mpr c13
                have c13b1 : (t395 != t395) = false := bne_eq_false_iff_eq.mpr c13
                clear c13
                by_cases c14 : ([] : List (List Int)).length < 5864062014805
                · rw [if_pos c14] at H
                  have LMc14 := Aside0.mk c14
                  clear c14
                  obtain ⟨y396, hy396⟩ : ∃ y_ : List (List Int), y_ = (([] : List (List Int)) ++ [rd_L7 t389 x17_1]) := ⟨_, rfl⟩
                  replace H : (spec_suBest.l0 k1 l0 y396 t395 t389 (t389.length : Int) (wrap64 (x17_1 + 1))) = some (r1, r2) := by first | (rw [hy396]; with_reducible exact H) | (have H2_ := (Option.bind_some _ _).symm.trans H; rw [hy396]; with_reducible exact H2_) | (have H2_ := (Option.bind_some _ _).symm.trans H; with_reducible exact H2_) | with_reducible exact H | (rw [hy396]; exact H) | exact H
                  have Ny396 := Aside0.mk hy396
                  clear hy396
                  have H' := Aside0.mk H
                  clear H
                  have p392 : 0 ≤ (x17_1 : Int) := of_decide_eq_true (by first | (with_reducible assumption) | assumption)
                  have q392 : x17_1 < (t389.length : Int) := of_decide_eq_true (by first | (with_reducible assumption) | assumption)
                  obtain ⟨ad392, A392_0, c392_0, e392, hx392_0, hl392_0, hi392_0⟩ := at_L7 (Kd.N_reads' HO_15.out).2.2 x17_1 p392 q392
                  cases e392
                  obtain ⟨ce392, hce392, hMe392, hcc392⟩ := Kd.N_get HO_15.out [] x17_1 p392 (by first | exact q392 | exact of_decide_eq_true (by first | (with_reducible assumption) | assumption) | (have e_ := (Kd.N_reads' HO_15.out).1; omega))
                  obtain ⟨ua392_0, uc392_0, rfl, ul392_0, ge392_0⟩ := Kd.FK_slice_open hMe392
                  have hv392_0 := hcc392 0 _ rfl
                  rw [Nat.add_zero, show ((Kd.slice 3 (Kd.int .i64))).sz = 1 from rfl, Nat.mul_one] at hv392_0
                  replace hv392_0 := Option.some.inj (hv392_0.symm.trans hx392_0)
                  injection hv392_0 with hva_ hvn_ hvc_
                  rw [hva_] at ge392_0
                  rw [hvc_] at ul392_0
                  have HL392_0 := Aside0.mk (show Kd.V (Kd.int .i64) 3 _ w.heap.size _ _ (rd_L7 t389 x17_1) from Kd.V_mk ul392_0 ge392_0)
                  clear hva_ hvn_ hvc_ ge392_0 ul392_0
                  clear hcc392 hce392
                  have HR392_0 := Aside0.mk hi392_0
                  have HC392_0 := Aside0.mk hl392_0
                  clear hi392_0 hl392_0
                  replace p392 := eq_true p392
                  replace q392 := eq_true q392
                  go_wp2_with (first | ((with_reducible refine gate_callee (f := 54) rfl ?_); refine goesL_ (some 24) rfl rfl Try.func54 (by kernel_rfl) rfl #[.slice A0 l0.length c0, .slice A392_0 (rd_L7 t389 x17_1).length c392_0] rfl (by (try simp only [List.map_toArray, List.map_cons, List.map_nil]); first | done | rfl | (simp only [List.length_drop, List.length_take]; rfl)) ?_; (with_reducible refine (spec_suTotals.calls k1 _ _ l0 _ _ (rd_L7 t389 x17_1) t393 t394 t395 _ ?side1 ?side2 ?side3 ?side4 A11.out).mono ?_); (case side1 => repeat (first | exact (Kd.C_below HR0.out HB.out) | (with_reducible refine Kd.C_alloc ?_ _) | (with_reducible refine Kd.C_drewN ?_ _) | (with_reducible refine Kd.C_drew ?_))); (case side2 => exact HC0.out); (case side3 => repeat (first | exact (by repeat (first | (with_reducible exact HR392_0.out) | (with_reducible refine Kd.C_alloc ?_ _) | (with_reducible refine Kd.C_drewN ?_ _) | (with_reducible refine Kd.C_drew ?_) | exact HR392_0.out)) | (with_reducible refine Kd.C_alloc ?_ _) | (with_reducible refine Kd.C_drewN ?_ _) | (with_reducible refine Kd.C_drew ?_))); (case side4 => exact HC392_0.out); rintro e w' ⟨rfl, ⟨nd, rfl⟩⟩; refine ⟨_, rfl, ?_⟩) | ((with_reducible refine gate_builtin (b := .append) (xs := #[.tmp 35, .tmp 37]) rfl ?_); at_builtin; refine Kd.N_append (Kd.slice 3 (Kd.int .i64)) (w0 := w) w.heap.size rfl (.tmp 35) (.tmp 37) 65 29 (.slice none 0 0) 24 rfl Try.underlying65 info29 rfl (by decide) (by omega) (.slice none 0 0) ([] : List (List Int)) (rd_L7 t389 x17_1) [.slice A392_0 (rd_L7 t389 x17_1).length c392_0] (fun k_ => (w.heap.size ≤ k_) ∧ some k_ ≠ (u6 : Value).ownBlock ∧ some k_ ≠ (.slice (some ad392) t389.length co7 : Value).ownBlock ∧ k_ ≠ gb388) (fun k_ => ((fun k_ => (w.heap.size ≤ k_) ∧ some k_ ≠ (u6 : Value).ownBlock ∧ some k_ ≠ (.slice (some ad392) t389.length co7 : Value).ownBlock ∧ k_ ≠ gb388)) k_ ∧ some k_ ≠ (.slice none 0 0 : Value).ownBlock) rfl rfl ?aP (fun _ hk => hk) ?aF ?aO ?aB ?aS ?aL ?_; (case aP => exact (Kd.FK_slice_mk (Kd.V_reads' (Kd.V_mono (ok' := (fun k_ => ((fun k_ => (w.heap.size ≤ k_) ∧ some k_ ≠ (u6 : Value).ownBlock ∧ some k_ ≠ (.slice (some ad392) t389.length co7 : Value).ownBlock ∧ k_ ≠ gb388)) k_ ∧ some k_ ≠ (.slice none 0 0 : Value).ownBlock)) (HL392_0.out) (fun k_ hk => ⟨⟨hk.1.1, ⟨hk.1.2.1, ⟨hk.2, hk.1.2.2⟩⟩⟩, (by simp [Value.ownBlock])⟩))).2.1 (Kd.V_F (Kd.V_mono (ok' := (fun k_ => ((fun k_ => (w.heap.size ≤ k_) ∧ some k_ ≠ (u6 : Value).ownBlock ∧ some k_ ≠ (.slice (some ad392) t389.length co7 : Value).ownBlock ∧ k_ ≠ gb388)) k_ ∧ some k_ ≠ (.slice none 0 0 : Value).ownBlock)) (Kd.V_drewN HL392_0.out _) (fun k_ hk => ⟨⟨hk.1.1, ⟨hk.1.2.1, ⟨hk.2, hk.1.2.2⟩⟩⟩, (by simp [Value.ownBlock])⟩))))); (case aB => exact (by repeat (first | (with_reducible first | exact HB.out | apply below_alloc | apply pw_below_drewN | apply below_drew1 | refine below_set ?_ GE388.out) | exact HB.out))); (case aF => exact (fun k_ hk => ⟨(Nat.le_trans (below_size (by repeat (first | (with_reducible first | exact HB.out | apply below_alloc | apply pw_below_drewN | apply below_drew1 | refine below_set ?_ GE388.out) | exact HB.out))) hk), Kd.fresh' (Kd.N_lt (by (with_reducible repeat (first | apply Kd.N_alloc | apply Kd.N_drewN | apply Kd.N_drew)); exact HO_6.out)) k_ hk, Kd.fresh' (Kd.N_lt (by (with_reducible repeat (first | apply Kd.N_alloc | apply Kd.N_drewN | apply Kd.N_drew)); exact HO_15.out)) k_ hk, Kd.freshB (g := gb388) (o := .cells #[.int .i64 a1_0, .int .i64 a1_1] 39 (0, 0)) (by (with_reducible repeat (first | refine blk_drewN ?_ _ | refine blk_drew ?_ | refine blk_alloc ?_ _)); exact BK388.out) k_ hk⟩)); (case aO => exact ((Kd.N_nil _ _ _ _ (fun k_ => (w.heap.size ≤ k_) ∧ some k_ ≠ (u6 : Value).ownBlock ∧ some k_ ≠ (.slice (some ad392) t389.length co7 : Value).ownBlock ∧ k_ ≠ gb388)))); (case aS => exact (below_size (by repeat (first | (with_reducible first | exact HB.out | apply below_alloc | apply pw_below_drewN | apply below_drew1 | refine below_set ?_ GE388.out) | exact HB.out)))); (case aL => have := LMc14.out; omega); intro v397 w15 ho hb hg hat; rw [← Ny396.out] at ho; have n0_ := Aside0.mk (Kd.N_afterv (Kd.N_apart_nil (by (with_reducible repeat (first | apply Kd.N_alloc | apply Kd.N_drewN | apply Kd.N_drew)); exact HO_6.out)) hg hat); have n1_ := Aside0.mk (Kd.N_afterv (Kd.N_apart_nil (by (with_reducible repeat (first | apply Kd.N_alloc | apply Kd.N_drewN | apply Kd.N_drew)); exact HO_15.out)) hg hat); have n2_ := Aside0.mk (blk_grown (g := gb388) (o := .cells #[.int .i64 a1_0, .int .i64 a1_1] 39 (0, 0)) (by (with_reducible repeat (first | refine blk_drewN ?_ _ | refine blk_drew ?_ | refine blk_alloc ?_ _)); exact BK388.out) hg (by simp [Value.ownBlock])); have n3_ := Aside0.mk (Kd.V_afterv (Kd.V_apart_nil (by (with_reducible repeat (first | apply Kd.V_alloc | apply Kd.V_drewN | apply Kd.V_drew)); exact HL392_0.out)) hg hat); have n4_ := Aside0.mk (hb); have n5_ := Aside0.mk (ho); clear HO_6; clear HO_15; clear BK388; clear HL392_0; clear HB; have HO_6 := n0_; have HO_15 := n1_; have BK388 := n2_; have HL392_0 := n3_; have HB := n4_; have HO398 := n5_; clear n0_ n1_ n2_ n3_ n4_ n5_; clear ho hb hg hat))
                  go_roundg k1
                  case measure => have := HK1.out; omega
                  case rel => exact ⟨(y396), (t395), (wrap64 (x17_1 + 1)), (by first | rfl | (simp; done) | (simp [*]; done)), (by first | rfl | (simp; done) | (simp [*]; done)), H', ⟨by have := HK1.out; omega⟩, ⟨by (with_reducible repeat (first | apply Kd.N_alloc | apply Kd.N_drewN | apply Kd.N_drew)); exact Kd.N_mono HO398.out (fun _ hk => ⟨hk.1, ⟨hk.2.2.1, hk.2.2.2⟩⟩)⟩, ⟨by (with_reducible repeat (first | apply Kd.N_alloc | apply Kd.N_drewN | apply Kd.N_drew)); exact Kd.N_mono HO_15.out (fun _ hk => ⟨hk.1.1, ⟨hk.2, hk.1.2.2⟩⟩)⟩, ⟨by (with_reducible repeat (first | refine blk_drewN ?_ _ | refine blk_drew ?_ | refine blk_alloc ?_ _)); exact BK388.out⟩, ⟨by repeat (first | (with_reducible first | exact HB.out | apply below_alloc | apply pw_below_drewN | apply below_drew1 | refine below_set ?_ GE388.out) | exact HB.out)⟩⟩
                · rw [if_neg c14] at H
                  exact absurd H (by simp)
              · exact absurd rfl c13
            · rw [if_neg c12] at H
              have c12b0 : decide (x7_1 < t395) = false := decide_eq_false c12
              clear c12
              by_cases c16 : t395 = x7_1
              · rw [if_pos c16] at H
                have c16b0 : (t395 == x7_1) = true := beq_iff_eq.mpr c16
                have c16b1 : (t395 != x7_1) = false := bne_eq_false_iff_eq.mpr c16
                clear c16
                by_cases c17 : x6_1.length < 5864062014805
                · rw [if_pos c17] at H
                  have LMc17 := Aside0.mk c17
                  clear c17
                  obtain ⟨y399, hy399⟩ : ∃ y_ : List (List Int), y_ = (x6_1 ++ [rd_L7 t389 x17_1]) := ⟨_, rfl⟩
                  replace H : (spec_suBest.l0 k1 l0 y399 x7_1 t389 (t389.length : Int) (wrap64 (x17_1 + 1))) = some (r1, r2) := by first | (rw [hy399]; with_reducible exact H) | (have H2_ := (Option.bind_some _ _).symm.trans H; rw [hy399]; with_reducible exact H2_) | (have H2_ := (Option.bind_some _ _).symm.trans H; with_reducible exact H2_) | with_reducible exact H | (rw [hy399]; exact H) | exact H
                  have Ny399 := Aside0.mk hy399
                  clear hy399
                  have H' := Aside0.mk H
                  clear H
                  have p392 : 0 ≤ (x17_1 : Int) := of_decide_eq_true (by first | (with_reducible assumption) | assumption)
                  have q392 : x17_1 < (t389.length : Int) := of_decide_eq_true (by first | (with_reducible assumption) | assumption)
                  obtain ⟨ad392, A392_0, c392_0, e392, hx392_0, hl392_0, hi392_0⟩ := at_L7 (Kd.N_reads' HO_15.out).2.2 x17_1 p392 q392
                  cases e392
                  obtain ⟨ce392, hce392, hMe392, hcc392⟩ := Kd.N_get HO_15.out [] x17_1 p392 (by first | exact q392 | exact of_decide_eq_true (by first | (with_reducible assumption) | assumption) | (have e_ := (Kd.N_reads' HO_15.out).1; omega))
                  obtain ⟨ua392_0, uc392_0, rfl, ul392_0, ge392_0⟩ := Kd.FK_slice_open hMe392
                  have hv392_0 := hcc392 0 _ rfl
                  rw [Nat.add_zero, show ((Kd.slice 3 (Kd.int .i64))).sz = 1 from rfl, Nat.mul_one] at hv392_0
                  replace hv392_0 := Option.some.inj (hv392_0.symm.trans hx392_0)
                  injection hv392_0 with hva_ hvn_ hvc_
                  rw [hva_] at ge392_0
                  rw [hvc_] at ul392_0
                  have HL392_0 := Aside0.mk (show Kd.V (Kd.int .i64) 3 _ w.heap.size _ _ (rd_L7 t389 x17_1) from Kd.V_mk ul392_0 ge392_0)
                  clear hva_ hvn_ hvc_ ge392_0 ul392_0
                  clear hcc392 hce392
                  have HR392_0 := Aside0.mk hi392_0
                  have HC392_0 := Aside0.mk hl392_0
                  clear hi392_0 hl392_0
                  replace p392 := eq_true p392
                  replace q392 := eq_true q392
                  go_wp2_with (first | ((with_reducible refine gate_callee (f := 54) rfl ?_); refine goesL_ (some 24) rfl rfl Try.func54 (by kernel_rfl) rfl #[.slice A0 l0.length c0, .slice A392_0 (rd_L7 t389 x17_1).length c392_0] rfl (by (try simp only [List.map_toArray, List.map_cons, List.map_nil]); first | done | rfl | (simp only [List.length_drop, List.length_take]; rfl)) ?_; (with_reducible refine (spec_suTotals.calls k1 _ _ l0 _ _ (rd_L7 t389 x17_1) t393 t394 t395 _ ?side1 ?side2 ?side3 ?side4 A11.out).mono ?_); (case side1 => repeat (first | exact (Kd.C_below HR0.out HB.out) | (with_reducible refine Kd.C_alloc ?_ _) | (with_reducible refine Kd.C_drewN ?_ _) | (with_reducible refine Kd.C_drew ?_))); (case side2 => exact HC0.out); (case side3 => repeat (first | exact (by repeat (first | (with_reducible exact HR392_0.out) | (with_reducible refine Kd.C_alloc ?_ _) | (with_reducible refine Kd.C_drewN ?_ _) | (with_reducible refine Kd.C_drew ?_) | exact HR392_0.out)) | (with_reducible refine Kd.C_alloc ?_ _) | (with_reducible refine Kd.C_drewN ?_ _) | (with_reducible refine Kd.C_drew ?_))); (case side4 => exact HC392_0.out); rintro e w' ⟨rfl, ⟨nd, rfl⟩⟩; refine ⟨_, rfl, ?_⟩) | ((with_reducible refine gate_builtin (b := .append) (xs := #[.tmp 35, .tmp 37]) rfl ?_); at_builtin; refine Kd.N_append (Kd.slice 3 (Kd.int .i64)) (w0 := w) w.heap.size rfl (.tmp 35) (.tmp 37) 65 29 (.slice none 0 0) 24 rfl Try.underlying65 info29 rfl (by decide) (by omega) u6 x6_1 (rd_L7 t389 x17_1) [.slice A392_0 (rd_L7 t389 x17_1).length c392_0] (fun k_ => (w.heap.size ≤ k_) ∧ some k_ ≠ (.slice (some ad392) t389.length co7 : Value).ownBlock ∧ k_ ≠ gb388) (fun k_ => ((fun k_ => (w.heap.size ≤ k_) ∧ some k_ ≠ (.slice (some ad392) t389.length co7 : Value).ownBlock ∧ k_ ≠ gb388)) k_ ∧ some k_ ≠ (u6 : Value).ownBlock) rfl rfl ?aP (fun _ hk => hk) ?aF ?aO ?aB ?aS ?aL ?_; (case aP => exact (Kd.FK_slice_mk (Kd.V_reads' (Kd.V_mono (ok' := (fun k_ => ((fun k_ => (w.heap.size ≤ k_) ∧ some k_ ≠ (.slice (some ad392) t389.length co7 : Value).ownBlock ∧ k_ ≠ gb388)) k_ ∧ some k_ ≠ (u6 : Value).ownBlock)) (HL392_0.out) (fun k_ hk => ⟨⟨hk.1.1, ⟨hk.2, hk.1.2.2⟩⟩, hk.1.2.1⟩))).2.1 (Kd.V_F (Kd.V_mono (ok' := (fun k_ => ((fun k_ => (w.heap.size ≤ k_) ∧ some k_ ≠ (.slice (some ad392) t389.length co7 : Value).ownBlock ∧ k_ ≠ gb388)) k_ ∧ some k_ ≠ (u6 : Value).ownBlock)) (Kd.V_drewN HL392_0.out _) (fun k_ hk => ⟨⟨hk.1.1, ⟨hk.2, hk.1.2.2⟩⟩, hk.1.2.1⟩))))); (case aB => exact (by repeat (first | (with_reducible first | exact HB.out | apply below_alloc | apply pw_below_drewN | apply below_drew1 | refine below_set ?_ GE388.out) | exact HB.out))); (case aF => exact (fun k_ hk => ⟨(Nat.le_trans (below_size (by repeat (first | (with_reducible first | exact HB.out | apply below_alloc | apply pw_below_drewN | apply below_drew1 | refine below_set ?_ GE388.out) | exact HB.out))) hk), Kd.fresh' (Kd.N_lt (by (with_reducible repeat (first | apply Kd.N_alloc | apply Kd.N_drewN | apply Kd.N_drew)); exact HO_15.out)) k_ hk, Kd.freshB (g := gb388) (o := .cells #[.int .i64 a1_0, .int .i64 a1_1] 39 (0, 0)) (by (with_reducible repeat (first | refine blk_drewN ?_ _ | refine blk_drew ?_ | refine blk_alloc ?_ _)); exact BK388.out) k_ hk⟩)); (case aO => exact (by (with_reducible repeat (first | apply Kd.N_alloc | apply Kd.N_drewN | apply Kd.N_drew)); exact HO_6.out)); (case aS => exact (below_size (by repeat (first | (with_reducible first | exact HB.out | apply below_alloc | apply pw_below_drewN | apply below_drew1 | refine below_set ?_ GE388.out) | exact HB.out)))); (case aL => have := LMc17.out; omega); intro v400 w18 ho hb hg hat; rw [← Ny399.out] at ho; have n0_ := Aside0.mk (Kd.N_afterv (ok := (fun k_ => (w.heap.size ≤ k_) ∧ k_ ≠ gb388)) (by (with_reducible repeat (first | apply Kd.N_alloc | apply Kd.N_drewN | apply Kd.N_drew)); exact Kd.N_mono HO_15.out (fun _ hk => ⟨⟨hk.1, hk.2.2⟩, hk.2.1⟩)) hg hat); have n1_ := Aside0.mk (blk_grown (g := gb388) (o := .cells #[.int .i64 a1_0, .int .i64 a1_1] 39 (0, 0)) (by (with_reducible repeat (first | refine blk_drewN ?_ _ | refine blk_drew ?_ | refine blk_alloc ?_ _)); exact BK388.out) hg (Kd.N_ne HO_6.out BK388.out (by decide))); have n2_ := Aside0.mk (Kd.V_afterv (ok := (fun k_ => (w.heap.size ≤ k_) ∧ some k_ ≠ (.slice (some ad392) t389.length co7 : Value).ownBlock ∧ k_ ≠ gb388)) (by (with_reducible repeat (first | apply Kd.V_alloc | apply Kd.V_drewN | apply Kd.V_drew)); exact Kd.V_mono HL392_0.out (fun _ hk => ⟨⟨hk.1.1, ⟨hk.2, hk.1.2.2⟩⟩, hk.1.2.1⟩)) hg hat); have n3_ := Aside0.mk (hb); have n4_ := Aside0.mk (ho); clear HO_15; clear BK388; clear HL392_0; clear HB; clear HO_6; have HO_15 := n0_; have BK388 := n1_; have HL392_0 := n2_; have HB := n3_; have HO401 := n4_; clear n0_ n1_ n2_ n3_ n4_; clear ho hb hg hat))
                  go_roundg k1
                  case measure => have := HK1.out; omega
                  case rel => exact ⟨(y399), (x7_1), (wrap64 (x17_1 + 1)), (by first | rfl | (simp; done) | (simp [*]; done)), (by first | rfl | (simp; done) | (simp [*]; done)), H', ⟨by have := HK1.out; omega⟩, ⟨by (with_reducible repeat (first | apply Kd.N_alloc | apply Kd.N_drewN | apply Kd.N_drew)); exact HO401.out⟩, ⟨by (with_reducible repeat (first | apply Kd.N_alloc | apply Kd.N_drewN | apply Kd.N_drew)); exact Kd.N_mono HO_15.out (fun _ hk => ⟨hk.1.1, ⟨hk.2, hk.1.2⟩⟩)⟩, ⟨by (with_reducible repeat (first | refine blk_drewN ?_ _ | refine blk_drew ?_ | refine blk_alloc ?_ _)); exact BK388.out⟩, ⟨by repeat (first | (with_reducible first | exact HB.out | apply below_alloc | apply pw_below_drewN | apply below_drew1 | refine below_set ?_ GE388.out) | exact HB.out)⟩⟩
                · rw [if_neg c17] at H
                  exact absurd H (by simp)
              · rw [if_neg c16] at H
                have c16b0 : (t395 == x7_1) = false := beq_eq_false_iff_ne.mpr c16
                have c16b1 : (t395 != x7_1) = true := bne_iff_ne.mpr c16
                have H' := Aside0.mk H
                clear H
                have p392 : 0 ≤ (x17_1 : Int) := of_decide_eq_true (by first | (with_reducible assumption) | assumption)
                have q392 : x17_1 < (t389.length : Int) := of_decide_eq_true (by first | (with_reducible assumption) | assumption)
                obtain ⟨ad392, A392_0, c392_0, e392, hx392_0, hl392_0, hi392_0⟩ := at_L7 (Kd.N_reads' HO_15.out).2.2 x17_1 p392 q392
                cases e392
                obtain ⟨ce392, hce392, hMe392, hcc392⟩ := Kd.N_get HO_15.out [] x17_1 p392 (by first | exact q392 | exact of_decide_eq_true (by first | (with_reducible assumption) | assumption) | (have e_ := (Kd.N_reads' HO_15.out).1; omega))
                obtain ⟨ua392_0, uc392_0, rfl, ul392_0, ge392_0⟩ := Kd.FK_slice_open hMe392
                have hv392_0 := hcc392 0 _ rfl
                rw [Nat.add_zero, show ((Kd.slice 3 (Kd.int .i64))).sz = 1 from rfl, Nat.mul_one] at hv392_0
                replace hv392_0 := Option.some.inj (hv392_0.symm.trans hx392_0)
                injection hv392_0 with hva_ hvn_ hvc_
                rw [hva_] at ge392_0
                rw [hvc_] at ul392_0
                have HL392_0 := Aside0.mk (show Kd.V (Kd.int .i64) 3 _ w.heap.size _ _ (rd_L7 t389 x17_1) from Kd.V_mk ul392_0 ge392_0)
                clear hva_ hvn_ hvc_ ge392_0 ul392_0
                clear hcc392 hce392
                have HR392_0 := Aside0.mk hi392_0
                have HC392_0 := Aside0.mk hl392_0
                clear hi392_0 hl392_0
                replace p392 := eq_true p392
                replace q392 := eq_true q392
                go_wp2_with (first | ((with_reducible refine gate_callee (f := 54) rfl ?_); refine goesL_ (some 24) rfl rfl Try.func54 (by kernel_rfl) rfl #[.slice A0 l0.length c0, .slice A392_0 (rd_L7 t389 x17_1).length c392_0] rfl (by (try simp only [List.map_toArray, List.map_cons, List.map_nil]); first | done | rfl | (simp only [List.length_drop, List.length_take]; rfl)) ?_; (with_reducible refine (spec_suTotals.calls k1 _ _ l0 _ _ (rd_L7 t389 x17_1) t393 t394 t395 _ ?side1 ?side2 ?side3 ?side4 A11.out).mono ?_); (case side1 => repeat (first | exact (Kd.C_below HR0.out HB.out) | (with_reducible refine Kd.C_alloc ?_ _) | (with_reducible refine Kd.C_drewN ?_ _) | (with_reducible refine Kd.C_drew ?_))); (case side2 => exact HC0.out); (case side3 => repeat (first | exact (by repeat (first | (with_reducible exact HR392_0.out) | (with_reducible refine Kd.C_alloc ?_ _) | (with_reducible refine Kd.C_drewN ?_ _) | (with_reducible refine Kd.C_drew ?_) | exact HR392_0.out)) | (with_reducible refine Kd.C_alloc ?_ _) | (with_reducible refine Kd.C_drewN ?_ _) | (with_reducible refine Kd.C_drew ?_))); (case side4 => exact HC392_0.out); rintro e w' ⟨rfl, ⟨nd, rfl⟩⟩; refine ⟨_, rfl, ?_⟩))
                go_roundg k1
                case measure => have := HK1.out; omega
                case rel => exact ⟨(x6_1), (x7_1), (wrap64 (x17_1 + 1)), (by first | rfl | (simp; done) | (simp [*]; done)), (by first | rfl | (simp; done) | (simp [*]; done)), H', ⟨by have := HK1.out; omega⟩, ⟨by (with_reducible repeat (first | apply Kd.N_alloc | apply Kd.N_drewN | apply Kd.N_drew)); exact HO_6.out⟩, ⟨by (with_reducible repeat (first | apply Kd.N_alloc | apply Kd.N_drewN | apply Kd.N_drew)); exact HO_15.out⟩, ⟨by (with_reducible repeat (first | refine blk_drewN ?_ _ | refine blk_drew ?_ | refine blk_alloc ?_ _)); exact BK388.out⟩, ⟨by repeat (first | (with_reducible first | exact HB.out | apply below_alloc | apply pw_below_drewN | apply below_drew1 | refine below_set ?_ GE388.out) | exact HB.out)⟩⟩
          · rw [if_neg c10] at H
            exact absurd H (by simp)
        · rw [if_neg c9] at H
          exact absurd H (by simp)
      · rw [if_neg c8] at H
        have c8b0 : decide (x17_1 < (t389.length : Int)) = false := decide_eq_false c8
        clear c8
        simp only [Option.some.injEq, Prod.mk.injEq] at H
        obtain ⟨rfl, rfl⟩ := H
        go_wp2
        go_ret2
        exact ⟨_, by first | rfl | (simp [errW_none, errW_some] <;> rfl) | (simp [*, errW_none, errW_some] <;> rfl), by (with_reducible repeat (first | apply Kd.N_alloc | apply Kd.N_drewN | apply Kd.N_drew)); exact Kd.N_mono HO_6.out (fun _ hk => hk.1), by repeat (first | (with_reducible first | exact HB.out | apply below_alloc | apply pw_below_drewN | apply below_drew1 | refine below_set ?_ GE388.out) | exact HB.out)⟩

end Go.Proofs.Ytgghcngfleicnaa.Q

namespace Go.Proofs.Ytgghcngfleicnaa.Q
open Go.RowKit Go.Proofs.YtgghcngfleicnaaW.PrintWords Go.Proofs.YtgghcngfleicnaaW.PrintLast Go.Proofs.YtgghcngfleicnaaW.PrintMore
set_option linter.unusedVariables false
set_option linter.unusedSimpArgs false

/-- Items are right: each number from 0 to 200. -/
def Light (items : List Item) : Prop := items.length ≤ 10 ∧ ∀ i : Int, 0 ≤ i → i < (items.length : Int) → (0 ≤ (rd_T54 items i).f0 ∧ (rd_T54 items i).f0 ≤ 200) ∧ (0 ≤ (rd_T54 items i).f1 ∧ (rd_T54 items i).f1 ≤ 200) ∧ 0 ≤ (rd_T54 items i).f2 ∧ (rd_T54 items i).f2 ≤ 200
theorem light_of {items : List Item} (hn : items.length ≤ 10) (h : ∀ x ∈ items, okItem x = true) : Light items := by
  refine ⟨hn, fun i h0 h1 => ?_⟩
  have hm : rd_T54 items i ∈ items := by
    unfold rd_T54
    rw [List.getD_eq_getElem?_getD, List.getElem?_eq_getElem (by omega)]
    exact List.getElem_mem _
  have := h _ hm
  unfold okItem at this
  simp only [Bool.and_eq_true, decide_eq_true_eq] at this
  exact ⟨by omega, by omega, by omega⟩
theorem tot_snoc (items : List Item) (ch : List Int) (i : Int) : tot items (ch ++ [i]) = addTo items (tot items ch) i := by simp [tot]
theorem tot_bound {items : List Item} (hL : Light items) : ∀ n (ch : List Int), ch.length = n → Inside items ch → n ≤ 1000 → (0 ≤ (tot items ch).1 ∧ (tot items ch).1 ≤ 200 * n) ∧ (0 ≤ (tot items ch).2.1 ∧ (tot items ch).2.1 ≤ 200 * n) ∧ 0 ≤ (tot items ch).2.2 ∧ (tot items ch).2.2 ≤ 200 * n := by
  intro n
  induction n with
  | zero => intro ch h _ _; rw [List.eq_nil_of_length_eq_zero h]; simp [tot]
  | succ n ih =>
    intro ch h hin hle
    have hne : ch ≠ [] := by intro e; subst e; simp at h
    rw [← List.dropLast_concat_getLast hne, tot_snoc]
    have hi := hin _ (List.getLast_mem hne)
    have h1 := ih ch.dropLast (by simp [h]) (fun x hx => hin x (List.dropLast_subset _ hx)) (by omega)
    have h2 := hL.2 _ hi.1 hi.2
    unfold addTo
    simp only
    rw [w64 (by omega) (by omega), w64 (by omega) (by omega), w64 (by omega) (by omega)]
    omega
theorem tot_add {items : List Item} (hL : Light items) (ch : List Int) (i : Int) (hin : Inside items ch) (hi : 0 ≤ i ∧ i < (items.length : Int)) (hl : ch.length ≤ 900) :
    (tot items (ch ++ [i])).1 = (tot items ch).1 + (rd_T54 items i).f0 ∧ (tot items (ch ++ [i])).2.1 = (tot items ch).2.1 + (rd_T54 items i).f1 ∧ (tot items (ch ++ [i])).2.2 = (tot items ch).2.2 + (rd_T54 items i).f2 := by
  have h1 := tot_bound hL _ ch rfl hin (by omega)
  have h2 := hL.2 i hi.1 hi.2
  rw [tot_snoc]
  unfold addTo
  exact ⟨w64 (by omega) (by omega), w64 (by omega) (by omega), w64 (by omega) (by omega)⟩
theorem fits_less {items : List Item} (hL : Light items) (a b : Int) (ch : List Int) (i : Int) (hin : Inside items ch) (hi : 0 ≤ i ∧ i < (items.length : Int)) (hl : ch.length ≤ 900) (h : fitsC items a b ch = false) : fitsC items a b (ch ++ [i]) = false := by
  have h1 := tot_add hL ch i hin hi hl
  have h2 := hL.2 i hi.1 hi.2
  unfold fitsC at h ⊢
  rw [h1.1, h1.2.1]
  simp only [Bool.and_eq_false_iff, decide_eq_false_iff_not] at h ⊢
  omega
theorem inside_snoc {items : List Item} {ch : List Int} {i : Nat} (h : ∀ x ∈ ch, 0 ≤ x ∧ x < (i : Int)) : ∀ x ∈ ch ++ [(i : Int)], 0 ≤ x ∧ x < ((i + 1 : Nat) : Int) := fun x hx => by
  rcases List.mem_append.1 hx with hx | hx
  · have := h x hx; omega
  · have := List.mem_singleton.1 hx; omega
theorem inside_of {items : List Item} {ch : List Int} {i : Nat} (h : ∀ x ∈ ch, 0 ≤ x ∧ x < (i : Int)) (hi : i ≤ items.length) : Inside items ch := fun x hx => by have := h x hx; omega
theorem loopV_none {items : List Item} (hL : Light items) (a b : Int) : ∀ d ch i, i + d = items.length → (∀ x ∈ ch, 0 ≤ x ∧ x < (i : Int)) → ch.length ≤ i → fitsC items a b ch = false → (loopV d ch i).filter (fitsC items a b) = [] := by
  intro d
  induction d with
  | zero => intro ch i _ _ _ _; rfl
  | succ d ih =>
    intro ch i hd hin hl hf
    have h10 := hL.1
    have hf2 := fits_less hL a b ch (i : Int) (inside_of hin (by omega)) ⟨by omega, by omega⟩ (by omega) hf
    unfold loopV
    rw [List.filter_append, List.filter_cons, if_neg (by rw [hf2]; decide), ih _ (i + 1) (by omega) (inside_snoc (items := items) hin) (by simp; omega) hf2, ih ch (i + 1) (by omega) (fun x hx => by have := hin x hx; omega) (by omega) hf]
    rfl
theorem loopV_look {items : List Item} (hL : Light items) (a b : Int) : ∀ d ch i, i + d = items.length → (∀ x ∈ ch, 0 ≤ x ∧ x < (i : Int)) → ch.length ≤ i → (loopV d ch i).filter (fitsC items a b) = lookV items a b d ch i := by
  intro d
  induction d with
  | zero => intro ch i _ _ _; rfl
  | succ d ih =>
    intro ch i hd hin hl
    have h10 := hL.1
    unfold loopV lookV
    rw [List.filter_append, List.filter_cons, ih ch (i + 1) (by omega) (fun x hx => by have := hin x hx; omega) (by omega)]
    by_cases hf : fitsC items a b (ch ++ [(i : Int)]) = true
    · rw [if_pos hf, if_pos hf, ih _ (i + 1) (by omega) (inside_snoc (items := items) hin) (by simp; omega)]
    · rw [if_neg hf, if_neg hf, loopV_none hL a b d _ (i + 1) (by omega) (inside_snoc (items := items) hin) (by simp; omega) (by simpa using hf)]
/-- All choices, in order. -/
def choicesL (items : List Item) (a b : Int) : List (List Int) := [] :: lookV items a b items.length [] 0
theorem allV_choices {items : List Item} (hL : Light items) (a b : Int) (ha : 0 ≤ a) (hb : 0 ≤ b) : (allV items.length).filter (fitsC items a b) = choicesL items a b := by
  unfold allV choicesL
  rw [List.filter_cons, if_pos (by simp [fitsC, tot, ha, hb]), loopV_look hL a b items.length [] 0 (by omega) (fun x hx => by cases hx) (by simp)]
theorem foldl_visit {σ : Type} (items : List Item) (accept : Int × Int × Int → Bool) (step : σ → List Int → σ) : ∀ (L : List (List Int)) (s : σ), L.foldl (visit items accept step) s = (L.filter (fun ch => accept (tot items ch))).foldl step s := by
  intro L
  induction L with
  | nil => intro s; rfl
  | cons ch L ih =>
    intro s
    rw [List.foldl_cons, List.filter_cons, ih]
    unfold visit
    split <;> simp
/-- What is done at each choice. -/
theorem visit_choices {σ : Type} {items : List Item} (hL : Light items) (a b : Int) (ha : 0 ≤ a) (hb : 0 ≤ b) (step : σ → List Int → σ) (s : σ) : (allV items.length).foldl (visit items (holdsC a b) step) s = (choicesL items a b).foldl step s := by
  rw [foldl_visit, ← allV_choices hL a b ha hb]
  rfl
theorem lookV_inside (items : List Item) (a b : Int) : ∀ d ch i, i + d = items.length → (∀ x ∈ ch, 0 ≤ x ∧ x < (i : Int)) → ch.length ≤ i → ∀ c ∈ lookV items a b d ch i, Inside items c ∧ c.length ≤ items.length := by
  intro d
  induction d with
  | zero => intro ch i _ _ _ c hc; cases hc
  | succ d ih =>
    intro ch i hd hin hl c hc
    unfold lookV at hc
    rcases List.mem_append.1 hc with hc | hc
    · split at hc
      · rcases List.mem_cons.1 hc with rfl | hc
        · exact ⟨inside_of (inside_snoc (items := items) hin) (by omega), by simp; omega⟩
        · exact ih _ (i + 1) (by omega) (inside_snoc (items := items) hin) (by simp; omega) c hc
      · cases hc
    · exact ih ch (i + 1) (by omega) (fun x hx => by have := hin x hx; omega) (by omega) c hc
theorem choicesL_inside (items : List Item) (a b : Int) : ∀ c ∈ choicesL items a b, Inside items c ∧ c.length ≤ items.length := by
  intro c hc
  rcases List.mem_cons.1 hc with rfl | hc
  · exact ⟨fun x hx => (by cases hx), by simp⟩
  · exact lookV_inside items a b items.length [] 0 (by omega) (fun x hx => by cases hx) (by simp) c hc
theorem choicesL_length {items : List Item} (hn : items.length ≤ 10) (a b : Int) : (choicesL items a b).length ≤ 1024 := by
  have := lookV_length items a b items.length [] 0
  have hp : 2 ^ items.length ≤ 2 ^ 10 := Nat.pow_le_pow_right (by decide) hn
  unfold choicesL
  rw [List.length_cons]
  omega

/-! ### the reference's best -/
def suStep (items : List Item) (s : List (List Int) × Int) (ch : List Int) : List (List Int) × Int :=
  if s.2 < (tot items ch).2.2 then ([ch], (tot items ch).2.2) else if (tot items ch).2.2 = s.2 then (s.1 ++ [ch], s.2) else s
theorem suBest_l0 (items : List Item) (L : List (List Int)) (hw : ∀ c ∈ L, Inside items c ∧ c.length ≤ 1000) (hn : L.length ≤ 1000000) : ∀ d k i (s : List (List Int) × Int), i + d = L.length → d + 1000 < k → s.1.length ≤ i →
    spec_suBest.l0 k items s.1 s.2 L (L.length : Int) (i : Int) = some ((L.drop i).foldl (suStep items) s) := by
  intro d
  induction d with
  | zero =>
    intro k i s hi hk _
    obtain ⟨k, rfl⟩ : ∃ m, k = m + 1 := ⟨k - 1, by omega⟩
    simp only [spec_suBest.l0]; rw [if_neg (by omega), List.drop_of_length_le (by omega)]; rfl
  | succ d ih =>
    intro k i s hi hk hs
    obtain ⟨k, rfl⟩ : ∃ m, k = m + 1 := ⟨k - 1, by omega⟩
    have hlt : i < L.length := by omega
    have hin := hw L[i] (List.getElem_mem hlt)
    have hrd : rd_L7 L (i : Int) = L[i] := by simp [rd_L7, List.getD_eq_getElem?_getD, hlt]
    simp only [spec_suBest.l0]
    rw [if_pos (by omega), if_pos (by omega), if_pos (by omega), hrd, suTotals_eq items L[i] hin.1 (by omega) k (by omega), w64 (i := (i : Int) + 1) (by omega) (by omega), List.drop_eq_getElem_cons hlt, List.foldl_cons]
    simp only [Option.bind_some, gt_iff_lt]
    by_cases h1 : s.2 < (tot items L[i]).2.2
    · rw [if_pos h1, if_pos trivial, if_pos (by simp), show suStep items s L[i] = ([L[i]], (tot items L[i]).2.2) by unfold suStep; rw [if_pos h1]]
      have := ih k (i + 1) ([L[i]], (tot items L[i]).2.2) (by omega) (by omega) (by simp)
      rw [show ((i + 1 : Nat) : Int) = (i : Int) + 1 by omega] at this
      simpa using this
    · rw [if_neg h1]
      by_cases h2 : (tot items L[i]).2.2 = s.2
      · rw [if_pos h2, if_pos (by omega), show suStep items s L[i] = (s.1 ++ [L[i]], s.2) by unfold suStep; rw [if_neg h1, if_pos h2]]
        have := ih k (i + 1) (s.1 ++ [L[i]], s.2) (by omega) (by omega) (by simp; omega)
        rw [show ((i + 1 : Nat) : Int) = (i : Int) + 1 by omega] at this
        exact this
      · rw [if_neg h2, show suStep items s L[i] = s by unfold suStep; rw [if_neg h1, if_neg h2]]
        have := ih k (i + 1) s (by omega) (by omega) (by omega)
        rw [show ((i + 1 : Nat) : Int) = (i : Int) + 1 by omega] at this
        exact this
/-- The choices with the greatest value, and this. -/
def bestL (items : List Item) (a b : Int) : List (List Int) × Int := (choicesL items a b).foldl (suStep items) ([], 0)
theorem suBest_eq (items : List Item) (a b : Int) (hn : items.length ≤ 10) (k : Nat) (hk : 3000 < k) : spec_suBest.f k items a b = some (bestL items a b) := by
  unfold spec_suBest.f spec_suAll.f
  rw [if_pos (by omega)]
  simp only [Option.bind_some]
  have hl := choicesL_length hn a b
  have := suBest_l0 items (choicesL items a b) (fun c hc => by have := choicesL_inside items a b c hc; exact ⟨this.1, by omega⟩) (by omega) (choicesL items a b).length k 0 ([], 0) (by omega) (by omega) (by simp)
  simpa [choicesL, bestL] using this
theorem best_rel {items : List Item} (hL : Light items) : ∀ (L : List (List Int)) (s : List (List Int) × Int) (t : Best), (∀ c ∈ L, Inside items c ∧ c.length ≤ items.length) → (∃ x xs, s.1 = x :: xs ∧ t.1 = x) → t.2.1 = s.2 → t.2.2 = (s.1.length : Int) → s.1.length + L.length ≤ 1000000 →
    ∃ x xs, (L.foldl (suStep items) s).1 = x :: xs ∧ (L.foldl (bestStep items (fun _ y => y.2.2)) t) = (x, (L.foldl (suStep items) s).2, (((L.foldl (suStep items) s).1.length : Nat) : Int)) := by
  intro L
  induction L with
  | nil =>
    rintro ⟨s1, s2⟩ ⟨t1, t2, t3⟩ _ ⟨x, xs, h1, h2⟩ h3 h4 _
    simp only at h1 h2 h3 h4
    exact ⟨x, xs, h1, by simp [h2, h3, h4]⟩
  | cons ch L ih =>
    rintro ⟨s1, s2⟩ ⟨t1, t2, t3⟩ hin ⟨x, xs, h1, h2⟩ h3 h4 hl
    simp only at h1 h2 h3 h4
    subst h1 h2 h3 h4
    rw [List.foldl_cons, List.foldl_cons]
    simp only [List.length_cons] at hl
    unfold suStep bestStep
    simp only
    by_cases c1 : t2 < (tot items ch).2.2
    · rw [if_pos c1, if_pos c1]
      exact ih _ _ (fun c hc => hin c (List.mem_cons_of_mem _ hc)) ⟨ch, [], rfl, rfl⟩ rfl (by simp) (by simp; omega)
    · rw [if_neg c1, if_neg c1]
      by_cases c2 : (tot items ch).2.2 = t2
      · rw [if_pos c2, if_pos c2]
        refine ih _ _ (fun c hc => hin c (List.mem_cons_of_mem _ hc)) ⟨t1, xs ++ [ch], rfl, rfl⟩ rfl ?_ (by simp; omega)
        simp only [List.length_cons, List.cons_append, List.length_append, List.length_nil]
        rw [w64 (by omega) (by omega)]
        omega
      · rw [if_neg c2, if_neg c2]
        exact ih _ _ (fun c hc => hin c (List.mem_cons_of_mem _ hc)) ⟨t1, xs, rfl, rfl⟩ rfl rfl (by simp; omega)
/-- The program's best is the reference's. -/
theorem best_same {items : List Item} (hL : Light items) (a b : Int) (ha : 0 ≤ a) (hb : 0 ≤ b) : ∃ x xs, (bestL items a b).1 = x :: xs ∧ bestAll items a b (fun _ y => y.2.2) = (x, (bestL items a b).2, (((bestL items a b).1.length : Nat) : Int)) := by
  unfold bestAll
  rw [visit_choices hL a b ha hb]
  have hl := choicesL_length hL.1 a b
  have hin := choicesL_inside items a b
  unfold bestL
  unfold choicesL at hl hin ⊢
  rw [List.foldl_cons, List.foldl_cons]
  refine best_rel hL _ _ _ (fun c hc => hin c (List.mem_cons_of_mem _ hc)) ⟨[], [], by simp [suStep, tot], by simp [bestStep, tot]⟩ (by simp [suStep, bestStep, tot]) (by simp [suStep, bestStep, tot]) ?_
  simp only [List.length_cons] at hl
  simp [suStep, tot]; omega
end Go.Proofs.Ytgghcngfleicnaa.Q

namespace Go.Proofs.Ytgghcngfleicnaa.Q
open Go.RowKit Go.Proofs.YtgghcngfleicnaaW.PrintWords Go.Proofs.YtgghcngfleicnaaW.PrintLast Go.Proofs.YtgghcngfleicnaaW.PrintMore
attribute [local go_sem] max2_int min2_int max_two min_two max_three min_three max_four min_four   -- for this text's walks alone
set_option linter.unusedVariables false
set_option linter.unusedSimpArgs false

/-! ### spec_BestPacked: function 33 -/
def spec_BestPacked.f (k : Nat) (l0 : List (S54)) (a1_0 : Int) (a1_1 : Int) : Option (Int × Bool) := (spec_suAsked.f k l0 a1_0 a1_1).bind fun t435 => (if t435 = true then ((spec_suBest.f k l0 a1_0 a1_1).bind fun bt436 => (some (bt436.2, true))) else (some (0, false)))
theorem spec_BestPacked.mono : ∀ a0 a1 a2 k, LeO (spec_BestPacked.f k a0 a1 a2) (spec_BestPacked.f (k + 1) a0 a1 a2) := by
  intro a0 a1 a2 k
  unfold spec_BestPacked.f
  repeat' first
      | (with_reducible exact spec_suAsked.mono _ _ _ _)
      | (with_reducible exact spec_suBest.mono _ _ _ _)
      | (with_reducible exact LeO.refl _)
      | (with_reducible exact LeO.none _)
      | (with_reducible refine LeO.ite ?_ ?_)
      | (with_reducible refine LeO.bind ?_ (fun _ => ?_))
      | exact spec_suAsked.mono _ _ _ _
      | exact spec_suBest.mono _ _ _ _
      | exact LeO.none _
      | refine LeO.ite ?_ ?_
      | refine LeO.bind ?_ (fun _ => ?_)
set_option maxHeartbeats 8000000 in
set_option maxRecDepth 100000 in
theorem spec_BestPacked.calls (k : Nat) (A0 : Option Addr) (c0 : Nat) (l0 : List (S54)) (a1_0 : Int) (a1_1 : Int) (r1 : Int) (r2 : Bool) (w : World) (hr0 : Kd.C k54 w A0 l0.length l0) (hc0 : l0.length ≤ c0) (h : spec_BestPacked.f k l0 a1_0 a1_1 = some (r1, r2)) :
    Calls Try.prog 33 #[.slice A0 l0.length c0, .agg #[.int .i64 a1_0, .int .i64 a1_1]] w fun e w' => e = .returned (.tuple #[.int .i64 r1, .bool r2]) ∧ Below w.heap.size w w' := by
  have hu39 := Try.underlying39
  have HR0 := Aside0.mk hr0
  have HC0 := Aside0.mk hc0
  clear hr0 hc0
  have HB := Aside0.mk (Below.refl w.heap.size w)
  have H : ((spec_suAsked.f k l0 a1_0 a1_1).bind fun t435 => (if t435 = true then ((spec_suBest.f k l0 a1_0 a1_1).bind fun bt436 => (some (bt436.2, true))) else (some (0, false)))) = some (r1, r2) := h
  clear h
  replace H := Option.bind_eq_some_iff.mp H
  obtain ⟨t435, A30, H⟩ := H
  replace H : (if t435 = true then ((spec_suBest.f k l0 a1_0 a1_1).bind fun bt436 => (some (bt436.2, true))) else (some (0, false))) = some (r1, r2) := H
  have A3 := Aside0.mk A30
  clear A30
  by_cases c4 : t435 = true
  · subst c4
    have H1 : ((spec_suBest.f k l0 a1_0 a1_1).bind fun bt436 => (some (bt436.2, true))) = some (r1, r2) := by rw [if_pos rfl] at H; exact H
    clear H
    have H := H1
    clear H1
    replace H := Option.bind_eq_some_iff.mp H
    obtain ⟨⟨t436, t439⟩, A50, H⟩ := H
    replace H : (some (t439, true)) = some (r1, r2) := H
    have A5 := Aside0.mk A50
    clear A50
    simp only [Option.some.injEq, Prod.mk.injEq] at H
    obtain ⟨rfl, rfl⟩ := H
    go_enter Try.func33, Try.ntmps33
    go_wp2_with (first | ((with_reducible refine gate_dst (N := 3) rfl ?_); refine box_event ?hg (N := 3) ?hd (cs := #[.int .i64 a1_0, .int .i64 a1_1]) (t := 39) ?hr ?_; (case hd => rfl); (case hg => rfl); (case hr => first | (go_simp; done) | (go_simp; rfl)); intro gb434 hg w6 hbox hb; have n0_ := Aside0.mk (below_step (by repeat (first | (with_reducible first | exact HB.out | apply below_alloc | apply pw_below_drewN | apply below_drew1) | exact HB.out)) hb); have n1_ := Aside0.mk (hbox); have n2_ := Aside0.mk ((by rw [hg]; exact (below_size (by repeat (first | (with_reducible first | exact HB.out | apply below_alloc | apply pw_below_drewN | apply below_drew1) | exact HB.out))) : w.heap.size ≤ gb434)); have n3_ := Aside0.mk ((by rw [hg]; exact (below_size (by repeat (first | (with_reducible first | exact HB.out | apply below_alloc | apply pw_below_drewN | apply below_drew1) | exact HB.out))) : w.heap.size ≤ gb434)); clear HB; have HB := n0_; have BK434 := n1_; have GW434 := n2_; have GE434 := n3_; clear n0_ n1_ n2_ n3_; clear hb hbox hg; have hcz7_0 : w6.cell? ⟨gb434, 0, none⟩ = some (.int .i64 a1_0) := (blk_cell BK434.out 0).trans rfl; have hcz7_1 : w6.cell? ⟨gb434, 1, none⟩ = some (.int .i64 a1_1) := (blk_cell BK434.out 1).trans rfl; have hfz7_0 := blk_frozen BK434.out 0; have hfz7_1 := blk_frozen BK434.out 1) | ((with_reducible refine gate_callee (f := 46) rfl ?_); refine goesL_ (some 10) rfl rfl Try.func46 (by kernel_rfl) rfl #[.slice A0 l0.length c0, .agg #[.int .i64 a1_0, .int .i64 a1_1]] rfl (by (try simp only [List.map_toArray, List.map_cons, List.map_nil]); first | done | rfl | (simp only [List.length_drop, List.length_take]; rfl)) ?_; (with_reducible refine (spec_suAsked.calls k _ _ l0 a1_0 a1_1 true _ ?side1 ?side2 A3.out).mono ?_); (case side1 => repeat (first | exact (Kd.C_below HR0.out HB.out) | (with_reducible refine Kd.C_alloc ?_ _) | (with_reducible refine Kd.C_drewN ?_ _) | (with_reducible refine Kd.C_drew ?_))); (case side2 => exact HC0.out); rintro e w8 ⟨rfl, hb⟩; refine ⟨_, rfl, ?_⟩; have n0_ := Aside0.mk (blk_below (g := gb434) (o := .cells #[.int .i64 a1_0, .int .i64 a1_1] 39 (0, 0)) (by (with_reducible repeat (first | refine blk_drewN ?_ _ | refine blk_drew ?_ | refine blk_alloc ?_ _)); exact BK434.out) hb); have n1_ := Aside0.mk (below_step (by repeat (first | (with_reducible first | exact HB.out | apply below_alloc | apply pw_below_drewN | apply below_drew1 | refine below_set ?_ GE434.out) | exact HB.out)) hb); clear BK434; clear HB; have BK434 := n0_; have HB := n1_; clear n0_ n1_; (try clear hb); (try clear hb2); (try clear hk); (try clear hi); have hcz9_0 : w8.cell? ⟨gb434, 0, none⟩ = some (.int .i64 a1_0) := (blk_cell BK434.out 0).trans rfl; have hcz9_1 : w8.cell? ⟨gb434, 1, none⟩ = some (.int .i64 a1_1) := (blk_cell BK434.out 1).trans rfl; have hfz9_0 := blk_frozen BK434.out 0; have hfz9_1 := blk_frozen BK434.out 1) | ((with_reducible refine gate_callee (f := 58) rfl ?_); refine goesL_ (some 15) rfl rfl Try.func58 (by kernel_rfl) rfl #[.slice A0 l0.length c0, .agg #[.int .i64 a1_0, .int .i64 a1_1]] rfl (by (try simp only [List.map_toArray, List.map_cons, List.map_nil]); first | done | rfl | (simp only [List.length_drop, List.length_take]; rfl)) ?_; (with_reducible refine (spec_suBest.calls k _ _ l0 a1_0 a1_1 t436 t439 _ ?side1 ?side2 A5.out).mono ?_); (case side1 => repeat (first | exact (Kd.C_below HR0.out HB.out) | (with_reducible refine Kd.C_alloc ?_ _) | (with_reducible refine Kd.C_drewN ?_ _) | (with_reducible refine Kd.C_drew ?_))); (case side2 => exact HC0.out); rintro e w10 ⟨v437, rfl, ho0, hb⟩; refine ⟨_, rfl, ?_⟩; have n0_ := Aside0.mk (Kd.N_lower (Kd.N_mono (ok' := fun k_ => k_ ≠ gb434) ho0 (fun k_ hk_ => (Kd.freshB (g := gb434) (o := .cells #[.int .i64 a1_0, .int .i64 a1_1] 39 (0, 0)) (by (with_reducible repeat (first | refine blk_drewN ?_ _ | refine blk_drew ?_ | refine blk_alloc ?_ _)); exact BK434.out) k_ hk_))) (below_size (by repeat (first | (with_reducible first | exact HB.out | apply below_alloc | apply pw_below_drewN | apply below_drew1 | refine below_set ?_ GE434.out) | exact HB.out)))); have n1_ := Aside0.mk (blk_below (g := gb434) (o := .cells #[.int .i64 a1_0, .int .i64 a1_1] 39 (0, 0)) (by (with_reducible repeat (first | refine blk_drewN ?_ _ | refine blk_drew ?_ | refine blk_alloc ?_ _)); exact BK434.out) hb); have n2_ := Aside0.mk (below_step (by repeat (first | (with_reducible first | exact HB.out | apply below_alloc | apply pw_below_drewN | apply below_drew1 | refine below_set ?_ GE434.out) | exact HB.out)) hb); clear BK434; clear HB; have HO438 := n0_; have BK434 := n1_; have HB := n2_; clear n0_ n1_ n2_; (try clear hb); (try clear hb2); (try clear hk); (try clear hi); (try clear ho0)))
    go_ret2
    exact ⟨by first | rfl | (simp [errW_none, errW_some] <;> rfl) | (simp [*, errW_none, errW_some] <;> rfl), by repeat (first | (with_reducible first | exact HB.out | apply below_alloc | apply pw_below_drewN | apply below_drew1 | refine below_set ?_ GE434.out) | exact HB.out)⟩
  · replace c4 := Bool.eq_false_iff.mpr c4
    subst c4
    have H1 : (some (0, false)) = some (r1, r2) := by rw [if_neg (show ¬ (false = true) by decide)] at H; exact H
    clear H
    have H := H1
    clear H1
    simp only [Option.some.injEq, Prod.mk.injEq] at H
    obtain ⟨rfl, rfl⟩ := H
    go_enter Try.func33, Try.ntmps33
    go_wp2_with (first | ((with_reducible refine gate_dst (N := 3) rfl ?_); refine box_event ?hg (N := 3) ?hd (cs := #[.int .i64 a1_0, .int .i64 a1_1]) (t := 39) ?hr ?_; (case hd => rfl); (case hg => rfl); (case hr => first | (go_simp; done) | (go_simp; rfl)); intro gb434 hg w11 hbox hb; have n0_ := Aside0.mk (below_step (by repeat (first | (with_reducible first | exact HB.out | apply below_alloc | apply pw_below_drewN | apply below_drew1) | exact HB.out)) hb); have n1_ := Aside0.mk (hbox); have n2_ := Aside0.mk ((by rw [hg]; exact (below_size (by repeat (first | (with_reducible first | exact HB.out | apply below_alloc | apply pw_below_drewN | apply below_drew1) | exact HB.out))) : w.heap.size ≤ gb434)); have n3_ := Aside0.mk ((by rw [hg]; exact (below_size (by repeat (first | (with_reducible first | exact HB.out | apply below_alloc | apply pw_below_drewN | apply below_drew1) | exact HB.out))) : w.heap.size ≤ gb434)); clear HB; have HB := n0_; have BK434 := n1_; have GW434 := n2_; have GE434 := n3_; clear n0_ n1_ n2_ n3_; clear hb hbox hg; have hcz12_0 : w11.cell? ⟨gb434, 0, none⟩ = some (.int .i64 a1_0) := (blk_cell BK434.out 0).trans rfl; have hcz12_1 : w11.cell? ⟨gb434, 1, none⟩ = some (.int .i64 a1_1) := (blk_cell BK434.out 1).trans rfl; have hfz12_0 := blk_frozen BK434.out 0; have hfz12_1 := blk_frozen BK434.out 1) | ((with_reducible refine gate_callee (f := 46) rfl ?_); refine goesL_ (some 10) rfl rfl Try.func46 (by kernel_rfl) rfl #[.slice A0 l0.length c0, .agg #[.int .i64 a1_0, .int .i64 a1_1]] rfl (by (try simp only [List.map_toArray, List.map_cons, List.map_nil]); first | done | rfl | (simp only [List.length_drop, List.length_take]; rfl)) ?_; (with_reducible refine (spec_suAsked.calls k _ _ l0 a1_0 a1_1 false _ ?side1 ?side2 A3.out).mono ?_); (case side1 => repeat (first | exact (Kd.C_below HR0.out HB.out) | (with_reducible refine Kd.C_alloc ?_ _) | (with_reducible refine Kd.C_drewN ?_ _) | (with_reducible refine Kd.C_drew ?_))); (case side2 => exact HC0.out); rintro e w13 ⟨rfl, hb⟩; refine ⟨_, rfl, ?_⟩; have n0_ := Aside0.mk (blk_below (g := gb434) (o := .cells #[.int .i64 a1_0, .int .i64 a1_1] 39 (0, 0)) (by (with_reducible repeat (first | refine blk_drewN ?_ _ | refine blk_drew ?_ | refine blk_alloc ?_ _)); exact BK434.out) hb); have n1_ := Aside0.mk (below_step (by repeat (first | (with_reducible first | exact HB.out | apply below_alloc | apply pw_below_drewN | apply below_drew1 | refine below_set ?_ GE434.out) | exact HB.out)) hb); clear BK434; clear HB; have BK434 := n0_; have HB := n1_; clear n0_ n1_; (try clear hb); (try clear hb2); (try clear hk); (try clear hi)))
    go_ret2
    exact ⟨by first | rfl | (simp [errW_none, errW_some] <;> rfl) | (simp [*, errW_none, errW_some] <;> rfl), by repeat (first | (with_reducible first | exact HB.out | apply below_alloc | apply pw_below_drewN | apply below_drew1 | refine below_set ?_ GE434.out) | exact HB.out)⟩

end Go.Proofs.Ytgghcngfleicnaa.Q

namespace Go.Proofs.Ytgghcngfleicnaa.Q
open Go.RowKit Go.Proofs.YtgghcngfleicnaaW.PrintWords Go.Proofs.YtgghcngfleicnaaW.PrintLast Go.Proofs.YtgghcngfleicnaaW.PrintMore
attribute [local go_sem] max2_int min2_int max_two min_two max_three min_three max_four min_four   -- for this text's walks alone
set_option linter.unusedVariables false
set_option linter.unusedSimpArgs false

/-! ### impl_BestPacked: function 34 -/
def impl_BestPacked.f (l0 : List (S54)) (a1_0 : Int) (a1_1 : Int) : Option (Int × Bool) := (impl_arePacked.f l0 (([(⟨a1_0, a1_1⟩ : S39)] : List (S39)))).bind fun t444 => (if t444 = true then ((impl_byValue.f l0 a1_0 a1_1).bind fun bt445 => (some (bt445.2.1, true))) else (some (0, false)))
set_option maxHeartbeats 8000000 in
set_option maxRecDepth 100000 in
theorem impl_BestPacked.calls (A0 : Option Addr) (c0 : Nat) (l0 : List (S54)) (a1_0 : Int) (a1_1 : Int) (r1 : Int) (r2 : Bool) (w : World) (hr0 : Kd.C k54 w A0 l0.length l0) (hc0 : l0.length ≤ c0) (h : impl_BestPacked.f l0 a1_0 a1_1 = some (r1, r2)) :
    Calls Try.prog 34 #[.slice A0 l0.length c0, .agg #[.int .i64 a1_0, .int .i64 a1_1]] w fun e w' => e = .returned (.tuple #[.int .i64 r1, .bool r2]) ∧ Below w.heap.size w w' := by
  have hu39 := Try.underlying39
  have HR0 := Aside0.mk hr0
  have HC0 := Aside0.mk hc0
  clear hr0 hc0
  have HB := Aside0.mk (Below.refl w.heap.size w)
  have H : ((impl_arePacked.f l0 (([(⟨a1_0, a1_1⟩ : S39)] : List (S39)))).bind fun t444 => (if t444 = true then ((impl_byValue.f l0 a1_0 a1_1).bind fun bt445 => (some (bt445.2.1, true))) else (some (0, false)))) = some (r1, r2) := h
  clear h
  obtain ⟨y441, hy441⟩ : ∃ y_ : List (S39), y_ = (([(⟨a1_0, a1_1⟩ : S39)] : List (S39))) := ⟨_, rfl⟩
  replace H : ((impl_arePacked.f l0 y441).bind fun t444 => (if t444 = true then ((impl_byValue.f l0 a1_0 a1_1).bind fun bt445 => (some (bt445.2.1, true))) else (some (0, false)))) = some (r1, r2) := by first | (rw [hy441]; with_reducible exact H) | (have H2_ := (Option.bind_some _ _).symm.trans H; rw [hy441]; with_reducible exact H2_) | (have H2_ := (Option.bind_some _ _).symm.trans H; with_reducible exact H2_) | with_reducible exact H | (rw [hy441]; exact H) | exact H
  have Ny441 := Aside0.mk hy441
  clear hy441
  replace H := Option.bind_eq_some_iff.mp H
  obtain ⟨t444, A30, H⟩ := H
  replace H : (if t444 = true then ((impl_byValue.f l0 a1_0 a1_1).bind fun bt445 => (some (bt445.2.1, true))) else (some (0, false))) = some (r1, r2) := H
  have A3 := Aside0.mk A30
  clear A30
  by_cases c4 : t444 = true
  · subst c4
    have H1 : ((impl_byValue.f l0 a1_0 a1_1).bind fun bt445 => (some (bt445.2.1, true))) = some (r1, r2) := by rw [if_pos rfl] at H; exact H
    clear H
    have H := H1
    clear H1
    replace H := Option.bind_eq_some_iff.mp H
    obtain ⟨⟨t445, t448, t449⟩, A50, H⟩ := H
    replace H : (some (t448, true)) = some (r1, r2) := H
    have A5 := Aside0.mk A50
    clear A50
    simp only [Option.some.injEq, Prod.mk.injEq] at H
    obtain ⟨rfl, rfl⟩ := H
    go_enter Try.func34, Try.ntmps34
    go_wp2_with (first | ((with_reducible refine gate_dst (N := 3) rfl ?_); refine box_event ?hg (N := 3) ?hd (cs := #[.int .i64 a1_0, .int .i64 a1_1]) (t := 39) ?hr ?_; (case hd => rfl); (case hg => rfl); (case hr => first | (go_simp; done) | (go_simp; rfl)); intro gb440 hg w6 hbox hb; have n0_ := Aside0.mk (below_step (by repeat (first | (with_reducible first | exact HB.out | apply below_alloc | apply pw_below_drewN | apply below_drew1) | exact HB.out)) hb); have n1_ := Aside0.mk (hbox); have n2_ := Aside0.mk ((by rw [hg]; exact (below_size (by repeat (first | (with_reducible first | exact HB.out | apply below_alloc | apply pw_below_drewN | apply below_drew1) | exact HB.out))) : w.heap.size ≤ gb440)); have n3_ := Aside0.mk ((by rw [hg]; exact (below_size (by repeat (first | (with_reducible first | exact HB.out | apply below_alloc | apply pw_below_drewN | apply below_drew1) | exact HB.out))) : w.heap.size ≤ gb440)); clear HB; have HB := n0_; have BK440 := n1_; have GW440 := n2_; have GE440 := n3_; clear n0_ n1_ n2_ n3_; clear hb hbox hg; have hcz7_0 : w6.cell? ⟨gb440, 0, none⟩ = some (.int .i64 a1_0) := (blk_cell BK440.out 0).trans rfl; have hcz7_1 : w6.cell? ⟨gb440, 1, none⟩ = some (.int .i64 a1_1) := (blk_cell BK440.out 1).trans rfl; have hfz7_0 := blk_frozen BK440.out 0; have hfz7_1 := blk_frozen BK440.out 1) | ((with_reducible refine gate_dst (N := 11) rfl ?_); refine Kd.R_lit k39 _ 39 ?hg (N := 11) ?hd (xs := ([(⟨a1_0, a1_1⟩ : S39)] : List (S39))) (inner := [.int .i64 a1_0, .int .i64 a1_1]) (ok := fun _ => True) (okp := fun _ => True) ?hr ?hp (fun _ hk => hk) trivial (Below.refl _ _) (Nat.le_refl _) (by simp) ?_; (case hd => rfl); (case hg => rfl); (case hr => first | (go_simp; done) | (go_simp; rfl)); (case hp => exact (Reps.c2 (show Kd.M k39 _ _ _ (⟨a1_0, a1_1⟩ : S39) [.int .i64 a1_0, .int .i64 a1_1] from (k39_mkM _ _ _ (⟨a1_0, a1_1⟩ : S39) )) (Reps.none _ _))); intro v442 w8 ho9 hb hg_ hnew_; clear hg_ hnew_; (first | rw [← Ny441.out] at ho9 | (simp only [Int.reduceToNat] at ho9; rw [← Ny441.out] at ho9)); have n0_ := Aside0.mk (Kd.R_lower (Kd.R_newB ho9 (g := gb440) (o := .cells #[.int .i64 a1_0, .int .i64 a1_1] 39 (0, 0)) (by (with_reducible repeat (first | refine blk_drewN ?_ _ | refine blk_drew ?_ | refine blk_alloc ?_ _)); exact BK440.out)) (below_size (by repeat (first | (with_reducible first | exact HB.out | apply below_alloc | apply pw_below_drewN | apply below_drew1 | refine below_set ?_ GE440.out) | exact HB.out)))); have n1_ := Aside0.mk (blk_below (g := gb440) (o := .cells #[.int .i64 a1_0, .int .i64 a1_1] 39 (0, 0)) (by (with_reducible repeat (first | refine blk_drewN ?_ _ | refine blk_drew ?_ | refine blk_alloc ?_ _)); exact BK440.out) hb); have n2_ := Aside0.mk (below_step (by repeat (first | (with_reducible first | exact HB.out | apply below_alloc | apply pw_below_drewN | apply below_drew1 | refine below_set ?_ GE440.out) | exact HB.out)) hb); clear BK440; clear HB; have HO443 := n0_; have BK440 := n1_; have HB := n2_; clear n0_ n1_ n2_; clear hb ho9; obtain ⟨Ao10, co10, eo10⟩ := Kd.R_slice HO443.out; subst eo10) | ((with_reducible refine gate_callee (f := 48) rfl ?_); refine goesL_ (some 12) rfl rfl Try.func48 (by kernel_rfl) rfl #[.slice A0 l0.length c0, .slice Ao10 y441.length co10] rfl (by (try simp only [List.map_toArray, List.map_cons, List.map_nil]); first | done | rfl | (simp only [List.length_drop, List.length_take]; rfl)) ?_; (with_reducible refine (impl_arePacked.calls _ _ l0 _ _ y441 true _ ?side1 ?side2 ?side3 ?side4 A3.out).mono ?_); (case side1 => repeat (first | exact (Kd.C_below HR0.out HB.out) | (with_reducible refine Kd.C_alloc ?_ _) | (with_reducible refine Kd.C_drewN ?_ _) | (with_reducible refine Kd.C_drew ?_))); (case side2 => exact HC0.out); (case side3 => repeat (first | exact (Kd.R_reads' HO443.out).2.2 | (with_reducible refine Kd.C_alloc ?_ _) | (with_reducible refine Kd.C_drewN ?_ _) | (with_reducible refine Kd.C_drew ?_))); (case side4 => exact (Kd.R_reads' HO443.out).2.1); rintro e w11 ⟨rfl, hb⟩; refine ⟨_, rfl, ?_⟩; have n0_ := Aside0.mk (Kd.R_below (by (with_reducible repeat (first | apply Kd.R_alloc | apply Kd.R_drewN | apply Kd.R_drew)); exact HO443.out) hb); have n1_ := Aside0.mk (blk_below (g := gb440) (o := .cells #[.int .i64 a1_0, .int .i64 a1_1] 39 (0, 0)) (by (with_reducible repeat (first | refine blk_drewN ?_ _ | refine blk_drew ?_ | refine blk_alloc ?_ _)); exact BK440.out) hb); have n2_ := Aside0.mk (below_step (by repeat (first | (with_reducible first | exact HB.out | apply below_alloc | apply pw_below_drewN | apply below_drew1 | refine below_set ?_ GE440.out) | exact HB.out)) hb); clear HO443; clear BK440; clear HB; have HO443 := n0_; have BK440 := n1_; have HB := n2_; clear n0_ n1_ n2_; (try clear hb); (try clear hb2); (try clear hk); (try clear hi); have hcz12_0 : w11.cell? ⟨gb440, 0, none⟩ = some (.int .i64 a1_0) := (blk_cell BK440.out 0).trans rfl; have hcz12_1 : w11.cell? ⟨gb440, 1, none⟩ = some (.int .i64 a1_1) := (blk_cell BK440.out 1).trans rfl; have hfz12_0 := blk_frozen BK440.out 0; have hfz12_1 := blk_frozen BK440.out 1) | ((with_reducible refine gate_callee (f := 62) rfl ?_); refine goesL_ (some 17) rfl rfl Try.func62 (by kernel_rfl) rfl #[.slice A0 l0.length c0, .agg #[.int .i64 a1_0, .int .i64 a1_1]] rfl (by (try simp only [List.map_toArray, List.map_cons, List.map_nil]); first | done | rfl | (simp only [List.length_drop, List.length_take]; rfl)) ?_; (with_reducible refine (impl_byValue.calls _ _ l0 a1_0 a1_1 t445 t448 t449 _ ?side1 ?side2 A5.out).mono ?_); (case side1 => repeat (first | exact (Kd.C_below HR0.out HB.out) | (with_reducible refine Kd.C_alloc ?_ _) | (with_reducible refine Kd.C_drewN ?_ _) | (with_reducible refine Kd.C_drew ?_))); (case side2 => exact HC0.out); rintro e w13 ⟨v446, rfl, ho0, hb⟩; refine ⟨_, rfl, ?_⟩; have n0_ := Aside0.mk (Kd.R_below (by (with_reducible repeat (first | apply Kd.R_alloc | apply Kd.R_drewN | apply Kd.R_drew)); exact HO443.out) hb); have n1_ := Aside0.mk (Kd.R_lower ho0 (below_size (by repeat (first | (with_reducible first | exact HB.out | apply below_alloc | apply pw_below_drewN | apply below_drew1 | refine below_set ?_ GE440.out) | exact HB.out)))); have n2_ := Aside0.mk (blk_below (g := gb440) (o := .cells #[.int .i64 a1_0, .int .i64 a1_1] 39 (0, 0)) (by (with_reducible repeat (first | refine blk_drewN ?_ _ | refine blk_drew ?_ | refine blk_alloc ?_ _)); exact BK440.out) hb); have n3_ := Aside0.mk (below_step (by repeat (first | (with_reducible first | exact HB.out | apply below_alloc | apply pw_below_drewN | apply below_drew1 | refine below_set ?_ GE440.out) | exact HB.out)) hb); clear HO443; clear BK440; clear HB; have HO443 := n0_; have HO447 := n1_; have BK440 := n2_; have HB := n3_; clear n0_ n1_ n2_ n3_; (try clear hb); (try clear hb2); (try clear hk); (try clear hi); (try clear ho0)))
    go_ret2
    exact ⟨by first | rfl | (simp [errW_none, errW_some] <;> rfl) | (simp [*, errW_none, errW_some] <;> rfl), by repeat (first | (with_reducible first | exact HB.out | apply below_alloc | apply pw_below_drewN | apply below_drew1 | refine below_set ?_ GE440.out) | exact HB.out)⟩
  · replace c4 := Bool.eq_false_iff.mpr c4
    subst c4
    have H1 : (some (0, false)) = some (r1, r2) := by rw [if_neg (show ¬ (false = true) by decide)] at H; exact H
    clear H
    have H := H1
    clear H1
    simp only [Option.some.injEq, Prod.mk.injEq] at H
    obtain ⟨rfl, rfl⟩ := H
    go_enter Try.func34, Try.ntmps34
    go_wp2_with (first | ((with_reducible refine gate_dst (N := 3) rfl ?_); refine box_event ?hg (N := 3) ?hd (cs := #[.int .i64 a1_0, .int .i64 a1_1]) (t := 39) ?hr ?_; (case hd => rfl); (case hg => rfl); (case hr => first | (go_simp; done) | (go_simp; rfl)); intro gb440 hg w14 hbox hb; have n0_ := Aside0.mk (below_step (by repeat (first | (with_reducible first | exact HB.out | apply below_alloc | apply pw_below_drewN | apply below_drew1) | exact HB.out)) hb); have n1_ := Aside0.mk (hbox); have n2_ := Aside0.mk ((by rw [hg]; exact (below_size (by repeat (first | (with_reducible first | exact HB.out | apply below_alloc | apply pw_below_drewN | apply below_drew1) | exact HB.out))) : w.heap.size ≤ gb440)); have n3_ := Aside0.mk ((by rw [hg]; exact (below_size (by repeat (first | (with_reducible first | exact HB.out | apply below_alloc | apply pw_below_drewN | apply below_drew1) | exact HB.out))) : w.heap.size ≤ gb440)); clear HB; have HB := n0_; have BK440 := n1_; have GW440 := n2_; have GE440 := n3_; clear n0_ n1_ n2_ n3_; clear hb hbox hg; have hcz15_0 : w14.cell? ⟨gb440, 0, none⟩ = some (.int .i64 a1_0) := (blk_cell BK440.out 0).trans rfl; have hcz15_1 : w14.cell? ⟨gb440, 1, none⟩ = some (.int .i64 a1_1) := (blk_cell BK440.out 1).trans rfl; have hfz15_0 := blk_frozen BK440.out 0; have hfz15_1 := blk_frozen BK440.out 1) | ((with_reducible refine gate_dst (N := 11) rfl ?_); refine Kd.R_lit k39 _ 39 ?hg (N := 11) ?hd (xs := ([(⟨a1_0, a1_1⟩ : S39)] : List (S39))) (inner := [.int .i64 a1_0, .int .i64 a1_1]) (ok := fun _ => True) (okp := fun _ => True) ?hr ?hp (fun _ hk => hk) trivial (Below.refl _ _) (Nat.le_refl _) (by simp) ?_; (case hd => rfl); (case hg => rfl); (case hr => first | (go_simp; done) | (go_simp; rfl)); (case hp => exact (Reps.c2 (show Kd.M k39 _ _ _ (⟨a1_0, a1_1⟩ : S39) [.int .i64 a1_0, .int .i64 a1_1] from (k39_mkM _ _ _ (⟨a1_0, a1_1⟩ : S39) )) (Reps.none _ _))); intro v442 w16 ho17 hb hg_ hnew_; clear hg_ hnew_; (first | rw [← Ny441.out] at ho17 | (simp only [Int.reduceToNat] at ho17; rw [← Ny441.out] at ho17)); have n0_ := Aside0.mk (Kd.R_lower (Kd.R_newB ho17 (g := gb440) (o := .cells #[.int .i64 a1_0, .int .i64 a1_1] 39 (0, 0)) (by (with_reducible repeat (first | refine blk_drewN ?_ _ | refine blk_drew ?_ | refine blk_alloc ?_ _)); exact BK440.out)) (below_size (by repeat (first | (with_reducible first | exact HB.out | apply below_alloc | apply pw_below_drewN | apply below_drew1 | refine below_set ?_ GE440.out) | exact HB.out)))); have n1_ := Aside0.mk (blk_below (g := gb440) (o := .cells #[.int .i64 a1_0, .int .i64 a1_1] 39 (0, 0)) (by (with_reducible repeat (first | refine blk_drewN ?_ _ | refine blk_drew ?_ | refine blk_alloc ?_ _)); exact BK440.out) hb); have n2_ := Aside0.mk (below_step (by repeat (first | (with_reducible first | exact HB.out | apply below_alloc | apply pw_below_drewN | apply below_drew1 | refine below_set ?_ GE440.out) | exact HB.out)) hb); clear BK440; clear HB; have HO443 := n0_; have BK440 := n1_; have HB := n2_; clear n0_ n1_ n2_; clear hb ho17; obtain ⟨Ao18, co18, eo18⟩ := Kd.R_slice HO443.out; subst eo18) | ((with_reducible refine gate_callee (f := 48) rfl ?_); refine goesL_ (some 12) rfl rfl Try.func48 (by kernel_rfl) rfl #[.slice A0 l0.length c0, .slice Ao18 y441.length co18] rfl (by (try simp only [List.map_toArray, List.map_cons, List.map_nil]); first | done | rfl | (simp only [List.length_drop, List.length_take]; rfl)) ?_; (with_reducible refine (impl_arePacked.calls _ _ l0 _ _ y441 false _ ?side1 ?side2 ?side3 ?side4 A3.out).mono ?_); (case side1 => repeat (first | exact (Kd.C_below HR0.out HB.out) | (with_reducible refine Kd.C_alloc ?_ _) | (with_reducible refine Kd.C_drewN ?_ _) | (with_reducible refine Kd.C_drew ?_))); (case side2 => exact HC0.out); (case side3 => repeat (first | exact (Kd.R_reads' HO443.out).2.2 | (with_reducible refine Kd.C_alloc ?_ _) | (with_reducible refine Kd.C_drewN ?_ _) | (with_reducible refine Kd.C_drew ?_))); (case side4 => exact (Kd.R_reads' HO443.out).2.1); rintro e w19 ⟨rfl, hb⟩; refine ⟨_, rfl, ?_⟩; have n0_ := Aside0.mk (Kd.R_below (by (with_reducible repeat (first | apply Kd.R_alloc | apply Kd.R_drewN | apply Kd.R_drew)); exact HO443.out) hb); have n1_ := Aside0.mk (blk_below (g := gb440) (o := .cells #[.int .i64 a1_0, .int .i64 a1_1] 39 (0, 0)) (by (with_reducible repeat (first | refine blk_drewN ?_ _ | refine blk_drew ?_ | refine blk_alloc ?_ _)); exact BK440.out) hb); have n2_ := Aside0.mk (below_step (by repeat (first | (with_reducible first | exact HB.out | apply below_alloc | apply pw_below_drewN | apply below_drew1 | refine below_set ?_ GE440.out) | exact HB.out)) hb); clear HO443; clear BK440; clear HB; have HO443 := n0_; have BK440 := n1_; have HB := n2_; clear n0_ n1_ n2_; (try clear hb); (try clear hb2); (try clear hk); (try clear hi)))
    go_ret2
    exact ⟨by first | rfl | (simp [errW_none, errW_some] <;> rfl) | (simp [*, errW_none, errW_some] <;> rfl), by repeat (first | (with_reducible first | exact HB.out | apply below_alloc | apply pw_below_drewN | apply below_drew1 | refine below_set ?_ GE440.out) | exact HB.out)⟩

end Go.Proofs.Ytgghcngfleicnaa.Q

namespace Go.Proofs.Ytgghcngfleicnaa.Q
open Go.RowKit Go.Proofs.YtgghcngfleicnaaW.PrintWords Go.Proofs.YtgghcngfleicnaaW.PrintLast Go.Proofs.YtgghcngfleicnaaW.PrintMore
attribute [local go_sem] max2_int min2_int max_two min_two max_three min_three max_four min_four   -- for this text's walks alone
set_option linter.unusedVariables false
set_option linter.unusedSimpArgs false

/-! ### spec_CountPacked: function 35 -/
def spec_CountPacked.f (k : Nat) (l0 : List (S54)) (a1_0 : Int) (a1_1 : Int) : Option (Int × Bool) := (spec_suAsked.f k l0 a1_0 a1_1).bind fun t471 => (if t471 = true then ((spec_suBest.f k l0 a1_0 a1_1).bind fun bt472 => (some ((bt472.1.length : Int), true))) else (some (0, false)))
theorem spec_CountPacked.mono : ∀ a0 a1 a2 k, LeO (spec_CountPacked.f k a0 a1 a2) (spec_CountPacked.f (k + 1) a0 a1 a2) := by
  intro a0 a1 a2 k
  unfold spec_CountPacked.f
  repeat' first
      | (with_reducible exact spec_suAsked.mono _ _ _ _)
      | (with_reducible exact spec_suBest.mono _ _ _ _)
      | (with_reducible exact LeO.refl _)
      | (with_reducible exact LeO.none _)
      | (with_reducible refine LeO.ite ?_ ?_)
      | (with_reducible refine LeO.bind ?_ (fun _ => ?_))
      | exact spec_suAsked.mono _ _ _ _
      | exact spec_suBest.mono _ _ _ _
      | exact LeO.none _
      | refine LeO.ite ?_ ?_
      | refine LeO.bind ?_ (fun _ => ?_)
set_option maxHeartbeats 8000000 in
set_option maxRecDepth 100000 in
theorem spec_CountPacked.calls (k : Nat) (A0 : Option Addr) (c0 : Nat) (l0 : List (S54)) (a1_0 : Int) (a1_1 : Int) (r1 : Int) (r2 : Bool) (w : World) (hr0 : Kd.C k54 w A0 l0.length l0) (hc0 : l0.length ≤ c0) (h : spec_CountPacked.f k l0 a1_0 a1_1 = some (r1, r2)) :
    Calls Try.prog 35 #[.slice A0 l0.length c0, .agg #[.int .i64 a1_0, .int .i64 a1_1]] w fun e w' => e = .returned (.tuple #[.int .i64 r1, .bool r2]) ∧ Below w.heap.size w w' := by
  have hu39 := Try.underlying39
  have HR0 := Aside0.mk hr0
  have HC0 := Aside0.mk hc0
  clear hr0 hc0
  have HB := Aside0.mk (Below.refl w.heap.size w)
  have H : ((spec_suAsked.f k l0 a1_0 a1_1).bind fun t471 => (if t471 = true then ((spec_suBest.f k l0 a1_0 a1_1).bind fun bt472 => (some ((bt472.1.length : Int), true))) else (some (0, false)))) = some (r1, r2) := h
  clear h
  replace H := Option.bind_eq_some_iff.mp H
  obtain ⟨t471, A30, H⟩ := H
  replace H : (if t471 = true then ((spec_suBest.f k l0 a1_0 a1_1).bind fun bt472 => (some ((bt472.1.length : Int), true))) else (some (0, false))) = some (r1, r2) := H
  have A3 := Aside0.mk A30
  clear A30
  by_cases c4 : t471 = true
  · subst c4
    have H1 : ((spec_suBest.f k l0 a1_0 a1_1).bind fun bt472 => (some ((bt472.1.length : Int), true))) = some (r1, r2) := by rw [if_pos rfl] at H; exact H
    clear H
    have H := H1
    clear H1
    replace H := Option.bind_eq_some_iff.mp H
    obtain ⟨⟨t472, t475⟩, A50, H⟩ := H
    replace H : (some ((t472.length : Int), true)) = some (r1, r2) := H
    have A5 := Aside0.mk A50
    clear A50
    simp only [Option.some.injEq, Prod.mk.injEq] at H
    obtain ⟨rfl, rfl⟩ := H
    go_enter Try.func35, Try.ntmps35
    go_wp2_with (first | ((with_reducible refine gate_dst (N := 3) rfl ?_); refine box_event ?hg (N := 3) ?hd (cs := #[.int .i64 a1_0, .int .i64 a1_1]) (t := 39) ?hr ?_; (case hd => rfl); (case hg => rfl); (case hr => first | (go_simp; done) | (go_simp; rfl)); intro gb470 hg w6 hbox hb; have n0_ := Aside0.mk (below_step (by repeat (first | (with_reducible first | exact HB.out | apply below_alloc | apply pw_below_drewN | apply below_drew1) | exact HB.out)) hb); have n1_ := Aside0.mk (hbox); have n2_ := Aside0.mk ((by rw [hg]; exact (below_size (by repeat (first | (with_reducible first | exact HB.out | apply below_alloc | apply pw_below_drewN | apply below_drew1) | exact HB.out))) : w.heap.size ≤ gb470)); have n3_ := Aside0.mk ((by rw [hg]; exact (below_size (by repeat (first | (with_reducible first | exact HB.out | apply below_alloc | apply pw_below_drewN | apply below_drew1) | exact HB.out))) : w.heap.size ≤ gb470)); clear HB; have HB := n0_; have BK470 := n1_; have GW470 := n2_; have GE470 := n3_; clear n0_ n1_ n2_ n3_; clear hb hbox hg; have hcz7_0 : w6.cell? ⟨gb470, 0, none⟩ = some (.int .i64 a1_0) := (blk_cell BK470.out 0).trans rfl; have hcz7_1 : w6.cell? ⟨gb470, 1, none⟩ = some (.int .i64 a1_1) := (blk_cell BK470.out 1).trans rfl; have hfz7_0 := blk_frozen BK470.out 0; have hfz7_1 := blk_frozen BK470.out 1) | ((with_reducible refine gate_callee (f := 46) rfl ?_); refine goesL_ (some 10) rfl rfl Try.func46 (by kernel_rfl) rfl #[.slice A0 l0.length c0, .agg #[.int .i64 a1_0, .int .i64 a1_1]] rfl (by (try simp only [List.map_toArray, List.map_cons, List.map_nil]); first | done | rfl | (simp only [List.length_drop, List.length_take]; rfl)) ?_; (with_reducible refine (spec_suAsked.calls k _ _ l0 a1_0 a1_1 true _ ?side1 ?side2 A3.out).mono ?_); (case side1 => repeat (first | exact (Kd.C_below HR0.out HB.out) | (with_reducible refine Kd.C_alloc ?_ _) | (with_reducible refine Kd.C_drewN ?_ _) | (with_reducible refine Kd.C_drew ?_))); (case side2 => exact HC0.out); rintro e w8 ⟨rfl, hb⟩; refine ⟨_, rfl, ?_⟩; have n0_ := Aside0.mk (blk_below (g := gb470) (o := .cells #[.int .i64 a1_0, .int .i64 a1_1] 39 (0, 0)) (by (with_reducible repeat (first | refine blk_drewN ?_ _ | refine blk_drew ?_ | refine blk_alloc ?_ _)); exact BK470.out) hb); have n1_ := Aside0.mk (below_step (by repeat (first | (with_reducible first | exact HB.out | apply below_alloc | apply pw_below_drewN | apply below_drew1 | refine below_set ?_ GE470.out) | exact HB.out)) hb); clear BK470; clear HB; have BK470 := n0_; have HB := n1_; clear n0_ n1_; (try clear hb); (try clear hb2); (try clear hk); (try clear hi); have hcz9_0 : w8.cell? ⟨gb470, 0, none⟩ = some (.int .i64 a1_0) := (blk_cell BK470.out 0).trans rfl; have hcz9_1 : w8.cell? ⟨gb470, 1, none⟩ = some (.int .i64 a1_1) := (blk_cell BK470.out 1).trans rfl; have hfz9_0 := blk_frozen BK470.out 0; have hfz9_1 := blk_frozen BK470.out 1) | ((with_reducible refine gate_callee (f := 58) rfl ?_); refine goesL_ (some 15) rfl rfl Try.func58 (by kernel_rfl) rfl #[.slice A0 l0.length c0, .agg #[.int .i64 a1_0, .int .i64 a1_1]] rfl (by (try simp only [List.map_toArray, List.map_cons, List.map_nil]); first | done | rfl | (simp only [List.length_drop, List.length_take]; rfl)) ?_; (with_reducible refine (spec_suBest.calls k _ _ l0 a1_0 a1_1 t472 t475 _ ?side1 ?side2 A5.out).mono ?_); (case side1 => repeat (first | exact (Kd.C_below HR0.out HB.out) | (with_reducible refine Kd.C_alloc ?_ _) | (with_reducible refine Kd.C_drewN ?_ _) | (with_reducible refine Kd.C_drew ?_))); (case side2 => exact HC0.out); rintro e w10 ⟨v473, rfl, ho0, hb⟩; refine ⟨_, rfl, ?_⟩; have n0_ := Aside0.mk (Kd.N_lower (Kd.N_mono (ok' := fun k_ => k_ ≠ gb470) ho0 (fun k_ hk_ => (Kd.freshB (g := gb470) (o := .cells #[.int .i64 a1_0, .int .i64 a1_1] 39 (0, 0)) (by (with_reducible repeat (first | refine blk_drewN ?_ _ | refine blk_drew ?_ | refine blk_alloc ?_ _)); exact BK470.out) k_ hk_))) (below_size (by repeat (first | (with_reducible first | exact HB.out | apply below_alloc | apply pw_below_drewN | apply below_drew1 | refine below_set ?_ GE470.out) | exact HB.out)))); have n1_ := Aside0.mk (blk_below (g := gb470) (o := .cells #[.int .i64 a1_0, .int .i64 a1_1] 39 (0, 0)) (by (with_reducible repeat (first | refine blk_drewN ?_ _ | refine blk_drew ?_ | refine blk_alloc ?_ _)); exact BK470.out) hb); have n2_ := Aside0.mk (below_step (by repeat (first | (with_reducible first | exact HB.out | apply below_alloc | apply pw_below_drewN | apply below_drew1 | refine below_set ?_ GE470.out) | exact HB.out)) hb); clear BK470; clear HB; have HO474 := n0_; have BK470 := n1_; have HB := n2_; clear n0_ n1_ n2_; (try clear hb); (try clear hb2); (try clear hk); (try clear hi); (try clear ho0); obtain ⟨Ao11, co11, eo11⟩ := Kd.N_slice HO474.out; subst eo11))
    go_ret2
    exact ⟨by first | rfl | (simp [errW_none, errW_some] <;> rfl) | (simp [*, errW_none, errW_some] <;> rfl), by repeat (first | (with_reducible first | exact HB.out | apply below_alloc | apply pw_below_drewN | apply below_drew1 | refine below_set ?_ GE470.out) | exact HB.out)⟩
  · replace c4 := Bool.eq_false_iff.mpr c4
    subst c4
    have H1 : (some (0, false)) = some (r1, r2) := by rw [if_neg (show ¬ (false = true) by decide)] at H; exact H
    clear H
    have H := H1
    clear H1
    simp only [Option.some.injEq, Prod.mk.injEq] at H
    obtain ⟨rfl, rfl⟩ := H
    go_enter Try.func35, Try.ntmps35
    go_wp2_with (first | ((with_reducible refine gate_dst (N := 3) rfl ?_); refine box_event ?hg (N := 3) ?hd (cs := #[.int .i64 a1_0, .int .i64 a1_1]) (t := 39) ?hr ?_; (case hd => rfl); (case hg => rfl); (case hr => first | (go_simp; done) | (go_simp; rfl)); intro gb470 hg w12 hbox hb; have n0_ := Aside0.mk (below_step (by repeat (first | (with_reducible first | exact HB.out | apply below_alloc | apply pw_below_drewN | apply below_drew1) | exact HB.out)) hb); have n1_ := Aside0.mk (hbox); have n2_ := Aside0.mk ((by rw [hg]; exact (below_size (by repeat (first | (with_reducible first | exact HB.out | apply below_alloc | apply pw_below_drewN | apply below_drew1) | exact HB.out))) : w.heap.size ≤ gb470)); have n3_ := Aside0.mk ((by rw [hg]; exact (below_size (by repeat (first | (with_reducible first | exact HB.out | apply below_alloc | apply pw_below_drewN | apply below_drew1) | exact HB.out))) : w.heap.size ≤ gb470)); clear HB; have HB := n0_; have BK470 := n1_; have GW470 := n2_; have GE470 := n3_; clear n0_ n1_ n2_ n3_; clear hb hbox hg; have hcz13_0 : w12.cell? ⟨gb470, 0, none⟩ = some (.int .i64 a1_0) := (blk_cell BK470.out 0).trans rfl; have hcz13_1 : w12.cell? ⟨gb470, 1, none⟩ = some (.int .i64 a1_1) := (blk_cell BK470.out 1).trans rfl; have hfz13_0 := blk_frozen BK470.out 0; have hfz13_1 := blk_frozen BK470.out 1) | ((with_reducible refine gate_callee (f := 46) rfl ?_); refine goesL_ (some 10) rfl rfl Try.func46 (by kernel_rfl) rfl #[.slice A0 l0.length c0, .agg #[.int .i64 a1_0, .int .i64 a1_1]] rfl (by (try simp only [List.map_toArray, List.map_cons, List.map_nil]); first | done | rfl | (simp only [List.length_drop, List.length_take]; rfl)) ?_; (with_reducible refine (spec_suAsked.calls k _ _ l0 a1_0 a1_1 false _ ?side1 ?side2 A3.out).mono ?_); (case side1 => repeat (first | exact (Kd.C_below HR0.out HB.out) | (with_reducible refine Kd.C_alloc ?_ _) | (with_reducible refine Kd.C_drewN ?_ _) | (with_reducible refine Kd.C_drew ?_))); (case side2 => exact HC0.out); rintro e w14 ⟨rfl, hb⟩; refine ⟨_, rfl, ?_⟩; have n0_ := Aside0.mk (blk_below (g := gb470) (o := .cells #[.int .i64 a1_0, .int .i64 a1_1] 39 (0, 0)) (by (with_reducible repeat (first | refine blk_drewN ?_ _ | refine blk_drew ?_ | refine blk_alloc ?_ _)); exact BK470.out) hb); have n1_ := Aside0.mk (below_step (by repeat (first | (with_reducible first | exact HB.out | apply below_alloc | apply pw_below_drewN | apply below_drew1 | refine below_set ?_ GE470.out) | exact HB.out)) hb); clear BK470; clear HB; have BK470 := n0_; have HB := n1_; clear n0_ n1_; (try clear hb); (try clear hb2); (try clear hk); (try clear hi)))
    go_ret2
    exact ⟨by first | rfl | (simp [errW_none, errW_some] <;> rfl) | (simp [*, errW_none, errW_some] <;> rfl), by repeat (first | (with_reducible first | exact HB.out | apply below_alloc | apply pw_below_drewN | apply below_drew1 | refine below_set ?_ GE470.out) | exact HB.out)⟩

end Go.Proofs.Ytgghcngfleicnaa.Q
