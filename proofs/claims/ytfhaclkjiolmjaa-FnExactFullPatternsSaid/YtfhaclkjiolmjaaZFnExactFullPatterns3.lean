/-
  Part 3 of the proof of FnExactFullPatterns: what Go functions that it reaches compute, each shown by a walk of its code, and plain laws on numbers and lists.
  CONDITIONS: each theorem's own, as stated.
-/
import Derived.Test.YtfhaclkjiolmjaaZFnExactFullPatterns1
import Derived.Test.YtfhaclkjiolmjaaZFnExactFullPatterns2
import Derived.Laws.EntriesVeiled
import Derived.BigQuiet
import Derived.Deep.Slices
import Derived.Deep.Fields
import Derived.ChangeSame
import Derived.SizedLaws
import Derived.ChangeSlices
import Derived.Lib.SmallJoins
import Derived.Test.YtfhaclkjiolmjaaWWords
import Derived.Test.YtfhaclkjiolmjaaRows
import Derived.WalkKit
import Derived.ProofKit
import Derived.OpenShut
import Derived.ShutString
import Derived.ChangeOld
import Derived.Below
import Derived.Test.YtfhaclkjiolmjaaWSized
namespace Go.Proofs.Ytfhaclkjiolmjaa.Q
open Go.RowKit Go.Proofs.YtfhaclkjiolmjaaW.PrintWords Go.Proofs.YtfhaclkjiolmjaaW.PrintLast Go.Proofs.YtfhaclkjiolmjaaW.PrintMore
attribute [local go_sem] max2_int min2_int max_two min_two max_three min_three max_four min_four   -- for this text's walks alone
set_option linter.unusedVariables false
set_option linter.unusedSimpArgs false

/-! ### impl_AreLengths: function 46 -/
def impl_AreLengths.l0 : Nat → List Int → Int → Option (Bool)
  | 0, _, _ => none
  | k + 1, x0, x3 => if x3 < (x0.length : Int) then (if 0 ≤ x3 then (if 0 ≤ (wrap64 (x3 - 1)) then (if (wrap64 (x3 - 1)) < (x0.length : Int) then (if (rd x0 x3) ≤ (rd x0 (wrap64 (x3 - 1))) then (some false) else (impl_AreLengths.l0 k x0 (wrap64 (x3 + 1)))) else (none)) else (none)) else (none)) else ((impl_within.f (x0.length : Int) 1 4).bind fun t409 => (if t409 = true then ((impl_areWithin.f x0 1 60).bind fun t410 => (some t410)) else (some false)))
def impl_AreLengths.f (k : Nat) (l0 : List Int) : Option (Bool) := impl_AreLengths.l0 k l0 1
theorem impl_AreLengths.mono_l : ∀ k, (∀ y0 y1, LeO (impl_AreLengths.l0 k y0 y1) (impl_AreLengths.l0 (k + 1) y0 y1))
  | 0 => fun _ _ r h => by simp [impl_AreLengths.l0] at h
  | k + 1 => by
    have ih0 := impl_AreLengths.mono_l k
    · intro y0 y1
      unfold impl_AreLengths.l0
      repeat' first
      | (with_reducible exact ih0 _ _)
      | (with_reducible exact LeO.refl _)
      | (with_reducible exact LeO.none _)
      | (with_reducible refine LeO.ite ?_ ?_)
      | (with_reducible refine LeO.bind ?_ (fun _ => ?_))
      | exact ih0 _ _
      | exact LeO.none _
      | refine LeO.ite ?_ ?_
      | refine LeO.bind ?_ (fun _ => ?_)
theorem impl_AreLengths.mono : ∀ a0 k, LeO (impl_AreLengths.f k a0) (impl_AreLengths.f (k + 1) a0) := by
  intro a0 k
  have ih0 := impl_AreLengths.mono_l k
  unfold impl_AreLengths.f
  repeat' first
      | (with_reducible exact ih0 _ _)
      | (with_reducible exact LeO.refl _)
      | (with_reducible exact LeO.none _)
      | (with_reducible refine LeO.ite ?_ ?_)
      | (with_reducible refine LeO.bind ?_ (fun _ => ?_))
      | exact ih0 _ _
      | exact LeO.none _
      | refine LeO.ite ?_ ?_
      | refine LeO.bind ?_ (fun _ => ?_)
set_option maxHeartbeats 8000000 in
set_option maxRecDepth 100000 in
theorem impl_AreLengths.calls (k : Nat) (A0 : Option Addr) (c0 : Nat) (l0 : List Int) (r : Bool) (w : World) (hr0 : Kd.C (Kd.int .i64) w A0 l0.length l0) (hc0 : l0.length ≤ c0) (h : impl_AreLengths.f k l0 = some r) :
    Calls Try.prog 46 #[.slice A0 l0.length c0] w fun e w' => e = .returned (.bool r) ∧ Below w.heap.size w w' := by
  have HR0 := Aside0.mk hr0
  have HC0 := Aside0.mk hc0
  clear hr0 hc0
  have HB := Aside0.mk (Below.refl w.heap.size w)
  have H : (impl_AreLengths.l0 k l0 1) = some r := h
  clear h
  have H' := Aside0.mk H
  clear H
  go_enter Try.func46, Try.ntmps46
  go_wp2
  repeat (go_quiet (fail); try go_wp2)
  go_loopg [3] k (fun kq v3 w' => ∃ (x3_1 : Int), v3 = .int .i64 x3_1 ∧ Aside0 (impl_AreLengths.l0 kq l0 x3_1 = some r) ∧ Aside0 (kq ≤ k) ∧ Aside0 (Below w.heap.size w w'))
  case atStart => exact ⟨(1), (by first | rfl | (simp; done) | (simp [*]; done)), H', ⟨Nat.le_refl _⟩, ⟨by repeat (first | (with_reducible first | exact HB.out | apply below_alloc | apply pw_below_drewN | apply below_drew1) | exact HB.out)⟩⟩
  case round =>
    clear H'
    obtain ⟨x3_1, rfl, HA, HK1, HB⟩ := hrel
    cases gk with
    | zero => exact absurd HA.out (by simp [impl_AreLengths.l0])
    | succ k1 =>
      have H := HA.out
      clear HA
      simp only [impl_AreLengths.l0] at H
      by_cases c2 : x3_1 < (l0.length : Int)
      · rw [if_pos c2] at H
        have c2b0 : decide (x3_1 < (l0.length : Int)) = true := decide_eq_true c2
        clear c2
        by_cases c3 : 0 ≤ x3_1
        · rw [if_pos c3] at H
          have c3b0 : decide (0 ≤ x3_1) = true := decide_eq_true c3
          clear c3
          obtain ⟨ji4, hji4⟩ : ∃ j_ : Int, (wrap64 (x3_1 - 1)) = j_ := ⟨_, rfl⟩
          replace H : (if 0 ≤ (ji4) then (if (ji4) < (l0.length : Int) then (if (rd l0 x3_1) ≤ (rd l0 (ji4)) then (some false) else (impl_AreLengths.l0 k1 l0 (wrap64 (x3_1 + 1)))) else (none)) else (none)) = some r := by first | (rw [hji4] at H; exact H) | (simp only [hji4] at H ⊢; exact H)
          have hji4w : (IntKind.i64.wrap (x3_1 - 1)) = ji4 := (i64_w _).trans hji4
          by_cases c5 : 0 ≤ (ji4)
          · rw [if_pos c5] at H
            have c5b0 : decide (0 ≤ (ji4)) = true := decide_eq_true c5
            clear c5
            by_cases c6 : (ji4) < (l0.length : Int)
            · rw [if_pos c6] at H
              have c6b0 : decide ((ji4) < (l0.length : Int)) = true := decide_eq_true c6
              clear c6
              by_cases c7 : (rd l0 x3_1) ≤ (rd l0 (ji4))
              · rw [if_pos c7] at H
                have c7b0 : decide ((rd l0 x3_1) ≤ (rd l0 (ji4))) = true := decide_eq_true c7
                clear c7
                obtain rfl := Option.some.inj H
                have p407 : 0 ≤ (x3_1 : Int) := of_decide_eq_true (by first | (with_reducible assumption) | assumption)
                have q407 : x3_1 < (l0.length : Int) := of_decide_eq_true (by first | (with_reducible assumption) | assumption)
                obtain ⟨ad407, e407, hx407_0⟩ := Kd.at_int HR0.out x3_1 p407 q407
                cases e407
                replace hx407_0 := (HB.out.cell (World.block_lt_of_cell? w _ hx407_0)).trans hx407_0
                replace p407 := eq_true p407
                replace q407 := eq_true q407
                have p408 : 0 ≤ ((ji4) : Int) := of_decide_eq_true (by first | (with_reducible assumption) | assumption)
                have q408 : (ji4) < (l0.length : Int) := of_decide_eq_true (by first | (with_reducible assumption) | assumption)
                obtain ⟨ad408, e408, hx408_0⟩ := Kd.at_int HR0.out (ji4) p408 q408
                obtain rfl : ad407 = ad408 := (by injection e408)
                replace hx408_0 := (HB.out.cell (World.block_lt_of_cell? w _ hx408_0)).trans hx408_0
                replace p408 := eq_true p408
                replace q408 := eq_true q408
                go_wp2
                repeat (go_quiet (fail); try go_wp2)
                go_ret
                exact ⟨by first | rfl | (simp [errW_none, errW_some] <;> rfl) | (simp only [← hji4]; first | rfl | (simp [errW_none, errW_some] <;> rfl)) | (simp [*, errW_none, errW_some] <;> rfl), by repeat (first | (with_reducible first | exact HB.out | apply below_alloc | apply pw_below_drewN | apply below_drew1) | exact HB.out)⟩
              · rw [if_neg c7] at H
                have c7b0 : decide ((rd l0 x3_1) ≤ (rd l0 (ji4))) = false := decide_eq_false c7
                clear c7
                have H' := Aside0.mk H
                clear H
                have p407 : 0 ≤ (x3_1 : Int) := of_decide_eq_true (by first | (with_reducible assumption) | assumption)
                have q407 : x3_1 < (l0.length : Int) := of_decide_eq_true (by first | (with_reducible assumption) | assumption)
                obtain ⟨ad407, e407, hx407_0⟩ := Kd.at_int HR0.out x3_1 p407 q407
                cases e407
                replace hx407_0 := (HB.out.cell (World.block_lt_of_cell? w _ hx407_0)).trans hx407_0
                replace p407 := eq_true p407
                replace q407 := eq_true q407
                have p408 : 0 ≤ ((ji4) : Int) := of_decide_eq_true (by first | (with_reducible assumption) | assumption)
                have q408 : (ji4) < (l0.length : Int) := of_decide_eq_true (by first | (with_reducible assumption) | assumption)
                obtain ⟨ad408, e408, hx408_0⟩ := Kd.at_int HR0.out (ji4) p408 q408
                obtain rfl : ad407 = ad408 := (by injection e408)
                replace hx408_0 := (HB.out.cell (World.block_lt_of_cell? w _ hx408_0)).trans hx408_0
                replace p408 := eq_true p408
                replace q408 := eq_true q408
                go_wp2
                repeat (go_quiet (fail); try go_wp2)
                go_roundg k1
                case measure => have := HK1.out; omega
                case rel => exact ⟨(wrap64 (x3_1 + 1)), (by first | rfl | (simp; done) | (simp [*]; done)), H', ⟨by have := HK1.out; omega⟩, ⟨by repeat (first | (with_reducible first | exact HB.out | apply below_alloc | apply pw_below_drewN | apply below_drew1) | exact HB.out)⟩⟩
            · rw [if_neg c6] at H
              exact absurd H (by simp)
          · rw [if_neg c5] at H
            exact absurd H (by simp)
        · rw [if_neg c3] at H
          exact absurd H (by simp)
      · rw [if_neg c2] at H
        have c2b0 : decide (x3_1 < (l0.length : Int)) = false := decide_eq_false c2
        clear c2
        replace H := Option.bind_eq_some_iff.mp H
        obtain ⟨t409, A80, H⟩ := H
        replace H : (if t409 = true then ((impl_areWithin.f l0 1 60).bind fun t410 => (some t410)) else (some false)) = some r := H
        have A8 := Aside0.mk A80
        clear A80
        by_cases c9 : t409 = true
        · subst c9
          have H1 : ((impl_areWithin.f l0 1 60).bind fun t410 => (some t410)) = some r := by rw [if_pos rfl] at H; exact H
          clear H
          have H := H1
          clear H1
          replace H := Option.bind_eq_some_iff.mp H
          obtain ⟨t410, A100, H⟩ := H
          replace H : (some t410) = some r := H
          have A10 := Aside0.mk A100
          clear A100
          obtain rfl := Option.some.inj H
          go_wp2_with (first | (go_at_call 85; (with_reducible refine (impl_within.calls (l0.length : Int) 1 4 true _ A8.out).mono ?_); rintro e w' ⟨rfl, ⟨nd, rfl⟩⟩; (try first | exact ⟨rfl, _, World.drewN_drewN _ _ _⟩ | exact ⟨rfl, _, Eq.trans (World.drewN_drewN _ _ _) (congrArg (World.drewN _) (Nat.add_assoc _ _ _))⟩)) | (go_at_call 68; (with_reducible refine (impl_areWithin.calls _ _ l0 1 60 t410 _ ?side1 ?side2 A10.out).mono ?_); (case side1 => repeat (first | exact (Kd.C_below HR0.out (by repeat (first | (with_reducible first | exact HB.out | apply below_alloc | apply pw_below_drewN | apply below_drew1) | exact HB.out))) | (with_reducible refine Kd.C_alloc ?_ _) | (with_reducible refine Kd.C_drewN ?_ _) | (with_reducible refine Kd.C_drew ?_))); (case side2 => exact HC0.out); rintro e w11 ⟨rfl, hb⟩; have n0_ := Aside0.mk (below_step (by repeat (first | (with_reducible first | exact HB.out | apply below_alloc | apply pw_below_drewN | apply below_drew1) | exact HB.out)) hb); clear HB; have HB := n0_; clear n0_; (try clear hb); (try clear hb2); (try clear hk); (try clear hi)))
          repeat (go_quiet (first | (go_at_call 85; (with_reducible refine (impl_within.calls (l0.length : Int) 1 4 true _ A8.out).mono ?_); rintro e w' ⟨rfl, ⟨nd, rfl⟩⟩; (try first | exact ⟨rfl, _, World.drewN_drewN _ _ _⟩ | exact ⟨rfl, _, Eq.trans (World.drewN_drewN _ _ _) (congrArg (World.drewN _) (Nat.add_assoc _ _ _))⟩)) | (go_at_call 68; (with_reducible refine (impl_areWithin.calls _ _ l0 1 60 t410 _ ?side1 ?side2 A10.out).mono ?_); (case side1 => repeat (first | exact (Kd.C_below HR0.out (by repeat (first | (with_reducible first | exact HB.out | apply below_alloc | apply pw_below_drewN | apply below_drew1) | exact HB.out))) | (with_reducible refine Kd.C_alloc ?_ _) | (with_reducible refine Kd.C_drewN ?_ _) | (with_reducible refine Kd.C_drew ?_))); (case side2 => exact HC0.out); rintro e w11 ⟨rfl, hb⟩; have n0_ := Aside0.mk (below_step (by repeat (first | (with_reducible first | exact HB.out | apply below_alloc | apply pw_below_drewN | apply below_drew1) | exact HB.out)) hb); clear HB; have HB := n0_; clear n0_; (try clear hb); (try clear hb2); (try clear hk); (try clear hi))); try go_wp2_with (first | (go_at_call 85; (with_reducible refine (impl_within.calls (l0.length : Int) 1 4 true _ A8.out).mono ?_); rintro e w' ⟨rfl, ⟨nd, rfl⟩⟩; (try first | exact ⟨rfl, _, World.drewN_drewN _ _ _⟩ | exact ⟨rfl, _, Eq.trans (World.drewN_drewN _ _ _) (congrArg (World.drewN _) (Nat.add_assoc _ _ _))⟩)) | (go_at_call 68; (with_reducible refine (impl_areWithin.calls _ _ l0 1 60 t410 _ ?side1 ?side2 A10.out).mono ?_); (case side1 => repeat (first | exact (Kd.C_below HR0.out (by repeat (first | (with_reducible first | exact HB.out | apply below_alloc | apply pw_below_drewN | apply below_drew1) | exact HB.out))) | (with_reducible refine Kd.C_alloc ?_ _) | (with_reducible refine Kd.C_drewN ?_ _) | (with_reducible refine Kd.C_drew ?_))); (case side2 => exact HC0.out); rintro e w11 ⟨rfl, hb⟩; have n0_ := Aside0.mk (below_step (by repeat (first | (with_reducible first | exact HB.out | apply below_alloc | apply pw_below_drewN | apply below_drew1) | exact HB.out)) hb); clear HB; have HB := n0_; clear n0_; (try clear hb); (try clear hb2); (try clear hk); (try clear hi))))
          go_ret
          exact ⟨by first | rfl | (simp [errW_none, errW_some] <;> rfl) | (simp [*, errW_none, errW_some] <;> rfl), by repeat (first | (with_reducible first | exact HB.out | apply below_alloc | apply pw_below_drewN | apply below_drew1) | exact HB.out)⟩
        · replace c9 := Bool.eq_false_iff.mpr c9
          subst c9
          have H1 : (some false) = some r := by rw [if_neg (show ¬ (false = true) by decide)] at H; exact H
          clear H
          have H := H1
          clear H1
          obtain rfl := Option.some.inj H
          go_wp2_with (first | (go_at_call 85; (with_reducible refine (impl_within.calls (l0.length : Int) 1 4 false _ A8.out).mono ?_); rintro e w' ⟨rfl, ⟨nd, rfl⟩⟩; (try first | exact ⟨rfl, _, World.drewN_drewN _ _ _⟩ | exact ⟨rfl, _, Eq.trans (World.drewN_drewN _ _ _) (congrArg (World.drewN _) (Nat.add_assoc _ _ _))⟩)))
          repeat (go_quiet (first | (go_at_call 85; (with_reducible refine (impl_within.calls (l0.length : Int) 1 4 false _ A8.out).mono ?_); rintro e w' ⟨rfl, ⟨nd, rfl⟩⟩; (try first | exact ⟨rfl, _, World.drewN_drewN _ _ _⟩ | exact ⟨rfl, _, Eq.trans (World.drewN_drewN _ _ _) (congrArg (World.drewN _) (Nat.add_assoc _ _ _))⟩))); try go_wp2_with (first | (go_at_call 85; (with_reducible refine (impl_within.calls (l0.length : Int) 1 4 false _ A8.out).mono ?_); rintro e w' ⟨rfl, ⟨nd, rfl⟩⟩; (try first | exact ⟨rfl, _, World.drewN_drewN _ _ _⟩ | exact ⟨rfl, _, Eq.trans (World.drewN_drewN _ _ _) (congrArg (World.drewN _) (Nat.add_assoc _ _ _))⟩))))
          go_ret
          exact ⟨by first | rfl | (simp [errW_none, errW_some] <;> rfl) | (simp [*, errW_none, errW_some] <;> rfl), by repeat (first | (with_reducible first | exact HB.out | apply below_alloc | apply pw_below_drewN | apply below_drew1) | exact HB.out)⟩

end Go.Proofs.Ytfhaclkjiolmjaa.Q

namespace Go.Proofs.Ytfhaclkjiolmjaa.Q
open Go.RowKit Go.Proofs.YtfhaclkjiolmjaaW.PrintWords Go.Proofs.YtfhaclkjiolmjaaW.PrintLast Go.Proofs.YtfhaclkjiolmjaaW.PrintMore
attribute [local go_sem] max2_int min2_int max_two min_two max_three min_three max_four min_four   -- for this text's walks alone
set_option linter.unusedVariables false
set_option linter.unusedSimpArgs false

/-! ### impl_isRod: function 89 -/
def impl_isRod.f (a0 : Int) : Option (Bool) := (impl_within.f a0 1 60).bind fun t411 => (some t411)
set_option maxHeartbeats 8000000 in
set_option maxRecDepth 100000 in
theorem impl_isRod.calls (a0 : Int) (r : Bool) (w : World) (h : impl_isRod.f a0 = some r) :
    Calls Try.prog 89 #[.int .i64 a0] w fun e w' => e = .returned (.bool r) ∧ Drawn0 w w' := by
  have H : ((impl_within.f a0 1 60).bind fun t411 => (some t411)) = some r := h
  clear h
  replace H := Option.bind_eq_some_iff.mp H
  obtain ⟨t411, A20, H⟩ := H
  replace H : (some t411) = some r := H
  have A2 := Aside0.mk A20
  clear A20
  obtain rfl := Option.some.inj H
  go_enter Try.func89, Try.ntmps89
  go_wp2_with (first | ((with_reducible refine gate_callee (f := 85) rfl ?_); refine goesL_ (some 4) rfl rfl Try.func85 (by kernel_rfl) rfl #[.int .i64 a0, .int .i64 1, .int .i64 60] rfl (by (try simp only [List.map_toArray, List.map_cons, List.map_nil]); first | done | rfl | (simp only [List.length_drop, List.length_take]; rfl)) ?_; (with_reducible refine (impl_within.calls a0 1 60 t411 _ A2.out).mono ?_); rintro e w' ⟨rfl, ⟨nd, rfl⟩⟩; refine ⟨_, rfl, ?_⟩))
  go_ret
  exact ⟨by first | rfl | (simp; done) | (simp [*]; done), by repeat (first | exact Drawn0.refl _ | apply Drawn0.step)⟩

end Go.Proofs.Ytfhaclkjiolmjaa.Q

namespace Go.Proofs.Ytfhaclkjiolmjaa.Q
open Go.RowKit Go.Proofs.YtfhaclkjiolmjaaW.PrintWords Go.Proofs.YtfhaclkjiolmjaaW.PrintLast Go.Proofs.YtfhaclkjiolmjaaW.PrintMore
attribute [local go_sem] max2_int min2_int max_two min_two max_three min_three max_four min_four   -- for this text's walks alone
set_option linter.unusedVariables false
set_option linter.unusedSimpArgs false

/-! ### impl_areRod: function 56 -/
def impl_areRod.f (k : Nat) (a0 : Int) (l1 : List Int) : Option (Bool) := (impl_isRod.f a0).bind fun t412 => (if t412 = true then ((impl_AreLengths.f k l1).bind fun t413 => (some t413)) else (some false))
theorem impl_areRod.mono : ∀ a0 a1 k, LeO (impl_areRod.f k a0 a1) (impl_areRod.f (k + 1) a0 a1) := by
  intro a0 a1 k
  unfold impl_areRod.f
  repeat' first
      | (with_reducible exact impl_AreLengths.mono _ _)
      | (with_reducible exact LeO.refl _)
      | (with_reducible exact LeO.none _)
      | (with_reducible refine LeO.ite ?_ ?_)
      | (with_reducible refine LeO.bind ?_ (fun _ => ?_))
      | exact impl_AreLengths.mono _ _
      | exact LeO.none _
      | refine LeO.ite ?_ ?_
      | refine LeO.bind ?_ (fun _ => ?_)
set_option maxHeartbeats 8000000 in
set_option maxRecDepth 100000 in
theorem impl_areRod.calls (k : Nat) (a0 : Int) (A1 : Option Addr) (c1 : Nat) (l1 : List Int) (r : Bool) (w : World) (hr1 : Kd.C (Kd.int .i64) w A1 l1.length l1) (hc1 : l1.length ≤ c1) (h : impl_areRod.f k a0 l1 = some r) :
    Calls Try.prog 56 #[.int .i64 a0, .slice A1 l1.length c1] w fun e w' => e = .returned (.bool r) ∧ Below w.heap.size w w' := by
  have HR1 := Aside0.mk hr1
  have HC1 := Aside0.mk hc1
  clear hr1 hc1
  have HB := Aside0.mk (Below.refl w.heap.size w)
  have H : ((impl_isRod.f a0).bind fun t412 => (if t412 = true then ((impl_AreLengths.f k l1).bind fun t413 => (some t413)) else (some false))) = some r := h
  clear h
  replace H := Option.bind_eq_some_iff.mp H
  obtain ⟨t412, A30, H⟩ := H
  replace H : (if t412 = true then ((impl_AreLengths.f k l1).bind fun t413 => (some t413)) else (some false)) = some r := H
  have A3 := Aside0.mk A30
  clear A30
  by_cases c4 : t412 = true
  · subst c4
    have H1 : ((impl_AreLengths.f k l1).bind fun t413 => (some t413)) = some r := by rw [if_pos rfl] at H; exact H
    clear H
    have H := H1
    clear H1
    replace H := Option.bind_eq_some_iff.mp H
    obtain ⟨t413, A50, H⟩ := H
    replace H : (some t413) = some r := H
    have A5 := Aside0.mk A50
    clear A50
    obtain rfl := Option.some.inj H
    go_enter Try.func56, Try.ntmps56
    go_wp2_with (first | ((with_reducible refine gate_callee (f := 89) rfl ?_); refine goesL_ (some 6) rfl rfl Try.func89 (by kernel_rfl) rfl #[.int .i64 a0] rfl (by (try simp only [List.map_toArray, List.map_cons, List.map_nil]); first | done | rfl | (simp only [List.length_drop, List.length_take]; rfl)) ?_; (with_reducible refine (impl_isRod.calls a0 true _ A3.out).mono ?_); rintro e w' ⟨rfl, ⟨nd, rfl⟩⟩; refine ⟨_, rfl, ?_⟩) | (go_at_call 46; (with_reducible refine (impl_AreLengths.calls k _ _ l1 t413 _ ?side1 ?side2 A5.out).mono ?_); (case side1 => repeat (first | exact HR1.out | (with_reducible refine Kd.C_alloc ?_ _) | (with_reducible refine Kd.C_drewN ?_ _) | (with_reducible refine Kd.C_drew ?_))); (case side2 => exact HC1.out); rintro e w6 ⟨rfl, hb⟩; have n0_ := Aside0.mk (below_step (by repeat (first | (with_reducible first | exact HB.out | apply below_alloc | apply pw_below_drewN | apply below_drew1) | exact HB.out)) hb); clear HB; have HB := n0_; clear n0_; (try clear hb); (try clear hb2); (try clear hk); (try clear hi)))
    go_ret
    exact ⟨by first | rfl | (simp [errW_none, errW_some] <;> rfl) | (simp [*, errW_none, errW_some] <;> rfl), by repeat (first | (with_reducible first | exact HB.out | apply below_alloc | apply pw_below_drewN | apply below_drew1) | exact HB.out)⟩
  · replace c4 := Bool.eq_false_iff.mpr c4
    subst c4
    have H1 : (some false) = some r := by rw [if_neg (show ¬ (false = true) by decide)] at H; exact H
    clear H
    have H := H1
    clear H1
    obtain rfl := Option.some.inj H
    go_enter Try.func56, Try.ntmps56
    go_wp2_with (first | ((with_reducible refine gate_callee (f := 89) rfl ?_); refine goesL_ (some 6) rfl rfl Try.func89 (by kernel_rfl) rfl #[.int .i64 a0] rfl (by (try simp only [List.map_toArray, List.map_cons, List.map_nil]); first | done | rfl | (simp only [List.length_drop, List.length_take]; rfl)) ?_; (with_reducible refine (impl_isRod.calls a0 false _ A3.out).mono ?_); rintro e w' ⟨rfl, ⟨nd, rfl⟩⟩; refine ⟨_, rfl, ?_⟩))
    go_ret
    exact ⟨by first | rfl | (simp [errW_none, errW_some] <;> rfl) | (simp [*, errW_none, errW_some] <;> rfl), by repeat (first | (with_reducible first | exact HB.out | apply below_alloc | apply pw_below_drewN | apply below_drew1) | exact HB.out)⟩

end Go.Proofs.Ytfhaclkjiolmjaa.Q

namespace Go.Proofs.Ytfhaclkjiolmjaa.Q
open Go.RowKit Go.Shelf Go.Proofs.YtfhaclkjiolmjaaW.PrintWords Go.Proofs.YtfhaclkjiolmjaaW.PrintLast Go.Proofs.YtfhaclkjiolmjaaW.PrintMore
set_option linter.unusedVariables false
set_option linter.unusedSimpArgs false

abbrev Least := Int × List Int
def leastStep (s : Least) (p : List Int × Int) : Least := if p.2 < s.1 then (p.2, p.1) else s
/-- The two variables of LeastWaste. -/
def LeastV (base Bl Bb : Nat) (s : Least) (W : World) : Prop :=
  Boxed W Bl 3 (.int .i64 s.1) ∧ ∃ v, Boxed W Bb 22 v ∧ Kd.R kInt 3 W base (fun k => ¬ (k = Bl ∨ k = Bb)) v s.2
theorem LeastV.later {base Bl Bb : Nat} {s : Least} {W W' : World} (h : LeastV base Bl Bb s W) (hb : Below W.heap.size W W') : LeastV base Bl Bb s W' := by
  obtain ⟨h1, v, h2, h3⟩ := h
  exact ⟨box_below h1 hb, v, box_below h2 hb, Kd.R_below h3 hb⟩
set_option maxRecDepth 100000 in
set_option maxHeartbeats 4000000 in
theorem least1_calls (base Bl Bb : Nat) (hne : Bl ≠ Bb) (s : Least) (W : World) (v : Value) (ch : List Int) (left : Int) (hI : LeastV base Bl Bb s W) (hv : Kd.R kInt 3 W base (fun k => ¬ (k = Bl ∨ k = Bb)) v ch) :
    Calls Try.prog 58 #[v, .int .i64 left, .pointer (some ⟨Bl, 0, none⟩), .pointer (some ⟨Bb, 0, none⟩)] W
      fun e w' => e = .returned (.tuple #[]) ∧ LeastV base Bl Bb (leastStep s (ch, left)) w' ∧ Fr (fun k => k = Bl ∨ k = Bb) W w' := by
  obtain ⟨A1, c1, hv1, hc1, hC1⟩ := Kd.R_reads hv
  subst hv1
  obtain ⟨b, bl⟩ := s
  have HI := Aside0.mk hI
  have HV := Aside0.mk hv
  obtain ⟨xl, vb, xb, xr⟩ := hI
  have ql := xl.cell
  have fl := xl.frozen
  have qb := xb.cell
  have fb := xb.frozen
  have hne2 := Ne.symm hne
  have XL := Aside0.mk xl
  have XB := Aside0.mk xb
  clear xl xb xr hv hC1
  simp only at ql
  by_cases h : left < b
  · go_enter Try.func58, Try.ntmps58
    go_wp2
    go_end0
    have hF : Fr (fun k => k = Bl ∨ k = Bb) W ((W.setCell ⟨Bl, 0, none⟩ (.int .i64 left)).setCell ⟨Bb, 0, none⟩ (.slice A1 ch.length c1)) :=
      ((Fr.refl _ W).set _ _ (.inl (.inl rfl))).set _ _ (.inl (.inr rfl))
    refine ⟨rfl, ?_, hF⟩
    unfold leastStep
    rw [if_pos h]
    exact ⟨(XL.out.set _).other hne _, _, (XB.out.other hne2 _).set _, R_fr HV.out hF (fun _ h => h)⟩
  · have H := Aside0.mk h
    go_enter Try.func58, Try.ntmps58
    go_wp2
    go_end0
    refine ⟨rfl, ?_, Fr.refl _ _⟩
    unfold leastStep
    rw [if_neg (Int.not_lt.mpr H.out)]
    exact HI.out

/-- Is a rod short, and are the lengths few and short? -/
def shortB (a0 : Int) (l : List Int) : Bool := decide (0 ≤ a0) && decide (a0 ≤ 60) && decide (l.length ≤ 10) && l.all fun x => decide (1 ≤ x) && decide (x ≤ 60)
def leastV (rod : Int) (ls : List Int) : Least := (patV ls [] rod).foldl leastStep (wrap64 (rod + 1), [])
def impl_LeastWaste.fk (k : Nat) (a0 : Int) (l1 : List Int) : Option (Int × List Int × Bool) :=
  (impl_areRod.f k a0 l1).bind fun t => if t = true then (if shortB a0 l1 = true then some ((leastV a0 l1).1, (leastV a0 l1).2, true) else none) else some (0, [], false)
theorem shortB_of {a0 : Int} {l : List Int} (h : shortB a0 l = true) : (0 ≤ a0 ∧ a0 ≤ 60) ∧ l.length ≤ 10 ∧ ∀ x ∈ l, 1 ≤ x ∧ x ≤ 60 := by
  unfold shortB at h
  simp only [Bool.and_eq_true, decide_eq_true_eq, List.all_eq_true] at h
  exact ⟨h.1.1, h.1.2, h.2⟩
set_option maxRecDepth 100000 in
set_option maxHeartbeats 4000000 in
theorem impl_LeastWaste.calls0 (k : Nat) (a0 : Int) (A1 : Option Addr) (c1 : Nat) (l1 : List Int) (r1 : Int) (r2 : List Int) (r3 : Bool) (w : World) (hr1 : Kd.C kInt w A1 l1.length l1) (hc1 : l1.length ≤ c1) (h : impl_LeastWaste.fk k a0 l1 = some (r1, r2, r3)) :
    Calls Try.prog 12 #[.int .i64 a0, .slice A1 l1.length c1] w fun e w' => ∃ v0_ : Value, e = .returned (.tuple #[.int .i64 r1, v0_, .bool r3]) ∧ Kd.R kInt 3 w' w.heap.size (fun _ => True) v0_ r2 ∧ Below w.heap.size w w' := by
  unfold impl_LeastWaste.fk at h
  obtain ⟨t, ht, h⟩ := Option.bind_eq_some_iff.mp h
  have hrod := impl_areRod.calls k a0 A1 c1 l1 t w hr1 hc1 ht
  have HROD := Aside0.mk hrod
  have HR := Aside0.mk hr1
  clear hrod hr1 ht
  cases t with
  | false =>
    have hr : (0 : Int) = r1 ∧ [] = r2 ∧ false = r3 := by simpa using h
    obtain ⟨rfl, rfl, rfl⟩ := hr
    clear h
    go_enter Try.func12, Try.ntmps12
    go_wp2_with (go_at_call 56; refine HROD.out.mono ?_; rintro e w2 ⟨rfl, hb⟩)
    go_ret3
    exact ⟨_, rfl, Kd.R_nil _ _ _ _ _, hb⟩
  | true =>
    by_cases hs : shortB a0 l1 = true
    case neg => rw [if_pos rfl, if_neg hs] at h; cases h
    rw [if_pos rfl, if_pos hs] at h
    have hr : (leastV a0 l1).1 = r1 ∧ (leastV a0 l1).2 = r2 ∧ true = r3 := by simpa using h
    obtain ⟨h1, h2, rfl⟩ := hr
    have HH := Aside0.mk (And.intro h1 h2)
    have HSH := Aside0.mk (shortB_of hs)
    clear h h1 h2 hs
    go_enter Try.func12, Try.ntmps12
    go_wp2_with (go_at_call 56; refine HROD.out.mono ?_; rintro e w2 ⟨rfl, hb⟩; have B2 := Aside0.mk hb; clear hb)
    have x1 := (Boxed.new w2 3 (.int .i64 (wrap64 (a0 + 1)))).alloc (.cells #[.slice none 0 0] 22)
    have x2 := Boxed.new (w2.alloc (.cells #[.int .i64 (wrap64 (a0 + 1))] 3)) 22 (.slice none 0 0)
    have b4 : Below w.heap.size w ((w2.alloc (.cells #[.int .i64 (wrap64 (a0 + 1))] 3)).alloc (.cells #[.slice none 0 0] 22)) :=
      (B2.out.alloc B2.out.size _).alloc (B2.out.alloc B2.out.size _).size _
    have z4 : ((w2.alloc (.cells #[.int .i64 (wrap64 (a0 + 1))] 3)).alloc (.cells #[.slice none 0 0] 22)).heap.size = w2.heap.size + 1 + 1 := by simp
    rw [show (w2.alloc (.cells #[.int .i64 (wrap64 (a0 + 1))] 3)).heap.size = w2.heap.size + 1 by simp] at x2
    generalize (w2.alloc (.cells #[.int .i64 (wrap64 (a0 + 1))] 3)).alloc (.cells #[.slice none 0 0] 22) = W4 at x1 x2 b4 z4 ⊢
    have hw2 : w.heap.size ≤ w2.heap.size := B2.out.size
    have T : Each l1.length (fun k => k = w2.heap.size ∨ k = w2.heap.size + 1) (LeastV w.heap.size w2.heap.size (w2.heap.size + 1)) w.heap.size W4 58 #[] #[.pointer (some ⟨w2.heap.size, 0, none⟩), .pointer (some ⟨w2.heap.size + 1, 0, none⟩)] leastStep :=
      ⟨enters_of Try.func58 (by kernel_rfl) rfl, fun s W W' h hb => h.later hb, fun s W v ch left hF hI hv _ _ => least1_calls w.heap.size w2.heap.size (w2.heap.size + 1) (by omega) s W v ch left hI hv⟩
    have hcall := patterns_calls l1 A1 c1 a0 (fun k => k = w2.heap.size ∨ k = w2.heap.size + 1) (LeastV w.heap.size w2.heap.size (w2.heap.size + 1)) w.heap.size W4 58 #[] #[.pointer (some ⟨w2.heap.size, 0, none⟩), .pointer (some ⟨w2.heap.size + 1, 0, none⟩)] leastStep (wrap64 (a0 + 1), [])
      HSH.out.2.1 HSH.out.2.2 HSH.out.1 T b4.size (fun k hk => by omega) (fun W hF => Kd.C_below HR.out (b4.trans (hF.below (fun k hk => by omega) b4.size))) hc1 ⟨x1, _, x2, Kd.R_nil _ _ _ _ _⟩
    have hfold : (patV l1 [] a0).foldl leastStep (wrap64 (a0 + 1), []) = (r1, r2) := Prod.ext HH.out.1 HH.out.2
    rw [hfold] at hcall
    have HCALL := Aside0.mk hcall
    have B4 := Aside0.mk b4
    clear hcall hfold T x1 x2 b4
    go_wp2_with (go_at_call 57; refine HCALL.out.mono ?_; rintro e w5 ⟨rfl, hI5, hF5⟩; obtain ⟨xl, vb, xb, xr⟩ := hI5; have ql := xl.cell; have qb := xb.cell; have XR := Aside0.mk xr; have F5 := Aside0.mk hF5; clear xl xb xr hF5)
    go_quiet (fail)
    go_wp2
    go_ret3
    have hb5 : Below w.heap.size w w5 := B4.out.trans (F5.out.below (fun k hk => by omega) B4.out.size)
    exact ⟨_, rfl, Kd.R_mono (Kd.R_below XR.out (pw_below_drewN (Below.refl _ _) nq)) (fun _ _ => trivial), pw_below_drewN hb5 nq⟩
def impl_LeastWaste.f (a0 : Int) (l1 : List Int) : Option (Int × List Int × Bool) := impl_LeastWaste.fk (l1.length + 1) a0 l1
theorem impl_LeastWaste.calls (a0 : Int) (A1 : Option Addr) (c1 : Nat) (l1 : List Int) (r1 : Int) (r2 : List Int) (r3 : Bool) (w : World) (hr1 : Kd.C kInt w A1 l1.length l1) (hc1 : l1.length ≤ c1) (h : impl_LeastWaste.f a0 l1 = some (r1, r2, r3)) :
    Calls Try.prog 12 #[.int .i64 a0, .slice A1 l1.length c1] w fun e w' => ∃ v0_ : Value, e = .returned (.tuple #[.int .i64 r1, v0_, .bool r3]) ∧ Kd.R kInt 3 w' w.heap.size (fun _ => True) v0_ r2 ∧ Below w.heap.size w w' :=
  impl_LeastWaste.calls0 _ a0 A1 c1 l1 r1 r2 r3 w hr1 hc1 h
end Go.Proofs.Ytfhaclkjiolmjaa.Q

namespace Go.Proofs.Ytfhaclkjiolmjaa.Q
open Go.RowKit Go.Proofs.YtfhaclkjiolmjaaW.PrintWords Go.Proofs.YtfhaclkjiolmjaaW.PrintLast Go.Proofs.YtfhaclkjiolmjaaW.PrintMore
attribute [local go_sem] max2_int min2_int max_two min_two max_three min_three max_four min_four   -- for this text's walks alone
set_option linter.unusedVariables false
set_option linter.unusedSimpArgs false

/-! ### spec_l1Rising: function 101 -/
def spec_l1Rising.l0 : Nat → List Int → Int → Int → List Int → Int → Int → Option (Bool)
  | 0, _, _, _, _, _, _ => none
  | k + 1, x0, x1, x2, x9, x10, x11 => if x11 < x10 then (if 0 ≤ x11 then (if x11 < (x9.length : Int) then ((spec_l1In.f (rd x9 x11) x1 x2).bind fun t102 => (if t102 = true then (if x11 > 0 then (if 0 ≤ (wrap64 (x11 - 1)) then (if (wrap64 (x11 - 1)) < (x0.length : Int) then (if (rd x0 (wrap64 (x11 - 1))) ≥ (rd x9 x11) then (some false) else (spec_l1Rising.l0 k x0 x1 x2 x9 x10 (wrap64 (x11 + 1)))) else (none)) else (none)) else (spec_l1Rising.l0 k x0 x1 x2 x9 x10 (wrap64 (x11 + 1)))) else (some false))) else (none)) else (none)) else (some true)
def spec_l1Rising.f (k : Nat) (l0 : List Int) (a1 : Int) (a2 : Int) : Option (Bool) := spec_l1Rising.l0 k l0 a1 a2 l0 (l0.length : Int) 0
theorem spec_l1Rising.mono_l : ∀ k, (∀ y0 y1 y2 y3 y4 y5, LeO (spec_l1Rising.l0 k y0 y1 y2 y3 y4 y5) (spec_l1Rising.l0 (k + 1) y0 y1 y2 y3 y4 y5))
  | 0 => fun _ _ _ _ _ _ r h => by simp [spec_l1Rising.l0] at h
  | k + 1 => by
    have ih0 := spec_l1Rising.mono_l k
    · intro y0 y1 y2 y3 y4 y5
      unfold spec_l1Rising.l0
      repeat' first
      | (with_reducible exact ih0 _ _ _ _ _ _)
      | (with_reducible exact LeO.refl _)
      | (with_reducible exact LeO.none _)
      | (with_reducible refine LeO.ite ?_ ?_)
      | (with_reducible refine LeO.bind ?_ (fun _ => ?_))
      | exact ih0 _ _ _ _ _ _
      | exact LeO.none _
      | refine LeO.ite ?_ ?_
      | refine LeO.bind ?_ (fun _ => ?_)
theorem spec_l1Rising.mono : ∀ a0 a1 a2 k, LeO (spec_l1Rising.f k a0 a1 a2) (spec_l1Rising.f (k + 1) a0 a1 a2) := by
  intro a0 a1 a2 k
  have ih0 := spec_l1Rising.mono_l k
  unfold spec_l1Rising.f
  repeat' first
      | (with_reducible exact ih0 _ _ _ _ _ _)
      | (with_reducible exact LeO.refl _)
      | (with_reducible exact LeO.none _)
      | (with_reducible refine LeO.ite ?_ ?_)
      | (with_reducible refine LeO.bind ?_ (fun _ => ?_))
      | exact ih0 _ _ _ _ _ _
      | exact LeO.none _
      | refine LeO.ite ?_ ?_
      | refine LeO.bind ?_ (fun _ => ?_)
set_option maxHeartbeats 8000000 in
set_option maxRecDepth 100000 in
theorem spec_l1Rising.calls (k : Nat) (A0 : Option Addr) (c0 : Nat) (l0 : List Int) (a1 : Int) (a2 : Int) (r : Bool) (w : World) (hr0 : Kd.C (Kd.int .i64) w A0 l0.length l0) (hc0 : l0.length ≤ c0) (h : spec_l1Rising.f k l0 a1 a2 = some r) :
    Calls Try.prog 101 #[.slice A0 l0.length c0, .int .i64 a1, .int .i64 a2] w fun e w' => e = .returned (.bool r) ∧ Drawn0 w w' := by
  have HR0 := Aside0.mk hr0
  have HC0 := Aside0.mk hc0
  clear hr0 hc0
  have H : (spec_l1Rising.l0 k l0 a1 a2 l0 (l0.length : Int) 0) = some r := h
  clear h
  have H' := Aside0.mk H
  clear H
  go_enter Try.func101, Try.ntmps101
  go_wp2
  go_loopg [11] k (fun kq v11 w' => ∃ (x11_1 : Int), v11 = .int .i64 x11_1 ∧ Aside0 (spec_l1Rising.l0 kq l0 a1 a2 l0 (l0.length : Int) x11_1 = some r) ∧ Aside0 (kq ≤ k) ∧ Drawn0 w w')
  case atStart => exact ⟨(0), (by first | rfl | (simp; done) | (simp [*]; done)), H', ⟨Nat.le_refl _⟩, by repeat (first | exact Drawn0.refl _ | apply Drawn0.step)⟩
  case round =>
    clear H'
    try clear c1
    try clear p2
    obtain ⟨x11_1, rfl, HA, HK1, ⟨m1, rfl⟩⟩ := hrel
    cases gk with
    | zero => exact absurd HA.out (by simp [spec_l1Rising.l0])
    | succ k1 =>
      have H := HA.out
      clear HA
      simp only [spec_l1Rising.l0] at H
      by_cases c4 : x11_1 < (l0.length : Int)
      · rw [if_pos c4] at H
        have c4b0 : decide (x11_1 < (l0.length : Int)) = true := decide_eq_true c4
        clear c4
        by_cases c5 : 0 ≤ x11_1
        · rw [if_pos c5] at H
          have c5b0 : decide (0 ≤ x11_1) = true := decide_eq_true c5
          clear c5
          by_cases c6 : x11_1 < (l0.length : Int)
          · rw [if_pos c6] at H
            have c6b0 : decide (x11_1 < (l0.length : Int)) = true := decide_eq_true c6
            clear c6
            replace H := Option.bind_eq_some_iff.mp H
            obtain ⟨t102, A70, H⟩ := H
            replace H : (if t102 = true then (if x11_1 > 0 then (if 0 ≤ (wrap64 (x11_1 - 1)) then (if (wrap64 (x11_1 - 1)) < (l0.length : Int) then (if (rd l0 (wrap64 (x11_1 - 1))) ≥ (rd l0 x11_1) then (some false) else (spec_l1Rising.l0 k1 l0 a1 a2 l0 (l0.length : Int) (wrap64 (x11_1 + 1)))) else (none)) else (none)) else (spec_l1Rising.l0 k1 l0 a1 a2 l0 (l0.length : Int) (wrap64 (x11_1 + 1)))) else (some false)) = some r := H
            have A7 := Aside0.mk A70
            clear A70
            by_cases c8 : t102 = true
            · subst c8
              have H1 : (if x11_1 > 0 then (if 0 ≤ (wrap64 (x11_1 - 1)) then (if (wrap64 (x11_1 - 1)) < (l0.length : Int) then (if (rd l0 (wrap64 (x11_1 - 1))) ≥ (rd l0 x11_1) then (some false) else (spec_l1Rising.l0 k1 l0 a1 a2 l0 (l0.length : Int) (wrap64 (x11_1 + 1)))) else (none)) else (none)) else (spec_l1Rising.l0 k1 l0 a1 a2 l0 (l0.length : Int) (wrap64 (x11_1 + 1)))) = some r := by rw [if_pos rfl] at H; exact H
              clear H
              have H := H1
              clear H1
              by_cases c9 : x11_1 > 0
              · rw [if_pos c9] at H
                have c9b0 : decide (0 < x11_1) = true := decide_eq_true c9
                clear c9
                obtain ⟨ji10, hji10⟩ : ∃ j_ : Int, (wrap64 (x11_1 - 1)) = j_ := ⟨_, rfl⟩
                replace H : (if 0 ≤ (ji10) then (if (ji10) < (l0.length : Int) then (if (rd l0 (ji10)) ≥ (rd l0 x11_1) then (some false) else (spec_l1Rising.l0 k1 l0 a1 a2 l0 (l0.length : Int) (wrap64 (x11_1 + 1)))) else (none)) else (none)) = some r := by first | (rw [hji10] at H; exact H) | (simp only [hji10] at H ⊢; exact H)
                (try rw [hji10] at A7)
                have hji10w : (IntKind.i64.wrap (x11_1 - 1)) = ji10 := (i64_w _).trans hji10
                by_cases c11 : 0 ≤ (ji10)
                · rw [if_pos c11] at H
                  have c11b0 : decide (0 ≤ (ji10)) = true := decide_eq_true c11
                  clear c11
                  by_cases c12 : (ji10) < (l0.length : Int)
                  · rw [if_pos c12] at H
                    have c12b0 : decide ((ji10) < (l0.length : Int)) = true := decide_eq_true c12
                    clear c12
                    by_cases c13 : (rd l0 (ji10)) ≥ (rd l0 x11_1)
                    · rw [if_pos c13] at H
                      have c13b0 : decide ((rd l0 x11_1) ≤ (rd l0 (ji10))) = true := decide_eq_true c13
                      clear c13
                      obtain rfl := Option.some.inj H
                      have p101 : 0 ≤ (x11_1 : Int) := of_decide_eq_true (by first | (with_reducible assumption) | assumption)
                      have q101 : x11_1 < (l0.length : Int) := of_decide_eq_true (by first | (with_reducible assumption) | assumption)
                      obtain ⟨ad101, e101, hx101_0⟩ := Kd.at_int HR0.out x11_1 p101 q101
                      cases e101
                      replace p101 := eq_true p101
                      replace q101 := eq_true q101
                      go_wp2_with (first | ((with_reducible refine gate_callee (f := 88) rfl ?_); refine goesL_ (some 19) rfl rfl Try.func88 (by kernel_rfl) rfl #[.int .i64 (rd l0 x11_1), .int .i64 a1, .int .i64 a2] rfl (by (try simp only [List.map_toArray, List.map_cons, List.map_nil]); first | done | rfl | (simp only [List.length_drop, List.length_take]; rfl)) ?_; (with_reducible refine (spec_l1In.calls (rd l0 x11_1) a1 a2 true _ A7.out).mono ?_); rintro e w' ⟨rfl, ⟨nd, rfl⟩⟩; refine ⟨_, rfl, ?_⟩; have p103 : 0 ≤ ((ji10) : Int) := of_decide_eq_true (by first | (with_reducible assumption) | assumption); have q103 : (ji10) < (l0.length : Int) := of_decide_eq_true (by first | (with_reducible assumption) | assumption); obtain ⟨ad103, e103, hx103_0⟩ := Kd.at_int HR0.out (ji10) p103 q103; obtain rfl : ad101 = ad103 := (by injection e103); replace p103 := eq_true p103; replace q103 := eq_true q103))
                      go_ret
                      exact ⟨by first | rfl | (simp; done) | (simp only [← hji10] <;> (first | rfl | simp)) | (simp [*]; done), by repeat (first | exact Drawn0.refl _ | apply Drawn0.step)⟩
                    · rw [if_neg c13] at H
                      have c13b0 : decide ((rd l0 x11_1) ≤ (rd l0 (ji10))) = false := decide_eq_false c13
                      clear c13
                      have H' := Aside0.mk H
                      clear H
                      have p101 : 0 ≤ (x11_1 : Int) := of_decide_eq_true (by first | (with_reducible assumption) | assumption)
                      have q101 : x11_1 < (l0.length : Int) := of_decide_eq_true (by first | (with_reducible assumption) | assumption)
                      obtain ⟨ad101, e101, hx101_0⟩ := Kd.at_int HR0.out x11_1 p101 q101
                      cases e101
                      replace p101 := eq_true p101
                      replace q101 := eq_true q101
                      go_wp2_with (first | ((with_reducible refine gate_callee (f := 88) rfl ?_); refine goesL_ (some 19) rfl rfl Try.func88 (by kernel_rfl) rfl #[.int .i64 (rd l0 x11_1), .int .i64 a1, .int .i64 a2] rfl (by (try simp only [List.map_toArray, List.map_cons, List.map_nil]); first | done | rfl | (simp only [List.length_drop, List.length_take]; rfl)) ?_; (with_reducible refine (spec_l1In.calls (rd l0 x11_1) a1 a2 true _ A7.out).mono ?_); rintro e w' ⟨rfl, ⟨nd, rfl⟩⟩; refine ⟨_, rfl, ?_⟩; have p103 : 0 ≤ ((ji10) : Int) := of_decide_eq_true (by first | (with_reducible assumption) | assumption); have q103 : (ji10) < (l0.length : Int) := of_decide_eq_true (by first | (with_reducible assumption) | assumption); obtain ⟨ad103, e103, hx103_0⟩ := Kd.at_int HR0.out (ji10) p103 q103; obtain rfl : ad101 = ad103 := (by injection e103); replace p103 := eq_true p103; replace q103 := eq_true q103))
                      go_roundg k1
                      case measure => have := HK1.out; omega
                      case rel => exact ⟨(wrap64 (x11_1 + 1)), (by first | rfl | (simp; done) | (simp [*]; done)), H', ⟨by have := HK1.out; omega⟩, by repeat (first | exact Drawn0.refl _ | apply Drawn0.step)⟩
                  · rw [if_neg c12] at H
                    exact absurd H (by simp)
                · rw [if_neg c11] at H
                  exact absurd H (by simp)
              · rw [if_neg c9] at H
                have c9b0 : decide (0 < x11_1) = false := decide_eq_false c9
                clear c9
                have H' := Aside0.mk H
                clear H
                have p101 : 0 ≤ (x11_1 : Int) := of_decide_eq_true (by first | (with_reducible assumption) | assumption)
                have q101 : x11_1 < (l0.length : Int) := of_decide_eq_true (by first | (with_reducible assumption) | assumption)
                obtain ⟨ad101, e101, hx101_0⟩ := Kd.at_int HR0.out x11_1 p101 q101
                cases e101
                replace p101 := eq_true p101
                replace q101 := eq_true q101
                go_wp2_with (first | ((with_reducible refine gate_callee (f := 88) rfl ?_); refine goesL_ (some 19) rfl rfl Try.func88 (by kernel_rfl) rfl #[.int .i64 (rd l0 x11_1), .int .i64 a1, .int .i64 a2] rfl (by (try simp only [List.map_toArray, List.map_cons, List.map_nil]); first | done | rfl | (simp only [List.length_drop, List.length_take]; rfl)) ?_; (with_reducible refine (spec_l1In.calls (rd l0 x11_1) a1 a2 true _ A7.out).mono ?_); rintro e w' ⟨rfl, ⟨nd, rfl⟩⟩; refine ⟨_, rfl, ?_⟩))
                go_roundg k1
                case measure => have := HK1.out; omega
                case rel => exact ⟨(wrap64 (x11_1 + 1)), (by first | rfl | (simp; done) | (simp [*]; done)), H', ⟨by have := HK1.out; omega⟩, by repeat (first | exact Drawn0.refl _ | apply Drawn0.step)⟩
            · replace c8 := Bool.eq_false_iff.mpr c8
              subst c8
              have H1 : (some false) = some r := by rw [if_neg (show ¬ (false = true) by decide)] at H; exact H
              clear H
              have H := H1
              clear H1
              obtain rfl := Option.some.inj H
              have p101 : 0 ≤ (x11_1 : Int) := of_decide_eq_true (by first | (with_reducible assumption) | assumption)
              have q101 : x11_1 < (l0.length : Int) := of_decide_eq_true (by first | (with_reducible assumption) | assumption)
              obtain ⟨ad101, e101, hx101_0⟩ := Kd.at_int HR0.out x11_1 p101 q101
              cases e101
              replace p101 := eq_true p101
              replace q101 := eq_true q101
              go_wp2_with (first | ((with_reducible refine gate_callee (f := 88) rfl ?_); refine goesL_ (some 19) rfl rfl Try.func88 (by kernel_rfl) rfl #[.int .i64 (rd l0 x11_1), .int .i64 a1, .int .i64 a2] rfl (by (try simp only [List.map_toArray, List.map_cons, List.map_nil]); first | done | rfl | (simp only [List.length_drop, List.length_take]; rfl)) ?_; (with_reducible refine (spec_l1In.calls (rd l0 x11_1) a1 a2 false _ A7.out).mono ?_); rintro e w' ⟨rfl, ⟨nd, rfl⟩⟩; refine ⟨_, rfl, ?_⟩))
              go_ret
              exact ⟨by first | rfl | (simp; done) | (simp [*]; done), by repeat (first | exact Drawn0.refl _ | apply Drawn0.step)⟩
          · rw [if_neg c6] at H
            exact absurd H (by simp)
        · rw [if_neg c5] at H
          exact absurd H (by simp)
      · rw [if_neg c4] at H
        have c4b0 : decide (x11_1 < (l0.length : Int)) = false := decide_eq_false c4
        clear c4
        obtain rfl := Option.some.inj H
        go_wp2
        go_ret
        exact ⟨by first | rfl | (simp; done) | (simp [*]; done), by repeat (first | exact Drawn0.refl _ | apply Drawn0.step)⟩

end Go.Proofs.Ytfhaclkjiolmjaa.Q

namespace Go.Proofs.Ytfhaclkjiolmjaa.Q
open Go.RowKit Go.Proofs.YtfhaclkjiolmjaaW.PrintWords Go.Proofs.YtfhaclkjiolmjaaW.PrintLast Go.Proofs.YtfhaclkjiolmjaaW.PrintMore
attribute [local go_sem] max2_int min2_int max_two min_two max_three min_three max_four min_four   -- for this text's walks alone
set_option linter.unusedVariables false
set_option linter.unusedSimpArgs false

/-! ### spec_rdLengths: function 86 -/
def spec_rdLengths.f (k : Nat) (l0 : List Int) : Option (Bool) := (spec_l1In.f (l0.length : Int) 1 4).bind fun t104 => (if t104 = true then ((spec_l1Rising.f k l0 1 60).bind fun t105 => (some t105)) else (some false))
theorem spec_rdLengths.mono : ∀ a0 k, LeO (spec_rdLengths.f k a0) (spec_rdLengths.f (k + 1) a0) := by
  intro a0 k
  unfold spec_rdLengths.f
  repeat' first
      | (with_reducible exact spec_l1Rising.mono _ _ _ _)
      | (with_reducible exact LeO.refl _)
      | (with_reducible exact LeO.none _)
      | (with_reducible refine LeO.ite ?_ ?_)
      | (with_reducible refine LeO.bind ?_ (fun _ => ?_))
      | exact spec_l1Rising.mono _ _ _ _
      | exact LeO.none _
      | refine LeO.ite ?_ ?_
      | refine LeO.bind ?_ (fun _ => ?_)
set_option maxHeartbeats 8000000 in
set_option maxRecDepth 100000 in
theorem spec_rdLengths.calls (k : Nat) (A0 : Option Addr) (c0 : Nat) (l0 : List Int) (r : Bool) (w : World) (hr0 : Kd.C (Kd.int .i64) w A0 l0.length l0) (hc0 : l0.length ≤ c0) (h : spec_rdLengths.f k l0 = some r) :
    Calls Try.prog 86 #[.slice A0 l0.length c0] w fun e w' => e = .returned (.bool r) ∧ Drawn0 w w' := by
  have HR0 := Aside0.mk hr0
  have HC0 := Aside0.mk hc0
  clear hr0 hc0
  have H : ((spec_l1In.f (l0.length : Int) 1 4).bind fun t104 => (if t104 = true then ((spec_l1Rising.f k l0 1 60).bind fun t105 => (some t105)) else (some false))) = some r := h
  clear h
  replace H := Option.bind_eq_some_iff.mp H
  obtain ⟨t104, A20, H⟩ := H
  replace H : (if t104 = true then ((spec_l1Rising.f k l0 1 60).bind fun t105 => (some t105)) else (some false)) = some r := H
  have A2 := Aside0.mk A20
  clear A20
  by_cases c3 : t104 = true
  · subst c3
    have H1 : ((spec_l1Rising.f k l0 1 60).bind fun t105 => (some t105)) = some r := by rw [if_pos rfl] at H; exact H
    clear H
    have H := H1
    clear H1
    replace H := Option.bind_eq_some_iff.mp H
    obtain ⟨t105, A40, H⟩ := H
    replace H : (some t105) = some r := H
    have A4 := Aside0.mk A40
    clear A40
    obtain rfl := Option.some.inj H
    go_enter Try.func86, Try.ntmps86
    go_wp2_with (first | ((with_reducible refine gate_callee (f := 88) rfl ?_); refine goesL_ (some 5) rfl rfl Try.func88 (by kernel_rfl) rfl #[.int .i64 (l0.length : Int), .int .i64 1, .int .i64 4] rfl (by (try simp only [List.map_toArray, List.map_cons, List.map_nil]); first | done | rfl | (simp only [List.length_drop, List.length_take]; rfl)) ?_; (with_reducible refine (spec_l1In.calls (l0.length : Int) 1 4 true _ A2.out).mono ?_); rintro e w' ⟨rfl, ⟨nd, rfl⟩⟩; refine ⟨_, rfl, ?_⟩) | (go_at_call 101; (with_reducible refine (spec_l1Rising.calls k _ _ l0 1 60 t105 _ ?side1 ?side2 A4.out).mono ?_); (case side1 => repeat (first | exact HR0.out | (with_reducible refine Kd.C_alloc ?_ _) | (with_reducible refine Kd.C_drewN ?_ _) | (with_reducible refine Kd.C_drew ?_))); (case side2 => exact HC0.out); rintro e w' ⟨rfl, ⟨nd, rfl⟩⟩))
    go_ret
    exact ⟨by first | rfl | (simp; done) | (simp [*]; done), by repeat (first | exact Drawn0.refl _ | apply Drawn0.step)⟩
  · replace c3 := Bool.eq_false_iff.mpr c3
    subst c3
    have H1 : (some false) = some r := by rw [if_neg (show ¬ (false = true) by decide)] at H; exact H
    clear H
    have H := H1
    clear H1
    obtain rfl := Option.some.inj H
    go_enter Try.func86, Try.ntmps86
    go_wp2_with (first | ((with_reducible refine gate_callee (f := 88) rfl ?_); refine goesL_ (some 5) rfl rfl Try.func88 (by kernel_rfl) rfl #[.int .i64 (l0.length : Int), .int .i64 1, .int .i64 4] rfl (by (try simp only [List.map_toArray, List.map_cons, List.map_nil]); first | done | rfl | (simp only [List.length_drop, List.length_take]; rfl)) ?_; (with_reducible refine (spec_l1In.calls (l0.length : Int) 1 4 false _ A2.out).mono ?_); rintro e w' ⟨rfl, ⟨nd, rfl⟩⟩; refine ⟨_, rfl, ?_⟩))
    go_ret
    exact ⟨by first | rfl | (simp; done) | (simp [*]; done), by repeat (first | exact Drawn0.refl _ | apply Drawn0.step)⟩

end Go.Proofs.Ytfhaclkjiolmjaa.Q

namespace Go.Proofs.Ytfhaclkjiolmjaa.Q
open Go.RowKit Go.Proofs.YtfhaclkjiolmjaaW.PrintWords Go.Proofs.YtfhaclkjiolmjaaW.PrintLast Go.Proofs.YtfhaclkjiolmjaaW.PrintMore
attribute [local go_sem] max2_int min2_int max_two min_two max_three min_three max_four min_four   -- for this text's walks alone
set_option linter.unusedVariables false
set_option linter.unusedSimpArgs false

/-! ### spec_rdAsked: function 53 -/
def spec_rdAsked.f (k : Nat) (a0 : Int) (l1 : List Int) : Option (Bool) := (spec_l1In.f a0 1 60).bind fun t106 => (if t106 = true then ((spec_rdLengths.f k l1).bind fun t107 => (some t107)) else (some false))
theorem spec_rdAsked.mono : ∀ a0 a1 k, LeO (spec_rdAsked.f k a0 a1) (spec_rdAsked.f (k + 1) a0 a1) := by
  intro a0 a1 k
  unfold spec_rdAsked.f
  repeat' first
      | (with_reducible exact spec_rdLengths.mono _ _)
      | (with_reducible exact LeO.refl _)
      | (with_reducible exact LeO.none _)
      | (with_reducible refine LeO.ite ?_ ?_)
      | (with_reducible refine LeO.bind ?_ (fun _ => ?_))
      | exact spec_rdLengths.mono _ _
      | exact LeO.none _
      | refine LeO.ite ?_ ?_
      | refine LeO.bind ?_ (fun _ => ?_)
set_option maxHeartbeats 8000000 in
set_option maxRecDepth 100000 in
theorem spec_rdAsked.calls (k : Nat) (a0 : Int) (A1 : Option Addr) (c1 : Nat) (l1 : List Int) (r : Bool) (w : World) (hr1 : Kd.C (Kd.int .i64) w A1 l1.length l1) (hc1 : l1.length ≤ c1) (h : spec_rdAsked.f k a0 l1 = some r) :
    Calls Try.prog 53 #[.int .i64 a0, .slice A1 l1.length c1] w fun e w' => e = .returned (.bool r) ∧ Drawn0 w w' := by
  have HR1 := Aside0.mk hr1
  have HC1 := Aside0.mk hc1
  clear hr1 hc1
  have H : ((spec_l1In.f a0 1 60).bind fun t106 => (if t106 = true then ((spec_rdLengths.f k l1).bind fun t107 => (some t107)) else (some false))) = some r := h
  clear h
  replace H := Option.bind_eq_some_iff.mp H
  obtain ⟨t106, A30, H⟩ := H
  replace H : (if t106 = true then ((spec_rdLengths.f k l1).bind fun t107 => (some t107)) else (some false)) = some r := H
  have A3 := Aside0.mk A30
  clear A30
  by_cases c4 : t106 = true
  · subst c4
    have H1 : ((spec_rdLengths.f k l1).bind fun t107 => (some t107)) = some r := by rw [if_pos rfl] at H; exact H
    clear H
    have H := H1
    clear H1
    replace H := Option.bind_eq_some_iff.mp H
    obtain ⟨t107, A50, H⟩ := H
    replace H : (some t107) = some r := H
    have A5 := Aside0.mk A50
    clear A50
    obtain rfl := Option.some.inj H
    go_enter Try.func53, Try.ntmps53
    go_wp2_with (first | ((with_reducible refine gate_callee (f := 88) rfl ?_); refine goesL_ (some 6) rfl rfl Try.func88 (by kernel_rfl) rfl #[.int .i64 a0, .int .i64 1, .int .i64 60] rfl (by (try simp only [List.map_toArray, List.map_cons, List.map_nil]); first | done | rfl | (simp only [List.length_drop, List.length_take]; rfl)) ?_; (with_reducible refine (spec_l1In.calls a0 1 60 true _ A3.out).mono ?_); rintro e w' ⟨rfl, ⟨nd, rfl⟩⟩; refine ⟨_, rfl, ?_⟩) | (go_at_call 86; (with_reducible refine (spec_rdLengths.calls k _ _ l1 t107 _ ?side1 ?side2 A5.out).mono ?_); (case side1 => repeat (first | exact HR1.out | (with_reducible refine Kd.C_alloc ?_ _) | (with_reducible refine Kd.C_drewN ?_ _) | (with_reducible refine Kd.C_drew ?_))); (case side2 => exact HC1.out); rintro e w' ⟨rfl, ⟨nd, rfl⟩⟩))
    go_ret
    exact ⟨by first | rfl | (simp; done) | (simp [*]; done), by repeat (first | exact Drawn0.refl _ | apply Drawn0.step)⟩
  · replace c4 := Bool.eq_false_iff.mpr c4
    subst c4
    have H1 : (some false) = some r := by rw [if_neg (show ¬ (false = true) by decide)] at H; exact H
    clear H
    have H := H1
    clear H1
    obtain rfl := Option.some.inj H
    go_enter Try.func53, Try.ntmps53
    go_wp2_with (first | ((with_reducible refine gate_callee (f := 88) rfl ?_); refine goesL_ (some 6) rfl rfl Try.func88 (by kernel_rfl) rfl #[.int .i64 a0, .int .i64 1, .int .i64 60] rfl (by (try simp only [List.map_toArray, List.map_cons, List.map_nil]); first | done | rfl | (simp only [List.length_drop, List.length_take]; rfl)) ?_; (with_reducible refine (spec_l1In.calls a0 1 60 false _ A3.out).mono ?_); rintro e w' ⟨rfl, ⟨nd, rfl⟩⟩; refine ⟨_, rfl, ?_⟩))
    go_ret
    exact ⟨by first | rfl | (simp; done) | (simp [*]; done), by repeat (first | exact Drawn0.refl _ | apply Drawn0.step)⟩

end Go.Proofs.Ytfhaclkjiolmjaa.Q

namespace Go.Proofs.Ytfhaclkjiolmjaa.Q
open Go.RowKit Go.Proofs.YtfhaclkjiolmjaaW.PrintWords Go.Proofs.YtfhaclkjiolmjaaW.PrintLast Go.Proofs.YtfhaclkjiolmjaaW.PrintMore
set_option linter.unusedVariables false
set_option linter.unusedSimpArgs false

/-- Each of d numbers from place i on is greater than the one before. -/
def incB (l : List Int) : Nat → Nat → Bool
  | 0, _ => true
  | d + 1, i => decide (rd l ((i : Int) - 1) < rd l (i : Int)) && incB l d (i + 1)
def okR (l : List Int) : Bool := l.all fun n => decide (1 ≤ n) && decide (n ≤ 60)
def lengthsB (l : List Int) : Bool := (decide (1 ≤ (l.length : Int)) && decide ((l.length : Int) ≤ 4)) && (okR l && incB l (l.length - 1) 1)
theorem areLengths_l0 (l : List Int) (hn : l.length ≤ 1000000000) : ∀ d k i, i + d = l.length → 1 ≤ i → d < k → impl_AreLengths.l0 k l (i : Int) = some (incB l d i && ((decide (1 ≤ (l.length : Int)) && decide ((l.length : Int) ≤ 4)) && okR l)) := by
  intro d
  induction d with
  | zero =>
    intro k i hi h1 hk
    obtain ⟨k, rfl⟩ : ∃ m, k = m + 1 := ⟨k - 1, by omega⟩
    rw [impl_AreLengths.l0, if_neg (by omega)]
    unfold impl_within.f impl_areWithin.f okR incB
    by_cases h : (1 : Int) ≤ (l.length : Int)
    · rw [if_pos h, Option.bind_some, decide_eq_true h, Bool.true_and, Bool.true_and]
      cases decide ((l.length : Int) ≤ 4) <;> rfl
    · rw [if_neg h, Option.bind_some, decide_eq_false h]; rfl
  | succ d ih =>
    intro k i hi h1 hk
    obtain ⟨k, rfl⟩ : ∃ m, k = m + 1 := ⟨k - 1, by omega⟩
    rw [impl_AreLengths.l0, if_pos (by omega), if_pos (by omega), w64 (i := (i : Int) - 1) (by omega) (by omega), if_pos (by omega), if_pos (by omega), w64 (i := (i : Int) + 1) (by omega) (by omega), show (i : Int) + 1 = ((i + 1 : Nat) : Int) by omega, incB]
    by_cases h : rd l (i : Int) ≤ rd l ((i : Int) - 1)
    · rw [if_pos h, decide_eq_false (by omega)]; rfl
    · rw [if_neg h, decide_eq_true (by omega), Bool.true_and, ih k (i + 1) (by omega) (by omega) (by omega)]
theorem rising_l0 (l : List Int) (hn : l.length ≤ 1000000000) : ∀ d k i, i + d = l.length → 1 ≤ i → d < k → spec_l1Rising.l0 k l 1 60 l (l.length : Int) (i : Int) = some (okR (l.drop i) && incB l d i) := by
  intro d
  induction d with
  | zero =>
    intro k i hi h1 hk
    obtain ⟨k, rfl⟩ : ∃ m, k = m + 1 := ⟨k - 1, by omega⟩
    rw [spec_l1Rising.l0, if_neg (by omega), List.drop_of_length_le (by omega)]; rfl
  | succ d ih =>
    intro k i hi h1 hk
    obtain ⟨k, rfl⟩ : ∃ m, k = m + 1 := ⟨k - 1, by omega⟩
    have hlt : i < l.length := by omega
    rw [spec_l1Rising.l0, if_pos (by omega), if_pos (by omega), if_pos (by omega), in_eq, Option.bind_some, List.drop_eq_getElem_cons hlt]
    unfold okR
    rw [List.all_cons, incB, ← rd_nat l i hlt]
    by_cases hc : (decide (1 ≤ rd l (i : Int)) && decide (rd l (i : Int) ≤ 60)) = true
    · rw [hc, if_pos rfl, if_pos (by omega), w64 (i := (i : Int) - 1) (by omega) (by omega), if_pos (by omega), if_pos (by omega), w64 (i := (i : Int) + 1) (by omega) (by omega), show (i : Int) + 1 = ((i + 1 : Nat) : Int) by omega, Bool.true_and]
      by_cases h : rd l ((i : Int) - 1) ≥ rd l (i : Int)
      · rw [if_pos h, decide_eq_false (by omega), Bool.false_and, Bool.and_false]
      · rw [if_neg h, decide_eq_true (by omega), Bool.true_and]
        exact ih k (i + 1) (by omega) (by omega) (by omega)
    · have hcf : (decide (1 ≤ rd l (i : Int)) && decide (rd l (i : Int) ≤ 60)) = false := by simpa using hc
      rw [hcf, if_neg (by decide), Bool.false_and, Bool.false_and]
theorem areLengths_eq (l : List Int) (hn : l.length ≤ 1000000000) (k : Nat) (hk : l.length < k) : impl_AreLengths.f k l = some (lengthsB l) := by
  unfold impl_AreLengths.f lengthsB
  cases hl : l with
  | nil =>
    obtain ⟨k, rfl⟩ : ∃ m, k = m + 1 := ⟨k - 1, by omega⟩
    rfl
  | cons x xs =>
    rw [← hl]
    have h1 : 1 ≤ l.length := by rw [hl]; simp
    have := areLengths_l0 l hn (l.length - 1) k 1 (by omega) (by omega) (by omega)
    rw [Int.natCast_one] at this
    rw [this]
    cases okR l <;> cases incB l (l.length - 1) 1 <;> cases (decide (1 ≤ (l.length : Int)) && decide ((l.length : Int) ≤ 4)) <;> rfl
theorem rdLengths_eq (l : List Int) (hn : l.length ≤ 1000000000) (k : Nat) (hk : l.length + 1 < k) : spec_rdLengths.f k l = some (lengthsB l) := by
  unfold spec_rdLengths.f lengthsB
  rw [in_eq, Option.bind_some]
  cases hc : (decide (1 ≤ (l.length : Int)) && decide ((l.length : Int) ≤ 4)) with
  | false => rw [if_neg (by decide), Bool.false_and]
  | true =>
    have h1 : 1 ≤ l.length := by simp only [Bool.and_eq_true, decide_eq_true_eq] at hc; omega
    obtain ⟨k, rfl⟩ : ∃ m, k = m + 1 := ⟨k - 1, by omega⟩
    rw [if_pos rfl, Bool.true_and]
    unfold spec_l1Rising.f
    have hlt : 0 < l.length := h1
    have hr := rising_l0 l hn (l.length - 1) k 1 (by omega) (by omega) (by omega)
    rw [Int.natCast_one] at hr
    rw [spec_l1Rising.l0, if_pos (by omega), if_pos (by omega), if_pos (by omega), in_eq, Option.bind_some]
    have hd : okR l = ((decide (1 ≤ rd l 0) && decide (rd l 0 ≤ 60)) && okR (l.drop 1)) := by
      have h0 := rd_nat l 0 hlt
      rw [Int.natCast_zero] at h0
      rw [h0]
      unfold okR
      rw [show l.all (fun n => decide (1 ≤ n) && decide (n ≤ 60)) = (l.drop 0).all (fun n => decide (1 ≤ n) && decide (n ≤ 60)) by rw [List.drop_zero], List.drop_eq_getElem_cons hlt, List.all_cons]
    rw [hd]
    cases (decide (1 ≤ rd l 0) && decide (rd l 0 ≤ 60)) with
    | false => rw [if_neg (by decide), Bool.false_and, Bool.false_and]; rfl
    | true =>
      rw [if_pos rfl, if_neg (by omega), w64 (i := (0 : Int) + 1) (by omega) (by omega), show (0 : Int) + 1 = 1 from rfl, hr, Bool.true_and]
      rfl
theorem areRod_eq (a0 : Int) (l : List Int) (hn : l.length ≤ 1000000000) (k : Nat) (hk : l.length < k) : impl_areRod.f k a0 l = some ((decide (1 ≤ a0) && decide (a0 ≤ 60)) && lengthsB l) := by
  unfold impl_areRod.f impl_isRod.f impl_within.f
  rw [areLengths_eq l hn k hk]
  by_cases h : (1 : Int) ≤ a0
  · rw [if_pos h, decide_eq_true h, Bool.true_and]
    cases decide (a0 ≤ 60) <;> rfl
  · rw [if_neg h, decide_eq_false h]; rfl
theorem rdAsked_eq (a0 : Int) (l : List Int) (hn : l.length ≤ 1000000000) (k : Nat) (hk : l.length + 1 < k) : spec_rdAsked.f k a0 l = some ((decide (1 ≤ a0) && decide (a0 ≤ 60)) && lengthsB l) := by
  unfold spec_rdAsked.f
  rw [in_eq, Option.bind_some, rdLengths_eq l hn k hk]
  cases (decide (1 ≤ a0) && decide (a0 ≤ 60)) <;> rfl
end Go.Proofs.Ytfhaclkjiolmjaa.Q

namespace Go.Proofs.Ytfhaclkjiolmjaa.Q
open Go.RowKit Go.Shelf Go.Proofs.YtfhaclkjiolmjaaW.PrintWords Go.Proofs.YtfhaclkjiolmjaaW.PrintLast Go.Proofs.YtfhaclkjiolmjaaW.PrintMore
set_option linter.unusedVariables false
set_option linter.unusedSimpArgs false

/-- A block of rows of numbers. -/
def isSS (W : World) (k : Nat) : Prop := ∃ cells, W.heap[k]? = some (.cells cells 22 (0, 0))
/-- From W to W' only the blocks S and, from B0 on, blocks of rows of numbers have turned, of the old ones. -/
structure Fg (S : Nat → Prop) (B0 : Nat) (W W' : World) : Prop where
  os : W'.os = W.os
  tape : W'.tape = W.tape
  output : W'.output = W.output
  size : W.heap.size ≤ W'.heap.size
  block : ∀ k, k < W.heap.size → ¬ S k → ¬ (B0 ≤ k ∧ isSS W k) → W'.heap[k]? = W.heap[k]?
theorem Fg.refl (S : Nat → Prop) (B0 : Nat) (W : World) : Fg S B0 W W := ⟨rfl, rfl, rfl, Nat.le_refl _, fun _ _ _ _ => rfl⟩
theorem Fg.trans {S : Nat → Prop} {B0 : Nat} {a b c : World} (h : Fg S B0 a b) (k : Fg S B0 b c) : Fg S B0 a c :=
  ⟨k.os.trans h.os, k.tape.trans h.tape, k.output.trans h.output, Nat.le_trans h.size k.size, fun i hi hs hr => by
    have e := h.block i hi hs hr
    exact (k.block i (Nat.lt_of_lt_of_le hi h.size) hs (fun hb => hr ⟨hb.1, by obtain ⟨cells, hc⟩ := hb.2; exact ⟨cells, e ▸ hc⟩⟩)).trans e⟩
theorem Fg.of {S : Nat → Prop} {B0 : Nat} {W W' : World} (h : Below W.heap.size W W') : Fg S B0 W W' := ⟨h.os, h.tape, h.output, h.size, fun k hk _ _ => h.block k hk⟩
theorem Fg.then {S : Nat → Prop} {B0 : Nat} {a b c : World} (h : Fg S B0 a b) (k : Below b.heap.size b c) : Fg S B0 a c := h.trans (Fg.of k)
theorem Fg.below {S : Nat → Prop} {B0 : Nat} {W W' : World} {B : Nat} (h : Fg S B0 W W') (hS : ∀ k, S k → B ≤ k) (hB : B ≤ W.heap.size) (h0 : B ≤ B0) : Below B W W' :=
  ⟨h.os, h.tape, h.output, h.size, fun k hk => h.block k (by omega) (fun hs => by have := hS k hs; omega) (fun hb => by omega)⟩
theorem Fg.alloc {S : Nat → Prop} {B0 : Nat} {a W : World} (h : Fg S B0 a W) (o : Obj) : Fg S B0 a (W.alloc o) := h.then ((Below.refl _ W).alloc (Nat.le_refl _) o)
theorem Fg.drew {S : Nat → Prop} {B0 : Nat} {a W : World} (h : Fg S B0 a W) : Fg S B0 a W.drew := h.then ((Below.refl _ W).drew)
theorem Fg.set {S : Nat → Prop} {B0 : Nat} {a W : World} (h : Fg S B0 a W) (p : Addr) (u : Value) (hp : S p.block ∨ a.heap.size ≤ p.block) : Fg S B0 a (W.setCell p u) :=
  ⟨h.os, h.tape, h.output, Nat.le_trans h.size (by simp [World.setCell]), fun k hk hs hr => by
    rw [Below.heap_setCell _ _ _ _ (fun e => by subst e; rcases hp with hp | hp; exact hs hp; omega)]
    exact h.block k hk hs hr⟩
theorem Fg.grown {S : Nat → Prop} {B0 : Nat} {a W W' : World} (h : Fg S B0 a W) {row : Option Nat} (hg : W.grownBy W' row) (hr : ∀ k, row = some k → a.heap.size ≤ k) : Fg S B0 a W' :=
  ⟨hg.os.trans h.os, hg.tape.trans h.tape, hg.output.trans h.output, Nat.le_trans h.size hg.size, fun k hk hs hb => (hg.block k (Nat.lt_of_lt_of_le hk h.size) (fun e => by have := hr k e.symm; omega)).trans (h.block k hk hs hb)⟩
theorem Fg.grownS {S : Nat → Prop} {B0 : Nat} {W W' : World} {row : Option Nat} (hg : W.grownBy W' row) (hr : ∀ k, row = some k → S k ∨ (B0 ≤ k ∧ isSS W k)) : Fg S B0 W W' :=
  ⟨hg.os, hg.tape, hg.output, hg.size, fun k hk hs hb => hg.block k hk (fun e => by rcases hr k e.symm with h1 | h1; exact hs h1; exact hb h1)⟩
theorem Fg.weaken {S : Nat → Prop} {B0 B1 : Nat} {a b : World} (h : Fg S B0 a b) (hB : B1 ≤ B0) : Fg S B1 a b := ⟨h.os, h.tape, h.output, h.size, fun k hk hn hb => h.block k hk hn (fun h2 => hb ⟨Nat.le_trans hB h2.1, h2.2⟩)⟩
theorem box_fg {S : Nat → Prop} {B0 : Nat} {W W' : World} {B : Nat} {t : TypeId} {v : Value} (h : Boxed W B t v) (hf : Fg S B0 W W') (hs : ¬ S B) (hB : B < B0) : Boxed W' B t v := (hf.block B h.lt hs (fun h2 => by omega)).trans h
theorem R_fg {S : Nat → Prop} {B0 : Nat} {w w1 : World} {base : Nat} {ok : Nat → Prop} {v : Value} {xs : List Int} (h : Kd.R kInt 3 w base ok v xs) (hf : Fg S B0 w w1) (hs : ∀ k, ok k → ¬ S k) : Kd.R kInt 3 w1 base ok v xs :=
  Kd.R_mono (Kd.R_step (Kd.R_bound h) (fun k hk hlt => hf.block k hlt (hs k hk.1) (fun h2 => by
    obtain ⟨_, _, _, q, hq, cells, hc⟩ := hk
    obtain ⟨_, cells', hc'⟩ := h2
    rw [hc] at hc'
    injection hc' with hc'
    injection hc' with _ h2 _
    subst h2
    simp [Kd.int, Kd.scalar] at hq))) (fun _ hk => hk.1)
end Go.Proofs.Ytfhaclkjiolmjaa.Q

namespace Go.Proofs.Ytfhaclkjiolmjaa.Q
open Go.RowKit Go.Shelf Go.Proofs.YtfhaclkjiolmjaaW.PrintWords Go.Proofs.YtfhaclkjiolmjaaW.PrintLast Go.Proofs.YtfhaclkjiolmjaaW.PrintMore
set_option linter.unusedVariables false
set_option linter.unusedSimpArgs false

/-- What the function that patterns is handed does; what its state holds lies below M, and the row that it is handed does not. -/
structure EachG {σ : Type} (m : Nat) (S : Nat → Prop) (B0 : Nat) (I : Nat → σ → World → Prop) (base : Nat) (w1 : World) (ge : Nat) (bde fre : Array Value) (step : σ → List Int × Int → σ) (μ : σ → Nat) (Bd : Nat) : Prop where
  mu : ∀ s p, μ (step s p) ≤ μ s + 1
  ee : ∀ args w, (callFunc ge args).run Try.prog w = .ok (.enter ge args) w
  st : ∀ M s W W', I M s W → Below W.heap.size W W' → I M s W'
  each : ∀ M s W v ch left, Fg S B0 w1 W → B0 ≤ W.heap.size → M ≤ W.heap.size → μ s < Bd → I M s W → Kd.R kInt 3 W base (fun k => ¬ S k ∧ M ≤ k) v ch → ch.length = m → (0 ≤ left ∧ left ≤ 60) →
    Calls Try.prog ge (bde ++ (#[v, .int .i64 left] ++ fre)) W fun e w' => e = .returned (.tuple #[]) ∧ (∃ M', M' ≤ w'.heap.size ∧ I M' (step s (ch, left)) w') ∧ Fg S B0 W w'
theorem mu_fold {σ : Type} {step : σ → List Int × Int → σ} {μ : σ → Nat} (h : ∀ s p, μ (step s p) ≤ μ s + 1) : ∀ (L : List (List Int × Int)) s, μ (L.foldl step s) ≤ μ s + L.length := by
  intro L
  induction L with
  | nil => intro s; simp
  | cons p L ih => intro s; rw [List.foldl_cons, List.length_cons]; have := ih (step s p); have := h s p; omega
theorem patg_keep {S : Nat → Prop} {B0 : Nat} {wr W' : World} {Bc Bl : Nat} {t1 t2 : TypeId} {v1 v2 v3 : Value} {ad : Addr} (x1 : Boxed wr Bc t1 v1) (h1 : ¬ S Bc) (l1 : Bc < B0) (x2 : Boxed wr Bl t2 v2) (h2 : ¬ S Bl) (l2 : Bl < B0) (hc : ∀ W', Fg S B0 wr W' → W'.cell? ad = some v3) (h : Fg S B0 wr W') :
    W'.cell? ⟨Bc, 0, none⟩ = some v1 ∧ W'.cell? ⟨Bl, 0, none⟩ = some v2 ∧ W'.cell? ad = some v3 ∧ Fg S B0 wr W' := ⟨(box_fg x1 h h1 l1).cell, (box_fg x2 h h2 l2).cell, hc W' h, h⟩
theorem patg_fr {P1 P2 P3 : Prop} {S : Nat → Prop} {B0 : Nat} {w W : World} (h : P1 ∧ P2 ∧ P3 ∧ Fg S B0 w W) : Fg S B0 w W := h.2.2.2

set_option maxRecDepth 100000 in
set_option maxHeartbeats 8000000 in
theorem pchooseG_calls {σ : Type} (ls : List Int) (A0 : Option Addr) (c0 : Nat) (S : Nat → Prop) (B0 : Nat) (I : Nat → σ → World → Prop) (base : Nat) (w1 : World) (ge : Nat) (bde fre : Array Value) (step : σ → List Int × Int → σ) (μ : σ → Nat) (Bd : Nat)
    (Bl Be Bc : Nat) (hn : ls.length ≤ 10) (hpos : ∀ x ∈ ls, 1 ≤ x ∧ x ≤ 60) (T : EachG ls.length S B0 I base w1 ge bde fre step μ Bd) (hb1 : base ≤ w1.heap.size) (hSl : ∀ k, S k → k < w1.heap.size)
    (hC : ∀ W, Fg S B0 w1 W → Kd.C kInt W A0 ls.length ls) (hc0 : ls.length ≤ c0)
    (xl : Boxed w1 Bl 22 (.slice A0 ls.length c0)) (xe : Boxed w1 Be 56 (.func (.func ge) bde fre))
    (xc : Boxed w1 Bc 56 (.func (.func 90) #[] #[.pointer (some ⟨Bl, 0, none⟩), .pointer (some ⟨Be, 0, none⟩), .pointer (some ⟨Bc, 0, none⟩)]))
    (nl : ¬ S Bl) (ne : ¬ S Be) (nc : ¬ S Bc) (ll : Bl < B0) (le : Be < B0) (lc : Bc < B0) (hB01 : B0 ≤ w1.heap.size) :
    ∀ d M s W v ch left, ch.length + d = ls.length → 0 ≤ left → left ≤ 60 → Fg S B0 w1 W → M ≤ W.heap.size → μ s + (patV (ls.drop ch.length) ch left).length ≤ Bd → I M s W → Kd.R kInt 3 W base (fun k => ¬ S k ∧ M ≤ k) v ch →
      Calls Try.prog 90 #[v, .int .i64 left, .pointer (some ⟨Bl, 0, none⟩), .pointer (some ⟨Be, 0, none⟩), .pointer (some ⟨Bc, 0, none⟩)] W fun e w' => e = .returned (.tuple #[]) ∧ (∃ M', M' ≤ w'.heap.size ∧ I M' ((patV (ls.drop ch.length) ch left).foldl step s) w') ∧ Fg S B0 W w' := by
  intro d
  induction d with
  | zero =>
    intro M s W v ch left hd hl0 hl6 hF hM hmu hI hv
    have hp : patV (ls.drop ch.length) ch left = [(ch, left)] := by rw [List.drop_of_length_le (by omega)]; rfl
    rw [hp] at hmu ⊢
    rw [List.length_singleton] at hmu
    obtain ⟨A1, c1, hv1, hc1, hC1⟩ := Kd.R_reads hv
    subst hv1
    have hz : (ch.length : Int) = (ls.length : Int) := by omega
    have hcall := T.each M s W _ ch left hF (Nat.le_trans hB01 hF.size) hM (by omega) hI hv (by omega) ⟨hl0, hl6⟩
    have HCALL := Aside0.mk hcall
    have q1 := (box_fg xl hF nl ll).cell
    have q2 := (box_fg xe hF ne le).cell
    have ee := T.ee
    have hzb : ((ch.length : Int) == (ls.length : Int)) = true := by simpa using hz
    clear hcall hmu hd hz hp hv hI hF hC1 xl xe xc T hC
    go_enter Try.func90, Try.ntmps90
    go_wp2_with (go_at_fn ge; refine HCALL.out.mono ?_; rintro e w2 ⟨rfl, hI2, hF2⟩)
    (try simp only [Exit.inBlock, Exit.then])
    refine bodyPost_ret (results_none rfl _ _ _) rfl ?_
    exact ⟨rfl, hI2, hF2⟩
  | succ d ih =>
    intro M s W v ch left hd hl0 hl6 hF hM hmu hI hv0
    have hv : Kd.R kInt 3 W base (fun k => ¬ S k) v ch := Kd.R_mono hv0 (fun _ h => h.1)
    clear hv0
    have hlt : ch.length < ls.length := by omega
    obtain ⟨x, hx⟩ : ∃ x, ls[ch.length] = x := ⟨_, rfl⟩
    have hxr : 1 ≤ x ∧ x ≤ 60 := hx ▸ hpos _ (List.getElem_mem hlt)
    obtain ⟨xs, hxs⟩ : ∃ xs, ls.drop (ch.length + 1) = xs := ⟨_, rfl⟩
    rw [show ls.drop ch.length = x :: xs by rw [List.drop_eq_getElem_cons hlt, hx, hxs], patV] at hmu ⊢
    obtain ⟨N, hN⟩ : ∃ N, (left / x + 1).toNat = N := ⟨_, rfl⟩
    rw [hN] at hmu ⊢
    have hNle : ∀ n : Nat, n < N ↔ (n : Int) * x ≤ left := fun n => by
      rw [← Int.le_ediv_iff_mul_le (by omega : 0 < x), ← hN]
      have : 0 ≤ left / x := Int.ediv_nonneg hl0 (by omega)
      omega
    generalize htotal : (restW (fun n => patV xs (ch ++ [(n : Int)]) (left - (n : Int) * x)) N 0).foldl step s = total
    obtain ⟨A1, c1, hv1, hc1, hC1⟩ := Kd.R_reads hv
    subst hv1
    obtain ⟨ad, had, _⟩ := Kd.at_int (hC W hF) (ch.length : Int) (by omega) (by omega)
    subst had
    have hcell : ∀ W', Fg S B0 w1 W' → W'.cell? (ad.add ch.length) = some (.int .i64 x) := fun W' h => by
      obtain ⟨ad', he, h2⟩ := Kd.at_int (hC W' h) (ch.length : Int) (by omega) (by omega)
      injection he with he
      subst he
      rw [Int.toNat_natCast, rd, Int.toNat_natCast, List.getD_eq_getElem?_getD, List.getElem?_eq_getElem hlt] at h2
      rw [h2, ← hx]; rfl
    have hltz : (ch.length : Int) < (ls.length : Int) := by omega
    have h0z : (0 : Int) ≤ (ch.length : Int) := by omega
    have hzb : ((ch.length : Int) == (ls.length : Int)) = false := by simp; omega
    have HI := Aside0.mk hI
    have HM := Aside0.mk hM
    have HMU := Aside0.mk hmu
    clear hM hmu
    have HV := Aside0.mk hv
    have HF := Aside0.mk hF
    have HC1 := Aside0.mk hC1
    have XL := Aside0.mk xl
    have XC := Aside0.mk xc
    have IH := Aside0.mk ih
    have HD := Aside0.mk hd
    have HNL := Aside0.mk hNle
    have HCELL := Aside0.mk hcell
    have HX := Aside0.mk hx
    have HXS := Aside0.mk hxs
    have HT := Aside0.mk htotal
    have q1 := (box_fg xl hF nl ll).cell
    clear hI hv hF hC1 xl xe xc ih hd hNle hcell hx hxs htotal hN hpos
    go_enter Try.func90, Try.ntmps90
    go_wp2_with fail
    clear q1
    go_loopg [8] N (fun gg s8 wr => ∃ n : Nat, s8 = .int .i64 (n : Int) ∧ n ≤ N ∧ N - n ≤ gg ∧ Aside0 (∃ M st, M ≤ wr.heap.size ∧ I M st wr ∧ (restW (fun n => patV xs (ch ++ [(n : Int)]) (left - (n : Int) * x)) (N - n) n).foldl step st = total ∧ μ st + (restW (fun n => patV xs (ch ++ [(n : Int)]) (left - (n : Int) * x)) (N - n) n).length ≤ Bd) ∧ Aside0 (Fg S B0 W wr))
    case atStart => exact ⟨0, rfl, by omega, by omega, ⟨M, s, HM.out, HI.out, HT.out, HMU.out⟩, ⟨Fg.refl _ _ _⟩⟩
    case round =>
      obtain ⟨n, rfl, hnN, hgg, II, GG⟩ := hrel
      have FF := Aside0.mk (HF.out.trans GG.out)
      have q1 := (box_fg XL.out FF.out nl ll).cell
      have q2 := HCELL.out wr FF.out
      by_cases hlt2 : n < N
      · have hple := (HNL.out n).1 hlt2
        obtain ⟨p, hp⟩ : ∃ p, (n : Int) * x = p := ⟨_, rfl⟩
        have hp0 : 0 ≤ p := by rw [← hp]; exact Int.mul_nonneg (by omega) (by omega)
        rw [hp] at hple
        have hw1 : IntKind.i64.wrap ((n : Int) * x) = p := by rw [hp]; exact IntWalk.i64_in _ (by omega)
        obtain ⟨q, hq⟩ : ∃ q, left - p = q := ⟨_, rfl⟩
        have hw2 : IntKind.i64.wrap (left - p) = q := by rw [hq]; exact IntWalk.i64_in _ (by omega)
        have hqr : 0 ≤ q ∧ q ≤ 60 := by omega
        have hnb : n ≤ 60 := by
          have h1 : (n : Int) * 1 ≤ (n : Int) * x := Int.mul_le_mul_of_nonneg_left hxr.1 (by omega)
          omega
        have hwn : IntKind.i64.wrap ((n : Int) + 1) = ((n + 1 : Nat) : Int) := by rw [IntWalk.i64_in _ (by omega)]; omega
        obtain ⟨M1, st, hM1, hst, hfold, hmu1⟩ := II.out
        have HM1 := Aside0.mk hM1
        rw [show N - n = (N - (n + 1)) + 1 by omega, restW, List.length_append] at hmu1
        have HMU1 : Aside0 (μ st + ((patV xs (ch ++ [(n : Int)]) (left - (n : Int) * x)).length + (restW (fun n => patV xs (ch ++ [(n : Int)]) (left - (n : Int) * x)) (N - (n + 1)) (n + 1)).length) ≤ Bd) := ⟨hmu1⟩
        clear hM1 hmu1
        have HST := Aside0.mk hst
        have HFO := Aside0.mk hfold
        have XCR := Aside0.mk (box_fg XC.out FF.out nc lc)
        have XLR := Aside0.mk (box_fg XL.out FF.out nl ll)
        have HSR : Aside0 (∀ k, S k → k < wr.heap.size) := ⟨fun k hk => Nat.lt_of_lt_of_le (hSl k hk) FF.out.size⟩
        have HBR : Aside0 (base ≤ wr.heap.size) := ⟨Nat.le_trans hb1 FF.out.size⟩
        have HVr := Aside0.mk (R_fg HV.out GG.out (fun _ h => h))
        have HCr : Aside0 (∀ W', Fg S B0 wr W' → Kd.C kInt W' A1 ch.length ch) := ⟨fun W' h => by
          obtain ⟨A', c', he, _, hC'⟩ := Kd.R_reads (R_fg HVr.out h (fun _ h => h))
          injection he with he1 he2 he3
          subst he1
          exact hC'⟩
        have HCW : Aside0 (∀ W', Fg S B0 wr W' → W'.cell? (ad.add ch.length) = some (.int .i64 x)) := ⟨fun W' h => HCELL.out W' (FF.out.trans h)⟩
        have HP := Aside0.mk hp
        have HQ := Aside0.mk hq
        have hmix : Try.prog.follows .mixedOrders = true := by kernel_rfl
        clear II hst hfold hp hq
        go_wp2
        go_region_held3 (fun W' => W'.cell? ⟨Bc, 0, none⟩ = some (.func (.func 90) #[] #[.pointer (some ⟨Bl, 0, none⟩), .pointer (some ⟨Be, 0, none⟩), .pointer (some ⟨Bc, 0, none⟩)]) ∧ W'.cell? ⟨Bl, 0, none⟩ = some (.slice (some ad) ls.length c0) ∧ W'.cell? (ad.add ch.length) = some (.int .i64 x) ∧ Fg S B0 wr W')
          (first | exact patg_keep XCR.out nc lc XLR.out nl ll HCW.out (Fg.drew (Fg.refl _ _ _)) | exact patg_keep XCR.out nc lc XLR.out nl ll HCW.out (by assumption) | exact patg_keep XCR.out nc lc XLR.out nl ll HCW.out (Fg.alloc (patg_fr (by assumption)) _))
          (first
            | (go_at_call 66; refine (clone_int A1 c1 ch _ ?hCl hc1 (by omega)).mono ?_;
                (case hCl => exact HCr.out _ (patg_fr (by assumption)));
                rintro e w6 ⟨v6, rfl, hR6, hb6⟩;
                have hfr6 : Fg S B0 wr w6 := Fg.then (patg_fr (by assumption)) hb6;
                have hbl6 : Below wr.heap.size wr w6 := (by first | exact ((Below.refl _ wr).drew).trans (hb6.mono (Nat.le_refl _)) | exact ((((Below.refl _ wr).drew).alloc (Nat.le_refl _) _)).trans (hb6.mono (by simp)));
                have hRR := own_new (S := S) (wr := wr) (base := base) hR6 (by simp) HSR.out HBR.out)
            | (go_at_call 90; refine (IH.out M1 st w7 v7 (ch ++ [(n : Int)]) q (by have := HD.out; simp; omega) hqr.1 hqr.2 (FF.out.trans hfr7) (Nat.le_trans HM1.out hfr7.size) (by have h1 := HMU1.out; rw [List.length_append, List.length_singleton, HXS.out, ← HQ.out, ← HP.out]; omega) (T.st _ _ _ _ HST.out hbl7) (Kd.R_mono hR7 (fun _ h => ⟨h.1, Nat.le_trans HM1.out h.2⟩))).mono ?_; rintro e w8 ⟨rfl, hI8, hF8⟩;
                have hfr8 : Fg S B0 wr w8 := hfr7.trans hF8)
            | (refine app_int (by rfl) _ _ _ base (fun k => ¬ S k ∧ wr.heap.size ≤ k) rfl v6 ch (n : Int) _ rfl rfl ?hcell ?hl ?HO ?hbase ?hfresh ?_;
                (case hcell => first | exact lit_cell _ _ _ | exact lit_cell2 hb6 | exact lit_cell3 hb6);
                (case hl => omega);
                (case HO => first | exact Kd.R_below hRR ((Below.refl _ _).alloc (Nat.le_refl _) _) | exact hRR);
                (case hbase => first | exact Nat.le_trans HBR.out hbl6.size | exact Nat.le_trans HBR.out (hbl6.alloc hbl6.size _).size);
                (case hfresh => first | exact fresh_ok HSR.out hbl6.size | exact fresh_ok HSR.out (hbl6.alloc hbl6.size _).size);
                intro v7 w7 hR7 hg7;
                have hrow : ∀ k, v6.ownBlock = some k → wr.heap.size ≤ k := fun k hk => (hRR.1 k hk).2;
                have hfr7 : Fg S B0 wr w7 := Fg.grown (patg_fr (by assumption)) hg7 hrow;
                have hbl7 : Below wr.heap.size wr w7 := (by first | exact hbl6.grown hg7 hbl6.size hrow | exact (hbl6.alloc hbl6.size _).grown hg7 (hbl6.alloc hbl6.size _).size hrow)))
        all_goals
          go_wp2
          go_roundg (N - (n + 1))
          case measure => omega
          case rel =>
            obtain ⟨M8, hM8, hI8⟩ := hI8
            refine ⟨n + 1, by go_num, by omega, by omega, ⟨M8, _, hM8, hI8, ?_, ?_⟩, ⟨GG.out.trans hfr8⟩⟩
            · rw [← HFO.out, show N - n = (N - (n + 1)) + 1 by omega, restW, List.foldl_append, List.length_append, List.length_singleton, HXS.out, ← HQ.out, ← HP.out]
            · have h1 := HMU1.out
              have h2 := mu_fold T.mu (patV xs (ch ++ [(n : Int)]) (left - (n : Int) * x)) st
              rw [List.length_append, List.length_singleton, HXS.out, ← HQ.out, ← HP.out]
              omega
      · have hple : ¬ (n : Int) * x ≤ left := fun h => hlt2 ((HNL.out n).2 h)
        have hw1 : IntKind.i64.wrap ((n : Int) * x) = (n : Int) * x := by
          have hnN2 : n = N := by omega
          have h1 : 0 ≤ (n : Int) * x := Int.mul_nonneg (by omega) (by omega)
          have h2 : (n : Int) * x ≤ left + x := by
            cases n with
            | zero => simp; omega
            | succ m =>
              have := (HNL.out m).1 (by omega)
              rw [show ((m + 1 : Nat) : Int) * x = (m : Int) * x + x by rw [show ((m + 1 : Nat) : Int) = (m : Int) + 1 by omega, Int.add_mul]; omega]
              omega
          exact IntWalk.i64_in _ (by omega)
        obtain ⟨M1, st, hM1, hst, hfold, _⟩ := II.out
        have HM1 := Aside0.mk hM1
        clear hM1
        rw [show N - n = 0 by omega] at hfold
        have HST := Aside0.mk hst
        have HFO := Aside0.mk hfold
        clear hst hfold II
        go_wp2
        go_end0
        refine ⟨rfl, ?_, GG.out⟩
        rw [← HFO.out]
        exact ⟨M1, HM1.out, HST.out⟩
end Go.Proofs.Ytfhaclkjiolmjaa.Q

namespace Go.Proofs.Ytfhaclkjiolmjaa.Q
open Go.RowKit Go.Shelf Go.Proofs.YtfhaclkjiolmjaaW.PrintWords Go.Proofs.YtfhaclkjiolmjaaW.PrintLast Go.Proofs.YtfhaclkjiolmjaaW.PrintMore
set_option linter.unusedVariables false
set_option linter.unusedSimpArgs false

theorem EachG.later {σ : Type} {m : Nat} {S : Nat → Prop} {B0 : Nat} {I : Nat → σ → World → Prop} {base : Nat} {w w1 : World} {ge : Nat} {bde fre : Array Value} {step : σ → List Int × Int → σ} {μ : σ → Nat} {Bd : Nat}
    (T : EachG m S B0 I base w ge bde fre step μ Bd) (h : Fg S B0 w w1) : EachG m S B0 I base w1 ge bde fre step μ Bd :=
  ⟨T.mu, T.ee, T.st, fun M s W v ch left hF => T.each M s W v ch left (h.trans hF)⟩

set_option maxRecDepth 100000 in
set_option maxHeartbeats 4000000 in
theorem patternsG_calls {σ : Type} (ls : List Int) (A0 : Option Addr) (c0 : Nat) (rod : Int) (S : Nat → Prop) (I : Nat → σ → World → Prop) (base : Nat) (w : World) (ge : Nat) (bde fre : Array Value) (step : σ → List Int × Int → σ) (μ : σ → Nat) (Bd : Nat) (M : Nat) (s : σ)
    (hn : ls.length ≤ 10) (hpos : ∀ x ∈ ls, 1 ≤ x ∧ x ≤ 60) (hrod : 0 ≤ rod ∧ rod ≤ 60) (T : EachG ls.length S (w.heap.size + 3) I base w ge bde fre step μ Bd) (hb : base ≤ w.heap.size) (hSl : ∀ k, S k → k < w.heap.size)
    (hC : ∀ W, Fg S (w.heap.size + 3) w W → Kd.C kInt W A0 ls.length ls) (hc0 : ls.length ≤ c0) (hM : M ≤ w.heap.size) (hmu : μ s + (patV ls [] rod).length ≤ Bd) (hI : I M s w) :
    Calls Try.prog 57 #[.int .i64 rod, .slice A0 ls.length c0, .func (.func ge) bde fre] w fun e w' => e = .returned (.tuple #[]) ∧ (∃ M', M' ≤ w'.heap.size ∧ I M' ((patV ls [] rod).foldl step s) w') ∧ Fg S (w.heap.size + 3) w w' := by
  have x1 := Boxed.new w 22 (.slice A0 ls.length c0)
  obtain ⟨w1, e1⟩ : ∃ w1, w.alloc (.cells #[.slice A0 ls.length c0] 22) = w1 := ⟨_, rfl⟩
  have b1 : Below w.heap.size w w1 := by rw [← e1]; exact (Below.refl _ w).alloc (Nat.le_refl _) _
  have z1 : w1.heap.size = w.heap.size + 1 := by rw [← e1]; simp
  rw [e1] at x1
  have x2 := Boxed.new w1 56 (.func (.func ge) bde fre)
  have y1 := x1.alloc (.cells #[.func (.func ge) bde fre] 56)
  obtain ⟨w2, e2⟩ : ∃ w2, w1.alloc (.cells #[.func (.func ge) bde fre] 56) = w2 := ⟨_, rfl⟩
  have b2 : Below w.heap.size w w2 := by rw [← e2]; exact b1.alloc b1.size _
  have z2 : w2.heap.size = w.heap.size + 2 := by rw [← e2]; simp [z1]
  rw [e2] at x2 y1
  obtain ⟨fv, hfv⟩ : ∃ fv : Value, fv = .func (.func 90) #[] #[.pointer (some ⟨w.heap.size, 0, none⟩), .pointer (some ⟨w1.heap.size, 0, none⟩), .pointer (some ⟨w2.heap.size, 0, none⟩)] := ⟨_, rfl⟩
  have x3 := Boxed.new w2 56 fv
  have y2 := x2.alloc (.cells #[fv] 56)
  have u1 := y1.alloc (.cells #[fv] 56)
  obtain ⟨w3, e3⟩ : ∃ w3, w2.alloc (.cells #[fv] 56) = w3 := ⟨_, rfl⟩
  have b3 : Below w.heap.size w w3 := by rw [← e3]; exact b2.alloc b2.size _
  have z3 : w3.heap.size = w.heap.size + 3 := by rw [← e3]; simp [z2]
  rw [e3] at x3 y2 u1
  have F3 : Fg S (w.heap.size + 3) w w3 := Fg.of b3
  have nS : ∀ k, w.heap.size ≤ k → ¬ S k := fun k hk hs => by have := hSl k hs; omega
  have hcall := pchooseG_calls ls A0 c0 S (w.heap.size + 3) I base w3 ge bde fre step μ Bd w.heap.size w1.heap.size w2.heap.size hn hpos (T.later F3) (Nat.le_trans hb b3.size) (fun k hk => Nat.lt_of_lt_of_le (hSl k hk) b3.size) (fun W h => hC W (F3.trans h)) hc0 u1 y2 (hfv ▸ x3) (nS _ (Nat.le_refl _)) (nS _ b1.size) (nS _ b2.size) (by omega) (by have := z1; omega) (by have := z2; omega) (by have := z3; omega)
    ls.length M s w3 (.slice none 0 0) [] rod (by simp) hrod.1 hrod.2 (Fg.refl _ _ _) (Nat.le_trans hM b3.size) (by simpa using hmu) (T.st _ _ _ _ hI b3) (Kd.R_nil _ _ _ _ _)
  simp only [List.length_nil, List.drop_zero] at hcall
  have HCALL := Aside0.mk hcall
  have q3 := x3.cell
  have HF3 := Aside0.mk F3
  clear hcall x1 x2 x3 y1 y2 u1 b1 b2 b3 T hC hI F3 z1 z2 z3
  subst hfv
  go_enter Try.func57, Try.ntmps57
  go_wp2_with (go_at_call 90; refine HCALL.out.mono ?_; rintro e w5 ⟨rfl, hI5, hF5⟩)

  go_end0
  exact ⟨rfl, hI5, HF3.out.trans hF5⟩
end Go.Proofs.Ytfhaclkjiolmjaa.Q

namespace Go.Proofs.Ytfhaclkjiolmjaa.Q
open Go.RowKit Go.Shelf Go.Proofs.YtfhaclkjiolmjaaW.PrintWords Go.Proofs.YtfhaclkjiolmjaaW.PrintLast Go.Proofs.YtfhaclkjiolmjaaW.PrintMore
set_option linter.unusedVariables false
set_option linter.unusedSimpArgs false

theorem mul_nn0 (n : Nat) (x : Int) (hx : 1 ≤ x) : 0 ≤ (n : Int) * x := Int.mul_nonneg (by omega) (by omega)
def fullStep (x0 : Int) (s : List (List Int)) (p : List Int × Int) : List (List Int) := if p.2 < x0 then s ++ [p.1] else s
/-- An empty row of rows of one's own. -/
theorem SS_empty (W : World) (base : Nat) (ok : Nat → Prop) (hb : base ≤ W.heap.size) (hok : ok W.heap.size) : Kd.S kRow 22 (W.alloc (.cells #[] 22)) base ok (.slice (some ⟨W.heap.size, 0, none⟩) 0 0) [] := by
  refine ⟨fun _ => 0, fun k hk => ?_, [], ?_, rfl, fun j p hj => by cases hj⟩
  · have : W.heap.size = k := by simpa [Value.ownBlock] using hk
    subst this
    exact hok
  · have h2 := World.ownsRow_lit (base := base) (e := 22) (size := 1) W #[] 0 hb (by decide) rfl
    exact h2
/-- The variable of FullPatterns. -/
def FullV (base Bo B1 B0 M : Nat) (s : List (List Int)) (W : World) : Prop :=
  ∃ vo, Boxed W Bo 29 vo ∧ Kd.S kRow 22 W base (fun k => k ≠ Bo ∧ k < M) vo s ∧ ∀ k, vo.ownBlock = some k → k = B1 ∨ B0 ≤ k
theorem FullV.later {base Bo B1 B0 M : Nat} {s : List (List Int)} {W W' : World} (h : FullV base Bo B1 B0 M s W) (hb : Below W.heap.size W W') : FullV base Bo B1 B0 M s W' := by
  obtain ⟨vo, h1, h2, h3⟩ := h
  exact ⟨vo, box_below h1 hb, Kd.S_below h2 hb, h3⟩
set_option maxRecDepth 100000 in
set_option maxHeartbeats 4000000 in
theorem full1_calls (base Bl Bo B1 B0 M : Nat) (x0 : Int) (ls : List Int) (A0 : Option Addr) (c0 : Nat) (s : List (List Int)) (W : World) (v : Value) (ch : List Int) (left : Int) (hbase : base ≤ W.heap.size) (hB0 : B0 ≤ W.heap.size) (hbo : Bo < B0) (hMW : M ≤ W.heap.size) (hs : s.length < 20000000)
    (hl : 0 < ls.length) (hx0 : rd ls 0 = x0) (xl : Boxed W Bl 22 (.slice A0 ls.length c0)) (hC : Kd.C kInt W A0 ls.length ls) (hI : FullV base Bo B1 B0 M s W) (hv : Kd.R kInt 3 W base (fun k => ¬ (k = Bo ∨ k = B1) ∧ M ≤ k) v ch) :
    Calls Try.prog 60 #[v, .int .i64 left, .pointer (some ⟨Bl, 0, none⟩), .pointer (some ⟨Bo, 0, none⟩)] W
      fun e w' => e = .returned (.tuple #[]) ∧ (∃ M', M' ≤ w'.heap.size ∧ FullV base Bo B1 B0 M' (fullStep x0 s (ch, left)) w') ∧ Fg (fun k => k = Bo ∨ k = B1) B0 W w' := by
  obtain ⟨A1, c1, hv1, hc1, hC1⟩ := Kd.R_reads hv
  subst hv1
  obtain ⟨ad, had, hq0⟩ := Kd.at_int hC 0 (by omega) (by omega)
  subst had
  rw [hx0] at hq0
  have q0 : W.cell? ad = some (.int .i64 x0) := by
    have hq1 : W.cell? (ad.add 0) = some (.int .i64 x0) := hq0
    rwa [show ad.add 0 = ad by simp [Addr.add]] at hq1
  have ql := xl.cell
  have hlz : (0 : Int) < (ls.length : Int) := by omega
  have HI0 := Aside0.mk hI
  obtain ⟨vo, xo, hS, hO⟩ := hI
  have HV := Aside0.mk hv
  clear hv hC hq0 hC1 xl
  by_cases h : left < x0
  · obtain ⟨Ao, co, rfl⟩ := Kd.S_slice hS
    have qo := xo.cell
    have fo := xo.frozen
    have HS := Aside0.mk hS
    have HO := Aside0.mk hO
    have XO := Aside0.mk xo
    have HT : Aside0 (∀ k, (Value.slice Ao s.length co).ownBlock = some k → (k = Bo ∨ k = B1) ∨ (B0 ≤ k ∧ isSS W k)) := ⟨fun k hk => by
      rcases hO k hk with h | h
      · exact .inl (.inr h)
      · exact .inr ⟨h, Kd.S_typed hS k hk⟩⟩
    have HL : Aside0 (∀ k, (Value.slice Ao s.length co).ownBlock = some k → k ≠ Bo ∧ k < M) := ⟨fun k hk => by obtain ⟨f, h0, _⟩ := hS; exact h0 k hk⟩
    clear hS hO xo HI0
    go_enter Try.func60, Try.ntmps60
    go_upto_region 1 with (fail)
    go_upto_region 2 with
      (at_builtin; refine Kd.S_append kRow (w0 := W) base rfl (.tmp 11) (.tmp 13) 29 22 (.slice none 0 0) 24 rfl Try.underlying29 info22 rfl (by decide) (by omega) (.slice Ao s.length co) s ch [.slice A1 ch.length c1] (fun k => k ≠ Bo) (fun k => k ≠ Bo ∧ M ≤ k) rfl rfl ?aP ?aQ ?aF ?aO (Below.refl _ _) ?aS ?aL ?_;
        (case aP => exact ⟨_, rfl, Kd.R_mono HV.out (fun k hk => ⟨fun e => hk.1 (.inl e), hk.2⟩)⟩);
        (case aQ => exact fun k hk => ⟨hk.1, fun e => by have := (HL.out k e.symm).2; omega⟩);
        (case aF => exact fun k hk => by omega);
        (case aO => exact Kd.S_mono HS.out (fun k hk => ⟨hk.1, fun h2 => by omega⟩));
        (case aS => exact hbase);
        (case aL => omega);
        intro v1 w2 hS2 hb2 hg2 hat2; have X2 := XO.out.kept hg2 (fun e => (HL.out Bo e.symm).1 rfl); have f2 := X2.frozen; have q2 := X2.cell; obtain ⟨A2, c2, rfl⟩ := Kd.S_slice hS2)
    go_wp2
    go_end0
    have hl2 : (s ++ [ch]).length = s.length + 1 := by simp
    rw [hl2] at hS2 hat2
    refine ⟨rfl, ⟨w2.heap.size, by simp [World.setCell], ?_⟩, ?_⟩
    · unfold fullStep
      rw [if_pos h]
      refine ⟨_, X2.set _, ?_, ?_⟩
      · have hS3 := Kd.S_far (p := ⟨Bo, 0, none⟩) (Kd.S_bound hS2) (fun k hk => hk.1) (.slice A2 (s.length + 1) c2)
        exact Kd.S_mono hS3 (fun k hk => ⟨hk.1, hk.2.2.1⟩)
      · intro k hk
        rcases hat2 with hat | ⟨b, hb, hle⟩
        · rw [hat] at hk; exact HO.out k hk
        · rw [hb] at hk
          injection hk with hk
          exact .inr (by omega)
    · exact (Fg.grownS hg2 HT.out).trans (Fg.set (Fg.refl _ _ _) _ _ (.inl (.inl rfl)))
  · have H := Aside0.mk h
    clear hS hO xo
    go_enter Try.func60, Try.ntmps60
    go_wp2
    go_end0
    refine ⟨rfl, ⟨M, hMW, ?_⟩, Fg.refl _ _ _⟩
    unfold fullStep
    rw [if_neg (Int.not_lt.mpr H.out)]
    exact HI0.out
/-- Is there a rod, and are there lengths? -/
def fullB (a0 : Int) (l : List Int) : Bool := decide (0 ≤ a0) && decide (a0 ≤ 60) && decide (1 ≤ l.length) && decide (l.length ≤ 4) && l.all fun x => decide (1 ≤ x) && decide (x ≤ 60)
theorem fullB_of {a0 : Int} {l : List Int} (h : fullB a0 l = true) : (0 ≤ a0 ∧ a0 ≤ 60) ∧ (1 ≤ l.length ∧ l.length ≤ 4) ∧ ∀ x ∈ l, 1 ≤ x ∧ x ≤ 60 := by
  unfold fullB at h
  simp only [Bool.and_eq_true, decide_eq_true_eq, List.all_eq_true] at h
  exact ⟨h.1.1.1, ⟨h.1.1.2, h.1.2⟩, h.2⟩
def fullV (a0 : Int) (l : List Int) : List (List Int) := (patV l [] a0).foldl (fullStep (rd l 0)) []
theorem restW_le (f : Nat → List (List Int × Int)) (b : Nat) (h : ∀ n, (f n).length ≤ b) : ∀ N n, (restW f N n).length ≤ N * b := by
  intro N
  induction N with
  | zero => intro n; simp [restW]
  | succ N ih => intro n; rw [restW, List.length_append, Nat.succ_mul]; have := h n; have := ih (n + 1); omega
theorem patV_le : ∀ (ls : List Int) (ch : List Int) (left : Int), (∀ x ∈ ls, 1 ≤ x) → left ≤ 60 → (patV ls ch left).length ≤ 61 ^ ls.length := by
  intro ls
  induction ls with
  | nil => intro ch left _ _; simp [patV]
  | cons x xs ih =>
    intro ch left hp hl
    have hx := hp x (by simp)
    rw [patV, List.length_cons, Nat.pow_succ, Nat.mul_comm]
    by_cases hneg : left < 0
    · have h1 : left / x < 0 := Int.ediv_neg_of_neg_of_pos hneg (by omega)
      rw [show (left / x + 1).toNat = 0 by omega]
      simp [restW]
    · have h1 : left / x ≤ 60 := Int.le_trans (Int.ediv_le_self x (by omega)) hl
      refine Nat.le_trans (restW_le _ (61 ^ xs.length) (fun n => ?_) _ _) (Nat.mul_le_mul_right _ (by omega))
      have := mul_nn0 n x hx
      exact ih _ _ (fun y hy => hp y (by simp [hy])) (by omega)
def impl_FullPatterns.f (k : Nat) (a0 : Int) (l1 : List Int) : Option (List (List Int) × Bool) :=
  (impl_areRod.f k a0 l1).bind fun t => if t = true then (if fullB a0 l1 = true then (if rd l1 0 < 3 ∨ 10 * rd l1 0 < a0 then some ([], false) else some (fullV a0 l1, true)) else none) else some ([], false)
set_option maxRecDepth 100000 in
set_option maxHeartbeats 4000000 in
theorem impl_FullPatterns.calls (k : Nat) (a0 : Int) (A1 : Option Addr) (c1 : Nat) (l1 : List Int) (r1 : List (List Int)) (r2 : Bool) (w : World) (hr1 : Kd.C kInt w A1 l1.length l1) (hc1 : l1.length ≤ c1) (h : impl_FullPatterns.f k a0 l1 = some (r1, r2)) :
    Calls Try.prog 17 #[.int .i64 a0, .slice A1 l1.length c1] w fun e w' => ∃ v0_ : Value, e = .returned (.tuple #[v0_, .bool r2]) ∧ Kd.S kRow 22 w' w.heap.size (fun _ => True) v0_ r1 ∧ Below w.heap.size w w' := by
  unfold impl_FullPatterns.f at h
  obtain ⟨t, ht, h⟩ := Option.bind_eq_some_iff.mp h
  have x1 := Boxed.new w 22 (.slice A1 l1.length c1)
  have b1 : Below w.heap.size w (w.alloc (.cells #[.slice A1 l1.length c1] 22)) := (Below.refl _ w).alloc (Nat.le_refl _) _
  have z1 : (w.alloc (.cells #[.slice A1 l1.length c1] 22)).heap.size = w.heap.size + 1 := by simp
  obtain ⟨w1, e1⟩ : ∃ w1, w.alloc (.cells #[.slice A1 l1.length c1] 22) = w1 := ⟨_, rfl⟩
  rw [e1] at x1 b1 z1
  have hrod := impl_areRod.calls k a0 A1 c1 l1 t w1 (Kd.C_below hr1 b1) hc1 ht
  have HROD := Aside0.mk hrod
  have HR := Aside0.mk hr1
  have E1 := Aside0.mk e1
  have X1 := Aside0.mk x1
  have B1 := Aside0.mk b1
  have Z1 := Aside0.mk z1
  have q1 := x1.cell
  clear hrod hr1 ht x1 b1 z1 e1
  cases t with
  | false =>
    have hr : [] = r1 ∧ false = r2 := by simpa using h
    obtain ⟨rfl, rfl⟩ := hr
    clear h
    go_enter Try.func17, Try.ntmps17
    go_upto_region 1 with (fail)
    rw [E1.out]
    go_wp2_with (go_at_call 56; refine HROD.out.mono ?_; rintro e w2 ⟨rfl, hb⟩)
    go_ret2
    exact ⟨_, rfl, Kd.S_nil _ _ _ _ _, B1.out.trans (hb.mono B1.out.size)⟩
  | true =>
    by_cases hs : fullB a0 l1 = true
    case neg => rw [if_pos rfl, if_neg hs] at h; cases h
    rw [if_pos rfl, if_pos hs] at h
    have HSH := Aside0.mk (fullB_of hs)
    have hlz : (0 : Int) < (l1.length : Int) := by have := HSH.out.2.1.1; omega
    obtain ⟨x0, hx0⟩ : ∃ x0, rd l1 0 = x0 := ⟨_, rfl⟩
    have hxr : 1 ≤ x0 ∧ x0 ≤ 60 := by
      have h1 := rd_nat l1 0 HSH.out.2.1.1
      rw [Int.natCast_zero, hx0] at h1
      rw [h1]
      exact HSH.out.2.2 _ (List.getElem_mem _)
    rw [hx0] at h
    have hw : IntKind.i64.wrap (10 * x0) = 10 * x0 := IntWalk.i64_in _ (by omega)
    have HAT : Aside0 (∀ W, Below w.heap.size w W → ∃ ad, A1 = some ad ∧ W.cell? ad = some (.int .i64 x0)) := ⟨fun W hb => by
      obtain ⟨ad, had, hq0⟩ := Kd.at_int (Kd.C_below HR.out hb) 0 (by omega) hlz
      rw [hx0] at hq0
      have hq1 : W.cell? (ad.add 0) = some (.int .i64 x0) := hq0
      rw [show ad.add 0 = ad by simp [Addr.add]] at hq1
      exact ⟨ad, had, hq1⟩⟩
    have HX0 := Aside0.mk hx0
    obtain ⟨ad, rfl, _⟩ := HAT.out w (Below.refl _ _)
    have HAD : Aside0 (∀ W, Below w.heap.size w W → W.cell? ad = some (.int .i64 x0)) := ⟨fun W hb => by
      obtain ⟨ad', e, h⟩ := HAT.out W hb
      injection e with e
      subst e
      exact h⟩
    clear hs hx0 HAT
    by_cases h3 : x0 < 3
    · rw [if_pos (.inl h3)] at h
      have hr : [] = r1 ∧ false = r2 := by simpa using h
      obtain ⟨rfl, rfl⟩ := hr
      clear h
      go_enter Try.func17, Try.ntmps17
      go_upto_region 1 with (fail)
      rw [E1.out]
      go_wp2_with (go_at_call 56; refine HROD.out.mono ?_; rintro e w2 ⟨rfl, hb⟩; have q2 := (box_below X1.out hb).cell; have q3 := HAD.out w2 (B1.out.trans (hb.mono B1.out.size)))
      go_ret2
      exact ⟨_, rfl, Kd.S_nil _ _ _ _ _, B1.out.trans (hb.mono B1.out.size)⟩
    by_cases h10 : 10 * x0 < a0
    · rw [if_pos (.inr h10)] at h
      have hr : [] = r1 ∧ false = r2 := by simpa using h
      obtain ⟨rfl, rfl⟩ := hr
      clear h
      go_enter Try.func17, Try.ntmps17
      go_upto_region 1 with (fail)
      rw [E1.out]
      go_wp2_with (go_at_call 56; refine HROD.out.mono ?_; rintro e w2 ⟨rfl, hb⟩; have q2 := (box_below X1.out hb).cell; have q3 := HAD.out w2 (B1.out.trans (hb.mono B1.out.size)))
      go_ret2
      exact ⟨_, rfl, Kd.S_nil _ _ _ _ _, B1.out.trans (hb.mono B1.out.size)⟩
    rw [if_neg (fun h => h.elim h3 h10)] at h
    have hr : fullV a0 l1 = r1 ∧ true = r2 := by simpa using h
    obtain ⟨hr1, rfl⟩ := hr
    have HR1 := Aside0.mk hr1
    clear h hr1
    go_enter Try.func17, Try.ntmps17
    go_upto_region 1 with (fail)
    rw [E1.out]
    go_upto_region 4 with (go_at_call 56; refine HROD.out.mono ?_; rintro e w2 ⟨rfl, hb⟩; have q2 := (box_below X1.out hb).cell; have q3 := HAD.out w2 (B1.out.trans (hb.mono B1.out.size)); have HB2 := Aside0.mk hb; clear hb)
    have hb2 : Below w.heap.size w w2 := B1.out.trans (HB2.out.mono B1.out.size)
    have z3 : (w2.alloc (.cells #[] 22)).heap.size = w2.heap.size + 1 := by simp
    have s3 := SS_empty w2 w.heap.size (fun k => k ≠ w2.heap.size + 1 ∧ k < w2.heap.size + 2) hb2.size ⟨by omega, by omega⟩
    have x4 := Boxed.new (w2.alloc (.cells #[] 22)) 29 (.slice (some ⟨w2.heap.size, 0, none⟩) 0 0)
    have s4 := Kd.S_alloc s3 (.cells #[.slice (some ⟨w2.heap.size, 0, none⟩) 0 0] 29)
    have b4 : Below w.heap.size w ((w2.alloc (.cells #[] 22)).alloc (.cells #[.slice (some ⟨w2.heap.size, 0, none⟩) 0 0] 29)) :=
      (hb2.alloc hb2.size _).alloc (hb2.alloc hb2.size _).size _
    have c4 : Below w2.heap.size w2 ((w2.alloc (.cells #[] 22)).alloc (.cells #[.slice (some ⟨w2.heap.size, 0, none⟩) 0 0] 29)) :=
      ((Below.refl _ w2).alloc (Nat.le_refl _) _).alloc (by simp) _
    have z4 : ((w2.alloc (.cells #[] 22)).alloc (.cells #[.slice (some ⟨w2.heap.size, 0, none⟩) 0 0] 29)).heap.size = w2.heap.size + 2 := by simp
    rw [z3] at x4
    generalize (w2.alloc (.cells #[] 22)).alloc (.cells #[.slice (some ⟨w2.heap.size, 0, none⟩) 0 0] 29) = W4 at x4 s4 b4 c4 z4 ⊢
    clear s3 z3 q1 q2 q3
    have hw2 : w.heap.size + 1 ≤ w2.heap.size := by have := HB2.out.size; have := Z1.out; omega
    have y1 := box_below (box_below X1.out HB2.out) c4
    have q4 := y1.cell
    have T : EachG l1.length (fun k => k = w2.heap.size + 1 ∨ k = w2.heap.size) (W4.heap.size + 3) (FullV w.heap.size (w2.heap.size + 1) w2.heap.size (W4.heap.size + 3)) w.heap.size W4 60 #[] #[.pointer (some ⟨w.heap.size, 0, none⟩), .pointer (some ⟨w2.heap.size + 1, 0, none⟩)] (fullStep x0) List.length 20000000 :=
      ⟨fun s p => by unfold fullStep; split <;> simp, enters_of Try.func60 (by kernel_rfl) rfl, fun M s W W' h hb => h.later hb, fun M s W v ch left hF hB0 hM hmu hI hv _ _ =>
        full1_calls w.heap.size w.heap.size (w2.heap.size + 1) w2.heap.size (W4.heap.size + 3) M x0 l1 (some ad) c1 s W v ch left (by have := b4.size; have := hF.size; omega) hB0 (by omega) hM hmu HSH.out.2.1.1 HX0.out
          (box_fg y1 hF (by omega) (by omega)) (Kd.C_below HR.out (b4.trans (hF.below (fun k hk => by omega) b4.size (by have := b4.size; omega)))) hI hv⟩
    have hcall := patternsG_calls l1 (some ad) c1 a0 (fun k => k = w2.heap.size + 1 ∨ k = w2.heap.size) (FullV w.heap.size (w2.heap.size + 1) w2.heap.size (W4.heap.size + 3)) w.heap.size W4 60 #[] #[.pointer (some ⟨w.heap.size, 0, none⟩), .pointer (some ⟨w2.heap.size + 1, 0, none⟩)] (fullStep x0) List.length 20000000 (w2.heap.size + 2) []
      (by have := HSH.out.2.1.2; omega) HSH.out.2.2 HSH.out.1 T b4.size (fun k hk => by omega) (fun W hF => Kd.C_below HR.out (b4.trans (hF.below (fun k hk => by omega) b4.size (by have := b4.size; omega)))) hc1 (by omega)
      (by
        have h1 := patV_le l1 [] a0 (fun x hx => (HSH.out.2.2 x hx).1) HSH.out.1.2
        have h2 : 61 ^ l1.length ≤ 61 ^ 4 := Nat.pow_le_pow_right (by decide) HSH.out.2.1.2
        have h3 : 61 ^ 4 = 13845841 := by decide
        rw [List.length_nil]
        omega)
      ⟨_, x4, s4, fun k hk => .inl (by simpa [Value.ownBlock] using hk.symm)⟩
    have hfold : (patV l1 [] a0).foldl (fullStep x0) [] = r1 := by rw [← HR1.out, fullV, HX0.out]
    rw [hfold] at hcall
    have HCALL := Aside0.mk hcall
    have B4 := Aside0.mk b4
    clear hcall hfold T x4 s4 b4 c4 y1 hb2
    go_wp2_with (go_at_call 57; refine HCALL.out.mono ?_; rintro e w5 ⟨rfl, ⟨M5, hM5, vo, xo, so, _⟩, hF5⟩; have q5 := xo.cell; have S5 := Aside0.mk so; have F5 := Aside0.mk hF5; clear xo so hF5)
    go_ret2
    exact ⟨_, rfl, Kd.S_mono S5.out (fun _ _ => trivial), B4.out.trans (F5.out.below (fun k hk => by omega) B4.out.size (by have := B4.out.size; omega))⟩
end Go.Proofs.Ytfhaclkjiolmjaa.Q

namespace Go.Proofs.Ytfhaclkjiolmjaa.Q
open Go.RowKit Go.Shelf Go.Proofs.YtfhaclkjiolmjaaW.PrintWords Go.Proofs.YtfhaclkjiolmjaaW.PrintLast Go.Proofs.YtfhaclkjiolmjaaW.PrintMore
set_option linter.unusedVariables false
set_option linter.unusedSimpArgs false

theorem own_f (l : List Int) (h : l.length < 1000000) : spec_l1Own.f l = some l := by
  unfold spec_l1Own.f
  simp only [Option.bind_some]
  rw [if_pos (by simp; omega)]
  simp
theorem fullStep_mu (x0 : Int) : ∀ (s : List (List Int)) (p : List Int × Int), (fullStep x0 s p).length ≤ s.length + 1 := fun s p => by unfold fullStep; split <;> simp
theorem look_fg {P1 : Prop} {S : Nat → Prop} {B0 : Nat} {w W : World} (h : P1 ∧ Fg S B0 w W) : Fg S B0 w W := h.2
theorem look_keep {S : Nat → Prop} {B0 : Nat} {wr W' : World} {v3 : Value} {ad : Addr} (hc : ∀ W', Fg S B0 wr W' → W'.cell? ad = some v3) (h : Fg S B0 wr W') : W'.cell? ad = some v3 ∧ Fg S B0 wr W' := ⟨hc W' h, h⟩

set_option maxRecDepth 100000 in
set_option maxHeartbeats 8000000 in
theorem rdLook_calls (base Bo B1 B0 : Nat) (x0 : Int) (ls : List Int) (A0 : Option Addr) (c0 : Nat) (w1 : World) (hn : ls.length ≤ 10) (hpos : ∀ x ∈ ls, 1 ≤ x ∧ x ≤ 60) (hl : 0 < ls.length) (hx0 : rd ls 0 = x0) (hb1 : base ≤ w1.heap.size) (hSl : ∀ k, (k = Bo ∨ k = B1) → k < w1.heap.size) (hB01 : B0 ≤ w1.heap.size) (hbo : Bo < B0)
    (hC : ∀ W, Fg (fun k => k = Bo ∨ k = B1) B0 w1 W → Kd.C kInt W A0 ls.length ls) (hc0 : ls.length ≤ c0) :
    ∀ d M s W v ch left, ch.length + d = ls.length → 0 ≤ left → left ≤ 60 → Fg (fun k => k = Bo ∨ k = B1) B0 w1 W → M ≤ W.heap.size → s.length + (patV (ls.drop ch.length) ch left).length ≤ 20000000 → FullV base Bo B1 B0 M s W → Kd.R kInt 3 W base (fun k => ¬ (k = Bo ∨ k = B1) ∧ M ≤ k) v ch →
      Calls Try.prog 59 #[.int .i64 left, .slice A0 ls.length c0, v, .pointer (some ⟨Bo, 0, none⟩)] W fun e w' => e = .returned (.tuple #[]) ∧ (∃ M', M' ≤ w'.heap.size ∧ FullV base Bo B1 B0 M' ((patV (ls.drop ch.length) ch left).foldl (fullStep x0) s) w') ∧ Fg (fun k => k = Bo ∨ k = B1) B0 W w' := by
  obtain ⟨S, hSd⟩ : ∃ S : Nat → Prop, (fun k => k = Bo ∨ k = B1) = S := ⟨_, rfl⟩
  have hSk : ∀ k, S k ↔ (k = Bo ∨ k = B1) := fun k => by rw [← hSd]
  intro d
  induction d with
  | zero =>
    intro M s W v ch left hd hl0 hl6 hF hMW hmu hI hv
    have hp : patV (ls.drop ch.length) ch left = [(ch, left)] := by rw [List.drop_of_length_le (by omega)]; rfl
    rw [hp] at hmu ⊢
    rw [List.length_singleton] at hmu
    show Calls _ _ _ _ fun e w' => e = .returned (.tuple #[]) ∧ (∃ M', M' ≤ w'.heap.size ∧ FullV base Bo B1 B0 M' (fullStep x0 s (ch, left)) w') ∧ _
    have hCW := hC W hF
    have hbase : base ≤ W.heap.size := Nat.le_trans hb1 hF.size
    have hB0 : B0 ≤ W.heap.size := Nat.le_trans hB01 hF.size
    have hzb : ((ch.length : Int) == (ls.length : Int)) = true := by simp; omega
    clear hC hF hp
    obtain ⟨A1, c1, hv1, hc1, hC1⟩ := Kd.R_reads hv
    subst hv1
    obtain ⟨ad, had, hq0⟩ := Kd.at_int hCW 0 (by omega) (by omega)
    subst had
    rw [hx0] at hq0
    have q0 : W.cell? ad = some (.int .i64 x0) := by
      have hq1 : W.cell? (ad.add 0) = some (.int .i64 x0) := hq0
      rwa [show ad.add 0 = ad by simp [Addr.add]] at hq1
    have hlz : (0 : Int) < (ls.length : Int) := by omega
    have HI0 := Aside0.mk hI
    obtain ⟨vo, xo, hS, hO⟩ := hI
    have HV := Aside0.mk hv
    clear hv hCW hq0 hC1
    by_cases h : left < x0
    · obtain ⟨Ao, co, rfl⟩ := Kd.S_slice hS
      have qo := xo.cell
      have fo := xo.frozen
      have HS := Aside0.mk hS
      have HO := Aside0.mk hO
      have XO := Aside0.mk xo
      have HT : Aside0 (∀ k, (Value.slice Ao s.length co).ownBlock = some k → (k = Bo ∨ k = B1) ∨ (B0 ≤ k ∧ isSS W k)) := ⟨fun k hk => by
        rcases hO k hk with h | h
        · exact .inl (.inr h)
        · exact .inr ⟨h, Kd.S_typed hS k hk⟩⟩
      have HL : Aside0 (∀ k, (Value.slice Ao s.length co).ownBlock = some k → k ≠ Bo ∧ k < M) := ⟨fun k hk => by obtain ⟨f, h0, _⟩ := hS; exact h0 k hk⟩
      clear hS hO xo HI0
      go_enter Try.func59, Try.ntmps59
      go_upto_region 2 with (fail)
      go_upto_region 3 with
        (at_builtin; refine Kd.S_append kRow (w0 := W) base rfl (.tmp 22) (.tmp 24) 29 22 (.slice none 0 0) 24 rfl Try.underlying29 info22 rfl (by decide) (by omega) (.slice Ao s.length co) s ch [.slice A1 ch.length c1] (fun k => k ≠ Bo) (fun k => k ≠ Bo ∧ M ≤ k) rfl rfl ?aP ?aQ ?aF ?aO (Below.refl _ _) ?aS ?aL ?_;
          (case aP => exact ⟨_, rfl, Kd.R_mono HV.out (fun k hk => ⟨fun e => hk.1 (.inl e), hk.2⟩)⟩);
          (case aQ => exact fun k hk => ⟨hk.1, fun e => by have := (HL.out k e.symm).2; omega⟩);
          (case aF => exact fun k hk => by omega);
          (case aO => exact Kd.S_mono HS.out (fun k hk => ⟨hk.1, fun h2 => by omega⟩));
          (case aS => exact hbase);
          (case aL => omega);
          intro v1 w2 hS2 hb2 hg2 hat2; have X2 := XO.out.kept hg2 (fun e => (HL.out Bo e.symm).1 rfl); have f2 := X2.frozen; have q2 := X2.cell; obtain ⟨A2, c2, rfl⟩ := Kd.S_slice hS2)
      go_wp2
      (try simp only [Exit.inBlock, Exit.then])
      refine bodyPost_ret (results_none rfl _ _ _) rfl ?_
      have hl2 : (s ++ [ch]).length = s.length + 1 := by simp
      rw [hl2] at hS2 hat2
      refine ⟨rfl, ⟨w2.heap.size, by simp [World.setCell], ?_⟩, ?_⟩
      · unfold fullStep
        rw [if_pos h]
        refine ⟨_, X2.set _, ?_, ?_⟩
        · have hS3 := Kd.S_far (p := ⟨Bo, 0, none⟩) (Kd.S_bound hS2) (fun k hk => hk.1) (.slice A2 (s.length + 1) c2)
          exact Kd.S_mono hS3 (fun k hk => ⟨hk.1, hk.2.2.1⟩)
        · intro k hk
          rcases hat2 with hat | ⟨b, hb, hle⟩
          · rw [hat] at hk; exact HO.out k hk
          · rw [hb] at hk
            injection hk with hk
            exact .inr (by omega)
      · exact (Fg.grownS hg2 HT.out).trans (Fg.set (Fg.refl _ _ _) _ _ (.inl (.inl rfl)))
    · have H := Aside0.mk h
      clear hS hO xo
      go_enter Try.func59, Try.ntmps59
      go_wp2
      (try simp only [Exit.inBlock, Exit.then])
      refine bodyPost_ret (results_none rfl _ _ _) rfl ?_
      refine ⟨rfl, ⟨M, hMW, ?_⟩, Fg.refl _ _ _⟩
      unfold fullStep
      rw [if_neg (Int.not_lt.mpr H.out)]
      exact HI0.out
  | succ d ih =>
    intro M s W v ch left hd hl0 hl6 hF hM hmu hI hv0
    replace hv0 : Kd.R kInt 3 W base (fun k => ¬ S k ∧ M ≤ k) v ch := Kd.R_mono hv0 (fun k h => ⟨fun hs => h.1 ((hSk k).1 hs), h.2⟩)
    rw [hSd] at hC hF ih ⊢
    have hv : Kd.R kInt 3 W base (fun k => ¬ S k) v ch := Kd.R_mono hv0 (fun _ h => h.1)
    clear hv0
    have hlt : ch.length < ls.length := by omega
    obtain ⟨x, hx⟩ : ∃ x, ls[ch.length] = x := ⟨_, rfl⟩
    have hxr : 1 ≤ x ∧ x ≤ 60 := hx ▸ hpos _ (List.getElem_mem hlt)
    obtain ⟨xs, hxs⟩ : ∃ xs, ls.drop (ch.length + 1) = xs := ⟨_, rfl⟩
    rw [show ls.drop ch.length = x :: xs by rw [List.drop_eq_getElem_cons hlt, hx, hxs], patV] at hmu ⊢
    obtain ⟨N, hN⟩ : ∃ N, (left / x + 1).toNat = N := ⟨_, rfl⟩
    rw [hN] at hmu ⊢
    have hNle : ∀ n : Nat, n < N ↔ (n : Int) * x ≤ left := fun n => by
      rw [← Int.le_ediv_iff_mul_le (by omega : 0 < x), ← hN]
      have : 0 ≤ left / x := Int.ediv_nonneg hl0 (by omega)
      omega
    generalize htotal : (restW (fun n => patV xs (ch ++ [(n : Int)]) (left - (n : Int) * x)) N 0).foldl (fullStep x0) s = total
    obtain ⟨A1, c1, hv1, hc1, hC1⟩ := Kd.R_reads hv
    subst hv1
    obtain ⟨ad, had, _⟩ := Kd.at_int (hC W hF) (ch.length : Int) (by omega) (by omega)
    subst had
    have hcell : ∀ W', Fg S B0 w1 W' → W'.cell? (ad.add ch.length) = some (.int .i64 x) := fun W' h => by
      obtain ⟨ad', he, h2⟩ := Kd.at_int (hC W' h) (ch.length : Int) (by omega) (by omega)
      injection he with he
      subst he
      rw [Int.toNat_natCast, rd, Int.toNat_natCast, List.getD_eq_getElem?_getD, List.getElem?_eq_getElem hlt] at h2
      rw [h2, ← hx]; rfl
    have hltz : (ch.length : Int) < (ls.length : Int) := by omega
    have h0z : (0 : Int) ≤ (ch.length : Int) := by omega
    have hzb : ((ch.length : Int) == (ls.length : Int)) = false := by simp; omega
    have HI := Aside0.mk hI
    have HM := Aside0.mk hM
    have HMU := Aside0.mk hmu
    clear hM hmu
    have HV := Aside0.mk hv
    have HF := Aside0.mk hF
    have HC1 := Aside0.mk hC1
    have IH := Aside0.mk ih
    have HD := Aside0.mk hd
    have HNL := Aside0.mk hNle
    have HCELL := Aside0.mk hcell
    have HX := Aside0.mk hx
    have HXS := Aside0.mk hxs
    have HT := Aside0.mk htotal
    clear hI hv hF hC1 ih hd hNle hcell hx hxs htotal hN hpos
    go_enter Try.func59, Try.ntmps59
    go_wp2_with fail
    go_loopg [8] N (fun gg s8 wr => ∃ n : Nat, s8 = .int .i64 (n : Int) ∧ n ≤ N ∧ N - n ≤ gg ∧ Aside0 (∃ M st, M ≤ wr.heap.size ∧ FullV base Bo B1 B0 M st wr ∧ (restW (fun n => patV xs (ch ++ [(n : Int)]) (left - (n : Int) * x)) (N - n) n).foldl (fullStep x0) st = total ∧ st.length + (restW (fun n => patV xs (ch ++ [(n : Int)]) (left - (n : Int) * x)) (N - n) n).length ≤ 20000000) ∧ Aside0 (Fg S B0 W wr))
    case atStart => exact ⟨0, rfl, by omega, by omega, ⟨M, s, HM.out, HI.out, HT.out, HMU.out⟩, ⟨Fg.refl _ _ _⟩⟩
    case round =>
      obtain ⟨n, rfl, hnN, hgg, II, GG⟩ := hrel
      have FF := Aside0.mk (HF.out.trans GG.out)
      have q2 := HCELL.out wr FF.out
      by_cases hlt2 : n < N
      · have hple := (HNL.out n).1 hlt2
        obtain ⟨p, hp⟩ : ∃ p, (n : Int) * x = p := ⟨_, rfl⟩
        have hp0 : 0 ≤ p := by rw [← hp]; exact Int.mul_nonneg (by omega) (by omega)
        rw [hp] at hple
        have hw1 : IntKind.i64.wrap ((n : Int) * x) = p := by rw [hp]; exact IntWalk.i64_in _ (by omega)
        obtain ⟨q, hq⟩ : ∃ q, left - p = q := ⟨_, rfl⟩
        have hw2 : IntKind.i64.wrap (left - p) = q := by rw [hq]; exact IntWalk.i64_in _ (by omega)
        have hqr : 0 ≤ q ∧ q ≤ 60 := by omega
        have hnb : n ≤ 60 := by
          have h1 : (n : Int) * 1 ≤ (n : Int) * x := Int.mul_le_mul_of_nonneg_left hxr.1 (by omega)
          omega
        have hwn : IntKind.i64.wrap ((n : Int) + 1) = ((n + 1 : Nat) : Int) := by rw [IntWalk.i64_in _ (by omega)]; omega
        obtain ⟨M1, st, hM1, hst, hfold, hmu1⟩ := II.out
        have HM1 := Aside0.mk hM1
        rw [show N - n = (N - (n + 1)) + 1 by omega, restW, List.length_append] at hmu1
        have HMU1 : Aside0 (st.length + ((patV xs (ch ++ [(n : Int)]) (left - (n : Int) * x)).length + (restW (fun n => patV xs (ch ++ [(n : Int)]) (left - (n : Int) * x)) (N - (n + 1)) (n + 1)).length) ≤ 20000000) := ⟨hmu1⟩
        clear hM1 hmu1
        have HST := Aside0.mk hst
        have HFO := Aside0.mk hfold
        have HSR : Aside0 (∀ k, S k → k < wr.heap.size) := ⟨fun k hk => Nat.lt_of_lt_of_le (hSl k ((hSk k).1 hk)) FF.out.size⟩
        have HBR : Aside0 (base ≤ wr.heap.size) := ⟨Nat.le_trans hb1 FF.out.size⟩
        have HVr := Aside0.mk (R_fg HV.out GG.out (fun _ h => h))
        have HCr : Aside0 (∀ W', Fg S B0 wr W' → Kd.C kInt W' A1 ch.length ch) := ⟨fun W' h => by
          obtain ⟨A', c', he, _, hC'⟩ := Kd.R_reads (R_fg HVr.out h (fun _ h => h))
          injection he with he1 he2 he3
          subst he1
          exact hC'⟩
        have HCW : Aside0 (∀ W', Fg S B0 wr W' → W'.cell? (ad.add ch.length) = some (.int .i64 x)) := ⟨fun W' h => HCELL.out W' (FF.out.trans h)⟩
        have HP := Aside0.mk hp
        have HQ := Aside0.mk hq
        have hmix : Try.prog.follows .mixedOrders = true := by kernel_rfl
        clear II hst hfold hp hq
        go_wp2
        go_region_held3 (fun W' => W'.cell? (ad.add ch.length) = some (.int .i64 x) ∧ Fg S B0 wr W')
          (first | exact look_keep HCW.out (Fg.drew (Fg.refl _ _ _)) | exact look_keep HCW.out (by assumption) | exact look_keep HCW.out (Fg.alloc (look_fg (by assumption)) _))
          (first
            | (go_at_call 63; refine (spec_l1Own.calls A1 c1 ch ch _ ?hCl hc1 (own_f ch (by omega))).mono ?_;
                (case hCl => exact HCr.out _ (look_fg (by assumption)));
                rintro e w6 ⟨v6, rfl, hR6, hb6⟩;
                have hfr6 : Fg S B0 wr w6 := Fg.then (look_fg (by assumption)) hb6;
                have hbl6 : Below wr.heap.size wr w6 := (by first | exact ((Below.refl _ wr).drew).trans (hb6.mono (Nat.le_refl _)) | exact ((((Below.refl _ wr).drew).alloc (Nat.le_refl _) _)).trans (hb6.mono (by simp)));
                have hRR := own_new (S := S) (wr := wr) (base := base) hR6 (by simp) HSR.out HBR.out)
            | (go_at_call 59; refine (IH.out M1 st w7 v7 (ch ++ [(n : Int)]) q (by have := HD.out; simp; omega) hqr.1 hqr.2 (FF.out.trans hfr7) (Nat.le_trans HM1.out hfr7.size) (by have h1 := HMU1.out; rw [List.length_append, List.length_singleton, HXS.out, ← HQ.out, ← HP.out]; omega) (FullV.later HST.out hbl7) (Kd.R_mono hR7 (fun _ h => ⟨fun hs => h.1 ((hSk _).2 hs), Nat.le_trans HM1.out h.2⟩))).mono ?_; rintro e w8 ⟨rfl, hI8, hF8⟩;
                have hfr8 : Fg S B0 wr w8 := hfr7.trans hF8)
            | (refine app_int (by rfl) _ _ _ base (fun k => ¬ S k ∧ wr.heap.size ≤ k) rfl v6 ch (n : Int) _ rfl rfl ?hcell ?hl ?HO ?hbase ?hfresh ?_;
                (case hcell => first | exact lit_cell _ _ _ | exact lit_cell2 hb6 | exact lit_cell3 hb6);
                (case hl => omega);
                (case HO => first | exact Kd.R_below hRR ((Below.refl _ _).alloc (Nat.le_refl _) _) | exact hRR);
                (case hbase => first | exact Nat.le_trans HBR.out hbl6.size | exact Nat.le_trans HBR.out (hbl6.alloc hbl6.size _).size);
                (case hfresh => first | exact fresh_ok HSR.out hbl6.size | exact fresh_ok HSR.out (hbl6.alloc hbl6.size _).size);
                intro v7 w7 hR7 hg7;
                have hrow : ∀ k, v6.ownBlock = some k → wr.heap.size ≤ k := fun k hk => (hRR.1 k hk).2;
                have hfr7 : Fg S B0 wr w7 := Fg.grown (look_fg (by assumption)) hg7 hrow;
                have hbl7 : Below wr.heap.size wr w7 := (by first | exact hbl6.grown hg7 hbl6.size hrow | exact (hbl6.alloc hbl6.size _).grown hg7 (hbl6.alloc hbl6.size _).size hrow)))
        all_goals
          go_wp2
          go_roundg (N - (n + 1))
          case measure => omega
          case rel =>
            obtain ⟨M8, hM8, hI8⟩ := hI8
            refine ⟨n + 1, by go_num, by omega, by omega, ⟨M8, _, hM8, hI8, ?_, ?_⟩, ⟨GG.out.trans hfr8⟩⟩
            · rw [← HFO.out, show N - n = (N - (n + 1)) + 1 by omega, restW, List.foldl_append, List.length_append, List.length_singleton, HXS.out, ← HQ.out, ← HP.out]
            · have h1 := HMU1.out
              have h2 := mu_fold (fullStep_mu x0) (patV xs (ch ++ [(n : Int)]) (left - (n : Int) * x)) st
              rw [List.length_append, List.length_singleton, HXS.out, ← HQ.out, ← HP.out]
              omega
      · have hple : ¬ (n : Int) * x ≤ left := fun h => hlt2 ((HNL.out n).2 h)
        have hw1 : IntKind.i64.wrap ((n : Int) * x) = (n : Int) * x := by
          have hnN2 : n = N := by omega
          have h1 : 0 ≤ (n : Int) * x := Int.mul_nonneg (by omega) (by omega)
          have h2 : (n : Int) * x ≤ left + x := by
            cases n with
            | zero => simp; omega
            | succ m =>
              have := (HNL.out m).1 (by omega)
              rw [show ((m + 1 : Nat) : Int) * x = (m : Int) * x + x by rw [show ((m + 1 : Nat) : Int) = (m : Int) + 1 by omega, Int.add_mul]; omega]
              omega
          exact IntWalk.i64_in _ (by omega)
        obtain ⟨M1, st, hM1, hst, hfold, _⟩ := II.out
        have HM1 := Aside0.mk hM1
        clear hM1
        rw [show N - n = 0 by omega] at hfold
        have HST := Aside0.mk hst
        have HFO := Aside0.mk hfold
        clear hst hfold II
        go_wp2
        go_end0
        refine ⟨rfl, ?_, GG.out⟩
        rw [← HFO.out]
        exact ⟨M1, HM1.out, HST.out⟩
def spec_FullPatterns.f (k : Nat) (a0 : Int) (l1 : List Int) : Option (List (List Int) × Bool) :=
  (spec_rdAsked.f k a0 l1).bind fun t => if t = true then (if fullB a0 l1 = true then (if rd l1 0 < 3 ∨ 10 * rd l1 0 < a0 then some ([], false) else some (fullV a0 l1, true)) else none) else some ([], false)
set_option maxRecDepth 100000 in
set_option maxHeartbeats 4000000 in
theorem spec_FullPatterns.calls (k : Nat) (a0 : Int) (A1 : Option Addr) (c1 : Nat) (l1 : List Int) (r1 : List (List Int)) (r2 : Bool) (w : World) (hr1 : Kd.C kInt w A1 l1.length l1) (hc1 : l1.length ≤ c1) (h : spec_FullPatterns.f k a0 l1 = some (r1, r2)) :
    Calls Try.prog 16 #[.int .i64 a0, .slice A1 l1.length c1] w fun e w' => ∃ v0_ : Value, e = .returned (.tuple #[v0_, .bool r2]) ∧ Kd.S kRow 22 w' w.heap.size (fun _ => True) v0_ r1 ∧ Below w.heap.size w w' := by
  unfold spec_FullPatterns.f at h
  obtain ⟨t, ht, h⟩ := Option.bind_eq_some_iff.mp h
  have hrod := spec_rdAsked.calls k a0 A1 c1 l1 t w hr1 hc1 ht
  have HROD := Aside0.mk hrod
  have HR := Aside0.mk hr1
  clear hrod hr1 ht
  cases t with
  | false =>
    have hr : [] = r1 ∧ false = r2 := by simpa using h
    obtain ⟨rfl, rfl⟩ := hr
    clear h
    go_enter Try.func16, Try.ntmps16
    go_wp2_with (go_at_call 53; refine HROD.out.mono ?_; rintro e w2 ⟨rfl, hb⟩)
    go_ret2
    exact ⟨_, rfl, Kd.S_nil _ _ _ _ _, hb.below⟩
  | true =>
    by_cases hs : fullB a0 l1 = true
    case neg => rw [if_pos rfl, if_neg hs] at h; cases h
    rw [if_pos rfl, if_pos hs] at h
    have HSH := Aside0.mk (fullB_of hs)
    have hlz : (0 : Int) < (l1.length : Int) := by have := HSH.out.2.1.1; omega
    obtain ⟨x0, hx0⟩ : ∃ x0, rd l1 0 = x0 := ⟨_, rfl⟩
    have hxr : 1 ≤ x0 ∧ x0 ≤ 60 := by
      have h1 := rd_nat l1 0 HSH.out.2.1.1
      rw [Int.natCast_zero, hx0] at h1
      rw [h1]
      exact HSH.out.2.2 _ (List.getElem_mem _)
    rw [hx0] at h
    have hw : IntKind.i64.wrap (10 * x0) = 10 * x0 := IntWalk.i64_in _ (by omega)
    have HAT : Aside0 (∀ W, Below w.heap.size w W → ∃ ad, A1 = some ad ∧ W.cell? ad = some (.int .i64 x0)) := ⟨fun W hb => by
      obtain ⟨ad, had, hq0⟩ := Kd.at_int (Kd.C_below HR.out hb) 0 (by omega) hlz
      rw [hx0] at hq0
      have hq1 : W.cell? (ad.add 0) = some (.int .i64 x0) := hq0
      rw [show ad.add 0 = ad by simp [Addr.add]] at hq1
      exact ⟨ad, had, hq1⟩⟩
    have HX0 := Aside0.mk hx0
    obtain ⟨ad, rfl, _⟩ := HAT.out w (Below.refl _ _)
    have HAD : Aside0 (∀ W, Below w.heap.size w W → W.cell? ad = some (.int .i64 x0)) := ⟨fun W hb => by
      obtain ⟨ad', e, h⟩ := HAT.out W hb
      injection e with e
      subst e
      exact h⟩
    clear hs hx0 HAT
    by_cases h3 : x0 < 3
    · rw [if_pos (.inl h3)] at h
      have hr : [] = r1 ∧ false = r2 := by simpa using h
      obtain ⟨rfl, rfl⟩ := hr
      clear h
      go_enter Try.func16, Try.ntmps16
      go_wp2_with (go_at_call 53; refine HROD.out.mono ?_; rintro e w2 ⟨rfl, hb⟩; have q3 := HAD.out w2 hb.below)
      go_ret2
      exact ⟨_, rfl, Kd.S_nil _ _ _ _ _, hb.below⟩
    by_cases h10 : 10 * x0 < a0
    · rw [if_pos (.inr h10)] at h
      have hr : [] = r1 ∧ false = r2 := by simpa using h
      obtain ⟨rfl, rfl⟩ := hr
      clear h
      go_enter Try.func16, Try.ntmps16
      go_wp2_with (go_at_call 53; refine HROD.out.mono ?_; rintro e w2 ⟨rfl, hb⟩; have q3 := HAD.out w2 hb.below)
      go_ret2
      exact ⟨_, rfl, Kd.S_nil _ _ _ _ _, hb.below⟩
    rw [if_neg (fun h => h.elim h3 h10)] at h
    have hr : fullV a0 l1 = r1 ∧ true = r2 := by simpa using h
    obtain ⟨hr1, rfl⟩ := hr
    have HR1 := Aside0.mk hr1
    clear h hr1
    go_enter Try.func16, Try.ntmps16
    go_upto_region 4 with (go_at_call 53; refine HROD.out.mono ?_; rintro e w2 ⟨rfl, hb⟩; have q3 := HAD.out w2 hb.below; have HB2 := Aside0.mk hb.below; clear hb)
    have hb2 : Below w.heap.size w w2 := HB2.out
    have x4 := Boxed.new w2 29 (.slice none 0 0)
    have b4 : Below w.heap.size w (w2.alloc (.cells #[.slice none 0 0] 29)) := hb2.alloc hb2.size _
    have z4 : (w2.alloc (.cells #[.slice none 0 0] 29)).heap.size = w2.heap.size + 1 := by simp
    generalize w2.alloc (.cells #[.slice none 0 0] 29) = W4 at x4 b4 z4 ⊢
    have hw2 : w.heap.size ≤ w2.heap.size := hb2.size
    have hcall := rdLook_calls w.heap.size w2.heap.size w2.heap.size W4.heap.size x0 l1 (some ad) c1 W4 (by have := HSH.out.2.1.2; omega) HSH.out.2.2 HSH.out.2.1.1 HX0.out b4.size (fun k hk => by omega) (Nat.le_refl _) (by omega)
      (fun W hF => Kd.C_below HR.out (b4.trans (hF.below (fun k hk => by omega) b4.size (by have := b4.size; omega)))) hc1 l1.length (w2.heap.size + 1) [] W4 (.slice none 0 0) [] a0 (by simp) HSH.out.1.1 HSH.out.1.2 (Fg.refl _ _ _) (by omega)
      (by
        have h1 := patV_le l1 [] a0 (fun x hx => (HSH.out.2.2 x hx).1) HSH.out.1.2
        have h2 : 61 ^ l1.length ≤ 61 ^ 4 := Nat.pow_le_pow_right (by decide) HSH.out.2.1.2
        have h3 : 61 ^ 4 = 13845841 := by decide
        simp only [List.length_nil, List.drop_zero]
        omega)
      ⟨_, x4, Kd.S_nil _ _ _ _ _, fun k hk => by simp [Value.ownBlock] at hk⟩ (Kd.R_nil _ _ _ _ _)
    simp only [List.length_nil, List.drop_zero] at hcall
    have hfold : (patV l1 [] a0).foldl (fullStep x0) [] = r1 := by rw [← HR1.out, fullV, HX0.out]
    rw [hfold] at hcall
    have HCALL := Aside0.mk hcall
    have B4 := Aside0.mk b4
    clear hcall hfold x4 b4 hb2
    go_wp2_with (go_at_call 59; refine HCALL.out.mono ?_; rintro e w5 ⟨rfl, ⟨M5, hM5, vo, xo, so, _⟩, hF5⟩; have q5 := xo.cell; have S5 := Aside0.mk so; have F5 := Aside0.mk hF5; clear xo so hF5)
    go_ret2
    exact ⟨_, rfl, Kd.S_mono S5.out (fun _ _ => trivial), B4.out.trans (F5.out.below (fun k hk => by omega) B4.out.size (by have := B4.out.size; omega))⟩
end Go.Proofs.Ytfhaclkjiolmjaa.Q

namespace Go.Proofs.Ytfhaclkjiolmjaa.Q
open Go.RowKit Go.Proofs.YtfhaclkjiolmjaaW.PrintWords Go.Proofs.YtfhaclkjiolmjaaW.PrintLast Go.Proofs.YtfhaclkjiolmjaaW.PrintMore
set_option linter.unusedVariables false
set_option linter.unusedSimpArgs false

theorem allLen_leB (b : Nat) : ∀ rs : List (List Int), (∀ r ∈ rs, r.length ≤ b) → allLen rs ≤ b * rs.length := by
  intro rs
  induction rs with
  | nil => intro _; simp [allLen]
  | cons r rs ih =>
    intro h
    have h1 := h r (by simp)
    have h2 := ih (fun x hx => h x (by simp [hx]))
    rw [allLen, List.length_cons, Nat.mul_add, Nat.mul_one]
    omega
theorem restW_in (f : Nat → List (List Int × Int)) (q : List Int × Int) : ∀ N a, q ∈ restW f N a → ∃ n, q ∈ f n := by
  intro N
  induction N with
  | zero => intro a h; cases h
  | succ N ih =>
    intro a h
    rw [restW, List.mem_append] at h
    rcases h with h | h
    · exact ⟨a, h⟩
    · exact ih (a + 1) h
theorem patV_len : ∀ (ls ch : List Int) (left : Int) q, q ∈ patV ls ch left → q.1.length = ch.length + ls.length := by
  intro ls
  induction ls with
  | nil => intro ch left q h; rw [patV, List.mem_singleton] at h; subst h; simp
  | cons x xs ih =>
    intro ch left q h
    rw [patV] at h
    obtain ⟨n, hn⟩ := restW_in _ _ _ _ h
    have := ih _ _ q hn
    rw [List.length_append, List.length_singleton] at this
    rw [List.length_cons]; omega
theorem full_rows (x0 : Int) (b : Nat) : ∀ (L : List (List Int × Int)) (s : List (List Int)), (∀ q ∈ L, q.1.length ≤ b) → (∀ r ∈ s, r.length ≤ b) → (∀ r ∈ L.foldl (fullStep x0) s, r.length ≤ b) ∧ (L.foldl (fullStep x0) s).length ≤ s.length + L.length := by
  intro L
  induction L with
  | nil => intro s _ hs; exact ⟨hs, by simp⟩
  | cons q L ih =>
    intro s hL hs
    rw [List.foldl_cons]
    have h1 := ih (fullStep x0 s q) (fun p hp => hL p (by simp [hp])) (fun r hr => by
      unfold fullStep at hr
      split at hr
      · rw [List.mem_append, List.mem_singleton] at hr
        rcases hr with hr | hr
        · exact hs r hr
        · subst hr; exact hL q (by simp)
      · exact hs r hr)
    have h2 := fullStep_mu x0 s q
    exact ⟨h1.1, by rw [List.length_cons]; omega⟩
theorem fullPatterns_both (a0 : Int) (l1 : List Int) (hl : l1.length ≤ 10000000) : ∃ r : List (List Int) × Bool, Ev (fun k => spec_FullPatterns.f k a0 l1) r ∧ Ev (fun k => impl_FullPatterns.f k a0 l1) r ∧ r.1.length + allLen r.1 ≤ 100000000 := by
  by_cases hB : ((decide (1 ≤ a0) && decide (a0 ≤ 60)) && lengthsB l1) = true
  · have hB2 := hB
    unfold lengthsB okR at hB2
    simp only [Bool.and_eq_true, decide_eq_true_eq, List.all_eq_true] at hB2
    obtain ⟨⟨h1, h6⟩, ⟨hn1, hn4⟩, hok, _⟩ := hB2
    have hls : ∀ x ∈ l1, 1 ≤ x ∧ x ≤ 60 := hok
    have hfb : fullB a0 l1 = true := by
      unfold fullB
      simp only [Bool.and_eq_true, decide_eq_true_eq, List.all_eq_true]
      exact ⟨⟨⟨⟨by omega, h6⟩, by omega⟩, by omega⟩, hls⟩
    obtain ⟨r, hr⟩ : ∃ r, (if rd l1 0 < 3 ∨ 10 * rd l1 0 < a0 then (([], false) : List (List Int) × Bool) else (fullV a0 l1, true)) = r := ⟨_, rfl⟩
    refine ⟨r, ⟨l1.length + 2, fun k hk => ?_⟩, ⟨l1.length + 1, fun k hk => ?_⟩, ?_⟩
    · show spec_FullPatterns.f k _ _ = _
      unfold spec_FullPatterns.f
      rw [rdAsked_eq _ l1 (by omega) k (by omega), Option.bind_some, if_pos hB, if_pos hfb, ← hr]
      split <;> rfl
    · show impl_FullPatterns.f k _ _ = _
      unfold impl_FullPatterns.f
      rw [areRod_eq _ l1 (by omega) k (by omega), Option.bind_some, if_pos hB, if_pos hfb, ← hr]
      split <;> rfl
    · rw [← hr]
      split
      · simp [allLen]
      · have hf := full_rows (rd l1 0) 4 (patV l1 [] a0) [] (fun q hq => by have := patV_len l1 [] a0 q hq; rw [List.length_nil] at this; omega) (fun r hr => by cases hr)
        have h1 := patV_le l1 [] a0 (fun x hx => (hls x hx).1) h6
        have h2 : 61 ^ l1.length ≤ 61 ^ 4 := Nat.pow_le_pow_right (by decide) (by omega)
        have h3 : 61 ^ 4 = 13845841 := by decide
        have h4 := allLen_leB 4 _ hf.1
        have h5 := hf.2
        rw [List.length_nil] at h5
        show (fullV a0 l1).length + allLen (fullV a0 l1) ≤ _
        unfold fullV
        omega
  · have hB' : ((decide (1 ≤ a0) && decide (a0 ≤ 60)) && lengthsB l1) = false := by simpa using hB
    refine ⟨([], false), ⟨l1.length + 2, fun k hk => ?_⟩, ⟨l1.length + 1, fun k hk => ?_⟩, by simp [allLen]⟩
    · show spec_FullPatterns.f k _ _ = _
      unfold spec_FullPatterns.f
      rw [rdAsked_eq _ l1 (by omega) k (by omega), Option.bind_some, hB', if_neg (by decide)]
    · show impl_FullPatterns.f k _ _ = _
      unfold impl_FullPatterns.f
      rw [areRod_eq _ l1 (by omega) k (by omega), Option.bind_some, hB', if_neg (by decide)]
end Go.Proofs.Ytfhaclkjiolmjaa.Q

namespace Go.Proofs.Ytfhaclkjiolmjaa.Q
open Go.RowKit Go.Shelf Go.Proofs.YtfhaclkjiolmjaaW.PrintWords Go.Proofs.YtfhaclkjiolmjaaW.PrintLast Go.Proofs.YtfhaclkjiolmjaaW.PrintMore
set_option linter.unusedVariables false
set_option linter.unusedSimpArgs false

set_option maxRecDepth 100000 in
set_option maxHeartbeats 8000000 in
/-- The law itself, walked. -/
theorem law_calls (a0 : Int) (A1 : Option Addr) (c1 : Nat) (l1 : List Int) (W : World) (hr1 : Kd.C kInt W A1 l1.length l1) (hc1 : l1.length ≤ c1) :
    Calls Try.prog 4 #[.int .i64 a0, .slice A1 l1.length c1] W fun e W' => e = .returned (.bool true) ∧ Below W.heap.size W W' := by
  by_cases hl1 : l1.length ≤ 1048576
  case neg =>
    have hlz : (1048576 : Int) < (l1.length : Int) := by omega
    clear hr1
    go_enter Try.func4, Try.ntmps4
    go_wp2
    go_ret
    exact ⟨rfl, Below.refl _ _⟩
  have hlz1 : ¬ (1048576 : Int) < (l1.length : Int) := by omega
  obtain ⟨⟨rs, rb⟩, hs, hi, hb⟩ := fullPatterns_both a0 l1 (by omega)
  simp only at hb
  obtain ⟨k1, hs⟩ := hs
  obtain ⟨k2, hi⟩ := hi
  have hs := hs k1 (Nat.le_refl _)
  have hi := hi k2 (Nat.le_refl _)
  simp only at hs hi
  have hto1 := fun W' (hb : Below W.heap.size W W') => laws_toIntS.calls (l1.length + 1) A1 c1 l1 l1 W' (Kd.C_below hr1 hb) hc1 (toIntS_eq l1 (by omega) _ (by omega))
  have hspec := fun (A1 : Option Addr) (c1 : Nat) (W' : World) (hC1 : Kd.C kInt W' A1 l1.length l1) (hc1 : l1.length ≤ c1) => spec_FullPatterns.calls k1 a0 A1 c1 l1 rs rb W' hC1 hc1 hs
  have himpl := fun (A1 : Option Addr) (c1 : Nat) (W' : World) (hC1 : Kd.C kInt W' A1 l1.length l1) (hc1 : l1.length ≤ c1) => impl_FullPatterns.calls k2 a0 A1 c1 l1 rs rb W' hC1 hc1 hi
  have heq1 := fun (A : Option Addr) (c : Nat) (A' : Option Addr) (c' : Nat) (W' : World) (hC : Kd.C kInt W' A l1.length l1) (hc : l1.length ≤ c) (hC' : Kd.C kInt W' A' l1.length l1) (hc' : l1.length ≤ c') => laws_eqIntS.calls (l1.length + 1) A c l1 A' c' l1 true W' hC hc hC' hc' (eqIntS_self l1 (by omega) _ (by omega))
  obtain ⟨q1, hq1⟩ : ∃ q : Int, (1 : Int) + (l1.length : Int) = q := ⟨_, rfl⟩
  have hmk1 := fun (P : Nat → Prop) (v : Value) (w0 W' : World) (hB : Below w0.heap.size w0 W') (hR : Kd.R kInt 3 W' w0.heap.size P v l1) => laws_markIntS.calls (l1.length + 1) P v l1 1 _ _ w0 W' hB hR (markIntS_eq l1 1 (by omega) (by omega) _ (by omega))
  rw [hq1] at hmk1
  have hq0 : ¬ q1 < 0 := by omega
  have heqs := fun (A : Option Addr) (c : Nat) (A' : Option Addr) (c' : Nat) (W' : World) (hC : Kd.C kRow W' A rs.length rs) (hc : rs.length ≤ c) (hC' : Kd.C kRow W' A' rs.length rs) (hc' : rs.length ≤ c') => laws_eqIntSS.calls (rs.length + allLen rs + 2) A c rs A' c' rs true W' hC hc hC' hc' (eqSS_self rs (by omega) _ (Nat.le_refl _))
  have hheld := fun (A : Option Addr) (c : Nat) (W' : World) (hC : Kd.C kRow W' A (marksS 1 rs).length (marksS 1 rs)) (hc : (marksS 1 rs).length ≤ c) => laws_heldIntSS.calls (rs.length + allLen rs + 2) A c (marksS 1 rs) 1 _ W' hC hc (heldSS_eq rs (by omega) _ (Nat.le_refl _))
  simp only [marksS_length] at hheld
  obtain ⟨m, hme⟩ : ∃ m : Int, (1 : Int) + ((allLen rs : Nat) : Int) = m := ⟨_, rfl⟩
  have hm0 : ¬ m < 0 := by omega
  have hrb : (rb != rb) = false := by cases rb <;> rfl
  have hmss := fun (w0 W' : World) (P0 : Nat → Prop) (v : Value) (hB : Below w0.heap.size w0 W') (hS : Kd.S kRow 22 W' w0.heap.size P0 v rs) => markSS_calls w0 W' P0 v rs hB hS (by omega)
  rw [hme] at hheld hmss
  have HTO1 := Aside0.mk hto1
  have HEQ1 := Aside0.mk heq1
  have HMK1 := Aside0.mk hmk1
  have HSP := Aside0.mk hspec
  have HIM := Aside0.mk himpl
  have HES := Aside0.mk heqs
  have HHE := Aside0.mk hheld
  have HMS := Aside0.mk hmss
  clear hspec himpl heqs hheld hmss hs hi hb hme hto1 heq1 hmk1 hq1 hr1 hl1
  go_enter Try.func4, Try.ntmps4
  go_wp2_with (go_at_call 11; refine (HTO1.out W (Below.refl W.heap.size W)).mono ?_; rintro e u1 ⟨v_u1, rfl, hR_, hb_⟩; obtain ⟨A_u1, c_u1, hv_, hc_u1, hC_⟩ := Kd.R_reads hR_; subst hv_; have B_u1 := Aside0.mk (Below.trans (Below.refl W.heap.size W) (hb_.mono (Below.size (Below.refl W.heap.size W)))); have D_u1 := Aside0.mk hb_; have C_u1 := Aside0.mk hC_; clear hR_ hb_ hC_)
  go_wp2_with (go_at_call 16; refine (HSP.out A_u1 c_u1 u1 C_u1.out hc_u1).mono ?_; rintro e w3 ⟨v3, rfl, hS3, hb3⟩; obtain ⟨A3, c3, hv3, hc3, _⟩ := Kd.S_reads hS3; subst hv3; have B3 := Aside0.mk (Below.trans B_u1.out (hb3.mono (Below.size B_u1.out))); have S3 := Aside0.mk hS3; clear hS3 hb3)
  have X39 : Aside0 (∀ W', Below w3.heap.size w3 W' → Kd.C kRow W' A3 rs.length rs) := ⟨fun W' hb => (Kd.S_reads' (Kd.S_below S3.out hb)).2.2⟩
  go_wp2_with (go_at_call 11; refine (HTO1.out w3 (B3.out.trans (Below.mono (Below.refl w3.heap.size w3) B3.out.size))).mono ?_; rintro e u2 ⟨v_u2, rfl, hR_, hb_⟩; obtain ⟨A_u2, c_u2, hv_, hc_u2, hC_⟩ := Kd.R_reads hR_; subst hv_; have E_u2 := Aside0.mk (Below.trans (Below.refl w3.heap.size w3) (hb_.mono (Below.size (Below.refl w3.heap.size w3)))); have D_u2 := Aside0.mk hb_; have C_u2 := Aside0.mk hC_; have R_u2 := Aside0.mk hR_; clear hR_ hb_ hC_)
  go_wp2_with (go_at_call 17; refine (HIM.out A_u2 c_u2 u2 C_u2.out hc_u2).mono ?_; rintro e w5 ⟨v5, rfl, hS5, hb5⟩; obtain ⟨A5, c5, hv5, hc5, _⟩ := Kd.S_reads hS5; subst hv5; have E5 := Aside0.mk hb5; have F5 := Aside0.mk (Below.trans E_u2.out (hb5.mono (Below.size E_u2.out))); have S5 := Aside0.mk hS5; clear hS5 hb5)
  go_wp2_with (go_at_call 18; refine (HES.out A5 c5 A3 c3 w5 (Kd.S_reads' S5.out).2.2 hc5 (X39.out w5 F5.out) hc3).mono ?_; rintro e w6 ⟨rfl, hd⟩; have G_w6 := Aside0.mk hd.below; clear hd)
  go_wp2_with (go_at_call 11; refine (HTO1.out w6 (B3.out.trans (Below.mono (F5.out.trans (Below.mono G_w6.out F5.out.size)) B3.out.size))).mono ?_; rintro e u3 ⟨v_u3, rfl, hR_, hb_⟩; obtain ⟨A_u3, c_u3, hv_, hc_u3, hC_⟩ := Kd.R_reads hR_; subst hv_; have G_u3 := Aside0.mk (Below.trans G_w6.out (hb_.mono (Below.size G_w6.out))); have C_u3 := Aside0.mk hC_; clear hR_ hb_ hC_)
  go_wp2_with (go_at_call 13; refine (HEQ1.out A_u2 c_u2 A_u3 c_u3 u3 (Kd.C_below C_u2.out (E5.out.trans (Below.mono G_u3.out E5.out.size))) hc_u2 C_u3.out hc_u3).mono ?_; rintro e u4 ⟨rfl, hd⟩; have G_u4 := Aside0.mk (Below.trans G_u3.out (hd.below.mono (Below.size G_u3.out))); clear hd)
  have S8 : Aside0 (Kd.S kRow 22 u4 u2.heap.size (fun k => u2.heap.size ≤ k) (.slice A5 rs.length c5) rs) := ⟨Kd.S_below (Kd.S_mono (Kd.S_bound S5.out) (fun k hk => hk.2.1)) G_u4.out⟩
  have R8_1 : Aside0 (Kd.R kInt 3 u4 w3.heap.size (fun k => w3.heap.size ≤ k ∧ k < u2.heap.size) (.slice A_u2 l1.length c_u2) l1) := ⟨Kd.R_below (Kd.R_mono (Kd.R_bound R_u2.out) (fun k hk => (⟨hk.2.1, hk.2.2.1⟩ : w3.heap.size ≤ k ∧ k < u2.heap.size))) (E5.out.trans (Below.mono G_u4.out E5.out.size))⟩
  have B38 : Aside0 (Below w3.heap.size w3 u4) := ⟨(F5.out.trans (Below.mono G_u4.out F5.out.size))⟩
  go_wp2_with (go_at_call 14; refine (HMK1.out _ _ w3 u4 B38.out (Kd.R_lower R8_1.out (Nat.le_refl _))).mono ?_; rintro e u5 ⟨rfl, _, hb9, hk9⟩; have B_u5 := Aside0.mk hb9; have S_u5 := Aside0.mk (Kd.S_kept S8.out hk9 (fun k h1 h2 => Nat.lt_irrefl _ (Nat.lt_of_lt_of_le h2.2 (Nat.le_trans (Nat.le_refl _) h1)))); clear hb9 hk9)
  go_wp2_with (go_at_call 18; refine (HES.out A5 c5 A3 c3 u5 (Kd.S_reads' S_u5.out).2.2 hc5 (X39.out u5 B_u5.out) hc3).mono ?_; rintro e u6 ⟨rfl, hd⟩; have E10 := Aside0.mk hd.below; clear hd)
  have B310 : Aside0 (Below w3.heap.size w3 u6) := ⟨Below.trans B_u5.out (E10.out.mono (Below.size B_u5.out))⟩
  have S10 : Aside0 (Kd.S kRow 22 u6 w3.heap.size (fun k => u2.heap.size ≤ k) (.slice A5 rs.length c5) rs) := ⟨Kd.S_lower (Kd.S_below S_u5.out E10.out) (Below.size E_u2.out)⟩
  go_wp2_with (go_at_call 19; refine (HMS.out w3 u6 _ _ B310.out S10.out).mono ?_; rintro e w11 ⟨rfl, hS11, hb11, _⟩; have B311 := Aside0.mk hb11; have S11 := Aside0.mk hS11; clear hS11 hb11)
  have Y11 : Aside0 (∀ W', Below w11.heap.size w11 W' → Kd.C kRow W' A5 rs.length (marksS 1 rs)) := ⟨fun W' hb => by have h := (Kd.S_reads' (Kd.S_below S11.out hb)).2.2; rwa [marksS_length] at h⟩
  go_wp2_with (go_at_call 20; refine (HHE.out A5 c5 w11 (Y11.out w11 (Below.refl _ _)) hc5).mono ?_; rintro e w12 ⟨rfl, hd⟩; have H_w12 := Aside0.mk hd.below; clear hd)
  go_wp2_with (go_at_call 11; refine (HTO1.out w12 (B3.out.trans (Below.mono (B311.out.trans (Below.mono H_w12.out B311.out.size)) B3.out.size))).mono ?_; rintro e u7 ⟨v_u7, rfl, hR_, hb_⟩; obtain ⟨A_u7, c_u7, hv_, hc_u7, hC_⟩ := Kd.R_reads hR_; subst hv_; have H_u7 := Aside0.mk (Below.trans H_w12.out (hb_.mono (Below.size H_w12.out))); have D_u7 := Aside0.mk hb_; have C_u7 := Aside0.mk hC_; clear hR_ hb_ hC_)
  go_wp2_with (go_at_call 17; refine (HIM.out A_u7 c_u7 u7 C_u7.out hc_u7).mono ?_; rintro e w14 ⟨v14, rfl, hS14, hb14⟩; obtain ⟨A14, c14, hv14, hc14, hC14⟩ := Kd.S_reads hS14; subst hv14; have H_w14 := Aside0.mk (Below.trans H_u7.out (hb14.mono (Below.size H_u7.out))); have C14 := Aside0.mk hC14; clear hS14 hb14 hC14)
  go_wp2_with (go_at_call 18; refine (HES.out A14 c14 A3 c3 w14 C14.out hc14 (X39.out w14 (B311.out.trans (Below.mono H_w14.out B311.out.size))) hc3).mono ?_; rintro e w15 ⟨rfl, hd⟩; have H_w15 := Aside0.mk (H_w14.out.trans (hd.below.mono H_w14.out.size)); clear hd)
  go_wp2_with (go_at_call 20; refine (HHE.out A5 c5 w15 (Y11.out w15 H_w15.out) hc5).mono ?_; rintro e w16 ⟨rfl, hd⟩; have H_w16 := Aside0.mk (H_w15.out.trans (hd.below.mono H_w15.out.size)); clear hd)
  go_ret
  exact ⟨rfl, (B3.out.trans (Below.mono (B311.out.trans (Below.mono H_w16.out B311.out.size)) B3.out.size))⟩
end Go.Proofs.Ytfhaclkjiolmjaa.Q

namespace Go.Proofs.Ytfhaclkjiolmjaa.HO
open Go.ChangeShapes Go.WideShapes Go.Deep Go.RowKit Go.Proofs.YtfhaclkjiolmjaaW.PrintWords
set_option linter.unusedVariables false
section
variable {H : Type} {enc : TypeId × Value → H} {P : Program} {w : World} {base : Nat} {spare : Nat → Bool} {held : Bool}

/-- A slice of structs of n whole numbers each, opened: F i j is field j of element i. -/
theorem open_ints_struct {t e : TypeId} {fs : Array Field} {fuel : Nat} {cs : List Value} {x : DataW H × List MemPlace} (ht : P.underlying t = some (.slice e)) (he : P.underlying e = some (.struct fs))
    (hone : oneCellFields P fs = true) (hC : P.cellsOf e = fs.size) (hk : ∀ (j : Nat) (f : Field), fs[j]? = some f → P.underlying f.type = some (.int .i64)) (h : DataW.trod enc P w base spare held fuel t cs = some x) :
    (cs = [.slice none 0 0] ∧ x = (.nil, [])) ∨
    ∃ (a : Addr) (len cap : Nat) (F : Nat → Nat → Int) (el sp : List (DataW H)) (ps : List MemPlace), cs = [.slice (some a) len cap] ∧ len ≤ cap ∧ cap ≤ maxLen ∧ x = (.slice el sp, ps) ∧ el.length = len ∧
      ∀ i, i < len → ∀ j, j < fs.size → w.cell? (a.add (i * fs.size + j)) = some (.int .i64 (F i j)) ∧ (Lit.int .i64 (F i j)).wf = true := by
  rcases open_slice ht h with h0 | ⟨a, len, cap, m, n, D, Pl, hcs, hb, hl, hm, hmm, hx, hi⟩
  · exact .inl h0
  · have hlm : len ≤ m := by rw [hmm]; split <;> omega
    have key : ∀ i, i < len → ∃ G : Nat → Int, ∀ j, j < fs.size → w.cell? (a.add (i * fs.size + j)) = some (.int .i64 (G j)) ∧ (Lit.int .i64 (G j)).wf = true := fun i hil => by
      obtain ⟨cs', hc, ht'⟩ := hi i (by omega)
      rw [hC] at hc
      obtain ⟨ys, n', hn', hy, hlen, hyl, hf⟩ := DataW.trod_struct he ht'
      obtain ⟨_, hcl, hat⟩ := World.cells?_some hc
      refine choose_lt (α := Int) (p := fun j v => w.cell? (a.add (i * fs.size + j)) = some (.int .i64 v) ∧ (Lit.int .i64 v).wf = true) (fun j hj => ?_)
      have hfj : fs[j]? = some fs[j] := Array.getElem?_eq_getElem hj
      obtain ⟨ho, hk1⟩ := hone_of hone j _ hfj
      have hcell := hat j hj
      have hv : cs'[j]? = some (cs'[j]'(by omega)) := List.getElem?_eq_getElem (by omega)
      have h1 := hf j _ hfj
      rw [ho, hk1] at h1
      have hone' : (cs'.drop j).take 1 = [cs'[j]'(by omega)] := by
        rw [List.drop_eq_getElem_cons (by omega)]
        rfl
      rw [hone'] at h1
      have hys : ys[j]? = some (ys[j]'(by omega)) := List.getElem?_eq_getElem (by omega)
      obtain ⟨v, e0, _, wv⟩ := DataW.trod_int (hk j _ hfj) (h1.trans hys)
      refine ⟨v, ?_, wv⟩
      rw [← Go.Deep.add_add, hcell, hv]
      simp only [List.cons.injEq, and_true] at e0
      rw [e0]
    obtain ⟨F, hF⟩ := choose_lt (α := Nat → Int) (p := fun i G => ∀ j, j < fs.size → w.cell? (a.add (i * fs.size + j)) = some (.int .i64 (G j)) ∧ (Lit.int .i64 (G j)).wf = true) key
    exact .inr ⟨a, len, cap, F, _, _, _, hcs, hl, hm, hx, by simp, hF⟩

/-- The same of an argument: the numbers, and how many at most. -/
theorem open_structs {t e : TypeId} {fs : Array Field} {a : Option Addr} {len cap : Nat} {d : DataW H} {ps : List MemPlace} {ts : List TypeId} {ds : List (DataW H)} {j : Nat}
    (hsz : (DataW.weightsEach P ts ds).all (· ≤ reachBytes) = true) (htj : ts[j]? = some t) (hdj : ds[j]? = some d) (ht : P.underlying t = some (.slice e)) (he : P.underlying e = some (.struct fs))
    (hone : oneCellFields P fs = true) (hC : P.cellsOf e = fs.size) (hk : ∀ (j : Nat) (f : Field), fs[j]? = some f → P.underlying f.type = some (.int .i64)) {B : Nat} (hB : P.bytesOf e = B)
    (h : DataW.Trod enc P w base spare held t (.slice a len cap) d ps) :
    ∃ F : Nat → Nat → Int, len ≤ cap ∧ len ≤ maxLen ∧ len * B ≤ 140737488351232 ∧ (0 < len → ∃ ad, a = some ad ∧ ∀ i, i < len → ∀ j, j < fs.size → w.cell? (ad.add (i * fs.size + j)) = some (.int .i64 (F i j))) ∧ ∀ i, i < len → ∀ j, j < fs.size → (Lit.int .i64 (F i j)).wf = true := by
  obtain ⟨fuel, hf⟩ := h
  rcases open_ints_struct ht he hone hC hk hf with ⟨hcs, _⟩ | ⟨x, l, c, F, el, sp, ps', hcs, hl, hm, hx, hel, hF⟩
  · simp [Value.cells] at hcs
    obtain ⟨rfl, rfl, rfl⟩ := hcs
    exact ⟨fun _ _ => 0, by omega, by omega, by omega, fun h => absurd h (by omega), fun i hi => absurd hi (by omega)⟩
  · simp [Value.cells] at hcs
    obtain ⟨rfl, rfl, rfl⟩ := hcs
    obtain ⟨hx, _⟩ := Prod.mk.inj hx
    subst hx
    have z := sized_slice hsz htj hdj ht
    rw [hB, hel] at z
    refine ⟨F, hl, by omega, ?_, fun _ => ⟨x, rfl, fun i hi j hj => (hF i hi j hj).1⟩, fun i hi j hj => (hF i hi j hj).2⟩
    have : reachBytes = 140737488351232 := by decide
    rw [this] at z
    exact Nat.le_trans (Nat.mul_le_mul_right _ (by omega)) z

/-- A struct of two whole numbers, by value. -/
theorem open_pair {r : Reach} {b0 : Nat} {t : TypeId} {f0 f1 : Field} {v : Value} {d : DataW H} {p : List MemPlace} (hs : P.underlying t = some (.struct #[f0, f1])) (hone : oneCellFields P #[f0, f1] = true) (hC : P.cellsOf t = 2)
    (h0 : P.underlying f0.type = some (.int .i64)) (h1 : P.underlying f1.type = some (.int .i64)) (hv : Value.okWide P w r b0 t v) (h : DataW.Trod enc P w base spare held t v d p) :
    ∃ x y : Int, v = .agg #[.int .i64 x, .int .i64 y] ∧ p = [] ∧ (Lit.int .i64 x).wf = true ∧ (Lit.int .i64 y).wf = true := by
  obtain ⟨v0, v1, y0, y1, n, rfl, rfl, rfl, g0, g1⟩ := Go.Joins.open_agg2 hs hone hC hv h
  obtain ⟨x, e0, rfl, w0⟩ := DataW.trod_int h0 g0
  obtain ⟨y, e1, rfl, w1⟩ := DataW.trod_int h1 g1
  simp only [List.cons.injEq, and_true] at e0 e1
  subst e0 e1
  exact ⟨x, y, rfl, rfl, w0, w1⟩
end
end Go.Proofs.Ytfhaclkjiolmjaa.HO

namespace Go.Proofs.Ytfhaclkjiolmjaa.fnExactFullPatterns
open Go.ChangeShapes Go.WideShapes Go.ChangeAt Go.RowKit Go.Proofs.YtfhaclkjiolmjaaW Go.Proofs.YtfhaclkjiolmjaaW.PrintWords
open Go.ChangeMaps (open_string shut_string)
set_option linter.unusedVariables false
theorem own : ownKnob Try.prog.godebug = none := by kernel_rfl
theorem laidOut : laidOutB Try.prog = true := by kernel_rfl
def IsRow (k : IntKind) (w : World) (a : Option Addr) (len cap : Nat) (zs : List Int) : Prop :=
  (a = none ∧ len = 0 ∧ cap = 0 ∧ zs = []) ∨
  ∃ x, a = some x ∧ len ≤ cap ∧ cap ≤ maxLen ∧ zs.length = cap ∧ (∀ i, i < zs.length → w.cell? (x.add i) = some (.int k (zs.getD i 0))) ∧ ∀ n ∈ zs, (Lit.int k n).wf = true
set_option maxRecDepth 100000 in
theorem lifted (os : Os) (started : os.Started) (H : Type) (enc : TypeId × Value → H) :
    ReturnsInHanded {} Try.checked os 4 .any (Rows.fnExactFullPatternsSpec.pre6 enc Try.prog Try.f4 Rows.fnExactFullPatternsRow.domain false) (Rows.fnExactFullPatternsSpec.post enc Try.prog Try.f4 false true false false) := by
  refine returnsInHanded_of_change_sized (C := Try.checked) own started (by kernel_rfl) Try.func4
    (ChangeSpec.witness6 (enc := enc) (C := Try.checked) false ⟨#[], #[.int .i64 0, .slice none 0 0], []⟩ 8 (by kernel_rfl) (by kernel_rfl) (by kernel_rfl) (by kernel_rfl)) ?_
  intro W base args ds gs before hval0 hW hcnd hsz0 _
  have hsz : (DataW.weightsEach Try.prog (Try.f4.params.toList ++ Rows.fnExactFullPatternsSpec.plain.varTypes Try.prog) (ds ++ gs)).all (· ≤ reachBytes) = true := hsz0
  have hval : ∀ (j : Nat) t v, Try.f4.params[j]? = some t → args[j]? = some v → Value.okWide Try.prog W .any base t v := hval0
  have hW' := hW
  obtain ⟨p, q, hA0, hV, rfl, hfz, hnd⟩ := hW
  have hA : DataW.TrodAll enc Try.prog W 0 (fun _ => true) true Try.f4.params.toList args.toList ds p := hA0
  rw [Try.params4] at hA hval hsz
  obtain ⟨v0, vs0, d0, ds0, p0, q0, hargs, rfl, rfl, h0, r0⟩ := trodAll_cons hA
  obtain ⟨v1, vs1, d1, ds1, p1, q1, rfl, rfl, rfl, h1, r1⟩ := trodAll_cons r0
  obtain ⟨rfl, rfl, rfl⟩ := trodAll_nil r1
  obtain rfl : args = #[v0, v1] := by cases args; simp_all
  obtain ⟨rfl, rfl⟩ := trodVars_none hV
  obtain ⟨a0, rfl, rfl, rfl, w0⟩ := open_int Try.underlying3 (hval 0 3 v0 rfl rfl) h0
  obtain ⟨a1, len1, cap1, rfl⟩ := okWide_slice Try.underlying22 (hval 1 22 v1 rfl rfl)
  have k1 := h1
  have lt1 : ∀ x ∈ p1, x.block < W.heap.size := by obtain ⟨m, hm⟩ := k1; exact DataW.trod_lt m _ _ _ hm
  obtain ⟨z1, w1⟩ : ∃ zs, IsRow .i64 W a1 len1 cap1 zs := by
    obtain ⟨fuel, hf⟩ := h1
    rcases open_ints Try.underlying22 Try.underlying3 (by kernel_rfl) hf with ⟨hcs, _⟩ | ⟨x, l, c, zs, hcs, _, hl, hm, hz, _, hcell, hwz⟩
    · simp [Value.cells] at hcs
      obtain ⟨rfl, rfl, rfl⟩ := hcs
      exact ⟨[], .inl ⟨rfl, rfl, rfl, rfl⟩⟩
    · simp [Value.cells] at hcs
      obtain ⟨rfl, rfl, rfl⟩ := hcs
      exact ⟨zs, .inr ⟨_, rfl, hl, hm, by simpa using hz, hcell, hwz⟩⟩
  have y1 : len1 * 8 ≤ 140737488351232 := PrintWords.sized_ints hsz (j := 1) (t := 22) rfl rfl Try.underlying22 Try.underlying3 (by kernel_rfl) (by kernel_rfl) h1
  clear hA0 hval0 hsz0 hsz
  obtain ⟨l1, rfl, hr1, hm1, hw1, hc1⟩ := ReadsInt.ofRowC w1
  refine (Q.law_calls a0 _ _ l1 W (Kd.C_of_reads (d := (0 : Int)) (h1 := fun _ => rfl) hr1) hc1 ).mono fun e W' ⟨he, bel⟩ => ?_
  subst he
  exact ⟨_, rfl, _, _, _, [], _, [], hW', trodAll_mk1 (shut_bool Try.underlying4 _), (trodAll_cons_mk (shut_int Try.underlying3 w0) (trodAll_cons_mk (Below.trod laidOut (by kernel_rfl) (of_decide_eq_true (by kernel_rfl)) k1 bel lt1) trodAll_mk0)), rfl, bel.frame _, fun h => by cases h⟩
theorem over : Rows.fnExactFullPatternsRow.holds Try.pinned (OpenSpec.ofChange Rows.fnExactFullPatternsSpec) :=
  OpenClaim.holds_of_wide 4 Try.f4 rfl rfl rfl rfl rfl rfl rfl ⟨rfl, rfl, rfl, rfl, rfl⟩ rfl rfl rfl rfl rfl (by kernel_rfl) Try.func4 (by kernel_rfl)
    (of_decide_eq_true (by kernel_rfl)) (by unfold Func.isWrapper; first | (rw [if_pos (by decide +kernel)]; kernel_rfl) | (rw [if_neg (by decide +kernel)]; exact ⟨rfl, rfl⟩))
    (fun os started H enc _ => lifted os started H enc)
theorem proved : Rows.FnExactFullPatternsSaid := over
#print axioms proved
end Go.Proofs.Ytfhaclkjiolmjaa.fnExactFullPatterns
namespace Go.Proofs.Ytfhaclkjiolmjaa
/-- The row, under a short name, for the claim. -/
theorem fnExactFullPatterns_holds : Rows.FnExactFullPatternsSaid := fnExactFullPatterns.proved
end Go.Proofs.Ytfhaclkjiolmjaa
