/-
  PROVED: for all arguments, the program's SafeOrder returns what the reference's returns; the arguments read behind the call as before.
  CONDITIONS: none beyond the statement's own.
-/
import Derived.Test.YtbmefldckdaopaaZFnExactSafeOrder1
import Derived.Test.YtbmefldckdaopaaZFnExactSafeOrder2
import Derived.Test.YtbmefldckdaopaaZFnExactSafeOrder4
import Derived.Test.YtbmefldckdaopaaZFnExactSafeOrder3
import Derived.Deep.Slices
import Derived.Deep.Fields
import Derived.ChangeSame
import Derived.SizedLaws
import Derived.ChangeSlices
import Derived.Lib.SmallJoins
import Derived.Test.YtbmefldckdaopaaWWords
import Derived.Test.YtbmefldckdaopaaRows
import Derived.WalkKit
import Derived.ProofKit
import Derived.OpenShut
import Derived.ShutString
import Derived.ChangeOld
import Derived.Below
import Derived.Test.YtbmefldckdaopaaWSized
namespace Go.Proofs.Ytbmefldckdaopaa.Q
open Go.RowKit Go.Proofs.YtbmefldckdaopaaW.PrintWords Go.Proofs.YtbmefldckdaopaaW.PrintLast Go.Proofs.YtbmefldckdaopaaW.PrintMore
attribute [local go_sem] max2_int min2_int max_two min_two max_three min_three max_four min_four   -- for this text's walks alone
set_option linter.unusedVariables false
set_option linter.unusedSimpArgs false

/-! ### spec_CountSafeOrders: function 27 -/
def spec_CountSafeOrders.f (k : Nat) (l0 : List (S49)) : Option (Int × Bool) := (spec_scGood.f k l0).bind fun t303 => (if t303 = true then ((spec_scOrders.f k l0).bind fun t304 => (some ((t304.length : Int), true))) else (some (0, false)))
theorem spec_CountSafeOrders.mono : ∀ a0 k, LeO (spec_CountSafeOrders.f k a0) (spec_CountSafeOrders.f (k + 1) a0) := by
  intro a0 k
  unfold spec_CountSafeOrders.f
  repeat' first
      | (with_reducible exact spec_scGood.mono _ _)
      | (with_reducible exact spec_scOrders.mono _ _)
      | (with_reducible exact LeO.refl _)
      | (with_reducible exact LeO.none _)
      | (with_reducible refine LeO.ite ?_ ?_)
      | (with_reducible refine LeO.bind ?_ (fun _ => ?_))
      | exact spec_scGood.mono _ _
      | exact spec_scOrders.mono _ _
      | exact LeO.none _
      | refine LeO.ite ?_ ?_
      | refine LeO.bind ?_ (fun _ => ?_)
set_option maxHeartbeats 8000000 in
set_option maxRecDepth 100000 in
theorem spec_CountSafeOrders.calls (k : Nat) (A0 : Option Addr) (c0 : Nat) (l0 : List (S49)) (r1 : Int) (r2 : Bool) (w : World) (hr0 : Kd.C k49 w A0 l0.length l0) (hc0 : l0.length ≤ c0) (h : spec_CountSafeOrders.f k l0 = some (r1, r2)) :
    Calls Try.prog 27 #[.slice A0 l0.length c0] w fun e w' => e = .returned (.tuple #[.int .i64 r1, .bool r2]) ∧ Below w.heap.size w w' := by
  have HR0 := Aside0.mk hr0
  have HC0 := Aside0.mk hc0
  clear hr0 hc0
  have HB := Aside0.mk (Below.refl w.heap.size w)
  have H : ((spec_scGood.f k l0).bind fun t303 => (if t303 = true then ((spec_scOrders.f k l0).bind fun t304 => (some ((t304.length : Int), true))) else (some (0, false)))) = some (r1, r2) := h
  clear h
  replace H := Option.bind_eq_some_iff.mp H
  obtain ⟨t303, A20, H⟩ := H
  replace H : (if t303 = true then ((spec_scOrders.f k l0).bind fun t304 => (some ((t304.length : Int), true))) else (some (0, false))) = some (r1, r2) := H
  have A2 := Aside0.mk A20
  clear A20
  by_cases c3 : t303 = true
  · subst c3
    have H1 : ((spec_scOrders.f k l0).bind fun t304 => (some ((t304.length : Int), true))) = some (r1, r2) := by rw [if_pos rfl] at H; exact H
    clear H
    have H := H1
    clear H1
    replace H := Option.bind_eq_some_iff.mp H
    obtain ⟨t304, A40, H⟩ := H
    replace H : (some ((t304.length : Int), true)) = some (r1, r2) := H
    have A4 := Aside0.mk A40
    clear A40
    simp only [Option.some.injEq, Prod.mk.injEq] at H
    obtain ⟨rfl, rfl⟩ := H
    go_enter Try.func27, Try.ntmps27
    go_wp2_with (first | ((with_reducible refine gate_callee (f := 40) rfl ?_); refine goesL_ (some 5) rfl rfl Try.func40 (by kernel_rfl) rfl #[.slice A0 l0.length c0] rfl (by (try simp only [List.map_toArray, List.map_cons, List.map_nil]); first | done | rfl | (simp only [List.length_drop, List.length_take]; rfl)) ?_; (with_reducible refine (spec_scGood.calls k _ _ l0 true _ ?side1 ?side2 A2.out).mono ?_); (case side1 => repeat (first | exact HR0.out | (with_reducible refine Kd.C_alloc ?_ _) | (with_reducible refine Kd.C_drewN ?_ _) | (with_reducible refine Kd.C_drew ?_))); (case side2 => exact HC0.out); rintro e w5 ⟨rfl, hb⟩; refine ⟨_, rfl, ?_⟩; have n0_ := Aside0.mk (below_step (by repeat (first | (with_reducible first | exact HB.out | apply below_alloc | apply pw_below_drewN | apply below_drew1) | exact HB.out)) hb); clear HB; have HB := n0_; clear n0_; (try clear hb); (try clear hb2); (try clear hk); (try clear hi)) | ((with_reducible refine gate_callee (f := 50) rfl ?_); refine goesL_ (some 8) rfl rfl Try.func50 (by kernel_rfl) rfl #[.slice A0 l0.length c0] rfl (by (try simp only [List.map_toArray, List.map_cons, List.map_nil]); first | done | rfl | (simp only [List.length_drop, List.length_take]; rfl)) ?_; (with_reducible refine (spec_scOrders.calls k _ _ l0 t304 _ ?side1 ?side2 A4.out).mono ?_); (case side1 => repeat (first | exact (Kd.C_below HR0.out HB.out) | (with_reducible refine Kd.C_alloc ?_ _) | (with_reducible refine Kd.C_drewN ?_ _) | (with_reducible refine Kd.C_drew ?_))); (case side2 => exact HC0.out); rintro e w6 ⟨v305, rfl, ho0, hb⟩; refine ⟨_, rfl, ?_⟩; have n0_ := Aside0.mk (Kd.N_lower (Kd.N_mono (ok' := fun k_ => True) ho0 (fun k_ hk_ => trivial)) (below_size (by repeat (first | (with_reducible first | exact HB.out | apply below_alloc | apply pw_below_drewN | apply below_drew1) | exact HB.out)))); have n1_ := Aside0.mk (below_step (by repeat (first | (with_reducible first | exact HB.out | apply below_alloc | apply pw_below_drewN | apply below_drew1) | exact HB.out)) hb); clear HB; have HO306 := n0_; have HB := n1_; clear n0_ n1_; (try clear hb); (try clear hb2); (try clear hk); (try clear hi); (try clear ho0); obtain ⟨Ao7, co7, eo7⟩ := Kd.N_slice HO306.out; subst eo7))
    go_ret2
    exact ⟨by first | rfl | (simp [errW_none, errW_some] <;> rfl) | (simp [*, errW_none, errW_some] <;> rfl), by repeat (first | (with_reducible first | exact HB.out | apply below_alloc | apply pw_below_drewN | apply below_drew1) | exact HB.out)⟩
  · replace c3 := Bool.eq_false_iff.mpr c3
    subst c3
    have H1 : (some (0, false)) = some (r1, r2) := by rw [if_neg (show ¬ (false = true) by decide)] at H; exact H
    clear H
    have H := H1
    clear H1
    simp only [Option.some.injEq, Prod.mk.injEq] at H
    obtain ⟨rfl, rfl⟩ := H
    go_enter Try.func27, Try.ntmps27
    go_wp2_with (first | ((with_reducible refine gate_callee (f := 40) rfl ?_); refine goesL_ (some 5) rfl rfl Try.func40 (by kernel_rfl) rfl #[.slice A0 l0.length c0] rfl (by (try simp only [List.map_toArray, List.map_cons, List.map_nil]); first | done | rfl | (simp only [List.length_drop, List.length_take]; rfl)) ?_; (with_reducible refine (spec_scGood.calls k _ _ l0 false _ ?side1 ?side2 A2.out).mono ?_); (case side1 => repeat (first | exact HR0.out | (with_reducible refine Kd.C_alloc ?_ _) | (with_reducible refine Kd.C_drewN ?_ _) | (with_reducible refine Kd.C_drew ?_))); (case side2 => exact HC0.out); rintro e w8 ⟨rfl, hb⟩; refine ⟨_, rfl, ?_⟩; have n0_ := Aside0.mk (below_step (by repeat (first | (with_reducible first | exact HB.out | apply below_alloc | apply pw_below_drewN | apply below_drew1) | exact HB.out)) hb); clear HB; have HB := n0_; clear n0_; (try clear hb); (try clear hb2); (try clear hk); (try clear hi)))
    go_ret2
    exact ⟨by first | rfl | (simp [errW_none, errW_some] <;> rfl) | (simp [*, errW_none, errW_some] <;> rfl), by repeat (first | (with_reducible first | exact HB.out | apply below_alloc | apply pw_below_drewN | apply below_drew1) | exact HB.out)⟩

end Go.Proofs.Ytbmefldckdaopaa.Q

namespace Go.Proofs.Ytbmefldckdaopaa.Q
open Go.RowKit Go.Proofs.YtbmefldckdaopaaW.PrintWords Go.Proofs.YtbmefldckdaopaaW.PrintLast Go.Proofs.YtbmefldckdaopaaW.PrintMore
attribute [local go_sem] max2_int min2_int max_two min_two max_three min_three max_four min_four   -- for this text's walks alone
set_option linter.unusedVariables false
set_option linter.unusedSimpArgs false

/-! ### impl_CountSafeOrders: function 28 -/
def impl_CountSafeOrders.f (l0 : List (S49)) : Option (Int × Bool) := (impl_CountSafe.f l0 (l0.length : Int)).bind fun bt307 => (some (bt307.1, bt307.2))
set_option maxHeartbeats 8000000 in
set_option maxRecDepth 100000 in
theorem impl_CountSafeOrders.calls (A0 : Option Addr) (c0 : Nat) (l0 : List (S49)) (r1 : Int) (r2 : Bool) (w : World) (hr0 : Kd.C k49 w A0 l0.length l0) (hc0 : l0.length ≤ c0) (h : impl_CountSafeOrders.f l0 = some (r1, r2)) :
    Calls Try.prog 28 #[.slice A0 l0.length c0] w fun e w' => e = .returned (.tuple #[.int .i64 r1, .bool r2]) ∧ Below w.heap.size w w' := by
  have HR0 := Aside0.mk hr0
  have HC0 := Aside0.mk hc0
  clear hr0 hc0
  have HB := Aside0.mk (Below.refl w.heap.size w)
  have H : ((impl_CountSafe.f l0 (l0.length : Int)).bind fun bt307 => (some (bt307.1, bt307.2))) = some (r1, r2) := h
  clear h
  replace H := Option.bind_eq_some_iff.mp H
  obtain ⟨⟨t307, t308⟩, A20, H⟩ := H
  replace H : (some (t307, t308)) = some (r1, r2) := H
  have A2 := Aside0.mk A20
  clear A20
  simp only [Option.some.injEq, Prod.mk.injEq] at H
  obtain ⟨rfl, rfl⟩ := H
  go_enter Try.func28, Try.ntmps28
  go_wp2_with (first | ((with_reducible refine gate_callee (f := 24) rfl ?_); refine goesL_ (some 7) rfl rfl Try.func24 (by kernel_rfl) rfl #[.slice A0 l0.length c0, .int .i64 (l0.length : Int)] rfl (by (try simp only [List.map_toArray, List.map_cons, List.map_nil]); first | done | rfl | (simp only [List.length_drop, List.length_take]; rfl)) ?_; (with_reducible refine (impl_CountSafe.calls _ _ l0 (l0.length : Int) t307 t308 _ ?side1 ?side2 A2.out).mono ?_); (case side1 => repeat (first | exact HR0.out | (with_reducible refine Kd.C_alloc ?_ _) | (with_reducible refine Kd.C_drewN ?_ _) | (with_reducible refine Kd.C_drew ?_))); (case side2 => exact HC0.out); rintro e w3 ⟨rfl, hb⟩; refine ⟨_, rfl, ?_⟩; have n0_ := Aside0.mk (below_step (by repeat (first | (with_reducible first | exact HB.out | apply below_alloc | apply pw_below_drewN | apply below_drew1) | exact HB.out)) hb); clear HB; have HB := n0_; clear n0_; (try clear hb); (try clear hb2); (try clear hk); (try clear hi)))
  go_ret2
  exact ⟨by first | rfl | (simp [errW_none, errW_some] <;> rfl) | (simp [*, errW_none, errW_some] <;> rfl), by repeat (first | (with_reducible first | exact HB.out | apply below_alloc | apply pw_below_drewN | apply below_drew1) | exact HB.out)⟩

end Go.Proofs.Ytbmefldckdaopaa.Q

namespace Go.Proofs.Ytbmefldckdaopaa.Q
open Go.RowKit Go.Proofs.YtbmefldckdaopaaW.PrintWords Go.Proofs.YtbmefldckdaopaaW.PrintLast Go.Proofs.YtbmefldckdaopaaW.PrintMore
attribute [local go_sem] max2_int min2_int max_two min_two max_three min_three max_four min_four   -- for this text's walks alone
set_option linter.unusedVariables false
set_option linter.unusedSimpArgs false

/-! ### spec_CanStackAll: function 25 -/
def spec_CanStackAll.f (k : Nat) (l0 : List (S49)) : Option (Bool × Bool) := (spec_scGood.f k l0).bind fun t282 => (if t282 = true then ((spec_scOrders.f k l0).bind fun t283 => (some (decide ((t283.length : Int) > 0), true))) else (some (false, false)))
theorem spec_CanStackAll.mono : ∀ a0 k, LeO (spec_CanStackAll.f k a0) (spec_CanStackAll.f (k + 1) a0) := by
  intro a0 k
  unfold spec_CanStackAll.f
  repeat' first
      | (with_reducible exact spec_scGood.mono _ _)
      | (with_reducible exact spec_scOrders.mono _ _)
      | (with_reducible exact LeO.refl _)
      | (with_reducible exact LeO.none _)
      | (with_reducible refine LeO.ite ?_ ?_)
      | (with_reducible refine LeO.bind ?_ (fun _ => ?_))
      | exact spec_scGood.mono _ _
      | exact spec_scOrders.mono _ _
      | exact LeO.none _
      | refine LeO.ite ?_ ?_
      | refine LeO.bind ?_ (fun _ => ?_)
set_option maxHeartbeats 8000000 in
set_option maxRecDepth 100000 in
theorem spec_CanStackAll.calls (k : Nat) (A0 : Option Addr) (c0 : Nat) (l0 : List (S49)) (r1 : Bool) (r2 : Bool) (w : World) (hr0 : Kd.C k49 w A0 l0.length l0) (hc0 : l0.length ≤ c0) (h : spec_CanStackAll.f k l0 = some (r1, r2)) :
    Calls Try.prog 25 #[.slice A0 l0.length c0] w fun e w' => e = .returned (.tuple #[.bool r1, .bool r2]) ∧ Below w.heap.size w w' := by
  have HR0 := Aside0.mk hr0
  have HC0 := Aside0.mk hc0
  clear hr0 hc0
  have HB := Aside0.mk (Below.refl w.heap.size w)
  have H : ((spec_scGood.f k l0).bind fun t282 => (if t282 = true then ((spec_scOrders.f k l0).bind fun t283 => (some (decide ((t283.length : Int) > 0), true))) else (some (false, false)))) = some (r1, r2) := h
  clear h
  replace H := Option.bind_eq_some_iff.mp H
  obtain ⟨t282, A20, H⟩ := H
  replace H : (if t282 = true then ((spec_scOrders.f k l0).bind fun t283 => (some (decide ((t283.length : Int) > 0), true))) else (some (false, false))) = some (r1, r2) := H
  have A2 := Aside0.mk A20
  clear A20
  by_cases c3 : t282 = true
  · subst c3
    have H1 : ((spec_scOrders.f k l0).bind fun t283 => (some (decide ((t283.length : Int) > 0), true))) = some (r1, r2) := by rw [if_pos rfl] at H; exact H
    clear H
    have H := H1
    clear H1
    replace H := Option.bind_eq_some_iff.mp H
    obtain ⟨t283, A40, H⟩ := H
    replace H : (some (decide ((t283.length : Int) > 0), true)) = some (r1, r2) := H
    have A4 := Aside0.mk A40
    clear A40
    simp only [Option.some.injEq, Prod.mk.injEq] at H
    obtain ⟨rfl, rfl⟩ := H
    go_enter Try.func25, Try.ntmps25
    go_wp2_with (first | ((with_reducible refine gate_callee (f := 40) rfl ?_); refine goesL_ (some 5) rfl rfl Try.func40 (by kernel_rfl) rfl #[.slice A0 l0.length c0] rfl (by (try simp only [List.map_toArray, List.map_cons, List.map_nil]); first | done | rfl | (simp only [List.length_drop, List.length_take]; rfl)) ?_; (with_reducible refine (spec_scGood.calls k _ _ l0 true _ ?side1 ?side2 A2.out).mono ?_); (case side1 => repeat (first | exact HR0.out | (with_reducible refine Kd.C_alloc ?_ _) | (with_reducible refine Kd.C_drewN ?_ _) | (with_reducible refine Kd.C_drew ?_))); (case side2 => exact HC0.out); rintro e w5 ⟨rfl, hb⟩; refine ⟨_, rfl, ?_⟩; have n0_ := Aside0.mk (below_step (by repeat (first | (with_reducible first | exact HB.out | apply below_alloc | apply pw_below_drewN | apply below_drew1) | exact HB.out)) hb); clear HB; have HB := n0_; clear n0_; (try clear hb); (try clear hb2); (try clear hk); (try clear hi)) | ((with_reducible refine gate_callee (f := 50) rfl ?_); refine goesL_ (some 8) rfl rfl Try.func50 (by kernel_rfl) rfl #[.slice A0 l0.length c0] rfl (by (try simp only [List.map_toArray, List.map_cons, List.map_nil]); first | done | rfl | (simp only [List.length_drop, List.length_take]; rfl)) ?_; (with_reducible refine (spec_scOrders.calls k _ _ l0 t283 _ ?side1 ?side2 A4.out).mono ?_); (case side1 => repeat (first | exact (Kd.C_below HR0.out HB.out) | (with_reducible refine Kd.C_alloc ?_ _) | (with_reducible refine Kd.C_drewN ?_ _) | (with_reducible refine Kd.C_drew ?_))); (case side2 => exact HC0.out); rintro e w6 ⟨v284, rfl, ho0, hb⟩; refine ⟨_, rfl, ?_⟩; have n0_ := Aside0.mk (Kd.N_lower (Kd.N_mono (ok' := fun k_ => True) ho0 (fun k_ hk_ => trivial)) (below_size (by repeat (first | (with_reducible first | exact HB.out | apply below_alloc | apply pw_below_drewN | apply below_drew1) | exact HB.out)))); have n1_ := Aside0.mk (below_step (by repeat (first | (with_reducible first | exact HB.out | apply below_alloc | apply pw_below_drewN | apply below_drew1) | exact HB.out)) hb); clear HB; have HO285 := n0_; have HB := n1_; clear n0_ n1_; (try clear hb); (try clear hb2); (try clear hk); (try clear hi); (try clear ho0); obtain ⟨Ao7, co7, eo7⟩ := Kd.N_slice HO285.out; subst eo7))
    go_ret2
    exact ⟨by first | rfl | (simp [errW_none, errW_some] <;> rfl) | (simp [*, errW_none, errW_some] <;> rfl), by repeat (first | (with_reducible first | exact HB.out | apply below_alloc | apply pw_below_drewN | apply below_drew1) | exact HB.out)⟩
  · replace c3 := Bool.eq_false_iff.mpr c3
    subst c3
    have H1 : (some (false, false)) = some (r1, r2) := by rw [if_neg (show ¬ (false = true) by decide)] at H; exact H
    clear H
    have H := H1
    clear H1
    simp only [Option.some.injEq, Prod.mk.injEq] at H
    obtain ⟨rfl, rfl⟩ := H
    go_enter Try.func25, Try.ntmps25
    go_wp2_with (first | ((with_reducible refine gate_callee (f := 40) rfl ?_); refine goesL_ (some 5) rfl rfl Try.func40 (by kernel_rfl) rfl #[.slice A0 l0.length c0] rfl (by (try simp only [List.map_toArray, List.map_cons, List.map_nil]); first | done | rfl | (simp only [List.length_drop, List.length_take]; rfl)) ?_; (with_reducible refine (spec_scGood.calls k _ _ l0 false _ ?side1 ?side2 A2.out).mono ?_); (case side1 => repeat (first | exact HR0.out | (with_reducible refine Kd.C_alloc ?_ _) | (with_reducible refine Kd.C_drewN ?_ _) | (with_reducible refine Kd.C_drew ?_))); (case side2 => exact HC0.out); rintro e w8 ⟨rfl, hb⟩; refine ⟨_, rfl, ?_⟩; have n0_ := Aside0.mk (below_step (by repeat (first | (with_reducible first | exact HB.out | apply below_alloc | apply pw_below_drewN | apply below_drew1) | exact HB.out)) hb); clear HB; have HB := n0_; clear n0_; (try clear hb); (try clear hb2); (try clear hk); (try clear hi)))
    go_ret2
    exact ⟨by first | rfl | (simp [errW_none, errW_some] <;> rfl) | (simp [*, errW_none, errW_some] <;> rfl), by repeat (first | (with_reducible first | exact HB.out | apply below_alloc | apply pw_below_drewN | apply below_drew1) | exact HB.out)⟩

end Go.Proofs.Ytbmefldckdaopaa.Q

namespace Go.Proofs.Ytbmefldckdaopaa.Q
open Go.RowKit Go.Proofs.YtbmefldckdaopaaW.PrintWords Go.Proofs.YtbmefldckdaopaaW.PrintLast Go.Proofs.YtbmefldckdaopaaW.PrintMore
attribute [local go_sem] max2_int min2_int max_two min_two max_three min_three max_four min_four   -- for this text's walks alone
set_option linter.unusedVariables false
set_option linter.unusedSimpArgs false

/-! ### impl_CanStackAll: function 26 -/
def impl_CanStackAll.f (l0 : List (S49)) : Option (Bool × Bool) := (impl_AreStackable.f l0).bind fun t286 => (if t286 = true then ((impl_countSafe.f l0 (l0.length : Int)).bind fun t287 => (some (decide (t287 > 0), true))) else (some (false, false)))
set_option maxHeartbeats 8000000 in
set_option maxRecDepth 100000 in
theorem impl_CanStackAll.calls (A0 : Option Addr) (c0 : Nat) (l0 : List (S49)) (r1 : Bool) (r2 : Bool) (w : World) (hr0 : Kd.C k49 w A0 l0.length l0) (hc0 : l0.length ≤ c0) (h : impl_CanStackAll.f l0 = some (r1, r2)) :
    Calls Try.prog 26 #[.slice A0 l0.length c0] w fun e w' => e = .returned (.tuple #[.bool r1, .bool r2]) ∧ Below w.heap.size w w' := by
  have HR0 := Aside0.mk hr0
  have HC0 := Aside0.mk hc0
  clear hr0 hc0
  have HB := Aside0.mk (Below.refl w.heap.size w)
  have H : ((impl_AreStackable.f l0).bind fun t286 => (if t286 = true then ((impl_countSafe.f l0 (l0.length : Int)).bind fun t287 => (some (decide (t287 > 0), true))) else (some (false, false)))) = some (r1, r2) := h
  clear h
  replace H := Option.bind_eq_some_iff.mp H
  obtain ⟨t286, A20, H⟩ := H
  replace H : (if t286 = true then ((impl_countSafe.f l0 (l0.length : Int)).bind fun t287 => (some (decide (t287 > 0), true))) else (some (false, false))) = some (r1, r2) := H
  have A2 := Aside0.mk A20
  clear A20
  by_cases c3 : t286 = true
  · subst c3
    have H1 : ((impl_countSafe.f l0 (l0.length : Int)).bind fun t287 => (some (decide (t287 > 0), true))) = some (r1, r2) := by rw [if_pos rfl] at H; exact H
    clear H
    have H := H1
    clear H1
    replace H := Option.bind_eq_some_iff.mp H
    obtain ⟨t287, A40, H⟩ := H
    replace H : (some (decide (t287 > 0), true)) = some (r1, r2) := H
    have A4 := Aside0.mk A40
    clear A40
    simp only [Option.some.injEq, Prod.mk.injEq] at H
    obtain ⟨rfl, rfl⟩ := H
    go_enter Try.func26, Try.ntmps26
    go_wp2_with (first | ((with_reducible refine gate_callee (f := 15) rfl ?_); refine goesL_ (some 5) rfl rfl Try.func15 (by kernel_rfl) rfl #[.slice A0 l0.length c0] rfl (by (try simp only [List.map_toArray, List.map_cons, List.map_nil]); first | done | rfl | (simp only [List.length_drop, List.length_take]; rfl)) ?_; (with_reducible refine (impl_AreStackable.calls _ _ l0 true _ ?side1 ?side2 A2.out).mono ?_); (case side1 => repeat (first | exact HR0.out | (with_reducible refine Kd.C_alloc ?_ _) | (with_reducible refine Kd.C_drewN ?_ _) | (with_reducible refine Kd.C_drew ?_))); (case side2 => exact HC0.out); rintro e w5 ⟨rfl, hb⟩; refine ⟨_, rfl, ?_⟩; have n0_ := Aside0.mk (below_step (by repeat (first | (with_reducible first | exact HB.out | apply below_alloc | apply pw_below_drewN | apply below_drew1) | exact HB.out)) hb); clear HB; have HB := n0_; clear n0_; (try clear hb); (try clear hb2); (try clear hk); (try clear hi)) | ((with_reducible refine gate_callee (f := 49) rfl ?_); refine goesL_ (some 10) rfl rfl Try.func49 (by kernel_rfl) rfl #[.slice A0 l0.length c0, .int .i64 (l0.length : Int)] rfl (by (try simp only [List.map_toArray, List.map_cons, List.map_nil]); first | done | rfl | (simp only [List.length_drop, List.length_take]; rfl)) ?_; (with_reducible refine (impl_countSafe.calls _ _ l0 (l0.length : Int) t287 _ ?side1 ?side2 A4.out).mono ?_); (case side1 => repeat (first | exact (Kd.C_below HR0.out HB.out) | (with_reducible refine Kd.C_alloc ?_ _) | (with_reducible refine Kd.C_drewN ?_ _) | (with_reducible refine Kd.C_drew ?_))); (case side2 => exact HC0.out); rintro e w6 ⟨rfl, hb⟩; refine ⟨_, rfl, ?_⟩; have n0_ := Aside0.mk (below_step (by repeat (first | (with_reducible first | exact HB.out | apply below_alloc | apply pw_below_drewN | apply below_drew1) | exact HB.out)) hb); clear HB; have HB := n0_; clear n0_; (try clear hb); (try clear hb2); (try clear hk); (try clear hi)))
    go_ret2
    exact ⟨by first | rfl | (simp [errW_none, errW_some] <;> rfl) | (simp [*, errW_none, errW_some] <;> rfl), by repeat (first | (with_reducible first | exact HB.out | apply below_alloc | apply pw_below_drewN | apply below_drew1) | exact HB.out)⟩
  · replace c3 := Bool.eq_false_iff.mpr c3
    subst c3
    have H1 : (some (false, false)) = some (r1, r2) := by rw [if_neg (show ¬ (false = true) by decide)] at H; exact H
    clear H
    have H := H1
    clear H1
    simp only [Option.some.injEq, Prod.mk.injEq] at H
    obtain ⟨rfl, rfl⟩ := H
    go_enter Try.func26, Try.ntmps26
    go_wp2_with (first | ((with_reducible refine gate_callee (f := 15) rfl ?_); refine goesL_ (some 5) rfl rfl Try.func15 (by kernel_rfl) rfl #[.slice A0 l0.length c0] rfl (by (try simp only [List.map_toArray, List.map_cons, List.map_nil]); first | done | rfl | (simp only [List.length_drop, List.length_take]; rfl)) ?_; (with_reducible refine (impl_AreStackable.calls _ _ l0 false _ ?side1 ?side2 A2.out).mono ?_); (case side1 => repeat (first | exact HR0.out | (with_reducible refine Kd.C_alloc ?_ _) | (with_reducible refine Kd.C_drewN ?_ _) | (with_reducible refine Kd.C_drew ?_))); (case side2 => exact HC0.out); rintro e w7 ⟨rfl, hb⟩; refine ⟨_, rfl, ?_⟩; have n0_ := Aside0.mk (below_step (by repeat (first | (with_reducible first | exact HB.out | apply below_alloc | apply pw_below_drewN | apply below_drew1) | exact HB.out)) hb); clear HB; have HB := n0_; clear n0_; (try clear hb); (try clear hb2); (try clear hk); (try clear hi)))
    go_ret2
    exact ⟨by first | rfl | (simp [errW_none, errW_some] <;> rfl) | (simp [*, errW_none, errW_some] <;> rfl), by repeat (first | (with_reducible first | exact HB.out | apply below_alloc | apply pw_below_drewN | apply below_drew1) | exact HB.out)⟩

end Go.Proofs.Ytbmefldckdaopaa.Q

namespace Go.Proofs.Ytbmefldckdaopaa.Q
open Go.RowKit Go.Proofs.YtbmefldckdaopaaW.PrintWords Go.Proofs.YtbmefldckdaopaaW.PrintLast Go.Proofs.YtbmefldckdaopaaW.PrintMore
attribute [local go_sem] max2_int min2_int max_two min_two max_three min_three max_four min_four   -- for this text's walks alone
set_option linter.unusedVariables false
set_option linter.unusedSimpArgs false

/-! ### spec_MostStacked: function 29 -/
def spec_MostStacked.l0 : Nat → List Int → List (List Int) → Int → Int → Option (List Int × Bool)
  | 0, _, _, _, _ => none
  | k + 1, x4, x11, x12, x13 => if x13 < x12 then (if 0 ≤ x13 then (if x13 < (x11.length : Int) then (if ((rd_L5 x11 x13).length : Int) > (x4.length : Int) then (spec_MostStacked.l0 k (rd_L5 x11 x13) x11 x12 (wrap64 (x13 + 1))) else (spec_MostStacked.l0 k x4 x11 x12 (wrap64 (x13 + 1)))) else (none)) else (none)) else (some (x4, true))
def spec_MostStacked.f (k : Nat) (l0 : List (S49)) : Option (List Int × Bool) := (spec_scGood.f k l0).bind fun t324 => (if t324 = true then ((spec_scAll.f k l0 ([] : List Int)).bind fun t325 => (spec_MostStacked.l0 k ([] : List Int) t325 (t325.length : Int) 0)) else (some (([] : List Int), false)))
theorem spec_MostStacked.mono_l : ∀ k, (∀ y0 y1 y2 y3, LeO (spec_MostStacked.l0 k y0 y1 y2 y3) (spec_MostStacked.l0 (k + 1) y0 y1 y2 y3))
  | 0 => fun _ _ _ _ r h => by simp [spec_MostStacked.l0] at h
  | k + 1 => by
    have ih0 := spec_MostStacked.mono_l k
    · intro y0 y1 y2 y3
      unfold spec_MostStacked.l0
      repeat' first
      | (with_reducible exact ih0 _ _ _ _)
      | (with_reducible exact spec_scAll.mono _ _ _)
      | (with_reducible exact spec_scGood.mono _ _)
      | (with_reducible exact LeO.refl _)
      | (with_reducible exact LeO.none _)
      | (with_reducible refine LeO.ite ?_ ?_)
      | (with_reducible refine LeO.bind ?_ (fun _ => ?_))
      | exact ih0 _ _ _ _
      | exact spec_scAll.mono _ _ _
      | exact spec_scGood.mono _ _
      | exact LeO.none _
      | refine LeO.ite ?_ ?_
      | refine LeO.bind ?_ (fun _ => ?_)
theorem spec_MostStacked.mono : ∀ a0 k, LeO (spec_MostStacked.f k a0) (spec_MostStacked.f (k + 1) a0) := by
  intro a0 k
  have ih0 := spec_MostStacked.mono_l k
  unfold spec_MostStacked.f
  repeat' first
      | (with_reducible exact ih0 _ _ _ _)
      | (with_reducible exact spec_scAll.mono _ _ _)
      | (with_reducible exact spec_scGood.mono _ _)
      | (with_reducible exact LeO.refl _)
      | (with_reducible exact LeO.none _)
      | (with_reducible refine LeO.ite ?_ ?_)
      | (with_reducible refine LeO.bind ?_ (fun _ => ?_))
      | exact ih0 _ _ _ _
      | exact spec_scAll.mono _ _ _
      | exact spec_scGood.mono _ _
      | exact LeO.none _
      | refine LeO.ite ?_ ?_
      | refine LeO.bind ?_ (fun _ => ?_)
set_option maxHeartbeats 8000000 in
set_option maxRecDepth 100000 in
theorem spec_MostStacked.calls (k : Nat) (A0 : Option Addr) (c0 : Nat) (l0 : List (S49)) (r1 : List Int) (r2 : Bool) (w : World) (hr0 : Kd.C k49 w A0 l0.length l0) (hc0 : l0.length ≤ c0) (h : spec_MostStacked.f k l0 = some (r1, r2)) :
    Calls Try.prog 29 #[.slice A0 l0.length c0] w fun e w' => ∃ v0_ : Value, e = .returned (.tuple #[v0_, .bool r2]) ∧ Kd.V (Kd.int .i64) 3 w' w.heap.size (fun k_ => (w.heap.size ≤ k_)) v0_ r1 ∧ Below w.heap.size w w' := by
  have HR0 := Aside0.mk hr0
  have HC0 := Aside0.mk hc0
  clear hr0 hc0
  have HB := Aside0.mk (Below.refl w.heap.size w)
  have H : ((spec_scGood.f k l0).bind fun t324 => (if t324 = true then ((spec_scAll.f k l0 ([] : List Int)).bind fun t325 => (spec_MostStacked.l0 k ([] : List Int) t325 (t325.length : Int) 0)) else (some (([] : List Int), false)))) = some (r1, r2) := h
  clear h
  replace H := Option.bind_eq_some_iff.mp H
  obtain ⟨t324, A20, H⟩ := H
  replace H : (if t324 = true then ((spec_scAll.f k l0 ([] : List Int)).bind fun t325 => (spec_MostStacked.l0 k ([] : List Int) t325 (t325.length : Int) 0)) else (some (([] : List Int), false))) = some (r1, r2) := H
  have A2 := Aside0.mk A20
  clear A20
  by_cases c3 : t324 = true
  · subst c3
    have H1 : ((spec_scAll.f k l0 ([] : List Int)).bind fun t325 => (spec_MostStacked.l0 k ([] : List Int) t325 (t325.length : Int) 0)) = some (r1, r2) := by rw [if_pos rfl] at H; exact H
    clear H
    have H := H1
    clear H1
    replace H := Option.bind_eq_some_iff.mp H
    obtain ⟨t325, A40, H⟩ := H
    replace H : (spec_MostStacked.l0 k ([] : List Int) t325 (t325.length : Int) 0) = some (r1, r2) := H
    have A4 := Aside0.mk A40
    clear A40
    have H' := Aside0.mk H
    clear H
    go_enter Try.func29, Try.ntmps29
    go_wp2_with (first | ((with_reducible refine gate_callee (f := 40) rfl ?_); refine goesL_ (some 8) rfl rfl Try.func40 (by kernel_rfl) rfl #[.slice A0 l0.length c0] rfl (by (try simp only [List.map_toArray, List.map_cons, List.map_nil]); first | done | rfl | (simp only [List.length_drop, List.length_take]; rfl)) ?_; (with_reducible refine (spec_scGood.calls k _ _ l0 true _ ?side1 ?side2 A2.out).mono ?_); (case side1 => repeat (first | exact HR0.out | (with_reducible refine Kd.C_alloc ?_ _) | (with_reducible refine Kd.C_drewN ?_ _) | (with_reducible refine Kd.C_drew ?_))); (case side2 => exact HC0.out); rintro e w5 ⟨rfl, hb⟩; refine ⟨_, rfl, ?_⟩; have n0_ := Aside0.mk (below_step (by repeat (first | (with_reducible first | exact HB.out | apply below_alloc | apply pw_below_drewN | apply below_drew1) | exact HB.out)) hb); clear HB; have HB := n0_; clear n0_; (try clear hb); (try clear hb2); (try clear hk); (try clear hi)) | ((with_reducible refine gate_callee (f := 48) rfl ?_); refine goesL_ (some 11) rfl rfl Try.func48 (by kernel_rfl) rfl #[.slice A0 l0.length c0, .slice none 0 0] rfl (by (try simp only [List.map_toArray, List.map_cons, List.map_nil]); first | done | rfl | (simp only [List.length_drop, List.length_take]; rfl)) ?_; (refine (spec_scAll.calls k _ _ l0 _ _ ([] : List Int) t325 _ ?side1 ?side2 ?side3 ?side4 A4.out).mono ?_); (case side1 => repeat (first | exact (Kd.C_below HR0.out HB.out) | (with_reducible refine Kd.C_alloc ?_ _) | (with_reducible refine Kd.C_drewN ?_ _) | (with_reducible refine Kd.C_drew ?_))); (case side2 => exact HC0.out); (case side3 => exact Kd.C_nil _ _); (case side4 => exact Nat.le_refl _); rintro e w6 ⟨v326, rfl, ho0, hb⟩; refine ⟨_, rfl, ?_⟩; have n0_ := Aside0.mk (Kd.N_lower (Kd.N_mono (ok' := fun k_ => (w.heap.size ≤ k_)) ho0 (fun k_ hk_ => (Nat.le_trans (below_size (by repeat (first | (with_reducible first | exact HB.out | apply below_alloc | apply pw_below_drewN | apply below_drew1) | exact HB.out))) hk_))) (below_size (by repeat (first | (with_reducible first | exact HB.out | apply below_alloc | apply pw_below_drewN | apply below_drew1) | exact HB.out)))); have n1_ := Aside0.mk (below_step (by repeat (first | (with_reducible first | exact HB.out | apply below_alloc | apply pw_below_drewN | apply below_drew1) | exact HB.out)) hb); clear HB; have HO327 := n0_; have HB := n1_; clear n0_ n1_; (try clear hb); (try clear hb2); (try clear hk); (try clear hi); (try clear ho0); obtain ⟨Ao7, co7, eo7⟩ := Kd.N_slice HO327.out; subst eo7))
    go_loopg [4, 13] k (fun kq v4 v13 w' => ∃ (x4_1 : List Int) (x13_1 : Int), v13 = .int .i64 x13_1 ∧ Aside0 (spec_MostStacked.l0 kq x4_1 t325 (t325.length : Int) x13_1 = some (r1, r2)) ∧ Aside0 (kq ≤ k) ∧ Aside0 (Kd.V (Kd.int .i64) 3 w' w.heap.size (fun k_ => (w.heap.size ≤ k_) ∧ some k_ ≠ ((.slice Ao7 t325.length co7) : Value).ownBlock) v4 x4_1) ∧ Aside0 (Kd.N (Kd.slice 3 (Kd.int .i64)) 41 w' w.heap.size (fun k_ => (w.heap.size ≤ k_)) (.slice Ao7 t325.length co7) t325) ∧ Aside0 (Below w.heap.size w w'))
    case atStart => exact ⟨(([] : List Int)), (0), (by first | rfl | (simp; done) | (simp [*]; done)), H', ⟨Nat.le_refl _⟩, ⟨(Kd.V_nil _ _ _ _ _)⟩, ⟨by (with_reducible repeat (first | apply Kd.N_alloc | apply Kd.N_drewN | apply Kd.N_drew)); exact HO327.out⟩, ⟨by repeat (first | (with_reducible first | exact HB.out | apply below_alloc | apply pw_below_drewN | apply below_drew1) | exact HB.out)⟩⟩
    case round =>
      clear H'
      try clear c2
      try clear p2
      try clear c3
      try clear c4
      obtain ⟨x4_1, x13_1, rfl, HA, HK1, HO_4, HO_11, HB⟩ := hrel
      cases gk with
      | zero => exact absurd HA.out (by simp [spec_MostStacked.l0])
      | succ k1 =>
        have H := HA.out
        clear HA
        simp only [spec_MostStacked.l0] at H
        by_cases c8 : x13_1 < (t325.length : Int)
        · rw [if_pos c8] at H
          have c8b0 : decide (x13_1 < (t325.length : Int)) = true := decide_eq_true c8
          clear c8
          by_cases c9 : 0 ≤ x13_1
          · rw [if_pos c9] at H
            have c9b0 : decide (0 ≤ x13_1) = true := decide_eq_true c9
            clear c9
            by_cases c10 : x13_1 < (t325.length : Int)
            · rw [if_pos c10] at H
              have c10b0 : decide (x13_1 < (t325.length : Int)) = true := decide_eq_true c10
              clear c10
              by_cases c11 : ((rd_L5 t325 x13_1).length : Int) > (x4_1.length : Int)
              · rw [if_pos c11] at H
                have c11b0 : decide ((x4_1.length : Int) < ((rd_L5 t325 x13_1).length : Int)) = true := decide_eq_true c11
                have c11b1 : decide (x4_1.length < (rd_L5 t325 x13_1).length) = true := decide_eq_true (Int.ofNat_lt.mp c11)
                clear c11
                have H' := Aside0.mk H
                clear H
                have p328 : 0 ≤ (x13_1 : Int) := of_decide_eq_true (by first | (with_reducible assumption) | assumption)
                have q328 : x13_1 < (t325.length : Int) := of_decide_eq_true (by first | (with_reducible assumption) | assumption)
                obtain ⟨ad328, A328_0, c328_0, e328, hx328_0, hl328_0, hi328_0⟩ := at_L5 (Kd.N_reads' HO_11.out).2.2 x13_1 p328 q328
                cases e328
                obtain ⟨ce328, hce328, hMe328, hcc328⟩ := Kd.N_get HO_11.out [] x13_1 p328 (by first | exact q328 | exact of_decide_eq_true (by first | (with_reducible assumption) | assumption) | (have e_ := (Kd.N_reads' HO_11.out).1; omega))
                obtain ⟨ua328_0, uc328_0, rfl, ul328_0, ge328_0⟩ := Kd.FK_slice_open hMe328
                have hv328_0 := hcc328 0 _ rfl
                rw [Nat.add_zero, show ((Kd.slice 3 (Kd.int .i64))).sz = 1 from rfl, Nat.mul_one] at hv328_0
                replace hv328_0 := Option.some.inj (hv328_0.symm.trans hx328_0)
                injection hv328_0 with hva_ hvn_ hvc_
                rw [hva_] at ge328_0
                rw [hvc_] at ul328_0
                have HL328_0 := Aside0.mk (show Kd.V (Kd.int .i64) 3 _ w.heap.size _ _ (rd_L5 t325 x13_1) from Kd.V_mk ul328_0 ge328_0)
                clear hva_ hvn_ hvc_ ge328_0 ul328_0
                clear hcc328 hce328
                have HR328_0 := Aside0.mk hi328_0
                have HC328_0 := Aside0.mk hl328_0
                clear hi328_0 hl328_0
                replace p328 := eq_true p328
                replace q328 := eq_true q328
                obtain ⟨Ao12, co12, eo12⟩ := Kd.V_slice HO_4.out
                subst eo12
                go_wp2
                go_roundg k1
                case measure => have := HK1.out; omega
                case rel => exact ⟨(rd_L5 t325 x13_1), (wrap64 (x13_1 + 1)), (by first | rfl | (simp; done) | (simp [*]; done)), H', ⟨by have := HK1.out; omega⟩, ⟨by (with_reducible repeat (first | apply Kd.V_alloc | apply Kd.V_drewN | apply Kd.V_drew)); exact HL328_0.out⟩, ⟨by (with_reducible repeat (first | apply Kd.N_alloc | apply Kd.N_drewN | apply Kd.N_drew)); exact HO_11.out⟩, ⟨by repeat (first | (with_reducible first | exact HB.out | apply below_alloc | apply pw_below_drewN | apply below_drew1) | exact HB.out)⟩⟩
              · rw [if_neg c11] at H
                have c11b0 : decide ((x4_1.length : Int) < ((rd_L5 t325 x13_1).length : Int)) = false := decide_eq_false c11
                have c11b1 : decide (x4_1.length < (rd_L5 t325 x13_1).length) = false := decide_eq_false (fun h => c11 (Int.ofNat_lt.mpr h))
                clear c11
                have H' := Aside0.mk H
                clear H
                have p328 : 0 ≤ (x13_1 : Int) := of_decide_eq_true (by first | (with_reducible assumption) | assumption)
                have q328 : x13_1 < (t325.length : Int) := of_decide_eq_true (by first | (with_reducible assumption) | assumption)
                obtain ⟨ad328, A328_0, c328_0, e328, hx328_0, hl328_0, hi328_0⟩ := at_L5 (Kd.N_reads' HO_11.out).2.2 x13_1 p328 q328
                cases e328
                obtain ⟨ce328, hce328, hMe328, hcc328⟩ := Kd.N_get HO_11.out [] x13_1 p328 (by first | exact q328 | exact of_decide_eq_true (by first | (with_reducible assumption) | assumption) | (have e_ := (Kd.N_reads' HO_11.out).1; omega))
                obtain ⟨ua328_0, uc328_0, rfl, ul328_0, ge328_0⟩ := Kd.FK_slice_open hMe328
                have hv328_0 := hcc328 0 _ rfl
                rw [Nat.add_zero, show ((Kd.slice 3 (Kd.int .i64))).sz = 1 from rfl, Nat.mul_one] at hv328_0
                replace hv328_0 := Option.some.inj (hv328_0.symm.trans hx328_0)
                injection hv328_0 with hva_ hvn_ hvc_
                rw [hva_] at ge328_0
                rw [hvc_] at ul328_0
                have HL328_0 := Aside0.mk (show Kd.V (Kd.int .i64) 3 _ w.heap.size _ _ (rd_L5 t325 x13_1) from Kd.V_mk ul328_0 ge328_0)
                clear hva_ hvn_ hvc_ ge328_0 ul328_0
                clear hcc328 hce328
                have HR328_0 := Aside0.mk hi328_0
                have HC328_0 := Aside0.mk hl328_0
                clear hi328_0 hl328_0
                replace p328 := eq_true p328
                replace q328 := eq_true q328
                obtain ⟨Ao13, co13, eo13⟩ := Kd.V_slice HO_4.out
                subst eo13
                go_wp2
                go_roundg k1
                case measure => have := HK1.out; omega
                case rel => exact ⟨(x4_1), (wrap64 (x13_1 + 1)), (by first | rfl | (simp; done) | (simp [*]; done)), H', ⟨by have := HK1.out; omega⟩, ⟨by (with_reducible repeat (first | apply Kd.V_alloc | apply Kd.V_drewN | apply Kd.V_drew)); exact HO_4.out⟩, ⟨by (with_reducible repeat (first | apply Kd.N_alloc | apply Kd.N_drewN | apply Kd.N_drew)); exact HO_11.out⟩, ⟨by repeat (first | (with_reducible first | exact HB.out | apply below_alloc | apply pw_below_drewN | apply below_drew1) | exact HB.out)⟩⟩
            · rw [if_neg c10] at H
              exact absurd H (by simp)
          · rw [if_neg c9] at H
            exact absurd H (by simp)
        · rw [if_neg c8] at H
          have c8b0 : decide (x13_1 < (t325.length : Int)) = false := decide_eq_false c8
          clear c8
          simp only [Option.some.injEq, Prod.mk.injEq] at H
          obtain ⟨rfl, rfl⟩ := H
          go_wp2
          go_ret2
          exact ⟨_, by first | rfl | (simp [errW_none, errW_some] <;> rfl) | (simp [*, errW_none, errW_some] <;> rfl), by (with_reducible repeat (first | apply Kd.V_alloc | apply Kd.V_drewN | apply Kd.V_drew)); exact Kd.V_mono HO_4.out (fun _ hk => hk.1), by repeat (first | (with_reducible first | exact HB.out | apply below_alloc | apply pw_below_drewN | apply below_drew1) | exact HB.out)⟩
  · replace c3 := Bool.eq_false_iff.mpr c3
    subst c3
    have H1 : (some (([] : List Int), false)) = some (r1, r2) := by rw [if_neg (show ¬ (false = true) by decide)] at H; exact H
    clear H
    have H := H1
    clear H1
    simp only [Option.some.injEq, Prod.mk.injEq] at H
    obtain ⟨rfl, rfl⟩ := H
    go_enter Try.func29, Try.ntmps29
    go_wp2_with (first | ((with_reducible refine gate_callee (f := 40) rfl ?_); refine goesL_ (some 8) rfl rfl Try.func40 (by kernel_rfl) rfl #[.slice A0 l0.length c0] rfl (by (try simp only [List.map_toArray, List.map_cons, List.map_nil]); first | done | rfl | (simp only [List.length_drop, List.length_take]; rfl)) ?_; (with_reducible refine (spec_scGood.calls k _ _ l0 false _ ?side1 ?side2 A2.out).mono ?_); (case side1 => repeat (first | exact HR0.out | (with_reducible refine Kd.C_alloc ?_ _) | (with_reducible refine Kd.C_drewN ?_ _) | (with_reducible refine Kd.C_drew ?_))); (case side2 => exact HC0.out); rintro e w14 ⟨rfl, hb⟩; refine ⟨_, rfl, ?_⟩; have n0_ := Aside0.mk (below_step (by repeat (first | (with_reducible first | exact HB.out | apply below_alloc | apply pw_below_drewN | apply below_drew1) | exact HB.out)) hb); clear HB; have HB := n0_; clear n0_; (try clear hb); (try clear hb2); (try clear hk); (try clear hi)))
    go_ret2
    exact ⟨_, by first | rfl | (simp [errW_none, errW_some] <;> rfl) | (simp [*, errW_none, errW_some] <;> rfl), (Kd.V_nil _ _ _ _ _), by repeat (first | (with_reducible first | exact HB.out | apply below_alloc | apply pw_below_drewN | apply below_drew1) | exact HB.out)⟩

end Go.Proofs.Ytbmefldckdaopaa.Q

namespace Go.Proofs.Ytbmefldckdaopaa.Q
open Go.RowKit Go.Proofs.YtbmefldckdaopaaW.PrintWords Go.Proofs.YtbmefldckdaopaaW.PrintLast Go.Proofs.YtbmefldckdaopaaW.PrintMore
attribute [local go_sem] max2_int min2_int max_two min_two max_three min_three max_four min_four   -- for this text's walks alone
set_option linter.unusedVariables false
set_option linter.unusedSimpArgs false

/-! ### spec_TallestStack: function 36 -/
def spec_TallestStack.l0 : Nat → List (S49) → List Int → Int → List (List Int) → Int → Int → Option (List Int × Int × Bool)
  | 0, _, _, _, _, _, _ => none
  | k + 1, x0, x5, x6, x14, x15, x16 => if x16 < x15 then (if 0 ≤ x16 then (if x16 < (x14.length : Int) then ((spec_scHigh.f k x0 (rd_L5 x14 x16)).bind fun t415 => (if t415 > x6 then (spec_TallestStack.l0 k x0 (rd_L5 x14 x16) t415 x14 x15 (wrap64 (x16 + 1))) else (spec_TallestStack.l0 k x0 x5 x6 x14 x15 (wrap64 (x16 + 1))))) else (none)) else (none)) else (some (x5, x6, true))
def spec_TallestStack.f (k : Nat) (l0 : List (S49)) : Option (List Int × Int × Bool) := (spec_scGood.f k l0).bind fun t410 => (if t410 = true then ((spec_scAll.f k l0 ([] : List Int)).bind fun t411 => (spec_TallestStack.l0 k l0 ([] : List Int) 0 t411 (t411.length : Int) 0)) else (some (([] : List Int), 0, false)))
theorem spec_TallestStack.mono_l : ∀ k, (∀ y0 y1 y2 y3 y4 y5, LeO (spec_TallestStack.l0 k y0 y1 y2 y3 y4 y5) (spec_TallestStack.l0 (k + 1) y0 y1 y2 y3 y4 y5))
  | 0 => fun _ _ _ _ _ _ r h => by simp [spec_TallestStack.l0] at h
  | k + 1 => by
    have ih0 := spec_TallestStack.mono_l k
    · intro y0 y1 y2 y3 y4 y5
      unfold spec_TallestStack.l0
      repeat' first
      | (with_reducible exact ih0 _ _ _ _ _ _)
      | (with_reducible exact spec_scAll.mono _ _ _)
      | (with_reducible exact spec_scGood.mono _ _)
      | (with_reducible exact spec_scHigh.mono _ _ _)
      | (with_reducible exact LeO.refl _)
      | (with_reducible exact LeO.none _)
      | (with_reducible refine LeO.ite ?_ ?_)
      | (with_reducible refine LeO.bind ?_ (fun _ => ?_))
      | exact ih0 _ _ _ _ _ _
      | exact spec_scAll.mono _ _ _
      | exact spec_scGood.mono _ _
      | exact spec_scHigh.mono _ _ _
      | exact LeO.none _
      | refine LeO.ite ?_ ?_
      | refine LeO.bind ?_ (fun _ => ?_)
theorem spec_TallestStack.mono : ∀ a0 k, LeO (spec_TallestStack.f k a0) (spec_TallestStack.f (k + 1) a0) := by
  intro a0 k
  have ih0 := spec_TallestStack.mono_l k
  unfold spec_TallestStack.f
  repeat' first
      | (with_reducible exact ih0 _ _ _ _ _ _)
      | (with_reducible exact spec_scAll.mono _ _ _)
      | (with_reducible exact spec_scGood.mono _ _)
      | (with_reducible exact spec_scHigh.mono _ _ _)
      | (with_reducible exact LeO.refl _)
      | (with_reducible exact LeO.none _)
      | (with_reducible refine LeO.ite ?_ ?_)
      | (with_reducible refine LeO.bind ?_ (fun _ => ?_))
      | exact ih0 _ _ _ _ _ _
      | exact spec_scAll.mono _ _ _
      | exact spec_scGood.mono _ _
      | exact spec_scHigh.mono _ _ _
      | exact LeO.none _
      | refine LeO.ite ?_ ?_
      | refine LeO.bind ?_ (fun _ => ?_)
set_option maxHeartbeats 8000000 in
set_option maxRecDepth 100000 in
theorem spec_TallestStack.calls (k : Nat) (A0 : Option Addr) (c0 : Nat) (l0 : List (S49)) (r1 : List Int) (r2 : Int) (r3 : Bool) (w : World) (hr0 : Kd.C k49 w A0 l0.length l0) (hc0 : l0.length ≤ c0) (h : spec_TallestStack.f k l0 = some (r1, r2, r3)) :
    Calls Try.prog 36 #[.slice A0 l0.length c0] w fun e w' => ∃ v0_ : Value, e = .returned (.tuple #[v0_, .int .i64 r2, .bool r3]) ∧ Kd.V (Kd.int .i64) 3 w' w.heap.size (fun k_ => (w.heap.size ≤ k_)) v0_ r1 ∧ Below w.heap.size w w' := by
  have HR0 := Aside0.mk hr0
  have HC0 := Aside0.mk hc0
  clear hr0 hc0
  have HB := Aside0.mk (Below.refl w.heap.size w)
  have H : ((spec_scGood.f k l0).bind fun t410 => (if t410 = true then ((spec_scAll.f k l0 ([] : List Int)).bind fun t411 => (spec_TallestStack.l0 k l0 ([] : List Int) 0 t411 (t411.length : Int) 0)) else (some (([] : List Int), 0, false)))) = some (r1, r2, r3) := h
  clear h
  replace H := Option.bind_eq_some_iff.mp H
  obtain ⟨t410, A20, H⟩ := H
  replace H : (if t410 = true then ((spec_scAll.f k l0 ([] : List Int)).bind fun t411 => (spec_TallestStack.l0 k l0 ([] : List Int) 0 t411 (t411.length : Int) 0)) else (some (([] : List Int), 0, false))) = some (r1, r2, r3) := H
  have A2 := Aside0.mk A20
  clear A20
  by_cases c3 : t410 = true
  · subst c3
    have H1 : ((spec_scAll.f k l0 ([] : List Int)).bind fun t411 => (spec_TallestStack.l0 k l0 ([] : List Int) 0 t411 (t411.length : Int) 0)) = some (r1, r2, r3) := by rw [if_pos rfl] at H; exact H
    clear H
    have H := H1
    clear H1
    replace H := Option.bind_eq_some_iff.mp H
    obtain ⟨t411, A40, H⟩ := H
    replace H : (spec_TallestStack.l0 k l0 ([] : List Int) 0 t411 (t411.length : Int) 0) = some (r1, r2, r3) := H
    have A4 := Aside0.mk A40
    clear A40
    have H' := Aside0.mk H
    clear H
    go_enter Try.func36, Try.ntmps36
    go_wp2_with (first | ((with_reducible refine gate_callee (f := 40) rfl ?_); refine goesL_ (some 11) rfl rfl Try.func40 (by kernel_rfl) rfl #[.slice A0 l0.length c0] rfl (by (try simp only [List.map_toArray, List.map_cons, List.map_nil]); first | done | rfl | (simp only [List.length_drop, List.length_take]; rfl)) ?_; (with_reducible refine (spec_scGood.calls k _ _ l0 true _ ?side1 ?side2 A2.out).mono ?_); (case side1 => repeat (first | exact HR0.out | (with_reducible refine Kd.C_alloc ?_ _) | (with_reducible refine Kd.C_drewN ?_ _) | (with_reducible refine Kd.C_drew ?_))); (case side2 => exact HC0.out); rintro e w5 ⟨rfl, hb⟩; refine ⟨_, rfl, ?_⟩; have n0_ := Aside0.mk (below_step (by repeat (first | (with_reducible first | exact HB.out | apply below_alloc | apply pw_below_drewN | apply below_drew1) | exact HB.out)) hb); clear HB; have HB := n0_; clear n0_; (try clear hb); (try clear hb2); (try clear hk); (try clear hi)) | ((with_reducible refine gate_callee (f := 48) rfl ?_); refine goesL_ (some 14) rfl rfl Try.func48 (by kernel_rfl) rfl #[.slice A0 l0.length c0, .slice none 0 0] rfl (by (try simp only [List.map_toArray, List.map_cons, List.map_nil]); first | done | rfl | (simp only [List.length_drop, List.length_take]; rfl)) ?_; (refine (spec_scAll.calls k _ _ l0 _ _ ([] : List Int) t411 _ ?side1 ?side2 ?side3 ?side4 A4.out).mono ?_); (case side1 => repeat (first | exact (Kd.C_below HR0.out HB.out) | (with_reducible refine Kd.C_alloc ?_ _) | (with_reducible refine Kd.C_drewN ?_ _) | (with_reducible refine Kd.C_drew ?_))); (case side2 => exact HC0.out); (case side3 => exact Kd.C_nil _ _); (case side4 => exact Nat.le_refl _); rintro e w6 ⟨v412, rfl, ho0, hb⟩; refine ⟨_, rfl, ?_⟩; have n0_ := Aside0.mk (Kd.N_lower (Kd.N_mono (ok' := fun k_ => (w.heap.size ≤ k_)) ho0 (fun k_ hk_ => (Nat.le_trans (below_size (by repeat (first | (with_reducible first | exact HB.out | apply below_alloc | apply pw_below_drewN | apply below_drew1) | exact HB.out))) hk_))) (below_size (by repeat (first | (with_reducible first | exact HB.out | apply below_alloc | apply pw_below_drewN | apply below_drew1) | exact HB.out)))); have n1_ := Aside0.mk (below_step (by repeat (first | (with_reducible first | exact HB.out | apply below_alloc | apply pw_below_drewN | apply below_drew1) | exact HB.out)) hb); clear HB; have HO413 := n0_; have HB := n1_; clear n0_ n1_; (try clear hb); (try clear hb2); (try clear hk); (try clear hi); (try clear ho0); obtain ⟨Ao7, co7, eo7⟩ := Kd.N_slice HO413.out; subst eo7))
    go_loopg [5, 6, 16] k (fun kq v5 v6 v16 w' => ∃ (x5_1 : List Int) (x6_1 : Int) (x16_1 : Int), v6 = .int .i64 x6_1 ∧ v16 = .int .i64 x16_1 ∧ Aside0 (spec_TallestStack.l0 kq l0 x5_1 x6_1 t411 (t411.length : Int) x16_1 = some (r1, r2, r3)) ∧ Aside0 (kq ≤ k) ∧ Aside0 (Kd.V (Kd.int .i64) 3 w' w.heap.size (fun k_ => (w.heap.size ≤ k_) ∧ some k_ ≠ ((.slice Ao7 t411.length co7) : Value).ownBlock) v5 x5_1) ∧ Aside0 (Kd.N (Kd.slice 3 (Kd.int .i64)) 41 w' w.heap.size (fun k_ => (w.heap.size ≤ k_)) (.slice Ao7 t411.length co7) t411) ∧ Aside0 (Below w.heap.size w w'))
    case atStart => exact ⟨(([] : List Int)), (0), (0), (by first | rfl | (simp; done) | (simp [*]; done)), (by first | rfl | (simp; done) | (simp [*]; done)), H', ⟨Nat.le_refl _⟩, ⟨(Kd.V_nil _ _ _ _ _)⟩, ⟨by (with_reducible repeat (first | apply Kd.N_alloc | apply Kd.N_drewN | apply Kd.N_drew)); exact HO413.out⟩, ⟨by repeat (first | (with_reducible first | exact HB.out | apply below_alloc | apply pw_below_drewN | apply below_drew1) | exact HB.out)⟩⟩
    case round =>
      clear H'
      try clear p2
      try clear c3
      try clear c4
      obtain ⟨x5_1, x6_1, x16_1, rfl, rfl, HA, HK1, HO_5, HO_14, HB⟩ := hrel
      cases gk with
      | zero => exact absurd HA.out (by simp [spec_TallestStack.l0])
      | succ k1 =>
        have H := HA.out
        clear HA
        simp only [spec_TallestStack.l0] at H
        by_cases c8 : x16_1 < (t411.length : Int)
        · rw [if_pos c8] at H
          have c8b0 : decide (x16_1 < (t411.length : Int)) = true := decide_eq_true c8
          clear c8
          by_cases c9 : 0 ≤ x16_1
          · rw [if_pos c9] at H
            have c9b0 : decide (0 ≤ x16_1) = true := decide_eq_true c9
            clear c9
            by_cases c10 : x16_1 < (t411.length : Int)
            · rw [if_pos c10] at H
              have c10b0 : decide (x16_1 < (t411.length : Int)) = true := decide_eq_true c10
              clear c10
              replace H := Option.bind_eq_some_iff.mp H
              obtain ⟨t415, A110, H⟩ := H
              replace H : (if t415 > x6_1 then (spec_TallestStack.l0 k1 l0 (rd_L5 t411 x16_1) t415 t411 (t411.length : Int) (wrap64 (x16_1 + 1))) else (spec_TallestStack.l0 k1 l0 x5_1 x6_1 t411 (t411.length : Int) (wrap64 (x16_1 + 1)))) = some (r1, r2, r3) := H
              have A11 := Aside0.mk A110
              clear A110
              by_cases c12 : t415 > x6_1
              · rw [if_pos c12] at H
                have c12b0 : decide (x6_1 < t415) = true := decide_eq_true c12
                clear c12
                have H' := Aside0.mk H
                clear H
                have p414 : 0 ≤ (x16_1 : Int) := of_decide_eq_true (by first | (with_reducible assumption) | assumption)
                have q414 : x16_1 < (t411.length : Int) := of_decide_eq_true (by first | (with_reducible assumption) | assumption)
                obtain ⟨ad414, A414_0, c414_0, e414, hx414_0, hl414_0, hi414_0⟩ := at_L5 (Kd.N_reads' HO_14.out).2.2 x16_1 p414 q414
                cases e414
                obtain ⟨ce414, hce414, hMe414, hcc414⟩ := Kd.N_get HO_14.out [] x16_1 p414 (by first | exact q414 | exact of_decide_eq_true (by first | (with_reducible assumption) | assumption) | (have e_ := (Kd.N_reads' HO_14.out).1; omega))
                obtain ⟨ua414_0, uc414_0, rfl, ul414_0, ge414_0⟩ := Kd.FK_slice_open hMe414
                have hv414_0 := hcc414 0 _ rfl
                rw [Nat.add_zero, show ((Kd.slice 3 (Kd.int .i64))).sz = 1 from rfl, Nat.mul_one] at hv414_0
                replace hv414_0 := Option.some.inj (hv414_0.symm.trans hx414_0)
                injection hv414_0 with hva_ hvn_ hvc_
                rw [hva_] at ge414_0
                rw [hvc_] at ul414_0
                have HL414_0 := Aside0.mk (show Kd.V (Kd.int .i64) 3 _ w.heap.size _ _ (rd_L5 t411 x16_1) from Kd.V_mk ul414_0 ge414_0)
                clear hva_ hvn_ hvc_ ge414_0 ul414_0
                clear hcc414 hce414
                have HR414_0 := Aside0.mk hi414_0
                have HC414_0 := Aside0.mk hl414_0
                clear hi414_0 hl414_0
                replace p414 := eq_true p414
                replace q414 := eq_true q414
                go_wp2_with (first | ((with_reducible refine gate_callee (f := 53) rfl ?_); refine goesL_ (some 22) rfl rfl Try.func53 (by kernel_rfl) rfl #[.slice A0 l0.length c0, .slice A414_0 (rd_L5 t411 x16_1).length c414_0] rfl (by (try simp only [List.map_toArray, List.map_cons, List.map_nil]); first | done | rfl | (simp only [List.length_drop, List.length_take]; rfl)) ?_; (with_reducible refine (spec_scHigh.calls k1 _ _ l0 _ _ (rd_L5 t411 x16_1) t415 _ ?side1 ?side2 ?side3 ?side4 A11.out).mono ?_); (case side1 => repeat (first | exact (Kd.C_below HR0.out HB.out) | (with_reducible refine Kd.C_alloc ?_ _) | (with_reducible refine Kd.C_drewN ?_ _) | (with_reducible refine Kd.C_drew ?_))); (case side2 => exact HC0.out); (case side3 => repeat (first | exact (by repeat (first | (with_reducible exact HR414_0.out) | (with_reducible refine Kd.C_alloc ?_ _) | (with_reducible refine Kd.C_drewN ?_ _) | (with_reducible refine Kd.C_drew ?_) | exact HR414_0.out)) | (with_reducible refine Kd.C_alloc ?_ _) | (with_reducible refine Kd.C_drewN ?_ _) | (with_reducible refine Kd.C_drew ?_))); (case side4 => exact HC414_0.out); rintro e w' ⟨rfl, ⟨nd, rfl⟩⟩; refine ⟨_, rfl, ?_⟩))
                go_roundg k1
                case measure => have := HK1.out; omega
                case rel => exact ⟨(rd_L5 t411 x16_1), (t415), (wrap64 (x16_1 + 1)), (by first | rfl | (simp; done) | (simp [*]; done)), (by first | rfl | (simp; done) | (simp [*]; done)), H', ⟨by have := HK1.out; omega⟩, ⟨by (with_reducible repeat (first | apply Kd.V_alloc | apply Kd.V_drewN | apply Kd.V_drew)); exact HL414_0.out⟩, ⟨by (with_reducible repeat (first | apply Kd.N_alloc | apply Kd.N_drewN | apply Kd.N_drew)); exact HO_14.out⟩, ⟨by repeat (first | (with_reducible first | exact HB.out | apply below_alloc | apply pw_below_drewN | apply below_drew1) | exact HB.out)⟩⟩
              · rw [if_neg c12] at H
                have c12b0 : decide (x6_1 < t415) = false := decide_eq_false c12
                clear c12
                have H' := Aside0.mk H
                clear H
                have p414 : 0 ≤ (x16_1 : Int) := of_decide_eq_true (by first | (with_reducible assumption) | assumption)
                have q414 : x16_1 < (t411.length : Int) := of_decide_eq_true (by first | (with_reducible assumption) | assumption)
                obtain ⟨ad414, A414_0, c414_0, e414, hx414_0, hl414_0, hi414_0⟩ := at_L5 (Kd.N_reads' HO_14.out).2.2 x16_1 p414 q414
                cases e414
                obtain ⟨ce414, hce414, hMe414, hcc414⟩ := Kd.N_get HO_14.out [] x16_1 p414 (by first | exact q414 | exact of_decide_eq_true (by first | (with_reducible assumption) | assumption) | (have e_ := (Kd.N_reads' HO_14.out).1; omega))
                obtain ⟨ua414_0, uc414_0, rfl, ul414_0, ge414_0⟩ := Kd.FK_slice_open hMe414
                have hv414_0 := hcc414 0 _ rfl
                rw [Nat.add_zero, show ((Kd.slice 3 (Kd.int .i64))).sz = 1 from rfl, Nat.mul_one] at hv414_0
                replace hv414_0 := Option.some.inj (hv414_0.symm.trans hx414_0)
                injection hv414_0 with hva_ hvn_ hvc_
                rw [hva_] at ge414_0
                rw [hvc_] at ul414_0
                have HL414_0 := Aside0.mk (show Kd.V (Kd.int .i64) 3 _ w.heap.size _ _ (rd_L5 t411 x16_1) from Kd.V_mk ul414_0 ge414_0)
                clear hva_ hvn_ hvc_ ge414_0 ul414_0
                clear hcc414 hce414
                have HR414_0 := Aside0.mk hi414_0
                have HC414_0 := Aside0.mk hl414_0
                clear hi414_0 hl414_0
                replace p414 := eq_true p414
                replace q414 := eq_true q414
                go_wp2_with (first | ((with_reducible refine gate_callee (f := 53) rfl ?_); refine goesL_ (some 22) rfl rfl Try.func53 (by kernel_rfl) rfl #[.slice A0 l0.length c0, .slice A414_0 (rd_L5 t411 x16_1).length c414_0] rfl (by (try simp only [List.map_toArray, List.map_cons, List.map_nil]); first | done | rfl | (simp only [List.length_drop, List.length_take]; rfl)) ?_; (with_reducible refine (spec_scHigh.calls k1 _ _ l0 _ _ (rd_L5 t411 x16_1) t415 _ ?side1 ?side2 ?side3 ?side4 A11.out).mono ?_); (case side1 => repeat (first | exact (Kd.C_below HR0.out HB.out) | (with_reducible refine Kd.C_alloc ?_ _) | (with_reducible refine Kd.C_drewN ?_ _) | (with_reducible refine Kd.C_drew ?_))); (case side2 => exact HC0.out); (case side3 => repeat (first | exact (by repeat (first | (with_reducible exact HR414_0.out) | (with_reducible refine Kd.C_alloc ?_ _) | (with_reducible refine Kd.C_drewN ?_ _) | (with_reducible refine Kd.C_drew ?_) | exact HR414_0.out)) | (with_reducible refine Kd.C_alloc ?_ _) | (with_reducible refine Kd.C_drewN ?_ _) | (with_reducible refine Kd.C_drew ?_))); (case side4 => exact HC414_0.out); rintro e w' ⟨rfl, ⟨nd, rfl⟩⟩; refine ⟨_, rfl, ?_⟩))
                go_roundg k1
                case measure => have := HK1.out; omega
                case rel => exact ⟨(x5_1), (x6_1), (wrap64 (x16_1 + 1)), (by first | rfl | (simp; done) | (simp [*]; done)), (by first | rfl | (simp; done) | (simp [*]; done)), H', ⟨by have := HK1.out; omega⟩, ⟨by (with_reducible repeat (first | apply Kd.V_alloc | apply Kd.V_drewN | apply Kd.V_drew)); exact HO_5.out⟩, ⟨by (with_reducible repeat (first | apply Kd.N_alloc | apply Kd.N_drewN | apply Kd.N_drew)); exact HO_14.out⟩, ⟨by repeat (first | (with_reducible first | exact HB.out | apply below_alloc | apply pw_below_drewN | apply below_drew1) | exact HB.out)⟩⟩
            · rw [if_neg c10] at H
              exact absurd H (by simp)
          · rw [if_neg c9] at H
            exact absurd H (by simp)
        · rw [if_neg c8] at H
          have c8b0 : decide (x16_1 < (t411.length : Int)) = false := decide_eq_false c8
          clear c8
          simp only [Option.some.injEq, Prod.mk.injEq] at H
          obtain ⟨rfl, rfl, rfl⟩ := H
          go_wp2
          go_ret3
          exact ⟨_, by first | rfl | (simp [errW_none, errW_some] <;> rfl) | (simp [*, errW_none, errW_some] <;> rfl), by (with_reducible repeat (first | apply Kd.V_alloc | apply Kd.V_drewN | apply Kd.V_drew)); exact Kd.V_mono HO_5.out (fun _ hk => hk.1), by repeat (first | (with_reducible first | exact HB.out | apply below_alloc | apply pw_below_drewN | apply below_drew1) | exact HB.out)⟩
  · replace c3 := Bool.eq_false_iff.mpr c3
    subst c3
    have H1 : (some (([] : List Int), 0, false)) = some (r1, r2, r3) := by rw [if_neg (show ¬ (false = true) by decide)] at H; exact H
    clear H
    have H := H1
    clear H1
    simp only [Option.some.injEq, Prod.mk.injEq] at H
    obtain ⟨rfl, rfl, rfl⟩ := H
    go_enter Try.func36, Try.ntmps36
    go_wp2_with (first | ((with_reducible refine gate_callee (f := 40) rfl ?_); refine goesL_ (some 11) rfl rfl Try.func40 (by kernel_rfl) rfl #[.slice A0 l0.length c0] rfl (by (try simp only [List.map_toArray, List.map_cons, List.map_nil]); first | done | rfl | (simp only [List.length_drop, List.length_take]; rfl)) ?_; (with_reducible refine (spec_scGood.calls k _ _ l0 false _ ?side1 ?side2 A2.out).mono ?_); (case side1 => repeat (first | exact HR0.out | (with_reducible refine Kd.C_alloc ?_ _) | (with_reducible refine Kd.C_drewN ?_ _) | (with_reducible refine Kd.C_drew ?_))); (case side2 => exact HC0.out); rintro e w13 ⟨rfl, hb⟩; refine ⟨_, rfl, ?_⟩; have n0_ := Aside0.mk (below_step (by repeat (first | (with_reducible first | exact HB.out | apply below_alloc | apply pw_below_drewN | apply below_drew1) | exact HB.out)) hb); clear HB; have HB := n0_; clear n0_; (try clear hb); (try clear hb2); (try clear hk); (try clear hi)))
    go_ret3
    exact ⟨_, by first | rfl | (simp [errW_none, errW_some] <;> rfl) | (simp [*, errW_none, errW_some] <;> rfl), (Kd.V_nil _ _ _ _ _), by repeat (first | (with_reducible first | exact HB.out | apply below_alloc | apply pw_below_drewN | apply below_drew1) | exact HB.out)⟩

end Go.Proofs.Ytbmefldckdaopaa.Q

namespace Go.Proofs.Ytbmefldckdaopaa.Q
open Go.RowKit Go.Proofs.YtbmefldckdaopaaW.PrintWords Go.Proofs.YtbmefldckdaopaaW.PrintLast Go.Proofs.YtbmefldckdaopaaW.PrintMore
set_option linter.unusedVariables false
set_option linter.unusedSimpArgs false

theorem allS_cons (list : List Thing) : allS list = [] :: restV list list.length [] 0 := treeV_eq _ _ _
theorem allS_length {list : List Thing} (h : list.length ≤ 7) : (allS list).length ≤ 16777216 :=
  Nat.le_trans (treeV_length list (list.length + 1) []) (Nat.le_trans (Nat.le_trans (Nat.pow_le_pow_left (show list.length + 1 ≤ 8 by omega) _) (Nat.pow_le_pow_right (by decide) (show list.length + 1 ≤ 8 by omega))) (by decide))
theorem treeV_inside (list : List Thing) : ∀ d st, Inside list st → st.length + freeV list st ≤ list.length → ∀ x ∈ treeV list d st, Inside list x ∧ x.length ≤ list.length := by
  intro d
  induction d with
  | zero =>
    intro st h hl x hx
    rw [List.mem_singleton.1 hx]
    exact ⟨h, by omega⟩
  | succ d ih =>
    intro st h hl x hx
    rw [treeV_eq] at hx
    rcases List.mem_cons.1 hx with rfl | hx
    · exact ⟨h, by omega⟩
    · unfold restV at hx
      obtain ⟨i, hi, hx⟩ := List.mem_flatMap.1 hx
      have hi2 : i < list.length := by have := List.mem_range'_1.1 hi; omega
      split at hx
      · rename_i hm
        have hf := may_free list st i hi2 hm
        refine ih (st ++ [(i : Int)]) (fun y hy => ?_) (by simp; omega) x hx
        rcases List.mem_append.1 hy with hy | hy
        · exact h y hy
        · have := List.mem_singleton.1 hy; omega
      · cases hx
theorem allS_inside (list : List Thing) : ∀ x ∈ allS list, Inside list x ∧ x.length ≤ list.length := treeV_inside list _ [] (fun x hx => by cases hx) (by rw [free_nil]; simp)

/-- How many have that length. -/
def cnt (L : List (List Int)) (many : Int) : Int := ((L.filter (fun st : List Int => (st.length : Int) == many)).length : Int)
theorem cnt_le (L : List (List Int)) (many : Int) : 0 ≤ cnt L many ∧ cnt L many ≤ (L.length : Int) := by
  unfold cnt
  have := List.length_filter_le (fun st : List Int => (st.length : Int) == many) L
  omega
theorem cnt_cons (st : List Int) (L : List (List Int)) (many : Int) : cnt (st :: L) many = bitI ((st.length : Int) == many) + cnt L many := by
  unfold cnt bitI
  rw [List.filter_cons]
  split
  · simp only [List.length_cons]; omega
  · omega
theorem count_fold (many : Int) : ∀ (L : List (List Int)) (c : Int), 0 ≤ c → c + (L.length : Int) ≤ 1000000000 → L.foldl (countStep many) c = c + cnt L many := by
  intro L
  induction L with
  | nil => intro c _ _; simp [cnt]
  | cons st L ih =>
    intro c h0 hl
    simp only [List.length_cons] at hl
    have hb : 0 ≤ bitI ((st.length : Int) == many) ∧ bitI ((st.length : Int) == many) ≤ 1 := by unfold bitI; split <;> omega
    rw [List.foldl_cons, cnt_cons, show countStep many c st = c + bitI ((st.length : Int) == many) from w64 (by omega) (by omega), ih _ (by omega) (by omega)]
    omega
theorem countAll_eq {list : List Thing} (h : list.length ≤ 7) (many : Int) : countAll list many = cnt (allS list) many := by
  have := allS_length h
  unfold countAll
  rw [count_fold many _ 0 (by omega) (by omega)]
  omega
theorem countSafe_l0 (L : List (List Int)) (many : Int) (hn : L.length ≤ 1000000000) : ∀ d k i c, i + d = L.length → d < k → 0 ≤ c → c ≤ (i : Int) →
    spec_CountSafe.l0 k many c L (L.length : Int) (i : Int) = some (c + cnt (L.drop i) many, true) := by
  intro d
  induction d with
  | zero =>
    intro k i c hi hk h0 hc
    obtain ⟨k, rfl⟩ : ∃ m, k = m + 1 := ⟨k - 1, by omega⟩
    simp only [spec_CountSafe.l0]; rw [if_neg (by omega), List.drop_of_length_le (by omega)]; simp [cnt]
  | succ d ih =>
    intro k i c hi hk h0 hc
    obtain ⟨k, rfl⟩ : ∃ m, k = m + 1 := ⟨k - 1, by omega⟩
    have hlt : i < L.length := by omega
    have hrd : rd_L5 L (i : Int) = L[i] := by simp [rd_L5, List.getD_eq_getElem?_getD, hlt]
    simp only [spec_CountSafe.l0]
    rw [if_pos (by omega), if_pos (by omega), if_pos (by omega), hrd, w64 (i := (i : Int) + 1) (by omega) (by omega), w64 (i := c + 1) (by omega) (by omega), List.drop_eq_getElem_cons hlt, cnt_cons, show (i : Int) + 1 = ((i + 1 : Nat) : Int) by omega]
    by_cases h : (L[i].length : Int) = many
    · rw [if_pos h, ih k (i + 1) (c + 1) (by omega) (by omega) (by omega) (by omega), beq_iff_eq.mpr h]
      simp only [bitI, if_true, Option.some.injEq, Prod.mk.injEq, and_true]
      omega
    · rw [if_neg h, ih k (i + 1) c (by omega) (by omega) (by omega) (by omega), beq_eq_false_iff_ne.mpr h]
      simp only [bitI, Bool.false_eq_true, if_false, Option.some.injEq, Prod.mk.injEq, and_true]
      omega
theorem orders_l0 (list : List Thing) (L : List (List Int)) (hn : L.length ≤ 1000000000) : ∀ d k i out, i + d = L.length → d < k → out.length ≤ i →
    spec_scOrders.l0 k list out L (L.length : Int) (i : Int) = some (out ++ (L.drop i).filter (fun st : List Int => (st.length : Int) == (list.length : Int))) := by
  intro d
  induction d with
  | zero =>
    intro k i out hi hk ho
    obtain ⟨k, rfl⟩ : ∃ m, k = m + 1 := ⟨k - 1, by omega⟩
    simp only [spec_scOrders.l0]; rw [if_neg (by omega), List.drop_of_length_le (by omega)]; simp
  | succ d ih =>
    intro k i out hi hk ho
    obtain ⟨k, rfl⟩ : ∃ m, k = m + 1 := ⟨k - 1, by omega⟩
    have hlt : i < L.length := by omega
    have hrd : rd_L5 L (i : Int) = L[i] := by simp [rd_L5, List.getD_eq_getElem?_getD, hlt]
    simp only [spec_scOrders.l0]
    rw [if_pos (by omega), if_pos (by omega), if_pos (by omega), hrd, w64 (i := (i : Int) + 1) (by omega) (by omega), List.drop_eq_getElem_cons hlt, List.filter_cons, show (i : Int) + 1 = ((i + 1 : Nat) : Int) by omega]
    by_cases h : (L[i].length : Int) = (list.length : Int)
    · rw [if_pos h, if_pos (by omega), ih k (i + 1) _ (by omega) (by omega) (by simp; omega), if_pos (beq_iff_eq.mpr h), List.append_assoc]
      rfl
    · rw [if_neg h, ih k (i + 1) out (by omega) (by omega) (by omega), if_neg (by rw [beq_eq_false_iff_ne.mpr h]; decide)]
/-- All safe orders. -/
def ordersL (list : List Thing) : List (List Int) := (allS list).filter (fun st : List Int => (st.length : Int) == (list.length : Int))
theorem scOrders_eq {list : List Thing} (hS : Sound list) (k : Nat) (hk : 100000000 ≤ k) : spec_scOrders.f k list = some (ordersL list) := by
  have hl := allS_length hS.1
  unfold spec_scOrders.f
  rw [scAll_all hS k (by omega)]
  have := orders_l0 list (allS list) (by omega) (allS list).length k 0 [] (by omega) (by omega) (by simp)
  simpa [ordersL] using this

theorem good_cases (list : List Thing) (hm : list.length ≤ 10000000) : ∃ t : Bool, impl_AreStackable.f list = some t ∧ (∀ k, list.length < k → spec_scGood.f k list = some t) ∧ (t = true → Sound list) := by
  obtain ⟨t, ht⟩ : ∃ t, impl_AreStackable.f list = some t := ⟨_, rfl⟩
  exact ⟨t, ht, fun k hk => (scGood_eq list (by omega) k hk).trans ht, fun h => sound_of (h ▸ ht)⟩

theorem within_eq (a lo hi : Int) : impl_within.f a lo hi = some (decide (lo ≤ a) && decide (a ≤ hi)) := by
  unfold impl_within.f
  by_cases h : lo ≤ a
  · rw [if_pos h]; simp [h]
  · rw [if_neg h]; simp [h]
theorem countSafe_both (list : List Thing) (many : Int) (hm : list.length ≤ 10000000) : ∃ r : Int × Bool, Ev (fun k => spec_CountSafe.f k list many) r ∧ Ev (fun _ => impl_CountSafe.f list many) r := by
  obtain ⟨t, h1, h2, h3⟩ := good_cases list hm
  unfold spec_CountSafe.f impl_CountSafe.f
  cases t with
  | false =>
    refine ⟨(0, false), Ev_from (list.length + 1) fun k hk => ?_, Ev_from 0 fun k _ => by rw [h1]; rfl⟩
    obtain ⟨k, rfl⟩ : ∃ m, k = m + 1 := ⟨k - 1, by omega⟩
    rw [h2 _ (by omega)]; simp [spec_CountSafe.j0]
  | true =>
    have hS := h3 rfl
    have hl := allS_length hS.1
    cases hin : (decide (0 ≤ many) && decide (many ≤ (list.length : Int))) with
    | false =>
      refine ⟨(0, false), Ev_from (list.length + 1) fun k hk => ?_, Ev_from 0 fun k _ => ?_⟩
      · obtain ⟨k, rfl⟩ : ∃ m, k = m + 1 := ⟨k - 1, by omega⟩
        rw [h2 _ (by omega)]; simp only [Option.bind_some, if_true]; rw [inThing, hin]; simp [spec_CountSafe.j0]
      · rw [h1]; simp only [Option.bind_some, if_true]; rw [within_eq, hin]; rfl
    | true =>
      refine ⟨(cnt (allS list) many, true), Ev_from 100000000 fun k hk => ?_, Ev_from 0 fun k _ => ?_⟩
      · obtain ⟨k, rfl⟩ : ∃ m, k = m + 1 := ⟨k - 1, by omega⟩
        rw [h2 _ (by have := hS.1; omega)]; simp only [Option.bind_some, if_true]; rw [inThing, hin]
        simp only [Option.bind_some, Bool.not_true, spec_CountSafe.j0]
        rw [if_neg (by decide), scAll_all hS k (by omega)]
        have := countSafe_l0 (allS list) many (by omega) (allS list).length k 0 0 (by omega) (by omega) (by omega) (by omega)
        simpa using this
      · rw [h1]; simp only [Option.bind_some, if_true]; rw [within_eq, hin]; simp only [Option.bind_some, if_true]
        unfold impl_countSafe.f
        rw [if_pos (by have := hS.1; omega), countAll_eq hS.1]
        rfl
theorem canStackAll_both (list : List Thing) (hm : list.length ≤ 10000000) : ∃ r : Bool × Bool, Ev (fun k => spec_CanStackAll.f k list) r ∧ Ev (fun _ => impl_CanStackAll.f list) r := by
  obtain ⟨t, h1, h2, h3⟩ := good_cases list hm
  unfold spec_CanStackAll.f impl_CanStackAll.f
  cases t with
  | false => exact ⟨(false, false), Ev_from list.length fun k hk => by rw [h2 k hk]; rfl, Ev_from 0 fun k _ => by rw [h1]; rfl⟩
  | true =>
    have hS := h3 rfl
    refine ⟨(decide (((ordersL list).length : Int) > 0), true), Ev_from 100000000 fun k hk => ?_, Ev_from 0 fun k _ => ?_⟩
    · rw [h2 k (by have := hS.1; omega)]; simp only [Option.bind_some, if_true]; rw [scOrders_eq hS k (by omega)]; rfl
    · rw [h1]; simp only [Option.bind_some, if_true]
      unfold impl_countSafe.f
      rw [if_pos (by have := hS.1; omega), countAll_eq hS.1]
      rfl
theorem countSafeOrders_both (list : List Thing) (hm : list.length ≤ 10000000) : ∃ r : Int × Bool, Ev (fun k => spec_CountSafeOrders.f k list) r ∧ Ev (fun _ => impl_CountSafeOrders.f list) r := by
  obtain ⟨t, h1, h2, h3⟩ := good_cases list hm
  unfold spec_CountSafeOrders.f impl_CountSafeOrders.f impl_CountSafe.f
  cases t with
  | false => exact ⟨(0, false), Ev_from list.length fun k hk => by rw [h2 k hk]; rfl, Ev_from 0 fun k _ => by rw [h1]; rfl⟩
  | true =>
    have hS := h3 rfl
    refine ⟨(((ordersL list).length : Int), true), Ev_from 100000000 fun k hk => ?_, Ev_from 0 fun k _ => ?_⟩
    · rw [h2 k (by have := hS.1; omega)]; simp only [Option.bind_some, if_true]; rw [scOrders_eq hS k (by omega)]; rfl
    · rw [h1]; simp only [Option.bind_some, if_true]
      rw [within_eq]
      simp only [Option.bind_some]
      rw [if_pos (by simp)]
      unfold impl_countSafe.f
      rw [if_pos (by have := hS.1; omega), countAll_eq hS.1]
      rfl

/-! the longest and the highest -/
def longer (b st : List Int) : List Int := if b.length < st.length then st else b
theorem len_fold : ∀ (L : List (List Int)) (b : List Int), L.foldl (bestStepS (fun st => (st.length : Int))) (b, (b.length : Int)) = (L.foldl longer b, ((L.foldl longer b).length : Int)) := by
  intro L
  induction L with
  | nil => intro b; rfl
  | cons st L ih =>
    intro b
    rw [List.foldl_cons, List.foldl_cons]
    unfold bestStepS longer
    by_cases h : b.length < st.length
    · rw [if_pos (by simp only; omega), if_pos h]; exact ih st
    · rw [if_neg (by simp only; omega), if_neg h]; exact ih b
theorem bestLen_eq (list : List Thing) : (bestAllS list (fun st => (st.length : Int))).1 = (allS list).foldl longer [] := by
  unfold bestAllS
  rw [allS_cons, List.foldl_cons, List.foldl_cons, show bestStepS (fun st : List Int => (st.length : Int)) ([], -1) [] = ([], (([] : List Int).length : Int)) by simp [bestStepS], len_fold]
  rfl
theorem most_l0 (L : List (List Int)) (hn : L.length ≤ 1000000000) : ∀ d k i b, i + d = L.length → d < k → spec_MostStacked.l0 k b L (L.length : Int) (i : Int) = some ((L.drop i).foldl longer b, true) := by
  intro d
  induction d with
  | zero =>
    intro k i b hi hk
    obtain ⟨k, rfl⟩ : ∃ m, k = m + 1 := ⟨k - 1, by omega⟩
    simp only [spec_MostStacked.l0]; rw [if_neg (by omega), List.drop_of_length_le (by omega)]; rfl
  | succ d ih =>
    intro k i b hi hk
    obtain ⟨k, rfl⟩ : ∃ m, k = m + 1 := ⟨k - 1, by omega⟩
    have hlt : i < L.length := by omega
    have hrd : rd_L5 L (i : Int) = L[i] := by simp [rd_L5, List.getD_eq_getElem?_getD, hlt]
    simp only [spec_MostStacked.l0]
    rw [if_pos (by omega), if_pos (by omega), if_pos (by omega), hrd, w64 (i := (i : Int) + 1) (by omega) (by omega), List.drop_eq_getElem_cons hlt, List.foldl_cons, show (i : Int) + 1 = ((i + 1 : Nat) : Int) by omega]
    unfold longer
    by_cases h : b.length < L[i].length
    · rw [if_pos (by omega), if_pos h]; exact ih k (i + 1) L[i] (by omega) (by omega)
    · rw [if_neg (by omega), if_neg h]; exact ih k (i + 1) b (by omega) (by omega)
theorem longer_len : ∀ (L : List (List Int)) (b : List Int) (n : Nat), b.length ≤ n → (∀ st ∈ L, st.length ≤ n) → (L.foldl longer b).length ≤ n := by
  intro L
  induction L with
  | nil => intro b n h _; exact h
  | cons st L ih =>
    intro b n h hL
    rw [List.foldl_cons]
    refine ih _ n ?_ (fun x hx => hL x (List.mem_cons_of_mem _ hx))
    unfold longer
    split
    · exact hL st List.mem_cons_self
    · exact h
theorem mostStacked_both (list : List Thing) (hm : list.length ≤ 10000000) : ∃ r : List Int × Bool, Ev (fun k => spec_MostStacked.f k list) r ∧ Ev (fun _ => impl_MostStacked.f list) r ∧ r.1.length ≤ 10000000 := by
  obtain ⟨t, h1, h2, h3⟩ := good_cases list hm
  unfold spec_MostStacked.f impl_MostStacked.f
  cases t with
  | false => exact ⟨([], false), Ev_from list.length fun k hk => by rw [h2 k hk]; rfl, Ev_from 0 fun k _ => by rw [h1]; rfl, by simp⟩
  | true =>
    have hS := h3 rfl
    have hl := allS_length hS.1
    refine ⟨((allS list).foldl longer [], true), Ev_from 100000000 fun k hk => ?_, Ev_from 0 fun k _ => ?_, ?_⟩
    · rw [h2 k (by have := hS.1; omega)]; simp only [Option.bind_some, if_true]; rw [scAll_all hS k (by omega)]
      have := most_l0 (allS list) (by omega) (allS list).length k 0 [] (by omega) (by omega)
      simpa using this
    · rw [h1]; simp only [Option.bind_some, if_true]; rw [if_pos (by have := hS.1; omega), bestLen_eq]
    · have := longer_len (allS list) [] 7 (by simp) (fun st hst => by have := (allS_inside list st hst).2; have := hS.1; omega)
      simp only; omega
theorem first_full (n : Nat) : ∀ (L : List (List Int)) (b : List Int), b.length ≤ n → (∀ st ∈ L, st.length ≤ n) → (b.length = n → L.foldl longer b = b) ∧
    (b.length < n → (L.filter (fun st : List Int => (st.length : Int) == (n : Int)) = [] → (L.foldl longer b).length < n) ∧ ∀ x xs, L.filter (fun st : List Int => (st.length : Int) == (n : Int)) = x :: xs → L.foldl longer b = x) := by
  intro L
  induction L with
  | nil => intro b _ _; exact ⟨fun _ => rfl, fun h => ⟨fun _ => h, fun x xs e => by cases e⟩⟩
  | cons st L ih =>
    intro b hb hL
    have hst := hL st List.mem_cons_self
    have hL' := fun x hx => hL x (List.mem_cons_of_mem st hx)
    rw [List.foldl_cons, List.filter_cons]
    refine ⟨fun h => ?_, fun h => ?_⟩
    · rw [show longer b st = b by unfold longer; rw [if_neg (by omega)]]
      exact (ih b hb hL').1 h
    · by_cases he : st.length = n
      · rw [if_pos (beq_iff_eq.mpr (by omega)), show longer b st = st by unfold longer; rw [if_pos (by omega)], (ih st hst hL').1 he]
        exact ⟨fun e => (by cases e), fun x xs e => (by injection e)⟩
      · rw [if_neg (by rw [beq_eq_false_iff_ne.mpr (by omega)]; decide)]
        have hlt : (longer b st).length < n := by unfold longer; split <;> omega
        exact (ih (longer b st) (by omega) hL').2 hlt
theorem safeOrder_both (list : List Thing) (hm : list.length ≤ 10000000) : ∃ r : List Int × Bool, Ev (fun k => spec_SafeOrder.f k list) r ∧ Ev (fun _ => impl_SafeOrder.f list) r ∧ r.1.length ≤ 10000000 := by
  obtain ⟨t, h1, h2, h3⟩ := good_cases list hm
  unfold spec_SafeOrder.f impl_SafeOrder.f impl_MostStacked.f
  cases t with
  | false => exact ⟨([], false), Ev_from list.length fun k hk => by rw [h2 k hk]; rfl, Ev_from 0 fun k _ => by rw [h1]; rfl, by simp⟩
  | true =>
    have hS := h3 rfl
    have h1len : 1 ≤ list.length := by
      unfold impl_AreStackable.f at h1
      injection h1 with h1
      simp only [Bool.and_eq_true, decide_eq_true_eq] at h1
      exact h1.1.1
    have hin := fun st hst => (allS_inside list st hst).2
    have hff := (first_full list.length (allS list) [] (by simp) hin).2 (by simp only [List.length_nil]; omega)
    have h7 := hS.1
    cases ho : ordersL list with
    | nil =>
      refine ⟨([], false), Ev_from 100000000 fun k hk => ?_, Ev_from 0 fun k _ => ?_, by simp⟩
      · rw [h2 k (by omega)]; simp only [Option.bind_some, if_true]; rw [scOrders_eq hS k (by omega), ho]; rfl
      · have := hff.1 ho
        rw [h1]; simp only [Option.bind_some, if_true]; rw [if_pos (by omega), bestLen_eq]
        simp only [Option.bind_some, if_true]
        rw [if_pos (by omega)]
    | cons x xs =>
      have hx := hff.2 x xs ho
      have hxl : x.length = list.length := by
        have hmem : x ∈ ordersL list := by rw [ho]; exact List.mem_cons_self
        unfold ordersL at hmem
        have := (List.mem_filter.1 hmem).2
        have := beq_iff_eq.1 this
        omega
      refine ⟨(x, true), Ev_from 100000000 fun k hk => ?_, Ev_from 0 fun k _ => ?_, by simp only; omega⟩
      · rw [h2 k (by omega)]; simp only [Option.bind_some, if_true]; rw [scOrders_eq hS k (by omega), ho]
        simp only [Option.bind_some, List.length_cons]
        rw [if_neg (by omega), if_pos (by omega)]
        rfl
      · rw [h1]; simp only [Option.bind_some, if_true]; rw [if_pos (by omega), bestLen_eq, hx]
        simp only [Option.bind_some, if_true]
        rw [if_neg (by omega)]
theorem scHigh_l0 (list : List Thing) (st : List Int) (hw : Inside list st) (hn : st.length ≤ 1000000000) : ∀ d k i s, i + d = st.length → d < k →
    spec_scHigh.l0 k list s st (st.length : Int) (i : Int) = some ((st.drop i).foldl (fun s i => wrap64 (s + (rd_T49 list i).f2)) s) := by
  intro d
  induction d with
  | zero =>
    intro k i s hi hk
    obtain ⟨k, rfl⟩ : ∃ q, k = q + 1 := ⟨k - 1, by omega⟩
    simp only [spec_scHigh.l0]; rw [if_neg (by omega), List.drop_of_length_le (by omega)]; rfl
  | succ d ih =>
    intro k i s hi hk
    obtain ⟨k, rfl⟩ : ∃ q, k = q + 1 := ⟨k - 1, by omega⟩
    have hlt : i < st.length := by omega
    have hin := hw st[i] (List.getElem_mem hlt)
    simp only [spec_scHigh.l0]
    rw [if_pos (by omega), if_pos (by omega), if_pos (by omega), rd_nat st i hlt, if_pos hin.1, if_pos hin.2, w64 (i := (i : Int) + 1) (by omega) (by omega), List.drop_eq_getElem_cons hlt, List.foldl_cons]
    have := ih k (i + 1) (wrap64 (s + (rd_T49 list st[i]).f2)) (by omega) (by omega)
    rw [show ((i + 1 : Nat) : Int) = (i : Int) + 1 by omega] at this
    exact this
theorem scHigh_eq (list : List Thing) (st : List Int) (hw : Inside list st) (hn : st.length ≤ 1000000000) (k : Nat) (hk : st.length < k) : spec_scHigh.f k list st = some (highV list st) := by
  unfold spec_scHigh.f
  have := scHigh_l0 list st hw hn st.length k 0 0 (by omega) hk
  simpa [highV] using this
theorem tallest_l0 (list : List Thing) (L : List (List Int)) (hn : L.length ≤ 1000000000) (hin : ∀ x ∈ L, Inside list x ∧ x.length ≤ 1000) : ∀ d k i (s : BestS), i + d = L.length → d + 2000 < k →
    spec_TallestStack.l0 k list s.1 s.2 L (L.length : Int) (i : Int) = some (((L.drop i).foldl (bestStepS (highV list)) s).1, ((L.drop i).foldl (bestStepS (highV list)) s).2, true) := by
  intro d
  induction d with
  | zero =>
    intro k i s hi hk
    obtain ⟨k, rfl⟩ : ∃ m, k = m + 1 := ⟨k - 1, by omega⟩
    simp only [spec_TallestStack.l0]; rw [if_neg (by omega), List.drop_of_length_le (by omega)]; rfl
  | succ d ih =>
    intro k i s hi hk
    obtain ⟨k, rfl⟩ : ∃ m, k = m + 1 := ⟨k - 1, by omega⟩
    have hlt : i < L.length := by omega
    have hx := hin _ (List.getElem_mem hlt)
    have hrd : rd_L5 L (i : Int) = L[i] := by simp [rd_L5, List.getD_eq_getElem?_getD, hlt]
    simp only [spec_TallestStack.l0]
    rw [if_pos (by omega), if_pos (by omega), if_pos (by omega), hrd, scHigh_eq list L[i] hx.1 (by omega) k (by omega), w64 (i := (i : Int) + 1) (by omega) (by omega), List.drop_eq_getElem_cons hlt, List.foldl_cons, show (i : Int) + 1 = ((i + 1 : Nat) : Int) by omega]
    simp only [Option.bind_some]
    by_cases h : s.2 < highV list L[i]
    · rw [if_pos h, show bestStepS (highV list) s L[i] = (L[i], highV list L[i]) by unfold bestStepS; rw [if_pos h]]
      exact ih k (i + 1) (L[i], highV list L[i]) (by omega) (by omega)
    · rw [if_neg h, show bestStepS (highV list) s L[i] = s by unfold bestStepS; rw [if_neg h]]
      exact ih k (i + 1) s (by omega) (by omega)
theorem best_mem (sc : List Int → Int) : ∀ (L : List (List Int)) (s : BestS) (n : Nat), s.1.length ≤ n → (∀ x ∈ L, x.length ≤ n) → (L.foldl (bestStepS sc) s).1.length ≤ n := by
  intro L
  induction L with
  | nil => intro s n h _; exact h
  | cons st L ih =>
    intro s n h hL
    rw [List.foldl_cons]
    refine ih _ n ?_ (fun x hx => hL x (List.mem_cons_of_mem _ hx))
    unfold bestStepS
    split
    · exact hL st List.mem_cons_self
    · exact h
theorem tallest_both (list : List Thing) (hm : list.length ≤ 10000000) : ∃ r : List Int × Int × Bool, Ev (fun k => spec_TallestStack.f k list) r ∧ Ev (fun _ => impl_TallestStack.f list) r ∧ r.1.length ≤ 10000000 := by
  obtain ⟨t, h1, h2, h3⟩ := good_cases list hm
  unfold spec_TallestStack.f impl_TallestStack.f
  cases t with
  | false => exact ⟨([], 0, false), Ev_from list.length fun k hk => by rw [h2 k hk]; rfl, Ev_from 0 fun k _ => by rw [h1]; rfl, by simp⟩
  | true =>
    have hS := h3 rfl
    have hl := allS_length hS.1
    have h7 := hS.1
    have hstart : bestAllS list (highV list) = (allS list).foldl (bestStepS (highV list)) ([], 0) := by
      unfold bestAllS
      rw [allS_cons, List.foldl_cons, List.foldl_cons]
      rfl
    refine ⟨(((allS list).foldl (bestStepS (highV list)) ([], 0)).1, ((allS list).foldl (bestStepS (highV list)) ([], 0)).2, true), Ev_from 100000000 fun k hk => ?_, Ev_from 0 fun k _ => ?_, ?_⟩
    · rw [h2 k (by omega)]; simp only [Option.bind_some, if_true]; rw [scAll_all hS k (by omega)]
      have := tallest_l0 list (allS list) (by omega) (fun x hx => by have := allS_inside list x hx; exact ⟨this.1, by omega⟩) (allS list).length k 0 ([], 0) (by omega) (by omega)
      simpa using this
    · rw [h1]; simp only [Option.bind_some, if_true]; rw [if_pos (by omega), hstart]
    · have := best_mem (highV list) (allS list) ([], 0) 7 (by simp) (fun x hx => by have := (allS_inside list x hx).2; omega)
      simp only; omega
end Go.Proofs.Ytbmefldckdaopaa.Q

namespace Go.Proofs.Ytbmefldckdaopaa.Q
open Go.RowKit Go.Proofs.YtbmefldckdaopaaW.PrintWords Go.Proofs.YtbmefldckdaopaaW.PrintLast Go.Proofs.YtbmefldckdaopaaW.PrintMore
set_option linter.unusedVariables false
set_option linter.unusedSimpArgs false

def marksThing (a : Int) (n : Nat) : List S49 := (List.range n).map fun (j : Nat) => ⟨a + 3 * (j : Int), a + 3 * (j : Int) + 1, a + 3 * (j : Int) + 2⟩
theorem marksThing_length (a : Int) (n : Nat) : (marksThing a n).length = n := by simp [marksThing]

theorem markThingS_l0 (a : Int) (n : Nat) (h0 : 0 ≤ a) (hn : a + 3 * n ≤ 100000000000000) : ∀ d k i (x : List S49), i + d = n → d < k → x.length = n →
    ∃ y, laws_markThingS.l0 k x (a + 3 * (i : Int)) (i : Int) = some (a + 3 * (n : Int), y) ∧ y.length = n := by
  intro d
  induction d with
  | zero =>
    intro k i x hi hk hx
    obtain ⟨k, rfl⟩ : ∃ m, k = m + 1 := ⟨k - 1, by omega⟩
    simp only [laws_markThingS.l0]; rw [if_neg (by omega)]
    have : i = n := by omega
    subst this
    exact ⟨x, rfl, hx⟩
  | succ d ih =>
    intro k i x hi hk hx
    obtain ⟨k, rfl⟩ : ∃ m, k = m + 1 := ⟨k - 1, by omega⟩
    simp only [laws_markThingS.l0]
    rw [if_pos (by omega), if_pos (by omega)]
    simp only [Option.bind_some]
    rw [w64Thing (i := a + 3 * (i : Int) + 1) (by omega) (by omega), w64Thing (i := a + 3 * (i : Int) + 1 + 1) (by omega) (by omega), w64Thing (i := a + 3 * (i : Int) + 1 + 1 + 1) (by omega) (by omega), w64Thing (i := (i : Int) + 1) (by omega) (by omega)]
    rw [show a + 3 * (i : Int) + 1 + 1 + 1 = a + 3 * ((i + 1 : Nat) : Int) by omega, show (i : Int) + 1 = ((i + 1 : Nat) : Int) by omega]
    exact ih k (i + 1) _ (by omega) (by omega) (by simp [hx])
/-- Marking counts on, whatever it writes. -/
theorem markThingS_eq (x : List S49) (a : Int) (h0 : 0 ≤ a) (hn : a + 3 * x.length ≤ 100000000000000) (k : Nat) (hk : x.length < k) : ∃ y, laws_markThingS.f k x a = some (a + 3 * (x.length : Int), y) := by
  unfold laws_markThingS.f
  obtain ⟨y, h, _⟩ := markThingS_l0 a x.length h0 hn x.length k 0 x (by omega) hk rfl
  exact ⟨y, by simpa using h⟩
theorem markThingS_ev (x : List S49) (h : x.length ≤ 10000000) (a : Int) (h0 : 0 ≤ a) (hn : a ≤ 10000000000) : ∃ y, Ev (fun k => laws_markThingS.f k x a) (a + 3 * (x.length : Int), y) := by
  obtain ⟨y, hy⟩ := markThingS_eq x a h0 (by omega) (x.length + 1) (by omega)
  exact ⟨y, Ev.of (fun k => laws_markThingS.mono x a k) hy⟩
end Go.Proofs.Ytbmefldckdaopaa.Q

namespace Go.Proofs.Ytbmefldckdaopaa.Pure
open Go.RowKit Go.Proofs.Ytbmefldckdaopaa.Q Go.Proofs.YtbmefldckdaopaaW.PrintWords Go.Proofs.YtbmefldckdaopaaW.PrintLast
set_option linter.unusedVariables false
set_option linter.unusedSimpArgs false

set_option maxHeartbeats 2000000 in
set_option maxRecDepth 10000 in
theorem FnExactSafeOrder : ∀ (l0 : List S51), l0.length ≤ maxLen → l0.length * 24 ≤ 140737488351232 → (∀ x ∈ l0, (Lit.int .i64 x.f0).wf = true ∧ (Lit.int .i64 x.f1).wf = true ∧ (Lit.int .i64 x.f2).wf = true) → ∃ k, laws_FnExactSafeOrder.f k l0 = some true := by
  intro l0 _ h0 g0
  refine Ev.rounds (g := fun k => laws_FnExactSafeOrder.f k l0) ?_
  by_cases hl0 : l0.length ≤ 1048576
  · skip
    have hm0 : (l0.map cvThing).length ≤ 1048576 := by simpa using hl0
    obtain ⟨r, hs, hi, hb0⟩ := safeOrder_both (l0.map cvThing) (by omega)
    obtain ⟨y0, hy0⟩ := markThingS_ev (l0.map cvThing) (by omega) 1 (by omega) (by omega)
    simp only [laws_FnExactSafeOrder.f, szThingS_small l0 hl0, Option.bind_some]
    repeat' (first
      | exact Ev_some _
      | (simp (disch := omega) only [Option.bind_some, if_neg, if_pos, bne_self_eq_false, Bool.false_eq_true, if_false, if_true, eq_self])
      | refine Ev.bind (toThingS_ev l0 (by omega)) ?_
      | refine Ev.bind (eqThingS_ev (l0.map cvThing) (by omega)) ?_
      | refine Ev.bind hy0 ?_
      | refine Ev.bind hs ?_
      | refine Ev.bind hi ?_
      | refine Ev.bind (eqIntS_ev r.1 hb0) ?_
      | refine Ev.bind (markIntS_ev r.1 hb0 1 (by omega) (by omega)) ?_
      | refine Ev.bind (heldIntS_ev r.1.length hb0 1 (by omega) (by omega)) ?_
      | refine Ev.step (fun k => by rw [laws_FnExactSafeOrder.j0]) ?_
      | refine Ev.step (fun k => by rw [laws_FnExactSafeOrder.j1]) ?_
      | refine Ev.step (fun k => by rw [laws_FnExactSafeOrder.j2]) ?_)
  · simp only [laws_FnExactSafeOrder.f, szThingS_great l0 (by omega) (by omega)]
    simp (disch := omega) only [Option.bind_some, if_neg, if_pos]
    exact Ev_some _
end Go.Proofs.Ytbmefldckdaopaa.Pure

namespace Go.Proofs.Ytbmefldckdaopaa.HO
open Go.ChangeShapes Go.WideShapes Go.Deep Go.RowKit Go.Proofs.YtbmefldckdaopaaW.PrintWords
set_option linter.unusedVariables false
section
variable {H : Type} {enc : TypeId × Value → H} {P : Program} {w : World} {base : Nat} {spare : Nat → Bool} {held : Bool}

/-- A slice of structs of n whole numbers each, opened: F i j is field j of element i. -/
theorem open_ints_struct {t e : TypeId} {fs : Array Field} {fuel : Nat} {cs : List Value} {x : DataW H × List MemPlace} (ht : P.underlying t = some (.slice e)) (he : P.underlying e = some (.struct fs))
    (hone : oneCellFields P fs = true) (hC : P.cellsOf e = fs.size) (hk : ∀ (j : Nat) (f : Field), fs[j]? = some f → P.underlying f.type = some (.int .i64)) (h : DataW.trod enc P w base spare held fuel t cs = some x) :
    (cs = [.slice none 0 0] ∧ x = (.nil, [])) ∨
    ∃ (a : Addr) (len cap : Nat) (F : Nat → Nat → Int) (el sp : List (DataW H)) (ps : List MemPlace), cs = [.slice (some a) len cap] ∧ len ≤ cap ∧ cap ≤ maxLen ∧ x = (.slice el sp, ps) ∧ el.length = len ∧
      ∀ i, i < len → ∀ j, j < fs.size → w.cell? (a.add (i * fs.size + j)) = some (.int .i64 (F i j)) ∧ (Lit.int .i64 (F i j)).wf = true := by
  rcases open_slice ht h with h0 | ⟨a, len, cap, m, n, D, Pl, hcs, hb, hl, hm, hmm, hx, hi⟩
  · exact .inl h0
  · have hlm : len ≤ m := by rw [hmm]; split <;> omega
    have key : ∀ i, i < len → ∃ G : Nat → Int, ∀ j, j < fs.size → w.cell? (a.add (i * fs.size + j)) = some (.int .i64 (G j)) ∧ (Lit.int .i64 (G j)).wf = true := fun i hil => by
      obtain ⟨cs', hc, ht'⟩ := hi i (by omega)
      rw [hC] at hc
      obtain ⟨ys, n', hn', hy, hlen, hyl, hf⟩ := DataW.trod_struct he ht'
      obtain ⟨_, hcl, hat⟩ := World.cells?_some hc
      refine choose_lt (α := Int) (p := fun j v => w.cell? (a.add (i * fs.size + j)) = some (.int .i64 v) ∧ (Lit.int .i64 v).wf = true) (fun j hj => ?_)
      have hfj : fs[j]? = some fs[j] := Array.getElem?_eq_getElem hj
      obtain ⟨ho, hk1⟩ := hone_of hone j _ hfj
      have hcell := hat j hj
      have hv : cs'[j]? = some (cs'[j]'(by omega)) := List.getElem?_eq_getElem (by omega)
      have h1 := hf j _ hfj
      rw [ho, hk1] at h1
      have hone' : (cs'.drop j).take 1 = [cs'[j]'(by omega)] := by
        rw [List.drop_eq_getElem_cons (by omega)]
        rfl
      rw [hone'] at h1
      have hys : ys[j]? = some (ys[j]'(by omega)) := List.getElem?_eq_getElem (by omega)
      obtain ⟨v, e0, _, wv⟩ := DataW.trod_int (hk j _ hfj) (h1.trans hys)
      refine ⟨v, ?_, wv⟩
      rw [← Go.Deep.add_add, hcell, hv]
      simp only [List.cons.injEq, and_true] at e0
      rw [e0]
    obtain ⟨F, hF⟩ := choose_lt (α := Nat → Int) (p := fun i G => ∀ j, j < fs.size → w.cell? (a.add (i * fs.size + j)) = some (.int .i64 (G j)) ∧ (Lit.int .i64 (G j)).wf = true) key
    exact .inr ⟨a, len, cap, F, _, _, _, hcs, hl, hm, hx, by simp, hF⟩

/-- The same of an argument: the numbers, and how many at most. -/
theorem open_structs {t e : TypeId} {fs : Array Field} {a : Option Addr} {len cap : Nat} {d : DataW H} {ps : List MemPlace} {ts : List TypeId} {ds : List (DataW H)} {j : Nat}
    (hsz : (DataW.weightsEach P ts ds).all (· ≤ reachBytes) = true) (htj : ts[j]? = some t) (hdj : ds[j]? = some d) (ht : P.underlying t = some (.slice e)) (he : P.underlying e = some (.struct fs))
    (hone : oneCellFields P fs = true) (hC : P.cellsOf e = fs.size) (hk : ∀ (j : Nat) (f : Field), fs[j]? = some f → P.underlying f.type = some (.int .i64)) {B : Nat} (hB : P.bytesOf e = B)
    (h : DataW.Trod enc P w base spare held t (.slice a len cap) d ps) :
    ∃ F : Nat → Nat → Int, len ≤ cap ∧ len ≤ maxLen ∧ len * B ≤ 140737488351232 ∧ (0 < len → ∃ ad, a = some ad ∧ ∀ i, i < len → ∀ j, j < fs.size → w.cell? (ad.add (i * fs.size + j)) = some (.int .i64 (F i j))) ∧ ∀ i, i < len → ∀ j, j < fs.size → (Lit.int .i64 (F i j)).wf = true := by
  obtain ⟨fuel, hf⟩ := h
  rcases open_ints_struct ht he hone hC hk hf with ⟨hcs, _⟩ | ⟨x, l, c, F, el, sp, ps', hcs, hl, hm, hx, hel, hF⟩
  · simp [Value.cells] at hcs
    obtain ⟨rfl, rfl, rfl⟩ := hcs
    exact ⟨fun _ _ => 0, by omega, by omega, by omega, fun h => absurd h (by omega), fun i hi => absurd hi (by omega)⟩
  · simp [Value.cells] at hcs
    obtain ⟨rfl, rfl, rfl⟩ := hcs
    obtain ⟨hx, _⟩ := Prod.mk.inj hx
    subst hx
    have z := sized_slice hsz htj hdj ht
    rw [hB, hel] at z
    refine ⟨F, hl, by omega, ?_, fun _ => ⟨x, rfl, fun i hi j hj => (hF i hi j hj).1⟩, fun i hi j hj => (hF i hi j hj).2⟩
    have : reachBytes = 140737488351232 := by decide
    rw [this] at z
    exact Nat.le_trans (Nat.mul_le_mul_right _ (by omega)) z

/-- A struct of two whole numbers, by value. -/
theorem open_pair {r : Reach} {b0 : Nat} {t : TypeId} {f0 f1 : Field} {v : Value} {d : DataW H} {p : List MemPlace} (hs : P.underlying t = some (.struct #[f0, f1])) (hone : oneCellFields P #[f0, f1] = true) (hC : P.cellsOf t = 2)
    (h0 : P.underlying f0.type = some (.int .i64)) (h1 : P.underlying f1.type = some (.int .i64)) (hv : Value.okWide P w r b0 t v) (h : DataW.Trod enc P w base spare held t v d p) :
    ∃ x y : Int, v = .agg #[.int .i64 x, .int .i64 y] ∧ p = [] ∧ (Lit.int .i64 x).wf = true ∧ (Lit.int .i64 y).wf = true := by
  obtain ⟨v0, v1, y0, y1, n, rfl, rfl, rfl, g0, g1⟩ := Go.Joins.open_agg2 hs hone hC hv h
  obtain ⟨x, e0, rfl, w0⟩ := DataW.trod_int h0 g0
  obtain ⟨y, e1, rfl, w1⟩ := DataW.trod_int h1 g1
  simp only [List.cons.injEq, and_true] at e0 e1
  subst e0 e1
  exact ⟨x, y, rfl, rfl, w0, w1⟩
end
end Go.Proofs.Ytbmefldckdaopaa.HO

namespace Go.Proofs.Ytbmefldckdaopaa.fnExactSafeOrder
open Go.ChangeShapes Go.WideShapes Go.ChangeAt Go.RowKit Go.Proofs.YtbmefldckdaopaaW Go.Proofs.YtbmefldckdaopaaW.PrintWords
open Go.ChangeMaps (open_string shut_string)
set_option linter.unusedVariables false
theorem own : ownKnob Try.prog.godebug = none := by kernel_rfl
theorem laidOut : laidOutB Try.prog = true := by kernel_rfl
theorem mk_C51 {w : World} {A : Option Addr} {n : Nat} {F : Nat → Nat → Int} (hn : n ≤ maxLen) (h : 0 < n → ∃ ad, A = some ad ∧ ∀ i, i < n → ∀ j, j < 3 → w.cell? (ad.add (i * 3 + j)) = some (.int .i64 (F i j))) (hw : ∀ i, i < n → ∀ j, j < 3 → (Lit.int .i64 (F i j)).wf = true) :
    ∃ l : List Q.S51, l.length = n ∧ Kd.C Q.k51 w A l.length l ∧ ∀ x ∈ l, (Lit.int .i64 x.f0).wf = true ∧ (Lit.int .i64 x.f1).wf = true ∧ (Lit.int .i64 x.f2).wf = true := by
  refine ⟨(List.range n).map fun i => ⟨F i 0, F i 1, F i 2⟩, by simp, ⟨rfl, by unfold maxLen at hn; simp; omega, fun h0 => ?_⟩, fun x hx => ?_⟩
  · rw [List.length_map, List.length_range] at h0
    obtain ⟨ad, ha, hc⟩ := h h0
    refine ⟨ad, ha, fun j p hj => ?_⟩
    rw [List.getElem?_map] at hj
    obtain ⟨i, hi, rfl⟩ := Option.map_eq_some_iff.1 hj
    have hji : j < n := by have := (List.getElem?_eq_some_iff.1 hi).1; simpa using this
    have hij : i = j := by rw [List.getElem?_range hji] at hi; injection hi with hi; exact hi.symm
    subst hij
    refine ⟨[.int .i64 (F i 0), .int .i64 (F i 1), .int .i64 (F i 2)], rfl, Q.k51_mk w _, fun q u hq => ?_⟩
    match q, hq with
    | 0, hq => injection hq with hq; subst hq; exact hc i hji 0 (by omega)
    | 1, hq => injection hq with hq; subst hq; exact hc i hji 1 (by omega)
    | 2, hq => injection hq with hq; subst hq; exact hc i hji 2 (by omega)
    | q + 3, hq => simp at hq
  · rw [List.mem_map] at hx
    obtain ⟨i, hi, rfl⟩ := hx
    rw [List.mem_range] at hi
    exact ⟨hw i hi 0 (by omega), hw i hi 1 (by omega), hw i hi 2 (by omega)⟩
set_option maxRecDepth 100000 in
theorem lifted (os : Os) (started : os.Started) (H : Type) (enc : TypeId × Value → H) :
    ReturnsInHanded {} Try.checked os 9 .any (Rows.fnExactSafeOrderSpec.pre6 enc Try.prog Try.f9 Rows.fnExactSafeOrderRow.domain false) (Rows.fnExactSafeOrderSpec.post enc Try.prog Try.f9 false true false false) := by
  refine returnsInHanded_of_change_sized (C := Try.checked) own started (by kernel_rfl) Try.func9
    (ChangeSpec.witness6 (enc := enc) (C := Try.checked) false ⟨#[], #[.slice none 0 0], []⟩ 8 (by kernel_rfl) (by kernel_rfl) (by kernel_rfl) (by kernel_rfl)) ?_
  intro W base args ds gs before hval0 hW hcnd hsz0 _
  have hsz : (DataW.weightsEach Try.prog (Try.f9.params.toList ++ Rows.fnExactSafeOrderSpec.plain.varTypes Try.prog) (ds ++ gs)).all (· ≤ reachBytes) = true := hsz0
  have hval : ∀ (j : Nat) t v, Try.f9.params[j]? = some t → args[j]? = some v → Value.okWide Try.prog W .any base t v := hval0
  have hW' := hW
  obtain ⟨p, q, hA0, hV, rfl, hfz, hnd⟩ := hW
  have hA : DataW.TrodAll enc Try.prog W 0 (fun _ => true) true Try.f9.params.toList args.toList ds p := hA0
  rw [Try.params9] at hA hval hsz
  obtain ⟨v0, vs0, d0, ds0, p0, q0, hargs, rfl, rfl, h0, r0⟩ := trodAll_cons hA
  obtain ⟨rfl, rfl, rfl⟩ := trodAll_nil r0
  obtain rfl : args = #[v0] := by cases args; simp_all
  obtain ⟨rfl, rfl⟩ := trodVars_none hV
  obtain ⟨a0, len0, cap0, rfl⟩ := okWide_slice Try.underlying22 (hval 0 22 v0 rfl rfl)
  have k0 := h0
  have lt0 : ∀ x ∈ p0, x.block < W.heap.size := by obtain ⟨m, hm⟩ := k0; exact DataW.trod_lt m _ _ _ hm
  obtain ⟨F0, hc0, hm0, y0, hcell0, hw0⟩ := HO.open_structs (j := 0) (t := 22) (B := 24) hsz rfl rfl Try.underlying22 Try.underlying51 (by kernel_rfl) (by kernel_rfl) (fun j f hj => by
    have hj3 : j < 3 := (Array.getElem?_eq_some_iff.1 hj).1
    match j, hj3 with
    | 0, _ => injection hj with hj; subst hj; exact Try.underlying3
    | 1, _ => injection hj with hj; subst hj; exact Try.underlying3
    | 2, _ => injection hj with hj; subst hj; exact Try.underlying3
    ) (by kernel_rfl) h0
  obtain ⟨l0, hl0, hr0, hz0⟩ := mk_C51 hm0 hcell0 hw0
  subst hl0
  clear hA0 hval0 hsz0 hsz
  obtain ⟨k, hh⟩ := Pure.FnExactSafeOrder l0 hm0 y0 hz0
  refine (Q.laws_FnExactSafeOrder.calls k _ _ l0 true W hr0 hc0 hh).mono fun e W' ⟨he, bel⟩ => ?_
  subst he
  exact ⟨_, rfl, _, _, _, [], _, [], hW', trodAll_mk1 (shut_bool Try.underlying4 _), (trodAll_cons_mk (Below.trod laidOut (by kernel_rfl) (of_decide_eq_true (by kernel_rfl)) k0 bel lt0) trodAll_mk0), rfl, bel.frame _, fun h => by cases h⟩
theorem over : Rows.fnExactSafeOrderRow.holds Try.pinned (OpenSpec.ofChange Rows.fnExactSafeOrderSpec) :=
  OpenClaim.holds_of_wide 9 Try.f9 rfl rfl rfl rfl rfl rfl rfl ⟨rfl, rfl, rfl, rfl, rfl⟩ rfl rfl rfl rfl rfl (by kernel_rfl) Try.func9 (by kernel_rfl)
    (of_decide_eq_true (by kernel_rfl)) (by unfold Func.isWrapper; first | (rw [if_pos (by decide +kernel)]; kernel_rfl) | (rw [if_neg (by decide +kernel)]; exact ⟨rfl, rfl⟩))
    (fun os started H enc _ => lifted os started H enc)
theorem proved : Rows.FnExactSafeOrderSaid := over
#print axioms proved
end Go.Proofs.Ytbmefldckdaopaa.fnExactSafeOrder
namespace Go.Proofs.Ytbmefldckdaopaa
/-- The row, under a short name, for the claim. -/
theorem fnExactSafeOrder_holds : Rows.FnExactSafeOrderSaid := fnExactSafeOrder.proved
end Go.Proofs.Ytbmefldckdaopaa
