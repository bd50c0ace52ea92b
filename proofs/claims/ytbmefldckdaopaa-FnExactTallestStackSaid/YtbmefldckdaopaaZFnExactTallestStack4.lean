/-
  Part 4 of the proof of FnExactTallestStack: what Go functions that it reaches compute, each shown by a walk of its code, and plain laws on numbers and lists.
  CONDITIONS: each theorem's own, as stated.
-/
import Derived.Test.YtbmefldckdaopaaZFnExactTallestStack1
import Derived.Test.YtbmefldckdaopaaZFnExactTallestStack2
import Derived.Test.YtbmefldckdaopaaZFnExactTallestStack3
namespace Go.Proofs.Ytbmefldckdaopaa.Q
open Go.RowKit Go.Proofs.YtbmefldckdaopaaW.PrintWords Go.Proofs.YtbmefldckdaopaaW.PrintLast Go.Proofs.YtbmefldckdaopaaW.PrintMore
attribute [local go_sem] max2_int min2_int max_two min_two max_three min_three max_four min_four   -- for this text's walks alone
set_option linter.unusedVariables false
set_option linter.unusedSimpArgs false

/-! ### laws_FnExactTallestStack: function 10 -/
mutual
def laws_FnExactTallestStack.j0 : Nat → List (S51) → List Int → Int → Bool → List (S49) → List Int → Int → Bool → Bool → Option (Bool)
  | 0, _, _, _, _, _, _, _, _, _ => none
  | k + 1, x0, x4, x5, x6, x7, x8, x9, x10, x50 => if x50 = true then (some false) else ((laws_toThingS.f k x0).bind fun t434 => ((laws_eqThingS.f k x7 t434).bind fun t437 => (if t437 = true then ((laws_markThingS.f k x7 1).bind fun bt438 => (if bt438.1 < 0 then (laws_FnExactTallestStack.j1 k x0 x4 x5 x6 x8 true) else ((laws_eqIntS.f k x8 x4).bind fun t440 => (if t440 = true then (if x9 = x5 then (laws_FnExactTallestStack.j1 k x0 x4 x5 x6 x8 (x10 != x6)) else (laws_FnExactTallestStack.j1 k x0 x4 x5 x6 x8 true)) else (laws_FnExactTallestStack.j1 k x0 x4 x5 x6 x8 true))))) else (some false))))
def laws_FnExactTallestStack.j1 : Nat → List (S51) → List Int → Int → Bool → List Int → Bool → Option (Bool)
  | 0, _, _, _, _, _, _ => none
  | k + 1, x0, x4, x5, x6, x8, x76 => if x76 = true then (some false) else ((laws_markIntS.f k x8 1).bind fun bt441 => ((laws_heldIntS.f k bt441.2 1).bind fun t443 => (if t443 < 0 then (some false) else (if t443 = bt441.1 then ((laws_toThingS.f k x0).bind fun t444 => ((impl_TallestStack.f t444).bind fun bt447 => ((laws_eqIntS.f k bt447.1 x4).bind fun t452 => (if t452 = true then (if bt447.2.1 = x5 then (laws_FnExactTallestStack.j2 k bt441.2 bt441.1 (bt447.2.2 != x6)) else (laws_FnExactTallestStack.j2 k bt441.2 bt441.1 true)) else (laws_FnExactTallestStack.j2 k bt441.2 bt441.1 true))))) else (some false)))))
def laws_FnExactTallestStack.j2 : Nat → List Int → Int → Bool → Option (Bool)
  | 0, _, _, _ => none
  | k + 1, x8, x12, x108 => if x108 = true then (some false) else ((laws_heldIntS.f k x8 1).bind fun t453 => (if t453 < 0 then (some false) else (if t453 = x12 then (some true) else (some false))))
end
def laws_FnExactTallestStack.f (k : Nat) (l0 : List (S51)) : Option (Bool) := (laws_szThingS.f l0 1048576).bind fun t416 => (if t416 < 0 then (some true) else ((laws_toThingS.f k l0).bind fun t417 => ((spec_TallestStack.f k t417).bind fun bt420 => ((laws_toThingS.f k l0).bind fun t425 => ((impl_TallestStack.f t425).bind fun bt428 => ((laws_eqIntS.f k bt428.1 bt420.1).bind fun t433 => (if t433 = true then (if bt428.2.1 = bt420.2.1 then (laws_FnExactTallestStack.j0 k l0 bt420.1 bt420.2.1 bt420.2.2 t425 bt428.1 bt428.2.1 bt428.2.2 (bt428.2.2 != bt420.2.2)) else (laws_FnExactTallestStack.j0 k l0 bt420.1 bt420.2.1 bt420.2.2 t425 bt428.1 bt428.2.1 bt428.2.2 true)) else (laws_FnExactTallestStack.j0 k l0 bt420.1 bt420.2.1 bt420.2.2 t425 bt428.1 bt428.2.1 bt428.2.2 true))))))))
theorem laws_FnExactTallestStack.mono_l : ∀ k, (∀ y0 y1 y2 y3 y4 y5 y6 y7 y8, LeO (laws_FnExactTallestStack.j0 k y0 y1 y2 y3 y4 y5 y6 y7 y8) (laws_FnExactTallestStack.j0 (k + 1) y0 y1 y2 y3 y4 y5 y6 y7 y8)) ∧ (∀ y0 y1 y2 y3 y4 y5, LeO (laws_FnExactTallestStack.j1 k y0 y1 y2 y3 y4 y5) (laws_FnExactTallestStack.j1 (k + 1) y0 y1 y2 y3 y4 y5)) ∧ (∀ y0 y1 y2, LeO (laws_FnExactTallestStack.j2 k y0 y1 y2) (laws_FnExactTallestStack.j2 (k + 1) y0 y1 y2))
  | 0 => ⟨fun _ _ _ _ _ _ _ _ _ r h => by simp [laws_FnExactTallestStack.j0] at h, fun _ _ _ _ _ _ r h => by simp [laws_FnExactTallestStack.j1] at h, fun _ _ _ r h => by simp [laws_FnExactTallestStack.j2] at h⟩
  | k + 1 => by
    obtain ⟨ih0, ih1, ih2⟩ := laws_FnExactTallestStack.mono_l k
    refine ⟨?_, ?_, ?_⟩
    · intro y0 y1 y2 y3 y4 y5 y6 y7 y8
      unfold laws_FnExactTallestStack.j0
      repeat' first
      | (with_reducible exact ih0 _ _ _ _ _ _ _ _ _)
      | (with_reducible exact ih1 _ _ _ _ _ _)
      | (with_reducible exact ih2 _ _ _)
      | (with_reducible exact laws_eqIntS.mono _ _ _)
      | (with_reducible exact laws_eqThingS.mono _ _ _)
      | (with_reducible exact laws_heldIntS.mono _ _ _)
      | (with_reducible exact laws_markIntS.mono _ _ _)
      | (with_reducible exact laws_markThingS.mono _ _ _)
      | (with_reducible exact laws_toThingS.mono _ _)
      | (with_reducible exact spec_TallestStack.mono _ _)
      | (with_reducible exact LeO.refl _)
      | (with_reducible exact LeO.none _)
      | (with_reducible refine LeO.ite ?_ ?_)
      | (with_reducible refine LeO.bind ?_ (fun _ => ?_))
      | exact ih0 _ _ _ _ _ _ _ _ _
      | exact ih1 _ _ _ _ _ _
      | exact ih2 _ _ _
      | exact laws_eqIntS.mono _ _ _
      | exact laws_eqThingS.mono _ _ _
      | exact laws_heldIntS.mono _ _ _
      | exact laws_markIntS.mono _ _ _
      | exact laws_markThingS.mono _ _ _
      | exact laws_toThingS.mono _ _
      | exact spec_TallestStack.mono _ _
      | exact LeO.none _
      | refine LeO.ite ?_ ?_
      | refine LeO.bind ?_ (fun _ => ?_)
    · intro y0 y1 y2 y3 y4 y5
      unfold laws_FnExactTallestStack.j1
      repeat' first
      | (with_reducible exact ih0 _ _ _ _ _ _ _ _ _)
      | (with_reducible exact ih1 _ _ _ _ _ _)
      | (with_reducible exact ih2 _ _ _)
      | (with_reducible exact laws_eqIntS.mono _ _ _)
      | (with_reducible exact laws_eqThingS.mono _ _ _)
      | (with_reducible exact laws_heldIntS.mono _ _ _)
      | (with_reducible exact laws_markIntS.mono _ _ _)
      | (with_reducible exact laws_markThingS.mono _ _ _)
      | (with_reducible exact laws_toThingS.mono _ _)
      | (with_reducible exact spec_TallestStack.mono _ _)
      | (with_reducible exact LeO.refl _)
      | (with_reducible exact LeO.none _)
      | (with_reducible refine LeO.ite ?_ ?_)
      | (with_reducible refine LeO.bind ?_ (fun _ => ?_))
      | exact ih0 _ _ _ _ _ _ _ _ _
      | exact ih1 _ _ _ _ _ _
      | exact ih2 _ _ _
      | exact laws_eqIntS.mono _ _ _
      | exact laws_eqThingS.mono _ _ _
      | exact laws_heldIntS.mono _ _ _
      | exact laws_markIntS.mono _ _ _
      | exact laws_markThingS.mono _ _ _
      | exact laws_toThingS.mono _ _
      | exact spec_TallestStack.mono _ _
      | exact LeO.none _
      | refine LeO.ite ?_ ?_
      | refine LeO.bind ?_ (fun _ => ?_)
    · intro y0 y1 y2
      unfold laws_FnExactTallestStack.j2
      repeat' first
      | (with_reducible exact ih0 _ _ _ _ _ _ _ _ _)
      | (with_reducible exact ih1 _ _ _ _ _ _)
      | (with_reducible exact ih2 _ _ _)
      | (with_reducible exact laws_eqIntS.mono _ _ _)
      | (with_reducible exact laws_eqThingS.mono _ _ _)
      | (with_reducible exact laws_heldIntS.mono _ _ _)
      | (with_reducible exact laws_markIntS.mono _ _ _)
      | (with_reducible exact laws_markThingS.mono _ _ _)
      | (with_reducible exact laws_toThingS.mono _ _)
      | (with_reducible exact spec_TallestStack.mono _ _)
      | (with_reducible exact LeO.refl _)
      | (with_reducible exact LeO.none _)
      | (with_reducible refine LeO.ite ?_ ?_)
      | (with_reducible refine LeO.bind ?_ (fun _ => ?_))
      | exact ih0 _ _ _ _ _ _ _ _ _
      | exact ih1 _ _ _ _ _ _
      | exact ih2 _ _ _
      | exact laws_eqIntS.mono _ _ _
      | exact laws_eqThingS.mono _ _ _
      | exact laws_heldIntS.mono _ _ _
      | exact laws_markIntS.mono _ _ _
      | exact laws_markThingS.mono _ _ _
      | exact laws_toThingS.mono _ _
      | exact spec_TallestStack.mono _ _
      | exact LeO.none _
      | refine LeO.ite ?_ ?_
      | refine LeO.bind ?_ (fun _ => ?_)
theorem laws_FnExactTallestStack.mono : ∀ a0 k, LeO (laws_FnExactTallestStack.f k a0) (laws_FnExactTallestStack.f (k + 1) a0) := by
  intro a0 k
  obtain ⟨ih0, ih1, ih2⟩ := laws_FnExactTallestStack.mono_l k
  unfold laws_FnExactTallestStack.f
  repeat' first
      | (with_reducible exact ih0 _ _ _ _ _ _ _ _ _)
      | (with_reducible exact ih1 _ _ _ _ _ _)
      | (with_reducible exact ih2 _ _ _)
      | (with_reducible exact laws_eqIntS.mono _ _ _)
      | (with_reducible exact laws_eqThingS.mono _ _ _)
      | (with_reducible exact laws_heldIntS.mono _ _ _)
      | (with_reducible exact laws_markIntS.mono _ _ _)
      | (with_reducible exact laws_markThingS.mono _ _ _)
      | (with_reducible exact laws_toThingS.mono _ _)
      | (with_reducible exact spec_TallestStack.mono _ _)
      | (with_reducible exact LeO.refl _)
      | (with_reducible exact LeO.none _)
      | (with_reducible refine LeO.ite ?_ ?_)
      | (with_reducible refine LeO.bind ?_ (fun _ => ?_))
      | exact ih0 _ _ _ _ _ _ _ _ _
      | exact ih1 _ _ _ _ _ _
      | exact ih2 _ _ _
      | exact laws_eqIntS.mono _ _ _
      | exact laws_eqThingS.mono _ _ _
      | exact laws_heldIntS.mono _ _ _
      | exact laws_markIntS.mono _ _ _
      | exact laws_markThingS.mono _ _ _
      | exact laws_toThingS.mono _ _
      | exact spec_TallestStack.mono _ _
      | exact LeO.none _
      | refine LeO.ite ?_ ?_
      | refine LeO.bind ?_ (fun _ => ?_)
set_option maxHeartbeats 8000000 in
set_option maxRecDepth 100000 in
theorem laws_FnExactTallestStack.calls (k : Nat) (A0 : Option Addr) (c0 : Nat) (l0 : List (S51)) (r : Bool) (w : World) (hr0 : Kd.C k51 w A0 l0.length l0) (hc0 : l0.length ≤ c0) (h : laws_FnExactTallestStack.f k l0 = some r) :
    Calls Try.prog 10 #[.slice A0 l0.length c0] w fun e w' => e = .returned (.bool r) ∧ Below w.heap.size w w' := by
  have HR0 := Aside0.mk hr0
  have HC0 := Aside0.mk hc0
  clear hr0 hc0
  have HB := Aside0.mk (Below.refl w.heap.size w)
  have H : ((laws_szThingS.f l0 1048576).bind fun t416 => (if t416 < 0 then (some true) else ((laws_toThingS.f k l0).bind fun t417 => ((spec_TallestStack.f k t417).bind fun bt420 => ((laws_toThingS.f k l0).bind fun t425 => ((impl_TallestStack.f t425).bind fun bt428 => ((laws_eqIntS.f k bt428.1 bt420.1).bind fun t433 => (if t433 = true then (if bt428.2.1 = bt420.2.1 then (laws_FnExactTallestStack.j0 k l0 bt420.1 bt420.2.1 bt420.2.2 t425 bt428.1 bt428.2.1 bt428.2.2 (bt428.2.2 != bt420.2.2)) else (laws_FnExactTallestStack.j0 k l0 bt420.1 bt420.2.1 bt420.2.2 t425 bt428.1 bt428.2.1 bt428.2.2 true)) else (laws_FnExactTallestStack.j0 k l0 bt420.1 bt420.2.1 bt420.2.2 t425 bt428.1 bt428.2.1 bt428.2.2 true))))))))) = some r := h
  clear h
  replace H := Option.bind_eq_some_iff.mp H
  obtain ⟨t416, A20, H⟩ := H
  replace H : (if t416 < 0 then (some true) else ((laws_toThingS.f k l0).bind fun t417 => ((spec_TallestStack.f k t417).bind fun bt420 => ((laws_toThingS.f k l0).bind fun t425 => ((impl_TallestStack.f t425).bind fun bt428 => ((laws_eqIntS.f k bt428.1 bt420.1).bind fun t433 => (if t433 = true then (if bt428.2.1 = bt420.2.1 then (laws_FnExactTallestStack.j0 k l0 bt420.1 bt420.2.1 bt420.2.2 t425 bt428.1 bt428.2.1 bt428.2.2 (bt428.2.2 != bt420.2.2)) else (laws_FnExactTallestStack.j0 k l0 bt420.1 bt420.2.1 bt420.2.2 t425 bt428.1 bt428.2.1 bt428.2.2 true)) else (laws_FnExactTallestStack.j0 k l0 bt420.1 bt420.2.1 bt420.2.2 t425 bt428.1 bt428.2.1 bt428.2.2 true)))))))) = some r := H
  have A2 := Aside0.mk A20
  clear A20
  by_cases c3 : t416 < 0
  · rw [if_pos c3] at H
    have c3b0 : decide (t416 < 0) = true := decide_eq_true c3
    clear c3
    obtain rfl := Option.some.inj H
    go_enter Try.func10, Try.ntmps10
    go_wp2_with (first | ((with_reducible refine gate_callee (f := 12) rfl ?_); refine goesL_ (some 19) rfl rfl Try.func12 (by kernel_rfl) rfl #[.slice A0 l0.length c0, .int .i64 1048576] rfl (by (try simp only [List.map_toArray, List.map_cons, List.map_nil]); first | done | rfl | (simp only [List.length_drop, List.length_take]; rfl)) ?_; (with_reducible refine (laws_szThingS.calls _ _ l0 1048576 t416 _ ?side1 ?side2 A2.out).mono ?_); (case side1 => repeat (first | exact HR0.out | (with_reducible refine Kd.C_alloc ?_ _) | (with_reducible refine Kd.C_drewN ?_ _) | (with_reducible refine Kd.C_drew ?_))); (case side2 => exact HC0.out); rintro e w' ⟨rfl, ⟨nd, rfl⟩⟩; refine ⟨_, rfl, ?_⟩))
    go_ret
    exact ⟨by first | rfl | (simp [errW_none, errW_some] <;> rfl) | (simp [*, errW_none, errW_some] <;> rfl), by repeat (first | (with_reducible first | exact HB.out | apply below_alloc | apply pw_below_drewN | apply below_drew1) | exact HB.out)⟩
  · rw [if_neg c3] at H
    have c3b0 : decide (t416 < 0) = false := decide_eq_false c3
    clear c3
    replace H := Option.bind_eq_some_iff.mp H
    obtain ⟨t417, A40, H⟩ := H
    replace H : ((spec_TallestStack.f k t417).bind fun bt420 => ((laws_toThingS.f k l0).bind fun t425 => ((impl_TallestStack.f t425).bind fun bt428 => ((laws_eqIntS.f k bt428.1 bt420.1).bind fun t433 => (if t433 = true then (if bt428.2.1 = bt420.2.1 then (laws_FnExactTallestStack.j0 k l0 bt420.1 bt420.2.1 bt420.2.2 t425 bt428.1 bt428.2.1 bt428.2.2 (bt428.2.2 != bt420.2.2)) else (laws_FnExactTallestStack.j0 k l0 bt420.1 bt420.2.1 bt420.2.2 t425 bt428.1 bt428.2.1 bt428.2.2 true)) else (laws_FnExactTallestStack.j0 k l0 bt420.1 bt420.2.1 bt420.2.2 t425 bt428.1 bt428.2.1 bt428.2.2 true)))))) = some r := H
    have A4 := Aside0.mk A40
    clear A40
    replace H := Option.bind_eq_some_iff.mp H
    obtain ⟨⟨t420, t423, t424⟩, A50, H⟩ := H
    replace H : ((laws_toThingS.f k l0).bind fun t425 => ((impl_TallestStack.f t425).bind fun bt428 => ((laws_eqIntS.f k bt428.1 t420).bind fun t433 => (if t433 = true then (if bt428.2.1 = t423 then (laws_FnExactTallestStack.j0 k l0 t420 t423 t424 t425 bt428.1 bt428.2.1 bt428.2.2 (bt428.2.2 != t424)) else (laws_FnExactTallestStack.j0 k l0 t420 t423 t424 t425 bt428.1 bt428.2.1 bt428.2.2 true)) else (laws_FnExactTallestStack.j0 k l0 t420 t423 t424 t425 bt428.1 bt428.2.1 bt428.2.2 true))))) = some r := H
    have A5 := Aside0.mk A50
    clear A50
    replace H := Option.bind_eq_some_iff.mp H
    obtain ⟨t425, A60, H⟩ := H
    replace H : ((impl_TallestStack.f t425).bind fun bt428 => ((laws_eqIntS.f k bt428.1 t420).bind fun t433 => (if t433 = true then (if bt428.2.1 = t423 then (laws_FnExactTallestStack.j0 k l0 t420 t423 t424 t425 bt428.1 bt428.2.1 bt428.2.2 (bt428.2.2 != t424)) else (laws_FnExactTallestStack.j0 k l0 t420 t423 t424 t425 bt428.1 bt428.2.1 bt428.2.2 true)) else (laws_FnExactTallestStack.j0 k l0 t420 t423 t424 t425 bt428.1 bt428.2.1 bt428.2.2 true)))) = some r := H
    have A6 := Aside0.mk A60
    clear A60
    replace H := Option.bind_eq_some_iff.mp H
    obtain ⟨⟨t428, t429, t430⟩, A70, H⟩ := H
    replace H : ((laws_eqIntS.f k t428 t420).bind fun t433 => (if t433 = true then (if t429 = t423 then (laws_FnExactTallestStack.j0 k l0 t420 t423 t424 t425 t428 t429 t430 (t430 != t424)) else (laws_FnExactTallestStack.j0 k l0 t420 t423 t424 t425 t428 t429 t430 true)) else (laws_FnExactTallestStack.j0 k l0 t420 t423 t424 t425 t428 t429 t430 true))) = some r := H
    have A7 := Aside0.mk A70
    clear A70
    have HC8 := Aside0.mk H
    clear H
    go_enter Try.func10, Try.ntmps10
    go_upto_region 8 with (first | ((with_reducible refine gate_callee (f := 12) rfl ?_); refine goesL_ (some 19) rfl rfl Try.func12 (by kernel_rfl) rfl #[.slice A0 l0.length c0, .int .i64 1048576] rfl (by (try simp only [List.map_toArray, List.map_cons, List.map_nil]); first | done | rfl | (simp only [List.length_drop, List.length_take]; rfl)) ?_; (with_reducible refine (laws_szThingS.calls _ _ l0 1048576 t416 _ ?side1 ?side2 A2.out).mono ?_); (case side1 => repeat (first | exact HR0.out | (with_reducible refine Kd.C_alloc ?_ _) | (with_reducible refine Kd.C_drewN ?_ _) | (with_reducible refine Kd.C_drew ?_))); (case side2 => exact HC0.out); rintro e w' ⟨rfl, ⟨nd, rfl⟩⟩; refine ⟨_, rfl, ?_⟩) | ((with_reducible refine gate_callee (f := 14) rfl ?_); refine goesL_ (some 24) rfl rfl Try.func14 (by kernel_rfl) rfl #[.slice A0 l0.length c0] rfl (by (try simp only [List.map_toArray, List.map_cons, List.map_nil]); first | done | rfl | (simp only [List.length_drop, List.length_take]; rfl)) ?_; (with_reducible refine (laws_toThingS.calls k _ _ l0 t417 _ ?side1 ?side2 A4.out).mono ?_); (case side1 => repeat (first | exact HR0.out | (with_reducible refine Kd.C_alloc ?_ _) | (with_reducible refine Kd.C_drewN ?_ _) | (with_reducible refine Kd.C_drew ?_))); (case side2 => exact HC0.out); rintro e w9 ⟨v418, rfl, ho0, hb⟩; refine ⟨_, rfl, ?_⟩; have n0_ := Aside0.mk (Kd.R_lower ho0 (below_size (by repeat (first | (with_reducible first | exact HB.out | apply below_alloc | apply pw_below_drewN | apply below_drew1) | exact HB.out)))); have n1_ := Aside0.mk (below_step (by repeat (first | (with_reducible first | exact HB.out | apply below_alloc | apply pw_below_drewN | apply below_drew1) | exact HB.out)) hb); clear HB; have HO419 := n0_; have HB := n1_; clear n0_ n1_; (try clear hb); (try clear hb2); (try clear hk); (try clear hi); (try clear ho0); obtain ⟨Ao10, co10, eo10⟩ := Kd.R_slice HO419.out; subst eo10) | ((with_reducible refine gate_callee (f := 36) rfl ?_); refine goesL_ (some 25) rfl rfl Try.func36 (by kernel_rfl) rfl #[.slice Ao10 t417.length co10] rfl (by (try simp only [List.map_toArray, List.map_cons, List.map_nil]); first | done | rfl | (simp only [List.length_drop, List.length_take]; rfl)) ?_; (with_reducible refine (spec_TallestStack.calls k _ _ t417 t420 t423 t424 _ ?side1 ?side2 A5.out).mono ?_); (case side1 => repeat (first | exact (Kd.R_reads' HO419.out).2.2 | (with_reducible refine Kd.C_alloc ?_ _) | (with_reducible refine Kd.C_drewN ?_ _) | (with_reducible refine Kd.C_drew ?_))); (case side2 => exact (Kd.R_reads' HO419.out).2.1); rintro e w11 ⟨v421, rfl, ho0, hb⟩; refine ⟨_, rfl, ?_⟩; have n0_ := Aside0.mk (Kd.R_below (by (with_reducible repeat (first | apply Kd.R_alloc | apply Kd.R_drewN | apply Kd.R_drew)); exact HO419.out) hb); have n1_ := Aside0.mk (Kd.V_lower (Kd.V_mono (ok' := fun k_ => some k_ ≠ (.slice Ao10 t417.length co10 : Value).ownBlock) ho0 (fun k_ hk_ => (Kd.fresh' (Kd.R_lt (by (with_reducible repeat (first | apply Kd.R_alloc | apply Kd.R_drewN | apply Kd.R_drew)); exact HO419.out)) k_ hk_))) (below_size (by repeat (first | (with_reducible first | exact HB.out | apply below_alloc | apply pw_below_drewN | apply below_drew1) | exact HB.out)))); have n2_ := Aside0.mk (below_step (by repeat (first | (with_reducible first | exact HB.out | apply below_alloc | apply pw_below_drewN | apply below_drew1) | exact HB.out)) hb); clear HO419; clear HB; have HO419 := n0_; have HO422 := n1_; have HB := n2_; clear n0_ n1_ n2_; (try clear hb); (try clear hb2); (try clear hk); (try clear hi); (try clear ho0)) | ((with_reducible refine gate_callee (f := 14) rfl ?_); refine goesL_ (some 30) rfl rfl Try.func14 (by kernel_rfl) rfl #[.slice A0 l0.length c0] rfl (by (try simp only [List.map_toArray, List.map_cons, List.map_nil]); first | done | rfl | (simp only [List.length_drop, List.length_take]; rfl)) ?_; (with_reducible refine (laws_toThingS.calls k _ _ l0 t425 _ ?side1 ?side2 A6.out).mono ?_); (case side1 => repeat (first | exact (Kd.C_below HR0.out HB.out) | (with_reducible refine Kd.C_alloc ?_ _) | (with_reducible refine Kd.C_drewN ?_ _) | (with_reducible refine Kd.C_drew ?_))); (case side2 => exact HC0.out); rintro e w12 ⟨v426, rfl, ho0, hb⟩; refine ⟨_, rfl, ?_⟩; have n0_ := Aside0.mk (Kd.R_elder' (by (with_reducible repeat (first | apply Kd.R_alloc | apply Kd.R_drewN | apply Kd.R_drew)); exact HO419.out) (Kd.R_base ho0) hb); have n1_ := Aside0.mk (Kd.V_elder' (by (with_reducible repeat (first | apply Kd.V_alloc | apply Kd.V_drewN | apply Kd.V_drew)); exact HO422.out) (Kd.R_base ho0) hb); have n2_ := Aside0.mk (Kd.R_lower (Kd.R_new' ho0 (Kd.R_lt (by (with_reducible repeat (first | apply Kd.R_alloc | apply Kd.R_drewN | apply Kd.R_drew)); exact HO419.out))) (below_size (by repeat (first | (with_reducible first | exact HB.out | apply below_alloc | apply pw_below_drewN | apply below_drew1) | exact HB.out)))); have n3_ := Aside0.mk (below_step (by repeat (first | (with_reducible first | exact HB.out | apply below_alloc | apply pw_below_drewN | apply below_drew1) | exact HB.out)) hb); clear HO419; clear HO422; clear HB; have HO419 := n0_; have HO422 := n1_; have HO427 := n2_; have HB := n3_; clear n0_ n1_ n2_ n3_; (try clear hb); (try clear hb2); (try clear hk); (try clear hi); (try clear ho0); obtain ⟨Ao13, co13, eo13⟩ := Kd.R_slice HO427.out; subst eo13) | ((with_reducible refine gate_callee (f := 37) rfl ?_); refine goesL_ (some 33) rfl rfl Try.func37 (by kernel_rfl) rfl #[.slice Ao13 t425.length co13] rfl (by (try simp only [List.map_toArray, List.map_cons, List.map_nil]); first | done | rfl | (simp only [List.length_drop, List.length_take]; rfl)) ?_; (with_reducible refine (impl_TallestStack.calls _ _ t425 t428 t429 t430 _ ?side1 ?side2 A7.out).mono ?_); (case side1 => repeat (first | exact (Kd.R_reads' HO427.out).2.2 | (with_reducible refine Kd.C_alloc ?_ _) | (with_reducible refine Kd.C_drewN ?_ _) | (with_reducible refine Kd.C_drew ?_))); (case side2 => exact (Kd.R_reads' HO427.out).2.1); rintro e w14 ⟨v431, rfl, ho0, hb⟩; refine ⟨_, rfl, ?_⟩; have n0_ := Aside0.mk (Kd.R_below (by (with_reducible repeat (first | apply Kd.R_alloc | apply Kd.R_drewN | apply Kd.R_drew)); exact HO419.out) hb); have n1_ := Aside0.mk (Kd.V_elder' (by (with_reducible repeat (first | apply Kd.V_alloc | apply Kd.V_drewN | apply Kd.V_drew)); exact HO422.out) (Kd.R_base ho0) hb); have n2_ := Aside0.mk (Kd.R_below (by (with_reducible repeat (first | apply Kd.R_alloc | apply Kd.R_drewN | apply Kd.R_drew)); exact HO427.out) hb); have n3_ := Aside0.mk (Kd.R_lower ho0 (below_size (by repeat (first | (with_reducible first | exact HB.out | apply below_alloc | apply pw_below_drewN | apply below_drew1) | exact HB.out)))); have n4_ := Aside0.mk (below_step (by repeat (first | (with_reducible first | exact HB.out | apply below_alloc | apply pw_below_drewN | apply below_drew1) | exact HB.out)) hb); clear HO419; clear HO422; clear HO427; clear HB; have HO419 := n0_; have HO422 := n1_; have HO427 := n2_; have HO432 := n3_; have HB := n4_; clear n0_ n1_ n2_ n3_ n4_; (try clear hb); (try clear hb2); (try clear hk); (try clear hi); (try clear ho0)))
    (try simp only [Act.put, List.setIfInBounds_toArray, List.set_cons_zero, List.set_cons_succ])
    go_cut [50] (fun v50 wc => ∃ (kq : Nat) (x50_7 : Bool), v50 = .bool x50_7 ∧ Aside0 (laws_FnExactTallestStack.j0 kq l0 t420 t423 t424 t425 t428 t429 t430 x50_7 = some r) ∧ Aside0 (kq ≤ k) ∧ Aside0 (Kd.V (Kd.int .i64) 3 wc w.heap.size (fun k_ => some k_ ≠ ((.slice Ao13 t425.length co13) : Value).ownBlock ∧ some k_ ≠ (v431 : Value).ownBlock) v421 t420) ∧ Aside0 (Kd.R k49 49 wc w.heap.size (fun _ => True) (.slice Ao13 t425.length co13) t425) ∧ Aside0 (Kd.R (Kd.int .i64) 3 wc w.heap.size (fun _ => True) v431 t428) ∧ Aside0 (Below w.heap.size w wc))
    case first =>
      have H := HC8.out
      clear HC8
      replace H := Option.bind_eq_some_iff.mp H
      obtain ⟨t433, A150, H⟩ := H
      replace H : (if t433 = true then (if t429 = t423 then (laws_FnExactTallestStack.j0 k l0 t420 t423 t424 t425 t428 t429 t430 (t430 != t424)) else (laws_FnExactTallestStack.j0 k l0 t420 t423 t424 t425 t428 t429 t430 true)) else (laws_FnExactTallestStack.j0 k l0 t420 t423 t424 t425 t428 t429 t430 true)) = some r := H
      have A15 := Aside0.mk A150
      clear A150
      by_cases c16 : t433 = true
      · subst c16
        have H1 : (if t429 = t423 then (laws_FnExactTallestStack.j0 k l0 t420 t423 t424 t425 t428 t429 t430 (t430 != t424)) else (laws_FnExactTallestStack.j0 k l0 t420 t423 t424 t425 t428 t429 t430 true)) = some r := by rw [if_pos rfl] at H; exact H
        clear H
        have H := H1
        clear H1
        by_cases c17 : t429 = t423
        · rw [if_pos c17] at H
          have c17b0 : (t429 == t423) = true := beq_iff_eq.mpr c17
          have c17b1 : (t429 != t423) = false := bne_eq_false_iff_eq.mpr c17
          clear c17
          (first | rw [c17b0] | (simp only [i64_w, i32_w]; rw [c17b0]) | skip)
          have H' := Aside0.mk H
          clear H
          obtain ⟨Ao18, co18, eo18⟩ := Kd.R_slice HO432.out
          subst eo18
          obtain ⟨Ao19, co19, eo19⟩ := Kd.V_slice HO422.out
          subst eo19
          go_wp2_with (first | ((with_reducible refine gate_callee (f := 31) rfl ?_); refine goesL_ (some 39) rfl rfl Try.func31 (by kernel_rfl) rfl #[.slice Ao18 t428.length co18, .slice Ao19 t420.length co19] rfl (by (try simp only [List.map_toArray, List.map_cons, List.map_nil]); first | done | rfl | (simp only [List.length_drop, List.length_take]; rfl)) ?_; (with_reducible refine (laws_eqIntS.calls k _ _ t428 _ _ t420 true _ ?side1 ?side2 ?side3 ?side4 A15.out).mono ?_); (case side1 => repeat (first | exact (Kd.R_reads' HO432.out).2.2 | (with_reducible refine Kd.C_alloc ?_ _) | (with_reducible refine Kd.C_drewN ?_ _) | (with_reducible refine Kd.C_drew ?_))); (case side2 => exact (Kd.R_reads' HO432.out).2.1); (case side3 => repeat (first | exact (Kd.V_reads' HO422.out).2.2 | (with_reducible refine Kd.C_alloc ?_ _) | (with_reducible refine Kd.C_drewN ?_ _) | (with_reducible refine Kd.C_drew ?_))); (case side4 => exact (Kd.V_reads' HO422.out).2.1); rintro e w' ⟨rfl, ⟨nd, rfl⟩⟩; refine ⟨_, rfl, ?_⟩))
          go_meet
          case rel => exact ⟨_, ((t430 != t424)), (by first | rfl | (simp; done) | (simp [*]; done)), H', ⟨by first | omega | exact Nat.le_refl _⟩, ⟨by (with_reducible repeat (first | apply Kd.V_alloc | apply Kd.V_drewN | apply Kd.V_drew)); exact Kd.V_mono HO422.out (fun _ hk => ⟨hk.1.2, hk.2⟩)⟩, ⟨by (with_reducible repeat (first | apply Kd.R_alloc | apply Kd.R_drewN | apply Kd.R_drew)); exact Kd.R_mono HO427.out (fun _ hk => trivial)⟩, ⟨by (with_reducible repeat (first | apply Kd.R_alloc | apply Kd.R_drewN | apply Kd.R_drew)); exact HO432.out⟩, ⟨by repeat (first | (with_reducible first | exact HB.out | apply below_alloc | apply pw_below_drewN | apply below_drew1) | exact HB.out)⟩⟩
        · rw [if_neg c17] at H
          have c17b0 : (t429 == t423) = false := beq_eq_false_iff_ne.mpr c17
          have c17b1 : (t429 != t423) = true := bne_iff_ne.mpr c17
          (first | rw [c17b0] | (simp only [i64_w, i32_w]; rw [c17b0]) | skip)
          have H' := Aside0.mk H
          clear H
          obtain ⟨Ao20, co20, eo20⟩ := Kd.R_slice HO432.out
          subst eo20
          obtain ⟨Ao21, co21, eo21⟩ := Kd.V_slice HO422.out
          subst eo21
          go_wp2_with (first | ((with_reducible refine gate_callee (f := 31) rfl ?_); refine goesL_ (some 39) rfl rfl Try.func31 (by kernel_rfl) rfl #[.slice Ao20 t428.length co20, .slice Ao21 t420.length co21] rfl (by (try simp only [List.map_toArray, List.map_cons, List.map_nil]); first | done | rfl | (simp only [List.length_drop, List.length_take]; rfl)) ?_; (with_reducible refine (laws_eqIntS.calls k _ _ t428 _ _ t420 true _ ?side1 ?side2 ?side3 ?side4 A15.out).mono ?_); (case side1 => repeat (first | exact (Kd.R_reads' HO432.out).2.2 | (with_reducible refine Kd.C_alloc ?_ _) | (with_reducible refine Kd.C_drewN ?_ _) | (with_reducible refine Kd.C_drew ?_))); (case side2 => exact (Kd.R_reads' HO432.out).2.1); (case side3 => repeat (first | exact (Kd.V_reads' HO422.out).2.2 | (with_reducible refine Kd.C_alloc ?_ _) | (with_reducible refine Kd.C_drewN ?_ _) | (with_reducible refine Kd.C_drew ?_))); (case side4 => exact (Kd.V_reads' HO422.out).2.1); rintro e w' ⟨rfl, ⟨nd, rfl⟩⟩; refine ⟨_, rfl, ?_⟩))
          go_meet
          case rel => exact ⟨_, (true), (by first | rfl | (simp; done) | (simp [*]; done)), H', ⟨by first | omega | exact Nat.le_refl _⟩, ⟨by (with_reducible repeat (first | apply Kd.V_alloc | apply Kd.V_drewN | apply Kd.V_drew)); exact Kd.V_mono HO422.out (fun _ hk => ⟨hk.1.2, hk.2⟩)⟩, ⟨by (with_reducible repeat (first | apply Kd.R_alloc | apply Kd.R_drewN | apply Kd.R_drew)); exact Kd.R_mono HO427.out (fun _ hk => trivial)⟩, ⟨by (with_reducible repeat (first | apply Kd.R_alloc | apply Kd.R_drewN | apply Kd.R_drew)); exact HO432.out⟩, ⟨by repeat (first | (with_reducible first | exact HB.out | apply below_alloc | apply pw_below_drewN | apply below_drew1) | exact HB.out)⟩⟩
      · replace c16 := Bool.eq_false_iff.mpr c16
        subst c16
        have H1 : (laws_FnExactTallestStack.j0 k l0 t420 t423 t424 t425 t428 t429 t430 true) = some r := by rw [if_neg (show ¬ (false = true) by decide)] at H; exact H
        clear H
        have H := H1
        clear H1
        have H' := Aside0.mk H
        clear H
        obtain ⟨Ao22, co22, eo22⟩ := Kd.R_slice HO432.out
        subst eo22
        obtain ⟨Ao23, co23, eo23⟩ := Kd.V_slice HO422.out
        subst eo23
        go_wp2_with (first | ((with_reducible refine gate_callee (f := 31) rfl ?_); refine goesL_ (some 39) rfl rfl Try.func31 (by kernel_rfl) rfl #[.slice Ao22 t428.length co22, .slice Ao23 t420.length co23] rfl (by (try simp only [List.map_toArray, List.map_cons, List.map_nil]); first | done | rfl | (simp only [List.length_drop, List.length_take]; rfl)) ?_; (with_reducible refine (laws_eqIntS.calls k _ _ t428 _ _ t420 false _ ?side1 ?side2 ?side3 ?side4 A15.out).mono ?_); (case side1 => repeat (first | exact (Kd.R_reads' HO432.out).2.2 | (with_reducible refine Kd.C_alloc ?_ _) | (with_reducible refine Kd.C_drewN ?_ _) | (with_reducible refine Kd.C_drew ?_))); (case side2 => exact (Kd.R_reads' HO432.out).2.1); (case side3 => repeat (first | exact (Kd.V_reads' HO422.out).2.2 | (with_reducible refine Kd.C_alloc ?_ _) | (with_reducible refine Kd.C_drewN ?_ _) | (with_reducible refine Kd.C_drew ?_))); (case side4 => exact (Kd.V_reads' HO422.out).2.1); rintro e w' ⟨rfl, ⟨nd, rfl⟩⟩; refine ⟨_, rfl, ?_⟩))
        go_meet
        case rel => exact ⟨_, (true), (by first | rfl | (simp; done) | (simp [*]; done)), H', ⟨by first | omega | exact Nat.le_refl _⟩, ⟨by (with_reducible repeat (first | apply Kd.V_alloc | apply Kd.V_drewN | apply Kd.V_drew)); exact Kd.V_mono HO422.out (fun _ hk => ⟨hk.1.2, hk.2⟩)⟩, ⟨by (with_reducible repeat (first | apply Kd.R_alloc | apply Kd.R_drewN | apply Kd.R_drew)); exact Kd.R_mono HO427.out (fun _ hk => trivial)⟩, ⟨by (with_reducible repeat (first | apply Kd.R_alloc | apply Kd.R_drewN | apply Kd.R_drew)); exact HO432.out⟩, ⟨by repeat (first | (with_reducible first | exact HB.out | apply below_alloc | apply pw_below_drewN | apply below_drew1) | exact HB.out)⟩⟩
    case rest =>
      clear HC8
      try clear c1
      try clear p2
      try clear c3
      try clear c3b0
      try clear c10
      try clear c12
      try clear c14
      try clear c16
      try clear c17
      try clear c17b0
      try clear c17b1
      obtain ⟨kq, x50_7, rfl, HA, HJ7, HO_4, HO_7, HO_8, HB⟩ := hcut
      cases kq with
      | zero => exact absurd HA.out (by simp [laws_FnExactTallestStack.j0])
      | succ kj7 =>
        have H := HA.out
        clear HA
        simp only [laws_FnExactTallestStack.j0] at H
        by_cases c24 : x50_7 = true
        · subst c24
          have H1 : (some false) = some r := by rw [if_pos rfl] at H; exact H
          clear H
          have H := H1
          clear H1
          obtain rfl := Option.some.inj H
          go_wp2
          go_ret
          exact ⟨by first | rfl | (simp [errW_none, errW_some] <;> rfl) | (simp [*, errW_none, errW_some] <;> rfl), by repeat (first | (with_reducible first | exact HB.out | apply below_alloc | apply pw_below_drewN | apply below_drew1) | exact HB.out)⟩
        · replace c24 := Bool.eq_false_iff.mpr c24
          subst c24
          have H1 : ((laws_toThingS.f kj7 l0).bind fun t434 => ((laws_eqThingS.f kj7 t425 t434).bind fun t437 => (if t437 = true then ((laws_markThingS.f kj7 t425 1).bind fun bt438 => (if bt438.1 < 0 then (laws_FnExactTallestStack.j1 kj7 l0 t420 t423 t424 t428 true) else ((laws_eqIntS.f kj7 t428 t420).bind fun t440 => (if t440 = true then (if t429 = t423 then (laws_FnExactTallestStack.j1 kj7 l0 t420 t423 t424 t428 (t430 != t424)) else (laws_FnExactTallestStack.j1 kj7 l0 t420 t423 t424 t428 true)) else (laws_FnExactTallestStack.j1 kj7 l0 t420 t423 t424 t428 true))))) else (some false)))) = some r := by rw [if_neg (show ¬ (false = true) by decide)] at H; exact H
          clear H
          have H := H1
          clear H1
          replace H := Option.bind_eq_some_iff.mp H
          obtain ⟨t434, A250, H⟩ := H
          replace H : ((laws_eqThingS.f kj7 t425 t434).bind fun t437 => (if t437 = true then ((laws_markThingS.f kj7 t425 1).bind fun bt438 => (if bt438.1 < 0 then (laws_FnExactTallestStack.j1 kj7 l0 t420 t423 t424 t428 true) else ((laws_eqIntS.f kj7 t428 t420).bind fun t440 => (if t440 = true then (if t429 = t423 then (laws_FnExactTallestStack.j1 kj7 l0 t420 t423 t424 t428 (t430 != t424)) else (laws_FnExactTallestStack.j1 kj7 l0 t420 t423 t424 t428 true)) else (laws_FnExactTallestStack.j1 kj7 l0 t420 t423 t424 t428 true))))) else (some false))) = some r := H
          have A25 := Aside0.mk A250
          clear A250
          replace H := Option.bind_eq_some_iff.mp H
          obtain ⟨t437, A260, H⟩ := H
          replace H : (if t437 = true then ((laws_markThingS.f kj7 t425 1).bind fun bt438 => (if bt438.1 < 0 then (laws_FnExactTallestStack.j1 kj7 l0 t420 t423 t424 t428 true) else ((laws_eqIntS.f kj7 t428 t420).bind fun t440 => (if t440 = true then (if t429 = t423 then (laws_FnExactTallestStack.j1 kj7 l0 t420 t423 t424 t428 (t430 != t424)) else (laws_FnExactTallestStack.j1 kj7 l0 t420 t423 t424 t428 true)) else (laws_FnExactTallestStack.j1 kj7 l0 t420 t423 t424 t428 true))))) else (some false)) = some r := H
          have A26 := Aside0.mk A260
          clear A260
          by_cases c27 : t437 = true
          · subst c27
            have H1 : ((laws_markThingS.f kj7 t425 1).bind fun bt438 => (if bt438.1 < 0 then (laws_FnExactTallestStack.j1 kj7 l0 t420 t423 t424 t428 true) else ((laws_eqIntS.f kj7 t428 t420).bind fun t440 => (if t440 = true then (if t429 = t423 then (laws_FnExactTallestStack.j1 kj7 l0 t420 t423 t424 t428 (t430 != t424)) else (laws_FnExactTallestStack.j1 kj7 l0 t420 t423 t424 t428 true)) else (laws_FnExactTallestStack.j1 kj7 l0 t420 t423 t424 t428 true))))) = some r := by rw [if_pos rfl] at H; exact H
            clear H
            have H := H1
            clear H1
            replace H := Option.bind_eq_some_iff.mp H
            obtain ⟨⟨t438, t439⟩, A280, H⟩ := H
            replace H : (if t438 < 0 then (laws_FnExactTallestStack.j1 kj7 l0 t420 t423 t424 t428 true) else ((laws_eqIntS.f kj7 t428 t420).bind fun t440 => (if t440 = true then (if t429 = t423 then (laws_FnExactTallestStack.j1 kj7 l0 t420 t423 t424 t428 (t430 != t424)) else (laws_FnExactTallestStack.j1 kj7 l0 t420 t423 t424 t428 true)) else (laws_FnExactTallestStack.j1 kj7 l0 t420 t423 t424 t428 true)))) = some r := H
            have A28 := Aside0.mk A280
            clear A280
            have HC29 := Aside0.mk H
            clear H
            go_upto_region 14 with (first | ((with_reducible refine gate_callee (f := 14) rfl ?_); refine goesL_ (some 53) rfl rfl Try.func14 (by kernel_rfl) rfl #[.slice A0 l0.length c0] rfl (by (try simp only [List.map_toArray, List.map_cons, List.map_nil]); first | done | rfl | (simp only [List.length_drop, List.length_take]; rfl)) ?_; (with_reducible refine (laws_toThingS.calls kj7 _ _ l0 t434 _ ?side1 ?side2 A25.out).mono ?_); (case side1 => repeat (first | exact (Kd.C_below HR0.out HB.out) | (with_reducible refine Kd.C_alloc ?_ _) | (with_reducible refine Kd.C_drewN ?_ _) | (with_reducible refine Kd.C_drew ?_))); (case side2 => exact HC0.out); rintro e w30 ⟨v435, rfl, ho0, hb⟩; refine ⟨_, rfl, ?_⟩; have n0_ := Aside0.mk (Kd.V_elder' (by (with_reducible repeat (first | apply Kd.V_alloc | apply Kd.V_drewN | apply Kd.V_drew)); exact HO_4.out) (Kd.R_base ho0) hb); have n1_ := Aside0.mk (Kd.R_elder' (by (with_reducible repeat (first | apply Kd.R_alloc | apply Kd.R_drewN | apply Kd.R_drew)); exact HO_7.out) (Kd.R_base ho0) hb); have n2_ := Aside0.mk (Kd.R_below (by (with_reducible repeat (first | apply Kd.R_alloc | apply Kd.R_drewN | apply Kd.R_drew)); exact HO_8.out) hb); have n3_ := Aside0.mk (Kd.R_lower (Kd.R_new' ho0 (Kd.R_lt (by (with_reducible repeat (first | apply Kd.R_alloc | apply Kd.R_drewN | apply Kd.R_drew)); exact HO_7.out))) (below_size (by repeat (first | (with_reducible first | exact HB.out | apply below_alloc | apply pw_below_drewN | apply below_drew1) | exact HB.out)))); have n4_ := Aside0.mk (below_step (by repeat (first | (with_reducible first | exact HB.out | apply below_alloc | apply pw_below_drewN | apply below_drew1) | exact HB.out)) hb); clear HO_4; clear HO_7; clear HO_8; clear HB; have HO_4 := n0_; have HO_7 := n1_; have HO_8 := n2_; have HO436 := n3_; have HB := n4_; clear n0_ n1_ n2_ n3_ n4_; (try clear hb); (try clear hb2); (try clear hk); (try clear hi); (try clear ho0); obtain ⟨Ao31, co31, eo31⟩ := Kd.R_slice HO436.out; subst eo31) | ((with_reducible refine gate_callee (f := 16) rfl ?_); refine goesL_ (some 54) rfl rfl Try.func16 (by kernel_rfl) rfl #[.slice Ao13 t425.length co13, .slice Ao31 t434.length co31] rfl (by (try simp only [List.map_toArray, List.map_cons, List.map_nil]); first | done | rfl | (simp only [List.length_drop, List.length_take]; rfl)) ?_; (with_reducible refine (laws_eqThingS.calls kj7 _ _ t425 _ _ t434 true _ ?side1 ?side2 ?side3 ?side4 A26.out).mono ?_); (case side1 => repeat (first | exact (Kd.R_reads' HO_7.out).2.2 | (with_reducible refine Kd.C_alloc ?_ _) | (with_reducible refine Kd.C_drewN ?_ _) | (with_reducible refine Kd.C_drew ?_))); (case side2 => exact (Kd.R_reads' HO_7.out).2.1); (case side3 => repeat (first | exact (Kd.R_reads' HO436.out).2.2 | (with_reducible refine Kd.C_alloc ?_ _) | (with_reducible refine Kd.C_drewN ?_ _) | (with_reducible refine Kd.C_drew ?_))); (case side4 => exact (Kd.R_reads' HO436.out).2.1); rintro e w32 ⟨rfl, hb⟩; refine ⟨_, rfl, ?_⟩; have n0_ := Aside0.mk (Kd.V_below (by (with_reducible repeat (first | apply Kd.V_alloc | apply Kd.V_drewN | apply Kd.V_drew)); exact HO_4.out) hb); have n1_ := Aside0.mk (Kd.R_below (by (with_reducible repeat (first | apply Kd.R_alloc | apply Kd.R_drewN | apply Kd.R_drew)); exact HO_7.out) hb); have n2_ := Aside0.mk (Kd.R_below (by (with_reducible repeat (first | apply Kd.R_alloc | apply Kd.R_drewN | apply Kd.R_drew)); exact HO_8.out) hb); have n3_ := Aside0.mk (Kd.R_below (by (with_reducible repeat (first | apply Kd.R_alloc | apply Kd.R_drewN | apply Kd.R_drew)); exact HO436.out) hb); have n4_ := Aside0.mk (below_step (by repeat (first | (with_reducible first | exact HB.out | apply below_alloc | apply pw_below_drewN | apply below_drew1) | exact HB.out)) hb); clear HO_4; clear HO_7; clear HO_8; clear HO436; clear HB; have HO_4 := n0_; have HO_7 := n1_; have HO_8 := n2_; have HO436 := n3_; have HB := n4_; clear n0_ n1_ n2_ n3_ n4_; (try clear hb); (try clear hb2); (try clear hk); (try clear hi)) | ((with_reducible refine gate_callee (f := 20) rfl ?_); refine goesL_ (some 58) rfl rfl Try.func20 (by kernel_rfl) rfl #[.slice Ao13 t425.length co13, .int .i64 1] rfl (by (try simp only [List.map_toArray, List.map_cons, List.map_nil]); first | done | rfl | (simp only [List.length_drop, List.length_take]; rfl)) ?_; (with_reducible refine (laws_markThingS.calls kj7 (fun k_ => some k_ = (.slice Ao13 t425.length co13 : Value).ownBlock) (.slice Ao13 t425.length co13) t425 1 t438 t439 w _ ?side1 ?side2 A28.out).mono ?_); (case side1 => repeat (first | (with_reducible first | exact HB.out | apply below_alloc | apply pw_below_drewN | apply below_drew1) | exact HB.out)); (case side2 => exact Kd.R_tight rfl HO_7.out); rintro e w33 ⟨rfl, hy0, hb, hkp⟩; refine ⟨_, rfl, ?_⟩; have n0_ := Aside0.mk (Kd.V_mono (ok' := fun k_ => some k_ ≠ (.slice Ao13 t425.length co13 : Value).ownBlock ∧ some k_ ≠ (v431 : Value).ownBlock ∧ some k_ ≠ (.slice Ao31 t434.length co31 : Value).ownBlock) (Kd.V_keptB (HO_4.out) hkp (fun k_ hk_ hs_ => (hk_.1.1) hs_)) (fun k_ hk_ => ⟨hk_.1.1.1, hk_.1.1.2, hk_.1.2⟩)); have n1_ := Aside0.mk (Kd.R_reok rfl hy0 (fun k_ e_ => HO_7.out.1 k_ e_)); have n2_ := Aside0.mk (Kd.R_mono (ok' := fun k_ => True) (Kd.R_keptB ((Kd.R_apart' HO_8.out (Kd.R_typed HO_7.out) (by decide))) hkp (fun k_ hk_ hs_ => (hk_.2) hs_)) (fun k_ hk_ => trivial)); have n3_ := Aside0.mk (Kd.R_mono (ok' := fun k_ => some k_ ≠ (.slice Ao13 t425.length co13 : Value).ownBlock) (Kd.R_keptB (HO436.out) hkp (fun k_ hk_ hs_ => (hk_.2) hs_)) (fun k_ hk_ => hk_.1.2)); have n4_ := Aside0.mk (hb); clear HO_4; clear HO_7; clear HO_8; clear HO436; clear HB; have HO_4 := n0_; have HO_7 := n1_; have HO_8 := n2_; have HO436 := n3_; have HB := n4_; clear n0_ n1_ n2_ n3_ n4_; (try clear hb); (try clear hkp); (try clear hy0)))
            (try simp only [Act.put, List.setIfInBounds_toArray, List.set_cons_zero, List.set_cons_succ])
            go_cut [76] (fun v76 wc => ∃ (kq : Nat) (x76_28 : Bool), v76 = .bool x76_28 ∧ Aside0 (laws_FnExactTallestStack.j1 kq l0 t420 t423 t424 t428 x76_28 = some r) ∧ Aside0 (kq ≤ kj7) ∧ Aside0 (Kd.V (Kd.int .i64) 3 wc w.heap.size (fun k_ => some k_ ≠ (v431 : Value).ownBlock) v421 t420) ∧ Aside0 (Kd.R (Kd.int .i64) 3 wc w.heap.size (fun _ => True) v431 t428) ∧ Aside0 (Below w.heap.size w wc))
            case first =>
              have H := HC29.out
              clear HC29
              by_cases c34 : t438 < 0
              · rw [if_pos c34] at H
                have c34b0 : decide (t438 < 0) = true := decide_eq_true c34
                clear c34
                (first | rw [c34b0] | (simp only [i64_w, i32_w]; rw [c34b0]) | skip)
                have H' := Aside0.mk H
                clear H
                go_wp2
                go_meet
                case rel => exact ⟨_, (true), (by first | rfl | (simp; done) | (simp [*]; done)), H', ⟨by have := HJ7.out; first | omega | exact Nat.le_refl _⟩, ⟨by (with_reducible repeat (first | apply Kd.V_alloc | apply Kd.V_drewN | apply Kd.V_drew)); exact Kd.V_mono HO_4.out (fun _ hk => hk.2.1)⟩, ⟨by (with_reducible repeat (first | apply Kd.R_alloc | apply Kd.R_drewN | apply Kd.R_drew)); exact HO_8.out⟩, ⟨by repeat (first | (with_reducible first | exact HB.out | apply below_alloc | apply pw_below_drewN | apply below_drew1) | exact HB.out)⟩⟩
              · rw [if_neg c34] at H
                have c34b0 : decide (t438 < 0) = false := decide_eq_false c34
                clear c34
                (first | rw [c34b0] | (simp only [i64_w, i32_w]; rw [c34b0]) | skip)
                replace H := Option.bind_eq_some_iff.mp H
                obtain ⟨t440, A350, H⟩ := H
                replace H : (if t440 = true then (if t429 = t423 then (laws_FnExactTallestStack.j1 kj7 l0 t420 t423 t424 t428 (t430 != t424)) else (laws_FnExactTallestStack.j1 kj7 l0 t420 t423 t424 t428 true)) else (laws_FnExactTallestStack.j1 kj7 l0 t420 t423 t424 t428 true)) = some r := H
                have A35 := Aside0.mk A350
                clear A350
                by_cases c36 : t440 = true
                · subst c36
                  have H1 : (if t429 = t423 then (laws_FnExactTallestStack.j1 kj7 l0 t420 t423 t424 t428 (t430 != t424)) else (laws_FnExactTallestStack.j1 kj7 l0 t420 t423 t424 t428 true)) = some r := by rw [if_pos rfl] at H; exact H
                  clear H
                  have H := H1
                  clear H1
                  by_cases c37 : t429 = t423
                  · rw [if_pos c37] at H
                    have c37b0 : (t429 == t423) = true := beq_iff_eq.mpr c37
                    have c37b1 : (t429 != t423) = false := bne_eq_false_iff_eq.mpr c37
                    clear c37
                    have H' := Aside0.mk H
                    clear H
                    obtain ⟨Ao38, co38, eo38⟩ := Kd.R_slice HO_8.out
                    subst eo38
                    obtain ⟨Ao39, co39, eo39⟩ := Kd.V_slice HO_4.out
                    subst eo39
                    go_wp2_with (first | (go_at_call 31; (with_reducible refine (laws_eqIntS.calls kj7 _ _ t428 _ _ t420 true _ ?side1 ?side2 ?side3 ?side4 A35.out).mono ?_); (case side1 => repeat (first | exact (Kd.R_reads' HO_8.out).2.2 | (with_reducible refine Kd.C_alloc ?_ _) | (with_reducible refine Kd.C_drewN ?_ _) | (with_reducible refine Kd.C_drew ?_))); (case side2 => exact (Kd.R_reads' HO_8.out).2.1); (case side3 => repeat (first | exact (Kd.V_reads' HO_4.out).2.2 | (with_reducible refine Kd.C_alloc ?_ _) | (with_reducible refine Kd.C_drewN ?_ _) | (with_reducible refine Kd.C_drew ?_))); (case side4 => exact (Kd.V_reads' HO_4.out).2.1); rintro e w' ⟨rfl, ⟨nd, rfl⟩⟩))
                    go_meet
                    case rel => exact ⟨_, ((t430 != t424)), (by first | rfl | (simp; done) | (simp [*]; done)), H', ⟨by have := HJ7.out; first | omega | exact Nat.le_refl _⟩, ⟨by (with_reducible repeat (first | apply Kd.V_alloc | apply Kd.V_drewN | apply Kd.V_drew)); exact Kd.V_mono HO_4.out (fun _ hk => hk.2.1)⟩, ⟨by (with_reducible repeat (first | apply Kd.R_alloc | apply Kd.R_drewN | apply Kd.R_drew)); exact HO_8.out⟩, ⟨by repeat (first | (with_reducible first | exact HB.out | apply below_alloc | apply pw_below_drewN | apply below_drew1) | exact HB.out)⟩⟩
                  · rw [if_neg c37] at H
                    have c37b0 : (t429 == t423) = false := beq_eq_false_iff_ne.mpr c37
                    have c37b1 : (t429 != t423) = true := bne_iff_ne.mpr c37
                    have H' := Aside0.mk H
                    clear H
                    obtain ⟨Ao40, co40, eo40⟩ := Kd.R_slice HO_8.out
                    subst eo40
                    obtain ⟨Ao41, co41, eo41⟩ := Kd.V_slice HO_4.out
                    subst eo41
                    go_wp2_with (first | (go_at_call 31; (with_reducible refine (laws_eqIntS.calls kj7 _ _ t428 _ _ t420 true _ ?side1 ?side2 ?side3 ?side4 A35.out).mono ?_); (case side1 => repeat (first | exact (Kd.R_reads' HO_8.out).2.2 | (with_reducible refine Kd.C_alloc ?_ _) | (with_reducible refine Kd.C_drewN ?_ _) | (with_reducible refine Kd.C_drew ?_))); (case side2 => exact (Kd.R_reads' HO_8.out).2.1); (case side3 => repeat (first | exact (Kd.V_reads' HO_4.out).2.2 | (with_reducible refine Kd.C_alloc ?_ _) | (with_reducible refine Kd.C_drewN ?_ _) | (with_reducible refine Kd.C_drew ?_))); (case side4 => exact (Kd.V_reads' HO_4.out).2.1); rintro e w' ⟨rfl, ⟨nd, rfl⟩⟩))
                    go_meet
                    case rel => exact ⟨_, (true), (by first | rfl | (simp; done) | (simp [*]; done)), H', ⟨by have := HJ7.out; first | omega | exact Nat.le_refl _⟩, ⟨by (with_reducible repeat (first | apply Kd.V_alloc | apply Kd.V_drewN | apply Kd.V_drew)); exact Kd.V_mono HO_4.out (fun _ hk => hk.2.1)⟩, ⟨by (with_reducible repeat (first | apply Kd.R_alloc | apply Kd.R_drewN | apply Kd.R_drew)); exact HO_8.out⟩, ⟨by repeat (first | (with_reducible first | exact HB.out | apply below_alloc | apply pw_below_drewN | apply below_drew1) | exact HB.out)⟩⟩
                · replace c36 := Bool.eq_false_iff.mpr c36
                  subst c36
                  have H1 : (laws_FnExactTallestStack.j1 kj7 l0 t420 t423 t424 t428 true) = some r := by rw [if_neg (show ¬ (false = true) by decide)] at H; exact H
                  clear H
                  have H := H1
                  clear H1
                  have H' := Aside0.mk H
                  clear H
                  obtain ⟨Ao42, co42, eo42⟩ := Kd.R_slice HO_8.out
                  subst eo42
                  obtain ⟨Ao43, co43, eo43⟩ := Kd.V_slice HO_4.out
                  subst eo43
                  go_wp2_with (first | (go_at_call 31; (with_reducible refine (laws_eqIntS.calls kj7 _ _ t428 _ _ t420 false _ ?side1 ?side2 ?side3 ?side4 A35.out).mono ?_); (case side1 => repeat (first | exact (Kd.R_reads' HO_8.out).2.2 | (with_reducible refine Kd.C_alloc ?_ _) | (with_reducible refine Kd.C_drewN ?_ _) | (with_reducible refine Kd.C_drew ?_))); (case side2 => exact (Kd.R_reads' HO_8.out).2.1); (case side3 => repeat (first | exact (Kd.V_reads' HO_4.out).2.2 | (with_reducible refine Kd.C_alloc ?_ _) | (with_reducible refine Kd.C_drewN ?_ _) | (with_reducible refine Kd.C_drew ?_))); (case side4 => exact (Kd.V_reads' HO_4.out).2.1); rintro e w' ⟨rfl, ⟨nd, rfl⟩⟩))
                  go_meet
                  case rel => exact ⟨_, (true), (by first | rfl | (simp; done) | (simp [*]; done)), H', ⟨by have := HJ7.out; first | omega | exact Nat.le_refl _⟩, ⟨by (with_reducible repeat (first | apply Kd.V_alloc | apply Kd.V_drewN | apply Kd.V_drew)); exact Kd.V_mono HO_4.out (fun _ hk => hk.2.1)⟩, ⟨by (with_reducible repeat (first | apply Kd.R_alloc | apply Kd.R_drewN | apply Kd.R_drew)); exact HO_8.out⟩, ⟨by repeat (first | (with_reducible first | exact HB.out | apply below_alloc | apply pw_below_drewN | apply below_drew1) | exact HB.out)⟩⟩
            case rest =>
              clear HC29
              try clear c1
              try clear c2
              try clear p2
              try clear c3
              try clear c3b0
              try clear c10
              try clear c12
              try clear c14
              try clear c16
              try clear c17
              try clear c17b0
              try clear c17b1
              try clear c20
              try clear c24
              try clear c27
              try clear c31
              try clear c34
              try clear c34b0
              try clear c36
              try clear c37
              try clear c37b0
              try clear c37b1
              try clear p2
              obtain ⟨kq, x76_28, rfl, HA, HJ28, HO_4, HO_8, HB⟩ := hcut
              cases kq with
              | zero => exact absurd HA.out (by simp [laws_FnExactTallestStack.j1])
              | succ kj28 =>
                have H := HA.out
                clear HA
                simp only [laws_FnExactTallestStack.j1] at H
                by_cases c44 : x76_28 = true
                · subst c44
                  have H1 : (some false) = some r := by rw [if_pos rfl] at H; exact H
                  clear H
                  have H := H1
                  clear H1
                  obtain rfl := Option.some.inj H
                  go_wp2
                  go_ret
                  exact ⟨by first | rfl | (simp [errW_none, errW_some] <;> rfl) | (simp [*, errW_none, errW_some] <;> rfl), by repeat (first | (with_reducible first | exact HB.out | apply below_alloc | apply pw_below_drewN | apply below_drew1) | exact HB.out)⟩
                · replace c44 := Bool.eq_false_iff.mpr c44
                  subst c44
                  have H1 : ((laws_markIntS.f kj28 t428 1).bind fun bt441 => ((laws_heldIntS.f kj28 bt441.2 1).bind fun t443 => (if t443 < 0 then (some false) else (if t443 = bt441.1 then ((laws_toThingS.f kj28 l0).bind fun t444 => ((impl_TallestStack.f t444).bind fun bt447 => ((laws_eqIntS.f kj28 bt447.1 t420).bind fun t452 => (if t452 = true then (if bt447.2.1 = t423 then (laws_FnExactTallestStack.j2 kj28 bt441.2 bt441.1 (bt447.2.2 != t424)) else (laws_FnExactTallestStack.j2 kj28 bt441.2 bt441.1 true)) else (laws_FnExactTallestStack.j2 kj28 bt441.2 bt441.1 true))))) else (some false))))) = some r := by rw [if_neg (show ¬ (false = true) by decide)] at H; exact H
                  clear H
                  have H := H1
                  clear H1
                  replace H := Option.bind_eq_some_iff.mp H
                  obtain ⟨⟨t441, t442⟩, A450, H⟩ := H
                  replace H : ((laws_heldIntS.f kj28 t442 1).bind fun t443 => (if t443 < 0 then (some false) else (if t443 = t441 then ((laws_toThingS.f kj28 l0).bind fun t444 => ((impl_TallestStack.f t444).bind fun bt447 => ((laws_eqIntS.f kj28 bt447.1 t420).bind fun t452 => (if t452 = true then (if bt447.2.1 = t423 then (laws_FnExactTallestStack.j2 kj28 t442 t441 (bt447.2.2 != t424)) else (laws_FnExactTallestStack.j2 kj28 t442 t441 true)) else (laws_FnExactTallestStack.j2 kj28 t442 t441 true))))) else (some false)))) = some r := H
                  have A45 := Aside0.mk A450
                  clear A450
                  replace H := Option.bind_eq_some_iff.mp H
                  obtain ⟨t443, A460, H⟩ := H
                  replace H : (if t443 < 0 then (some false) else (if t443 = t441 then ((laws_toThingS.f kj28 l0).bind fun t444 => ((impl_TallestStack.f t444).bind fun bt447 => ((laws_eqIntS.f kj28 bt447.1 t420).bind fun t452 => (if t452 = true then (if bt447.2.1 = t423 then (laws_FnExactTallestStack.j2 kj28 t442 t441 (bt447.2.2 != t424)) else (laws_FnExactTallestStack.j2 kj28 t442 t441 true)) else (laws_FnExactTallestStack.j2 kj28 t442 t441 true))))) else (some false))) = some r := H
                  have A46 := Aside0.mk A460
                  clear A460
                  by_cases c47 : t443 < 0
                  · rw [if_pos c47] at H
                    have c47b0 : decide (t443 < 0) = true := decide_eq_true c47
                    clear c47
                    obtain rfl := Option.some.inj H
                    obtain ⟨Ao48, co48, eo48⟩ := Kd.R_slice HO_8.out
                    subst eo48
                    go_wp2_with (first | ((with_reducible refine gate_callee (f := 32) rfl ?_); refine goesL_ (some 79) rfl rfl Try.func32 (by kernel_rfl) rfl #[.slice Ao48 t428.length co48, .int .i64 1] rfl (by (try simp only [List.map_toArray, List.map_cons, List.map_nil]); first | done | rfl | (simp only [List.length_drop, List.length_take]; rfl)) ?_; (with_reducible refine (laws_markIntS.calls kj28 (fun k_ => some k_ = (.slice Ao48 t428.length co48 : Value).ownBlock) (.slice Ao48 t428.length co48) t428 1 t441 t442 w _ ?side1 ?side2 A45.out).mono ?_); (case side1 => repeat (first | (with_reducible first | exact HB.out | apply below_alloc | apply pw_below_drewN | apply below_drew1) | exact HB.out)); (case side2 => exact Kd.R_tight rfl HO_8.out); rintro e w49 ⟨rfl, hy0, hb, hkp⟩; refine ⟨_, rfl, ?_⟩; have n0_ := Aside0.mk (Kd.V_mono (ok' := fun k_ => some k_ ≠ (.slice Ao48 t428.length co48 : Value).ownBlock) (Kd.V_keptB (HO_4.out) hkp (fun k_ hk_ hs_ => (hk_) hs_)) (fun k_ hk_ => hk_.1)); have n1_ := Aside0.mk (Kd.R_reok rfl hy0 (fun k_ e_ => HO_8.out.1 k_ e_)); have n2_ := Aside0.mk (hb); clear HO_4; clear HO_8; clear HB; have HO_4 := n0_; have HO_8 := n1_; have HB := n2_; clear n0_ n1_ n2_; (try clear hb); (try clear hkp); (try clear hy0)) | ((with_reducible refine gate_callee (f := 33) rfl ?_); refine goesL_ (some 82) rfl rfl Try.func33 (by kernel_rfl) rfl #[.slice Ao48 t442.length co48, .int .i64 1] rfl (by (try simp only [List.map_toArray, List.map_cons, List.map_nil]); first | done | (rw [show t442.length = t428.length from (Kd.R_reads' HO_8.out).1.symm] <;> rfl) | rfl | (simp only [List.length_drop, List.length_take]; rfl)) ?_; (with_reducible refine (laws_heldIntS.calls kj28 _ _ t442 1 t443 _ ?side1 ?side2 A46.out).mono ?_); (case side1 => repeat (first | exact (Kd.R_reads' HO_8.out).2.2 | (with_reducible refine Kd.C_alloc ?_ _) | (with_reducible refine Kd.C_drewN ?_ _) | (with_reducible refine Kd.C_drew ?_))); (case side2 => rw [show t442.length = t428.length from (Kd.R_reads' HO_8.out).1.symm]; exact (Kd.R_reads' HO_8.out).2.1); rintro e w' ⟨rfl, ⟨nd, rfl⟩⟩; refine ⟨_, rfl, ?_⟩))
                    go_ret
                    exact ⟨by first | rfl | (simp [errW_none, errW_some] <;> rfl) | (simp [*, errW_none, errW_some] <;> rfl), by repeat (first | (with_reducible first | exact HB.out | apply below_alloc | apply pw_below_drewN | apply below_drew1) | exact HB.out)⟩
                  · rw [if_neg c47] at H
                    have c47b0 : decide (t443 < 0) = false := decide_eq_false c47
                    clear c47
                    by_cases c50 : t443 = t441
                    · rw [if_pos c50] at H
                      have c50b0 : (t443 == t441) = true := beq_iff_eq.mpr c50
                      have c50b1 : (t443 != t441) = false := bne_eq_false_iff_eq.mpr c50
                      clear c50
                      replace H := Option.bind_eq_some_iff.mp H
                      obtain ⟨t444, A510, H⟩ := H
                      replace H : ((impl_TallestStack.f t444).bind fun bt447 => ((laws_eqIntS.f kj28 bt447.1 t420).bind fun t452 => (if t452 = true then (if bt447.2.1 = t423 then (laws_FnExactTallestStack.j2 kj28 t442 t441 (bt447.2.2 != t424)) else (laws_FnExactTallestStack.j2 kj28 t442 t441 true)) else (laws_FnExactTallestStack.j2 kj28 t442 t441 true)))) = some r := H
                      have A51 := Aside0.mk A510
                      clear A510
                      replace H := Option.bind_eq_some_iff.mp H
                      obtain ⟨⟨t447, t448, t449⟩, A520, H⟩ := H
                      replace H : ((laws_eqIntS.f kj28 t447 t420).bind fun t452 => (if t452 = true then (if t448 = t423 then (laws_FnExactTallestStack.j2 kj28 t442 t441 (t449 != t424)) else (laws_FnExactTallestStack.j2 kj28 t442 t441 true)) else (laws_FnExactTallestStack.j2 kj28 t442 t441 true))) = some r := H
                      have A52 := Aside0.mk A520
                      clear A520
                      have HC53 := Aside0.mk H
                      clear H
                      obtain ⟨Ao54, co54, eo54⟩ := Kd.R_slice HO_8.out
                      subst eo54
                      go_upto_region 25 with (first | ((with_reducible refine gate_callee (f := 32) rfl ?_); refine goesL_ (some 79) rfl rfl Try.func32 (by kernel_rfl) rfl #[.slice Ao54 t428.length co54, .int .i64 1] rfl (by (try simp only [List.map_toArray, List.map_cons, List.map_nil]); first | done | rfl | (simp only [List.length_drop, List.length_take]; rfl)) ?_; (with_reducible refine (laws_markIntS.calls kj28 (fun k_ => some k_ = (.slice Ao54 t428.length co54 : Value).ownBlock) (.slice Ao54 t428.length co54) t428 1 t441 t442 w _ ?side1 ?side2 A45.out).mono ?_); (case side1 => repeat (first | (with_reducible first | exact HB.out | apply below_alloc | apply pw_below_drewN | apply below_drew1) | exact HB.out)); (case side2 => exact Kd.R_tight rfl HO_8.out); rintro e w55 ⟨rfl, hy0, hb, hkp⟩; refine ⟨_, rfl, ?_⟩; have n0_ := Aside0.mk (Kd.V_mono (ok' := fun k_ => some k_ ≠ (.slice Ao54 t428.length co54 : Value).ownBlock) (Kd.V_keptB (HO_4.out) hkp (fun k_ hk_ hs_ => (hk_) hs_)) (fun k_ hk_ => hk_.1)); have n1_ := Aside0.mk (Kd.R_reok rfl hy0 (fun k_ e_ => HO_8.out.1 k_ e_)); have n2_ := Aside0.mk (hb); clear HO_4; clear HO_8; clear HB; have HO_4 := n0_; have HO_8 := n1_; have HB := n2_; clear n0_ n1_ n2_; (try clear hb); (try clear hkp); (try clear hy0)) | ((with_reducible refine gate_callee (f := 33) rfl ?_); refine goesL_ (some 82) rfl rfl Try.func33 (by kernel_rfl) rfl #[.slice Ao54 t442.length co54, .int .i64 1] rfl (by (try simp only [List.map_toArray, List.map_cons, List.map_nil]); first | done | (rw [show t442.length = t428.length from (Kd.R_reads' HO_8.out).1.symm] <;> rfl) | rfl | (simp only [List.length_drop, List.length_take]; rfl)) ?_; (with_reducible refine (laws_heldIntS.calls kj28 _ _ t442 1 t443 _ ?side1 ?side2 A46.out).mono ?_); (case side1 => repeat (first | exact (Kd.R_reads' HO_8.out).2.2 | (with_reducible refine Kd.C_alloc ?_ _) | (with_reducible refine Kd.C_drewN ?_ _) | (with_reducible refine Kd.C_drew ?_))); (case side2 => rw [show t442.length = t428.length from (Kd.R_reads' HO_8.out).1.symm]; exact (Kd.R_reads' HO_8.out).2.1); rintro e w' ⟨rfl, ⟨nd, rfl⟩⟩; refine ⟨_, rfl, ?_⟩) | ((with_reducible refine gate_callee (f := 14) rfl ?_); refine goesL_ (some 90) rfl rfl Try.func14 (by kernel_rfl) rfl #[.slice A0 l0.length c0] rfl (by (try simp only [List.map_toArray, List.map_cons, List.map_nil]); first | done | rfl | (simp only [List.length_drop, List.length_take]; rfl)) ?_; (with_reducible refine (laws_toThingS.calls kj28 _ _ l0 t444 _ ?side1 ?side2 A51.out).mono ?_); (case side1 => repeat (first | exact (Kd.C_below HR0.out (by repeat (first | (with_reducible first | exact HB.out | apply below_alloc | apply pw_below_drewN | apply below_drew1) | exact HB.out))) | (with_reducible refine Kd.C_alloc ?_ _) | (with_reducible refine Kd.C_drewN ?_ _) | (with_reducible refine Kd.C_drew ?_))); (case side2 => exact HC0.out); rintro e w56 ⟨v445, rfl, ho0, hb⟩; refine ⟨_, rfl, ?_⟩; have n0_ := Aside0.mk (Kd.V_elder' (by (with_reducible repeat (first | apply Kd.V_alloc | apply Kd.V_drewN | apply Kd.V_drew)); exact HO_4.out) (Kd.R_base ho0) hb); have n1_ := Aside0.mk (Kd.R_below (by (with_reducible repeat (first | apply Kd.R_alloc | apply Kd.R_drewN | apply Kd.R_drew)); exact HO_8.out) hb); have n2_ := Aside0.mk (Kd.R_lower ho0 (below_size (by repeat (first | (with_reducible first | exact HB.out | apply below_alloc | apply pw_below_drewN | apply below_drew1) | exact HB.out)))); have n3_ := Aside0.mk (below_step (by repeat (first | (with_reducible first | exact HB.out | apply below_alloc | apply pw_below_drewN | apply below_drew1) | exact HB.out)) hb); clear HO_4; clear HO_8; clear HB; have HO_4 := n0_; have HO_8 := n1_; have HO446 := n2_; have HB := n3_; clear n0_ n1_ n2_ n3_; (try clear hb); (try clear hb2); (try clear hk); (try clear hi); (try clear ho0); obtain ⟨Ao57, co57, eo57⟩ := Kd.R_slice HO446.out; subst eo57) | ((with_reducible refine gate_callee (f := 37) rfl ?_); refine goesL_ (some 91) rfl rfl Try.func37 (by kernel_rfl) rfl #[.slice Ao57 t444.length co57] rfl (by (try simp only [List.map_toArray, List.map_cons, List.map_nil]); first | done | rfl | (simp only [List.length_drop, List.length_take]; rfl)) ?_; (with_reducible refine (impl_TallestStack.calls _ _ t444 t447 t448 t449 _ ?side1 ?side2 A52.out).mono ?_); (case side1 => repeat (first | exact (Kd.R_reads' HO446.out).2.2 | (with_reducible refine Kd.C_alloc ?_ _) | (with_reducible refine Kd.C_drewN ?_ _) | (with_reducible refine Kd.C_drew ?_))); (case side2 => exact (Kd.R_reads' HO446.out).2.1); rintro e w58 ⟨v450, rfl, ho0, hb⟩; refine ⟨_, rfl, ?_⟩; have n0_ := Aside0.mk (Kd.V_elder' (by (with_reducible repeat (first | apply Kd.V_alloc | apply Kd.V_drewN | apply Kd.V_drew)); exact HO_4.out) (Kd.R_base ho0) hb); have n1_ := Aside0.mk (Kd.R_elder' (by (with_reducible repeat (first | apply Kd.R_alloc | apply Kd.R_drewN | apply Kd.R_drew)); exact HO_8.out) (Kd.R_base ho0) hb); have n2_ := Aside0.mk (Kd.R_below (by (with_reducible repeat (first | apply Kd.R_alloc | apply Kd.R_drewN | apply Kd.R_drew)); exact HO446.out) hb); have n3_ := Aside0.mk (Kd.R_lower (Kd.R_new' ho0 (Kd.R_lt (by (with_reducible repeat (first | apply Kd.R_alloc | apply Kd.R_drewN | apply Kd.R_drew)); exact HO_8.out))) (below_size (by repeat (first | (with_reducible first | exact HB.out | apply below_alloc | apply pw_below_drewN | apply below_drew1) | exact HB.out)))); have n4_ := Aside0.mk (below_step (by repeat (first | (with_reducible first | exact HB.out | apply below_alloc | apply pw_below_drewN | apply below_drew1) | exact HB.out)) hb); clear HO_4; clear HO_8; clear HO446; clear HB; have HO_4 := n0_; have HO_8 := n1_; have HO446 := n2_; have HO451 := n3_; have HB := n4_; clear n0_ n1_ n2_ n3_ n4_; (try clear hb); (try clear hb2); (try clear hk); (try clear hi); (try clear ho0)))
                      (try simp only [Act.put, List.setIfInBounds_toArray, List.set_cons_zero, List.set_cons_succ])
                      go_cut [108] (fun v108 wc => ∃ (kq : Nat) (x108_52 : Bool), v108 = .bool x108_52 ∧ Aside0 (laws_FnExactTallestStack.j2 kq t442 t441 x108_52 = some r) ∧ Aside0 (kq ≤ kj28) ∧ Aside0 (Kd.R (Kd.int .i64) 3 wc w.heap.size (fun _ => True) (.slice Ao54 t428.length co54) t442) ∧ Aside0 (Below w.heap.size w wc))
                      case first =>
                        have H := HC53.out
                        clear HC53
                        replace H := Option.bind_eq_some_iff.mp H
                        obtain ⟨t452, A590, H⟩ := H
                        replace H : (if t452 = true then (if t448 = t423 then (laws_FnExactTallestStack.j2 kj28 t442 t441 (t449 != t424)) else (laws_FnExactTallestStack.j2 kj28 t442 t441 true)) else (laws_FnExactTallestStack.j2 kj28 t442 t441 true)) = some r := H
                        have A59 := Aside0.mk A590
                        clear A590
                        by_cases c60 : t452 = true
                        · subst c60
                          have H1 : (if t448 = t423 then (laws_FnExactTallestStack.j2 kj28 t442 t441 (t449 != t424)) else (laws_FnExactTallestStack.j2 kj28 t442 t441 true)) = some r := by rw [if_pos rfl] at H; exact H
                          clear H
                          have H := H1
                          clear H1
                          by_cases c61 : t448 = t423
                          · rw [if_pos c61] at H
                            have c61b0 : (t448 == t423) = true := beq_iff_eq.mpr c61
                            have c61b1 : (t448 != t423) = false := bne_eq_false_iff_eq.mpr c61
                            clear c61
                            (first | rw [c61b0] | (simp only [i64_w, i32_w]; rw [c61b0]) | skip)
                            have H' := Aside0.mk H
                            clear H
                            obtain ⟨Ao62, co62, eo62⟩ := Kd.R_slice HO451.out
                            subst eo62
                            obtain ⟨Ao63, co63, eo63⟩ := Kd.V_slice HO_4.out
                            subst eo63
                            go_wp2_with (first | ((with_reducible refine gate_callee (f := 31) rfl ?_); refine goesL_ (some 97) rfl rfl Try.func31 (by kernel_rfl) rfl #[.slice Ao62 t447.length co62, .slice Ao63 t420.length co63] rfl (by (try simp only [List.map_toArray, List.map_cons, List.map_nil]); first | done | rfl | (simp only [List.length_drop, List.length_take]; rfl)) ?_; (with_reducible refine (laws_eqIntS.calls kj28 _ _ t447 _ _ t420 true _ ?side1 ?side2 ?side3 ?side4 A59.out).mono ?_); (case side1 => repeat (first | exact (Kd.R_reads' HO451.out).2.2 | (with_reducible refine Kd.C_alloc ?_ _) | (with_reducible refine Kd.C_drewN ?_ _) | (with_reducible refine Kd.C_drew ?_))); (case side2 => exact (Kd.R_reads' HO451.out).2.1); (case side3 => repeat (first | exact (Kd.V_reads' HO_4.out).2.2 | (with_reducible refine Kd.C_alloc ?_ _) | (with_reducible refine Kd.C_drewN ?_ _) | (with_reducible refine Kd.C_drew ?_))); (case side4 => exact (Kd.V_reads' HO_4.out).2.1); rintro e w' ⟨rfl, ⟨nd, rfl⟩⟩; refine ⟨_, rfl, ?_⟩))
                            go_meet
                            case rel => exact ⟨_, ((t449 != t424)), (by first | rfl | (simp; done) | (simp [*]; done)), H', ⟨by have := HJ7.out; have := HJ28.out; first | omega | exact Nat.le_refl _⟩, ⟨by (with_reducible repeat (first | apply Kd.R_alloc | apply Kd.R_drewN | apply Kd.R_drew)); exact Kd.R_mono HO_8.out (fun _ hk => trivial)⟩, ⟨by repeat (first | (with_reducible first | exact HB.out | apply below_alloc | apply pw_below_drewN | apply below_drew1) | exact HB.out)⟩⟩
                          · rw [if_neg c61] at H
                            have c61b0 : (t448 == t423) = false := beq_eq_false_iff_ne.mpr c61
                            have c61b1 : (t448 != t423) = true := bne_iff_ne.mpr c61
                            (first | rw [c61b0] | (simp only [i64_w, i32_w]; rw [c61b0]) | skip)
                            have H' := Aside0.mk H
                            clear H
                            obtain ⟨Ao64, co64, eo64⟩ := Kd.R_slice HO451.out
                            subst eo64
                            obtain ⟨Ao65, co65, eo65⟩ := Kd.V_slice HO_4.out
                            subst eo65
                            go_wp2_with (first | ((with_reducible refine gate_callee (f := 31) rfl ?_); refine goesL_ (some 97) rfl rfl Try.func31 (by kernel_rfl) rfl #[.slice Ao64 t447.length co64, .slice Ao65 t420.length co65] rfl (by (try simp only [List.map_toArray, List.map_cons, List.map_nil]); first | done | rfl | (simp only [List.length_drop, List.length_take]; rfl)) ?_; (with_reducible refine (laws_eqIntS.calls kj28 _ _ t447 _ _ t420 true _ ?side1 ?side2 ?side3 ?side4 A59.out).mono ?_); (case side1 => repeat (first | exact (Kd.R_reads' HO451.out).2.2 | (with_reducible refine Kd.C_alloc ?_ _) | (with_reducible refine Kd.C_drewN ?_ _) | (with_reducible refine Kd.C_drew ?_))); (case side2 => exact (Kd.R_reads' HO451.out).2.1); (case side3 => repeat (first | exact (Kd.V_reads' HO_4.out).2.2 | (with_reducible refine Kd.C_alloc ?_ _) | (with_reducible refine Kd.C_drewN ?_ _) | (with_reducible refine Kd.C_drew ?_))); (case side4 => exact (Kd.V_reads' HO_4.out).2.1); rintro e w' ⟨rfl, ⟨nd, rfl⟩⟩; refine ⟨_, rfl, ?_⟩))
                            go_meet
                            case rel => exact ⟨_, (true), (by first | rfl | (simp; done) | (simp [*]; done)), H', ⟨by have := HJ7.out; have := HJ28.out; first | omega | exact Nat.le_refl _⟩, ⟨by (with_reducible repeat (first | apply Kd.R_alloc | apply Kd.R_drewN | apply Kd.R_drew)); exact Kd.R_mono HO_8.out (fun _ hk => trivial)⟩, ⟨by repeat (first | (with_reducible first | exact HB.out | apply below_alloc | apply pw_below_drewN | apply below_drew1) | exact HB.out)⟩⟩
                        · replace c60 := Bool.eq_false_iff.mpr c60
                          subst c60
                          have H1 : (laws_FnExactTallestStack.j2 kj28 t442 t441 true) = some r := by rw [if_neg (show ¬ (false = true) by decide)] at H; exact H
                          clear H
                          have H := H1
                          clear H1
                          have H' := Aside0.mk H
                          clear H
                          obtain ⟨Ao66, co66, eo66⟩ := Kd.R_slice HO451.out
                          subst eo66
                          obtain ⟨Ao67, co67, eo67⟩ := Kd.V_slice HO_4.out
                          subst eo67
                          go_wp2_with (first | ((with_reducible refine gate_callee (f := 31) rfl ?_); refine goesL_ (some 97) rfl rfl Try.func31 (by kernel_rfl) rfl #[.slice Ao66 t447.length co66, .slice Ao67 t420.length co67] rfl (by (try simp only [List.map_toArray, List.map_cons, List.map_nil]); first | done | rfl | (simp only [List.length_drop, List.length_take]; rfl)) ?_; (with_reducible refine (laws_eqIntS.calls kj28 _ _ t447 _ _ t420 false _ ?side1 ?side2 ?side3 ?side4 A59.out).mono ?_); (case side1 => repeat (first | exact (Kd.R_reads' HO451.out).2.2 | (with_reducible refine Kd.C_alloc ?_ _) | (with_reducible refine Kd.C_drewN ?_ _) | (with_reducible refine Kd.C_drew ?_))); (case side2 => exact (Kd.R_reads' HO451.out).2.1); (case side3 => repeat (first | exact (Kd.V_reads' HO_4.out).2.2 | (with_reducible refine Kd.C_alloc ?_ _) | (with_reducible refine Kd.C_drewN ?_ _) | (with_reducible refine Kd.C_drew ?_))); (case side4 => exact (Kd.V_reads' HO_4.out).2.1); rintro e w' ⟨rfl, ⟨nd, rfl⟩⟩; refine ⟨_, rfl, ?_⟩))
                          go_meet
                          case rel => exact ⟨_, (true), (by first | rfl | (simp; done) | (simp [*]; done)), H', ⟨by have := HJ7.out; have := HJ28.out; first | omega | exact Nat.le_refl _⟩, ⟨by (with_reducible repeat (first | apply Kd.R_alloc | apply Kd.R_drewN | apply Kd.R_drew)); exact Kd.R_mono HO_8.out (fun _ hk => trivial)⟩, ⟨by repeat (first | (with_reducible first | exact HB.out | apply below_alloc | apply pw_below_drewN | apply below_drew1) | exact HB.out)⟩⟩
                      case rest =>
                        clear HC53
                        try clear c1
                        try clear c2
                        try clear p2
                        try clear c3
                        try clear c3b0
                        try clear c4
                        try clear c5
                        try clear c6
                        try clear c10
                        try clear c12
                        try clear c14
                        try clear c16
                        try clear c17
                        try clear c17b0
                        try clear c17b1
                        try clear c20
                        try clear c24
                        try clear c27
                        try clear c31
                        try clear c32
                        try clear c33
                        try clear c34
                        try clear c34b0
                        try clear c36
                        try clear c37
                        try clear c37b0
                        try clear c37b1
                        try clear c44
                        try clear c47
                        try clear c47b0
                        try clear c50
                        try clear c50b0
                        try clear c50b1
                        try clear c60
                        try clear c61
                        try clear c61b0
                        try clear c61b1
                        try clear p2
                        obtain ⟨kq, x108_52, rfl, HA, HJ52, HO_8, HB⟩ := hcut
                        have hl8_52 := (Kd.R_reads' HO_8.out).1
                        rw [hl8_52] at HO_8
                        (try simp only [hl8_52])
                        cases kq with
                        | zero => exact absurd HA.out (by simp [laws_FnExactTallestStack.j2])
                        | succ kj52 =>
                          have H := HA.out
                          clear HA
                          simp only [laws_FnExactTallestStack.j2] at H
                          by_cases c68 : x108_52 = true
                          · subst c68
                            have H1 : (some false) = some r := by rw [if_pos rfl] at H; exact H
                            clear H
                            have H := H1
                            clear H1
                            obtain rfl := Option.some.inj H
                            go_wp2
                            go_ret
                            exact ⟨by first | rfl | (simp [errW_none, errW_some] <;> rfl) | (simp [*, errW_none, errW_some] <;> rfl), by repeat (first | (with_reducible first | exact HB.out | apply below_alloc | apply pw_below_drewN | apply below_drew1) | exact HB.out)⟩
                          · replace c68 := Bool.eq_false_iff.mpr c68
                            subst c68
                            have H1 : ((laws_heldIntS.f kj52 t442 1).bind fun t453 => (if t453 < 0 then (some false) else (if t453 = t441 then (some true) else (some false)))) = some r := by rw [if_neg (show ¬ (false = true) by decide)] at H; exact H
                            clear H
                            have H := H1
                            clear H1
                            replace H := Option.bind_eq_some_iff.mp H
                            obtain ⟨t453, A690, H⟩ := H
                            replace H : (if t453 < 0 then (some false) else (if t453 = t441 then (some true) else (some false))) = some r := H
                            have A69 := Aside0.mk A690
                            clear A690
                            by_cases c70 : t453 < 0
                            · rw [if_pos c70] at H
                              have c70b0 : decide (t453 < 0) = true := decide_eq_true c70
                              clear c70
                              obtain rfl := Option.some.inj H
                              go_wp2_with (first | ((with_reducible refine gate_callee (f := 33) rfl ?_); refine goesL_ (some 111) rfl rfl Try.func33 (by kernel_rfl) rfl #[.slice Ao54 t442.length co54, .int .i64 1] rfl (by (try simp only [List.map_toArray, List.map_cons, List.map_nil]); first | done | rfl | (simp only [List.length_drop, List.length_take]; rfl)) ?_; (with_reducible refine (laws_heldIntS.calls kj52 _ _ t442 1 t453 _ ?side1 ?side2 A69.out).mono ?_); (case side1 => repeat (first | exact (Kd.R_reads' HO_8.out).2.2 | (with_reducible refine Kd.C_alloc ?_ _) | (with_reducible refine Kd.C_drewN ?_ _) | (with_reducible refine Kd.C_drew ?_))); (case side2 => exact (Kd.R_reads' HO_8.out).2.1); rintro e w' ⟨rfl, ⟨nd, rfl⟩⟩; refine ⟨_, rfl, ?_⟩))
                              go_ret
                              exact ⟨by first | rfl | (simp [errW_none, errW_some] <;> rfl) | (simp [*, errW_none, errW_some] <;> rfl), by repeat (first | (with_reducible first | exact HB.out | apply below_alloc | apply pw_below_drewN | apply below_drew1) | exact HB.out)⟩
                            · rw [if_neg c70] at H
                              have c70b0 : decide (t453 < 0) = false := decide_eq_false c70
                              clear c70
                              by_cases c71 : t453 = t441
                              · rw [if_pos c71] at H
                                have c71b0 : (t453 == t441) = true := beq_iff_eq.mpr c71
                                have c71b1 : (t453 != t441) = false := bne_eq_false_iff_eq.mpr c71
                                clear c71
                                obtain rfl := Option.some.inj H
                                go_wp2_with (first | ((with_reducible refine gate_callee (f := 33) rfl ?_); refine goesL_ (some 111) rfl rfl Try.func33 (by kernel_rfl) rfl #[.slice Ao54 t442.length co54, .int .i64 1] rfl (by (try simp only [List.map_toArray, List.map_cons, List.map_nil]); first | done | rfl | (simp only [List.length_drop, List.length_take]; rfl)) ?_; (with_reducible refine (laws_heldIntS.calls kj52 _ _ t442 1 t453 _ ?side1 ?side2 A69.out).mono ?_); (case side1 => repeat (first | exact (Kd.R_reads' HO_8.out).2.2 | (with_reducible refine Kd.C_alloc ?_ _) | (with_reducible refine Kd.C_drewN ?_ _) | (with_reducible refine Kd.C_drew ?_))); (case side2 => exact (Kd.R_reads' HO_8.out).2.1); rintro e w' ⟨rfl, ⟨nd, rfl⟩⟩; refine ⟨_, rfl, ?_⟩))
                                go_ret
                                exact ⟨by first | rfl | (simp [errW_none, errW_some] <;> rfl) | (simp [*, errW_none, errW_some] <;> rfl), by repeat (first | (with_reducible first | exact HB.out | apply below_alloc | apply pw_below_drewN | apply below_drew1) | exact HB.out)⟩
                              · rw [if_neg c71] at H
                                have c71b0 : (t453 == t441) = false := beq_eq_false_iff_ne.mpr c71
                                have c71b1 : (t453 != t441) = true := bne_iff_ne.mpr c71
                                obtain rfl := Option.some.inj H
                                go_wp2_with (first | ((with_reducible refine gate_callee (f := 33) rfl ?_); refine goesL_ (some 111) rfl rfl Try.func33 (by kernel_rfl) rfl #[.slice Ao54 t442.length co54, .int .i64 1] rfl (by (try simp only [List.map_toArray, List.map_cons, List.map_nil]); first | done | rfl | (simp only [List.length_drop, List.length_take]; rfl)) ?_; (with_reducible refine (laws_heldIntS.calls kj52 _ _ t442 1 t453 _ ?side1 ?side2 A69.out).mono ?_); (case side1 => repeat (first | exact (Kd.R_reads' HO_8.out).2.2 | (with_reducible refine Kd.C_alloc ?_ _) | (with_reducible refine Kd.C_drewN ?_ _) | (with_reducible refine Kd.C_drew ?_))); (case side2 => exact (Kd.R_reads' HO_8.out).2.1); rintro e w' ⟨rfl, ⟨nd, rfl⟩⟩; refine ⟨_, rfl, ?_⟩))
                                go_ret
                                exact ⟨by first | rfl | (simp [errW_none, errW_some] <;> rfl) | (simp [*, errW_none, errW_some] <;> rfl), by repeat (first | (with_reducible first | exact HB.out | apply below_alloc | apply pw_below_drewN | apply below_drew1) | exact HB.out)⟩
                    · rw [if_neg c50] at H
                      have c50b0 : (t443 == t441) = false := beq_eq_false_iff_ne.mpr c50
                      have c50b1 : (t443 != t441) = true := bne_iff_ne.mpr c50
                      obtain rfl := Option.some.inj H
                      obtain ⟨Ao72, co72, eo72⟩ := Kd.R_slice HO_8.out
                      subst eo72
                      go_wp2_with (first | ((with_reducible refine gate_callee (f := 32) rfl ?_); refine goesL_ (some 79) rfl rfl Try.func32 (by kernel_rfl) rfl #[.slice Ao72 t428.length co72, .int .i64 1] rfl (by (try simp only [List.map_toArray, List.map_cons, List.map_nil]); first | done | rfl | (simp only [List.length_drop, List.length_take]; rfl)) ?_; (with_reducible refine (laws_markIntS.calls kj28 (fun k_ => some k_ = (.slice Ao72 t428.length co72 : Value).ownBlock) (.slice Ao72 t428.length co72) t428 1 t441 t442 w _ ?side1 ?side2 A45.out).mono ?_); (case side1 => repeat (first | (with_reducible first | exact HB.out | apply below_alloc | apply pw_below_drewN | apply below_drew1) | exact HB.out)); (case side2 => exact Kd.R_tight rfl HO_8.out); rintro e w73 ⟨rfl, hy0, hb, hkp⟩; refine ⟨_, rfl, ?_⟩; have n0_ := Aside0.mk (Kd.V_mono (ok' := fun k_ => some k_ ≠ (.slice Ao72 t428.length co72 : Value).ownBlock) (Kd.V_keptB (HO_4.out) hkp (fun k_ hk_ hs_ => (hk_) hs_)) (fun k_ hk_ => hk_.1)); have n1_ := Aside0.mk (Kd.R_reok rfl hy0 (fun k_ e_ => HO_8.out.1 k_ e_)); have n2_ := Aside0.mk (hb); clear HO_4; clear HO_8; clear HB; have HO_4 := n0_; have HO_8 := n1_; have HB := n2_; clear n0_ n1_ n2_; (try clear hb); (try clear hkp); (try clear hy0)) | ((with_reducible refine gate_callee (f := 33) rfl ?_); refine goesL_ (some 82) rfl rfl Try.func33 (by kernel_rfl) rfl #[.slice Ao72 t442.length co72, .int .i64 1] rfl (by (try simp only [List.map_toArray, List.map_cons, List.map_nil]); first | done | (rw [show t442.length = t428.length from (Kd.R_reads' HO_8.out).1.symm] <;> rfl) | rfl | (simp only [List.length_drop, List.length_take]; rfl)) ?_; (with_reducible refine (laws_heldIntS.calls kj28 _ _ t442 1 t443 _ ?side1 ?side2 A46.out).mono ?_); (case side1 => repeat (first | exact (Kd.R_reads' HO_8.out).2.2 | (with_reducible refine Kd.C_alloc ?_ _) | (with_reducible refine Kd.C_drewN ?_ _) | (with_reducible refine Kd.C_drew ?_))); (case side2 => rw [show t442.length = t428.length from (Kd.R_reads' HO_8.out).1.symm]; exact (Kd.R_reads' HO_8.out).2.1); rintro e w' ⟨rfl, ⟨nd, rfl⟩⟩; refine ⟨_, rfl, ?_⟩))
                      go_ret
                      exact ⟨by first | rfl | (simp [errW_none, errW_some] <;> rfl) | (simp [*, errW_none, errW_some] <;> rfl), by repeat (first | (with_reducible first | exact HB.out | apply below_alloc | apply pw_below_drewN | apply below_drew1) | exact HB.out)⟩
          · replace c27 := Bool.eq_false_iff.mpr c27
            subst c27
            have H1 : (some false) = some r := by rw [if_neg (show ¬ (false = true) by decide)] at H; exact H
            clear H
            have H := H1
            clear H1
            obtain rfl := Option.some.inj H
            go_wp2_with (first | ((with_reducible refine gate_callee (f := 14) rfl ?_); refine goesL_ (some 53) rfl rfl Try.func14 (by kernel_rfl) rfl #[.slice A0 l0.length c0] rfl (by (try simp only [List.map_toArray, List.map_cons, List.map_nil]); first | done | rfl | (simp only [List.length_drop, List.length_take]; rfl)) ?_; (with_reducible refine (laws_toThingS.calls kj7 _ _ l0 t434 _ ?side1 ?side2 A25.out).mono ?_); (case side1 => repeat (first | exact (Kd.C_below HR0.out HB.out) | (with_reducible refine Kd.C_alloc ?_ _) | (with_reducible refine Kd.C_drewN ?_ _) | (with_reducible refine Kd.C_drew ?_))); (case side2 => exact HC0.out); rintro e w74 ⟨v435, rfl, ho0, hb⟩; refine ⟨_, rfl, ?_⟩; have n0_ := Aside0.mk (Kd.V_elder' (by (with_reducible repeat (first | apply Kd.V_alloc | apply Kd.V_drewN | apply Kd.V_drew)); exact HO_4.out) (Kd.R_base ho0) hb); have n1_ := Aside0.mk (Kd.R_elder' (by (with_reducible repeat (first | apply Kd.R_alloc | apply Kd.R_drewN | apply Kd.R_drew)); exact HO_7.out) (Kd.R_base ho0) hb); have n2_ := Aside0.mk (Kd.R_below (by (with_reducible repeat (first | apply Kd.R_alloc | apply Kd.R_drewN | apply Kd.R_drew)); exact HO_8.out) hb); have n3_ := Aside0.mk (Kd.R_lower (Kd.R_new' ho0 (Kd.R_lt (by (with_reducible repeat (first | apply Kd.R_alloc | apply Kd.R_drewN | apply Kd.R_drew)); exact HO_7.out))) (below_size (by repeat (first | (with_reducible first | exact HB.out | apply below_alloc | apply pw_below_drewN | apply below_drew1) | exact HB.out)))); have n4_ := Aside0.mk (below_step (by repeat (first | (with_reducible first | exact HB.out | apply below_alloc | apply pw_below_drewN | apply below_drew1) | exact HB.out)) hb); clear HO_4; clear HO_7; clear HO_8; clear HB; have HO_4 := n0_; have HO_7 := n1_; have HO_8 := n2_; have HO436 := n3_; have HB := n4_; clear n0_ n1_ n2_ n3_ n4_; (try clear hb); (try clear hb2); (try clear hk); (try clear hi); (try clear ho0); obtain ⟨Ao75, co75, eo75⟩ := Kd.R_slice HO436.out; subst eo75) | ((with_reducible refine gate_callee (f := 16) rfl ?_); refine goesL_ (some 54) rfl rfl Try.func16 (by kernel_rfl) rfl #[.slice Ao13 t425.length co13, .slice Ao75 t434.length co75] rfl (by (try simp only [List.map_toArray, List.map_cons, List.map_nil]); first | done | rfl | (simp only [List.length_drop, List.length_take]; rfl)) ?_; (with_reducible refine (laws_eqThingS.calls kj7 _ _ t425 _ _ t434 false _ ?side1 ?side2 ?side3 ?side4 A26.out).mono ?_); (case side1 => repeat (first | exact (Kd.R_reads' HO_7.out).2.2 | (with_reducible refine Kd.C_alloc ?_ _) | (with_reducible refine Kd.C_drewN ?_ _) | (with_reducible refine Kd.C_drew ?_))); (case side2 => exact (Kd.R_reads' HO_7.out).2.1); (case side3 => repeat (first | exact (Kd.R_reads' HO436.out).2.2 | (with_reducible refine Kd.C_alloc ?_ _) | (with_reducible refine Kd.C_drewN ?_ _) | (with_reducible refine Kd.C_drew ?_))); (case side4 => exact (Kd.R_reads' HO436.out).2.1); rintro e w76 ⟨rfl, hb⟩; refine ⟨_, rfl, ?_⟩; have n0_ := Aside0.mk (Kd.V_below (by (with_reducible repeat (first | apply Kd.V_alloc | apply Kd.V_drewN | apply Kd.V_drew)); exact HO_4.out) hb); have n1_ := Aside0.mk (Kd.R_below (by (with_reducible repeat (first | apply Kd.R_alloc | apply Kd.R_drewN | apply Kd.R_drew)); exact HO_7.out) hb); have n2_ := Aside0.mk (Kd.R_below (by (with_reducible repeat (first | apply Kd.R_alloc | apply Kd.R_drewN | apply Kd.R_drew)); exact HO_8.out) hb); have n3_ := Aside0.mk (Kd.R_below (by (with_reducible repeat (first | apply Kd.R_alloc | apply Kd.R_drewN | apply Kd.R_drew)); exact HO436.out) hb); have n4_ := Aside0.mk (below_step (by repeat (first | (with_reducible first | exact HB.out | apply below_alloc | apply pw_below_drewN | apply below_drew1) | exact HB.out)) hb); clear HO_4; clear HO_7; clear HO_8; clear HO436; clear HB; have HO_4 := n0_; have HO_7 := n1_; have HO_8 := n2_; have HO436 := n3_; have HB := n4_; clear n0_ n1_ n2_ n3_ n4_; (try clear hb); (try clear hb2); (try clear hk); (try clear hi)))
            go_ret
            exact ⟨by first | rfl | (simp [errW_none, errW_some] <;> rfl) | (simp [*, errW_none, errW_some] <;> rfl), by repeat (first | (with_reducible first | exact HB.out | apply below_alloc | apply pw_below_drewN | apply below_drew1) | exact HB.out)⟩

end Go.Proofs.Ytbmefldckdaopaa.Q

namespace Go.Proofs.Ytbmefldckdaopaa.Q
open Go.RowKit Go.Proofs.YtbmefldckdaopaaW.PrintWords Go.Proofs.YtbmefldckdaopaaW.PrintLast Go.Proofs.YtbmefldckdaopaaW.PrintMore
set_option linter.unusedVariables false
set_option linter.unusedSimpArgs false

/-- A law's Thing as the program's. -/
def cvThing (x : S51) : S49 := ⟨x.f0, x.f1, x.f2⟩
theorem w64Thing {i : Int} (h0 : -1000000000000000 ≤ i) (h : i ≤ 1000000000000000) : wrap64 i = i := by
  unfold wrap64; omega
theorem rdIThing (xs : List S49) (i : Nat) (h : i < xs.length) : rd_T49 xs (i : Int) = xs[i] := by
  simp [rd_T49, List.getD_eq_getElem?_getD, h]
theorem rdLThing (xs : List S51) (i : Nat) (h : i < xs.length) : rd_T51 xs (i : Int) = xs[i] := by
  simp [rd_T51, List.getD_eq_getElem?_getD, h]

theorem szThingS_small (l : List S51) (h : l.length ≤ 1048576) : laws_szThingS.f l 1048576 = some (1048576 - (l.length : Int)) := by
  unfold laws_szThingS.f
  rw [w64Thing (by omega) (by omega), if_neg (by omega)]
theorem szThingS_great (l : List S51) (h : 1048576 < l.length) (hm : l.length ≤ 100000000000000) : laws_szThingS.f l 1048576 = some (-1) := by
  unfold laws_szThingS.f
  rw [w64Thing (by omega) (by omega), if_pos (by omega)]

theorem toThingS_l0 (l : List S51) (hn : l.length ≤ 100000000000000) : ∀ d k i (x : List S49), i + d = l.length → d < k → x.length = l.length → (∀ j (hj : j < x.length) (hj2 : j < l.length), j < i → x[j] = cvThing l[j]) →
    laws_toThingS.l0 k l x (i : Int) = some (l.map cvThing) := by
  intro d
  induction d with
  | zero =>
    intro k i x hi hk hx hj
    obtain ⟨k, rfl⟩ : ∃ m, k = m + 1 := ⟨k - 1, by omega⟩
    simp only [laws_toThingS.l0]; rw [if_neg (by omega)]
    congr 1
    apply List.ext_getElem
    · simp [hx]
    · intro j h1 h2
      rw [hj j h1 (by omega) (by omega)]
      simp
  | succ d ih =>
    intro k i x hi hk hx hj
    obtain ⟨k, rfl⟩ : ∃ m, k = m + 1 := ⟨k - 1, by omega⟩
    simp only [laws_toThingS.l0, laws_toThing.f, Option.bind_some]
    rw [if_pos (by omega), if_pos (by omega), if_pos (by omega), w64Thing (i := (i : Int) + 1) (by omega) (by omega), rdLThing l i (by omega)]
    have := ih k (i + 1) (x.set (i : Int).toNat (cvThing (l[i]'(by omega)))) (by omega) (by omega) (by simp [hx]) (fun j hj1 hj2 hj3 => by
      simp only [Int.toNat_natCast]
      rw [List.getElem_set]
      split
      · rename_i e; subst e; rfl
      · rename_i e; exact hj j (by simpa using hj1) hj2 (by omega))
    rw [show ((i + 1 : Nat) : Int) = (i : Int) + 1 by omega] at this
    exact this
theorem toThingS_eq (l : List S51) (hn : l.length ≤ 1000000000) (k : Nat) (hk : l.length < k) : laws_toThingS.f k l = some (l.map cvThing) := by
  unfold laws_toThingS.f
  rw [if_pos (by omega), if_pos (by omega)]
  exact toThingS_l0 l (by omega) l.length k 0 _ (by omega) hk (by simp) (fun j _ _ h => absurd h (by omega))

theorem eqThingS_l0 (a : List S49) (hn : a.length ≤ 100000000000000) : ∀ d k i, i + d = a.length → d < k → laws_eqThingS.l0 k a a (i : Int) = some true := by
  intro d
  induction d with
  | zero =>
    intro k i hi hk
    obtain ⟨k, rfl⟩ : ∃ m, k = m + 1 := ⟨k - 1, by omega⟩
    simp only [laws_eqThingS.l0]; rw [if_neg (by omega)]
  | succ d ih =>
    intro k i hi hk
    obtain ⟨k, rfl⟩ : ∃ m, k = m + 1 := ⟨k - 1, by omega⟩
    simp only [laws_eqThingS.l0, laws_eqThing.f]
    rw [if_pos (by omega), if_pos (by omega), if_pos (by omega), w64Thing (by omega) (by omega)]
    simp only [if_true, Option.bind_some]
    exact ih k (i + 1) (by omega) (by omega)
theorem eqThingS_self (a : List S49) (hn : a.length ≤ 100000000000000) (k : Nat) (hk : a.length < k) : laws_eqThingS.f k a a = some true := by
  unfold laws_eqThingS.f
  rw [if_pos rfl]
  exact eqThingS_l0 a hn a.length k 0 (by omega) hk
theorem toThingS_ev (l : List S51) (hn : l.length ≤ 10000000) : Ev (fun k => laws_toThingS.f k l) (l.map cvThing) := ⟨l.length + 1, fun k hk => toThingS_eq l (by omega) k (by omega)⟩
theorem eqThingS_ev (l : List S49) (hn : l.length ≤ 10000000) : Ev (fun k => laws_eqThingS.f k l l) true := ⟨l.length + 1, fun k hk => eqThingS_self l (by omega) k (by omega)⟩
end Go.Proofs.Ytbmefldckdaopaa.Q

namespace Go.Proofs.Ytbmefldckdaopaa.Q
open Go.RowKit Go.Proofs.YtbmefldckdaopaaW.PrintWords Go.Proofs.YtbmefldckdaopaaW.PrintLast Go.Proofs.YtbmefldckdaopaaW.PrintMore
set_option linter.unusedVariables false
set_option linter.unusedSimpArgs false

theorem inThing (a lo hi : Int) : spec_l1In.f a lo hi = some (decide (lo ≤ a) && decide (a ≤ hi)) := by
  unfold spec_l1In.f
  by_cases h : lo ≤ a
  · rw [if_pos h]; simp [h]
  · rw [if_neg h]; simp [h]
theorem scGood_l0 (l : List Thing) (hn : l.length ≤ 100000000000000) : ∀ d k i, i + d = l.length → d < k → spec_scGood.l0 k l (l.length : Int) (i : Int) = some ((l.drop i).all okThing) := by
  intro d
  induction d with
  | zero =>
    intro k i hi hk
    obtain ⟨k, rfl⟩ : ∃ m, k = m + 1 := ⟨k - 1, by omega⟩
    simp only [spec_scGood.l0]; rw [if_neg (by omega), List.drop_of_length_le (by omega)]; rfl
  | succ d ih =>
    intro k i hi hk
    obtain ⟨k, rfl⟩ : ∃ m, k = m + 1 := ⟨k - 1, by omega⟩
    simp only [spec_scGood.l0]
    have hlt : i < l.length := by omega
    rw [if_pos (by omega), if_pos (by omega), if_pos (by omega), w64Thing (by omega) (by omega), rdIThing l i hlt, List.drop_eq_getElem_cons hlt, List.all_cons]
    rw [show (i : Int) + 1 = ((i + 1 : Nat) : Int) by omega, ih k (i + 1) (by omega) (by omega)]
    simp only [inThing, Option.bind_some]
    unfold okThing
    generalize l[i] = x
    cases (decide (1 ≤ x.f0) && decide (x.f0 ≤ 1000)) <;> cases (decide (0 ≤ x.f1) && decide (x.f1 ≤ 1000)) <;> cases (decide (1 ≤ x.f2) && decide (x.f2 ≤ 1000)) <;> simp
theorem scGood_eq (l : List Thing) (hn : l.length ≤ 100000000000000) (k : Nat) (hk : l.length < k) : spec_scGood.f k l = impl_AreStackable.f l := by
  unfold spec_scGood.f impl_AreStackable.f
  simp only [inThing, Option.bind_some]
  have e1 : decide ((1 : Int) ≤ (l.length : Int)) = decide (1 ≤ l.length) := by simp; omega
  have e2 : decide ((l.length : Int) ≤ 7) = decide (l.length ≤ 7) := by simp; omega
  rw [e1, e2]
  have := scGood_l0 l hn l.length k 0 (by omega) hk
  simp only [List.drop_zero, Int.natCast_zero] at this
  cases (decide (1 ≤ l.length) && decide (l.length ≤ 7))
  · simp
  · simp [this]
end Go.Proofs.Ytbmefldckdaopaa.Q

namespace Go.Proofs.Ytbmefldckdaopaa.Q
open Go.RowKit Go.Proofs.YtbmefldckdaopaaW.PrintWords Go.Proofs.YtbmefldckdaopaaW.PrintLast Go.Proofs.YtbmefldckdaopaaW.PrintMore
set_option linter.unusedVariables false
set_option linter.unusedSimpArgs false
set_option maxRecDepth 100000

/-- Things are right. -/
def Sound (list : List Thing) : Prop := list.length ≤ 7 ∧ ∀ i : Int, 0 ≤ i → i < (list.length : Int) → (1 ≤ (rd_T49 list i).f0 ∧ (rd_T49 list i).f0 ≤ 1000) ∧ (0 ≤ (rd_T49 list i).f1 ∧ (rd_T49 list i).f1 ≤ 1000) ∧ 1 ≤ (rd_T49 list i).f2 ∧ (rd_T49 list i).f2 ≤ 1000
theorem sound_of {list : List Thing} (h : impl_AreStackable.f list = some true) : Sound list := by
  unfold impl_AreStackable.f at h
  injection h with h
  simp only [Bool.and_eq_true, decide_eq_true_eq, List.all_eq_true] at h
  refine ⟨h.1.2, fun i h0 h1 => ?_⟩
  have hm : rd_T49 list i ∈ list := by
    unfold rd_T49
    rw [List.getD_eq_getElem?_getD, List.getElem?_eq_getElem (by omega)]
    exact List.getElem_mem _
  have := h.2 _ hm
  unfold okThing at this
  simp only [Bool.and_eq_true, decide_eq_true_eq] at this
  exact ⟨by omega, by omega, by omega⟩
/-- The weight of a stack. -/
def weighs (list : List Thing) : List Int → Int
  | [] => 0
  | i :: st => (rd_T49 list i).f0 + weighs list st
theorem weighs_bound {list : List Thing} (hS : Sound list) : ∀ st, Inside list st → 0 ≤ weighs list st ∧ weighs list st ≤ 1000 * st.length
  | [], _ => by simp [weighs]
  | i :: st, h => by
    have h1 := weighs_bound hS st (fun x hx => h x (List.mem_cons_of_mem _ hx))
    have hi := h i List.mem_cons_self
    have h2 := hS.2 i hi.1 hi.2
    simp only [weighs, List.length_cons]
    omega
theorem aboveAll_weighs {list : List Thing} (hS : Sound list) : ∀ st, Inside list st → st.length ≤ 1000000 → (aboveAll list st).2 = weighs list st
  | [], _, _ => rfl
  | i :: st, h, hl => by
    simp only [List.length_cons] at hl
    have h1 := weighs_bound hS st (fun x hx => h x (List.mem_cons_of_mem _ hx))
    have hi := h i List.mem_cons_self
    have h2 := hS.2 i hi.1 hi.2
    rw [aboveAll, weighs, aboveAll_weighs hS st (fun x hx => h x (List.mem_cons_of_mem _ hx)) (by omega)]
    simp only
    rw [w64 (by omega) (by omega)]
    omega
/-- Is it safe? -/
def safeL (list : List Thing) : List Int → Bool
  | [] => true
  | i :: st => decide (weighs list st ≤ (rd_T49 list i).f1) && safeL list st
theorem bears_safe {list : List Thing} (hS : Sound list) : ∀ st m, Inside list st → st.length ≤ 1000000 → (0 ≤ bearsL list st (aboveAll list st).1 m ↔ 0 ≤ m ∧ safeL list st = true)
  | [], m, _, _ => by simp [bearsL, safeL]
  | i :: st, m, h, hl => by
    simp only [List.length_cons] at hl
    have hst : Inside list st := fun x hx => h x (List.mem_cons_of_mem _ hx)
    have h1 := weighs_bound hS st hst
    have hi := h i List.mem_cons_self
    have h2 := hS.2 i hi.1 hi.2
    rw [aboveAll, bearsL, bears_safe hS st _ hst (by omega), aboveAll_weighs hS st hst (by omega), w64 (by omega) (by omega), safeL]
    simp only [Bool.and_eq_true, decide_eq_true_eq]
    unfold mn
    split <;> (constructor <;> (rintro ⟨a, b⟩; first | exact ⟨by omega, by omega, b⟩ | exact ⟨by omega, b.2⟩))
theorem safe_may {list : List Thing} (hS : Sound list) (st : List Int) (h : Inside list st) (hl : st.length ≤ 1000000) : decide (0 ≤ bearsV list st) = safeL list st := by
  rw [Bool.eq_iff_iff, decide_eq_true_eq]
  unfold bearsV
  rw [bears_safe hS st 1000 h hl]
  simp

/-! the reference -/
/-- The weights above. -/
def aboveS (list : List Thing) : List Int → List Int
  | [] => []
  | _ :: st => weighs list st :: aboveS list st
theorem aboveS_length (list : List Thing) : ∀ st, (aboveS list st).length = st.length
  | [] => rfl
  | _ :: st => by simp [aboveS, aboveS_length list st]
theorem drop_weighs (list : List Thing) (st : List Int) (j : Nat) (h : j < st.length) : weighs list (st.drop j) = (rd_T49 list st[j]).f0 + weighs list (st.drop (j + 1)) := by
  rw [List.drop_eq_getElem_cons h, weighs]
theorem aboveS_drop (list : List Thing) (st : List Int) (j : Nat) (h : j < st.length) : aboveS list (st.drop j) = weighs list (st.drop (j + 1)) :: aboveS list (st.drop (j + 1)) := by
  rw [List.drop_eq_getElem_cons h, aboveS]
theorem above_l1 {list : List Thing} (hS : Sound list) (st : List Int) (hin : Inside list st) (hl : st.length ≤ 1000) (out : List Int) (i : Nat) (hi : i < st.length) (ho : out.length ≤ 10000)
    (next : Nat → List Int → Option (List Int)) : ∀ d k j s, j + d = (st.drop (i + 1)).length → d < k → s + weighs list ((st.drop (i + 1)).drop j) = weighs list (st.drop (i + 1)) → 0 ≤ s →
    ∃ k', k' + d + 1 = k ∧ spec_scAbove.l1 k list st out s (st.length : Int) (i : Int) (st.drop (i + 1)) ((st.drop (i + 1)).length : Int) (j : Int) = spec_scAbove.l0 k' list st (out ++ [weighs list (st.drop (i + 1))]) (st.length : Int) ((i : Int) + 1) := by
  have hin2 : Inside list (st.drop (i + 1)) := fun x hx => hin x (List.mem_of_mem_drop hx)
  have hl2 : (st.drop (i + 1)).length ≤ 1000 := by rw [List.length_drop]; omega
  intro d
  induction d with
  | zero =>
    intro k j s hj hk hs h0
    obtain ⟨k, rfl⟩ : ∃ m, k = m + 1 := ⟨k - 1, by omega⟩
    refine ⟨k, by omega, ?_⟩
    simp only [spec_scAbove.l1]
    rw [List.drop_of_length_le (by omega)] at hs
    simp only [weighs] at hs
    rw [if_neg (by omega), if_pos (by omega), w64 (i := (i : Int) + 1) (by omega) (by omega), show s = weighs list (st.drop (i + 1)) by omega]
  | succ d ih =>
    intro k j s hj hk hs h0
    obtain ⟨k, rfl⟩ : ∃ m, k = m + 1 := ⟨k - 1, by omega⟩
    have hlt : j < (st.drop (i + 1)).length := by omega
    have hx := hin2 _ (List.getElem_mem hlt)
    have h2 := hS.2 _ hx.1 hx.2
    have hb := weighs_bound hS (st.drop (i + 1)) hin2
    have hb2 := weighs_bound hS ((st.drop (i + 1)).drop (j + 1)) (fun x hx => hin2 x (List.mem_of_mem_drop hx))
    have hw := drop_weighs list (st.drop (i + 1)) j hlt
    rw [hw] at hs
    obtain ⟨k', hk', hr⟩ := ih k (j + 1) (s + (rd_T49 list (st.drop (i + 1))[j]).f0) (by omega) (by omega) (by omega) (by omega)
    refine ⟨k', by omega, ?_⟩
    simp only [spec_scAbove.l1]
    rw [if_pos (by omega), if_pos (by omega), if_pos (by omega), rd_nat (st.drop (i + 1)) j hlt, if_pos hx.1, if_pos hx.2, w64 (i := (j : Int) + 1) (by omega) (by omega), w64 (i := s + _) (by omega) (by omega)]
    rw [show ((j + 1 : Nat) : Int) = (j : Int) + 1 by omega] at hr
    exact hr
theorem above_l0 {list : List Thing} (hS : Sound list) (st : List Int) (hin : Inside list st) (hl : st.length ≤ 1000) : ∀ d k i out, i + d = st.length → 1010 * d + 1010 ≤ k → out.length ≤ i →
    spec_scAbove.l0 k list st out (st.length : Int) (i : Int) = some (out ++ aboveS list (st.drop i)) := by
  intro d
  induction d with
  | zero =>
    intro k i out hi hk ho
    obtain ⟨k, rfl⟩ : ∃ m, k = m + 1 := ⟨k - 1, by omega⟩
    simp only [spec_scAbove.l0]; rw [if_neg (by omega), List.drop_of_length_le (by omega)]; simp [aboveS]
  | succ d ih =>
    intro k i out hi hk ho
    obtain ⟨k, rfl⟩ : ∃ m, k = m + 1 := ⟨k - 1, by omega⟩
    have hlt : i < st.length := by omega
    simp only [spec_scAbove.l0]
    rw [if_pos (by omega), w64 (i := (i : Int) + 1) (by omega) (by omega), if_pos (by omega), if_pos (by omega), show ((i : Int) + 1).toNat = i + 1 by omega]
    obtain ⟨k', hk', hr⟩ := above_l1 hS st hin hl out i hlt (by omega) (fun _ _ => none) (st.drop (i + 1)).length k 0 0 (by omega) (by rw [List.length_drop]; omega) (by simp) (by omega)
    simp only [Int.natCast_zero] at hr
    rw [List.length_drop] at hk'
    have e1 : i + 1 + d = st.length := by clear hr; omega
    have e2 : 1010 * d + 1010 ≤ k' := by clear hr; omega
    have e3 : (out ++ [weighs list (st.drop (i + 1))]).length ≤ i + 1 := by clear hr; rw [List.length_append, List.length_singleton]; omega
    have hnext := ih k' (i + 1) (out ++ [weighs list (st.drop (i + 1))]) e1 e2 e3
    rw [show ((i + 1 : Nat) : Int) = (i : Int) + 1 by omega] at hnext
    rw [hr, hnext, aboveS_drop list st i hlt, List.append_assoc, List.singleton_append]
theorem scAbove_eq {list : List Thing} (hS : Sound list) (st : List Int) (hin : Inside list st) (hl : st.length ≤ 1000) (k : Nat) (hk : 2000000 ≤ k) : spec_scAbove.f k list st = some (aboveS list st) := by
  unfold spec_scAbove.f
  have := above_l0 hS st hin hl st.length k 0 [] (by omega) (by omega) (by simp)
  simpa using this
theorem scSafe_l0 {list : List Thing} (st : List Int) (hin : Inside list st) (hl : st.length ≤ 1000) : ∀ d k i, i + d = st.length → d < k →
    spec_scSafe.l0 k list st (aboveS list st) ((aboveS list st).length : Int) (i : Int) = some (safeL list (st.drop i)) := by
  have hal := aboveS_length list st
  have hget : ∀ (st : List Int) (i : Nat) (h : i < st.length), (aboveS list st)[i]'(by rw [aboveS_length]; exact h) = weighs list (st.drop (i + 1)) := by
    intro st
    induction st with
    | nil => intro i h; simp at h
    | cons x st ih =>
      intro i h
      cases i with
      | zero => simp [aboveS]
      | succ i => simpa [aboveS] using ih i (by simpa using h)
  intro d
  induction d with
  | zero =>
    intro k i hi hk
    obtain ⟨k, rfl⟩ : ∃ m, k = m + 1 := ⟨k - 1, by omega⟩
    simp only [spec_scSafe.l0]; rw [if_neg (by omega), List.drop_of_length_le (by omega)]; rfl
  | succ d ih =>
    intro k i hi hk
    obtain ⟨k, rfl⟩ : ∃ m, k = m + 1 := ⟨k - 1, by omega⟩
    have hlt : i < st.length := by omega
    have hx := hin _ (List.getElem_mem hlt)
    simp only [spec_scSafe.l0]
    rw [if_pos (by omega), if_pos (by omega), if_pos (by omega), if_pos (by omega), rd_nat st i hlt, if_pos hx.1, if_pos hx.2, rd_nat (aboveS list st) i (by omega), hget st i hlt, w64 (i := (i : Int) + 1) (by omega) (by omega), List.drop_eq_getElem_cons hlt, safeL]
    have hi2 := ih k (i + 1) (by omega) (by omega)
    rw [show ((i + 1 : Nat) : Int) = (i : Int) + 1 by omega] at hi2
    by_cases h : weighs list (st.drop (i + 1)) ≤ (rd_T49 list st[i]).f1
    · rw [if_neg (by omega), hi2]
      simp [h]
    · rw [if_pos (by omega)]
      simp [h]
theorem scSafe_eq {list : List Thing} (hS : Sound list) (st : List Int) (hin : Inside list st) (hl : st.length ≤ 1000) (k : Nat) (hk : 2000000 ≤ k) : spec_scSafe.f k list st = some (safeL list st) := by
  unfold spec_scSafe.f
  rw [scAbove_eq hS st hin hl k hk]
  have := scSafe_l0 (list := list) st hin hl st.length k 0 (by omega) (by omega)
  simpa using this
theorem l1Has_l0 (st : List Int) (x : Int) (hn : st.length ≤ 1000000000) : ∀ d k i, i + d = st.length → d < k → spec_l1Has.l0 k x st (st.length : Int) (i : Int) = some ((st.drop i).contains x) := by
  intro d
  induction d with
  | zero =>
    intro k i hi hk
    obtain ⟨k, rfl⟩ : ∃ q, k = q + 1 := ⟨k - 1, by omega⟩
    simp only [spec_l1Has.l0]; rw [if_neg (by omega), List.drop_of_length_le (by omega)]; rfl
  | succ d ih =>
    intro k i hi hk
    obtain ⟨k, rfl⟩ : ∃ q, k = q + 1 := ⟨k - 1, by omega⟩
    have hlt : i < st.length := by omega
    simp only [spec_l1Has.l0]
    rw [if_pos (by omega), if_pos (by omega), if_pos (by omega), rd_nat st i hlt, w64 (i := (i : Int) + 1) (by omega) (by omega), List.drop_eq_getElem_cons hlt, List.contains_cons]
    by_cases h : st[i] = x
    · rw [if_pos h, beq_iff_eq.mpr h.symm, Bool.true_or]
    · rw [if_neg h, beq_eq_false_iff_ne.mpr (fun e => h e.symm), Bool.false_or, show (i : Int) + 1 = ((i + 1 : Nat) : Int) by omega, ih k (i + 1) (by omega) (by omega)]
theorem l1Has_eq (st : List Int) (x : Int) (hn : st.length ≤ 1000000000) (k : Nat) (hk : st.length < k) : spec_l1Has.f k st x = some (st.contains x) := by
  unfold spec_l1Has.f
  have := l1Has_l0 st x hn st.length k 0 (by omega) hk
  simpa using this
theorem l1Own_eq (l : List Int) (h : l.length < 1000000) : spec_l1Own.f l = some l := by
  unfold spec_l1Own.f
  simp only [Option.bind_some]
  rw [if_pos (by simp; omega)]
  simp
theorem treeV_length (list : List Thing) : ∀ d st, (treeV list d st).length ≤ (list.length + 1) ^ d
  | 0, _ => by simp [treeV]
  | d + 1, st => by
    rw [treeV_eq, List.length_cons, Nat.pow_succ]
    have key : ∀ m j, (((List.range' j m).flatMap fun i => if mayV list st i = true then treeV list d (st ++ [(i : Int)]) else []) : List (List Int)).length ≤ m * (list.length + 1) ^ d := by
      intro m
      induction m with
      | zero => intro j; simp
      | succ m ih =>
        intro j
        rw [List.range'_succ, List.flatMap_cons, List.length_append, Nat.succ_mul]
        have h1 := ih (j + 1)
        have h2 := treeV_length list d (st ++ [(j : Int)])
        split
        · omega
        · simp only [List.length_nil]; omega
    have h1 := key (list.length - 0) 0
    have hp : 1 ≤ (list.length + 1) ^ d := Nat.one_le_pow _ _ (by omega)
    unfold restV
    rw [Nat.sub_zero] at h1 ⊢
    rw [Nat.mul_add, Nat.mul_one, Nat.mul_comm]
    omega
theorem scAll_eq {list : List Thing} (hS : Sound list) : ∀ d k st, d ≤ 8 → freeV list st < d → Inside list st → st.length + freeV list st ≤ list.length → 2000000 + 20 * d ≤ k →
    spec_scAll.f k list st = some (if safeL list st = true then treeV list d st else []) := by
  have h7 := hS.1
  intro d
  induction d with
  | zero => intro k st _ h; omega
  | succ d ih =>
    intro k st hd8 hf hin hl hk
    obtain ⟨k, rfl⟩ : ∃ m, k = m + 1 := ⟨k - 1, by omega⟩
    simp only [spec_scAll.f]
    rw [scSafe_eq hS st hin (by omega) k (by omega)]
    simp only [Option.bind_some]
    cases hs : safeL list st with
    | false => rfl
    | true =>
      rw [if_pos rfl, if_pos rfl, l1Own_eq st (by omega), treeV_eq]
      simp only [Option.bind_some]
      have hp : (list.length + 1) ^ d ≤ 16777216 := Nat.le_trans (Nat.le_trans (Nat.pow_le_pow_left (show list.length + 1 ≤ 8 by omega) d) (Nat.pow_le_pow_right (by decide) (show d ≤ 8 by omega))) (by decide)
      have key : ∀ m k j (out : List (List Int)), j + m = list.length → 2000000 + 20 * d + m + 2 ≤ k → out.length + 16777216 * m ≤ 1000000000 → spec_scAll.l0 k list st out (list.length : Int) (j : Int) = some (out ++ restV list d st j) := by
        intro m
        induction m with
        | zero =>
          intro k j out hj hk ho
          obtain ⟨k, rfl⟩ : ∃ m, k = m + 1 := ⟨k - 1, by omega⟩
          simp only [spec_scAll.l0]; rw [if_neg (by omega), restV_end list d st j (by omega), List.append_nil]
        | succ m ihm =>
          intro k j out hj hk ho
          obtain ⟨k, rfl⟩ : ∃ m, k = m + 1 := ⟨k - 1, by omega⟩
          have hlt : j < list.length := by omega
          simp only [spec_scAll.l0]
          rw [if_pos (by omega), l1Has_eq st (j : Int) (by omega) k (by omega), w64 (i := (j : Int) + 1) (by omega) (by omega), restV_step list d st j hlt]
          simp only [Option.bind_some]
          have hin' : Inside list (st ++ [(j : Int)]) := fun x hx => by
            rcases List.mem_append.1 hx with hx | hx
            · exact hin x hx
            · have := List.mem_singleton.1 hx; omega
          have hmay : mayV list st j = (!st.contains (j : Int) && safeL list (st ++ [(j : Int)])) := by
            unfold mayV
            rw [safe_may hS _ hin' (by simp; omega)]
          have hnext := fun out ho => ihm k (j + 1) out (by omega) (by omega) ho
          rw [show ((j + 1 : Nat) : Int) = (j : Int) + 1 by omega] at hnext
          cases hc : st.contains (j : Int) with
          | true =>
            rw [if_pos rfl, if_neg (by rw [hmay, hc]; simp), List.nil_append]
            have e1 : out.length + 16777216 * m ≤ 1000000000 := by clear hnext ih ihm; omega
            exact hnext out e1
          | false =>
            have hfl := free_less list st j hlt hc
            rw [if_neg (by decide), l1Own_eq st (by omega)]
            simp only [Option.bind_some]
            rw [if_pos (by omega), ih k (st ++ [(j : Int)]) (by omega) (by omega) hin' (by simp; omega) (by omega)]
            simp only [Option.bind_some]
            have ht : mayV list st j = safeL list (st ++ [(j : Int)]) := by rw [hmay, hc]; simp
            rw [ht]
            have htl := treeV_length list d (st ++ [(j : Int)])
            have hlen : (if safeL list (st ++ [(j : Int)]) = true then treeV list d (st ++ [(j : Int)]) else []).length ≤ 16777216 := by
              split
              · omega
              · simp
            rw [if_pos (by omega), hnext _ (by rw [List.length_append]; omega), List.append_assoc]
      have := key list.length k 0 [st] (by omega) (by omega) (by simp; omega)
      simpa using this
/-- The reference's stacks are the program's. -/
theorem scAll_all {list : List Thing} (hS : Sound list) (k : Nat) (hk : 3000000 ≤ k) : spec_scAll.f k list [] = some (allS list) := by
  have h7 := hS.1
  have := scAll_eq hS (list.length + 1) k [] (by omega) (by rw [free_nil]; omega) (fun x hx => by cases hx) (by rw [free_nil]; simp) (by omega)
  simpa [safeL, allS] using this
end Go.Proofs.Ytbmefldckdaopaa.Q

namespace Go.Proofs.Ytbmefldckdaopaa.Q
open Go.RowKit Go.Shelf Go.Proofs.YtbmefldckdaopaaW.PrintWords Go.Proofs.YtbmefldckdaopaaW.PrintLast Go.Proofs.YtbmefldckdaopaaW.PrintMore
set_option linter.unusedVariables false
set_option linter.unusedSimpArgs false

def bitI (b : Bool) : Int := if b = true then 1 else 0
theorem bit_calls (b : Bool) (W : World) : Calls Try.prog 65 #[.bool b] W fun e w' => e = .returned (.int .i64 (bitI b)) ∧ w' = W := by
  cases b
  all_goals
    go_enter Try.func65, Try.ntmps65
    go_wp2
    go_ret
    exact ⟨rfl, rfl⟩

def countStep (many : Int) (n : Int) (st : List Int) : Int := wrap64 (n + bitI ((st.length : Int) == many))
def CountV (Ba : Nat) (n : Int) (W : World) : Prop := Boxed W Ba 3 (.int .i64 n)
set_option maxRecDepth 100000 in
set_option maxHeartbeats 4000000 in
theorem countSafe1_calls (Ba Bm : Nat) (many n : Int) (W : World) (base : Nat) (ok : Nat → Prop) (v : Value) (st : List Int) (hI : CountV Ba n W) (hm : Boxed W Bm 3 (.int .i64 many)) (hne : Ba ≠ Bm) (hv : Kd.R kInt 3 W base ok v st) :
    Calls Try.prog 64 #[v, .pointer (some ⟨Ba, 0, none⟩), .pointer (some ⟨Bm, 0, none⟩)] W
      fun e w' => e = .returned (.tuple #[]) ∧ CountV Ba (countStep many n st) w' ∧ Fr (fun k => k = Ba) W w' := by
  obtain ⟨A1, c1, rfl⟩ := Kd.R_slice hv
  have HI := Aside0.mk hI
  clear hv
  have q1 := hI.cell
  have f1 := hI.frozen
  have q2 := hm.cell
  clear hI hm
  go_enter Try.func64, Try.ntmps64
  go_region_with (first | (go_at_call 65; refine (bit_calls _ _).mono ?_; rintro e w' ⟨rfl, rfl⟩))
  all_goals
    go_wp2
    go_end0
    exact ⟨rfl, by rw [i64_w]; exact box_below (HI.out.set _) ((Below.refl _ _).drew), ((Fr.refl (fun k => k = Ba) W).set ⟨Ba, 0, none⟩ _ (.inl rfl)).drew⟩

def countAll (list : List Thing) (many : Int) : Int := (allS list).foldl (countStep many) 0
def impl_countSafe.f (l0 : List Thing) (a1 : Int) : Option Int := if l0.length ≤ 1000 then some (countAll l0 a1) else none
set_option maxRecDepth 100000 in
set_option maxHeartbeats 4000000 in
theorem impl_countSafe.calls (A0 : Option Addr) (c0 : Nat) (l0 : List Thing) (a1 : Int) (r : Int) (w : World) (hr0 : Kd.C k49 w A0 l0.length l0) (hc0 : l0.length ≤ c0) (h : impl_countSafe.f l0 a1 = some r) :
    Calls Try.prog 49 #[.slice A0 l0.length c0, .int .i64 a1] w fun e w' => e = .returned (.int .i64 r) ∧ Below w.heap.size w w' := by
  have hn : l0.length ≤ 1000 := by
    unfold impl_countSafe.f at h
    split at h
    · assumption
    · cases h
  have hr : countAll l0 a1 = r := by
    unfold impl_countSafe.f at h
    rw [if_pos hn] at h
    injection h
  have HR0 := Aside0.mk hr0
  have HRR := Aside0.mk hr
  clear hr0 hr h
  go_enter Try.func49, Try.ntmps49
  go_wp2_with fail
  have x1 := (Boxed.new w 3 (.int .i64 a1)).alloc (.cells #[.int .i64 0] 3)
  have x2 := Boxed.new (w.alloc (.cells #[.int .i64 a1] 3)) 3 (.int .i64 0)
  have b5 : Below w.heap.size w ((w.alloc (.cells #[.int .i64 a1] 3)).alloc (.cells #[.int .i64 0] 3)) := ((Below.refl _ w).alloc (by simp) _).alloc (by simp) _
  have z5 : ((w.alloc (.cells #[.int .i64 a1] 3)).alloc (.cells #[.int .i64 0] 3)).heap.size = w.heap.size + 2 := by simp
  generalize ((w.alloc (.cells #[.int .i64 a1] 3)).alloc (.cells #[.int .i64 0] 3)) = W5 at x1 x2 b5 z5 ⊢
  simp only [show ∀ (W : World) (o : Obj), (W.alloc o).heap.size = W.heap.size + 1 from fun W o => by simp] at x1 x2
  have hT : One l0 (fun k => k = w.heap.size + 1) (CountV (w.heap.size + 1)) w.heap.size W5
      64 #[] #[.pointer (some ⟨w.heap.size + 1, 0, none⟩), .pointer (some ⟨w.heap.size, 0, none⟩)] (countStep a1) := by
    refine ⟨enters_of Try.func64 (by kernel_rfl) rfl, fun s W W' h hb => box_below h hb, fun s W v st hF hI hv hin hl => ?_⟩
    exact countSafe1_calls (w.heap.size + 1) w.heap.size a1 s W _ _ v st hI (box_fr x1 hF (by omega)) (by omega) hv
  have hcall := safeStacks_calls l0 A0 c0 _ _ w.heap.size W5 _ _ _ _ 0 hn hT b5.size (fun k hk => by rw [z5]; omega)
    (fun W h => Kd.C_below HR0.out (b5.trans (h.below (fun k hk => by omega) b5.size))) hc0 x2
  rw [show (allS l0).foldl (countStep a1) 0 = r from HRR.out] at hcall
  have B5 := Aside0.mk b5
  clear x1 x2 hT b5 z5
  go_wp2_with (go_at_call 63; refine hcall.mono ?_; rintro e w6 ⟨rfl, hx, hF6⟩; have q1 := (show Boxed w6 (w.heap.size + 1) 3 (.int .i64 r) from hx).cell)
  go_ret
  exact ⟨rfl, B5.out.trans (hF6.below (fun k hk => by omega) B5.out.size)⟩
end Go.Proofs.Ytbmefldckdaopaa.Q

namespace Go.Proofs.Ytbmefldckdaopaa.Q
open Go.RowKit Go.Shelf Go.Proofs.YtbmefldckdaopaaW.PrintWords Go.Proofs.YtbmefldckdaopaaW.PrintLast Go.Proofs.YtbmefldckdaopaaW.PrintMore
set_option linter.unusedVariables false
set_option linter.unusedSimpArgs false

theorem scoreLen_ok (list : List Thing) (w : World) : ScoreS list w 52 #[] (fun st => (st.length : Int)) := by
  intro W A c st _ _ _ hC hc
  simp only [Array.append_empty]
  go_enter Try.func52, Try.ntmps52
  go_wp2
  go_ret
  exact ⟨rfl, Below.refl _ W⟩

def impl_MostStacked.f (l0 : List Thing) : Option (List Int × Bool) :=
  (impl_AreStackable.f l0).bind fun t => if t = true then (if l0.length ≤ 1000 then some ((bestAllS l0 (fun st => (st.length : Int))).1, true) else none) else some ([], false)
set_option maxHeartbeats 2000000 in
theorem impl_MostStacked.calls (A0 : Option Addr) (c0 : Nat) (l0 : List Thing) (r1 : List Int) (r2 : Bool) (w : World) (hr0 : Kd.C k49 w A0 l0.length l0) (hc0 : l0.length ≤ c0) (h : impl_MostStacked.f l0 = some (r1, r2)) :
    Calls Try.prog 30 #[.slice A0 l0.length c0] w fun e w' => ∃ v0_ : Value, e = .returned (.tuple #[v0_, .bool r2]) ∧ Kd.R (Kd.int .i64) 3 w' w.heap.size (fun _ => True) v0_ r1 ∧ Below w.heap.size w w' := by
  unfold impl_MostStacked.f at h
  obtain ⟨t, ht, h⟩ := Option.bind_eq_some_iff.mp h
  have hare := impl_AreStackable.calls A0 c0 l0 t w hr0 hc0 ht
  have HR := Aside0.mk hr0
  clear hr0 ht
  cases t with
  | false =>
    have hr : [] = r1 ∧ false = r2 := by simpa using h
    obtain ⟨rfl, rfl⟩ := hr
    clear h
    go_enter Try.func30, Try.ntmps30
    go_wp2_with (go_at_call 15; refine hare.mono ?_; rintro e w' ⟨rfl, hb⟩)
    go_ret2
    exact ⟨_, rfl, Kd.R_nil _ _ _ _ _, hb⟩
  | true =>
    have hn : l0.length ≤ 1000 := by
      by_cases hn : l0.length ≤ 1000
      · exact hn
      · simp [hn] at h
    have hr : (bestAllS l0 (fun st => (st.length : Int))).1 = r1 ∧ true = r2 := by simpa [hn] using h
    obtain ⟨hr, rfl⟩ := hr
    have HRR := Aside0.mk hr
    clear h hr
    have eg := enters_of Try.func52 (by kernel_rfl) rfl
    go_enter Try.func30, Try.ntmps30
    go_wp2_with (first
      | (go_at_call 15; refine hare.mono ?_; rintro e w' ⟨rfl, hb⟩)
      | (go_at_call 51; refine (bestSafe_calls l0 A0 c0 _ #[] _ _ eg (scoreLen_ok l0 _) hn (Kd.C_below HR.out hb) hc0 _ rfl).mono ?_; rintro e w6 ⟨v, rfl, hR, hb6⟩; obtain ⟨A1, c1, rfl⟩ := Kd.R_slice hR))
    go_ret2
    exact ⟨_, rfl, by rw [← HRR.out]; exact Kd.R_lower hR hb.size, hb.trans (hb6.mono hb.size)⟩
end Go.Proofs.Ytbmefldckdaopaa.Q

namespace Go.Proofs.Ytbmefldckdaopaa.Q
open Go.RowKit Go.Proofs.YtbmefldckdaopaaW.PrintWords Go.Proofs.YtbmefldckdaopaaW.PrintLast Go.Proofs.YtbmefldckdaopaaW.PrintMore
attribute [local go_sem] max2_int min2_int max_two min_two max_three min_three max_four min_four   -- for this text's walks alone
set_option linter.unusedVariables false
set_option linter.unusedSimpArgs false

/-! ### spec_CountSafe: function 23 -/
mutual
def spec_CountSafe.j0 : Nat → List (S49) → Int → Bool → Option (Int × Bool)
  | 0, _, _, _ => none
  | k + 1, x0, x1, x18 => if x18 = true then (some (0, false)) else ((spec_scAll.f k x0 ([] : List Int)).bind fun t243 => (spec_CountSafe.l0 k x1 0 t243 (t243.length : Int) 0))
def spec_CountSafe.l0 : Nat → Int → Int → List (List Int) → Int → Int → Option (Int × Bool)
  | 0, _, _, _, _, _ => none
  | k + 1, x1, x6, x20, x21, x22 => if x22 < x21 then (if 0 ≤ x22 then (if x22 < (x20.length : Int) then (if ((rd_L5 x20 x22).length : Int) = x1 then (spec_CountSafe.l0 k x1 (wrap64 (x6 + 1)) x20 x21 (wrap64 (x22 + 1))) else (spec_CountSafe.l0 k x1 x6 x20 x21 (wrap64 (x22 + 1)))) else (none)) else (none)) else (some (x6, true))
end
def spec_CountSafe.f (k : Nat) (l0 : List (S49)) (a1 : Int) : Option (Int × Bool) := (spec_scGood.f k l0).bind fun t241 => (if t241 = true then ((spec_l1In.f a1 0 (l0.length : Int)).bind fun t242 => (spec_CountSafe.j0 k l0 a1 (!t242))) else (spec_CountSafe.j0 k l0 a1 true))
theorem spec_CountSafe.mono_l : ∀ k, (∀ y0 y1 y2, LeO (spec_CountSafe.j0 k y0 y1 y2) (spec_CountSafe.j0 (k + 1) y0 y1 y2)) ∧ (∀ y0 y1 y2 y3 y4, LeO (spec_CountSafe.l0 k y0 y1 y2 y3 y4) (spec_CountSafe.l0 (k + 1) y0 y1 y2 y3 y4))
  | 0 => ⟨fun _ _ _ r h => by simp [spec_CountSafe.j0] at h, fun _ _ _ _ _ r h => by simp [spec_CountSafe.l0] at h⟩
  | k + 1 => by
    obtain ⟨ih0, ih1⟩ := spec_CountSafe.mono_l k
    refine ⟨?_, ?_⟩
    · intro y0 y1 y2
      unfold spec_CountSafe.j0
      repeat' first
      | (with_reducible exact ih0 _ _ _)
      | (with_reducible exact ih1 _ _ _ _ _)
      | (with_reducible exact spec_scAll.mono _ _ _)
      | (with_reducible exact spec_scGood.mono _ _)
      | (with_reducible exact LeO.refl _)
      | (with_reducible exact LeO.none _)
      | (with_reducible refine LeO.ite ?_ ?_)
      | (with_reducible refine LeO.bind ?_ (fun _ => ?_))
      | exact ih0 _ _ _
      | exact ih1 _ _ _ _ _
      | exact spec_scAll.mono _ _ _
      | exact spec_scGood.mono _ _
      | exact LeO.none _
      | refine LeO.ite ?_ ?_
      | refine LeO.bind ?_ (fun _ => ?_)
    · intro y0 y1 y2 y3 y4
      unfold spec_CountSafe.l0
      repeat' first
      | (with_reducible exact ih0 _ _ _)
      | (with_reducible exact ih1 _ _ _ _ _)
      | (with_reducible exact spec_scAll.mono _ _ _)
      | (with_reducible exact spec_scGood.mono _ _)
      | (with_reducible exact LeO.refl _)
      | (with_reducible exact LeO.none _)
      | (with_reducible refine LeO.ite ?_ ?_)
      | (with_reducible refine LeO.bind ?_ (fun _ => ?_))
      | exact ih0 _ _ _
      | exact ih1 _ _ _ _ _
      | exact spec_scAll.mono _ _ _
      | exact spec_scGood.mono _ _
      | exact LeO.none _
      | refine LeO.ite ?_ ?_
      | refine LeO.bind ?_ (fun _ => ?_)
theorem spec_CountSafe.mono : ∀ a0 a1 k, LeO (spec_CountSafe.f k a0 a1) (spec_CountSafe.f (k + 1) a0 a1) := by
  intro a0 a1 k
  obtain ⟨ih0, ih1⟩ := spec_CountSafe.mono_l k
  unfold spec_CountSafe.f
  repeat' first
      | (with_reducible exact ih0 _ _ _)
      | (with_reducible exact ih1 _ _ _ _ _)
      | (with_reducible exact spec_scAll.mono _ _ _)
      | (with_reducible exact spec_scGood.mono _ _)
      | (with_reducible exact LeO.refl _)
      | (with_reducible exact LeO.none _)
      | (with_reducible refine LeO.ite ?_ ?_)
      | (with_reducible refine LeO.bind ?_ (fun _ => ?_))
      | exact ih0 _ _ _
      | exact ih1 _ _ _ _ _
      | exact spec_scAll.mono _ _ _
      | exact spec_scGood.mono _ _
      | exact LeO.none _
      | refine LeO.ite ?_ ?_
      | refine LeO.bind ?_ (fun _ => ?_)
set_option maxHeartbeats 8000000 in
set_option maxRecDepth 100000 in
theorem spec_CountSafe.calls (k : Nat) (A0 : Option Addr) (c0 : Nat) (l0 : List (S49)) (a1 : Int) (r1 : Int) (r2 : Bool) (w : World) (hr0 : Kd.C k49 w A0 l0.length l0) (hc0 : l0.length ≤ c0) (h : spec_CountSafe.f k l0 a1 = some (r1, r2)) :
    Calls Try.prog 23 #[.slice A0 l0.length c0, .int .i64 a1] w fun e w' => e = .returned (.tuple #[.int .i64 r1, .bool r2]) ∧ Below w.heap.size w w' := by
  have HR0 := Aside0.mk hr0
  have HC0 := Aside0.mk hc0
  clear hr0 hc0
  have HB := Aside0.mk (Below.refl w.heap.size w)
  have H : ((spec_scGood.f k l0).bind fun t241 => (if t241 = true then ((spec_l1In.f a1 0 (l0.length : Int)).bind fun t242 => (spec_CountSafe.j0 k l0 a1 (!t242))) else (spec_CountSafe.j0 k l0 a1 true))) = some (r1, r2) := h
  clear h
  have HC3 := Aside0.mk H
  clear H
  go_enter Try.func23, Try.ntmps23
  go_upto_region 1 with (fail)
  go_cut [18] (fun v18 wc => ∃ (kq : Nat) (x18_2 : Bool), v18 = .bool x18_2 ∧ Aside0 (spec_CountSafe.j0 kq l0 a1 x18_2 = some (r1, r2)) ∧ Aside0 (kq ≤ k) ∧ Aside0 (Below w.heap.size w wc))
  case first =>
    have H := HC3.out
    clear HC3
    replace H := Option.bind_eq_some_iff.mp H
    obtain ⟨t241, A40, H⟩ := H
    replace H : (if t241 = true then ((spec_l1In.f a1 0 (l0.length : Int)).bind fun t242 => (spec_CountSafe.j0 k l0 a1 (!t242))) else (spec_CountSafe.j0 k l0 a1 true)) = some (r1, r2) := H
    have A4 := Aside0.mk A40
    clear A40
    by_cases c5 : t241 = true
    · subst c5
      have H1 : ((spec_l1In.f a1 0 (l0.length : Int)).bind fun t242 => (spec_CountSafe.j0 k l0 a1 (!t242))) = some (r1, r2) := by rw [if_pos rfl] at H; exact H
      clear H
      have H := H1
      clear H1
      replace H := Option.bind_eq_some_iff.mp H
      obtain ⟨t242, A60, H⟩ := H
      replace H : (spec_CountSafe.j0 k l0 a1 (!t242)) = some (r1, r2) := H
      have A6 := Aside0.mk A60
      clear A60
      have H' := Aside0.mk H
      clear H
      go_wp2_with (first | ((with_reducible refine gate_callee (f := 40) rfl ?_); refine goesL_ (some 10) rfl rfl Try.func40 (by kernel_rfl) rfl #[.slice A0 l0.length c0] rfl (by (try simp only [List.map_toArray, List.map_cons, List.map_nil]); first | done | rfl | (simp only [List.length_drop, List.length_take]; rfl)) ?_; (with_reducible refine (spec_scGood.calls k _ _ l0 true _ ?side1 ?side2 A4.out).mono ?_); (case side1 => repeat (first | exact (Kd.C_below HR0.out HB.out) | (with_reducible refine Kd.C_alloc ?_ _) | (with_reducible refine Kd.C_drewN ?_ _) | (with_reducible refine Kd.C_drew ?_))); (case side2 => exact HC0.out); rintro e w7 ⟨rfl, hb⟩; refine ⟨_, rfl, ?_⟩; have n0_ := Aside0.mk (below_step (by repeat (first | (with_reducible first | exact HB.out | apply below_alloc | apply pw_below_drewN | apply below_drew1) | exact HB.out)) hb); clear HB; have HB := n0_; clear n0_; (try clear hb); (try clear hb2); (try clear hk); (try clear hi)) | (go_at_call 47; (with_reducible refine (spec_l1In.calls a1 0 (l0.length : Int) t242 _ A6.out).mono ?_); rintro e w' ⟨rfl, ⟨nd, rfl⟩⟩))
      go_meet
      case rel => exact ⟨_, (!t242), (by first | rfl | (simp; done) | (simp [*]; done)), H', ⟨by first | omega | exact Nat.le_refl _⟩, ⟨by repeat (first | (with_reducible first | exact HB.out | apply below_alloc | apply pw_below_drewN | apply below_drew1) | exact HB.out)⟩⟩
    · replace c5 := Bool.eq_false_iff.mpr c5
      subst c5
      have H1 : (spec_CountSafe.j0 k l0 a1 true) = some (r1, r2) := by rw [if_neg (show ¬ (false = true) by decide)] at H; exact H
      clear H
      have H := H1
      clear H1
      have H' := Aside0.mk H
      clear H
      go_wp2_with (first | ((with_reducible refine gate_callee (f := 40) rfl ?_); refine goesL_ (some 10) rfl rfl Try.func40 (by kernel_rfl) rfl #[.slice A0 l0.length c0] rfl (by (try simp only [List.map_toArray, List.map_cons, List.map_nil]); first | done | rfl | (simp only [List.length_drop, List.length_take]; rfl)) ?_; (with_reducible refine (spec_scGood.calls k _ _ l0 false _ ?side1 ?side2 A4.out).mono ?_); (case side1 => repeat (first | exact (Kd.C_below HR0.out HB.out) | (with_reducible refine Kd.C_alloc ?_ _) | (with_reducible refine Kd.C_drewN ?_ _) | (with_reducible refine Kd.C_drew ?_))); (case side2 => exact HC0.out); rintro e w8 ⟨rfl, hb⟩; refine ⟨_, rfl, ?_⟩; have n0_ := Aside0.mk (below_step (by repeat (first | (with_reducible first | exact HB.out | apply below_alloc | apply pw_below_drewN | apply below_drew1) | exact HB.out)) hb); clear HB; have HB := n0_; clear n0_; (try clear hb); (try clear hb2); (try clear hk); (try clear hi)))
      go_meet
      case rel => exact ⟨_, (true), (by first | rfl | (simp; done) | (simp [*]; done)), H', ⟨by first | omega | exact Nat.le_refl _⟩, ⟨by repeat (first | (with_reducible first | exact HB.out | apply below_alloc | apply pw_below_drewN | apply below_drew1) | exact HB.out)⟩⟩
  case rest =>
    clear HC3
    try clear c2
    try clear p2
    try clear c4
    try clear c5
    obtain ⟨kq, x18_2, rfl, HA, HJ2, HB⟩ := hcut
    cases kq with
    | zero => exact absurd HA.out (by simp [spec_CountSafe.j0])
    | succ kj2 =>
      have H := HA.out
      clear HA
      simp only [spec_CountSafe.j0] at H
      by_cases c9 : x18_2 = true
      · subst c9
        have H1 : (some (0, false)) = some (r1, r2) := by rw [if_pos rfl] at H; exact H
        clear H
        have H := H1
        clear H1
        simp only [Option.some.injEq, Prod.mk.injEq] at H
        obtain ⟨rfl, rfl⟩ := H
        go_wp2
        go_ret2
        exact ⟨by first | rfl | (simp [errW_none, errW_some] <;> rfl) | (simp [*, errW_none, errW_some] <;> rfl), by repeat (first | (with_reducible first | exact HB.out | apply below_alloc | apply pw_below_drewN | apply below_drew1) | exact HB.out)⟩
      · replace c9 := Bool.eq_false_iff.mpr c9
        subst c9
        have H1 : ((spec_scAll.f kj2 l0 ([] : List Int)).bind fun t243 => (spec_CountSafe.l0 kj2 a1 0 t243 (t243.length : Int) 0)) = some (r1, r2) := by rw [if_neg (show ¬ (false = true) by decide)] at H; exact H
        clear H
        have H := H1
        clear H1
        replace H := Option.bind_eq_some_iff.mp H
        obtain ⟨t243, A100, H⟩ := H
        replace H : (spec_CountSafe.l0 kj2 a1 0 t243 (t243.length : Int) 0) = some (r1, r2) := H
        have A10 := Aside0.mk A100
        clear A100
        have H' := Aside0.mk H
        clear H
        go_wp2_with (first | ((with_reducible refine gate_callee (f := 48) rfl ?_); refine goesL_ (some 20) rfl rfl Try.func48 (by kernel_rfl) rfl #[.slice A0 l0.length c0, .slice none 0 0] rfl (by (try simp only [List.map_toArray, List.map_cons, List.map_nil]); first | done | rfl | (simp only [List.length_drop, List.length_take]; rfl)) ?_; (refine (spec_scAll.calls kj2 _ _ l0 _ _ ([] : List Int) t243 _ ?side1 ?side2 ?side3 ?side4 A10.out).mono ?_); (case side1 => repeat (first | exact (Kd.C_below HR0.out HB.out) | (with_reducible refine Kd.C_alloc ?_ _) | (with_reducible refine Kd.C_drewN ?_ _) | (with_reducible refine Kd.C_drew ?_))); (case side2 => exact HC0.out); (case side3 => exact Kd.C_nil _ _); (case side4 => exact Nat.le_refl _); rintro e w11 ⟨v244, rfl, ho0, hb⟩; refine ⟨_, rfl, ?_⟩; have n0_ := Aside0.mk (Kd.N_lower (Kd.N_mono (ok' := fun k_ => True) ho0 (fun k_ hk_ => trivial)) (below_size (by repeat (first | (with_reducible first | exact HB.out | apply below_alloc | apply pw_below_drewN | apply below_drew1) | exact HB.out)))); have n1_ := Aside0.mk (below_step (by repeat (first | (with_reducible first | exact HB.out | apply below_alloc | apply pw_below_drewN | apply below_drew1) | exact HB.out)) hb); clear HB; have HO245 := n0_; have HB := n1_; clear n0_ n1_; (try clear hb); (try clear hb2); (try clear hk); (try clear hi); (try clear ho0); obtain ⟨Ao12, co12, eo12⟩ := Kd.N_slice HO245.out; subst eo12))
        go_loopg [6, 22] kj2 (fun kq v6 v22 w' => ∃ (x6_2 : Int) (x22_2 : Int), v6 = .int .i64 x6_2 ∧ v22 = .int .i64 x22_2 ∧ Aside0 (spec_CountSafe.l0 kq a1 x6_2 t243 (t243.length : Int) x22_2 = some (r1, r2)) ∧ Aside0 (kq ≤ kj2) ∧ Aside0 (Kd.N (Kd.slice 3 (Kd.int .i64)) 41 w' w.heap.size (fun _ => True) (.slice Ao12 t243.length co12) t243) ∧ Aside0 (Below w.heap.size w w'))
        case atStart => exact ⟨(0), (0), (by first | rfl | (simp; done) | (simp [*]; done)), (by first | rfl | (simp; done) | (simp [*]; done)), H', ⟨Nat.le_refl _⟩, ⟨by (with_reducible repeat (first | apply Kd.N_alloc | apply Kd.N_drewN | apply Kd.N_drew)); exact HO245.out⟩, ⟨by repeat (first | (with_reducible first | exact HB.out | apply below_alloc | apply pw_below_drewN | apply below_drew1) | exact HB.out)⟩⟩
        case round =>
          clear H'
          try clear c2
          try clear p2
          try clear c4
          try clear c5
          try clear c9
          try clear p2
          obtain ⟨x6_2, x22_2, rfl, rfl, HA, HK2, HO_20, HB⟩ := hrel
          cases gk with
          | zero => exact absurd HA.out (by simp [spec_CountSafe.l0])
          | succ k2 =>
            have H := HA.out
            clear HA
            simp only [spec_CountSafe.l0] at H
            by_cases c13 : x22_2 < (t243.length : Int)
            · rw [if_pos c13] at H
              have c13b0 : decide (x22_2 < (t243.length : Int)) = true := decide_eq_true c13
              clear c13
              by_cases c14 : 0 ≤ x22_2
              · rw [if_pos c14] at H
                have c14b0 : decide (0 ≤ x22_2) = true := decide_eq_true c14
                clear c14
                by_cases c15 : x22_2 < (t243.length : Int)
                · rw [if_pos c15] at H
                  have c15b0 : decide (x22_2 < (t243.length : Int)) = true := decide_eq_true c15
                  clear c15
                  by_cases c16 : ((rd_L5 t243 x22_2).length : Int) = a1
                  · rw [if_pos c16] at H
                    have c16b0 : (((rd_L5 t243 x22_2).length : Int) == a1) = true := beq_iff_eq.mpr c16
                    have c16b1 : (((rd_L5 t243 x22_2).length : Int) != a1) = false := bne_eq_false_iff_eq.mpr c16
                    clear c16
                    have H' := Aside0.mk H
                    clear H
                    have p246 : 0 ≤ (x22_2 : Int) := of_decide_eq_true (by first | (with_reducible assumption) | assumption)
                    have q246 : x22_2 < (t243.length : Int) := of_decide_eq_true (by first | (with_reducible assumption) | assumption)
                    obtain ⟨ad246, A246_0, c246_0, e246, hx246_0, hl246_0, hi246_0⟩ := at_L5 (Kd.N_reads' HO_20.out).2.2 x22_2 p246 q246
                    cases e246
                    obtain ⟨ce246, hce246, hMe246, hcc246⟩ := Kd.N_get HO_20.out [] x22_2 p246 (by first | exact q246 | exact of_decide_eq_true (by first | (with_reducible assumption) | assumption) | (have e_ := (Kd.N_reads' HO_20.out).1; omega))
                    obtain ⟨ua246_0, uc246_0, rfl, ul246_0, ge246_0⟩ := Kd.FK_slice_open hMe246
                    have hv246_0 := hcc246 0 _ rfl
                    rw [Nat.add_zero, show ((Kd.slice 3 (Kd.int .i64))).sz = 1 from rfl, Nat.mul_one] at hv246_0
                    replace hv246_0 := Option.some.inj (hv246_0.symm.trans hx246_0)
                    injection hv246_0 with hva_ hvn_ hvc_
                    rw [hva_] at ge246_0
                    rw [hvc_] at ul246_0
                    have HL246_0 := Aside0.mk (show Kd.V (Kd.int .i64) 3 _ w.heap.size _ _ (rd_L5 t243 x22_2) from Kd.V_mk ul246_0 ge246_0)
                    clear hva_ hvn_ hvc_ ge246_0 ul246_0
                    clear hcc246 hce246
                    have HR246_0 := Aside0.mk hi246_0
                    have HC246_0 := Aside0.mk hl246_0
                    clear hi246_0 hl246_0
                    replace p246 := eq_true p246
                    replace q246 := eq_true q246
                    go_wp2
                    go_roundg k2
                    case measure => have := HJ2.out; have := HK2.out; omega
                    case rel => exact ⟨(wrap64 (x6_2 + 1)), (wrap64 (x22_2 + 1)), (by first | rfl | (simp; done) | (simp [*]; done)), (by first | rfl | (simp; done) | (simp [*]; done)), H', ⟨by have := HJ2.out; have := HK2.out; omega⟩, ⟨by (with_reducible repeat (first | apply Kd.N_alloc | apply Kd.N_drewN | apply Kd.N_drew)); exact HO_20.out⟩, ⟨by repeat (first | (with_reducible first | exact HB.out | apply below_alloc | apply pw_below_drewN | apply below_drew1) | exact HB.out)⟩⟩
                  · rw [if_neg c16] at H
                    have c16b0 : (((rd_L5 t243 x22_2).length : Int) == a1) = false := beq_eq_false_iff_ne.mpr c16
                    have c16b1 : (((rd_L5 t243 x22_2).length : Int) != a1) = true := bne_iff_ne.mpr c16
                    have H' := Aside0.mk H
                    clear H
                    have p246 : 0 ≤ (x22_2 : Int) := of_decide_eq_true (by first | (with_reducible assumption) | assumption)
                    have q246 : x22_2 < (t243.length : Int) := of_decide_eq_true (by first | (with_reducible assumption) | assumption)
                    obtain ⟨ad246, A246_0, c246_0, e246, hx246_0, hl246_0, hi246_0⟩ := at_L5 (Kd.N_reads' HO_20.out).2.2 x22_2 p246 q246
                    cases e246
                    obtain ⟨ce246, hce246, hMe246, hcc246⟩ := Kd.N_get HO_20.out [] x22_2 p246 (by first | exact q246 | exact of_decide_eq_true (by first | (with_reducible assumption) | assumption) | (have e_ := (Kd.N_reads' HO_20.out).1; omega))
                    obtain ⟨ua246_0, uc246_0, rfl, ul246_0, ge246_0⟩ := Kd.FK_slice_open hMe246
                    have hv246_0 := hcc246 0 _ rfl
                    rw [Nat.add_zero, show ((Kd.slice 3 (Kd.int .i64))).sz = 1 from rfl, Nat.mul_one] at hv246_0
                    replace hv246_0 := Option.some.inj (hv246_0.symm.trans hx246_0)
                    injection hv246_0 with hva_ hvn_ hvc_
                    rw [hva_] at ge246_0
                    rw [hvc_] at ul246_0
                    have HL246_0 := Aside0.mk (show Kd.V (Kd.int .i64) 3 _ w.heap.size _ _ (rd_L5 t243 x22_2) from Kd.V_mk ul246_0 ge246_0)
                    clear hva_ hvn_ hvc_ ge246_0 ul246_0
                    clear hcc246 hce246
                    have HR246_0 := Aside0.mk hi246_0
                    have HC246_0 := Aside0.mk hl246_0
                    clear hi246_0 hl246_0
                    replace p246 := eq_true p246
                    replace q246 := eq_true q246
                    go_wp2
                    go_roundg k2
                    case measure => have := HJ2.out; have := HK2.out; omega
                    case rel => exact ⟨(x6_2), (wrap64 (x22_2 + 1)), (by first | rfl | (simp; done) | (simp [*]; done)), (by first | rfl | (simp; done) | (simp [*]; done)), H', ⟨by have := HJ2.out; have := HK2.out; omega⟩, ⟨by (with_reducible repeat (first | apply Kd.N_alloc | apply Kd.N_drewN | apply Kd.N_drew)); exact HO_20.out⟩, ⟨by repeat (first | (with_reducible first | exact HB.out | apply below_alloc | apply pw_below_drewN | apply below_drew1) | exact HB.out)⟩⟩
                · rw [if_neg c15] at H
                  exact absurd H (by simp)
              · rw [if_neg c14] at H
                exact absurd H (by simp)
            · rw [if_neg c13] at H
              have c13b0 : decide (x22_2 < (t243.length : Int)) = false := decide_eq_false c13
              clear c13
              simp only [Option.some.injEq, Prod.mk.injEq] at H
              obtain ⟨rfl, rfl⟩ := H
              go_wp2
              go_ret2
              exact ⟨by first | rfl | (simp [errW_none, errW_some] <;> rfl) | (simp [*, errW_none, errW_some] <;> rfl), by repeat (first | (with_reducible first | exact HB.out | apply below_alloc | apply pw_below_drewN | apply below_drew1) | exact HB.out)⟩

end Go.Proofs.Ytbmefldckdaopaa.Q

namespace Go.Proofs.Ytbmefldckdaopaa.Q
open Go.RowKit Go.Proofs.YtbmefldckdaopaaW.PrintWords Go.Proofs.YtbmefldckdaopaaW.PrintLast Go.Proofs.YtbmefldckdaopaaW.PrintMore
attribute [local go_sem] max2_int min2_int max_two min_two max_three min_three max_four min_four   -- for this text's walks alone
set_option linter.unusedVariables false
set_option linter.unusedSimpArgs false

/-! ### impl_within: function 42 -/
def impl_within.f (a0 : Int) (a1 : Int) (a2 : Int) : Option (Bool) := if a1 ≤ a0 then (some (decide (a0 ≤ a2))) else (some false)
set_option maxHeartbeats 8000000 in
set_option maxRecDepth 100000 in
theorem impl_within.calls (a0 : Int) (a1 : Int) (a2 : Int) (r : Bool) (w : World) (h : impl_within.f a0 a1 a2 = some r) :
    Calls Try.prog 42 #[.int .i64 a0, .int .i64 a1, .int .i64 a2] w fun e w' => e = .returned (.bool r) ∧ Drawn0 w w' := by
  have H : (if a1 ≤ a0 then (some (decide (a0 ≤ a2))) else (some false)) = some r := h
  clear h
  by_cases c4 : a1 ≤ a0
  · rw [if_pos c4] at H
    have c4b0 : decide (a1 ≤ a0) = true := decide_eq_true c4
    clear c4
    obtain rfl := Option.some.inj H
    go_enter Try.func42, Try.ntmps42
    go_wp2
    go_ret
    exact ⟨by first | rfl | (simp; done) | (simp [*]; done), by repeat (first | exact Drawn0.refl _ | apply Drawn0.step)⟩
  · rw [if_neg c4] at H
    have c4b0 : decide (a1 ≤ a0) = false := decide_eq_false c4
    clear c4
    obtain rfl := Option.some.inj H
    go_enter Try.func42, Try.ntmps42
    go_wp2
    go_ret
    exact ⟨by first | rfl | (simp; done) | (simp [*]; done), by repeat (first | exact Drawn0.refl _ | apply Drawn0.step)⟩

end Go.Proofs.Ytbmefldckdaopaa.Q

namespace Go.Proofs.Ytbmefldckdaopaa.Q
open Go.RowKit Go.Proofs.YtbmefldckdaopaaW.PrintWords Go.Proofs.YtbmefldckdaopaaW.PrintLast Go.Proofs.YtbmefldckdaopaaW.PrintMore
attribute [local go_sem] max2_int min2_int max_two min_two max_three min_three max_four min_four   -- for this text's walks alone
set_option linter.unusedVariables false
set_option linter.unusedSimpArgs false

/-! ### impl_CountSafe: function 24 -/
def impl_CountSafe.f (l0 : List (S49)) (a1 : Int) : Option (Int × Bool) := (impl_AreStackable.f l0).bind fun t257 => (if t257 = true then ((impl_within.f a1 0 (l0.length : Int)).bind fun t258 => (if t258 = true then ((impl_countSafe.f l0 a1).bind fun t259 => (some (t259, true))) else (some (0, false)))) else (some (0, false)))
set_option maxHeartbeats 8000000 in
set_option maxRecDepth 100000 in
theorem impl_CountSafe.calls (A0 : Option Addr) (c0 : Nat) (l0 : List (S49)) (a1 : Int) (r1 : Int) (r2 : Bool) (w : World) (hr0 : Kd.C k49 w A0 l0.length l0) (hc0 : l0.length ≤ c0) (h : impl_CountSafe.f l0 a1 = some (r1, r2)) :
    Calls Try.prog 24 #[.slice A0 l0.length c0, .int .i64 a1] w fun e w' => e = .returned (.tuple #[.int .i64 r1, .bool r2]) ∧ Below w.heap.size w w' := by
  have HR0 := Aside0.mk hr0
  have HC0 := Aside0.mk hc0
  clear hr0 hc0
  have HB := Aside0.mk (Below.refl w.heap.size w)
  have H : ((impl_AreStackable.f l0).bind fun t257 => (if t257 = true then ((impl_within.f a1 0 (l0.length : Int)).bind fun t258 => (if t258 = true then ((impl_countSafe.f l0 a1).bind fun t259 => (some (t259, true))) else (some (0, false)))) else (some (0, false)))) = some (r1, r2) := h
  clear h
  replace H := Option.bind_eq_some_iff.mp H
  obtain ⟨t257, A30, H⟩ := H
  replace H : (if t257 = true then ((impl_within.f a1 0 (l0.length : Int)).bind fun t258 => (if t258 = true then ((impl_countSafe.f l0 a1).bind fun t259 => (some (t259, true))) else (some (0, false)))) else (some (0, false))) = some (r1, r2) := H
  have A3 := Aside0.mk A30
  clear A30
  by_cases c4 : t257 = true
  · subst c4
    have H1 : ((impl_within.f a1 0 (l0.length : Int)).bind fun t258 => (if t258 = true then ((impl_countSafe.f l0 a1).bind fun t259 => (some (t259, true))) else (some (0, false)))) = some (r1, r2) := by rw [if_pos rfl] at H; exact H
    clear H
    have H := H1
    clear H1
    replace H := Option.bind_eq_some_iff.mp H
    obtain ⟨t258, A50, H⟩ := H
    replace H : (if t258 = true then ((impl_countSafe.f l0 a1).bind fun t259 => (some (t259, true))) else (some (0, false))) = some (r1, r2) := H
    have A5 := Aside0.mk A50
    clear A50
    by_cases c6 : t258 = true
    · subst c6
      have H1 : ((impl_countSafe.f l0 a1).bind fun t259 => (some (t259, true))) = some (r1, r2) := by rw [if_pos rfl] at H; exact H
      clear H
      have H := H1
      clear H1
      replace H := Option.bind_eq_some_iff.mp H
      obtain ⟨t259, A70, H⟩ := H
      replace H : (some (t259, true)) = some (r1, r2) := H
      have A7 := Aside0.mk A70
      clear A70
      simp only [Option.some.injEq, Prod.mk.injEq] at H
      obtain ⟨rfl, rfl⟩ := H
      go_enter Try.func24, Try.ntmps24
      go_wp2_with (first | ((with_reducible refine gate_callee (f := 15) rfl ?_); refine goesL_ (some 7) rfl rfl Try.func15 (by kernel_rfl) rfl #[.slice A0 l0.length c0] rfl (by (try simp only [List.map_toArray, List.map_cons, List.map_nil]); first | done | rfl | (simp only [List.length_drop, List.length_take]; rfl)) ?_; (with_reducible refine (impl_AreStackable.calls _ _ l0 true _ ?side1 ?side2 A3.out).mono ?_); (case side1 => repeat (first | exact HR0.out | (with_reducible refine Kd.C_alloc ?_ _) | (with_reducible refine Kd.C_drewN ?_ _) | (with_reducible refine Kd.C_drew ?_))); (case side2 => exact HC0.out); rintro e w8 ⟨rfl, hb⟩; refine ⟨_, rfl, ?_⟩; have n0_ := Aside0.mk (below_step (by repeat (first | (with_reducible first | exact HB.out | apply below_alloc | apply pw_below_drewN | apply below_drew1) | exact HB.out)) hb); clear HB; have HB := n0_; clear n0_; (try clear hb); (try clear hb2); (try clear hk); (try clear hi)) | (go_at_call 42; (with_reducible refine (impl_within.calls a1 0 (l0.length : Int) true _ A5.out).mono ?_); rintro e w' ⟨rfl, ⟨nd, rfl⟩⟩) | ((with_reducible refine gate_callee (f := 49) rfl ?_); refine goesL_ (some 18) rfl rfl Try.func49 (by kernel_rfl) rfl #[.slice A0 l0.length c0, .int .i64 a1] rfl (by (try simp only [List.map_toArray, List.map_cons, List.map_nil]); first | done | rfl | (simp only [List.length_drop, List.length_take]; rfl)) ?_; (with_reducible refine (impl_countSafe.calls _ _ l0 a1 t259 _ ?side1 ?side2 A7.out).mono ?_); (case side1 => repeat (first | exact (Kd.C_below HR0.out (by repeat (first | (with_reducible first | exact HB.out | apply below_alloc | apply pw_below_drewN | apply below_drew1) | exact HB.out))) | (with_reducible refine Kd.C_alloc ?_ _) | (with_reducible refine Kd.C_drewN ?_ _) | (with_reducible refine Kd.C_drew ?_))); (case side2 => exact HC0.out); rintro e w9 ⟨rfl, hb⟩; refine ⟨_, rfl, ?_⟩; have n0_ := Aside0.mk (below_step (by repeat (first | (with_reducible first | exact HB.out | apply below_alloc | apply pw_below_drewN | apply below_drew1) | exact HB.out)) hb); clear HB; have HB := n0_; clear n0_; (try clear hb); (try clear hb2); (try clear hk); (try clear hi)))
      go_ret2
      exact ⟨by first | rfl | (simp [errW_none, errW_some] <;> rfl) | (simp [*, errW_none, errW_some] <;> rfl), by repeat (first | (with_reducible first | exact HB.out | apply below_alloc | apply pw_below_drewN | apply below_drew1) | exact HB.out)⟩
    · replace c6 := Bool.eq_false_iff.mpr c6
      subst c6
      have H1 : (some (0, false)) = some (r1, r2) := by rw [if_neg (show ¬ (false = true) by decide)] at H; exact H
      clear H
      have H := H1
      clear H1
      simp only [Option.some.injEq, Prod.mk.injEq] at H
      obtain ⟨rfl, rfl⟩ := H
      go_enter Try.func24, Try.ntmps24
      go_wp2_with (first | ((with_reducible refine gate_callee (f := 15) rfl ?_); refine goesL_ (some 7) rfl rfl Try.func15 (by kernel_rfl) rfl #[.slice A0 l0.length c0] rfl (by (try simp only [List.map_toArray, List.map_cons, List.map_nil]); first | done | rfl | (simp only [List.length_drop, List.length_take]; rfl)) ?_; (with_reducible refine (impl_AreStackable.calls _ _ l0 true _ ?side1 ?side2 A3.out).mono ?_); (case side1 => repeat (first | exact HR0.out | (with_reducible refine Kd.C_alloc ?_ _) | (with_reducible refine Kd.C_drewN ?_ _) | (with_reducible refine Kd.C_drew ?_))); (case side2 => exact HC0.out); rintro e w10 ⟨rfl, hb⟩; refine ⟨_, rfl, ?_⟩; have n0_ := Aside0.mk (below_step (by repeat (first | (with_reducible first | exact HB.out | apply below_alloc | apply pw_below_drewN | apply below_drew1) | exact HB.out)) hb); clear HB; have HB := n0_; clear n0_; (try clear hb); (try clear hb2); (try clear hk); (try clear hi)) | (go_at_call 42; (with_reducible refine (impl_within.calls a1 0 (l0.length : Int) false _ A5.out).mono ?_); rintro e w' ⟨rfl, ⟨nd, rfl⟩⟩))
      go_ret2
      exact ⟨by first | rfl | (simp [errW_none, errW_some] <;> rfl) | (simp [*, errW_none, errW_some] <;> rfl), by repeat (first | (with_reducible first | exact HB.out | apply below_alloc | apply pw_below_drewN | apply below_drew1) | exact HB.out)⟩
  · replace c4 := Bool.eq_false_iff.mpr c4
    subst c4
    have H1 : (some (0, false)) = some (r1, r2) := by rw [if_neg (show ¬ (false = true) by decide)] at H; exact H
    clear H
    have H := H1
    clear H1
    simp only [Option.some.injEq, Prod.mk.injEq] at H
    obtain ⟨rfl, rfl⟩ := H
    go_enter Try.func24, Try.ntmps24
    go_wp2_with (first | ((with_reducible refine gate_callee (f := 15) rfl ?_); refine goesL_ (some 7) rfl rfl Try.func15 (by kernel_rfl) rfl #[.slice A0 l0.length c0] rfl (by (try simp only [List.map_toArray, List.map_cons, List.map_nil]); first | done | rfl | (simp only [List.length_drop, List.length_take]; rfl)) ?_; (with_reducible refine (impl_AreStackable.calls _ _ l0 false _ ?side1 ?side2 A3.out).mono ?_); (case side1 => repeat (first | exact HR0.out | (with_reducible refine Kd.C_alloc ?_ _) | (with_reducible refine Kd.C_drewN ?_ _) | (with_reducible refine Kd.C_drew ?_))); (case side2 => exact HC0.out); rintro e w11 ⟨rfl, hb⟩; refine ⟨_, rfl, ?_⟩; have n0_ := Aside0.mk (below_step (by repeat (first | (with_reducible first | exact HB.out | apply below_alloc | apply pw_below_drewN | apply below_drew1) | exact HB.out)) hb); clear HB; have HB := n0_; clear n0_; (try clear hb); (try clear hb2); (try clear hk); (try clear hi)))
    go_ret2
    exact ⟨by first | rfl | (simp [errW_none, errW_some] <;> rfl) | (simp [*, errW_none, errW_some] <;> rfl), by repeat (first | (with_reducible first | exact HB.out | apply below_alloc | apply pw_below_drewN | apply below_drew1) | exact HB.out)⟩

end Go.Proofs.Ytbmefldckdaopaa.Q
