/-
  Part 7 of the proof of FnExactPackByRatio: what Go functions that it reaches compute, each shown by a walk of its code, and plain laws on numbers and lists.
  CONDITIONS: each theorem's own, as stated.
-/
import Derived.Test.YtkaihdpmjlhlaaaZFnExactPackByRatio1
import Derived.Test.YtkaihdpmjlhlaaaZFnExactPackByRatio4
import Derived.Test.YtkaihdpmjlhlaaaZFnExactPackByRatio6
import Derived.Test.YtkaihdpmjlhlaaaZFnExactPackByRatio2
import Derived.Test.YtkaihdpmjlhlaaaZFnExactPackByRatio5
namespace Go.Proofs.Ytkaihdpmjlhlaaa.Q
open Go.RowKit Go.Proofs.YtkaihdpmjlhlaaaW.PrintWords Go.Proofs.YtkaihdpmjlhlaaaW.PrintLast Go.Proofs.YtkaihdpmjlhlaaaW.PrintMore
attribute [local go_sem] max2_int min2_int max_two min_two max_three min_three max_four min_four   -- for this text's walks alone
set_option linter.unusedVariables false
set_option linter.unusedSimpArgs false

/-! ### laws_FnExactPackByRatio: function 10 -/
mutual
def laws_FnExactPackByRatio.j0 : Nat → List (S51) → List Int → Bool → List (S49) → List Int → Bool → Bool → Int → Int → Option (Bool)
  | 0, _, _, _, _, _, _, _, _, _ => none
  | k + 1, x0, x6, x7, x8, x9, x10, x46, x662000, x662001 => if x46 = true then (some false) else ((laws_toItemS.f k x0).bind fun t682 => ((laws_eqItemS.f k x8 t682).bind fun t685 => (if t685 = true then ((laws_markItemS.f k x8 1).bind fun bt686 => (if bt686.1 < 0 then (laws_FnExactPackByRatio.j1 k x0 x6 x7 x9 true x662000 x662001) else ((laws_eqIntS.f k x9 x6).bind fun t688 => (if t688 = true then (laws_FnExactPackByRatio.j1 k x0 x6 x7 x9 (x10 != x7) x662000 x662001) else (laws_FnExactPackByRatio.j1 k x0 x6 x7 x9 true x662000 x662001))))) else (some false))))
def laws_FnExactPackByRatio.j1 : Nat → List (S51) → List Int → Bool → List Int → Bool → Int → Int → Option (Bool)
  | 0, _, _, _, _, _, _, _ => none
  | k + 1, x0, x6, x7, x9, x67, x662000, x662001 => if x67 = true then (some false) else ((laws_markIntS.f k x9 1).bind fun bt689 => ((laws_heldIntS.f k bt689.2 1).bind fun t691 => (if t691 < 0 then (some false) else (if t691 = bt689.1 then ((laws_toItemS.f k x0).bind fun t692 => ((laws_toCase.f x662000 x662001).bind fun bt695 => ((impl_PackByRatio.f t692 bt695.1 bt695.2).bind fun bt697 => ((laws_eqIntS.f k bt697.1 x6).bind fun t701 => (if t701 = true then (laws_FnExactPackByRatio.j2 k bt689.2 bt689.1 (bt697.2 != x7)) else (laws_FnExactPackByRatio.j2 k bt689.2 bt689.1 true)))))) else (some false)))))
def laws_FnExactPackByRatio.j2 : Nat → List Int → Int → Bool → Option (Bool)
  | 0, _, _, _ => none
  | k + 1, x9, x12, x95 => if x95 = true then (some false) else ((laws_heldIntS.f k x9 1).bind fun t702 => (if t702 < 0 then (some false) else (if t702 = x12 then (some true) else (some false))))
end
def laws_FnExactPackByRatio.f (k : Nat) (l0 : List (S51)) (a1_0 : Int) (a1_1 : Int) : Option (Bool) := (laws_szItemS.f l0 1048576).bind fun t662 => (if t662 < 0 then (some true) else ((laws_toItemS.f k l0).bind fun t663 => ((laws_toCase.f a1_0 a1_1).bind fun bt666 => ((spec_PackByRatio.f k t663 bt666.1 bt666.2).bind fun bt668 => ((laws_toItemS.f k l0).bind fun t672 => ((laws_toCase.f a1_0 a1_1).bind fun bt675 => ((impl_PackByRatio.f t672 bt675.1 bt675.2).bind fun bt677 => ((laws_eqIntS.f k bt677.1 bt668.1).bind fun t681 => (if t681 = true then (laws_FnExactPackByRatio.j0 k l0 bt668.1 bt668.2 t672 bt677.1 bt677.2 (bt677.2 != bt668.2) a1_0 a1_1) else (laws_FnExactPackByRatio.j0 k l0 bt668.1 bt668.2 t672 bt677.1 bt677.2 true a1_0 a1_1))))))))))
theorem laws_FnExactPackByRatio.mono_l : ∀ k, (∀ y0 y1 y2 y3 y4 y5 y6 y7 y8, LeO (laws_FnExactPackByRatio.j0 k y0 y1 y2 y3 y4 y5 y6 y7 y8) (laws_FnExactPackByRatio.j0 (k + 1) y0 y1 y2 y3 y4 y5 y6 y7 y8)) ∧ (∀ y0 y1 y2 y3 y4 y5 y6, LeO (laws_FnExactPackByRatio.j1 k y0 y1 y2 y3 y4 y5 y6) (laws_FnExactPackByRatio.j1 (k + 1) y0 y1 y2 y3 y4 y5 y6)) ∧ (∀ y0 y1 y2, LeO (laws_FnExactPackByRatio.j2 k y0 y1 y2) (laws_FnExactPackByRatio.j2 (k + 1) y0 y1 y2))
  | 0 => ⟨fun _ _ _ _ _ _ _ _ _ r h => by simp [laws_FnExactPackByRatio.j0] at h, fun _ _ _ _ _ _ _ r h => by simp [laws_FnExactPackByRatio.j1] at h, fun _ _ _ r h => by simp [laws_FnExactPackByRatio.j2] at h⟩
  | k + 1 => by
    obtain ⟨ih0, ih1, ih2⟩ := laws_FnExactPackByRatio.mono_l k
    refine ⟨?_, ?_, ?_⟩
    · intro y0 y1 y2 y3 y4 y5 y6 y7 y8
      unfold laws_FnExactPackByRatio.j0
      repeat' first
      | (with_reducible exact ih0 _ _ _ _ _ _ _ _ _)
      | (with_reducible exact ih1 _ _ _ _ _ _ _)
      | (with_reducible exact ih2 _ _ _)
      | (with_reducible exact laws_eqIntS.mono _ _ _)
      | (with_reducible exact laws_eqItemS.mono _ _ _)
      | (with_reducible exact laws_heldIntS.mono _ _ _)
      | (with_reducible exact laws_markIntS.mono _ _ _)
      | (with_reducible exact laws_markItemS.mono _ _ _)
      | (with_reducible exact laws_toItemS.mono _ _)
      | (with_reducible exact spec_PackByRatio.mono _ _ _ _)
      | (with_reducible exact LeO.refl _)
      | (with_reducible exact LeO.none _)
      | (with_reducible refine LeO.ite ?_ ?_)
      | (with_reducible refine LeO.bind ?_ (fun _ => ?_))
      | exact ih0 _ _ _ _ _ _ _ _ _
      | exact ih1 _ _ _ _ _ _ _
      | exact ih2 _ _ _
      | exact laws_eqIntS.mono _ _ _
      | exact laws_eqItemS.mono _ _ _
      | exact laws_heldIntS.mono _ _ _
      | exact laws_markIntS.mono _ _ _
      | exact laws_markItemS.mono _ _ _
      | exact laws_toItemS.mono _ _
      | exact spec_PackByRatio.mono _ _ _ _
      | exact LeO.none _
      | refine LeO.ite ?_ ?_
      | refine LeO.bind ?_ (fun _ => ?_)
    · intro y0 y1 y2 y3 y4 y5 y6
      unfold laws_FnExactPackByRatio.j1
      repeat' first
      | (with_reducible exact ih0 _ _ _ _ _ _ _ _ _)
      | (with_reducible exact ih1 _ _ _ _ _ _ _)
      | (with_reducible exact ih2 _ _ _)
      | (with_reducible exact laws_eqIntS.mono _ _ _)
      | (with_reducible exact laws_eqItemS.mono _ _ _)
      | (with_reducible exact laws_heldIntS.mono _ _ _)
      | (with_reducible exact laws_markIntS.mono _ _ _)
      | (with_reducible exact laws_markItemS.mono _ _ _)
      | (with_reducible exact laws_toItemS.mono _ _)
      | (with_reducible exact spec_PackByRatio.mono _ _ _ _)
      | (with_reducible exact LeO.refl _)
      | (with_reducible exact LeO.none _)
      | (with_reducible refine LeO.ite ?_ ?_)
      | (with_reducible refine LeO.bind ?_ (fun _ => ?_))
      | exact ih0 _ _ _ _ _ _ _ _ _
      | exact ih1 _ _ _ _ _ _ _
      | exact ih2 _ _ _
      | exact laws_eqIntS.mono _ _ _
      | exact laws_eqItemS.mono _ _ _
      | exact laws_heldIntS.mono _ _ _
      | exact laws_markIntS.mono _ _ _
      | exact laws_markItemS.mono _ _ _
      | exact laws_toItemS.mono _ _
      | exact spec_PackByRatio.mono _ _ _ _
      | exact LeO.none _
      | refine LeO.ite ?_ ?_
      | refine LeO.bind ?_ (fun _ => ?_)
    · intro y0 y1 y2
      unfold laws_FnExactPackByRatio.j2
      repeat' first
      | (with_reducible exact ih0 _ _ _ _ _ _ _ _ _)
      | (with_reducible exact ih1 _ _ _ _ _ _ _)
      | (with_reducible exact ih2 _ _ _)
      | (with_reducible exact laws_eqIntS.mono _ _ _)
      | (with_reducible exact laws_eqItemS.mono _ _ _)
      | (with_reducible exact laws_heldIntS.mono _ _ _)
      | (with_reducible exact laws_markIntS.mono _ _ _)
      | (with_reducible exact laws_markItemS.mono _ _ _)
      | (with_reducible exact laws_toItemS.mono _ _)
      | (with_reducible exact spec_PackByRatio.mono _ _ _ _)
      | (with_reducible exact LeO.refl _)
      | (with_reducible exact LeO.none _)
      | (with_reducible refine LeO.ite ?_ ?_)
      | (with_reducible refine LeO.bind ?_ (fun _ => ?_))
      | exact ih0 _ _ _ _ _ _ _ _ _
      | exact ih1 _ _ _ _ _ _ _
      | exact ih2 _ _ _
      | exact laws_eqIntS.mono _ _ _
      | exact laws_eqItemS.mono _ _ _
      | exact laws_heldIntS.mono _ _ _
      | exact laws_markIntS.mono _ _ _
      | exact laws_markItemS.mono _ _ _
      | exact laws_toItemS.mono _ _
      | exact spec_PackByRatio.mono _ _ _ _
      | exact LeO.none _
      | refine LeO.ite ?_ ?_
      | refine LeO.bind ?_ (fun _ => ?_)
theorem laws_FnExactPackByRatio.mono : ∀ a0 a1 a2 k, LeO (laws_FnExactPackByRatio.f k a0 a1 a2) (laws_FnExactPackByRatio.f (k + 1) a0 a1 a2) := by
  intro a0 a1 a2 k
  obtain ⟨ih0, ih1, ih2⟩ := laws_FnExactPackByRatio.mono_l k
  unfold laws_FnExactPackByRatio.f
  repeat' first
      | (with_reducible exact ih0 _ _ _ _ _ _ _ _ _)
      | (with_reducible exact ih1 _ _ _ _ _ _ _)
      | (with_reducible exact ih2 _ _ _)
      | (with_reducible exact laws_eqIntS.mono _ _ _)
      | (with_reducible exact laws_eqItemS.mono _ _ _)
      | (with_reducible exact laws_heldIntS.mono _ _ _)
      | (with_reducible exact laws_markIntS.mono _ _ _)
      | (with_reducible exact laws_markItemS.mono _ _ _)
      | (with_reducible exact laws_toItemS.mono _ _)
      | (with_reducible exact spec_PackByRatio.mono _ _ _ _)
      | (with_reducible exact LeO.refl _)
      | (with_reducible exact LeO.none _)
      | (with_reducible refine LeO.ite ?_ ?_)
      | (with_reducible refine LeO.bind ?_ (fun _ => ?_))
      | exact ih0 _ _ _ _ _ _ _ _ _
      | exact ih1 _ _ _ _ _ _ _
      | exact ih2 _ _ _
      | exact laws_eqIntS.mono _ _ _
      | exact laws_eqItemS.mono _ _ _
      | exact laws_heldIntS.mono _ _ _
      | exact laws_markIntS.mono _ _ _
      | exact laws_markItemS.mono _ _ _
      | exact laws_toItemS.mono _ _
      | exact spec_PackByRatio.mono _ _ _ _
      | exact LeO.none _
      | refine LeO.ite ?_ ?_
      | refine LeO.bind ?_ (fun _ => ?_)
def laws_FnExactPackByRatio.T5 : Bool × List (List Nat × List Nat) := (true, [([], []), ([0], [0]), ([], []), ([2, 1], [2]), ([1, 3, 3], [1, 3]), ([4], [4]), ([5], [5]), ([5], [5]), ([6, 4, 0, 1, 2, 3, 4, 5, 6], [6]), ([7, 8, 0, 1, 2, 3, 4, 5, 6, 7, 8], [7])])
def laws_FnExactPackByRatio.B5 : List Nat := [0, 1, 0, 7, 15, 31, 63, 63, 127, 511]
theorem laws_FnExactPackByRatio.tab5 : rtab .any (opsOf Try.f10 5) = laws_FnExactPackByRatio.T5 := by kernel_rfl
theorem laws_FnExactPackByRatio.bits5 : waitsOk laws_FnExactPackByRatio.T5.2 laws_FnExactPackByRatio.B5 = true := by kernel_rfl
def laws_FnExactPackByRatio.T24 : Bool × List (List Nat × List Nat) := (true, [([], []), ([0], [0]), ([], []), ([2, 1], [2]), ([1, 3, 3], [1, 3]), ([4], [4]), ([5], [5]), ([5], [5]), ([6, 4, 0, 1, 2, 3, 4, 5, 6], [6]), ([7, 8, 0, 1, 2, 3, 4, 5, 6, 7, 8], [7])])
def laws_FnExactPackByRatio.B24 : List Nat := [0, 1, 0, 7, 15, 31, 63, 63, 127, 511]
theorem laws_FnExactPackByRatio.tab24 : rtab .any (opsOf Try.f10 24) = laws_FnExactPackByRatio.T24 := by kernel_rfl
theorem laws_FnExactPackByRatio.bits24 : waitsOk laws_FnExactPackByRatio.T24.2 laws_FnExactPackByRatio.B24 = true := by kernel_rfl
set_option maxHeartbeats 8000000 in
set_option maxRecDepth 100000 in
theorem laws_FnExactPackByRatio.calls (k : Nat) (A0 : Option Addr) (c0 : Nat) (l0 : List (S51)) (a1_0 : Int) (a1_1 : Int) (r : Bool) (w : World) (hr0 : Kd.C k51 w A0 l0.length l0) (hc0 : l0.length ≤ c0) (h : laws_FnExactPackByRatio.f k l0 a1_0 a1_1 = some r) :
    Calls Try.prog 10 #[.slice A0 l0.length c0, .agg #[.int .i64 a1_0, .int .i64 a1_1]] w fun e w' => e = .returned (.bool r) ∧ Below w.heap.size w w' := by
  have hu24 := Try.underlying24
  have HR0 := Aside0.mk hr0
  have HC0 := Aside0.mk hc0
  clear hr0 hc0
  have HB := Aside0.mk (Below.refl w.heap.size w)
  have H : ((laws_szItemS.f l0 1048576).bind fun t662 => (if t662 < 0 then (some true) else ((laws_toItemS.f k l0).bind fun t663 => ((laws_toCase.f a1_0 a1_1).bind fun bt666 => ((spec_PackByRatio.f k t663 bt666.1 bt666.2).bind fun bt668 => ((laws_toItemS.f k l0).bind fun t672 => ((laws_toCase.f a1_0 a1_1).bind fun bt675 => ((impl_PackByRatio.f t672 bt675.1 bt675.2).bind fun bt677 => ((laws_eqIntS.f k bt677.1 bt668.1).bind fun t681 => (if t681 = true then (laws_FnExactPackByRatio.j0 k l0 bt668.1 bt668.2 t672 bt677.1 bt677.2 (bt677.2 != bt668.2) a1_0 a1_1) else (laws_FnExactPackByRatio.j0 k l0 bt668.1 bt668.2 t672 bt677.1 bt677.2 true a1_0 a1_1))))))))))) = some r := h
  clear h
  replace H := Option.bind_eq_some_iff.mp H
  obtain ⟨t662, A30, H⟩ := H
  replace H : (if t662 < 0 then (some true) else ((laws_toItemS.f k l0).bind fun t663 => ((laws_toCase.f a1_0 a1_1).bind fun bt666 => ((spec_PackByRatio.f k t663 bt666.1 bt666.2).bind fun bt668 => ((laws_toItemS.f k l0).bind fun t672 => ((laws_toCase.f a1_0 a1_1).bind fun bt675 => ((impl_PackByRatio.f t672 bt675.1 bt675.2).bind fun bt677 => ((laws_eqIntS.f k bt677.1 bt668.1).bind fun t681 => (if t681 = true then (laws_FnExactPackByRatio.j0 k l0 bt668.1 bt668.2 t672 bt677.1 bt677.2 (bt677.2 != bt668.2) a1_0 a1_1) else (laws_FnExactPackByRatio.j0 k l0 bt668.1 bt668.2 t672 bt677.1 bt677.2 true a1_0 a1_1)))))))))) = some r := H
  have A3 := Aside0.mk A30
  clear A30
  by_cases c4 : t662 < 0
  · rw [if_pos c4] at H
    have c4b0 : decide (t662 < 0) = true := decide_eq_true c4
    clear c4
    obtain rfl := Option.some.inj H
    go_enter Try.func10, Try.ntmps10
    go_wp2_with (first | ((with_reducible refine gate_dst (N := 3) rfl ?_); refine box_event ?hg (N := 3) ?hd (cs := #[.int .i64 a1_0, .int .i64 a1_1]) (t := 24) ?hr ?_; (case hd => rfl); (case hg => rfl); (case hr => first | (go_simp; done) | (go_simp; rfl)); intro gb661 hg w5 hbox hb; have n0_ := Aside0.mk (below_step (by repeat (first | (with_reducible first | exact HB.out | apply below_alloc | apply pw_below_drewN | apply below_drew1) | exact HB.out)) hb); have n1_ := Aside0.mk (hbox); have n2_ := Aside0.mk ((by rw [hg]; exact (below_size (by repeat (first | (with_reducible first | exact HB.out | apply below_alloc | apply pw_below_drewN | apply below_drew1) | exact HB.out))) : w.heap.size ≤ gb661)); have n3_ := Aside0.mk ((by rw [hg]; exact (below_size (by repeat (first | (with_reducible first | exact HB.out | apply below_alloc | apply pw_below_drewN | apply below_drew1) | exact HB.out))) : w.heap.size ≤ gb661)); clear HB; have HB := n0_; have BK661 := n1_; have GW661 := n2_; have GE661 := n3_; clear n0_ n1_ n2_ n3_; clear hb hbox hg) | ((with_reducible refine gate_callee (f := 11) rfl ?_); refine goesL_ (some 18) rfl rfl Try.func11 (by kernel_rfl) rfl #[.slice A0 l0.length c0, .int .i64 1048576] rfl (by (try simp only [List.map_toArray, List.map_cons, List.map_nil]); first | done | rfl | (simp only [List.length_drop, List.length_take]; rfl)) ?_; (with_reducible refine (laws_szItemS.calls _ _ l0 1048576 t662 _ ?side1 ?side2 A3.out).mono ?_); (case side1 => repeat (first | exact (Kd.C_below HR0.out HB.out) | (with_reducible refine Kd.C_alloc ?_ _) | (with_reducible refine Kd.C_drewN ?_ _) | (with_reducible refine Kd.C_drew ?_))); (case side2 => exact HC0.out); rintro e w' ⟨rfl, ⟨nd, rfl⟩⟩; refine ⟨_, rfl, ?_⟩))
    go_ret
    exact ⟨by first | rfl | (simp [errW_none, errW_some] <;> rfl) | (simp [*, errW_none, errW_some] <;> rfl), by repeat (first | (with_reducible first | exact HB.out | apply below_alloc | apply pw_below_drewN | apply below_drew1 | refine below_set ?_ GE661.out) | exact HB.out)⟩
  · rw [if_neg c4] at H
    have c4b0 : decide (t662 < 0) = false := decide_eq_false c4
    clear c4
    replace H := Option.bind_eq_some_iff.mp H
    obtain ⟨t663, A60, H⟩ := H
    replace H : ((laws_toCase.f a1_0 a1_1).bind fun bt666 => ((spec_PackByRatio.f k t663 bt666.1 bt666.2).bind fun bt668 => ((laws_toItemS.f k l0).bind fun t672 => ((laws_toCase.f a1_0 a1_1).bind fun bt675 => ((impl_PackByRatio.f t672 bt675.1 bt675.2).bind fun bt677 => ((laws_eqIntS.f k bt677.1 bt668.1).bind fun t681 => (if t681 = true then (laws_FnExactPackByRatio.j0 k l0 bt668.1 bt668.2 t672 bt677.1 bt677.2 (bt677.2 != bt668.2) a1_0 a1_1) else (laws_FnExactPackByRatio.j0 k l0 bt668.1 bt668.2 t672 bt677.1 bt677.2 true a1_0 a1_1)))))))) = some r := H
    have A6 := Aside0.mk A60
    clear A60
    replace H := Option.bind_eq_some_iff.mp H
    obtain ⟨⟨t666, t667⟩, A70, H⟩ := H
    replace H : ((spec_PackByRatio.f k t663 t666 t667).bind fun bt668 => ((laws_toItemS.f k l0).bind fun t672 => ((laws_toCase.f a1_0 a1_1).bind fun bt675 => ((impl_PackByRatio.f t672 bt675.1 bt675.2).bind fun bt677 => ((laws_eqIntS.f k bt677.1 bt668.1).bind fun t681 => (if t681 = true then (laws_FnExactPackByRatio.j0 k l0 bt668.1 bt668.2 t672 bt677.1 bt677.2 (bt677.2 != bt668.2) a1_0 a1_1) else (laws_FnExactPackByRatio.j0 k l0 bt668.1 bt668.2 t672 bt677.1 bt677.2 true a1_0 a1_1))))))) = some r := H
    have A7 := Aside0.mk A70
    clear A70
    replace H := Option.bind_eq_some_iff.mp H
    obtain ⟨⟨t668, t671⟩, A80, H⟩ := H
    replace H : ((laws_toItemS.f k l0).bind fun t672 => ((laws_toCase.f a1_0 a1_1).bind fun bt675 => ((impl_PackByRatio.f t672 bt675.1 bt675.2).bind fun bt677 => ((laws_eqIntS.f k bt677.1 t668).bind fun t681 => (if t681 = true then (laws_FnExactPackByRatio.j0 k l0 t668 t671 t672 bt677.1 bt677.2 (bt677.2 != t671) a1_0 a1_1) else (laws_FnExactPackByRatio.j0 k l0 t668 t671 t672 bt677.1 bt677.2 true a1_0 a1_1)))))) = some r := H
    have A8 := Aside0.mk A80
    clear A80
    replace H := Option.bind_eq_some_iff.mp H
    obtain ⟨t672, A90, H⟩ := H
    replace H : ((laws_toCase.f a1_0 a1_1).bind fun bt675 => ((impl_PackByRatio.f t672 bt675.1 bt675.2).bind fun bt677 => ((laws_eqIntS.f k bt677.1 t668).bind fun t681 => (if t681 = true then (laws_FnExactPackByRatio.j0 k l0 t668 t671 t672 bt677.1 bt677.2 (bt677.2 != t671) a1_0 a1_1) else (laws_FnExactPackByRatio.j0 k l0 t668 t671 t672 bt677.1 bt677.2 true a1_0 a1_1))))) = some r := H
    have A9 := Aside0.mk A90
    clear A90
    replace H := Option.bind_eq_some_iff.mp H
    obtain ⟨⟨t675, t676⟩, A100, H⟩ := H
    replace H : ((impl_PackByRatio.f t672 t675 t676).bind fun bt677 => ((laws_eqIntS.f k bt677.1 t668).bind fun t681 => (if t681 = true then (laws_FnExactPackByRatio.j0 k l0 t668 t671 t672 bt677.1 bt677.2 (bt677.2 != t671) a1_0 a1_1) else (laws_FnExactPackByRatio.j0 k l0 t668 t671 t672 bt677.1 bt677.2 true a1_0 a1_1)))) = some r := H
    have A10 := Aside0.mk A100
    clear A100
    replace H := Option.bind_eq_some_iff.mp H
    obtain ⟨⟨t677, t680⟩, A110, H⟩ := H
    replace H : ((laws_eqIntS.f k t677 t668).bind fun t681 => (if t681 = true then (laws_FnExactPackByRatio.j0 k l0 t668 t671 t672 t677 t680 (t680 != t671) a1_0 a1_1) else (laws_FnExactPackByRatio.j0 k l0 t668 t671 t672 t677 t680 true a1_0 a1_1))) = some r := H
    have A11 := Aside0.mk A110
    clear A110
    have HC12 := Aside0.mk H
    clear H
    go_enter Try.func10, Try.ntmps10
    try go_wp2_with (first | ((with_reducible refine gate_dst (N := 3) rfl ?_); refine box_event ?hg (N := 3) ?hd (cs := #[.int .i64 a1_0, .int .i64 a1_1]) (t := 24) ?hr ?_; (case hd => rfl); (case hg => rfl); (case hr => first | (go_simp; done) | (go_simp; rfl)); intro gb661 hg w13 hbox hb; have n0_ := Aside0.mk (below_step (by repeat (first | (with_reducible first | exact HB.out | apply below_alloc | apply pw_below_drewN | apply below_drew1) | exact HB.out)) hb); have n1_ := Aside0.mk (hbox); have n2_ := Aside0.mk ((by rw [hg]; exact (below_size (by repeat (first | (with_reducible first | exact HB.out | apply below_alloc | apply pw_below_drewN | apply below_drew1) | exact HB.out))) : w.heap.size ≤ gb661)); have n3_ := Aside0.mk ((by rw [hg]; exact (below_size (by repeat (first | (with_reducible first | exact HB.out | apply below_alloc | apply pw_below_drewN | apply below_drew1) | exact HB.out))) : w.heap.size ≤ gb661)); clear HB; have HB := n0_; have BK661 := n1_; have GW661 := n2_; have GE661 := n3_; clear n0_ n1_ n2_ n3_; clear hb hbox hg) | ((with_reducible refine gate_callee (f := 11) rfl ?_); refine goesL_ (some 18) rfl rfl Try.func11 (by kernel_rfl) rfl #[.slice A0 l0.length c0, .int .i64 1048576] rfl (by (try simp only [List.map_toArray, List.map_cons, List.map_nil]); first | done | rfl | (simp only [List.length_drop, List.length_take]; rfl)) ?_; (with_reducible refine (laws_szItemS.calls _ _ l0 1048576 t662 _ ?side1 ?side2 A3.out).mono ?_); (case side1 => repeat (first | exact (Kd.C_below HR0.out HB.out) | (with_reducible refine Kd.C_alloc ?_ _) | (with_reducible refine Kd.C_drewN ?_ _) | (with_reducible refine Kd.C_drew ?_))); (case side2 => exact HC0.out); rintro e w' ⟨rfl, ⟨nd, rfl⟩⟩; refine ⟨_, rfl, ?_⟩))
    (try (rw [drewN_self w13]; generalize hq_ : World.drewN w13 _ = w13; have n0_ : Aside0 (w13.heap[gb661]? = some (.cells #[.int .i64 a1_0, .int .i64 a1_1] 24 (0, 0))) := ⟨by rw [← hq_]; exact (by (with_reducible repeat (first | refine blk_drewN ?_ _ | refine blk_drew ?_ | refine blk_alloc ?_ _)); exact BK661.out)⟩; have n1_ : Aside0 (Below w.heap.size w w13) := ⟨by rw [← hq_]; exact (by repeat (first | (with_reducible first | exact HB.out | apply below_alloc | apply pw_below_drewN | apply below_drew1 | refine below_set ?_ GE661.out) | exact HB.out))⟩; clear BK661 HB hq_; have BK661 := n0_; have HB := n1_; clear n0_ n1_))
    have n0_ := Aside0.mk (blk_drew BK661.out)
    have n1_ := Aside0.mk (below_drew1 HB.out)
    clear BK661
    clear HB
    have BK661 := n0_
    have HB := n1_
    clear n0_ n1_
    refine start_ (n := 10) (S := fun w' => w'.cell? ⟨gb661, 0, none⟩ = some (.int .i64 a1_0) ∧ w'.cell? ⟨gb661, 1, none⟩ = some (.int .i64 a1_1)) (ds := []) #[false, false, false, false, false, false, false, false, false, false] (by kernel_rfl) rfl rfl ⟨(blk_cell BK661.out 0).trans rfl, (blk_cell BK661.out 1).trans rfl⟩ (fun hHeld => ?_); refine with_tabW laws_FnExactPackByRatio.tab5 laws_FnExactPackByRatio.bits5 (fun HT_ HW_ => ?_)
    generalize w13.drew = w14 at BK661 HB hHeld ⊢
    refine pure_ (i := 0) (N := some 22) (v := ?_) (a' := ?_) #[true, false, false, false, false, false, false, false, false, false] rfl rfl (any_of HT_.out (by kernel_rfl)) (fun _ _ _ h => h) (Or.inl ⟨by rfl, ?_⟩) ?_ ?_
    rotate_left
    · intro w'
      go_simp
      with_reducible rfl
    rotate_left
    · simp only [Act.put, List.setIfInBounds_toArray, List.set_cons_zero, List.set_cons_succ, i64_w, i32_w]
      rfl
    refine take_ (i := 2) (N := some 24) (v := ?_) (a' := ?_) #[true, false, true, false, false, false, false, false, false, false] rfl rfl (take_ofW HT_.out HW_.out (by kernel_rfl)) (fun _ _ _ h => h) (Or.inl ⟨by rfl, ?_⟩) hHeld ?_ ?_
    rotate_left
    · rintro w' ⟨s0, s1⟩
      go_simp
      with_reducible rfl
    rotate_left
    · simp only [Act.put, List.setIfInBounds_toArray, List.set_cons_zero, List.set_cons_succ, i64_w, i32_w]
      rfl
    refine one_ (i := 1) (N := some 23) #[true, true, true, false, false, false, false, false, false, false] rfl rfl (one_of HT_.out (by kernel_rfl)) (by decide) (fun K hK => ?_)
    refine goes_ Try.func13 (by kernel_rfl) rfl #[.slice A0 l0.length c0] (by rfl) rfl rfl (by (try simp only [List.map_toArray, List.map_cons, List.map_nil]); first | done | rfl | (simp only [List.length_drop, List.length_take]; rfl)) ?_
    with_reducible refine (laws_toItemS.calls k _ _ l0 t663 _ ?side1 ?side2 A6.out).mono ?_
    (case side1 => repeat (first | exact (Kd.C_below HR0.out HB.out) | (with_reducible refine Kd.C_alloc ?_ _) | (with_reducible refine Kd.C_drewN ?_ _) | (with_reducible refine Kd.C_drew ?_)))
    (case side2 => exact HC0.out)
    rintro e w15 ⟨v664, rfl, ho0, hb⟩
    refine ⟨_, rfl, ?_⟩
    have n0_ := Aside0.mk (Kd.R_lower ho0 (below_size (by repeat (first | (with_reducible first | exact HB.out | apply below_alloc | apply pw_below_drewN | apply below_drew1 | refine below_set ?_ GE661.out) | exact HB.out))))
    have n1_ := Aside0.mk (blk_below (g := gb661) (o := .cells #[.int .i64 a1_0, .int .i64 a1_1] 24 (0, 0)) (by (with_reducible repeat (first | refine blk_drewN ?_ _ | refine blk_drew ?_ | refine blk_alloc ?_ _)); exact BK661.out) hb)
    have n2_ := Aside0.mk (below_step (by repeat (first | (with_reducible first | exact HB.out | apply below_alloc | apply pw_below_drewN | apply below_drew1 | refine below_set ?_ GE661.out) | exact HB.out)) hb)
    clear BK661
    clear HB
    have HO665 := n0_
    have BK661 := n1_
    have HB := n2_
    clear n0_ n1_ n2_
    (try clear hb)
    (try clear hb2)
    (try clear hk)
    (try clear hi)
    (try clear ho0)
    refine hK.out _ _ ⟨(blk_cell BK661.out 0).trans rfl, (blk_cell BK661.out 1).trans rfl⟩ (fun hHeld => ?_)
    clear hK K
    refine norm_ (a' := ?_) ?_ ?_
    rotate_left
    · show Act.put _ (some 23) _ = _
      simp only [Act.put, List.setIfInBounds_toArray, List.set_cons_zero, List.set_cons_succ, i64_w, i32_w]
      rfl
    refine one_ (i := 3) (N := some 25) #[true, true, true, true, false, false, false, false, false, false] rfl rfl (one_of HT_.out (by kernel_rfl)) (by decide) (fun K hK => ?_)
    refine goes_ Try.func14 (by kernel_rfl) rfl #[.agg #[.int .i64 a1_0, .int .i64 a1_1]] (by rfl) rfl rfl (by (try simp only [List.map_toArray, List.map_cons, List.map_nil]); first | done | rfl | (simp only [List.length_drop, List.length_take]; rfl)) ?_
    with_reducible refine (laws_toCase.calls a1_0 a1_1 t666 t667 _ A7.out).mono ?_
    rintro e w16 ⟨rfl, hb⟩
    refine ⟨_, rfl, ?_⟩
    have n0_ := Aside0.mk (Kd.R_below (by (with_reducible repeat (first | apply Kd.R_alloc | apply Kd.R_drewN | apply Kd.R_drew)); exact HO665.out) hb)
    have n1_ := Aside0.mk (blk_below (g := gb661) (o := .cells #[.int .i64 a1_0, .int .i64 a1_1] 24 (0, 0)) (by (with_reducible repeat (first | refine blk_drewN ?_ _ | refine blk_drew ?_ | refine blk_alloc ?_ _)); exact BK661.out) hb)
    have n2_ := Aside0.mk (below_step (by repeat (first | (with_reducible first | exact HB.out | apply below_alloc | apply pw_below_drewN | apply below_drew1 | refine below_set ?_ GE661.out) | exact HB.out)) hb)
    clear HO665
    clear BK661
    clear HB
    have HO665 := n0_
    have BK661 := n1_
    have HB := n2_
    clear n0_ n1_ n2_
    (try clear hb)
    (try clear hb2)
    (try clear hk)
    (try clear hi)
    obtain ⟨Ao17, co17, eo17⟩ := Kd.R_slice HO665.out
    (first | subst eo17 | (injection eo17 with f1_ f2_ f3_; have f4_ := f1_.symm; have f5_ := f3_.symm; clear f1_ f2_ f3_; subst f4_; subst f5_))
    refine hK.out _ _ ⟨(blk_cell BK661.out 0).trans rfl, (blk_cell BK661.out 1).trans rfl⟩ (fun hHeld => ?_)
    clear hK K
    refine norm_ (a' := ?_) ?_ ?_
    rotate_left
    · show Act.put _ (some 25) _ = _
      simp only [Act.put, List.setIfInBounds_toArray, List.set_cons_zero, List.set_cons_succ, i64_w, i32_w]
      rfl
    refine one_ (i := 4) (N := some 26) #[true, true, true, true, true, false, false, false, false, false] rfl rfl (one_of HT_.out (by kernel_rfl)) (by decide) (fun K hK => ?_)
    refine goes_ Try.func34 (by kernel_rfl) rfl #[.slice Ao17 t663.length co17, .agg #[.int .i64 t666, .int .i64 t667]] (by rfl) rfl rfl (by (try simp only [List.map_toArray, List.map_cons, List.map_nil]); first | done | rfl | (simp only [List.length_drop, List.length_take]; rfl)) ?_
    with_reducible refine (spec_PackByRatio.calls k _ _ t663 t666 t667 t668 t671 _ ?side1 ?side2 A8.out).mono ?_
    (case side1 => repeat (first | exact (Kd.R_reads' HO665.out).2.2 | (with_reducible refine Kd.C_alloc ?_ _) | (with_reducible refine Kd.C_drewN ?_ _) | (with_reducible refine Kd.C_drew ?_)))
    (case side2 => exact (Kd.R_reads' HO665.out).2.1)
    rintro e w18 ⟨v669, rfl, ho0, hb⟩
    refine ⟨_, rfl, ?_⟩
    have n0_ := Aside0.mk (Kd.R_below (by (with_reducible repeat (first | apply Kd.R_alloc | apply Kd.R_drewN | apply Kd.R_drew)); exact HO665.out) hb)
    have n1_ := Aside0.mk (Kd.R_lower ho0 (below_size (by repeat (first | (with_reducible first | exact HB.out | apply below_alloc | apply pw_below_drewN | apply below_drew1 | refine below_set ?_ GE661.out) | exact HB.out))))
    have n2_ := Aside0.mk (blk_below (g := gb661) (o := .cells #[.int .i64 a1_0, .int .i64 a1_1] 24 (0, 0)) (by (with_reducible repeat (first | refine blk_drewN ?_ _ | refine blk_drew ?_ | refine blk_alloc ?_ _)); exact BK661.out) hb)
    have n3_ := Aside0.mk (below_step (by repeat (first | (with_reducible first | exact HB.out | apply below_alloc | apply pw_below_drewN | apply below_drew1 | refine below_set ?_ GE661.out) | exact HB.out)) hb)
    clear HO665
    clear BK661
    clear HB
    have HO665 := n0_
    have HO670 := n1_
    have BK661 := n2_
    have HB := n3_
    clear n0_ n1_ n2_ n3_
    (try clear hb)
    (try clear hb2)
    (try clear hk)
    (try clear hi)
    (try clear ho0)
    refine hK.out _ _ ⟨(blk_cell BK661.out 0).trans rfl, (blk_cell BK661.out 1).trans rfl⟩ (fun hHeld => ?_)
    clear hK K
    refine norm_ (a' := ?_) ?_ ?_
    rotate_left
    · show Act.put _ (some 26) _ = _
      simp only [Act.put, List.setIfInBounds_toArray, List.set_cons_zero, List.set_cons_succ, i64_w, i32_w]
      rfl
    refine pure_ (i := 5) (N := some 21) (v := ?_) (a' := ?_) #[true, true, true, true, true, true, false, false, false, false] rfl rfl (any_of HT_.out (by kernel_rfl)) (fun _ _ _ h => h) (Or.inl ⟨by rfl, ?_⟩) ?_ ?_
    rotate_left
    · intro w'
      go_simp
      with_reducible rfl
    rotate_left
    · simp only [Act.put, List.setIfInBounds_toArray, List.set_cons_zero, List.set_cons_succ, i64_w, i32_w]
      rfl
    refine pure_ (i := 6) (N := some 27) (v := ?_) (a' := ?_) #[true, true, true, true, true, true, true, false, false, false] rfl rfl (any_of HT_.out (by kernel_rfl)) (fun _ _ _ h => h) (Or.inl ⟨by rfl, ?_⟩) ?_ ?_
    rotate_left
    · intro w'
      go_simp
      with_reducible rfl
    rotate_left
    · simp only [Act.put, List.setIfInBounds_toArray, List.set_cons_zero, List.set_cons_succ, i64_w, i32_w]
      rfl
    refine pure_ (i := 7) (N := some 28) (v := ?_) (a' := ?_) #[true, true, true, true, true, true, true, true, false, false] rfl rfl (any_of HT_.out (by kernel_rfl)) (fun _ _ _ h => h) (Or.inl ⟨by rfl, ?_⟩) ?_ ?_
    rotate_left
    · intro w'
      go_simp
      with_reducible rfl
    rotate_left
    · simp only [Act.put, List.setIfInBounds_toArray, List.set_cons_zero, List.set_cons_succ, i64_w, i32_w]
      rfl
    refine pure_ (i := 8) (N := some 6) (v := ?_) (a' := ?_) #[true, true, true, true, true, true, true, true, true, false] rfl rfl (any_of HT_.out (by kernel_rfl)) (fun _ _ _ h => h) (Or.inl ⟨by rfl, ?_⟩) ?_ ?_
    rotate_left
    · intro w'
      go_simp
      with_reducible rfl
    rotate_left
    · simp only [Act.put, List.setIfInBounds_toArray, List.set_cons_zero, List.set_cons_succ, i64_w, i32_w]
      rfl
    refine pure_ (i := 9) (N := some 7) (v := ?_) (a' := ?_) #[true, true, true, true, true, true, true, true, true, true] rfl rfl (any_of HT_.out (by kernel_rfl)) (fun _ _ _ h => h) (Or.inl ⟨by rfl, ?_⟩) ?_ ?_
    rotate_left
    · intro w'
      go_simp
      with_reducible rfl
    rotate_left
    · simp only [Act.put, List.setIfInBounds_toArray, List.set_cons_zero, List.set_cons_succ, i64_w, i32_w]
      rfl
    refine done_ (done_of HT_.out (by kernel_rfl)) ?_
    go_upto_region 8 with (first | ((with_reducible refine gate_callee (f := 13) rfl ?_); refine goesL_ (some 30) rfl rfl Try.func13 (by kernel_rfl) rfl #[.slice A0 l0.length c0] rfl (by (try simp only [List.map_toArray, List.map_cons, List.map_nil]); first | done | rfl | (simp only [List.length_drop, List.length_take]; rfl)) ?_; (with_reducible refine (laws_toItemS.calls k _ _ l0 t672 _ ?side1 ?side2 A9.out).mono ?_); (case side1 => repeat (first | exact (Kd.C_below HR0.out HB.out) | (with_reducible refine Kd.C_alloc ?_ _) | (with_reducible refine Kd.C_drewN ?_ _) | (with_reducible refine Kd.C_drew ?_))); (case side2 => exact HC0.out); rintro e w19 ⟨v673, rfl, ho0, hb⟩; refine ⟨_, rfl, ?_⟩; have n0_ := Aside0.mk (Kd.R_elder' (by (with_reducible repeat (first | apply Kd.R_alloc | apply Kd.R_drewN | apply Kd.R_drew)); exact HO665.out) (Kd.R_base ho0) hb); have n1_ := Aside0.mk (Kd.R_below (by (with_reducible repeat (first | apply Kd.R_alloc | apply Kd.R_drewN | apply Kd.R_drew)); exact HO670.out) hb); have n2_ := Aside0.mk (Kd.R_lower (Kd.R_new' ho0 (Kd.R_lt (by (with_reducible repeat (first | apply Kd.R_alloc | apply Kd.R_drewN | apply Kd.R_drew)); exact HO665.out))) (below_size (by repeat (first | (with_reducible first | exact HB.out | apply below_alloc | apply pw_below_drewN | apply below_drew1 | refine below_set ?_ GE661.out) | exact HB.out)))); have n3_ := Aside0.mk (blk_below (g := gb661) (o := .cells #[.int .i64 a1_0, .int .i64 a1_1] 24 (0, 0)) (by (with_reducible repeat (first | refine blk_drewN ?_ _ | refine blk_drew ?_ | refine blk_alloc ?_ _)); exact BK661.out) hb); have n4_ := Aside0.mk (below_step (by repeat (first | (with_reducible first | exact HB.out | apply below_alloc | apply pw_below_drewN | apply below_drew1 | refine below_set ?_ GE661.out) | exact HB.out)) hb); clear HO665; clear HO670; clear BK661; clear HB; have HO665 := n0_; have HO670 := n1_; have HO674 := n2_; have BK661 := n3_; have HB := n4_; clear n0_ n1_ n2_ n3_ n4_; (try clear hb); (try clear hb2); (try clear hk); (try clear hi); (try clear ho0); have hcz20_0 : w19.cell? ⟨gb661, 0, none⟩ = some (.int .i64 a1_0) := (blk_cell BK661.out 0).trans rfl; have hcz20_1 : w19.cell? ⟨gb661, 1, none⟩ = some (.int .i64 a1_1) := (blk_cell BK661.out 1).trans rfl; have hfz20_0 := blk_frozen BK661.out 0; have hfz20_1 := blk_frozen BK661.out 1) | ((with_reducible refine gate_callee (f := 14) rfl ?_); refine goesL_ (some 34) rfl rfl Try.func14 (by kernel_rfl) rfl #[.agg #[.int .i64 a1_0, .int .i64 a1_1]] rfl (by (try simp only [List.map_toArray, List.map_cons, List.map_nil]); first | done | rfl | (simp only [List.length_drop, List.length_take]; rfl)) ?_; (with_reducible refine (laws_toCase.calls a1_0 a1_1 t675 t676 _ A10.out).mono ?_); rintro e w21 ⟨rfl, hb⟩; refine ⟨_, rfl, ?_⟩; have n0_ := Aside0.mk (Kd.R_below (by (with_reducible repeat (first | apply Kd.R_alloc | apply Kd.R_drewN | apply Kd.R_drew)); exact HO665.out) hb); have n1_ := Aside0.mk (Kd.R_below (by (with_reducible repeat (first | apply Kd.R_alloc | apply Kd.R_drewN | apply Kd.R_drew)); exact HO670.out) hb); have n2_ := Aside0.mk (Kd.R_below (by (with_reducible repeat (first | apply Kd.R_alloc | apply Kd.R_drewN | apply Kd.R_drew)); exact HO674.out) hb); have n3_ := Aside0.mk (blk_below (g := gb661) (o := .cells #[.int .i64 a1_0, .int .i64 a1_1] 24 (0, 0)) (by (with_reducible repeat (first | refine blk_drewN ?_ _ | refine blk_drew ?_ | refine blk_alloc ?_ _)); exact BK661.out) hb); have n4_ := Aside0.mk (below_step (by repeat (first | (with_reducible first | exact HB.out | apply below_alloc | apply pw_below_drewN | apply below_drew1 | refine below_set ?_ GE661.out) | exact HB.out)) hb); clear HO665; clear HO670; clear HO674; clear BK661; clear HB; have HO665 := n0_; have HO670 := n1_; have HO674 := n2_; have BK661 := n3_; have HB := n4_; clear n0_ n1_ n2_ n3_ n4_; (try clear hb); (try clear hb2); (try clear hk); (try clear hi); obtain ⟨Ao22, co22, eo22⟩ := Kd.R_slice HO674.out; subst eo22) | ((with_reducible refine gate_callee (f := 35) rfl ?_); refine goesL_ (some 35) rfl rfl Try.func35 (by kernel_rfl) rfl #[.slice Ao22 t672.length co22, .agg #[.int .i64 t675, .int .i64 t676]] rfl (by (try simp only [List.map_toArray, List.map_cons, List.map_nil]); first | done | rfl | (simp only [List.length_drop, List.length_take]; rfl)) ?_; (with_reducible refine (impl_PackByRatio.calls _ _ t672 t675 t676 t677 t680 _ ?side1 ?side2 A11.out).mono ?_); (case side1 => repeat (first | exact (Kd.R_reads' HO674.out).2.2 | (with_reducible refine Kd.C_alloc ?_ _) | (with_reducible refine Kd.C_drewN ?_ _) | (with_reducible refine Kd.C_drew ?_))); (case side2 => exact (Kd.R_reads' HO674.out).2.1); rintro e w23 ⟨v678, rfl, ho0, hb⟩; refine ⟨_, rfl, ?_⟩; have n0_ := Aside0.mk (Kd.R_below (by (with_reducible repeat (first | apply Kd.R_alloc | apply Kd.R_drewN | apply Kd.R_drew)); exact HO665.out) hb); have n1_ := Aside0.mk (Kd.R_elder' (by (with_reducible repeat (first | apply Kd.R_alloc | apply Kd.R_drewN | apply Kd.R_drew)); exact HO670.out) (Kd.R_base ho0) hb); have n2_ := Aside0.mk (Kd.R_below (by (with_reducible repeat (first | apply Kd.R_alloc | apply Kd.R_drewN | apply Kd.R_drew)); exact HO674.out) hb); have n3_ := Aside0.mk (Kd.R_lower (Kd.R_new' ho0 (Kd.R_lt (by (with_reducible repeat (first | apply Kd.R_alloc | apply Kd.R_drewN | apply Kd.R_drew)); exact HO670.out))) (below_size (by repeat (first | (with_reducible first | exact HB.out | apply below_alloc | apply pw_below_drewN | apply below_drew1 | refine below_set ?_ GE661.out) | exact HB.out)))); have n4_ := Aside0.mk (blk_below (g := gb661) (o := .cells #[.int .i64 a1_0, .int .i64 a1_1] 24 (0, 0)) (by (with_reducible repeat (first | refine blk_drewN ?_ _ | refine blk_drew ?_ | refine blk_alloc ?_ _)); exact BK661.out) hb); have n5_ := Aside0.mk (below_step (by repeat (first | (with_reducible first | exact HB.out | apply below_alloc | apply pw_below_drewN | apply below_drew1 | refine below_set ?_ GE661.out) | exact HB.out)) hb); clear HO665; clear HO670; clear HO674; clear BK661; clear HB; have HO665 := n0_; have HO670 := n1_; have HO674 := n2_; have HO679 := n3_; have BK661 := n4_; have HB := n5_; clear n0_ n1_ n2_ n3_ n4_ n5_; (try clear hb); (try clear hb2); (try clear hk); (try clear hi); (try clear ho0)))
    (try simp only [Act.put, List.setIfInBounds_toArray, List.set_cons_zero, List.set_cons_succ])
    go_cut [46] (fun v46 wc => ∃ (kq : Nat) (x46_11 : Bool), v46 = .bool x46_11 ∧ Aside0 (laws_FnExactPackByRatio.j0 kq l0 t668 t671 t672 t677 t680 x46_11 a1_0 a1_1 = some r) ∧ Aside0 (kq ≤ k) ∧ Aside0 (Kd.R (Kd.int .i64) 3 wc w.heap.size (fun k_ => some k_ ≠ (v678 : Value).ownBlock) v669 t668) ∧ Aside0 (Kd.R k49 49 wc w.heap.size (fun _ => True) (.slice Ao22 t672.length co22) t672) ∧ Aside0 (Kd.R (Kd.int .i64) 3 wc w.heap.size (fun k_ => some k_ ≠ (v669 : Value).ownBlock) v678 t677) ∧ Aside0 (wc.heap[gb661]? = some (.cells #[.int .i64 a1_0, .int .i64 a1_1] 24 (0, 0))) ∧ Aside0 (Below w.heap.size w wc))
    case first =>
      have H := HC12.out
      clear HC12
      replace H := Option.bind_eq_some_iff.mp H
      obtain ⟨t681, A240, H⟩ := H
      replace H : (if t681 = true then (laws_FnExactPackByRatio.j0 k l0 t668 t671 t672 t677 t680 (t680 != t671) a1_0 a1_1) else (laws_FnExactPackByRatio.j0 k l0 t668 t671 t672 t677 t680 true a1_0 a1_1)) = some r := H
      have A24 := Aside0.mk A240
      clear A240
      by_cases c25 : t681 = true
      · subst c25
        have H1 : (laws_FnExactPackByRatio.j0 k l0 t668 t671 t672 t677 t680 (t680 != t671) a1_0 a1_1) = some r := by rw [if_pos rfl] at H; exact H
        clear H
        have H := H1
        clear H1
        have H' := Aside0.mk H
        clear H
        obtain ⟨Ao26, co26, eo26⟩ := Kd.R_slice HO679.out
        subst eo26
        obtain ⟨Ao27, co27, eo27⟩ := Kd.R_slice HO670.out
        subst eo27
        go_wp2_with (first | ((with_reducible refine gate_callee (f := 21) rfl ?_); refine goesL_ (some 40) rfl rfl Try.func21 (by kernel_rfl) rfl #[.slice Ao26 t677.length co26, .slice Ao27 t668.length co27] rfl (by (try simp only [List.map_toArray, List.map_cons, List.map_nil]); first | done | rfl | (simp only [List.length_drop, List.length_take]; rfl)) ?_; (with_reducible refine (laws_eqIntS.calls k _ _ t677 _ _ t668 true _ ?side1 ?side2 ?side3 ?side4 A24.out).mono ?_); (case side1 => repeat (first | exact (Kd.R_reads' HO679.out).2.2 | (with_reducible refine Kd.C_alloc ?_ _) | (with_reducible refine Kd.C_drewN ?_ _) | (with_reducible refine Kd.C_drew ?_))); (case side2 => exact (Kd.R_reads' HO679.out).2.1); (case side3 => repeat (first | exact (Kd.R_reads' HO670.out).2.2 | (with_reducible refine Kd.C_alloc ?_ _) | (with_reducible refine Kd.C_drewN ?_ _) | (with_reducible refine Kd.C_drew ?_))); (case side4 => exact (Kd.R_reads' HO670.out).2.1); rintro e w' ⟨rfl, ⟨nd, rfl⟩⟩; refine ⟨_, rfl, ?_⟩))
        go_meet
        case rel => exact ⟨_, ((t680 != t671)), (by first | rfl | (simp; done) | (simp [*]; done)), H', ⟨by first | omega | exact Nat.le_refl _⟩, ⟨by (with_reducible repeat (first | apply Kd.R_alloc | apply Kd.R_drewN | apply Kd.R_drew)); exact Kd.R_mono HO670.out (fun _ hk => hk.2)⟩, ⟨by (with_reducible repeat (first | apply Kd.R_alloc | apply Kd.R_drewN | apply Kd.R_drew)); exact Kd.R_mono HO674.out (fun _ hk => trivial)⟩, ⟨by (with_reducible repeat (first | apply Kd.R_alloc | apply Kd.R_drewN | apply Kd.R_drew)); exact Kd.R_mono HO679.out (fun _ hk => hk.2)⟩, ⟨by (with_reducible repeat (first | refine blk_drewN ?_ _ | refine blk_drew ?_ | refine blk_alloc ?_ _)); exact BK661.out⟩, ⟨by repeat (first | (with_reducible first | exact HB.out | apply below_alloc | apply pw_below_drewN | apply below_drew1 | refine below_set ?_ GE661.out) | exact HB.out)⟩⟩
      · replace c25 := Bool.eq_false_iff.mpr c25
        subst c25
        have H1 : (laws_FnExactPackByRatio.j0 k l0 t668 t671 t672 t677 t680 true a1_0 a1_1) = some r := by rw [if_neg (show ¬ (false = true) by decide)] at H; exact H
        clear H
        have H := H1
        clear H1
        have H' := Aside0.mk H
        clear H
        obtain ⟨Ao28, co28, eo28⟩ := Kd.R_slice HO679.out
        subst eo28
        obtain ⟨Ao29, co29, eo29⟩ := Kd.R_slice HO670.out
        subst eo29
        go_wp2_with (first | ((with_reducible refine gate_callee (f := 21) rfl ?_); refine goesL_ (some 40) rfl rfl Try.func21 (by kernel_rfl) rfl #[.slice Ao28 t677.length co28, .slice Ao29 t668.length co29] rfl (by (try simp only [List.map_toArray, List.map_cons, List.map_nil]); first | done | rfl | (simp only [List.length_drop, List.length_take]; rfl)) ?_; (with_reducible refine (laws_eqIntS.calls k _ _ t677 _ _ t668 false _ ?side1 ?side2 ?side3 ?side4 A24.out).mono ?_); (case side1 => repeat (first | exact (Kd.R_reads' HO679.out).2.2 | (with_reducible refine Kd.C_alloc ?_ _) | (with_reducible refine Kd.C_drewN ?_ _) | (with_reducible refine Kd.C_drew ?_))); (case side2 => exact (Kd.R_reads' HO679.out).2.1); (case side3 => repeat (first | exact (Kd.R_reads' HO670.out).2.2 | (with_reducible refine Kd.C_alloc ?_ _) | (with_reducible refine Kd.C_drewN ?_ _) | (with_reducible refine Kd.C_drew ?_))); (case side4 => exact (Kd.R_reads' HO670.out).2.1); rintro e w' ⟨rfl, ⟨nd, rfl⟩⟩; refine ⟨_, rfl, ?_⟩))
        go_meet
        case rel => exact ⟨_, (true), (by first | rfl | (simp; done) | (simp [*]; done)), H', ⟨by first | omega | exact Nat.le_refl _⟩, ⟨by (with_reducible repeat (first | apply Kd.R_alloc | apply Kd.R_drewN | apply Kd.R_drew)); exact Kd.R_mono HO670.out (fun _ hk => hk.2)⟩, ⟨by (with_reducible repeat (first | apply Kd.R_alloc | apply Kd.R_drewN | apply Kd.R_drew)); exact Kd.R_mono HO674.out (fun _ hk => trivial)⟩, ⟨by (with_reducible repeat (first | apply Kd.R_alloc | apply Kd.R_drewN | apply Kd.R_drew)); exact Kd.R_mono HO679.out (fun _ hk => hk.2)⟩, ⟨by (with_reducible repeat (first | refine blk_drewN ?_ _ | refine blk_drew ?_ | refine blk_alloc ?_ _)); exact BK661.out⟩, ⟨by repeat (first | (with_reducible first | exact HB.out | apply below_alloc | apply pw_below_drewN | apply below_drew1 | refine below_set ?_ GE661.out) | exact HB.out)⟩⟩
    case rest =>
      clear HC12
      try clear c1
      try clear c2
      try clear p2
      try clear c3
      try clear c4
      try clear c4b0
      try clear c10
      try clear c11
      try clear c13
      try clear c14
      try clear c21
      try clear c25
      try clear hcz20_0
      try clear hcz20_1
      try clear hfz20_0
      try clear hfz20_1
      obtain ⟨kq, x46_11, rfl, HA, HJ11, HO_6, HO_8, HO_9, BK661, HB⟩ := hcut
      cases kq with
      | zero => exact absurd HA.out (by simp [laws_FnExactPackByRatio.j0])
      | succ kj11 =>
        have H := HA.out
        clear HA
        simp only [laws_FnExactPackByRatio.j0] at H
        by_cases c30 : x46_11 = true
        · subst c30
          have H1 : (some false) = some r := by rw [if_pos rfl] at H; exact H
          clear H
          have H := H1
          clear H1
          obtain rfl := Option.some.inj H
          go_wp2
          go_ret
          exact ⟨by first | rfl | (simp [errW_none, errW_some] <;> rfl) | (simp [*, errW_none, errW_some] <;> rfl), by repeat (first | (with_reducible first | exact HB.out | apply below_alloc | apply pw_below_drewN | apply below_drew1 | refine below_set ?_ GE661.out) | exact HB.out)⟩
        · replace c30 := Bool.eq_false_iff.mpr c30
          subst c30
          have H1 : ((laws_toItemS.f kj11 l0).bind fun t682 => ((laws_eqItemS.f kj11 t672 t682).bind fun t685 => (if t685 = true then ((laws_markItemS.f kj11 t672 1).bind fun bt686 => (if bt686.1 < 0 then (laws_FnExactPackByRatio.j1 kj11 l0 t668 t671 t677 true a1_0 a1_1) else ((laws_eqIntS.f kj11 t677 t668).bind fun t688 => (if t688 = true then (laws_FnExactPackByRatio.j1 kj11 l0 t668 t671 t677 (t680 != t671) a1_0 a1_1) else (laws_FnExactPackByRatio.j1 kj11 l0 t668 t671 t677 true a1_0 a1_1))))) else (some false)))) = some r := by rw [if_neg (show ¬ (false = true) by decide)] at H; exact H
          clear H
          have H := H1
          clear H1
          replace H := Option.bind_eq_some_iff.mp H
          obtain ⟨t682, A310, H⟩ := H
          replace H : ((laws_eqItemS.f kj11 t672 t682).bind fun t685 => (if t685 = true then ((laws_markItemS.f kj11 t672 1).bind fun bt686 => (if bt686.1 < 0 then (laws_FnExactPackByRatio.j1 kj11 l0 t668 t671 t677 true a1_0 a1_1) else ((laws_eqIntS.f kj11 t677 t668).bind fun t688 => (if t688 = true then (laws_FnExactPackByRatio.j1 kj11 l0 t668 t671 t677 (t680 != t671) a1_0 a1_1) else (laws_FnExactPackByRatio.j1 kj11 l0 t668 t671 t677 true a1_0 a1_1))))) else (some false))) = some r := H
          have A31 := Aside0.mk A310
          clear A310
          replace H := Option.bind_eq_some_iff.mp H
          obtain ⟨t685, A320, H⟩ := H
          replace H : (if t685 = true then ((laws_markItemS.f kj11 t672 1).bind fun bt686 => (if bt686.1 < 0 then (laws_FnExactPackByRatio.j1 kj11 l0 t668 t671 t677 true a1_0 a1_1) else ((laws_eqIntS.f kj11 t677 t668).bind fun t688 => (if t688 = true then (laws_FnExactPackByRatio.j1 kj11 l0 t668 t671 t677 (t680 != t671) a1_0 a1_1) else (laws_FnExactPackByRatio.j1 kj11 l0 t668 t671 t677 true a1_0 a1_1))))) else (some false)) = some r := H
          have A32 := Aside0.mk A320
          clear A320
          by_cases c33 : t685 = true
          · subst c33
            have H1 : ((laws_markItemS.f kj11 t672 1).bind fun bt686 => (if bt686.1 < 0 then (laws_FnExactPackByRatio.j1 kj11 l0 t668 t671 t677 true a1_0 a1_1) else ((laws_eqIntS.f kj11 t677 t668).bind fun t688 => (if t688 = true then (laws_FnExactPackByRatio.j1 kj11 l0 t668 t671 t677 (t680 != t671) a1_0 a1_1) else (laws_FnExactPackByRatio.j1 kj11 l0 t668 t671 t677 true a1_0 a1_1))))) = some r := by rw [if_pos rfl] at H; exact H
            clear H
            have H := H1
            clear H1
            replace H := Option.bind_eq_some_iff.mp H
            obtain ⟨⟨t686, t687⟩, A340, H⟩ := H
            replace H : (if t686 < 0 then (laws_FnExactPackByRatio.j1 kj11 l0 t668 t671 t677 true a1_0 a1_1) else ((laws_eqIntS.f kj11 t677 t668).bind fun t688 => (if t688 = true then (laws_FnExactPackByRatio.j1 kj11 l0 t668 t671 t677 (t680 != t671) a1_0 a1_1) else (laws_FnExactPackByRatio.j1 kj11 l0 t668 t671 t677 true a1_0 a1_1)))) = some r := H
            have A34 := Aside0.mk A340
            clear A340
            have HC35 := Aside0.mk H
            clear H
            go_upto_region 14 with (first | ((with_reducible refine gate_callee (f := 13) rfl ?_); refine goesL_ (some 49) rfl rfl Try.func13 (by kernel_rfl) rfl #[.slice A0 l0.length c0] rfl (by (try simp only [List.map_toArray, List.map_cons, List.map_nil]); first | done | rfl | (simp only [List.length_drop, List.length_take]; rfl)) ?_; (with_reducible refine (laws_toItemS.calls kj11 _ _ l0 t682 _ ?side1 ?side2 A31.out).mono ?_); (case side1 => repeat (first | exact (Kd.C_below HR0.out HB.out) | (with_reducible refine Kd.C_alloc ?_ _) | (with_reducible refine Kd.C_drewN ?_ _) | (with_reducible refine Kd.C_drew ?_))); (case side2 => exact HC0.out); rintro e w36 ⟨v683, rfl, ho0, hb⟩; refine ⟨_, rfl, ?_⟩; have n0_ := Aside0.mk (Kd.R_below (by (with_reducible repeat (first | apply Kd.R_alloc | apply Kd.R_drewN | apply Kd.R_drew)); exact HO_6.out) hb); have n1_ := Aside0.mk (Kd.R_elder' (by (with_reducible repeat (first | apply Kd.R_alloc | apply Kd.R_drewN | apply Kd.R_drew)); exact HO_8.out) (Kd.R_base ho0) hb); have n2_ := Aside0.mk (Kd.R_below (by (with_reducible repeat (first | apply Kd.R_alloc | apply Kd.R_drewN | apply Kd.R_drew)); exact HO_9.out) hb); have n3_ := Aside0.mk (Kd.R_lower (Kd.R_new' ho0 (Kd.R_lt (by (with_reducible repeat (first | apply Kd.R_alloc | apply Kd.R_drewN | apply Kd.R_drew)); exact HO_8.out))) (below_size (by repeat (first | (with_reducible first | exact HB.out | apply below_alloc | apply pw_below_drewN | apply below_drew1 | refine below_set ?_ GE661.out) | exact HB.out)))); have n4_ := Aside0.mk (blk_below (g := gb661) (o := .cells #[.int .i64 a1_0, .int .i64 a1_1] 24 (0, 0)) (by (with_reducible repeat (first | refine blk_drewN ?_ _ | refine blk_drew ?_ | refine blk_alloc ?_ _)); exact BK661.out) hb); have n5_ := Aside0.mk (below_step (by repeat (first | (with_reducible first | exact HB.out | apply below_alloc | apply pw_below_drewN | apply below_drew1 | refine below_set ?_ GE661.out) | exact HB.out)) hb); clear HO_6; clear HO_8; clear HO_9; clear BK661; clear HB; have HO_6 := n0_; have HO_8 := n1_; have HO_9 := n2_; have HO684 := n3_; have BK661 := n4_; have HB := n5_; clear n0_ n1_ n2_ n3_ n4_ n5_; (try clear hb); (try clear hb2); (try clear hk); (try clear hi); (try clear ho0); obtain ⟨Ao37, co37, eo37⟩ := Kd.R_slice HO684.out; subst eo37) | ((with_reducible refine gate_callee (f := 16) rfl ?_); refine goesL_ (some 50) rfl rfl Try.func16 (by kernel_rfl) rfl #[.slice Ao22 t672.length co22, .slice Ao37 t682.length co37] rfl (by (try simp only [List.map_toArray, List.map_cons, List.map_nil]); first | done | rfl | (simp only [List.length_drop, List.length_take]; rfl)) ?_; (with_reducible refine (laws_eqItemS.calls kj11 _ _ t672 _ _ t682 true _ ?side1 ?side2 ?side3 ?side4 A32.out).mono ?_); (case side1 => repeat (first | exact (Kd.R_reads' HO_8.out).2.2 | (with_reducible refine Kd.C_alloc ?_ _) | (with_reducible refine Kd.C_drewN ?_ _) | (with_reducible refine Kd.C_drew ?_))); (case side2 => exact (Kd.R_reads' HO_8.out).2.1); (case side3 => repeat (first | exact (Kd.R_reads' HO684.out).2.2 | (with_reducible refine Kd.C_alloc ?_ _) | (with_reducible refine Kd.C_drewN ?_ _) | (with_reducible refine Kd.C_drew ?_))); (case side4 => exact (Kd.R_reads' HO684.out).2.1); rintro e w38 ⟨rfl, hb⟩; refine ⟨_, rfl, ?_⟩; have n0_ := Aside0.mk (Kd.R_below (by (with_reducible repeat (first | apply Kd.R_alloc | apply Kd.R_drewN | apply Kd.R_drew)); exact HO_6.out) hb); have n1_ := Aside0.mk (Kd.R_below (by (with_reducible repeat (first | apply Kd.R_alloc | apply Kd.R_drewN | apply Kd.R_drew)); exact HO_8.out) hb); have n2_ := Aside0.mk (Kd.R_below (by (with_reducible repeat (first | apply Kd.R_alloc | apply Kd.R_drewN | apply Kd.R_drew)); exact HO_9.out) hb); have n3_ := Aside0.mk (Kd.R_below (by (with_reducible repeat (first | apply Kd.R_alloc | apply Kd.R_drewN | apply Kd.R_drew)); exact HO684.out) hb); have n4_ := Aside0.mk (blk_below (g := gb661) (o := .cells #[.int .i64 a1_0, .int .i64 a1_1] 24 (0, 0)) (by (with_reducible repeat (first | refine blk_drewN ?_ _ | refine blk_drew ?_ | refine blk_alloc ?_ _)); exact BK661.out) hb); have n5_ := Aside0.mk (below_step (by repeat (first | (with_reducible first | exact HB.out | apply below_alloc | apply pw_below_drewN | apply below_drew1 | refine below_set ?_ GE661.out) | exact HB.out)) hb); clear HO_6; clear HO_8; clear HO_9; clear HO684; clear BK661; clear HB; have HO_6 := n0_; have HO_8 := n1_; have HO_9 := n2_; have HO684 := n3_; have BK661 := n4_; have HB := n5_; clear n0_ n1_ n2_ n3_ n4_ n5_; (try clear hb); (try clear hb2); (try clear hk); (try clear hi)) | ((with_reducible refine gate_callee (f := 22) rfl ?_); refine goesL_ (some 54) rfl rfl Try.func22 (by kernel_rfl) rfl #[.slice Ao22 t672.length co22, .int .i64 1] rfl (by (try simp only [List.map_toArray, List.map_cons, List.map_nil]); first | done | rfl | (simp only [List.length_drop, List.length_take]; rfl)) ?_; (with_reducible refine (laws_markItemS.calls kj11 (fun k_ => some k_ = (.slice Ao22 t672.length co22 : Value).ownBlock) (.slice Ao22 t672.length co22) t672 1 t686 t687 w _ ?side1 ?side2 A34.out).mono ?_); (case side1 => repeat (first | (with_reducible first | exact HB.out | apply below_alloc | apply pw_below_drewN | apply below_drew1 | refine below_set ?_ GE661.out) | exact HB.out)); (case side2 => exact Kd.R_tight rfl HO_8.out); rintro e w39 ⟨rfl, hy0, hb, hkp⟩; refine ⟨_, rfl, ?_⟩; have n0_ := Aside0.mk (Kd.R_mono (ok' := fun k_ => some k_ ≠ (v678 : Value).ownBlock) (Kd.R_keptB ((Kd.R_apart' HO_6.out (Kd.R_typed HO_8.out) (by decide))) hkp (fun k_ hk_ hs_ => (hk_.2) hs_)) (fun k_ hk_ => hk_.1.1)); have n1_ := Aside0.mk (Kd.R_reok rfl hy0 (fun k_ e_ => HO_8.out.1 k_ e_)); have n2_ := Aside0.mk (Kd.R_mono (ok' := fun k_ => some k_ ≠ (v669 : Value).ownBlock) (Kd.R_keptB ((Kd.R_apart' HO_9.out (Kd.R_typed HO_8.out) (by decide))) hkp (fun k_ hk_ hs_ => (hk_.2) hs_)) (fun k_ hk_ => hk_.1.1)); have n3_ := Aside0.mk (blk_kept (by (with_reducible repeat (first | refine blk_drewN ?_ _ | refine blk_drew ?_ | refine blk_alloc ?_ _)); exact BK661.out) hkp (fun hs_ => (fun e_ => (Kd.R_ne HO_8.out BK661.out (by decide)) e_) hs_)); have n4_ := Aside0.mk (Kd.R_mono (ok' := fun k_ => some k_ ≠ (.slice Ao22 t672.length co22 : Value).ownBlock) (Kd.R_keptB (HO684.out) hkp (fun k_ hk_ hs_ => (hk_.2) hs_)) (fun k_ hk_ => hk_.1.2)); have n5_ := Aside0.mk (hb); clear HO_6; clear HO_8; clear HO_9; clear BK661; clear HO684; clear HB; have HO_6 := n0_; have HO_8 := n1_; have HO_9 := n2_; have BK661 := n3_; have HO684 := n4_; have HB := n5_; clear n0_ n1_ n2_ n3_ n4_ n5_; (try clear hb); (try clear hkp); (try clear hy0)))
            (try simp only [Act.put, List.setIfInBounds_toArray, List.set_cons_zero, List.set_cons_succ])
            go_cut [67] (fun v67 wc => ∃ (kq : Nat) (x67_34 : Bool), v67 = .bool x67_34 ∧ Aside0 (laws_FnExactPackByRatio.j1 kq l0 t668 t671 t677 x67_34 a1_0 a1_1 = some r) ∧ Aside0 (kq ≤ kj11) ∧ Aside0 (Kd.R (Kd.int .i64) 3 wc w.heap.size (fun k_ => some k_ ≠ (v678 : Value).ownBlock) v669 t668) ∧ Aside0 (Kd.R (Kd.int .i64) 3 wc w.heap.size (fun k_ => some k_ ≠ (v669 : Value).ownBlock) v678 t677) ∧ Aside0 (wc.heap[gb661]? = some (.cells #[.int .i64 a1_0, .int .i64 a1_1] 24 (0, 0))) ∧ Aside0 (Below w.heap.size w wc))
            case first =>
              have H := HC35.out
              clear HC35
              by_cases c40 : t686 < 0
              · rw [if_pos c40] at H
                have c40b0 : decide (t686 < 0) = true := decide_eq_true c40
                clear c40
                (first | rw [c40b0] | (simp only [i64_w, i32_w]; rw [c40b0]) | skip)
                have H' := Aside0.mk H
                clear H
                go_wp2
                go_meet
                case rel => exact ⟨_, (true), (by first | rfl | (simp; done) | (simp [*]; done)), H', ⟨by have := HJ11.out; first | omega | exact Nat.le_refl _⟩, ⟨by (with_reducible repeat (first | apply Kd.R_alloc | apply Kd.R_drewN | apply Kd.R_drew)); exact HO_6.out⟩, ⟨by (with_reducible repeat (first | apply Kd.R_alloc | apply Kd.R_drewN | apply Kd.R_drew)); exact HO_9.out⟩, ⟨by (with_reducible repeat (first | refine blk_drewN ?_ _ | refine blk_drew ?_ | refine blk_alloc ?_ _)); exact BK661.out⟩, ⟨by repeat (first | (with_reducible first | exact HB.out | apply below_alloc | apply pw_below_drewN | apply below_drew1 | refine below_set ?_ GE661.out) | exact HB.out)⟩⟩
              · rw [if_neg c40] at H
                have c40b0 : decide (t686 < 0) = false := decide_eq_false c40
                clear c40
                (first | rw [c40b0] | (simp only [i64_w, i32_w]; rw [c40b0]) | skip)
                replace H := Option.bind_eq_some_iff.mp H
                obtain ⟨t688, A410, H⟩ := H
                replace H : (if t688 = true then (laws_FnExactPackByRatio.j1 kj11 l0 t668 t671 t677 (t680 != t671) a1_0 a1_1) else (laws_FnExactPackByRatio.j1 kj11 l0 t668 t671 t677 true a1_0 a1_1)) = some r := H
                have A41 := Aside0.mk A410
                clear A410
                by_cases c42 : t688 = true
                · subst c42
                  have H1 : (laws_FnExactPackByRatio.j1 kj11 l0 t668 t671 t677 (t680 != t671) a1_0 a1_1) = some r := by rw [if_pos rfl] at H; exact H
                  clear H
                  have H := H1
                  clear H1
                  have H' := Aside0.mk H
                  clear H
                  obtain ⟨Ao43, co43, eo43⟩ := Kd.R_slice HO_9.out
                  subst eo43
                  obtain ⟨Ao44, co44, eo44⟩ := Kd.R_slice HO_6.out
                  subst eo44
                  go_wp2_with (first | (go_at_call 21; (with_reducible refine (laws_eqIntS.calls kj11 _ _ t677 _ _ t668 true _ ?side1 ?side2 ?side3 ?side4 A41.out).mono ?_); (case side1 => repeat (first | exact (Kd.R_reads' HO_9.out).2.2 | (with_reducible refine Kd.C_alloc ?_ _) | (with_reducible refine Kd.C_drewN ?_ _) | (with_reducible refine Kd.C_drew ?_))); (case side2 => exact (Kd.R_reads' HO_9.out).2.1); (case side3 => repeat (first | exact (Kd.R_reads' HO_6.out).2.2 | (with_reducible refine Kd.C_alloc ?_ _) | (with_reducible refine Kd.C_drewN ?_ _) | (with_reducible refine Kd.C_drew ?_))); (case side4 => exact (Kd.R_reads' HO_6.out).2.1); rintro e w' ⟨rfl, ⟨nd, rfl⟩⟩))
                  go_meet
                  case rel => exact ⟨_, ((t680 != t671)), (by first | rfl | (simp; done) | (simp [*]; done)), H', ⟨by have := HJ11.out; first | omega | exact Nat.le_refl _⟩, ⟨by (with_reducible repeat (first | apply Kd.R_alloc | apply Kd.R_drewN | apply Kd.R_drew)); exact HO_6.out⟩, ⟨by (with_reducible repeat (first | apply Kd.R_alloc | apply Kd.R_drewN | apply Kd.R_drew)); exact HO_9.out⟩, ⟨by (with_reducible repeat (first | refine blk_drewN ?_ _ | refine blk_drew ?_ | refine blk_alloc ?_ _)); exact BK661.out⟩, ⟨by repeat (first | (with_reducible first | exact HB.out | apply below_alloc | apply pw_below_drewN | apply below_drew1 | refine below_set ?_ GE661.out) | exact HB.out)⟩⟩
                · replace c42 := Bool.eq_false_iff.mpr c42
                  subst c42
                  have H1 : (laws_FnExactPackByRatio.j1 kj11 l0 t668 t671 t677 true a1_0 a1_1) = some r := by rw [if_neg (show ¬ (false = true) by decide)] at H; exact H
                  clear H
                  have H := H1
                  clear H1
                  have H' := Aside0.mk H
                  clear H
                  obtain ⟨Ao45, co45, eo45⟩ := Kd.R_slice HO_9.out
                  subst eo45
                  obtain ⟨Ao46, co46, eo46⟩ := Kd.R_slice HO_6.out
                  subst eo46
                  go_wp2_with (first | (go_at_call 21; (with_reducible refine (laws_eqIntS.calls kj11 _ _ t677 _ _ t668 false _ ?side1 ?side2 ?side3 ?side4 A41.out).mono ?_); (case side1 => repeat (first | exact (Kd.R_reads' HO_9.out).2.2 | (with_reducible refine Kd.C_alloc ?_ _) | (with_reducible refine Kd.C_drewN ?_ _) | (with_reducible refine Kd.C_drew ?_))); (case side2 => exact (Kd.R_reads' HO_9.out).2.1); (case side3 => repeat (first | exact (Kd.R_reads' HO_6.out).2.2 | (with_reducible refine Kd.C_alloc ?_ _) | (with_reducible refine Kd.C_drewN ?_ _) | (with_reducible refine Kd.C_drew ?_))); (case side4 => exact (Kd.R_reads' HO_6.out).2.1); rintro e w' ⟨rfl, ⟨nd, rfl⟩⟩))
                  go_meet
                  case rel => exact ⟨_, (true), (by first | rfl | (simp; done) | (simp [*]; done)), H', ⟨by have := HJ11.out; first | omega | exact Nat.le_refl _⟩, ⟨by (with_reducible repeat (first | apply Kd.R_alloc | apply Kd.R_drewN | apply Kd.R_drew)); exact HO_6.out⟩, ⟨by (with_reducible repeat (first | apply Kd.R_alloc | apply Kd.R_drewN | apply Kd.R_drew)); exact HO_9.out⟩, ⟨by (with_reducible repeat (first | refine blk_drewN ?_ _ | refine blk_drew ?_ | refine blk_alloc ?_ _)); exact BK661.out⟩, ⟨by repeat (first | (with_reducible first | exact HB.out | apply below_alloc | apply pw_below_drewN | apply below_drew1 | refine below_set ?_ GE661.out) | exact HB.out)⟩⟩
            case rest =>
              clear HC35
              try clear c1
              try clear c2
              try clear p2
              try clear c3
              try clear c4
              try clear c4b0
              try clear c10
              try clear c11
              try clear c13
              try clear c14
              try clear c16
              try clear c21
              try clear c22
              try clear c25
              try clear c30
              try clear c33
              try clear c34
              try clear c35
              try clear c40
              try clear c40b0
              try clear c42
              try clear hcz20_0
              try clear hcz20_1
              try clear hfz20_0
              try clear hfz20_1
              try clear p2
              obtain ⟨kq, x67_34, rfl, HA, HJ34, HO_6, HO_9, BK661, HB⟩ := hcut
              cases kq with
              | zero => exact absurd HA.out (by simp [laws_FnExactPackByRatio.j1])
              | succ kj34 =>
                have H := HA.out
                clear HA
                simp only [laws_FnExactPackByRatio.j1] at H
                by_cases c47 : x67_34 = true
                · subst c47
                  have H1 : (some false) = some r := by rw [if_pos rfl] at H; exact H
                  clear H
                  have H := H1
                  clear H1
                  obtain rfl := Option.some.inj H
                  go_wp2
                  go_ret
                  exact ⟨by first | rfl | (simp [errW_none, errW_some] <;> rfl) | (simp [*, errW_none, errW_some] <;> rfl), by repeat (first | (with_reducible first | exact HB.out | apply below_alloc | apply pw_below_drewN | apply below_drew1 | refine below_set ?_ GE661.out) | exact HB.out)⟩
                · replace c47 := Bool.eq_false_iff.mpr c47
                  subst c47
                  have H1 : ((laws_markIntS.f kj34 t677 1).bind fun bt689 => ((laws_heldIntS.f kj34 bt689.2 1).bind fun t691 => (if t691 < 0 then (some false) else (if t691 = bt689.1 then ((laws_toItemS.f kj34 l0).bind fun t692 => ((laws_toCase.f a1_0 a1_1).bind fun bt695 => ((impl_PackByRatio.f t692 bt695.1 bt695.2).bind fun bt697 => ((laws_eqIntS.f kj34 bt697.1 t668).bind fun t701 => (if t701 = true then (laws_FnExactPackByRatio.j2 kj34 bt689.2 bt689.1 (bt697.2 != t671)) else (laws_FnExactPackByRatio.j2 kj34 bt689.2 bt689.1 true)))))) else (some false))))) = some r := by rw [if_neg (show ¬ (false = true) by decide)] at H; exact H
                  clear H
                  have H := H1
                  clear H1
                  replace H := Option.bind_eq_some_iff.mp H
                  obtain ⟨⟨t689, t690⟩, A480, H⟩ := H
                  replace H : ((laws_heldIntS.f kj34 t690 1).bind fun t691 => (if t691 < 0 then (some false) else (if t691 = t689 then ((laws_toItemS.f kj34 l0).bind fun t692 => ((laws_toCase.f a1_0 a1_1).bind fun bt695 => ((impl_PackByRatio.f t692 bt695.1 bt695.2).bind fun bt697 => ((laws_eqIntS.f kj34 bt697.1 t668).bind fun t701 => (if t701 = true then (laws_FnExactPackByRatio.j2 kj34 t690 t689 (bt697.2 != t671)) else (laws_FnExactPackByRatio.j2 kj34 t690 t689 true)))))) else (some false)))) = some r := H
                  have A48 := Aside0.mk A480
                  clear A480
                  replace H := Option.bind_eq_some_iff.mp H
                  obtain ⟨t691, A490, H⟩ := H
                  replace H : (if t691 < 0 then (some false) else (if t691 = t689 then ((laws_toItemS.f kj34 l0).bind fun t692 => ((laws_toCase.f a1_0 a1_1).bind fun bt695 => ((impl_PackByRatio.f t692 bt695.1 bt695.2).bind fun bt697 => ((laws_eqIntS.f kj34 bt697.1 t668).bind fun t701 => (if t701 = true then (laws_FnExactPackByRatio.j2 kj34 t690 t689 (bt697.2 != t671)) else (laws_FnExactPackByRatio.j2 kj34 t690 t689 true)))))) else (some false))) = some r := H
                  have A49 := Aside0.mk A490
                  clear A490
                  by_cases c50 : t691 < 0
                  · rw [if_pos c50] at H
                    have c50b0 : decide (t691 < 0) = true := decide_eq_true c50
                    clear c50
                    obtain rfl := Option.some.inj H
                    obtain ⟨Ao51, co51, eo51⟩ := Kd.R_slice HO_9.out
                    subst eo51
                    go_wp2_with (first | ((with_reducible refine gate_callee (f := 23) rfl ?_); refine goesL_ (some 70) rfl rfl Try.func23 (by kernel_rfl) rfl #[.slice Ao51 t677.length co51, .int .i64 1] rfl (by (try simp only [List.map_toArray, List.map_cons, List.map_nil]); first | done | rfl | (simp only [List.length_drop, List.length_take]; rfl)) ?_; (with_reducible refine (laws_markIntS.calls kj34 (fun k_ => some k_ = (.slice Ao51 t677.length co51 : Value).ownBlock) (.slice Ao51 t677.length co51) t677 1 t689 t690 w _ ?side1 ?side2 A48.out).mono ?_); (case side1 => repeat (first | (with_reducible first | exact HB.out | apply below_alloc | apply pw_below_drewN | apply below_drew1 | refine below_set ?_ GE661.out) | exact HB.out)); (case side2 => exact Kd.R_tight rfl HO_9.out); rintro e w52 ⟨rfl, hy0, hb, hkp⟩; refine ⟨_, rfl, ?_⟩; have n0_ := Aside0.mk (Kd.R_mono (ok' := fun k_ => some k_ ≠ (.slice Ao51 t677.length co51 : Value).ownBlock) (Kd.R_keptB (HO_6.out) hkp (fun k_ hk_ hs_ => (hk_) hs_)) (fun k_ hk_ => hk_.1)); have n1_ := Aside0.mk (Kd.R_reok rfl hy0 (fun k_ e_ => HO_9.out.1 k_ e_)); have n2_ := Aside0.mk (blk_kept (by (with_reducible repeat (first | refine blk_drewN ?_ _ | refine blk_drew ?_ | refine blk_alloc ?_ _)); exact BK661.out) hkp (fun hs_ => (fun e_ => (Kd.R_ne HO_9.out BK661.out (by decide)) e_) hs_)); have n3_ := Aside0.mk (hb); clear HO_6; clear HO_9; clear BK661; clear HB; have HO_6 := n0_; have HO_9 := n1_; have BK661 := n2_; have HB := n3_; clear n0_ n1_ n2_ n3_; (try clear hb); (try clear hkp); (try clear hy0)) | ((with_reducible refine gate_callee (f := 24) rfl ?_); refine goesL_ (some 73) rfl rfl Try.func24 (by kernel_rfl) rfl #[.slice Ao51 t690.length co51, .int .i64 1] rfl (by (try simp only [List.map_toArray, List.map_cons, List.map_nil]); first | done | (rw [show t690.length = t677.length from (Kd.R_reads' HO_9.out).1.symm] <;> rfl) | rfl | (simp only [List.length_drop, List.length_take]; rfl)) ?_; (with_reducible refine (laws_heldIntS.calls kj34 _ _ t690 1 t691 _ ?side1 ?side2 A49.out).mono ?_); (case side1 => repeat (first | exact (Kd.R_reads' HO_9.out).2.2 | (with_reducible refine Kd.C_alloc ?_ _) | (with_reducible refine Kd.C_drewN ?_ _) | (with_reducible refine Kd.C_drew ?_))); (case side2 => rw [show t690.length = t677.length from (Kd.R_reads' HO_9.out).1.symm]; exact (Kd.R_reads' HO_9.out).2.1); rintro e w' ⟨rfl, ⟨nd, rfl⟩⟩; refine ⟨_, rfl, ?_⟩))
                    go_ret
                    exact ⟨by first | rfl | (simp [errW_none, errW_some] <;> rfl) | (simp [*, errW_none, errW_some] <;> rfl), by repeat (first | (with_reducible first | exact HB.out | apply below_alloc | apply pw_below_drewN | apply below_drew1 | refine below_set ?_ GE661.out) | exact HB.out)⟩
                  · rw [if_neg c50] at H
                    have c50b0 : decide (t691 < 0) = false := decide_eq_false c50
                    clear c50
                    by_cases c53 : t691 = t689
                    · rw [if_pos c53] at H
                      have c53b0 : (t691 == t689) = true := beq_iff_eq.mpr c53
                      have c53b1 : (t691 != t689) = false := bne_eq_false_iff_eq.mpr c53
                      clear c53
                      replace H := Option.bind_eq_some_iff.mp H
                      obtain ⟨t692, A540, H⟩ := H
                      replace H : ((laws_toCase.f a1_0 a1_1).bind fun bt695 => ((impl_PackByRatio.f t692 bt695.1 bt695.2).bind fun bt697 => ((laws_eqIntS.f kj34 bt697.1 t668).bind fun t701 => (if t701 = true then (laws_FnExactPackByRatio.j2 kj34 t690 t689 (bt697.2 != t671)) else (laws_FnExactPackByRatio.j2 kj34 t690 t689 true))))) = some r := H
                      have A54 := Aside0.mk A540
                      clear A540
                      replace H := Option.bind_eq_some_iff.mp H
                      obtain ⟨⟨t695, t696⟩, A550, H⟩ := H
                      replace H : ((impl_PackByRatio.f t692 t695 t696).bind fun bt697 => ((laws_eqIntS.f kj34 bt697.1 t668).bind fun t701 => (if t701 = true then (laws_FnExactPackByRatio.j2 kj34 t690 t689 (bt697.2 != t671)) else (laws_FnExactPackByRatio.j2 kj34 t690 t689 true)))) = some r := H
                      have A55 := Aside0.mk A550
                      clear A550
                      replace H := Option.bind_eq_some_iff.mp H
                      obtain ⟨⟨t697, t700⟩, A560, H⟩ := H
                      replace H : ((laws_eqIntS.f kj34 t697 t668).bind fun t701 => (if t701 = true then (laws_FnExactPackByRatio.j2 kj34 t690 t689 (t700 != t671)) else (laws_FnExactPackByRatio.j2 kj34 t690 t689 true))) = some r := H
                      have A56 := Aside0.mk A560
                      clear A560
                      have HC57 := Aside0.mk H
                      clear H
                      obtain ⟨Ao58, co58, eo58⟩ := Kd.R_slice HO_9.out
                      subst eo58
                      try go_wp2_with (first | ((with_reducible refine gate_callee (f := 23) rfl ?_); refine goesL_ (some 70) rfl rfl Try.func23 (by kernel_rfl) rfl #[.slice Ao58 t677.length co58, .int .i64 1] rfl (by (try simp only [List.map_toArray, List.map_cons, List.map_nil]); first | done | rfl | (simp only [List.length_drop, List.length_take]; rfl)) ?_; (with_reducible refine (laws_markIntS.calls kj34 (fun k_ => some k_ = (.slice Ao58 t677.length co58 : Value).ownBlock) (.slice Ao58 t677.length co58) t677 1 t689 t690 w _ ?side1 ?side2 A48.out).mono ?_); (case side1 => repeat (first | (with_reducible first | exact HB.out | apply below_alloc | apply pw_below_drewN | apply below_drew1 | refine below_set ?_ GE661.out) | exact HB.out)); (case side2 => exact Kd.R_tight rfl HO_9.out); rintro e w59 ⟨rfl, hy0, hb, hkp⟩; refine ⟨_, rfl, ?_⟩; have n0_ := Aside0.mk (Kd.R_mono (ok' := fun k_ => some k_ ≠ (.slice Ao58 t677.length co58 : Value).ownBlock) (Kd.R_keptB (HO_6.out) hkp (fun k_ hk_ hs_ => (hk_) hs_)) (fun k_ hk_ => hk_.1)); have n1_ := Aside0.mk (Kd.R_reok rfl hy0 (fun k_ e_ => HO_9.out.1 k_ e_)); have n2_ := Aside0.mk (blk_kept (by (with_reducible repeat (first | refine blk_drewN ?_ _ | refine blk_drew ?_ | refine blk_alloc ?_ _)); exact BK661.out) hkp (fun hs_ => (fun e_ => (Kd.R_ne HO_9.out BK661.out (by decide)) e_) hs_)); have n3_ := Aside0.mk (hb); clear HO_6; clear HO_9; clear BK661; clear HB; have HO_6 := n0_; have HO_9 := n1_; have BK661 := n2_; have HB := n3_; clear n0_ n1_ n2_ n3_; (try clear hb); (try clear hkp); (try clear hy0)) | ((with_reducible refine gate_callee (f := 24) rfl ?_); refine goesL_ (some 73) rfl rfl Try.func24 (by kernel_rfl) rfl #[.slice Ao58 t690.length co58, .int .i64 1] rfl (by (try simp only [List.map_toArray, List.map_cons, List.map_nil]); first | done | (rw [show t690.length = t677.length from (Kd.R_reads' HO_9.out).1.symm] <;> rfl) | rfl | (simp only [List.length_drop, List.length_take]; rfl)) ?_; (with_reducible refine (laws_heldIntS.calls kj34 _ _ t690 1 t691 _ ?side1 ?side2 A49.out).mono ?_); (case side1 => repeat (first | exact (Kd.R_reads' HO_9.out).2.2 | (with_reducible refine Kd.C_alloc ?_ _) | (with_reducible refine Kd.C_drewN ?_ _) | (with_reducible refine Kd.C_drew ?_))); (case side2 => rw [show t690.length = t677.length from (Kd.R_reads' HO_9.out).1.symm]; exact (Kd.R_reads' HO_9.out).2.1); rintro e w' ⟨rfl, ⟨nd, rfl⟩⟩; refine ⟨_, rfl, ?_⟩))
                      (try (rw [drewN_self w59]; generalize hq_ : World.drewN w59 _ = w59; have n0_ : Aside0 (Kd.R (Kd.int .i64) 3 w59 w.heap.size (fun k_ => some k_ ≠ (.slice Ao58 t677.length co58 : Value).ownBlock) v669 t668) := ⟨by rw [← hq_]; exact (by (with_reducible repeat (first | apply Kd.R_alloc | apply Kd.R_drewN | apply Kd.R_drew)); exact HO_6.out)⟩; have n1_ : Aside0 (Kd.R (Kd.int .i64) 3 w59 w.heap.size (fun k_ => some k_ ≠ (v669 : Value).ownBlock) (.slice Ao58 t677.length co58) t690) := ⟨by rw [← hq_]; exact (by (with_reducible repeat (first | apply Kd.R_alloc | apply Kd.R_drewN | apply Kd.R_drew)); exact HO_9.out)⟩; have n2_ : Aside0 (w59.heap[gb661]? = some (.cells #[.int .i64 a1_0, .int .i64 a1_1] 24 (0, 0))) := ⟨by rw [← hq_]; exact (by (with_reducible repeat (first | refine blk_drewN ?_ _ | refine blk_drew ?_ | refine blk_alloc ?_ _)); exact BK661.out)⟩; have n3_ : Aside0 (Below w.heap.size w w59) := ⟨by rw [← hq_]; exact (by repeat (first | (with_reducible first | exact HB.out | apply below_alloc | apply pw_below_drewN | apply below_drew1 | refine below_set ?_ GE661.out) | exact HB.out))⟩; clear HO_6 HO_9 BK661 HB hq_; have HO_6 := n0_; have HO_9 := n1_; have BK661 := n2_; have HB := n3_; clear n0_ n1_ n2_ n3_))
                      have n0_ := Aside0.mk (Kd.R_drew HO_6.out)
                      have n1_ := Aside0.mk (Kd.R_drew HO_9.out)
                      have n2_ := Aside0.mk (blk_drew BK661.out)
                      have n3_ := Aside0.mk (below_drew1 HB.out)
                      clear HO_6
                      clear HO_9
                      clear BK661
                      clear HB
                      have HO_6 := n0_
                      have HO_9 := n1_
                      have BK661 := n2_
                      have HB := n3_
                      clear n0_ n1_ n2_ n3_
                      refine start_ (n := 10) (S := fun w' => w'.cell? ⟨gb661, 0, none⟩ = some (.int .i64 a1_0) ∧ w'.cell? ⟨gb661, 1, none⟩ = some (.int .i64 a1_1)) (ds := []) #[false, false, false, false, false, false, false, false, false, false] (by kernel_rfl) rfl rfl ⟨(blk_cell BK661.out 0).trans rfl, (blk_cell BK661.out 1).trans rfl⟩ (fun hHeld => ?_); refine with_tabW laws_FnExactPackByRatio.tab24 laws_FnExactPackByRatio.bits24 (fun HT_ HW_ => ?_)
                      generalize w59.drew = w60 at HO_6 HO_9 BK661 HB hHeld ⊢
                      refine pure_ (i := 0) (N := some 80) (v := ?_) (a' := ?_) #[true, false, false, false, false, false, false, false, false, false] rfl rfl (any_of HT_.out (by kernel_rfl)) (fun _ _ _ h => h) (Or.inl ⟨by rfl, ?_⟩) ?_ ?_
                      rotate_left
                      · intro w'
                        go_simp
                        with_reducible rfl
                      rotate_left
                      · simp only [Act.put, List.setIfInBounds_toArray, List.set_cons_zero, List.set_cons_succ, i64_w, i32_w]
                        rfl
                      refine take_ (i := 2) (N := some 82) (v := ?_) (a' := ?_) #[true, false, true, false, false, false, false, false, false, false] rfl rfl (take_ofW HT_.out HW_.out (by kernel_rfl)) (fun _ _ _ h => h) (Or.inl ⟨by rfl, ?_⟩) hHeld ?_ ?_
                      rotate_left
                      · rintro w' ⟨s0, s1⟩
                        go_simp
                        with_reducible rfl
                      rotate_left
                      · simp only [Act.put, List.setIfInBounds_toArray, List.set_cons_zero, List.set_cons_succ, i64_w, i32_w]
                        rfl
                      refine one_ (i := 1) (N := some 81) #[true, true, true, false, false, false, false, false, false, false] rfl rfl (one_of HT_.out (by kernel_rfl)) (by decide) (fun K hK => ?_)
                      refine goes_ Try.func13 (by kernel_rfl) rfl #[.slice A0 l0.length c0] (by rfl) rfl rfl (by (try simp only [List.map_toArray, List.map_cons, List.map_nil]); first | done | rfl | (simp only [List.length_drop, List.length_take]; rfl)) ?_
                      with_reducible refine (laws_toItemS.calls kj34 _ _ l0 t692 _ ?side1 ?side2 A54.out).mono ?_
                      (case side1 => repeat (first | exact (Kd.C_below HR0.out HB.out) | (with_reducible refine Kd.C_alloc ?_ _) | (with_reducible refine Kd.C_drewN ?_ _) | (with_reducible refine Kd.C_drew ?_)))
                      (case side2 => exact HC0.out)
                      rintro e w61 ⟨v693, rfl, ho0, hb⟩
                      refine ⟨_, rfl, ?_⟩
                      have n0_ := Aside0.mk (Kd.R_below (by (with_reducible repeat (first | apply Kd.R_alloc | apply Kd.R_drewN | apply Kd.R_drew)); exact HO_6.out) hb)
                      have n1_ := Aside0.mk (Kd.R_below (by (with_reducible repeat (first | apply Kd.R_alloc | apply Kd.R_drewN | apply Kd.R_drew)); exact HO_9.out) hb)
                      have n2_ := Aside0.mk (Kd.R_lower ho0 (below_size (by repeat (first | (with_reducible first | exact HB.out | apply below_alloc | apply pw_below_drewN | apply below_drew1 | refine below_set ?_ GE661.out) | exact HB.out))))
                      have n3_ := Aside0.mk (blk_below (g := gb661) (o := .cells #[.int .i64 a1_0, .int .i64 a1_1] 24 (0, 0)) (by (with_reducible repeat (first | refine blk_drewN ?_ _ | refine blk_drew ?_ | refine blk_alloc ?_ _)); exact BK661.out) hb)
                      have n4_ := Aside0.mk (below_step (by repeat (first | (with_reducible first | exact HB.out | apply below_alloc | apply pw_below_drewN | apply below_drew1 | refine below_set ?_ GE661.out) | exact HB.out)) hb)
                      clear HO_6
                      clear HO_9
                      clear BK661
                      clear HB
                      have HO_6 := n0_
                      have HO_9 := n1_
                      have HO694 := n2_
                      have BK661 := n3_
                      have HB := n4_
                      clear n0_ n1_ n2_ n3_ n4_
                      (try clear hb)
                      (try clear hb2)
                      (try clear hk)
                      (try clear hi)
                      (try clear ho0)
                      refine hK.out _ _ ⟨(blk_cell BK661.out 0).trans rfl, (blk_cell BK661.out 1).trans rfl⟩ (fun hHeld => ?_)
                      clear hK K
                      refine norm_ (a' := ?_) ?_ ?_
                      rotate_left
                      · show Act.put _ (some 81) _ = _
                        simp only [Act.put, List.setIfInBounds_toArray, List.set_cons_zero, List.set_cons_succ, i64_w, i32_w]
                        rfl
                      refine one_ (i := 3) (N := some 83) #[true, true, true, true, false, false, false, false, false, false] rfl rfl (one_of HT_.out (by kernel_rfl)) (by decide) (fun K hK => ?_)
                      refine goes_ Try.func14 (by kernel_rfl) rfl #[.agg #[.int .i64 a1_0, .int .i64 a1_1]] (by rfl) rfl rfl (by (try simp only [List.map_toArray, List.map_cons, List.map_nil]); first | done | rfl | (simp only [List.length_drop, List.length_take]; rfl)) ?_
                      with_reducible refine (laws_toCase.calls a1_0 a1_1 t695 t696 _ A55.out).mono ?_
                      rintro e w62 ⟨rfl, hb⟩
                      refine ⟨_, rfl, ?_⟩
                      have n0_ := Aside0.mk (Kd.R_below (by (with_reducible repeat (first | apply Kd.R_alloc | apply Kd.R_drewN | apply Kd.R_drew)); exact HO_6.out) hb)
                      have n1_ := Aside0.mk (Kd.R_below (by (with_reducible repeat (first | apply Kd.R_alloc | apply Kd.R_drewN | apply Kd.R_drew)); exact HO_9.out) hb)
                      have n2_ := Aside0.mk (Kd.R_below (by (with_reducible repeat (first | apply Kd.R_alloc | apply Kd.R_drewN | apply Kd.R_drew)); exact HO694.out) hb)
                      have n3_ := Aside0.mk (blk_below (g := gb661) (o := .cells #[.int .i64 a1_0, .int .i64 a1_1] 24 (0, 0)) (by (with_reducible repeat (first | refine blk_drewN ?_ _ | refine blk_drew ?_ | refine blk_alloc ?_ _)); exact BK661.out) hb)
                      have n4_ := Aside0.mk (below_step (by repeat (first | (with_reducible first | exact HB.out | apply below_alloc | apply pw_below_drewN | apply below_drew1 | refine below_set ?_ GE661.out) | exact HB.out)) hb)
                      clear HO_6
                      clear HO_9
                      clear HO694
                      clear BK661
                      clear HB
                      have HO_6 := n0_
                      have HO_9 := n1_
                      have HO694 := n2_
                      have BK661 := n3_
                      have HB := n4_
                      clear n0_ n1_ n2_ n3_ n4_
                      (try clear hb)
                      (try clear hb2)
                      (try clear hk)
                      (try clear hi)
                      obtain ⟨Ao63, co63, eo63⟩ := Kd.R_slice HO694.out
                      (first | subst eo63 | (injection eo63 with f1_ f2_ f3_; have f4_ := f1_.symm; have f5_ := f3_.symm; clear f1_ f2_ f3_; subst f4_; subst f5_))
                      refine hK.out _ _ ⟨(blk_cell BK661.out 0).trans rfl, (blk_cell BK661.out 1).trans rfl⟩ (fun hHeld => ?_)
                      clear hK K
                      refine norm_ (a' := ?_) ?_ ?_
                      rotate_left
                      · show Act.put _ (some 83) _ = _
                        simp only [Act.put, List.setIfInBounds_toArray, List.set_cons_zero, List.set_cons_succ, i64_w, i32_w]
                        rfl
                      refine one_ (i := 4) (N := some 84) #[true, true, true, true, true, false, false, false, false, false] rfl rfl (one_of HT_.out (by kernel_rfl)) (by decide) (fun K hK => ?_)
                      refine goes_ Try.func35 (by kernel_rfl) rfl #[.slice Ao63 t692.length co63, .agg #[.int .i64 t695, .int .i64 t696]] (by rfl) rfl rfl (by (try simp only [List.map_toArray, List.map_cons, List.map_nil]); first | done | rfl | (simp only [List.length_drop, List.length_take]; rfl)) ?_
                      with_reducible refine (impl_PackByRatio.calls _ _ t692 t695 t696 t697 t700 _ ?side1 ?side2 A56.out).mono ?_
                      (case side1 => repeat (first | exact (Kd.R_reads' HO694.out).2.2 | (with_reducible refine Kd.C_alloc ?_ _) | (with_reducible refine Kd.C_drewN ?_ _) | (with_reducible refine Kd.C_drew ?_)))
                      (case side2 => exact (Kd.R_reads' HO694.out).2.1)
                      rintro e w64 ⟨v698, rfl, ho0, hb⟩
                      refine ⟨_, rfl, ?_⟩
                      have n0_ := Aside0.mk (Kd.R_elder' (by (with_reducible repeat (first | apply Kd.R_alloc | apply Kd.R_drewN | apply Kd.R_drew)); exact HO_6.out) (Kd.R_base ho0) hb)
                      have n1_ := Aside0.mk (Kd.R_elder' (by (with_reducible repeat (first | apply Kd.R_alloc | apply Kd.R_drewN | apply Kd.R_drew)); exact HO_9.out) (Kd.R_base ho0) hb)
                      have n2_ := Aside0.mk (Kd.R_below (by (with_reducible repeat (first | apply Kd.R_alloc | apply Kd.R_drewN | apply Kd.R_drew)); exact HO694.out) hb)
                      have n3_ := Aside0.mk (Kd.R_lower (Kd.R_new' (Kd.R_new' ho0 (Kd.R_lt (by (with_reducible repeat (first | apply Kd.R_alloc | apply Kd.R_drewN | apply Kd.R_drew)); exact HO_6.out))) (Kd.R_lt (by (with_reducible repeat (first | apply Kd.R_alloc | apply Kd.R_drewN | apply Kd.R_drew)); exact HO_9.out))) (below_size (by repeat (first | (with_reducible first | exact HB.out | apply below_alloc | apply pw_below_drewN | apply below_drew1 | refine below_set ?_ GE661.out) | exact HB.out))))
                      have n4_ := Aside0.mk (blk_below (g := gb661) (o := .cells #[.int .i64 a1_0, .int .i64 a1_1] 24 (0, 0)) (by (with_reducible repeat (first | refine blk_drewN ?_ _ | refine blk_drew ?_ | refine blk_alloc ?_ _)); exact BK661.out) hb)
                      have n5_ := Aside0.mk (below_step (by repeat (first | (with_reducible first | exact HB.out | apply below_alloc | apply pw_below_drewN | apply below_drew1 | refine below_set ?_ GE661.out) | exact HB.out)) hb)
                      clear HO_6
                      clear HO_9
                      clear HO694
                      clear BK661
                      clear HB
                      have HO_6 := n0_
                      have HO_9 := n1_
                      have HO694 := n2_
                      have HO699 := n3_
                      have BK661 := n4_
                      have HB := n5_
                      clear n0_ n1_ n2_ n3_ n4_ n5_
                      (try clear hb)
                      (try clear hb2)
                      (try clear hk)
                      (try clear hi)
                      (try clear ho0)
                      refine hK.out _ _ ⟨(blk_cell BK661.out 0).trans rfl, (blk_cell BK661.out 1).trans rfl⟩ (fun hHeld => ?_)
                      clear hK K
                      refine norm_ (a' := ?_) ?_ ?_
                      rotate_left
                      · show Act.put _ (some 84) _ = _
                        simp only [Act.put, List.setIfInBounds_toArray, List.set_cons_zero, List.set_cons_succ, i64_w, i32_w]
                        rfl
                      refine pure_ (i := 5) (N := some 79) (v := ?_) (a' := ?_) #[true, true, true, true, true, true, false, false, false, false] rfl rfl (any_of HT_.out (by kernel_rfl)) (fun _ _ _ h => h) (Or.inl ⟨by rfl, ?_⟩) ?_ ?_
                      rotate_left
                      · intro w'
                        go_simp
                        with_reducible rfl
                      rotate_left
                      · simp only [Act.put, List.setIfInBounds_toArray, List.set_cons_zero, List.set_cons_succ, i64_w, i32_w]
                        rfl
                      refine pure_ (i := 6) (N := some 85) (v := ?_) (a' := ?_) #[true, true, true, true, true, true, true, false, false, false] rfl rfl (any_of HT_.out (by kernel_rfl)) (fun _ _ _ h => h) (Or.inl ⟨by rfl, ?_⟩) ?_ ?_
                      rotate_left
                      · intro w'
                        go_simp
                        with_reducible rfl
                      rotate_left
                      · simp only [Act.put, List.setIfInBounds_toArray, List.set_cons_zero, List.set_cons_succ, i64_w, i32_w]
                        rfl
                      refine pure_ (i := 7) (N := some 86) (v := ?_) (a' := ?_) #[true, true, true, true, true, true, true, true, false, false] rfl rfl (any_of HT_.out (by kernel_rfl)) (fun _ _ _ h => h) (Or.inl ⟨by rfl, ?_⟩) ?_ ?_
                      rotate_left
                      · intro w'
                        go_simp
                        with_reducible rfl
                      rotate_left
                      · simp only [Act.put, List.setIfInBounds_toArray, List.set_cons_zero, List.set_cons_succ, i64_w, i32_w]
                        rfl
                      refine pure_ (i := 8) (N := some 14) (v := ?_) (a' := ?_) #[true, true, true, true, true, true, true, true, true, false] rfl rfl (any_of HT_.out (by kernel_rfl)) (fun _ _ _ h => h) (Or.inl ⟨by rfl, ?_⟩) ?_ ?_
                      rotate_left
                      · intro w'
                        go_simp
                        with_reducible rfl
                      rotate_left
                      · simp only [Act.put, List.setIfInBounds_toArray, List.set_cons_zero, List.set_cons_succ, i64_w, i32_w]
                        rfl
                      refine pure_ (i := 9) (N := some 15) (v := ?_) (a' := ?_) #[true, true, true, true, true, true, true, true, true, true] rfl rfl (any_of HT_.out (by kernel_rfl)) (fun _ _ _ h => h) (Or.inl ⟨by rfl, ?_⟩) ?_ ?_
                      rotate_left
                      · intro w'
                        go_simp
                        with_reducible rfl
                      rotate_left
                      · simp only [Act.put, List.setIfInBounds_toArray, List.set_cons_zero, List.set_cons_succ, i64_w, i32_w]
                        rfl
                      refine done_ (done_of HT_.out (by kernel_rfl)) ?_
                      go_upto_region 25 with (fail)
                      go_cut [95] (fun v95 wc => ∃ (kq : Nat) (x95_56 : Bool), v95 = .bool x95_56 ∧ Aside0 (laws_FnExactPackByRatio.j2 kq t690 t689 x95_56 = some r) ∧ Aside0 (kq ≤ kj34) ∧ Aside0 (Kd.R (Kd.int .i64) 3 wc w.heap.size (fun _ => True) (.slice Ao58 t677.length co58) t690) ∧ Aside0 (wc.heap[gb661]? = some (.cells #[.int .i64 a1_0, .int .i64 a1_1] 24 (0, 0))) ∧ Aside0 (Below w.heap.size w wc))
                      case first =>
                        have H := HC57.out
                        clear HC57
                        replace H := Option.bind_eq_some_iff.mp H
                        obtain ⟨t701, A650, H⟩ := H
                        replace H : (if t701 = true then (laws_FnExactPackByRatio.j2 kj34 t690 t689 (t700 != t671)) else (laws_FnExactPackByRatio.j2 kj34 t690 t689 true)) = some r := H
                        have A65 := Aside0.mk A650
                        clear A650
                        by_cases c66 : t701 = true
                        · subst c66
                          have H1 : (laws_FnExactPackByRatio.j2 kj34 t690 t689 (t700 != t671)) = some r := by rw [if_pos rfl] at H; exact H
                          clear H
                          have H := H1
                          clear H1
                          have H' := Aside0.mk H
                          clear H
                          obtain ⟨Ao67, co67, eo67⟩ := Kd.R_slice HO699.out
                          subst eo67
                          obtain ⟨Ao68, co68, eo68⟩ := Kd.R_slice HO_6.out
                          subst eo68
                          go_wp2_with (first | ((with_reducible refine gate_callee (f := 21) rfl ?_); refine goesL_ (some 89) rfl rfl Try.func21 (by kernel_rfl) rfl #[.slice Ao67 t697.length co67, .slice Ao68 t668.length co68] rfl (by (try simp only [List.map_toArray, List.map_cons, List.map_nil]); first | done | rfl | (simp only [List.length_drop, List.length_take]; rfl)) ?_; (with_reducible refine (laws_eqIntS.calls kj34 _ _ t697 _ _ t668 true _ ?side1 ?side2 ?side3 ?side4 A65.out).mono ?_); (case side1 => repeat (first | exact (Kd.R_reads' HO699.out).2.2 | (with_reducible refine Kd.C_alloc ?_ _) | (with_reducible refine Kd.C_drewN ?_ _) | (with_reducible refine Kd.C_drew ?_))); (case side2 => exact (Kd.R_reads' HO699.out).2.1); (case side3 => repeat (first | exact (Kd.R_reads' HO_6.out).2.2 | (with_reducible refine Kd.C_alloc ?_ _) | (with_reducible refine Kd.C_drewN ?_ _) | (with_reducible refine Kd.C_drew ?_))); (case side4 => exact (Kd.R_reads' HO_6.out).2.1); rintro e w' ⟨rfl, ⟨nd, rfl⟩⟩; refine ⟨_, rfl, ?_⟩))
                          go_meet
                          case rel => exact ⟨_, ((t700 != t671)), (by first | rfl | (simp; done) | (simp [*]; done)), H', ⟨by have := HJ11.out; have := HJ34.out; first | omega | exact Nat.le_refl _⟩, ⟨by (with_reducible repeat (first | apply Kd.R_alloc | apply Kd.R_drewN | apply Kd.R_drew)); exact Kd.R_mono HO_9.out (fun _ hk => trivial)⟩, ⟨by (with_reducible repeat (first | refine blk_drewN ?_ _ | refine blk_drew ?_ | refine blk_alloc ?_ _)); exact BK661.out⟩, ⟨by repeat (first | (with_reducible first | exact HB.out | apply below_alloc | apply pw_below_drewN | apply below_drew1 | refine below_set ?_ GE661.out) | exact HB.out)⟩⟩
                        · replace c66 := Bool.eq_false_iff.mpr c66
                          subst c66
                          have H1 : (laws_FnExactPackByRatio.j2 kj34 t690 t689 true) = some r := by rw [if_neg (show ¬ (false = true) by decide)] at H; exact H
                          clear H
                          have H := H1
                          clear H1
                          have H' := Aside0.mk H
                          clear H
                          obtain ⟨Ao69, co69, eo69⟩ := Kd.R_slice HO699.out
                          subst eo69
                          obtain ⟨Ao70, co70, eo70⟩ := Kd.R_slice HO_6.out
                          subst eo70
                          go_wp2_with (first | ((with_reducible refine gate_callee (f := 21) rfl ?_); refine goesL_ (some 89) rfl rfl Try.func21 (by kernel_rfl) rfl #[.slice Ao69 t697.length co69, .slice Ao70 t668.length co70] rfl (by (try simp only [List.map_toArray, List.map_cons, List.map_nil]); first | done | rfl | (simp only [List.length_drop, List.length_take]; rfl)) ?_; (with_reducible refine (laws_eqIntS.calls kj34 _ _ t697 _ _ t668 false _ ?side1 ?side2 ?side3 ?side4 A65.out).mono ?_); (case side1 => repeat (first | exact (Kd.R_reads' HO699.out).2.2 | (with_reducible refine Kd.C_alloc ?_ _) | (with_reducible refine Kd.C_drewN ?_ _) | (with_reducible refine Kd.C_drew ?_))); (case side2 => exact (Kd.R_reads' HO699.out).2.1); (case side3 => repeat (first | exact (Kd.R_reads' HO_6.out).2.2 | (with_reducible refine Kd.C_alloc ?_ _) | (with_reducible refine Kd.C_drewN ?_ _) | (with_reducible refine Kd.C_drew ?_))); (case side4 => exact (Kd.R_reads' HO_6.out).2.1); rintro e w' ⟨rfl, ⟨nd, rfl⟩⟩; refine ⟨_, rfl, ?_⟩))
                          go_meet
                          case rel => exact ⟨_, (true), (by first | rfl | (simp; done) | (simp [*]; done)), H', ⟨by have := HJ11.out; have := HJ34.out; first | omega | exact Nat.le_refl _⟩, ⟨by (with_reducible repeat (first | apply Kd.R_alloc | apply Kd.R_drewN | apply Kd.R_drew)); exact Kd.R_mono HO_9.out (fun _ hk => trivial)⟩, ⟨by (with_reducible repeat (first | refine blk_drewN ?_ _ | refine blk_drew ?_ | refine blk_alloc ?_ _)); exact BK661.out⟩, ⟨by repeat (first | (with_reducible first | exact HB.out | apply below_alloc | apply pw_below_drewN | apply below_drew1 | refine below_set ?_ GE661.out) | exact HB.out)⟩⟩
                      case rest =>
                        clear HC57
                        try clear c1
                        try clear c2
                        try clear p2
                        try clear c3
                        try clear c4
                        try clear c4b0
                        try clear c5
                        try clear c6
                        try clear c10
                        try clear c11
                        try clear c13
                        try clear c14
                        try clear c16
                        try clear c21
                        try clear c22
                        try clear c23
                        try clear c24
                        try clear c25
                        try clear c30
                        try clear c33
                        try clear c34
                        try clear c35
                        try clear c40
                        try clear c40b0
                        try clear c42
                        try clear c47
                        try clear c50
                        try clear c50b0
                        try clear c53
                        try clear c53b0
                        try clear c53b1
                        try clear c66
                        try clear hcz20_0
                        try clear hcz20_1
                        try clear hfz20_0
                        try clear hfz20_1
                        try clear p2
                        obtain ⟨kq, x95_56, rfl, HA, HJ56, HO_9, BK661, HB⟩ := hcut
                        have hl9_56 := (Kd.R_reads' HO_9.out).1
                        rw [hl9_56] at HO_9
                        (try simp only [hl9_56])
                        (try simp only [hl9_56] at BK661)
                        cases kq with
                        | zero => exact absurd HA.out (by simp [laws_FnExactPackByRatio.j2])
                        | succ kj56 =>
                          have H := HA.out
                          clear HA
                          simp only [laws_FnExactPackByRatio.j2] at H
                          by_cases c71 : x95_56 = true
                          · subst c71
                            have H1 : (some false) = some r := by rw [if_pos rfl] at H; exact H
                            clear H
                            have H := H1
                            clear H1
                            obtain rfl := Option.some.inj H
                            go_wp2
                            go_ret
                            exact ⟨by first | rfl | (simp [errW_none, errW_some] <;> rfl) | (simp [*, errW_none, errW_some] <;> rfl), by repeat (first | (with_reducible first | exact HB.out | apply below_alloc | apply pw_below_drewN | apply below_drew1 | refine below_set ?_ GE661.out) | exact HB.out)⟩
                          · replace c71 := Bool.eq_false_iff.mpr c71
                            subst c71
                            have H1 : ((laws_heldIntS.f kj56 t690 1).bind fun t702 => (if t702 < 0 then (some false) else (if t702 = t689 then (some true) else (some false)))) = some r := by rw [if_neg (show ¬ (false = true) by decide)] at H; exact H
                            clear H
                            have H := H1
                            clear H1
                            replace H := Option.bind_eq_some_iff.mp H
                            obtain ⟨t702, A720, H⟩ := H
                            replace H : (if t702 < 0 then (some false) else (if t702 = t689 then (some true) else (some false))) = some r := H
                            have A72 := Aside0.mk A720
                            clear A720
                            by_cases c73 : t702 < 0
                            · rw [if_pos c73] at H
                              have c73b0 : decide (t702 < 0) = true := decide_eq_true c73
                              clear c73
                              obtain rfl := Option.some.inj H
                              go_wp2_with (first | ((with_reducible refine gate_callee (f := 24) rfl ?_); refine goesL_ (some 98) rfl rfl Try.func24 (by kernel_rfl) rfl #[.slice Ao58 t690.length co58, .int .i64 1] rfl (by (try simp only [List.map_toArray, List.map_cons, List.map_nil]); first | done | rfl | (simp only [List.length_drop, List.length_take]; rfl)) ?_; (with_reducible refine (laws_heldIntS.calls kj56 _ _ t690 1 t702 _ ?side1 ?side2 A72.out).mono ?_); (case side1 => repeat (first | exact (Kd.R_reads' HO_9.out).2.2 | (with_reducible refine Kd.C_alloc ?_ _) | (with_reducible refine Kd.C_drewN ?_ _) | (with_reducible refine Kd.C_drew ?_))); (case side2 => exact (Kd.R_reads' HO_9.out).2.1); rintro e w' ⟨rfl, ⟨nd, rfl⟩⟩; refine ⟨_, rfl, ?_⟩))
                              go_ret
                              exact ⟨by first | rfl | (simp [errW_none, errW_some] <;> rfl) | (simp [*, errW_none, errW_some] <;> rfl), by repeat (first | (with_reducible first | exact HB.out | apply below_alloc | apply pw_below_drewN | apply below_drew1 | refine below_set ?_ GE661.out) | exact HB.out)⟩
                            · rw [if_neg c73] at H
                              have c73b0 : decide (t702 < 0) = false := decide_eq_false c73
                              clear c73
                              by_cases c74 : t702 = t689
                              · rw [if_pos c74] at H
                                have c74b0 : (t702 == t689) = true := beq_iff_eq.mpr c74
                                have c74b1 : (t702 != t689) = false := bne_eq_false_iff_eq.mpr c74
                                clear c74
                                obtain rfl := Option.some.inj H
                                go_wp2_with (first | ((with_reducible refine gate_callee (f := 24) rfl ?_); refine goesL_ (some 98) rfl rfl Try.func24 (by kernel_rfl) rfl #[.slice Ao58 t690.length co58, .int .i64 1] rfl (by (try simp only [List.map_toArray, List.map_cons, List.map_nil]); first | done | rfl | (simp only [List.length_drop, List.length_take]; rfl)) ?_; (with_reducible refine (laws_heldIntS.calls kj56 _ _ t690 1 t702 _ ?side1 ?side2 A72.out).mono ?_); (case side1 => repeat (first | exact (Kd.R_reads' HO_9.out).2.2 | (with_reducible refine Kd.C_alloc ?_ _) | (with_reducible refine Kd.C_drewN ?_ _) | (with_reducible refine Kd.C_drew ?_))); (case side2 => exact (Kd.R_reads' HO_9.out).2.1); rintro e w' ⟨rfl, ⟨nd, rfl⟩⟩; refine ⟨_, rfl, ?_⟩))
                                go_ret
                                exact ⟨by first | rfl | (simp [errW_none, errW_some] <;> rfl) | (simp [*, errW_none, errW_some] <;> rfl), by repeat (first | (with_reducible first | exact HB.out | apply below_alloc | apply pw_below_drewN | apply below_drew1 | refine below_set ?_ GE661.out) | exact HB.out)⟩
                              · rw [if_neg c74] at H
                                have c74b0 : (t702 == t689) = false := beq_eq_false_iff_ne.mpr c74
                                have c74b1 : (t702 != t689) = true := bne_iff_ne.mpr c74
                                obtain rfl := Option.some.inj H
                                go_wp2_with (first | ((with_reducible refine gate_callee (f := 24) rfl ?_); refine goesL_ (some 98) rfl rfl Try.func24 (by kernel_rfl) rfl #[.slice Ao58 t690.length co58, .int .i64 1] rfl (by (try simp only [List.map_toArray, List.map_cons, List.map_nil]); first | done | rfl | (simp only [List.length_drop, List.length_take]; rfl)) ?_; (with_reducible refine (laws_heldIntS.calls kj56 _ _ t690 1 t702 _ ?side1 ?side2 A72.out).mono ?_); (case side1 => repeat (first | exact (Kd.R_reads' HO_9.out).2.2 | (with_reducible refine Kd.C_alloc ?_ _) | (with_reducible refine Kd.C_drewN ?_ _) | (with_reducible refine Kd.C_drew ?_))); (case side2 => exact (Kd.R_reads' HO_9.out).2.1); rintro e w' ⟨rfl, ⟨nd, rfl⟩⟩; refine ⟨_, rfl, ?_⟩))
                                go_ret
                                exact ⟨by first | rfl | (simp [errW_none, errW_some] <;> rfl) | (simp [*, errW_none, errW_some] <;> rfl), by repeat (first | (with_reducible first | exact HB.out | apply below_alloc | apply pw_below_drewN | apply below_drew1 | refine below_set ?_ GE661.out) | exact HB.out)⟩
                    · rw [if_neg c53] at H
                      have c53b0 : (t691 == t689) = false := beq_eq_false_iff_ne.mpr c53
                      have c53b1 : (t691 != t689) = true := bne_iff_ne.mpr c53
                      obtain rfl := Option.some.inj H
                      obtain ⟨Ao75, co75, eo75⟩ := Kd.R_slice HO_9.out
                      subst eo75
                      go_wp2_with (first | ((with_reducible refine gate_callee (f := 23) rfl ?_); refine goesL_ (some 70) rfl rfl Try.func23 (by kernel_rfl) rfl #[.slice Ao75 t677.length co75, .int .i64 1] rfl (by (try simp only [List.map_toArray, List.map_cons, List.map_nil]); first | done | rfl | (simp only [List.length_drop, List.length_take]; rfl)) ?_; (with_reducible refine (laws_markIntS.calls kj34 (fun k_ => some k_ = (.slice Ao75 t677.length co75 : Value).ownBlock) (.slice Ao75 t677.length co75) t677 1 t689 t690 w _ ?side1 ?side2 A48.out).mono ?_); (case side1 => repeat (first | (with_reducible first | exact HB.out | apply below_alloc | apply pw_below_drewN | apply below_drew1 | refine below_set ?_ GE661.out) | exact HB.out)); (case side2 => exact Kd.R_tight rfl HO_9.out); rintro e w76 ⟨rfl, hy0, hb, hkp⟩; refine ⟨_, rfl, ?_⟩; have n0_ := Aside0.mk (Kd.R_mono (ok' := fun k_ => some k_ ≠ (.slice Ao75 t677.length co75 : Value).ownBlock) (Kd.R_keptB (HO_6.out) hkp (fun k_ hk_ hs_ => (hk_) hs_)) (fun k_ hk_ => hk_.1)); have n1_ := Aside0.mk (Kd.R_reok rfl hy0 (fun k_ e_ => HO_9.out.1 k_ e_)); have n2_ := Aside0.mk (blk_kept (by (with_reducible repeat (first | refine blk_drewN ?_ _ | refine blk_drew ?_ | refine blk_alloc ?_ _)); exact BK661.out) hkp (fun hs_ => (fun e_ => (Kd.R_ne HO_9.out BK661.out (by decide)) e_) hs_)); have n3_ := Aside0.mk (hb); clear HO_6; clear HO_9; clear BK661; clear HB; have HO_6 := n0_; have HO_9 := n1_; have BK661 := n2_; have HB := n3_; clear n0_ n1_ n2_ n3_; (try clear hb); (try clear hkp); (try clear hy0)) | ((with_reducible refine gate_callee (f := 24) rfl ?_); refine goesL_ (some 73) rfl rfl Try.func24 (by kernel_rfl) rfl #[.slice Ao75 t690.length co75, .int .i64 1] rfl (by (try simp only [List.map_toArray, List.map_cons, List.map_nil]); first | done | (rw [show t690.length = t677.length from (Kd.R_reads' HO_9.out).1.symm] <;> rfl) | rfl | (simp only [List.length_drop, List.length_take]; rfl)) ?_; (with_reducible refine (laws_heldIntS.calls kj34 _ _ t690 1 t691 _ ?side1 ?side2 A49.out).mono ?_); (case side1 => repeat (first | exact (Kd.R_reads' HO_9.out).2.2 | (with_reducible refine Kd.C_alloc ?_ _) | (with_reducible refine Kd.C_drewN ?_ _) | (with_reducible refine Kd.C_drew ?_))); (case side2 => rw [show t690.length = t677.length from (Kd.R_reads' HO_9.out).1.symm]; exact (Kd.R_reads' HO_9.out).2.1); rintro e w' ⟨rfl, ⟨nd, rfl⟩⟩; refine ⟨_, rfl, ?_⟩))
                      go_ret
                      exact ⟨by first | rfl | (simp [errW_none, errW_some] <;> rfl) | (simp [*, errW_none, errW_some] <;> rfl), by repeat (first | (with_reducible first | exact HB.out | apply below_alloc | apply pw_below_drewN | apply below_drew1 | refine below_set ?_ GE661.out) | exact HB.out)⟩
          · replace c33 := Bool.eq_false_iff.mpr c33
            subst c33
            have H1 : (some false) = some r := by rw [if_neg (show ¬ (false = true) by decide)] at H; exact H
            clear H
            have H := H1
            clear H1
            obtain rfl := Option.some.inj H
            go_wp2_with (first | ((with_reducible refine gate_callee (f := 13) rfl ?_); refine goesL_ (some 49) rfl rfl Try.func13 (by kernel_rfl) rfl #[.slice A0 l0.length c0] rfl (by (try simp only [List.map_toArray, List.map_cons, List.map_nil]); first | done | rfl | (simp only [List.length_drop, List.length_take]; rfl)) ?_; (with_reducible refine (laws_toItemS.calls kj11 _ _ l0 t682 _ ?side1 ?side2 A31.out).mono ?_); (case side1 => repeat (first | exact (Kd.C_below HR0.out HB.out) | (with_reducible refine Kd.C_alloc ?_ _) | (with_reducible refine Kd.C_drewN ?_ _) | (with_reducible refine Kd.C_drew ?_))); (case side2 => exact HC0.out); rintro e w77 ⟨v683, rfl, ho0, hb⟩; refine ⟨_, rfl, ?_⟩; have n0_ := Aside0.mk (Kd.R_below (by (with_reducible repeat (first | apply Kd.R_alloc | apply Kd.R_drewN | apply Kd.R_drew)); exact HO_6.out) hb); have n1_ := Aside0.mk (Kd.R_elder' (by (with_reducible repeat (first | apply Kd.R_alloc | apply Kd.R_drewN | apply Kd.R_drew)); exact HO_8.out) (Kd.R_base ho0) hb); have n2_ := Aside0.mk (Kd.R_below (by (with_reducible repeat (first | apply Kd.R_alloc | apply Kd.R_drewN | apply Kd.R_drew)); exact HO_9.out) hb); have n3_ := Aside0.mk (Kd.R_lower (Kd.R_new' ho0 (Kd.R_lt (by (with_reducible repeat (first | apply Kd.R_alloc | apply Kd.R_drewN | apply Kd.R_drew)); exact HO_8.out))) (below_size (by repeat (first | (with_reducible first | exact HB.out | apply below_alloc | apply pw_below_drewN | apply below_drew1 | refine below_set ?_ GE661.out) | exact HB.out)))); have n4_ := Aside0.mk (blk_below (g := gb661) (o := .cells #[.int .i64 a1_0, .int .i64 a1_1] 24 (0, 0)) (by (with_reducible repeat (first | refine blk_drewN ?_ _ | refine blk_drew ?_ | refine blk_alloc ?_ _)); exact BK661.out) hb); have n5_ := Aside0.mk (below_step (by repeat (first | (with_reducible first | exact HB.out | apply below_alloc | apply pw_below_drewN | apply below_drew1 | refine below_set ?_ GE661.out) | exact HB.out)) hb); clear HO_6; clear HO_8; clear HO_9; clear BK661; clear HB; have HO_6 := n0_; have HO_8 := n1_; have HO_9 := n2_; have HO684 := n3_; have BK661 := n4_; have HB := n5_; clear n0_ n1_ n2_ n3_ n4_ n5_; (try clear hb); (try clear hb2); (try clear hk); (try clear hi); (try clear ho0); obtain ⟨Ao78, co78, eo78⟩ := Kd.R_slice HO684.out; subst eo78) | ((with_reducible refine gate_callee (f := 16) rfl ?_); refine goesL_ (some 50) rfl rfl Try.func16 (by kernel_rfl) rfl #[.slice Ao22 t672.length co22, .slice Ao78 t682.length co78] rfl (by (try simp only [List.map_toArray, List.map_cons, List.map_nil]); first | done | rfl | (simp only [List.length_drop, List.length_take]; rfl)) ?_; (with_reducible refine (laws_eqItemS.calls kj11 _ _ t672 _ _ t682 false _ ?side1 ?side2 ?side3 ?side4 A32.out).mono ?_); (case side1 => repeat (first | exact (Kd.R_reads' HO_8.out).2.2 | (with_reducible refine Kd.C_alloc ?_ _) | (with_reducible refine Kd.C_drewN ?_ _) | (with_reducible refine Kd.C_drew ?_))); (case side2 => exact (Kd.R_reads' HO_8.out).2.1); (case side3 => repeat (first | exact (Kd.R_reads' HO684.out).2.2 | (with_reducible refine Kd.C_alloc ?_ _) | (with_reducible refine Kd.C_drewN ?_ _) | (with_reducible refine Kd.C_drew ?_))); (case side4 => exact (Kd.R_reads' HO684.out).2.1); rintro e w79 ⟨rfl, hb⟩; refine ⟨_, rfl, ?_⟩; have n0_ := Aside0.mk (Kd.R_below (by (with_reducible repeat (first | apply Kd.R_alloc | apply Kd.R_drewN | apply Kd.R_drew)); exact HO_6.out) hb); have n1_ := Aside0.mk (Kd.R_below (by (with_reducible repeat (first | apply Kd.R_alloc | apply Kd.R_drewN | apply Kd.R_drew)); exact HO_8.out) hb); have n2_ := Aside0.mk (Kd.R_below (by (with_reducible repeat (first | apply Kd.R_alloc | apply Kd.R_drewN | apply Kd.R_drew)); exact HO_9.out) hb); have n3_ := Aside0.mk (Kd.R_below (by (with_reducible repeat (first | apply Kd.R_alloc | apply Kd.R_drewN | apply Kd.R_drew)); exact HO684.out) hb); have n4_ := Aside0.mk (blk_below (g := gb661) (o := .cells #[.int .i64 a1_0, .int .i64 a1_1] 24 (0, 0)) (by (with_reducible repeat (first | refine blk_drewN ?_ _ | refine blk_drew ?_ | refine blk_alloc ?_ _)); exact BK661.out) hb); have n5_ := Aside0.mk (below_step (by repeat (first | (with_reducible first | exact HB.out | apply below_alloc | apply pw_below_drewN | apply below_drew1 | refine below_set ?_ GE661.out) | exact HB.out)) hb); clear HO_6; clear HO_8; clear HO_9; clear HO684; clear BK661; clear HB; have HO_6 := n0_; have HO_8 := n1_; have HO_9 := n2_; have HO684 := n3_; have BK661 := n4_; have HB := n5_; clear n0_ n1_ n2_ n3_ n4_ n5_; (try clear hb); (try clear hb2); (try clear hk); (try clear hi)))
            go_ret
            exact ⟨by first | rfl | (simp [errW_none, errW_some] <;> rfl) | (simp [*, errW_none, errW_some] <;> rfl), by repeat (first | (with_reducible first | exact HB.out | apply below_alloc | apply pw_below_drewN | apply below_drew1 | refine below_set ?_ GE661.out) | exact HB.out)⟩

end Go.Proofs.Ytkaihdpmjlhlaaa.Q

namespace Go.Proofs.Ytkaihdpmjlhlaaa.Q
open Go.RowKit Go.Proofs.YtkaihdpmjlhlaaaW.PrintWords Go.Proofs.YtkaihdpmjlhlaaaW.PrintLast Go.Proofs.YtkaihdpmjlhlaaaW.PrintMore
set_option linter.unusedVariables false
set_option linter.unusedSimpArgs false

theorem suAsked_eq (items : List Item) (a b : Int) (hn : items.length ≤ 10000000) (k : Nat) (hk : items.length < k) : spec_suAsked.f k items a b = impl_arePacked.f items [⟨a, b⟩] := by
  unfold spec_suAsked.f
  rw [suGood_eq items (by omega) k hk]
  unfold impl_AreItems.f impl_arePacked.f
  simp only [inItem, Option.bind_some, List.all_cons, List.all_nil, Bool.and_true]
  unfold okCase
  cases (decide (1 ≤ items.length) && decide (items.length ≤ 10) && items.all okItem) <;> cases (decide (0 ≤ a) && decide (a ≤ 200)) <;> cases (decide (0 ≤ b) && decide (b ≤ 200)) <;> simp
theorem packed_good {items : List Item} {a b : Int} (h : impl_arePacked.f items [⟨a, b⟩] = some true) : items.length ≤ 10 ∧ 1 ≤ items.length ∧ (∀ x ∈ items, okItem x = true) ∧ (0 ≤ a ∧ a ≤ 200) ∧ 0 ≤ b ∧ b ≤ 200 := by
  unfold impl_arePacked.f at h
  injection h with h
  simp only [List.all_cons, List.all_nil, Bool.and_true, Bool.and_eq_true, decide_eq_true_eq, okCase, List.all_eq_true] at h
  exact ⟨h.1.1.2, h.1.1.1, h.1.2, h.2.1, h.2.2⟩

theorem holds_eq (a b x y z : Int) : impl_Case_holds.f a b x y z = some (decide (x ≤ a) && decide (y ≤ b)) := by
  unfold impl_Case_holds.f
  by_cases h : x ≤ a
  · rw [if_pos h]; simp [h]
  · rw [if_neg h]; simp [h]
theorem suFits_eq (items : List Item) (a b : Int) (ch : List Int) (hw : Inside items ch) (hn : ch.length ≤ 100000000000000) (k : Nat) (hk : ch.length < k) :
    spec_suFits.f k items a b ch = some (decide ((tot items ch).1 ≤ a) && decide ((tot items ch).2.1 ≤ b)) := by
  unfold spec_suFits.f
  rw [suTotals_eq items ch hw hn k hk]
  simp only [Option.bind_some]
  by_cases h : (tot items ch).1 ≤ a
  · rw [if_pos h]; simp [h]
  · rw [if_neg h]; simp [h]

end Go.Proofs.Ytkaihdpmjlhlaaa.Q

namespace Go.Proofs.Ytkaihdpmjlhlaaa.Q
open Go.RowKit Go.Proofs.YtkaihdpmjlhlaaaW.PrintWords Go.Proofs.YtkaihdpmjlhlaaaW.PrintLast Go.Proofs.YtkaihdpmjlhlaaaW.PrintMore
set_option linter.unusedVariables false
set_option linter.unusedSimpArgs false

/-- A number put into a list ahead of the first that is not less. -/
def putL : List Int → Int → List Int
  | [], n => [n]
  | x :: xs, n => if x < n then x :: putL xs n else if x = n then x :: xs else n :: x :: xs
theorem put_l0 (l : List Int) (n : Int) (hn : l.length ≤ 1000000) : ∀ d k i, i + d = l.length → d < k → spec_l1Put.l0 k l n (i : Int) = some (l.take i ++ putL (l.drop i) n) := by
  intro d
  induction d with
  | zero =>
    intro k i hi hk
    obtain ⟨k, rfl⟩ : ∃ m, k = m + 1 := ⟨k - 1, by omega⟩
    have e1 : l.take i = l := List.take_of_length_le (by omega)
    have e2 : l.drop i = [] := List.drop_of_length_le (by omega)
    simp only [spec_l1Put.l0, Option.bind_some, Int.toNat_natCast, List.nil_append, e1, e2, List.append_nil]
    rw [if_neg (by omega), if_pos (by omega), if_pos (by omega), if_pos (by simp; omega), if_pos (by omega), if_pos (by simp; omega)]
    rfl
  | succ d ih =>
    intro k i hi hk
    obtain ⟨k, rfl⟩ : ∃ m, k = m + 1 := ⟨k - 1, by omega⟩
    have hlt : i < l.length := by omega
    simp only [spec_l1Put.l0, Option.bind_some, Int.toNat_natCast, List.nil_append]
    rw [if_pos (by omega), if_pos (by omega), rd_nat l i hlt, w64 (i := (i : Int) + 1) (by omega) (by omega), List.drop_eq_getElem_cons hlt, putL]
    by_cases h1 : l[i] < n
    · rw [if_pos h1, if_pos h1]
      have := ih k (i + 1) (by omega) (by omega)
      rw [show ((i + 1 : Nat) : Int) = (i : Int) + 1 by omega, List.take_add_one, List.getElem?_eq_getElem hlt] at this
      rw [this]; simp only [Option.toList_some, List.append_assoc, List.singleton_append]
    · rw [if_neg h1, if_neg h1]
      by_cases h2 : l[i] = n
      · rw [if_pos h2, if_pos h2, ← List.drop_eq_getElem_cons hlt, List.take_append_drop]
      · rw [if_neg h2, if_neg h2, if_pos (by omega), if_pos (by simp; omega), if_pos (by simp; omega), if_pos (by simp; omega)]
        simp
theorem put_eq (l : List Int) (n : Int) (hn : l.length ≤ 1000000) (k : Nat) (hk : l.length < k) : spec_l1Put.f k l n = some (putL l n) := by
  unfold spec_l1Put.f
  have := put_l0 l n hn l.length k 0 (by omega) hk
  simpa using this
theorem putL_perm : ∀ (l : List Int) (n : Int), n ∉ l → (putL l n).Perm (l ++ [n])
  | [], n, _ => List.Perm.refl _
  | x :: xs, n, h => by
    have h1 : x ≠ n := fun e => h (e ▸ List.mem_cons_self)
    have h2 : n ∉ xs := fun e => h (List.mem_cons_of_mem _ e)
    rw [putL]
    split
    · exact (putL_perm xs n h2).cons x
    · exact (List.perm_append_singleton n (x :: xs)).symm
theorem putL_length (l : List Int) (n : Int) (h : n ∉ l) : (putL l n).length = l.length + 1 := by rw [(putL_perm l n h).length_eq]; simp
theorem wrap_comm (s a b : Int) : wrap64 (wrap64 (s + a) + b) = wrap64 (wrap64 (s + b) + a) := by unfold wrap64; omega
theorem tot_perm (items : List Item) {l1 l2 : List Int} (h : l1.Perm l2) : tot items l1 = tot items l2 := by
  unfold tot
  refine h.foldl_eq' (fun x _ y _ z => ?_) _
  unfold addTo
  simp only [Prod.mk.injEq]
  exact ⟨wrap_comm _ _ _, wrap_comm _ _ _, wrap_comm _ _ _⟩
theorem inside_perm {items : List Item} {l1 l2 : List Int} (h : l1.Perm l2) (hi : Inside items l2) : Inside items l1 := fun x hx => hi x (h.mem_iff.1 hx)
theorem l1Own_eq (l : List Int) (h : l.length < 1000000) : spec_l1Own.f l = some l := by
  unfold spec_l1Own.f
  simp only [Option.bind_some, List.length_nil, List.nil_append]
  rw [if_pos (by omega)]
theorem asked_ten (items : List Item) (a b : Int) (hm : items.length ≤ 10000000) : ∃ t : Bool, impl_arePacked.f items [⟨a, b⟩] = some t ∧ (∀ k, items.length < k → spec_suAsked.f k items a b = some t) ∧ (t = true → items.length ≤ 10) := by
  obtain ⟨t, ht⟩ : ∃ t, impl_arePacked.f items [⟨a, b⟩] = some t := ⟨_, rfl⟩
  refine ⟨t, ht, fun k hk => (suAsked_eq items a b hm k hk).trans ht, fun h => ?_⟩
  subst h
  exact (packed_good ht).1
end Go.Proofs.Ytkaihdpmjlhlaaa.Q

namespace Go.Proofs.Ytkaihdpmjlhlaaa.Q
open Go.RowKit Go.Proofs.YtkaihdpmjlhlaaaW.PrintWords Go.Proofs.YtkaihdpmjlhlaaaW.PrintLast Go.Proofs.YtkaihdpmjlhlaaaW.PrintMore
set_option linter.unusedVariables false
set_option linter.unusedSimpArgs false

/-- Items are right: each number from 0 to 200. -/
def Light (items : List Item) : Prop := items.length ≤ 10 ∧ ∀ i : Int, 0 ≤ i → i < (items.length : Int) → (0 ≤ (rd_T49 items i).f0 ∧ (rd_T49 items i).f0 ≤ 200) ∧ (0 ≤ (rd_T49 items i).f1 ∧ (rd_T49 items i).f1 ≤ 200) ∧ 0 ≤ (rd_T49 items i).f2 ∧ (rd_T49 items i).f2 ≤ 200
theorem light_of {items : List Item} (hn : items.length ≤ 10) (h : ∀ x ∈ items, okItem x = true) : Light items := by
  refine ⟨hn, fun i h0 h1 => ?_⟩
  have hm : rd_T49 items i ∈ items := by
    unfold rd_T49
    rw [List.getD_eq_getElem?_getD, List.getElem?_eq_getElem (by omega)]
    exact List.getElem_mem _
  have := h _ hm
  unfold okItem at this
  simp only [Bool.and_eq_true, decide_eq_true_eq] at this
  exact ⟨by omega, by omega, by omega⟩
end Go.Proofs.Ytkaihdpmjlhlaaa.Q

namespace Go.Proofs.Ytkaihdpmjlhlaaa.Q
open Go.RowKit Go.Proofs.YtkaihdpmjlhlaaaW.PrintWords Go.Proofs.YtkaihdpmjlhlaaaW.PrintLast Go.Proofs.YtkaihdpmjlhlaaaW.PrintMore
attribute [local go_sem] max2_int min2_int max_two min_two max_three min_three max_four min_four   -- for this text's walks alone
set_option linter.unusedVariables false
set_option linter.unusedSimpArgs false

/-! ### spec_PackByValue: function 32 -/
def spec_PackByValue.f (k : Nat) (l0 : List (S49)) (a1_0 : Int) (a1_1 : Int) : Option (List Int × Bool) := (spec_suAsked.f k l0 a1_0 a1_1).bind fun t610 => (if t610 = true then ((spec_suTake.f k l0 a1_0 a1_1 false).bind fun t611 => (some (t611, true))) else (some (([] : List Int), false)))
theorem spec_PackByValue.mono : ∀ a0 a1 a2 k, LeO (spec_PackByValue.f k a0 a1 a2) (spec_PackByValue.f (k + 1) a0 a1 a2) := by
  intro a0 a1 a2 k
  unfold spec_PackByValue.f
  repeat' first
      | (with_reducible exact spec_suAsked.mono _ _ _ _)
      | (with_reducible exact spec_suTake.mono _ _ _ _ _)
      | (with_reducible exact LeO.refl _)
      | (with_reducible exact LeO.none _)
      | (with_reducible refine LeO.ite ?_ ?_)
      | (with_reducible refine LeO.bind ?_ (fun _ => ?_))
      | exact spec_suAsked.mono _ _ _ _
      | exact spec_suTake.mono _ _ _ _ _
      | exact LeO.none _
      | refine LeO.ite ?_ ?_
      | refine LeO.bind ?_ (fun _ => ?_)
set_option maxHeartbeats 8000000 in
set_option maxRecDepth 100000 in
theorem spec_PackByValue.calls (k : Nat) (A0 : Option Addr) (c0 : Nat) (l0 : List (S49)) (a1_0 : Int) (a1_1 : Int) (r1 : List Int) (r2 : Bool) (w : World) (hr0 : Kd.C k49 w A0 l0.length l0) (hc0 : l0.length ≤ c0) (h : spec_PackByValue.f k l0 a1_0 a1_1 = some (r1, r2)) :
    Calls Try.prog 32 #[.slice A0 l0.length c0, .agg #[.int .i64 a1_0, .int .i64 a1_1]] w fun e w' => ∃ v0_ : Value, e = .returned (.tuple #[v0_, .bool r2]) ∧ Kd.R (Kd.int .i64) 3 w' w.heap.size (fun _ => True) v0_ r1 ∧ Below w.heap.size w w' := by
  have hu30 := Try.underlying30
  have HR0 := Aside0.mk hr0
  have HC0 := Aside0.mk hc0
  clear hr0 hc0
  have HB := Aside0.mk (Below.refl w.heap.size w)
  have H : ((spec_suAsked.f k l0 a1_0 a1_1).bind fun t610 => (if t610 = true then ((spec_suTake.f k l0 a1_0 a1_1 false).bind fun t611 => (some (t611, true))) else (some (([] : List Int), false)))) = some (r1, r2) := h
  clear h
  replace H := Option.bind_eq_some_iff.mp H
  obtain ⟨t610, A30, H⟩ := H
  replace H : (if t610 = true then ((spec_suTake.f k l0 a1_0 a1_1 false).bind fun t611 => (some (t611, true))) else (some (([] : List Int), false))) = some (r1, r2) := H
  have A3 := Aside0.mk A30
  clear A30
  by_cases c4 : t610 = true
  · subst c4
    have H1 : ((spec_suTake.f k l0 a1_0 a1_1 false).bind fun t611 => (some (t611, true))) = some (r1, r2) := by rw [if_pos rfl] at H; exact H
    clear H
    have H := H1
    clear H1
    replace H := Option.bind_eq_some_iff.mp H
    obtain ⟨t611, A50, H⟩ := H
    replace H : (some (t611, true)) = some (r1, r2) := H
    have A5 := Aside0.mk A50
    clear A50
    simp only [Option.some.injEq, Prod.mk.injEq] at H
    obtain ⟨rfl, rfl⟩ := H
    go_enter Try.func32, Try.ntmps32
    go_wp2_with (first | ((with_reducible refine gate_dst (N := 3) rfl ?_); refine box_event ?hg (N := 3) ?hd (cs := #[.int .i64 a1_0, .int .i64 a1_1]) (t := 30) ?hr ?_; (case hd => rfl); (case hg => rfl); (case hr => first | (go_simp; done) | (go_simp; rfl)); intro gb609 hg w6 hbox hb; have n0_ := Aside0.mk (below_step (by repeat (first | (with_reducible first | exact HB.out | apply below_alloc | apply pw_below_drewN | apply below_drew1) | exact HB.out)) hb); have n1_ := Aside0.mk (hbox); have n2_ := Aside0.mk ((by rw [hg]; exact (below_size (by repeat (first | (with_reducible first | exact HB.out | apply below_alloc | apply pw_below_drewN | apply below_drew1) | exact HB.out))) : w.heap.size ≤ gb609)); have n3_ := Aside0.mk ((by rw [hg]; exact (below_size (by repeat (first | (with_reducible first | exact HB.out | apply below_alloc | apply pw_below_drewN | apply below_drew1) | exact HB.out))) : w.heap.size ≤ gb609)); clear HB; have HB := n0_; have BK609 := n1_; have GW609 := n2_; have GE609 := n3_; clear n0_ n1_ n2_ n3_; clear hb hbox hg; have hcz7_0 : w6.cell? ⟨gb609, 0, none⟩ = some (.int .i64 a1_0) := (blk_cell BK609.out 0).trans rfl; have hcz7_1 : w6.cell? ⟨gb609, 1, none⟩ = some (.int .i64 a1_1) := (blk_cell BK609.out 1).trans rfl; have hfz7_0 := blk_frozen BK609.out 0; have hfz7_1 := blk_frozen BK609.out 1) | ((with_reducible refine gate_callee (f := 36) rfl ?_); refine goesL_ (some 8) rfl rfl Try.func36 (by kernel_rfl) rfl #[.slice A0 l0.length c0, .agg #[.int .i64 a1_0, .int .i64 a1_1]] rfl (by (try simp only [List.map_toArray, List.map_cons, List.map_nil]); first | done | rfl | (simp only [List.length_drop, List.length_take]; rfl)) ?_; (with_reducible refine (spec_suAsked.calls k _ _ l0 a1_0 a1_1 true _ ?side1 ?side2 A3.out).mono ?_); (case side1 => repeat (first | exact (Kd.C_below HR0.out HB.out) | (with_reducible refine Kd.C_alloc ?_ _) | (with_reducible refine Kd.C_drewN ?_ _) | (with_reducible refine Kd.C_drew ?_))); (case side2 => exact HC0.out); rintro e w8 ⟨rfl, hb⟩; refine ⟨_, rfl, ?_⟩; have n0_ := Aside0.mk (blk_below (g := gb609) (o := .cells #[.int .i64 a1_0, .int .i64 a1_1] 30 (0, 0)) (by (with_reducible repeat (first | refine blk_drewN ?_ _ | refine blk_drew ?_ | refine blk_alloc ?_ _)); exact BK609.out) hb); have n1_ := Aside0.mk (below_step (by repeat (first | (with_reducible first | exact HB.out | apply below_alloc | apply pw_below_drewN | apply below_drew1 | refine below_set ?_ GE609.out) | exact HB.out)) hb); clear BK609; clear HB; have BK609 := n0_; have HB := n1_; clear n0_ n1_; (try clear hb); (try clear hb2); (try clear hk); (try clear hi); have hcz9_0 : w8.cell? ⟨gb609, 0, none⟩ = some (.int .i64 a1_0) := (blk_cell BK609.out 0).trans rfl; have hcz9_1 : w8.cell? ⟨gb609, 1, none⟩ = some (.int .i64 a1_1) := (blk_cell BK609.out 1).trans rfl; have hfz9_0 := blk_frozen BK609.out 0; have hfz9_1 := blk_frozen BK609.out 1) | ((with_reducible refine gate_callee (f := 67) rfl ?_); refine goesL_ (some 12) rfl rfl Try.func67 (by kernel_rfl) rfl #[.slice A0 l0.length c0, .agg #[.int .i64 a1_0, .int .i64 a1_1], .bool false] rfl (by (try simp only [List.map_toArray, List.map_cons, List.map_nil]); first | done | rfl | (simp only [List.length_drop, List.length_take]; rfl)) ?_; (with_reducible refine (spec_suTake.calls k _ _ l0 a1_0 a1_1 false t611 _ ?side1 ?side2 A5.out).mono ?_); (case side1 => repeat (first | exact (Kd.C_below HR0.out HB.out) | (with_reducible refine Kd.C_alloc ?_ _) | (with_reducible refine Kd.C_drewN ?_ _) | (with_reducible refine Kd.C_drew ?_))); (case side2 => exact HC0.out); rintro e w10 ⟨v612, rfl, ho0, hb⟩; refine ⟨_, rfl, ?_⟩; have n0_ := Aside0.mk (Kd.R_lower ho0 (below_size (by repeat (first | (with_reducible first | exact HB.out | apply below_alloc | apply pw_below_drewN | apply below_drew1 | refine below_set ?_ GE609.out) | exact HB.out)))); have n1_ := Aside0.mk (blk_below (g := gb609) (o := .cells #[.int .i64 a1_0, .int .i64 a1_1] 30 (0, 0)) (by (with_reducible repeat (first | refine blk_drewN ?_ _ | refine blk_drew ?_ | refine blk_alloc ?_ _)); exact BK609.out) hb); have n2_ := Aside0.mk (below_step (by repeat (first | (with_reducible first | exact HB.out | apply below_alloc | apply pw_below_drewN | apply below_drew1 | refine below_set ?_ GE609.out) | exact HB.out)) hb); clear BK609; clear HB; have HO613 := n0_; have BK609 := n1_; have HB := n2_; clear n0_ n1_ n2_; (try clear hb); (try clear hb2); (try clear hk); (try clear hi); (try clear ho0)))
    go_ret2
    exact ⟨_, by first | rfl | (simp [errW_none, errW_some] <;> rfl) | (simp [*, errW_none, errW_some] <;> rfl), by (with_reducible repeat (first | apply Kd.R_alloc | apply Kd.R_drewN | apply Kd.R_drew)); exact HO613.out, by repeat (first | (with_reducible first | exact HB.out | apply below_alloc | apply pw_below_drewN | apply below_drew1 | refine below_set ?_ GE609.out) | exact HB.out)⟩
  · replace c4 := Bool.eq_false_iff.mpr c4
    subst c4
    have H1 : (some (([] : List Int), false)) = some (r1, r2) := by rw [if_neg (show ¬ (false = true) by decide)] at H; exact H
    clear H
    have H := H1
    clear H1
    simp only [Option.some.injEq, Prod.mk.injEq] at H
    obtain ⟨rfl, rfl⟩ := H
    go_enter Try.func32, Try.ntmps32
    go_wp2_with (first | ((with_reducible refine gate_dst (N := 3) rfl ?_); refine box_event ?hg (N := 3) ?hd (cs := #[.int .i64 a1_0, .int .i64 a1_1]) (t := 30) ?hr ?_; (case hd => rfl); (case hg => rfl); (case hr => first | (go_simp; done) | (go_simp; rfl)); intro gb609 hg w11 hbox hb; have n0_ := Aside0.mk (below_step (by repeat (first | (with_reducible first | exact HB.out | apply below_alloc | apply pw_below_drewN | apply below_drew1) | exact HB.out)) hb); have n1_ := Aside0.mk (hbox); have n2_ := Aside0.mk ((by rw [hg]; exact (below_size (by repeat (first | (with_reducible first | exact HB.out | apply below_alloc | apply pw_below_drewN | apply below_drew1) | exact HB.out))) : w.heap.size ≤ gb609)); have n3_ := Aside0.mk ((by rw [hg]; exact (below_size (by repeat (first | (with_reducible first | exact HB.out | apply below_alloc | apply pw_below_drewN | apply below_drew1) | exact HB.out))) : w.heap.size ≤ gb609)); clear HB; have HB := n0_; have BK609 := n1_; have GW609 := n2_; have GE609 := n3_; clear n0_ n1_ n2_ n3_; clear hb hbox hg; have hcz12_0 : w11.cell? ⟨gb609, 0, none⟩ = some (.int .i64 a1_0) := (blk_cell BK609.out 0).trans rfl; have hcz12_1 : w11.cell? ⟨gb609, 1, none⟩ = some (.int .i64 a1_1) := (blk_cell BK609.out 1).trans rfl; have hfz12_0 := blk_frozen BK609.out 0; have hfz12_1 := blk_frozen BK609.out 1) | ((with_reducible refine gate_callee (f := 36) rfl ?_); refine goesL_ (some 8) rfl rfl Try.func36 (by kernel_rfl) rfl #[.slice A0 l0.length c0, .agg #[.int .i64 a1_0, .int .i64 a1_1]] rfl (by (try simp only [List.map_toArray, List.map_cons, List.map_nil]); first | done | rfl | (simp only [List.length_drop, List.length_take]; rfl)) ?_; (with_reducible refine (spec_suAsked.calls k _ _ l0 a1_0 a1_1 false _ ?side1 ?side2 A3.out).mono ?_); (case side1 => repeat (first | exact (Kd.C_below HR0.out HB.out) | (with_reducible refine Kd.C_alloc ?_ _) | (with_reducible refine Kd.C_drewN ?_ _) | (with_reducible refine Kd.C_drew ?_))); (case side2 => exact HC0.out); rintro e w13 ⟨rfl, hb⟩; refine ⟨_, rfl, ?_⟩; have n0_ := Aside0.mk (blk_below (g := gb609) (o := .cells #[.int .i64 a1_0, .int .i64 a1_1] 30 (0, 0)) (by (with_reducible repeat (first | refine blk_drewN ?_ _ | refine blk_drew ?_ | refine blk_alloc ?_ _)); exact BK609.out) hb); have n1_ := Aside0.mk (below_step (by repeat (first | (with_reducible first | exact HB.out | apply below_alloc | apply pw_below_drewN | apply below_drew1 | refine below_set ?_ GE609.out) | exact HB.out)) hb); clear BK609; clear HB; have BK609 := n0_; have HB := n1_; clear n0_ n1_; (try clear hb); (try clear hb2); (try clear hk); (try clear hi)))
    go_ret2
    exact ⟨_, by first | rfl | (simp [errW_none, errW_some] <;> rfl) | (simp [*, errW_none, errW_some] <;> rfl), by first | exact Kd.R_nil _ _ _ _ _ | exact Kd.N_nil _ _ _ _ _ | exact Kd.V_nil _ _ _ _ _ | exact Kd.Q_nil _ _ _ _ _ | exact Kd.S_nil _ _ _ _ _, by repeat (first | (with_reducible first | exact HB.out | apply below_alloc | apply pw_below_drewN | apply below_drew1 | refine below_set ?_ GE609.out) | exact HB.out)⟩

end Go.Proofs.Ytkaihdpmjlhlaaa.Q

namespace Go.Proofs.Ytkaihdpmjlhlaaa.Q
open Go.RowKit Go.Proofs.YtkaihdpmjlhlaaaW.PrintWords Go.Proofs.YtkaihdpmjlhlaaaW.PrintLast Go.Proofs.YtkaihdpmjlhlaaaW.PrintMore
set_option linter.unusedVariables false
set_option linter.unusedSimpArgs false

theorem asked_cases (items : List Item) (a b : Int) (hm : items.length ≤ 10000000) : ∃ t : Bool, impl_arePacked.f items [⟨a, b⟩] = some t ∧ (∀ k, items.length < k → spec_suAsked.f k items a b = some t) ∧ (t = true → Light items ∧ 0 ≤ a ∧ 0 ≤ b ∧ items.length ≤ 10) := by
  obtain ⟨t, ht⟩ : ∃ t, impl_arePacked.f items [⟨a, b⟩] = some t := ⟨_, rfl⟩
  refine ⟨t, ht, fun k hk => (suAsked_eq items a b hm k hk).trans ht, fun h => ?_⟩
  subst h
  obtain ⟨h1, _, h2, h3, h4⟩ := packed_good ht
  exact ⟨light_of h1 h2, h3.1, h4.1, h1⟩
/-! the longest -/

/-- The spec's 'before', of two places. -/
def BefOk (items : List Item) (q : Bool) (lt : Int → Int → Bool) : Prop := ∀ x y : Int, 0 ≤ x → x < (items.length : Int) → 0 ≤ y → y < (items.length : Int) →
  spec_suBefore.f (rd_T49 items x).f0 (rd_T49 items x).f1 (rd_T49 items x).f2 (rd_T49 items y).f0 (rd_T49 items y).f1 (rd_T49 items y).f2 q = some (lt x y)
theorem bef_value (items : List Item) (h : Light items) : BefOk items false (ltZ (cfP items cmpValue)) := fun x y h1 h2 h3 h4 => by
  have a := h.2 x h1 h2
  have b := h.2 y h3 h4
  unfold spec_suBefore.f ltZ cfP cmpValue
  rw [if_neg (by decide), w64 (by omega) (by omega)]
  congr 1
  rw [decide_eq_decide]
  omega
theorem mul_bound {x y : Int} (h0 : 0 ≤ x) (h1 : x ≤ 1000) (h2 : 0 ≤ y) (h3 : y ≤ 1000) : 0 ≤ x * y ∧ x * y ≤ 1000000 :=
  ⟨Int.mul_nonneg h0 h2, by have := Int.mul_le_mul h1 h3 h2 (by omega); omega⟩
theorem bef_ratio (items : List Item) (h : Light items) : BefOk items true (ltZ (cfP items cmpRatio)) := fun x y h1 h2 h3 h4 => by
  have a := h.2 x h1 h2
  have b := h.2 y h3 h4
  unfold spec_suBefore.f ltZ cfP cmpRatio
  generalize rd_T49 items x = X at a ⊢
  generalize rd_T49 items y = Y at b ⊢
  rw [if_pos rfl, w64 (i := X.f0 + X.f1) (by omega) (by omega), w64 (i := Y.f0 + Y.f1) (by omega) (by omega)]
  by_cases c1 : X.f0 + X.f1 = 0
  · rw [if_pos c1, if_pos (Or.inl c1)]
    congr 1
    unfold bitZ
    rw [c1, if_neg (by decide)]
    by_cases c2 : 0 < Y.f0 + Y.f1
    · rw [decide_eq_true c2, if_pos rfl, w64 (by omega) (by omega)]; rfl
    · rw [decide_eq_false c2, if_neg (by decide), w64 (by omega) (by omega)]; rfl
  · rw [if_neg c1]
    by_cases c2 : Y.f0 + Y.f1 = 0
    · rw [if_pos c2, if_pos (Or.inr c2)]
      congr 1
      unfold bitZ
      rw [c2, decide_eq_true (show 0 < X.f0 + X.f1 by omega), if_pos rfl, if_neg (by decide), w64 (by omega) (by omega)]; rfl
    · rw [if_neg c2, if_neg (fun h => h.elim c1 c2)]
      have m1 := mul_bound (x := X.f2) (y := Y.f0 + Y.f1) (by omega) (by omega) (by omega) (by omega)
      have m2 := mul_bound (x := Y.f2) (y := X.f0 + X.f1) (by omega) (by omega) (by omega) (by omega)
      rw [w64 (i := X.f2 * (Y.f0 + Y.f1)) (by omega) (by omega), w64 (i := Y.f2 * (X.f0 + X.f1)) (by omega) (by omega), w64 (by omega) (by omega)]
      congr 1
      rw [decide_eq_decide]
      omega

theorem insR_mem (lt : Int → Int → Bool) (x y : Int) (l : List Int) : y ∈ insR lt x l ↔ y = x ∨ y ∈ l := by
  rw [(insR_perm lt x l).mem_iff]; simp
theorem take_l1 (items : List Item) (q : Bool) (lt : Int → Int → Bool) (hb : BefOk items q lt) (hn : items.length ≤ 1000) (a b : Int) (i : Nat) (hi : i < items.length) (ord : List Int) (hin : Inside items ord) (hl : ord.length ≤ 1000) :
    ∀ d k, d ≤ ord.length → d < k → ∃ m, k = m + (d + 1) - 0 ∧ True ∧
      (∃ k', k' + (d + 1) ≥ k ∧ k' ≤ k ∧ spec_suTake.l1 k items q ord (i : Int) (d : Int) items (items.length : Int) (i : Int) a b (rd_T49 items (i : Int)).f0 (rd_T49 items (i : Int)).f1 (rd_T49 items (i : Int)).f2 =
        spec_suTake.l0 k' items q ((insR lt (i : Int) (ord.take d).reverse).reverse ++ ord.drop d) items (items.length : Int) ((i + 1 : Nat) : Int) a b) := by
  intro d
  induction d with
  | zero =>
    intro k hd hk
    obtain ⟨k, rfl⟩ : ∃ m, k = m + 1 := ⟨k - 1, by omega⟩
    refine ⟨k, by omega, trivial, k, by omega, by omega, ?_⟩
    simp only [spec_suTake.l1, Option.bind_some]
    rw [if_neg (by omega), if_pos (by omega), if_pos (by omega), l1Own_eq _ (by simp)]
    simp only [Option.bind_some, Int.natCast_zero, Int.toNat_zero, List.take_zero, List.drop_zero, List.nil_append, List.length_nil, List.length_cons]
    rw [if_pos (by omega), if_pos (by omega), w64 (by omega) (by omega)]
    rfl
  | succ d ih =>
    intro k hd hk
    obtain ⟨k, rfl⟩ : ∃ m, k = m + 1 := ⟨k - 1, by omega⟩
    have hlt : d < ord.length := by omega
    have hx := hin _ (List.getElem_mem hlt)
    simp only [spec_suTake.l1, Option.bind_some]
    rw [if_pos (by omega), w64 (i := ((d + 1 : Nat) : Int) - 1) (by omega) (by omega), show ((d + 1 : Nat) : Int) - 1 = (d : Int) by omega, if_pos (by omega), if_pos (by omega), rd_nat ord d hlt, if_pos (by omega), if_pos (by omega), hb (i : Int) ord[d] (by omega) (by omega) hx.1 hx.2]
    simp only [Option.bind_some]
    rw [take_rev ord d hlt, insR]
    cases lt (i : Int) ord[d] with
    | true =>
      obtain ⟨m, _, _, k', h1, h2, h3⟩ := ih k (by omega) (by omega)
      refine ⟨k - (d + 1), by omega, trivial, k', by omega, by omega, ?_⟩
      rw [if_pos rfl, h3, if_pos rfl]
      congr 1
      rw [List.reverse_cons, List.append_assoc, List.drop_eq_getElem_cons hlt]
      rfl
    | false =>
      refine ⟨k - (d + 1), by omega, trivial, k, by omega, by omega, ?_⟩
      rw [if_neg (show ¬ (false = true) by decide), if_neg (show ¬ (false = true) by decide), if_pos (by omega), if_pos (by omega), show (((d + 1 : Nat) : Int)).toNat = d + 1 by omega, l1Own_eq _ (by simp; omega)]
      simp only [Option.bind_some, List.length_append, List.length_take, List.length_drop, List.length_cons, List.length_nil]
      rw [if_pos (by omega), if_pos (by omega), w64 (by omega) (by omega)]
      rw [List.reverse_cons, List.reverse_cons, List.reverse_reverse, List.take_add_one, List.getElem?_eq_getElem hlt]
      rfl
theorem take_l0 (items : List Item) (q : Bool) (lt : Int → Int → Bool) (hb : BefOk items q lt) (hn : items.length ≤ 1000) (a b : Int) (R : Option (List Int)) (K : Nat) (hR : ∀ k, K ≤ k → spec_suTake.l2 k items [] (sortL lt (upToL items.length)) (items.length : Int) 0 a b = R) :
    ∀ d k i (ord : List Int), i + d = items.length → ord.length = i → K + (d + 1) * 3000 ≤ k → (((List.range d).map fun j => ((i + j : Nat) : Int)).foldl (fun r x => insR lt x r) ord.reverse).reverse = sortL lt (upToL items.length) → Inside items ord → spec_suTake.l0 k items q ord items (items.length : Int) (i : Int) a b = R := by
  intro d
  induction d with
  | zero =>
    intro k i ord hi hl hk hs hin
    obtain ⟨k, rfl⟩ : ∃ m, k = m + 1 := ⟨k - 1, by omega⟩
    simp only [spec_suTake.l0, Option.bind_some]
    have hs2 : ord = sortL lt (upToL items.length) := by simpa using hs
    rw [if_neg (by omega), ← hR k (by omega), ← hs2, show ord.length = items.length by omega]
  | succ d ih =>
    intro k i ord hi hl hk hs hin
    obtain ⟨k, rfl⟩ : ∃ m, k = m + 1 := ⟨k - 1, by omega⟩
    simp only [spec_suTake.l0, Option.bind_some]
    rw [if_pos (by omega), if_pos (by omega), if_pos (by omega)]
    obtain ⟨m, _, _, k', h1, h2, h3⟩ := take_l1 items q lt hb hn a b i (by omega) ord hin (by omega) ord.length k (Nat.le_refl _) (by omega)
    refine h3.trans ?_
    rw [ List.take_length, List.drop_length, List.append_nil]
    refine ih k' (i + 1) _ (by omega) (by rw [List.length_reverse, insR_length, List.length_reverse, hl]) (by clear h3 ih hs hin hb; rw [Nat.succ_mul] at hk; generalize (d + 1) * 3000 = e at hk ⊢; omega) ?_ ?_
    · rw [← hs, List.reverse_reverse, List.range_succ_eq_map, List.map_cons, List.foldl_cons, List.map_map]
      congr 2
      congr 1
      funext j
      simp only [Function.comp]
      omega
    · intro x hx
      rw [List.mem_reverse, insR_mem] at hx
      rcases hx with rfl | hx
      · omega
      · exact hin x (List.mem_reverse.1 hx)
def putStep (items : List Item) (a b : Int) (o : List Int) (i : Int) : List Int := if holdsC a b (tot items (putL o i)) = true then putL o i else o
theorem putL_mem (l : List Int) (n x : Int) (h : x ∈ putL l n) : x ∈ l ∨ x = n := by
  induction l with
  | nil => simpa [putL] using h
  | cons y ys ih =>
    rw [putL] at h
    split at h
    · rcases List.mem_cons.1 h with h | h
      · exact Or.inl (h ▸ List.mem_cons_self)
      · rcases ih h with h | h
        · exact Or.inl (List.mem_cons_of_mem _ h)
        · exact Or.inr h
    · split at h
      · exact Or.inl h
      · rcases List.mem_cons.1 h with h | h
        · exact Or.inr h
        · exact Or.inl h
theorem putL_len (l : List Int) (n : Int) : (putL l n).length ≤ l.length + 1 := by
  induction l with
  | nil => simp [putL]
  | cons y ys ih =>
    rw [putL]
    split
    · simp; omega
    · split
      · simp
      · simp
theorem take_l2 (items : List Item) (hn : items.length ≤ 1000) (a b : Int) (ord : List Int) (hin : Inside items ord) (hl : ord.length ≤ 1000) : ∀ d k i (o : List Int), i + d = ord.length → Inside items o → o.length ≤ i → d * 10 + 5000 ≤ k →
    spec_suTake.l2 k items o ord (ord.length : Int) (i : Int) a b = some ((ord.drop i).foldl (putStep items a b) o) := by
  intro d
  induction d with
  | zero =>
    intro k i o hi ho hoi hk
    obtain ⟨k, rfl⟩ : ∃ m, k = m + 1 := ⟨k - 1, by omega⟩
    simp only [spec_suTake.l2, Option.bind_some]
    rw [if_neg (by omega), List.drop_of_length_le (by omega)]
    rfl
  | succ d ih =>
    intro k i o hi ho hoi hk
    obtain ⟨k, rfl⟩ : ∃ m, k = m + 1 := ⟨k - 1, by omega⟩
    have hlt : i < ord.length := by omega
    have hx := hin _ (List.getElem_mem hlt)
    have hip : Inside items (putL o ord[i]) := fun x h => by
      rcases putL_mem o _ x h with h | h
      · exact ho x h
      · rw [h]; exact hx
    have hpl := putL_len o ord[i]
    simp only [spec_suTake.l2, Option.bind_some]
    rw [if_pos (by omega), if_pos (by omega), if_pos (by omega), rd_nat ord i hlt, l1Own_eq _ (by omega)]
    simp only [Option.bind_some]
    rw [put_eq o _ (by omega) k (by omega)]
    simp only [Option.bind_some]
    rw [suFits_eq items a b _ hip (by omega) k (by omega), w64 (i := (i : Int) + 1) (by omega) (by omega), show (i : Int) + 1 = ((i + 1 : Nat) : Int) by omega, List.drop_eq_getElem_cons hlt, List.foldl_cons]
    simp only [Option.bind_some]
    unfold putStep
    by_cases hc : holdsC a b (tot items (putL o ord[i])) = true
    · rw [if_pos (by unfold holdsC at hc; exact hc), if_pos hc]
      exact ih k (i + 1) _ (by omega) hip (by omega) (by omega)
    · rw [if_neg (by unfold holdsC at hc; exact hc), if_neg hc]
      exact ih k (i + 1) _ (by omega) ho (by omega) (by omega)
/-! sorted, and of the same members -/
theorem putL_sorted : ∀ (l : List Int) (n : Int), l.Pairwise (· ≤ ·) → (putL l n).Pairwise (· ≤ ·)
  | [], n, _ => by simp [putL]
  | x :: xs, n, h => by
    obtain ⟨h1, h2⟩ := List.pairwise_cons.1 h
    rw [putL]
    split
    · rename_i hlt
      refine List.pairwise_cons.2 ⟨fun y hy => ?_, putL_sorted xs n h2⟩
      rcases putL_mem xs n y hy with hy | hy
      · exact h1 y hy
      · omega
    · split
      · exact h
      · refine List.pairwise_cons.2 ⟨fun y hy => ?_, h⟩
        rcases List.mem_cons.1 hy with hy | hy
        · omega
        · have := h1 y hy; omega
theorem sortZ_of {l1 l2 : List Int} (hp : l1.Perm l2) (hs : l1.Pairwise (· ≤ ·)) : sortZ l2 = l1 := by
  have e1 : (sortZ l2).Pairwise (· ≤ ·) := by
    have := List.pairwise_mergeSort (le := fun x y : Int => decide (x ≤ y)) (fun a b c h1 h2 => by simp at *; omega) (fun a b => by simp; omega) l2
    exact this.imp (fun h => by simpa using h)
  refine List.Perm.eq_of_pairwise (le := (· ≤ ·)) (fun a b _ _ h1 h2 => by omega) e1 hs ((List.mergeSort_perm l2 _).trans hp.symm)
theorem fold_both (items : List Item) (a b : Int) : ∀ (ord o1 o2 : List Int), o1.Perm o2 → o1.Pairwise (· ≤ ·) → (∀ x ∈ o1, x ∉ ord) → ord.Nodup →
    (ord.foldl (putStep items a b) o1).Perm (ord.foldl (packStep items a b) o2) ∧ (ord.foldl (putStep items a b) o1).Pairwise (· ≤ ·)
  | [], o1, o2, hp, hs, _, _ => ⟨hp, hs⟩
  | x :: ord, o1, o2, hp, hs, hd, hn => by
    rw [List.foldl_cons, List.foldl_cons]
    obtain ⟨hn1, hn2⟩ := List.nodup_cons.1 hn
    have hx : x ∉ o1 := fun h => hd x h List.mem_cons_self
    have hpp : (putL o1 x).Perm (o2 ++ [x]) := (putL_perm o1 x hx).trans (hp.append_right [x])
    have ht := tot_perm items hpp
    unfold putStep packStep
    rw [ht]
    split
    · refine fold_both items a b ord _ _ hpp (putL_sorted o1 x hs) (fun y hy hm => ?_) hn2
      rcases putL_mem o1 x y hy with h | h
      · exact hd y h (List.mem_cons_of_mem _ hm)
      · exact hn1 (h ▸ hm)
    · exact fold_both items a b ord _ _ hp hs (fun y hy hm => hd y hy (List.mem_cons_of_mem _ hm)) hn2
theorem upToL_nodup (n : Nat) : (upToL n).Nodup := by
  unfold upToL
  rw [List.nodup_iff_pairwise_ne, List.pairwise_map]
  exact (List.nodup_range (n := n)).imp (fun h e => h (by omega))
theorem take_eq (items : List Item) (q : Bool) (cf : Item → Item → Int) (hb : BefOk items q (ltZ (cfP items cf))) (hn : items.length ≤ 1000) (a b : Int) (k : Nat) (hk : 4000000 ≤ k) : spec_suTake.f k items a b q = some (packL items a b cf) := by
  have hol := orderL_length items cf
  have hoi := orderL_inside items cf
  have hnd : (orderL items cf).Nodup := (sortL_perm _ _).nodup_iff.2 (upToL_nodup _)
  have hl2 := fun k (hk : 20000 ≤ k) => take_l2 items hn a b (orderL items cf) hoi (by omega) items.length k 0 [] (by omega) (fun x hx => by cases hx) (by simp) (by omega)
  have hb2 := fold_both items a b (orderL items cf) [] [] (List.Perm.refl _) List.Pairwise.nil (fun x hx => by cases hx) hnd
  have hl0 := take_l0 items q (ltZ (cfP items cf)) hb hn a b (some (packL items a b cf)) 20000 (fun k hk => by
    have := hl2 k hk
    rw [hol, Int.natCast_zero, List.drop_zero] at this
    rw [show packL items a b cf = (orderL items cf).foldl (putStep items a b) [] from sortZ_of hb2.1 hb2.2]
    exact this) items.length k 0 [] (by omega) rfl (by omega) (by simp [sortL, upToL]) (fun x hx => by cases hx)
  unfold spec_suTake.f
  simpa using hl0
theorem pack_both (items : List Item) (q : Bool) (cf : Item → Item → Int) (hb : Light items → BefOk items q (ltZ (cfP items cf))) (a b : Int) (hm : items.length ≤ 10000000) : ∃ r : List Int × Bool, Ev (fun k => (spec_suAsked.f k items a b).bind fun t => (if t = true then ((spec_suTake.f k items a b q).bind fun u => (some (u, true))) else (some (([] : List Int), false)))) r ∧ Ev (fun _ => packF cf items a b) r ∧ r.1.length ≤ 10000000 := by
  obtain ⟨t, h1, h2, h3⟩ := asked_cases items a b hm
  unfold packF
  rw [h1]
  cases t with
  | false => exact ⟨([], false), Ev_from items.length fun k hk => by rw [h2 k hk]; rfl, Ev_from 0 fun k _ => rfl, by simp⟩
  | true =>
    obtain ⟨hL, _, _, hn⟩ := h3 rfl
    have hpos : 1 ≤ items.length := (packed_good h1).2.1
    refine ⟨(packL items a b cf, true), Ev_from 10000000 fun k hk => ?_, Ev_from 0 fun k _ => ?_, ?_⟩
    · rw [h2 k (by omega)]; simp only [Option.bind_some, if_true]; rw [take_eq items q cf (hb hL) (by omega) a b k (by omega)]; rfl
    · simp only [Option.bind_some, if_true]; rw [if_pos (by omega)]
    · show (sortZ _).length ≤ _
      rw [List.length_mergeSort]
      have key : ∀ (L o : List Int), (L.foldl (packStep items a b) o).length ≤ o.length + L.length := by
        intro L
        induction L with
        | nil => intro o; simp
        | cons x L ih =>
          intro o
          rw [List.foldl_cons]
          refine Nat.le_trans (ih _) ?_
          unfold packStep
          split <;> simp <;> omega
      have := key (orderL items cf) []
      have hol := orderL_length items cf
      simp at this
      omega
theorem packByValue_both (items : List Item) (a b : Int) (hm : items.length ≤ 10000000) : ∃ r : List Int × Bool, Ev (fun k => spec_PackByValue.f k items a b) r ∧ Ev (fun _ => impl_PackByValue.f items a b) r ∧ r.1.length ≤ 10000000 :=
  pack_both items false cmpValue (bef_value items) a b hm
theorem packByRatio_both (items : List Item) (a b : Int) (hm : items.length ≤ 10000000) : ∃ r : List Int × Bool, Ev (fun k => spec_PackByRatio.f k items a b) r ∧ Ev (fun _ => impl_PackByRatio.f items a b) r ∧ r.1.length ≤ 10000000 :=
  pack_both items true cmpRatio (bef_ratio items) a b hm
end Go.Proofs.Ytkaihdpmjlhlaaa.Q

namespace Go.Proofs.Ytkaihdpmjlhlaaa.Q
open Go.RowKit Go.Proofs.YtkaihdpmjlhlaaaW.PrintWords Go.Proofs.YtkaihdpmjlhlaaaW.PrintLast Go.Proofs.YtkaihdpmjlhlaaaW.PrintMore
set_option linter.unusedVariables false
set_option linter.unusedSimpArgs false

def marksItem (a : Int) (n : Nat) : List S49 := (List.range n).map fun (j : Nat) => ⟨a + 3 * (j : Int), a + 3 * (j : Int) + 1, a + 3 * (j : Int) + 2⟩
theorem marksItem_length (a : Int) (n : Nat) : (marksItem a n).length = n := by simp [marksItem]

theorem markItemS_l0 (a : Int) (n : Nat) (h0 : 0 ≤ a) (hn : a + 3 * n ≤ 100000000000000) : ∀ d k i (x : List S49), i + d = n → d < k → x.length = n →
    ∃ y, laws_markItemS.l0 k x (a + 3 * (i : Int)) (i : Int) = some (a + 3 * (n : Int), y) ∧ y.length = n := by
  intro d
  induction d with
  | zero =>
    intro k i x hi hk hx
    obtain ⟨k, rfl⟩ : ∃ m, k = m + 1 := ⟨k - 1, by omega⟩
    simp only [laws_markItemS.l0]; rw [if_neg (by omega)]
    have : i = n := by omega
    subst this
    exact ⟨x, rfl, hx⟩
  | succ d ih =>
    intro k i x hi hk hx
    obtain ⟨k, rfl⟩ : ∃ m, k = m + 1 := ⟨k - 1, by omega⟩
    simp only [laws_markItemS.l0]
    rw [if_pos (by omega), if_pos (by omega)]
    simp only [Option.bind_some]
    rw [w64Item (i := a + 3 * (i : Int) + 1) (by omega) (by omega), w64Item (i := a + 3 * (i : Int) + 1 + 1) (by omega) (by omega), w64Item (i := a + 3 * (i : Int) + 1 + 1 + 1) (by omega) (by omega), w64Item (i := (i : Int) + 1) (by omega) (by omega)]
    rw [show a + 3 * (i : Int) + 1 + 1 + 1 = a + 3 * ((i + 1 : Nat) : Int) by omega, show (i : Int) + 1 = ((i + 1 : Nat) : Int) by omega]
    exact ih k (i + 1) _ (by omega) (by omega) (by simp [hx])
/-- Marking counts on, whatever it writes. -/
theorem markItemS_eq (x : List S49) (a : Int) (h0 : 0 ≤ a) (hn : a + 3 * x.length ≤ 100000000000000) (k : Nat) (hk : x.length < k) : ∃ y, laws_markItemS.f k x a = some (a + 3 * (x.length : Int), y) := by
  unfold laws_markItemS.f
  obtain ⟨y, h, _⟩ := markItemS_l0 a x.length h0 hn x.length k 0 x (by omega) hk rfl
  exact ⟨y, by simpa using h⟩
theorem markItemS_ev (x : List S49) (h : x.length ≤ 10000000) (a : Int) (h0 : 0 ≤ a) (hn : a ≤ 10000000000) : ∃ y, Ev (fun k => laws_markItemS.f k x a) (a + 3 * (x.length : Int), y) := by
  obtain ⟨y, hy⟩ := markItemS_eq x a h0 (by omega) (x.length + 1) (by omega)
  exact ⟨y, Ev.of (fun k => laws_markItemS.mono x a k) hy⟩
end Go.Proofs.Ytkaihdpmjlhlaaa.Q
