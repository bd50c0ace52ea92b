/-
  Part 7 of the proof of FnExactPackByValue: what Go functions that it reaches compute, each shown by a walk of its code, and plain laws on numbers and lists.
  CONDITIONS: each theorem's own, as stated.
-/
import Derived.Test.YtkaihdpmjlhlaaaZFnExactPackByValue1
import Derived.Test.YtkaihdpmjlhlaaaZFnExactPackByValue4
import Derived.Test.YtkaihdpmjlhlaaaZFnExactPackByValue6
import Derived.Test.YtkaihdpmjlhlaaaZFnExactPackByValue2
import Derived.Test.YtkaihdpmjlhlaaaZFnExactPackByValue5
namespace Go.Proofs.Ytkaihdpmjlhlaaa.Q
open Go.RowKit Go.Proofs.YtkaihdpmjlhlaaaW.PrintWords Go.Proofs.YtkaihdpmjlhlaaaW.PrintLast Go.Proofs.YtkaihdpmjlhlaaaW.PrintMore
attribute [local go_sem] max2_int min2_int max_two min_two max_three min_three max_four min_four   -- for this text's walks alone
set_option linter.unusedVariables false
set_option linter.unusedSimpArgs false

/-! ### laws_FnExactPackByValue: function 9 -/
mutual
def laws_FnExactPackByValue.j0 : Nat → List (S51) → List Int → Bool → List (S49) → List Int → Bool → Bool → Int → Int → Option (Bool)
  | 0, _, _, _, _, _, _, _, _, _ => none
  | k + 1, x0, x6, x7, x8, x9, x10, x46, x615000, x615001 => if x46 = true then (some false) else ((laws_toItemS.f k x0).bind fun t635 => ((laws_eqItemS.f k x8 t635).bind fun t638 => (if t638 = true then ((laws_markItemS.f k x8 1).bind fun bt639 => (if bt639.1 < 0 then (laws_FnExactPackByValue.j1 k x0 x6 x7 x9 true x615000 x615001) else ((laws_eqIntS.f k x9 x6).bind fun t641 => (if t641 = true then (laws_FnExactPackByValue.j1 k x0 x6 x7 x9 (x10 != x7) x615000 x615001) else (laws_FnExactPackByValue.j1 k x0 x6 x7 x9 true x615000 x615001))))) else (some false))))
def laws_FnExactPackByValue.j1 : Nat → List (S51) → List Int → Bool → List Int → Bool → Int → Int → Option (Bool)
  | 0, _, _, _, _, _, _, _ => none
  | k + 1, x0, x6, x7, x9, x67, x615000, x615001 => if x67 = true then (some false) else ((laws_markIntS.f k x9 1).bind fun bt642 => ((laws_heldIntS.f k bt642.2 1).bind fun t644 => (if t644 < 0 then (some false) else (if t644 = bt642.1 then ((laws_toItemS.f k x0).bind fun t645 => ((laws_toCase.f x615000 x615001).bind fun bt648 => ((impl_PackByValue.f t645 bt648.1 bt648.2).bind fun bt650 => ((laws_eqIntS.f k bt650.1 x6).bind fun t654 => (if t654 = true then (laws_FnExactPackByValue.j2 k bt642.2 bt642.1 (bt650.2 != x7)) else (laws_FnExactPackByValue.j2 k bt642.2 bt642.1 true)))))) else (some false)))))
def laws_FnExactPackByValue.j2 : Nat → List Int → Int → Bool → Option (Bool)
  | 0, _, _, _ => none
  | k + 1, x9, x12, x95 => if x95 = true then (some false) else ((laws_heldIntS.f k x9 1).bind fun t655 => (if t655 < 0 then (some false) else (if t655 = x12 then (some true) else (some false))))
end
def laws_FnExactPackByValue.f (k : Nat) (l0 : List (S51)) (a1_0 : Int) (a1_1 : Int) : Option (Bool) := (laws_szItemS.f l0 1048576).bind fun t615 => (if t615 < 0 then (some true) else ((laws_toItemS.f k l0).bind fun t616 => ((laws_toCase.f a1_0 a1_1).bind fun bt619 => ((spec_PackByValue.f k t616 bt619.1 bt619.2).bind fun bt621 => ((laws_toItemS.f k l0).bind fun t625 => ((laws_toCase.f a1_0 a1_1).bind fun bt628 => ((impl_PackByValue.f t625 bt628.1 bt628.2).bind fun bt630 => ((laws_eqIntS.f k bt630.1 bt621.1).bind fun t634 => (if t634 = true then (laws_FnExactPackByValue.j0 k l0 bt621.1 bt621.2 t625 bt630.1 bt630.2 (bt630.2 != bt621.2) a1_0 a1_1) else (laws_FnExactPackByValue.j0 k l0 bt621.1 bt621.2 t625 bt630.1 bt630.2 true a1_0 a1_1))))))))))
theorem laws_FnExactPackByValue.mono_l : ∀ k, (∀ y0 y1 y2 y3 y4 y5 y6 y7 y8, LeO (laws_FnExactPackByValue.j0 k y0 y1 y2 y3 y4 y5 y6 y7 y8) (laws_FnExactPackByValue.j0 (k + 1) y0 y1 y2 y3 y4 y5 y6 y7 y8)) ∧ (∀ y0 y1 y2 y3 y4 y5 y6, LeO (laws_FnExactPackByValue.j1 k y0 y1 y2 y3 y4 y5 y6) (laws_FnExactPackByValue.j1 (k + 1) y0 y1 y2 y3 y4 y5 y6)) ∧ (∀ y0 y1 y2, LeO (laws_FnExactPackByValue.j2 k y0 y1 y2) (laws_FnExactPackByValue.j2 (k + 1) y0 y1 y2))
  | 0 => ⟨fun _ _ _ _ _ _ _ _ _ r h => by simp [laws_FnExactPackByValue.j0] at h, fun _ _ _ _ _ _ _ r h => by simp [laws_FnExactPackByValue.j1] at h, fun _ _ _ r h => by simp [laws_FnExactPackByValue.j2] at h⟩
  | k + 1 => by
    obtain ⟨ih0, ih1, ih2⟩ := laws_FnExactPackByValue.mono_l k
    refine ⟨?_, ?_, ?_⟩
    · intro y0 y1 y2 y3 y4 y5 y6 y7 y8
      unfold laws_FnExactPackByValue.j0
      repeat' first
      | (with_reducible exact ih0 _ _ _ _ _ _ _ _ _)
      | (with_reducible exact ih1 _ _ _ _ _ _ _)
      | (with_reducible exact ih2 _ _ _)
      | (with_reducible exact laws_eqIntS.mono _ _ _)
      | (with_reducible exact laws_eqItemS.mono _ _ _)
      | (with_reducible exact laws_heldIntS.mono _ _ _)
      | (with_reducible exact laws_markIntS.mono _ _ _)
      | (with_reducible exact laws_markItemS.mono _ _ _)
      | (with_reducible exact laws_toItemS.mono _ _)
      | (with_reducible exact spec_PackByValue.mono _ _ _ _)
      | (with_reducible exact LeO.refl _)
      | (with_reducible exact LeO.none _)
      | (with_reducible refine LeO.ite ?_ ?_)
      | (with_reducible refine LeO.bind ?_ (fun _ => ?_))
      | exact ih0 _ _ _ _ _ _ _ _ _
      | exact ih1 _ _ _ _ _ _ _
      | exact ih2 _ _ _
      | exact laws_eqIntS.mono _ _ _
      | exact laws_eqItemS.mono _ _ _
      | exact laws_heldIntS.mono _ _ _
      | exact laws_markIntS.mono _ _ _
      | exact laws_markItemS.mono _ _ _
      | exact laws_toItemS.mono _ _
      | exact spec_PackByValue.mono _ _ _ _
      | exact LeO.none _
      | refine LeO.ite ?_ ?_
      | refine LeO.bind ?_ (fun _ => ?_)
    · intro y0 y1 y2 y3 y4 y5 y6
      unfold laws_FnExactPackByValue.j1
      repeat' first
      | (with_reducible exact ih0 _ _ _ _ _ _ _ _ _)
      | (with_reducible exact ih1 _ _ _ _ _ _ _)
      | (with_reducible exact ih2 _ _ _)
      | (with_reducible exact laws_eqIntS.mono _ _ _)
      | (with_reducible exact laws_eqItemS.mono _ _ _)
      | (with_reducible exact laws_heldIntS.mono _ _ _)
      | (with_reducible exact laws_markIntS.mono _ _ _)
      | (with_reducible exact laws_markItemS.mono _ _ _)
      | (with_reducible exact laws_toItemS.mono _ _)
      | (with_reducible exact spec_PackByValue.mono _ _ _ _)
      | (with_reducible exact LeO.refl _)
      | (with_reducible exact LeO.none _)
      | (with_reducible refine LeO.ite ?_ ?_)
      | (with_reducible refine LeO.bind ?_ (fun _ => ?_))
      | exact ih0 _ _ _ _ _ _ _ _ _
      | exact ih1 _ _ _ _ _ _ _
      | exact ih2 _ _ _
      | exact laws_eqIntS.mono _ _ _
      | exact laws_eqItemS.mono _ _ _
      | exact laws_heldIntS.mono _ _ _
      | exact laws_markIntS.mono _ _ _
      | exact laws_markItemS.mono _ _ _
      | exact laws_toItemS.mono _ _
      | exact spec_PackByValue.mono _ _ _ _
      | exact LeO.none _
      | refine LeO.ite ?_ ?_
      | refine LeO.bind ?_ (fun _ => ?_)
    · intro y0 y1 y2
      unfold laws_FnExactPackByValue.j2
      repeat' first
      | (with_reducible exact ih0 _ _ _ _ _ _ _ _ _)
      | (with_reducible exact ih1 _ _ _ _ _ _ _)
      | (with_reducible exact ih2 _ _ _)
      | (with_reducible exact laws_eqIntS.mono _ _ _)
      | (with_reducible exact laws_eqItemS.mono _ _ _)
      | (with_reducible exact laws_heldIntS.mono _ _ _)
      | (with_reducible exact laws_markIntS.mono _ _ _)
      | (with_reducible exact laws_markItemS.mono _ _ _)
      | (with_reducible exact laws_toItemS.mono _ _)
      | (with_reducible exact spec_PackByValue.mono _ _ _ _)
      | (with_reducible exact LeO.refl _)
      | (with_reducible exact LeO.none _)
      | (with_reducible refine LeO.ite ?_ ?_)
      | (with_reducible refine LeO.bind ?_ (fun _ => ?_))
      | exact ih0 _ _ _ _ _ _ _ _ _
      | exact ih1 _ _ _ _ _ _ _
      | exact ih2 _ _ _
      | exact laws_eqIntS.mono _ _ _
      | exact laws_eqItemS.mono _ _ _
      | exact laws_heldIntS.mono _ _ _
      | exact laws_markIntS.mono _ _ _
      | exact laws_markItemS.mono _ _ _
      | exact laws_toItemS.mono _ _
      | exact spec_PackByValue.mono _ _ _ _
      | exact LeO.none _
      | refine LeO.ite ?_ ?_
      | refine LeO.bind ?_ (fun _ => ?_)
theorem laws_FnExactPackByValue.mono : ∀ a0 a1 a2 k, LeO (laws_FnExactPackByValue.f k a0 a1 a2) (laws_FnExactPackByValue.f (k + 1) a0 a1 a2) := by
  intro a0 a1 a2 k
  obtain ⟨ih0, ih1, ih2⟩ := laws_FnExactPackByValue.mono_l k
  unfold laws_FnExactPackByValue.f
  repeat' first
      | (with_reducible exact ih0 _ _ _ _ _ _ _ _ _)
      | (with_reducible exact ih1 _ _ _ _ _ _ _)
      | (with_reducible exact ih2 _ _ _)
      | (with_reducible exact laws_eqIntS.mono _ _ _)
      | (with_reducible exact laws_eqItemS.mono _ _ _)
      | (with_reducible exact laws_heldIntS.mono _ _ _)
      | (with_reducible exact laws_markIntS.mono _ _ _)
      | (with_reducible exact laws_markItemS.mono _ _ _)
      | (with_reducible exact laws_toItemS.mono _ _)
      | (with_reducible exact spec_PackByValue.mono _ _ _ _)
      | (with_reducible exact LeO.refl _)
      | (with_reducible exact LeO.none _)
      | (with_reducible refine LeO.ite ?_ ?_)
      | (with_reducible refine LeO.bind ?_ (fun _ => ?_))
      | exact ih0 _ _ _ _ _ _ _ _ _
      | exact ih1 _ _ _ _ _ _ _
      | exact ih2 _ _ _
      | exact laws_eqIntS.mono _ _ _
      | exact laws_eqItemS.mono _ _ _
      | exact laws_heldIntS.mono _ _ _
      | exact laws_markIntS.mono _ _ _
      | exact laws_markItemS.mono _ _ _
      | exact laws_toItemS.mono _ _
      | exact spec_PackByValue.mono _ _ _ _
      | exact LeO.none _
      | refine LeO.ite ?_ ?_
      | refine LeO.bind ?_ (fun _ => ?_)
def laws_FnExactPackByValue.T5 : Bool × List (List Nat × List Nat) := (true, [([], []), ([0], [0]), ([], []), ([2, 1], [2]), ([1, 3, 3], [1, 3]), ([4], [4]), ([5], [5]), ([5], [5]), ([6, 4, 0, 1, 2, 3, 4, 5, 6], [6]), ([7, 8, 0, 1, 2, 3, 4, 5, 6, 7, 8], [7])])
def laws_FnExactPackByValue.B5 : List Nat := [0, 1, 0, 7, 15, 31, 63, 63, 127, 511]
theorem laws_FnExactPackByValue.tab5 : rtab .any (opsOf Try.f9 5) = laws_FnExactPackByValue.T5 := by kernel_rfl
theorem laws_FnExactPackByValue.bits5 : waitsOk laws_FnExactPackByValue.T5.2 laws_FnExactPackByValue.B5 = true := by kernel_rfl
def laws_FnExactPackByValue.T24 : Bool × List (List Nat × List Nat) := (true, [([], []), ([0], [0]), ([], []), ([2, 1], [2]), ([1, 3, 3], [1, 3]), ([4], [4]), ([5], [5]), ([5], [5]), ([6, 4, 0, 1, 2, 3, 4, 5, 6], [6]), ([7, 8, 0, 1, 2, 3, 4, 5, 6, 7, 8], [7])])
def laws_FnExactPackByValue.B24 : List Nat := [0, 1, 0, 7, 15, 31, 63, 63, 127, 511]
theorem laws_FnExactPackByValue.tab24 : rtab .any (opsOf Try.f9 24) = laws_FnExactPackByValue.T24 := by kernel_rfl
theorem laws_FnExactPackByValue.bits24 : waitsOk laws_FnExactPackByValue.T24.2 laws_FnExactPackByValue.B24 = true := by kernel_rfl
set_option maxHeartbeats 8000000 in
set_option maxRecDepth 100000 in
theorem laws_FnExactPackByValue.calls (k : Nat) (A0 : Option Addr) (c0 : Nat) (l0 : List (S51)) (a1_0 : Int) (a1_1 : Int) (r : Bool) (w : World) (hr0 : Kd.C k51 w A0 l0.length l0) (hc0 : l0.length ≤ c0) (h : laws_FnExactPackByValue.f k l0 a1_0 a1_1 = some r) :
    Calls Try.prog 9 #[.slice A0 l0.length c0, .agg #[.int .i64 a1_0, .int .i64 a1_1]] w fun e w' => e = .returned (.bool r) ∧ Below w.heap.size w w' := by
  have hu24 := Try.underlying24
  have HR0 := Aside0.mk hr0
  have HC0 := Aside0.mk hc0
  clear hr0 hc0
  have HB := Aside0.mk (Below.refl w.heap.size w)
  have H : ((laws_szItemS.f l0 1048576).bind fun t615 => (if t615 < 0 then (some true) else ((laws_toItemS.f k l0).bind fun t616 => ((laws_toCase.f a1_0 a1_1).bind fun bt619 => ((spec_PackByValue.f k t616 bt619.1 bt619.2).bind fun bt621 => ((laws_toItemS.f k l0).bind fun t625 => ((laws_toCase.f a1_0 a1_1).bind fun bt628 => ((impl_PackByValue.f t625 bt628.1 bt628.2).bind fun bt630 => ((laws_eqIntS.f k bt630.1 bt621.1).bind fun t634 => (if t634 = true then (laws_FnExactPackByValue.j0 k l0 bt621.1 bt621.2 t625 bt630.1 bt630.2 (bt630.2 != bt621.2) a1_0 a1_1) else (laws_FnExactPackByValue.j0 k l0 bt621.1 bt621.2 t625 bt630.1 bt630.2 true a1_0 a1_1))))))))))) = some r := h
  clear h
  replace H := Option.bind_eq_some_iff.mp H
  obtain ⟨t615, A30, H⟩ := H
  replace H : (if t615 < 0 then (some true) else ((laws_toItemS.f k l0).bind fun t616 => ((laws_toCase.f a1_0 a1_1).bind fun bt619 => ((spec_PackByValue.f k t616 bt619.1 bt619.2).bind fun bt621 => ((laws_toItemS.f k l0).bind fun t625 => ((laws_toCase.f a1_0 a1_1).bind fun bt628 => ((impl_PackByValue.f t625 bt628.1 bt628.2).bind fun bt630 => ((laws_eqIntS.f k bt630.1 bt621.1).bind fun t634 => (if t634 = true then (laws_FnExactPackByValue.j0 k l0 bt621.1 bt621.2 t625 bt630.1 bt630.2 (bt630.2 != bt621.2) a1_0 a1_1) else (laws_FnExactPackByValue.j0 k l0 bt621.1 bt621.2 t625 bt630.1 bt630.2 true a1_0 a1_1)))))))))) = some r := H
  have A3 := Aside0.mk A30
  clear A30
  by_cases c4 : t615 < 0
  · rw [if_pos c4] at H
    have c4b0 : decide (t615 < 0) = true := decide_eq_true c4
    clear c4
    obtain rfl := Option.some.inj H
    go_enter Try.func9, Try.ntmps9
    go_wp2_with (first | ((with_reducible refine gate_dst (N := 3) rfl ?_); refine box_event ?hg (N := 3) ?hd (cs := #[.int .i64 a1_0, .int .i64 a1_1]) (t := 24) ?hr ?_; (case hd => rfl); (case hg => rfl); (case hr => first | (go_simp; done) | (go_simp; rfl)); intro gb614 hg w5 hbox hb; have n0_ := Aside0.mk (below_step (by repeat (first | (with_reducible first | exact HB.out | apply below_alloc | apply pw_below_drewN | apply below_drew1) | exact HB.out)) hb); have n1_ := Aside0.mk (hbox); have n2_ := Aside0.mk ((by rw [hg]; exact (below_size (by repeat (first | (with_reducible first | exact HB.out | apply below_alloc | apply pw_below_drewN | apply below_drew1) | exact HB.out))) : w.heap.size ≤ gb614)); have n3_ := Aside0.mk ((by rw [hg]; exact (below_size (by repeat (first | (with_reducible first | exact HB.out | apply below_alloc | apply pw_below_drewN | apply below_drew1) | exact HB.out))) : w.heap.size ≤ gb614)); clear HB; have HB := n0_; have BK614 := n1_; have GW614 := n2_; have GE614 := n3_; clear n0_ n1_ n2_ n3_; clear hb hbox hg) | ((with_reducible refine gate_callee (f := 11) rfl ?_); refine goesL_ (some 18) rfl rfl Try.func11 (by kernel_rfl) rfl #[.slice A0 l0.length c0, .int .i64 1048576] rfl (by (try simp only [List.map_toArray, List.map_cons, List.map_nil]); first | done | rfl | (simp only [List.length_drop, List.length_take]; rfl)) ?_; (with_reducible refine (laws_szItemS.calls _ _ l0 1048576 t615 _ ?side1 ?side2 A3.out).mono ?_); (case side1 => repeat (first | exact (Kd.C_below HR0.out HB.out) | (with_reducible refine Kd.C_alloc ?_ _) | (with_reducible refine Kd.C_drewN ?_ _) | (with_reducible refine Kd.C_drew ?_))); (case side2 => exact HC0.out); rintro e w' ⟨rfl, ⟨nd, rfl⟩⟩; refine ⟨_, rfl, ?_⟩))
    go_ret
    exact ⟨by first | rfl | (simp [errW_none, errW_some] <;> rfl) | (simp [*, errW_none, errW_some] <;> rfl), by repeat (first | (with_reducible first | exact HB.out | apply below_alloc | apply pw_below_drewN | apply below_drew1 | refine below_set ?_ GE614.out) | exact HB.out)⟩
  · rw [if_neg c4] at H
    have c4b0 : decide (t615 < 0) = false := decide_eq_false c4
    clear c4
    replace H := Option.bind_eq_some_iff.mp H
    obtain ⟨t616, A60, H⟩ := H
    replace H : ((laws_toCase.f a1_0 a1_1).bind fun bt619 => ((spec_PackByValue.f k t616 bt619.1 bt619.2).bind fun bt621 => ((laws_toItemS.f k l0).bind fun t625 => ((laws_toCase.f a1_0 a1_1).bind fun bt628 => ((impl_PackByValue.f t625 bt628.1 bt628.2).bind fun bt630 => ((laws_eqIntS.f k bt630.1 bt621.1).bind fun t634 => (if t634 = true then (laws_FnExactPackByValue.j0 k l0 bt621.1 bt621.2 t625 bt630.1 bt630.2 (bt630.2 != bt621.2) a1_0 a1_1) else (laws_FnExactPackByValue.j0 k l0 bt621.1 bt621.2 t625 bt630.1 bt630.2 true a1_0 a1_1)))))))) = some r := H
    have A6 := Aside0.mk A60
    clear A60
    replace H := Option.bind_eq_some_iff.mp H
    obtain ⟨⟨t619, t620⟩, A70, H⟩ := H
    replace H : ((spec_PackByValue.f k t616 t619 t620).bind fun bt621 => ((laws_toItemS.f k l0).bind fun t625 => ((laws_toCase.f a1_0 a1_1).bind fun bt628 => ((impl_PackByValue.f t625 bt628.1 bt628.2).bind fun bt630 => ((laws_eqIntS.f k bt630.1 bt621.1).bind fun t634 => (if t634 = true then (laws_FnExactPackByValue.j0 k l0 bt621.1 bt621.2 t625 bt630.1 bt630.2 (bt630.2 != bt621.2) a1_0 a1_1) else (laws_FnExactPackByValue.j0 k l0 bt621.1 bt621.2 t625 bt630.1 bt630.2 true a1_0 a1_1))))))) = some r := H
    have A7 := Aside0.mk A70
    clear A70
    replace H := Option.bind_eq_some_iff.mp H
    obtain ⟨⟨t621, t624⟩, A80, H⟩ := H
    replace H : ((laws_toItemS.f k l0).bind fun t625 => ((laws_toCase.f a1_0 a1_1).bind fun bt628 => ((impl_PackByValue.f t625 bt628.1 bt628.2).bind fun bt630 => ((laws_eqIntS.f k bt630.1 t621).bind fun t634 => (if t634 = true then (laws_FnExactPackByValue.j0 k l0 t621 t624 t625 bt630.1 bt630.2 (bt630.2 != t624) a1_0 a1_1) else (laws_FnExactPackByValue.j0 k l0 t621 t624 t625 bt630.1 bt630.2 true a1_0 a1_1)))))) = some r := H
    have A8 := Aside0.mk A80
    clear A80
    replace H := Option.bind_eq_some_iff.mp H
    obtain ⟨t625, A90, H⟩ := H
    replace H : ((laws_toCase.f a1_0 a1_1).bind fun bt628 => ((impl_PackByValue.f t625 bt628.1 bt628.2).bind fun bt630 => ((laws_eqIntS.f k bt630.1 t621).bind fun t634 => (if t634 = true then (laws_FnExactPackByValue.j0 k l0 t621 t624 t625 bt630.1 bt630.2 (bt630.2 != t624) a1_0 a1_1) else (laws_FnExactPackByValue.j0 k l0 t621 t624 t625 bt630.1 bt630.2 true a1_0 a1_1))))) = some r := H
    have A9 := Aside0.mk A90
    clear A90
    replace H := Option.bind_eq_some_iff.mp H
    obtain ⟨⟨t628, t629⟩, A100, H⟩ := H
    replace H : ((impl_PackByValue.f t625 t628 t629).bind fun bt630 => ((laws_eqIntS.f k bt630.1 t621).bind fun t634 => (if t634 = true then (laws_FnExactPackByValue.j0 k l0 t621 t624 t625 bt630.1 bt630.2 (bt630.2 != t624) a1_0 a1_1) else (laws_FnExactPackByValue.j0 k l0 t621 t624 t625 bt630.1 bt630.2 true a1_0 a1_1)))) = some r := H
    have A10 := Aside0.mk A100
    clear A100
    replace H := Option.bind_eq_some_iff.mp H
    obtain ⟨⟨t630, t633⟩, A110, H⟩ := H
    replace H : ((laws_eqIntS.f k t630 t621).bind fun t634 => (if t634 = true then (laws_FnExactPackByValue.j0 k l0 t621 t624 t625 t630 t633 (t633 != t624) a1_0 a1_1) else (laws_FnExactPackByValue.j0 k l0 t621 t624 t625 t630 t633 true a1_0 a1_1))) = some r := H
    have A11 := Aside0.mk A110
    clear A110
    have HC12 := Aside0.mk H
    clear H
    go_enter Try.func9, Try.ntmps9
    try go_wp2_with (first | ((with_reducible refine gate_dst (N := 3) rfl ?_); refine box_event ?hg (N := 3) ?hd (cs := #[.int .i64 a1_0, .int .i64 a1_1]) (t := 24) ?hr ?_; (case hd => rfl); (case hg => rfl); (case hr => first | (go_simp; done) | (go_simp; rfl)); intro gb614 hg w13 hbox hb; have n0_ := Aside0.mk (below_step (by repeat (first | (with_reducible first | exact HB.out | apply below_alloc | apply pw_below_drewN | apply below_drew1) | exact HB.out)) hb); have n1_ := Aside0.mk (hbox); have n2_ := Aside0.mk ((by rw [hg]; exact (below_size (by repeat (first | (with_reducible first | exact HB.out | apply below_alloc | apply pw_below_drewN | apply below_drew1) | exact HB.out))) : w.heap.size ≤ gb614)); have n3_ := Aside0.mk ((by rw [hg]; exact (below_size (by repeat (first | (with_reducible first | exact HB.out | apply below_alloc | apply pw_below_drewN | apply below_drew1) | exact HB.out))) : w.heap.size ≤ gb614)); clear HB; have HB := n0_; have BK614 := n1_; have GW614 := n2_; have GE614 := n3_; clear n0_ n1_ n2_ n3_; clear hb hbox hg) | ((with_reducible refine gate_callee (f := 11) rfl ?_); refine goesL_ (some 18) rfl rfl Try.func11 (by kernel_rfl) rfl #[.slice A0 l0.length c0, .int .i64 1048576] rfl (by (try simp only [List.map_toArray, List.map_cons, List.map_nil]); first | done | rfl | (simp only [List.length_drop, List.length_take]; rfl)) ?_; (with_reducible refine (laws_szItemS.calls _ _ l0 1048576 t615 _ ?side1 ?side2 A3.out).mono ?_); (case side1 => repeat (first | exact (Kd.C_below HR0.out HB.out) | (with_reducible refine Kd.C_alloc ?_ _) | (with_reducible refine Kd.C_drewN ?_ _) | (with_reducible refine Kd.C_drew ?_))); (case side2 => exact HC0.out); rintro e w' ⟨rfl, ⟨nd, rfl⟩⟩; refine ⟨_, rfl, ?_⟩))
    (try (rw [drewN_self w13]; generalize hq_ : World.drewN w13 _ = w13; have n0_ : Aside0 (w13.heap[gb614]? = some (.cells #[.int .i64 a1_0, .int .i64 a1_1] 24 (0, 0))) := ⟨by rw [← hq_]; exact (by (with_reducible repeat (first | refine blk_drewN ?_ _ | refine blk_drew ?_ | refine blk_alloc ?_ _)); exact BK614.out)⟩; have n1_ : Aside0 (Below w.heap.size w w13) := ⟨by rw [← hq_]; exact (by repeat (first | (with_reducible first | exact HB.out | apply below_alloc | apply pw_below_drewN | apply below_drew1 | refine below_set ?_ GE614.out) | exact HB.out))⟩; clear BK614 HB hq_; have BK614 := n0_; have HB := n1_; clear n0_ n1_))
    have n0_ := Aside0.mk (blk_drew BK614.out)
    have n1_ := Aside0.mk (below_drew1 HB.out)
    clear BK614
    clear HB
    have BK614 := n0_
    have HB := n1_
    clear n0_ n1_
    refine start_ (n := 10) (S := fun w' => w'.cell? ⟨gb614, 0, none⟩ = some (.int .i64 a1_0) ∧ w'.cell? ⟨gb614, 1, none⟩ = some (.int .i64 a1_1)) (ds := []) #[false, false, false, false, false, false, false, false, false, false] (by kernel_rfl) rfl rfl ⟨(blk_cell BK614.out 0).trans rfl, (blk_cell BK614.out 1).trans rfl⟩ (fun hHeld => ?_); refine with_tabW laws_FnExactPackByValue.tab5 laws_FnExactPackByValue.bits5 (fun HT_ HW_ => ?_)
    generalize w13.drew = w14 at BK614 HB hHeld ⊢
    refine pure_ (i := 0) (N := some 22) (v := ?_) (a' := ?_) #[true, false, false, false, false, false, false, false, false, false] rfl rfl (any_of HT_.out (by kernel_rfl)) (fun _ _ _ h => h) (Or.inl ⟨by rfl, ?_⟩) ?_ ?_
    rotate_left
    · intro w'
      go_simp
      with_reducible rfl
    rotate_left
    · simp only [Act.put, List.setIfInBounds_toArray, List.set_cons_zero, List.set_cons_succ, i64_w, i32_w]
      rfl
    refine take_ (i := 2) (N := some 24) (v := ?_) (a' := ?_) #[true, false, true, false, false, false, false, false, false, false] rfl rfl (take_ofW HT_.out HW_.out (by kernel_rfl)) (fun _ _ _ h => h) (Or.inl ⟨by rfl, ?_⟩) hHeld ?_ ?_
    rotate_left
    · rintro w' ⟨s0, s1⟩
      go_simp
      with_reducible rfl
    rotate_left
    · simp only [Act.put, List.setIfInBounds_toArray, List.set_cons_zero, List.set_cons_succ, i64_w, i32_w]
      rfl
    refine one_ (i := 1) (N := some 23) #[true, true, true, false, false, false, false, false, false, false] rfl rfl (one_of HT_.out (by kernel_rfl)) (by decide) (fun K hK => ?_)
    refine goes_ Try.func13 (by kernel_rfl) rfl #[.slice A0 l0.length c0] (by rfl) rfl rfl (by (try simp only [List.map_toArray, List.map_cons, List.map_nil]); first | done | rfl | (simp only [List.length_drop, List.length_take]; rfl)) ?_
    with_reducible refine (laws_toItemS.calls k _ _ l0 t616 _ ?side1 ?side2 A6.out).mono ?_
    (case side1 => repeat (first | exact (Kd.C_below HR0.out HB.out) | (with_reducible refine Kd.C_alloc ?_ _) | (with_reducible refine Kd.C_drewN ?_ _) | (with_reducible refine Kd.C_drew ?_)))
    (case side2 => exact HC0.out)
    rintro e w15 ⟨v617, rfl, ho0, hb⟩
    refine ⟨_, rfl, ?_⟩
    have n0_ := Aside0.mk (Kd.R_lower ho0 (below_size (by repeat (first | (with_reducible first | exact HB.out | apply below_alloc | apply pw_below_drewN | apply below_drew1 | refine below_set ?_ GE614.out) | exact HB.out))))
    have n1_ := Aside0.mk (blk_below (g := gb614) (o := .cells #[.int .i64 a1_0, .int .i64 a1_1] 24 (0, 0)) (by (with_reducible repeat (first | refine blk_drewN ?_ _ | refine blk_drew ?_ | refine blk_alloc ?_ _)); exact BK614.out) hb)
    have n2_ := Aside0.mk (below_step (by repeat (first | (with_reducible first | exact HB.out | apply below_alloc | apply pw_below_drewN | apply below_drew1 | refine below_set ?_ GE614.out) | exact HB.out)) hb)
    clear BK614
    clear HB
    have HO618 := n0_
    have BK614 := n1_
    have HB := n2_
    clear n0_ n1_ n2_
    (try clear hb)
    (try clear hb2)
    (try clear hk)
    (try clear hi)
    (try clear ho0)
    refine hK.out _ _ ⟨(blk_cell BK614.out 0).trans rfl, (blk_cell BK614.out 1).trans rfl⟩ (fun hHeld => ?_)
    clear hK K
    refine norm_ (a' := ?_) ?_ ?_
    rotate_left
    · show Act.put _ (some 23) _ = _
      simp only [Act.put, List.setIfInBounds_toArray, List.set_cons_zero, List.set_cons_succ, i64_w, i32_w]
      rfl
    refine one_ (i := 3) (N := some 25) #[true, true, true, true, false, false, false, false, false, false] rfl rfl (one_of HT_.out (by kernel_rfl)) (by decide) (fun K hK => ?_)
    refine goes_ Try.func14 (by kernel_rfl) rfl #[.agg #[.int .i64 a1_0, .int .i64 a1_1]] (by rfl) rfl rfl (by (try simp only [List.map_toArray, List.map_cons, List.map_nil]); first | done | rfl | (simp only [List.length_drop, List.length_take]; rfl)) ?_
    with_reducible refine (laws_toCase.calls a1_0 a1_1 t619 t620 _ A7.out).mono ?_
    rintro e w16 ⟨rfl, hb⟩
    refine ⟨_, rfl, ?_⟩
    have n0_ := Aside0.mk (Kd.R_below (by (with_reducible repeat (first | apply Kd.R_alloc | apply Kd.R_drewN | apply Kd.R_drew)); exact HO618.out) hb)
    have n1_ := Aside0.mk (blk_below (g := gb614) (o := .cells #[.int .i64 a1_0, .int .i64 a1_1] 24 (0, 0)) (by (with_reducible repeat (first | refine blk_drewN ?_ _ | refine blk_drew ?_ | refine blk_alloc ?_ _)); exact BK614.out) hb)
    have n2_ := Aside0.mk (below_step (by repeat (first | (with_reducible first | exact HB.out | apply below_alloc | apply pw_below_drewN | apply below_drew1 | refine below_set ?_ GE614.out) | exact HB.out)) hb)
    clear HO618
    clear BK614
    clear HB
    have HO618 := n0_
    have BK614 := n1_
    have HB := n2_
    clear n0_ n1_ n2_
    (try clear hb)
    (try clear hb2)
    (try clear hk)
    (try clear hi)
    obtain ⟨Ao17, co17, eo17⟩ := Kd.R_slice HO618.out
    (first | subst eo17 | (injection eo17 with f1_ f2_ f3_; have f4_ := f1_.symm; have f5_ := f3_.symm; clear f1_ f2_ f3_; subst f4_; subst f5_))
    refine hK.out _ _ ⟨(blk_cell BK614.out 0).trans rfl, (blk_cell BK614.out 1).trans rfl⟩ (fun hHeld => ?_)
    clear hK K
    refine norm_ (a' := ?_) ?_ ?_
    rotate_left
    · show Act.put _ (some 25) _ = _
      simp only [Act.put, List.setIfInBounds_toArray, List.set_cons_zero, List.set_cons_succ, i64_w, i32_w]
      rfl
    refine one_ (i := 4) (N := some 26) #[true, true, true, true, true, false, false, false, false, false] rfl rfl (one_of HT_.out (by kernel_rfl)) (by decide) (fun K hK => ?_)
    refine goes_ Try.func32 (by kernel_rfl) rfl #[.slice Ao17 t616.length co17, .agg #[.int .i64 t619, .int .i64 t620]] (by rfl) rfl rfl (by (try simp only [List.map_toArray, List.map_cons, List.map_nil]); first | done | rfl | (simp only [List.length_drop, List.length_take]; rfl)) ?_
    with_reducible refine (spec_PackByValue.calls k _ _ t616 t619 t620 t621 t624 _ ?side1 ?side2 A8.out).mono ?_
    (case side1 => repeat (first | exact (Kd.R_reads' HO618.out).2.2 | (with_reducible refine Kd.C_alloc ?_ _) | (with_reducible refine Kd.C_drewN ?_ _) | (with_reducible refine Kd.C_drew ?_)))
    (case side2 => exact (Kd.R_reads' HO618.out).2.1)
    rintro e w18 ⟨v622, rfl, ho0, hb⟩
    refine ⟨_, rfl, ?_⟩
    have n0_ := Aside0.mk (Kd.R_below (by (with_reducible repeat (first | apply Kd.R_alloc | apply Kd.R_drewN | apply Kd.R_drew)); exact HO618.out) hb)
    have n1_ := Aside0.mk (Kd.R_lower ho0 (below_size (by repeat (first | (with_reducible first | exact HB.out | apply below_alloc | apply pw_below_drewN | apply below_drew1 | refine below_set ?_ GE614.out) | exact HB.out))))
    have n2_ := Aside0.mk (blk_below (g := gb614) (o := .cells #[.int .i64 a1_0, .int .i64 a1_1] 24 (0, 0)) (by (with_reducible repeat (first | refine blk_drewN ?_ _ | refine blk_drew ?_ | refine blk_alloc ?_ _)); exact BK614.out) hb)
    have n3_ := Aside0.mk (below_step (by repeat (first | (with_reducible first | exact HB.out | apply below_alloc | apply pw_below_drewN | apply below_drew1 | refine below_set ?_ GE614.out) | exact HB.out)) hb)
    clear HO618
    clear BK614
    clear HB
    have HO618 := n0_
    have HO623 := n1_
    have BK614 := n2_
    have HB := n3_
    clear n0_ n1_ n2_ n3_
    (try clear hb)
    (try clear hb2)
    (try clear hk)
    (try clear hi)
    (try clear ho0)
    refine hK.out _ _ ⟨(blk_cell BK614.out 0).trans rfl, (blk_cell BK614.out 1).trans rfl⟩ (fun hHeld => ?_)
    clear hK K
    refine norm_ (a' := ?_) ?_ ?_
    rotate_left
    · show Act.put _ (some 26) _ = _
      simp only [Act.put, List.setIfInBounds_toArray, List.set_cons_zero, List.set_cons_succ, i64_w, i32_w]
      rfl
    refine pure_ (i := 5) (N := some 21) (v := ?_) (a' := ?_) #[true, true, true, true, true, true, false, false, false, false] rfl rfl (any_of HT_.out (by kernel_rfl)) (fun _ _ _ h => h) (Or.inl ⟨by rfl, ?_⟩) ?_ ?_
    rotate_left
    · intro w'
      go_simp
      with_reducible rfl
    rotate_left
    · simp only [Act.put, List.setIfInBounds_toArray, List.set_cons_zero, List.set_cons_succ, i64_w, i32_w]
      rfl
    refine pure_ (i := 6) (N := some 27) (v := ?_) (a' := ?_) #[true, true, true, true, true, true, true, false, false, false] rfl rfl (any_of HT_.out (by kernel_rfl)) (fun _ _ _ h => h) (Or.inl ⟨by rfl, ?_⟩) ?_ ?_
    rotate_left
    · intro w'
      go_simp
      with_reducible rfl
    rotate_left
    · simp only [Act.put, List.setIfInBounds_toArray, List.set_cons_zero, List.set_cons_succ, i64_w, i32_w]
      rfl
    refine pure_ (i := 7) (N := some 28) (v := ?_) (a' := ?_) #[true, true, true, true, true, true, true, true, false, false] rfl rfl (any_of HT_.out (by kernel_rfl)) (fun _ _ _ h => h) (Or.inl ⟨by rfl, ?_⟩) ?_ ?_
    rotate_left
    · intro w'
      go_simp
      with_reducible rfl
    rotate_left
    · simp only [Act.put, List.setIfInBounds_toArray, List.set_cons_zero, List.set_cons_succ, i64_w, i32_w]
      rfl
    refine pure_ (i := 8) (N := some 6) (v := ?_) (a' := ?_) #[true, true, true, true, true, true, true, true, true, false] rfl rfl (any_of HT_.out (by kernel_rfl)) (fun _ _ _ h => h) (Or.inl ⟨by rfl, ?_⟩) ?_ ?_
    rotate_left
    · intro w'
      go_simp
      with_reducible rfl
    rotate_left
    · simp only [Act.put, List.setIfInBounds_toArray, List.set_cons_zero, List.set_cons_succ, i64_w, i32_w]
      rfl
    refine pure_ (i := 9) (N := some 7) (v := ?_) (a' := ?_) #[true, true, true, true, true, true, true, true, true, true] rfl rfl (any_of HT_.out (by kernel_rfl)) (fun _ _ _ h => h) (Or.inl ⟨by rfl, ?_⟩) ?_ ?_
    rotate_left
    · intro w'
      go_simp
      with_reducible rfl
    rotate_left
    · simp only [Act.put, List.setIfInBounds_toArray, List.set_cons_zero, List.set_cons_succ, i64_w, i32_w]
      rfl
    refine done_ (done_of HT_.out (by kernel_rfl)) ?_
    go_upto_region 8 with (first | ((with_reducible refine gate_callee (f := 13) rfl ?_); refine goesL_ (some 30) rfl rfl Try.func13 (by kernel_rfl) rfl #[.slice A0 l0.length c0] rfl (by (try simp only [List.map_toArray, List.map_cons, List.map_nil]); first | done | rfl | (simp only [List.length_drop, List.length_take]; rfl)) ?_; (with_reducible refine (laws_toItemS.calls k _ _ l0 t625 _ ?side1 ?side2 A9.out).mono ?_); (case side1 => repeat (first | exact (Kd.C_below HR0.out HB.out) | (with_reducible refine Kd.C_alloc ?_ _) | (with_reducible refine Kd.C_drewN ?_ _) | (with_reducible refine Kd.C_drew ?_))); (case side2 => exact HC0.out); rintro e w19 ⟨v626, rfl, ho0, hb⟩; refine ⟨_, rfl, ?_⟩; have n0_ := Aside0.mk (Kd.R_elder' (by (with_reducible repeat (first | apply Kd.R_alloc | apply Kd.R_drewN | apply Kd.R_drew)); exact HO618.out) (Kd.R_base ho0) hb); have n1_ := Aside0.mk (Kd.R_below (by (with_reducible repeat (first | apply Kd.R_alloc | apply Kd.R_drewN | apply Kd.R_drew)); exact HO623.out) hb); have n2_ := Aside0.mk (Kd.R_lower (Kd.R_new' ho0 (Kd.R_lt (by (with_reducible repeat (first | apply Kd.R_alloc | apply Kd.R_drewN | apply Kd.R_drew)); exact HO618.out))) (below_size (by repeat (first | (with_reducible first | exact HB.out | apply below_alloc | apply pw_below_drewN | apply below_drew1 | refine below_set ?_ GE614.out) | exact HB.out)))); have n3_ := Aside0.mk (blk_below (g := gb614) (o := .cells #[.int .i64 a1_0, .int .i64 a1_1] 24 (0, 0)) (by (with_reducible repeat (first | refine blk_drewN ?_ _ | refine blk_drew ?_ | refine blk_alloc ?_ _)); exact BK614.out) hb); have n4_ := Aside0.mk (below_step (by repeat (first | (with_reducible first | exact HB.out | apply below_alloc | apply pw_below_drewN | apply below_drew1 | refine below_set ?_ GE614.out) | exact HB.out)) hb); clear HO618; clear HO623; clear BK614; clear HB; have HO618 := n0_; have HO623 := n1_; have HO627 := n2_; have BK614 := n3_; have HB := n4_; clear n0_ n1_ n2_ n3_ n4_; (try clear hb); (try clear hb2); (try clear hk); (try clear hi); (try clear ho0); have hcz20_0 : w19.cell? ⟨gb614, 0, none⟩ = some (.int .i64 a1_0) := (blk_cell BK614.out 0).trans rfl; have hcz20_1 : w19.cell? ⟨gb614, 1, none⟩ = some (.int .i64 a1_1) := (blk_cell BK614.out 1).trans rfl; have hfz20_0 := blk_frozen BK614.out 0; have hfz20_1 := blk_frozen BK614.out 1) | ((with_reducible refine gate_callee (f := 14) rfl ?_); refine goesL_ (some 34) rfl rfl Try.func14 (by kernel_rfl) rfl #[.agg #[.int .i64 a1_0, .int .i64 a1_1]] rfl (by (try simp only [List.map_toArray, List.map_cons, List.map_nil]); first | done | rfl | (simp only [List.length_drop, List.length_take]; rfl)) ?_; (with_reducible refine (laws_toCase.calls a1_0 a1_1 t628 t629 _ A10.out).mono ?_); rintro e w21 ⟨rfl, hb⟩; refine ⟨_, rfl, ?_⟩; have n0_ := Aside0.mk (Kd.R_below (by (with_reducible repeat (first | apply Kd.R_alloc | apply Kd.R_drewN | apply Kd.R_drew)); exact HO618.out) hb); have n1_ := Aside0.mk (Kd.R_below (by (with_reducible repeat (first | apply Kd.R_alloc | apply Kd.R_drewN | apply Kd.R_drew)); exact HO623.out) hb); have n2_ := Aside0.mk (Kd.R_below (by (with_reducible repeat (first | apply Kd.R_alloc | apply Kd.R_drewN | apply Kd.R_drew)); exact HO627.out) hb); have n3_ := Aside0.mk (blk_below (g := gb614) (o := .cells #[.int .i64 a1_0, .int .i64 a1_1] 24 (0, 0)) (by (with_reducible repeat (first | refine blk_drewN ?_ _ | refine blk_drew ?_ | refine blk_alloc ?_ _)); exact BK614.out) hb); have n4_ := Aside0.mk (below_step (by repeat (first | (with_reducible first | exact HB.out | apply below_alloc | apply pw_below_drewN | apply below_drew1 | refine below_set ?_ GE614.out) | exact HB.out)) hb); clear HO618; clear HO623; clear HO627; clear BK614; clear HB; have HO618 := n0_; have HO623 := n1_; have HO627 := n2_; have BK614 := n3_; have HB := n4_; clear n0_ n1_ n2_ n3_ n4_; (try clear hb); (try clear hb2); (try clear hk); (try clear hi); obtain ⟨Ao22, co22, eo22⟩ := Kd.R_slice HO627.out; subst eo22) | ((with_reducible refine gate_callee (f := 33) rfl ?_); refine goesL_ (some 35) rfl rfl Try.func33 (by kernel_rfl) rfl #[.slice Ao22 t625.length co22, .agg #[.int .i64 t628, .int .i64 t629]] rfl (by (try simp only [List.map_toArray, List.map_cons, List.map_nil]); first | done | rfl | (simp only [List.length_drop, List.length_take]; rfl)) ?_; (with_reducible refine (impl_PackByValue.calls _ _ t625 t628 t629 t630 t633 _ ?side1 ?side2 A11.out).mono ?_); (case side1 => repeat (first | exact (Kd.R_reads' HO627.out).2.2 | (with_reducible refine Kd.C_alloc ?_ _) | (with_reducible refine Kd.C_drewN ?_ _) | (with_reducible refine Kd.C_drew ?_))); (case side2 => exact (Kd.R_reads' HO627.out).2.1); rintro e w23 ⟨v631, rfl, ho0, hb⟩; refine ⟨_, rfl, ?_⟩; have n0_ := Aside0.mk (Kd.R_below (by (with_reducible repeat (first | apply Kd.R_alloc | apply Kd.R_drewN | apply Kd.R_drew)); exact HO618.out) hb); have n1_ := Aside0.mk (Kd.R_elder' (by (with_reducible repeat (first | apply Kd.R_alloc | apply Kd.R_drewN | apply Kd.R_drew)); exact HO623.out) (Kd.R_base ho0) hb); have n2_ := Aside0.mk (Kd.R_below (by (with_reducible repeat (first | apply Kd.R_alloc | apply Kd.R_drewN | apply Kd.R_drew)); exact HO627.out) hb); have n3_ := Aside0.mk (Kd.R_lower (Kd.R_new' ho0 (Kd.R_lt (by (with_reducible repeat (first | apply Kd.R_alloc | apply Kd.R_drewN | apply Kd.R_drew)); exact HO623.out))) (below_size (by repeat (first | (with_reducible first | exact HB.out | apply below_alloc | apply pw_below_drewN | apply below_drew1 | refine below_set ?_ GE614.out) | exact HB.out)))); have n4_ := Aside0.mk (blk_below (g := gb614) (o := .cells #[.int .i64 a1_0, .int .i64 a1_1] 24 (0, 0)) (by (with_reducible repeat (first | refine blk_drewN ?_ _ | refine blk_drew ?_ | refine blk_alloc ?_ _)); exact BK614.out) hb); have n5_ := Aside0.mk (below_step (by repeat (first | (with_reducible first | exact HB.out | apply below_alloc | apply pw_below_drewN | apply below_drew1 | refine below_set ?_ GE614.out) | exact HB.out)) hb); clear HO618; clear HO623; clear HO627; clear BK614; clear HB; have HO618 := n0_; have HO623 := n1_; have HO627 := n2_; have HO632 := n3_; have BK614 := n4_; have HB := n5_; clear n0_ n1_ n2_ n3_ n4_ n5_; (try clear hb); (try clear hb2); (try clear hk); (try clear hi); (try clear ho0)))
    (try simp only [Act.put, List.setIfInBounds_toArray, List.set_cons_zero, List.set_cons_succ])
    go_cut [46] (fun v46 wc => ∃ (kq : Nat) (x46_11 : Bool), v46 = .bool x46_11 ∧ Aside0 (laws_FnExactPackByValue.j0 kq l0 t621 t624 t625 t630 t633 x46_11 a1_0 a1_1 = some r) ∧ Aside0 (kq ≤ k) ∧ Aside0 (Kd.R (Kd.int .i64) 3 wc w.heap.size (fun k_ => some k_ ≠ (v631 : Value).ownBlock) v622 t621) ∧ Aside0 (Kd.R k49 49 wc w.heap.size (fun _ => True) (.slice Ao22 t625.length co22) t625) ∧ Aside0 (Kd.R (Kd.int .i64) 3 wc w.heap.size (fun k_ => some k_ ≠ (v622 : Value).ownBlock) v631 t630) ∧ Aside0 (wc.heap[gb614]? = some (.cells #[.int .i64 a1_0, .int .i64 a1_1] 24 (0, 0))) ∧ Aside0 (Below w.heap.size w wc))
    case first =>
      have H := HC12.out
      clear HC12
      replace H := Option.bind_eq_some_iff.mp H
      obtain ⟨t634, A240, H⟩ := H
      replace H : (if t634 = true then (laws_FnExactPackByValue.j0 k l0 t621 t624 t625 t630 t633 (t633 != t624) a1_0 a1_1) else (laws_FnExactPackByValue.j0 k l0 t621 t624 t625 t630 t633 true a1_0 a1_1)) = some r := H
      have A24 := Aside0.mk A240
      clear A240
      by_cases c25 : t634 = true
      · subst c25
        have H1 : (laws_FnExactPackByValue.j0 k l0 t621 t624 t625 t630 t633 (t633 != t624) a1_0 a1_1) = some r := by rw [if_pos rfl] at H; exact H
        clear H
        have H := H1
        clear H1
        have H' := Aside0.mk H
        clear H
        obtain ⟨Ao26, co26, eo26⟩ := Kd.R_slice HO632.out
        subst eo26
        obtain ⟨Ao27, co27, eo27⟩ := Kd.R_slice HO623.out
        subst eo27
        go_wp2_with (first | ((with_reducible refine gate_callee (f := 21) rfl ?_); refine goesL_ (some 40) rfl rfl Try.func21 (by kernel_rfl) rfl #[.slice Ao26 t630.length co26, .slice Ao27 t621.length co27] rfl (by (try simp only [List.map_toArray, List.map_cons, List.map_nil]); first | done | rfl | (simp only [List.length_drop, List.length_take]; rfl)) ?_; (with_reducible refine (laws_eqIntS.calls k _ _ t630 _ _ t621 true _ ?side1 ?side2 ?side3 ?side4 A24.out).mono ?_); (case side1 => repeat (first | exact (Kd.R_reads' HO632.out).2.2 | (with_reducible refine Kd.C_alloc ?_ _) | (with_reducible refine Kd.C_drewN ?_ _) | (with_reducible refine Kd.C_drew ?_))); (case side2 => exact (Kd.R_reads' HO632.out).2.1); (case side3 => repeat (first | exact (Kd.R_reads' HO623.out).2.2 | (with_reducible refine Kd.C_alloc ?_ _) | (with_reducible refine Kd.C_drewN ?_ _) | (with_reducible refine Kd.C_drew ?_))); (case side4 => exact (Kd.R_reads' HO623.out).2.1); rintro e w' ⟨rfl, ⟨nd, rfl⟩⟩; refine ⟨_, rfl, ?_⟩))
        go_meet
        case rel => exact ⟨_, ((t633 != t624)), (by first | rfl | (simp; done) | (simp [*]; done)), H', ⟨by first | omega | exact Nat.le_refl _⟩, ⟨by (with_reducible repeat (first | apply Kd.R_alloc | apply Kd.R_drewN | apply Kd.R_drew)); exact Kd.R_mono HO623.out (fun _ hk => hk.2)⟩, ⟨by (with_reducible repeat (first | apply Kd.R_alloc | apply Kd.R_drewN | apply Kd.R_drew)); exact Kd.R_mono HO627.out (fun _ hk => trivial)⟩, ⟨by (with_reducible repeat (first | apply Kd.R_alloc | apply Kd.R_drewN | apply Kd.R_drew)); exact Kd.R_mono HO632.out (fun _ hk => hk.2)⟩, ⟨by (with_reducible repeat (first | refine blk_drewN ?_ _ | refine blk_drew ?_ | refine blk_alloc ?_ _)); exact BK614.out⟩, ⟨by repeat (first | (with_reducible first | exact HB.out | apply below_alloc | apply pw_below_drewN | apply below_drew1 | refine below_set ?_ GE614.out) | exact HB.out)⟩⟩
      · replace c25 := Bool.eq_false_iff.mpr c25
        subst c25
        have H1 : (laws_FnExactPackByValue.j0 k l0 t621 t624 t625 t630 t633 true a1_0 a1_1) = some r := by rw [if_neg (show ¬ (false = true) by decide)] at H; exact H
        clear H
        have H := H1
        clear H1
        have H' := Aside0.mk H
        clear H
        obtain ⟨Ao28, co28, eo28⟩ := Kd.R_slice HO632.out
        subst eo28
        obtain ⟨Ao29, co29, eo29⟩ := Kd.R_slice HO623.out
        subst eo29
        go_wp2_with (first | ((with_reducible refine gate_callee (f := 21) rfl ?_); refine goesL_ (some 40) rfl rfl Try.func21 (by kernel_rfl) rfl #[.slice Ao28 t630.length co28, .slice Ao29 t621.length co29] rfl (by (try simp only [List.map_toArray, List.map_cons, List.map_nil]); first | done | rfl | (simp only [List.length_drop, List.length_take]; rfl)) ?_; (with_reducible refine (laws_eqIntS.calls k _ _ t630 _ _ t621 false _ ?side1 ?side2 ?side3 ?side4 A24.out).mono ?_); (case side1 => repeat (first | exact (Kd.R_reads' HO632.out).2.2 | (with_reducible refine Kd.C_alloc ?_ _) | (with_reducible refine Kd.C_drewN ?_ _) | (with_reducible refine Kd.C_drew ?_))); (case side2 => exact (Kd.R_reads' HO632.out).2.1); (case side3 => repeat (first | exact (Kd.R_reads' HO623.out).2.2 | (with_reducible refine Kd.C_alloc ?_ _) | (with_reducible refine Kd.C_drewN ?_ _) | (with_reducible refine Kd.C_drew ?_))); (case side4 => exact (Kd.R_reads' HO623.out).2.1); rintro e w' ⟨rfl, ⟨nd, rfl⟩⟩; refine ⟨_, rfl, ?_⟩))
        go_meet
        case rel => exact ⟨_, (true), (by first | rfl | (simp; done) | (simp [*]; done)), H', ⟨by first | omega | exact Nat.le_refl _⟩, ⟨by (with_reducible repeat (first | apply Kd.R_alloc | apply Kd.R_drewN | apply Kd.R_drew)); exact Kd.R_mono HO623.out (fun _ hk => hk.2)⟩, ⟨by (with_reducible repeat (first | apply Kd.R_alloc | apply Kd.R_drewN | apply Kd.R_drew)); exact Kd.R_mono HO627.out (fun _ hk => trivial)⟩, ⟨by (with_reducible repeat (first | apply Kd.R_alloc | apply Kd.R_drewN | apply Kd.R_drew)); exact Kd.R_mono HO632.out (fun _ hk => hk.2)⟩, ⟨by (with_reducible repeat (first | refine blk_drewN ?_ _ | refine blk_drew ?_ | refine blk_alloc ?_ _)); exact BK614.out⟩, ⟨by repeat (first | (with_reducible first | exact HB.out | apply below_alloc | apply pw_below_drewN | apply below_drew1 | refine below_set ?_ GE614.out) | exact HB.out)⟩⟩
    case rest =>
      clear HC12
      try clear c1
      try clear c2
      try clear p2
      try clear c3
      try clear c4
      try clear c4b0
      try clear c9
      try clear c11
      try clear c13
      try clear c14
      try clear c21
      try clear c25
      try clear hcz20_0
      try clear hcz20_1
      try clear hfz20_0
      try clear hfz20_1
      obtain ⟨kq, x46_11, rfl, HA, HJ11, HO_6, HO_8, HO_9, BK614, HB⟩ := hcut
      cases kq with
      | zero => exact absurd HA.out (by simp [laws_FnExactPackByValue.j0])
      | succ kj11 =>
        have H := HA.out
        clear HA
        simp only [laws_FnExactPackByValue.j0] at H
        by_cases c30 : x46_11 = true
        · subst c30
          have H1 : (some false) = some r := by rw [if_pos rfl] at H; exact H
          clear H
          have H := H1
          clear H1
          obtain rfl := Option.some.inj H
          go_wp2
          go_ret
          exact ⟨by first | rfl | (simp [errW_none, errW_some] <;> rfl) | (simp [*, errW_none, errW_some] <;> rfl), by repeat (first | (with_reducible first | exact HB.out | apply below_alloc | apply pw_below_drewN | apply below_drew1 | refine below_set ?_ GE614.out) | exact HB.out)⟩
        · replace c30 := Bool.eq_false_iff.mpr c30
          subst c30
          have H1 : ((laws_toItemS.f kj11 l0).bind fun t635 => ((laws_eqItemS.f kj11 t625 t635).bind fun t638 => (if t638 = true then ((laws_markItemS.f kj11 t625 1).bind fun bt639 => (if bt639.1 < 0 then (laws_FnExactPackByValue.j1 kj11 l0 t621 t624 t630 true a1_0 a1_1) else ((laws_eqIntS.f kj11 t630 t621).bind fun t641 => (if t641 = true then (laws_FnExactPackByValue.j1 kj11 l0 t621 t624 t630 (t633 != t624) a1_0 a1_1) else (laws_FnExactPackByValue.j1 kj11 l0 t621 t624 t630 true a1_0 a1_1))))) else (some false)))) = some r := by rw [if_neg (show ¬ (false = true) by decide)] at H; exact H
          clear H
          have H := H1
          clear H1
          replace H := Option.bind_eq_some_iff.mp H
          obtain ⟨t635, A310, H⟩ := H
          replace H : ((laws_eqItemS.f kj11 t625 t635).bind fun t638 => (if t638 = true then ((laws_markItemS.f kj11 t625 1).bind fun bt639 => (if bt639.1 < 0 then (laws_FnExactPackByValue.j1 kj11 l0 t621 t624 t630 true a1_0 a1_1) else ((laws_eqIntS.f kj11 t630 t621).bind fun t641 => (if t641 = true then (laws_FnExactPackByValue.j1 kj11 l0 t621 t624 t630 (t633 != t624) a1_0 a1_1) else (laws_FnExactPackByValue.j1 kj11 l0 t621 t624 t630 true a1_0 a1_1))))) else (some false))) = some r := H
          have A31 := Aside0.mk A310
          clear A310
          replace H := Option.bind_eq_some_iff.mp H
          obtain ⟨t638, A320, H⟩ := H
          replace H : (if t638 = true then ((laws_markItemS.f kj11 t625 1).bind fun bt639 => (if bt639.1 < 0 then (laws_FnExactPackByValue.j1 kj11 l0 t621 t624 t630 true a1_0 a1_1) else ((laws_eqIntS.f kj11 t630 t621).bind fun t641 => (if t641 = true then (laws_FnExactPackByValue.j1 kj11 l0 t621 t624 t630 (t633 != t624) a1_0 a1_1) else (laws_FnExactPackByValue.j1 kj11 l0 t621 t624 t630 true a1_0 a1_1))))) else (some false)) = some r := H
          have A32 := Aside0.mk A320
          clear A320
          by_cases c33 : t638 = true
          · subst c33
            have H1 : ((laws_markItemS.f kj11 t625 1).bind fun bt639 => (if bt639.1 < 0 then (laws_FnExactPackByValue.j1 kj11 l0 t621 t624 t630 true a1_0 a1_1) else ((laws_eqIntS.f kj11 t630 t621).bind fun t641 => (if t641 = true then (laws_FnExactPackByValue.j1 kj11 l0 t621 t624 t630 (t633 != t624) a1_0 a1_1) else (laws_FnExactPackByValue.j1 kj11 l0 t621 t624 t630 true a1_0 a1_1))))) = some r := by rw [if_pos rfl] at H; exact H
            clear H
            have H := H1
            clear H1
            replace H := Option.bind_eq_some_iff.mp H
            obtain ⟨⟨t639, t640⟩, A340, H⟩ := H
            replace H : (if t639 < 0 then (laws_FnExactPackByValue.j1 kj11 l0 t621 t624 t630 true a1_0 a1_1) else ((laws_eqIntS.f kj11 t630 t621).bind fun t641 => (if t641 = true then (laws_FnExactPackByValue.j1 kj11 l0 t621 t624 t630 (t633 != t624) a1_0 a1_1) else (laws_FnExactPackByValue.j1 kj11 l0 t621 t624 t630 true a1_0 a1_1)))) = some r := H
            have A34 := Aside0.mk A340
            clear A340
            have HC35 := Aside0.mk H
            clear H
            go_upto_region 14 with (first | ((with_reducible refine gate_callee (f := 13) rfl ?_); refine goesL_ (some 49) rfl rfl Try.func13 (by kernel_rfl) rfl #[.slice A0 l0.length c0] rfl (by (try simp only [List.map_toArray, List.map_cons, List.map_nil]); first | done | rfl | (simp only [List.length_drop, List.length_take]; rfl)) ?_; (with_reducible refine (laws_toItemS.calls kj11 _ _ l0 t635 _ ?side1 ?side2 A31.out).mono ?_); (case side1 => repeat (first | exact (Kd.C_below HR0.out HB.out) | (with_reducible refine Kd.C_alloc ?_ _) | (with_reducible refine Kd.C_drewN ?_ _) | (with_reducible refine Kd.C_drew ?_))); (case side2 => exact HC0.out); rintro e w36 ⟨v636, rfl, ho0, hb⟩; refine ⟨_, rfl, ?_⟩; have n0_ := Aside0.mk (Kd.R_below (by (with_reducible repeat (first | apply Kd.R_alloc | apply Kd.R_drewN | apply Kd.R_drew)); exact HO_6.out) hb); have n1_ := Aside0.mk (Kd.R_elder' (by (with_reducible repeat (first | apply Kd.R_alloc | apply Kd.R_drewN | apply Kd.R_drew)); exact HO_8.out) (Kd.R_base ho0) hb); have n2_ := Aside0.mk (Kd.R_below (by (with_reducible repeat (first | apply Kd.R_alloc | apply Kd.R_drewN | apply Kd.R_drew)); exact HO_9.out) hb); have n3_ := Aside0.mk (Kd.R_lower (Kd.R_new' ho0 (Kd.R_lt (by (with_reducible repeat (first | apply Kd.R_alloc | apply Kd.R_drewN | apply Kd.R_drew)); exact HO_8.out))) (below_size (by repeat (first | (with_reducible first | exact HB.out | apply below_alloc | apply pw_below_drewN | apply below_drew1 | refine below_set ?_ GE614.out) | exact HB.out)))); have n4_ := Aside0.mk (blk_below (g := gb614) (o := .cells #[.int .i64 a1_0, .int .i64 a1_1] 24 (0, 0)) (by (with_reducible repeat (first | refine blk_drewN ?_ _ | refine blk_drew ?_ | refine blk_alloc ?_ _)); exact BK614.out) hb); have n5_ := Aside0.mk (below_step (by repeat (first | (with_reducible first | exact HB.out | apply below_alloc | apply pw_below_drewN | apply below_drew1 | refine below_set ?_ GE614.out) | exact HB.out)) hb); clear HO_6; clear HO_8; clear HO_9; clear BK614; clear HB; have HO_6 := n0_; have HO_8 := n1_; have HO_9 := n2_; have HO637 := n3_; have BK614 := n4_; have HB := n5_; clear n0_ n1_ n2_ n3_ n4_ n5_; (try clear hb); (try clear hb2); (try clear hk); (try clear hi); (try clear ho0); obtain ⟨Ao37, co37, eo37⟩ := Kd.R_slice HO637.out; subst eo37) | ((with_reducible refine gate_callee (f := 16) rfl ?_); refine goesL_ (some 50) rfl rfl Try.func16 (by kernel_rfl) rfl #[.slice Ao22 t625.length co22, .slice Ao37 t635.length co37] rfl (by (try simp only [List.map_toArray, List.map_cons, List.map_nil]); first | done | rfl | (simp only [List.length_drop, List.length_take]; rfl)) ?_; (with_reducible refine (laws_eqItemS.calls kj11 _ _ t625 _ _ t635 true _ ?side1 ?side2 ?side3 ?side4 A32.out).mono ?_); (case side1 => repeat (first | exact (Kd.R_reads' HO_8.out).2.2 | (with_reducible refine Kd.C_alloc ?_ _) | (with_reducible refine Kd.C_drewN ?_ _) | (with_reducible refine Kd.C_drew ?_))); (case side2 => exact (Kd.R_reads' HO_8.out).2.1); (case side3 => repeat (first | exact (Kd.R_reads' HO637.out).2.2 | (with_reducible refine Kd.C_alloc ?_ _) | (with_reducible refine Kd.C_drewN ?_ _) | (with_reducible refine Kd.C_drew ?_))); (case side4 => exact (Kd.R_reads' HO637.out).2.1); rintro e w38 ⟨rfl, hb⟩; refine ⟨_, rfl, ?_⟩; have n0_ := Aside0.mk (Kd.R_below (by (with_reducible repeat (first | apply Kd.R_alloc | apply Kd.R_drewN | apply Kd.R_drew)); exact HO_6.out) hb); have n1_ := Aside0.mk (Kd.R_below (by (with_reducible repeat (first | apply Kd.R_alloc | apply Kd.R_drewN | apply Kd.R_drew)); exact HO_8.out) hb); have n2_ := Aside0.mk (Kd.R_below (by (with_reducible repeat (first | apply Kd.R_alloc | apply Kd.R_drewN | apply Kd.R_drew)); exact HO_9.out) hb); have n3_ := Aside0.mk (Kd.R_below (by (with_reducible repeat (first | apply Kd.R_alloc | apply Kd.R_drewN | apply Kd.R_drew)); exact HO637.out) hb); have n4_ := Aside0.mk (blk_below (g := gb614) (o := .cells #[.int .i64 a1_0, .int .i64 a1_1] 24 (0, 0)) (by (with_reducible repeat (first | refine blk_drewN ?_ _ | refine blk_drew ?_ | refine blk_alloc ?_ _)); exact BK614.out) hb); have n5_ := Aside0.mk (below_step (by repeat (first | (with_reducible first | exact HB.out | apply below_alloc | apply pw_below_drewN | apply below_drew1 | refine below_set ?_ GE614.out) | exact HB.out)) hb); clear HO_6; clear HO_8; clear HO_9; clear HO637; clear BK614; clear HB; have HO_6 := n0_; have HO_8 := n1_; have HO_9 := n2_; have HO637 := n3_; have BK614 := n4_; have HB := n5_; clear n0_ n1_ n2_ n3_ n4_ n5_; (try clear hb); (try clear hb2); (try clear hk); (try clear hi)) | ((with_reducible refine gate_callee (f := 22) rfl ?_); refine goesL_ (some 54) rfl rfl Try.func22 (by kernel_rfl) rfl #[.slice Ao22 t625.length co22, .int .i64 1] rfl (by (try simp only [List.map_toArray, List.map_cons, List.map_nil]); first | done | rfl | (simp only [List.length_drop, List.length_take]; rfl)) ?_; (with_reducible refine (laws_markItemS.calls kj11 (fun k_ => some k_ = (.slice Ao22 t625.length co22 : Value).ownBlock) (.slice Ao22 t625.length co22) t625 1 t639 t640 w _ ?side1 ?side2 A34.out).mono ?_); (case side1 => repeat (first | (with_reducible first | exact HB.out | apply below_alloc | apply pw_below_drewN | apply below_drew1 | refine below_set ?_ GE614.out) | exact HB.out)); (case side2 => exact Kd.R_tight rfl HO_8.out); rintro e w39 ⟨rfl, hy0, hb, hkp⟩; refine ⟨_, rfl, ?_⟩; have n0_ := Aside0.mk (Kd.R_mono (ok' := fun k_ => some k_ ≠ (v631 : Value).ownBlock) (Kd.R_keptB ((Kd.R_apart' HO_6.out (Kd.R_typed HO_8.out) (by decide))) hkp (fun k_ hk_ hs_ => (hk_.2) hs_)) (fun k_ hk_ => hk_.1.1)); have n1_ := Aside0.mk (Kd.R_reok rfl hy0 (fun k_ e_ => HO_8.out.1 k_ e_)); have n2_ := Aside0.mk (Kd.R_mono (ok' := fun k_ => some k_ ≠ (v622 : Value).ownBlock) (Kd.R_keptB ((Kd.R_apart' HO_9.out (Kd.R_typed HO_8.out) (by decide))) hkp (fun k_ hk_ hs_ => (hk_.2) hs_)) (fun k_ hk_ => hk_.1.1)); have n3_ := Aside0.mk (blk_kept (by (with_reducible repeat (first | refine blk_drewN ?_ _ | refine blk_drew ?_ | refine blk_alloc ?_ _)); exact BK614.out) hkp (fun hs_ => (fun e_ => (Kd.R_ne HO_8.out BK614.out (by decide)) e_) hs_)); have n4_ := Aside0.mk (Kd.R_mono (ok' := fun k_ => some k_ ≠ (.slice Ao22 t625.length co22 : Value).ownBlock) (Kd.R_keptB (HO637.out) hkp (fun k_ hk_ hs_ => (hk_.2) hs_)) (fun k_ hk_ => hk_.1.2)); have n5_ := Aside0.mk (hb); clear HO_6; clear HO_8; clear HO_9; clear BK614; clear HO637; clear HB; have HO_6 := n0_; have HO_8 := n1_; have HO_9 := n2_; have BK614 := n3_; have HO637 := n4_; have HB := n5_; clear n0_ n1_ n2_ n3_ n4_ n5_; (try clear hb); (try clear hkp); (try clear hy0)))
            (try simp only [Act.put, List.setIfInBounds_toArray, List.set_cons_zero, List.set_cons_succ])
            go_cut [67] (fun v67 wc => ∃ (kq : Nat) (x67_34 : Bool), v67 = .bool x67_34 ∧ Aside0 (laws_FnExactPackByValue.j1 kq l0 t621 t624 t630 x67_34 a1_0 a1_1 = some r) ∧ Aside0 (kq ≤ kj11) ∧ Aside0 (Kd.R (Kd.int .i64) 3 wc w.heap.size (fun k_ => some k_ ≠ (v631 : Value).ownBlock) v622 t621) ∧ Aside0 (Kd.R (Kd.int .i64) 3 wc w.heap.size (fun k_ => some k_ ≠ (v622 : Value).ownBlock) v631 t630) ∧ Aside0 (wc.heap[gb614]? = some (.cells #[.int .i64 a1_0, .int .i64 a1_1] 24 (0, 0))) ∧ Aside0 (Below w.heap.size w wc))
            case first =>
              have H := HC35.out
              clear HC35
              by_cases c40 : t639 < 0
              · rw [if_pos c40] at H
                have c40b0 : decide (t639 < 0) = true := decide_eq_true c40
                clear c40
                (first | rw [c40b0] | (simp only [i64_w, i32_w]; rw [c40b0]) | skip)
                have H' := Aside0.mk H
                clear H
                go_wp2
                go_meet
                case rel => exact ⟨_, (true), (by first | rfl | (simp; done) | (simp [*]; done)), H', ⟨by have := HJ11.out; first | omega | exact Nat.le_refl _⟩, ⟨by (with_reducible repeat (first | apply Kd.R_alloc | apply Kd.R_drewN | apply Kd.R_drew)); exact HO_6.out⟩, ⟨by (with_reducible repeat (first | apply Kd.R_alloc | apply Kd.R_drewN | apply Kd.R_drew)); exact HO_9.out⟩, ⟨by (with_reducible repeat (first | refine blk_drewN ?_ _ | refine blk_drew ?_ | refine blk_alloc ?_ _)); exact BK614.out⟩, ⟨by repeat (first | (with_reducible first | exact HB.out | apply below_alloc | apply pw_below_drewN | apply below_drew1 | refine below_set ?_ GE614.out) | exact HB.out)⟩⟩
              · rw [if_neg c40] at H
                have c40b0 : decide (t639 < 0) = false := decide_eq_false c40
                clear c40
                (first | rw [c40b0] | (simp only [i64_w, i32_w]; rw [c40b0]) | skip)
                replace H := Option.bind_eq_some_iff.mp H
                obtain ⟨t641, A410, H⟩ := H
                replace H : (if t641 = true then (laws_FnExactPackByValue.j1 kj11 l0 t621 t624 t630 (t633 != t624) a1_0 a1_1) else (laws_FnExactPackByValue.j1 kj11 l0 t621 t624 t630 true a1_0 a1_1)) = some r := H
                have A41 := Aside0.mk A410
                clear A410
                by_cases c42 : t641 = true
                · subst c42
                  have H1 : (laws_FnExactPackByValue.j1 kj11 l0 t621 t624 t630 (t633 != t624) a1_0 a1_1) = some r := by rw [if_pos rfl] at H; exact H
                  clear H
                  have H := H1
                  clear H1
                  have H' := Aside0.mk H
                  clear H
                  obtain ⟨Ao43, co43, eo43⟩ := Kd.R_slice HO_9.out
                  subst eo43
                  obtain ⟨Ao44, co44, eo44⟩ := Kd.R_slice HO_6.out
                  subst eo44
                  go_wp2_with (first | (go_at_call 21; (with_reducible refine (laws_eqIntS.calls kj11 _ _ t630 _ _ t621 true _ ?side1 ?side2 ?side3 ?side4 A41.out).mono ?_); (case side1 => repeat (first | exact (Kd.R_reads' HO_9.out).2.2 | (with_reducible refine Kd.C_alloc ?_ _) | (with_reducible refine Kd.C_drewN ?_ _) | (with_reducible refine Kd.C_drew ?_))); (case side2 => exact (Kd.R_reads' HO_9.out).2.1); (case side3 => repeat (first | exact (Kd.R_reads' HO_6.out).2.2 | (with_reducible refine Kd.C_alloc ?_ _) | (with_reducible refine Kd.C_drewN ?_ _) | (with_reducible refine Kd.C_drew ?_))); (case side4 => exact (Kd.R_reads' HO_6.out).2.1); rintro e w' ⟨rfl, ⟨nd, rfl⟩⟩))
                  go_meet
                  case rel => exact ⟨_, ((t633 != t624)), (by first | rfl | (simp; done) | (simp [*]; done)), H', ⟨by have := HJ11.out; first | omega | exact Nat.le_refl _⟩, ⟨by (with_reducible repeat (first | apply Kd.R_alloc | apply Kd.R_drewN | apply Kd.R_drew)); exact HO_6.out⟩, ⟨by (with_reducible repeat (first | apply Kd.R_alloc | apply Kd.R_drewN | apply Kd.R_drew)); exact HO_9.out⟩, ⟨by (with_reducible repeat (first | refine blk_drewN ?_ _ | refine blk_drew ?_ | refine blk_alloc ?_ _)); exact BK614.out⟩, ⟨by repeat (first | (with_reducible first | exact HB.out | apply below_alloc | apply pw_below_drewN | apply below_drew1 | refine below_set ?_ GE614.out) | exact HB.out)⟩⟩
                · replace c42 := Bool.eq_false_iff.mpr c42
                  subst c42
                  have H1 : (laws_FnExactPackByValue.j1 kj11 l0 t621 t624 t630 true a1_0 a1_1) = some r := by rw [if_neg (show ¬ (false = true) by decide)] at H; exact H
                  clear H
                  have H := H1
                  clear H1
                  have H' := Aside0.mk H
                  clear H
                  obtain ⟨Ao45, co45, eo45⟩ := Kd.R_slice HO_9.out
                  subst eo45
                  obtain ⟨Ao46, co46, eo46⟩ := Kd.R_slice HO_6.out
                  subst eo46
                  go_wp2_with (first | (go_at_call 21; (with_reducible refine (laws_eqIntS.calls kj11 _ _ t630 _ _ t621 false _ ?side1 ?side2 ?side3 ?side4 A41.out).mono ?_); (case side1 => repeat (first | exact (Kd.R_reads' HO_9.out).2.2 | (with_reducible refine Kd.C_alloc ?_ _) | (with_reducible refine Kd.C_drewN ?_ _) | (with_reducible refine Kd.C_drew ?_))); (case side2 => exact (Kd.R_reads' HO_9.out).2.1); (case side3 => repeat (first | exact (Kd.R_reads' HO_6.out).2.2 | (with_reducible refine Kd.C_alloc ?_ _) | (with_reducible refine Kd.C_drewN ?_ _) | (with_reducible refine Kd.C_drew ?_))); (case side4 => exact (Kd.R_reads' HO_6.out).2.1); rintro e w' ⟨rfl, ⟨nd, rfl⟩⟩))
                  go_meet
                  case rel => exact ⟨_, (true), (by first | rfl | (simp; done) | (simp [*]; done)), H', ⟨by have := HJ11.out; first | omega | exact Nat.le_refl _⟩, ⟨by (with_reducible repeat (first | apply Kd.R_alloc | apply Kd.R_drewN | apply Kd.R_drew)); exact HO_6.out⟩, ⟨by (with_reducible repeat (first | apply Kd.R_alloc | apply Kd.R_drewN | apply Kd.R_drew)); exact HO_9.out⟩, ⟨by (with_reducible repeat (first | refine blk_drewN ?_ _ | refine blk_drew ?_ | refine blk_alloc ?_ _)); exact BK614.out⟩, ⟨by repeat (first | (with_reducible first | exact HB.out | apply below_alloc | apply pw_below_drewN | apply below_drew1 | refine below_set ?_ GE614.out) | exact HB.out)⟩⟩
            case rest =>
              clear HC35
              try clear c1
              try clear c2
              try clear p2
              try clear c3
              try clear c4
              try clear c4b0
              try clear c9
              try clear c11
              try clear c13
              try clear c14
              try clear c16
              try clear c21
              try clear c22
              try clear c25
              try clear c30
              try clear c32
              try clear c33
              try clear c40
              try clear c40b0
              try clear c42
              try clear hcz20_0
              try clear hcz20_1
              try clear hfz20_0
              try clear hfz20_1
              try clear p2
              obtain ⟨kq, x67_34, rfl, HA, HJ34, HO_6, HO_9, BK614, HB⟩ := hcut
              cases kq with
              | zero => exact absurd HA.out (by simp [laws_FnExactPackByValue.j1])
              | succ kj34 =>
                have H := HA.out
                clear HA
                simp only [laws_FnExactPackByValue.j1] at H
                by_cases c47 : x67_34 = true
                · subst c47
                  have H1 : (some false) = some r := by rw [if_pos rfl] at H; exact H
                  clear H
                  have H := H1
                  clear H1
                  obtain rfl := Option.some.inj H
                  go_wp2
                  go_ret
                  exact ⟨by first | rfl | (simp [errW_none, errW_some] <;> rfl) | (simp [*, errW_none, errW_some] <;> rfl), by repeat (first | (with_reducible first | exact HB.out | apply below_alloc | apply pw_below_drewN | apply below_drew1 | refine below_set ?_ GE614.out) | exact HB.out)⟩
                · replace c47 := Bool.eq_false_iff.mpr c47
                  subst c47
                  have H1 : ((laws_markIntS.f kj34 t630 1).bind fun bt642 => ((laws_heldIntS.f kj34 bt642.2 1).bind fun t644 => (if t644 < 0 then (some false) else (if t644 = bt642.1 then ((laws_toItemS.f kj34 l0).bind fun t645 => ((laws_toCase.f a1_0 a1_1).bind fun bt648 => ((impl_PackByValue.f t645 bt648.1 bt648.2).bind fun bt650 => ((laws_eqIntS.f kj34 bt650.1 t621).bind fun t654 => (if t654 = true then (laws_FnExactPackByValue.j2 kj34 bt642.2 bt642.1 (bt650.2 != t624)) else (laws_FnExactPackByValue.j2 kj34 bt642.2 bt642.1 true)))))) else (some false))))) = some r := by rw [if_neg (show ¬ (false = true) by decide)] at H; exact H
                  clear H
                  have H := H1
                  clear H1
                  replace H := Option.bind_eq_some_iff.mp H
                  obtain ⟨⟨t642, t643⟩, A480, H⟩ := H
                  replace H : ((laws_heldIntS.f kj34 t643 1).bind fun t644 => (if t644 < 0 then (some false) else (if t644 = t642 then ((laws_toItemS.f kj34 l0).bind fun t645 => ((laws_toCase.f a1_0 a1_1).bind fun bt648 => ((impl_PackByValue.f t645 bt648.1 bt648.2).bind fun bt650 => ((laws_eqIntS.f kj34 bt650.1 t621).bind fun t654 => (if t654 = true then (laws_FnExactPackByValue.j2 kj34 t643 t642 (bt650.2 != t624)) else (laws_FnExactPackByValue.j2 kj34 t643 t642 true)))))) else (some false)))) = some r := H
                  have A48 := Aside0.mk A480
                  clear A480
                  replace H := Option.bind_eq_some_iff.mp H
                  obtain ⟨t644, A490, H⟩ := H
                  replace H : (if t644 < 0 then (some false) else (if t644 = t642 then ((laws_toItemS.f kj34 l0).bind fun t645 => ((laws_toCase.f a1_0 a1_1).bind fun bt648 => ((impl_PackByValue.f t645 bt648.1 bt648.2).bind fun bt650 => ((laws_eqIntS.f kj34 bt650.1 t621).bind fun t654 => (if t654 = true then (laws_FnExactPackByValue.j2 kj34 t643 t642 (bt650.2 != t624)) else (laws_FnExactPackByValue.j2 kj34 t643 t642 true)))))) else (some false))) = some r := H
                  have A49 := Aside0.mk A490
                  clear A490
                  by_cases c50 : t644 < 0
                  · rw [if_pos c50] at H
                    have c50b0 : decide (t644 < 0) = true := decide_eq_true c50
                    clear c50
                    obtain rfl := Option.some.inj H
                    obtain ⟨Ao51, co51, eo51⟩ := Kd.R_slice HO_9.out
                    subst eo51
                    go_wp2_with (first | ((with_reducible refine gate_callee (f := 23) rfl ?_); refine goesL_ (some 70) rfl rfl Try.func23 (by kernel_rfl) rfl #[.slice Ao51 t630.length co51, .int .i64 1] rfl (by (try simp only [List.map_toArray, List.map_cons, List.map_nil]); first | done | rfl | (simp only [List.length_drop, List.length_take]; rfl)) ?_; (with_reducible refine (laws_markIntS.calls kj34 (fun k_ => some k_ = (.slice Ao51 t630.length co51 : Value).ownBlock) (.slice Ao51 t630.length co51) t630 1 t642 t643 w _ ?side1 ?side2 A48.out).mono ?_); (case side1 => repeat (first | (with_reducible first | exact HB.out | apply below_alloc | apply pw_below_drewN | apply below_drew1 | refine below_set ?_ GE614.out) | exact HB.out)); (case side2 => exact Kd.R_tight rfl HO_9.out); rintro e w52 ⟨rfl, hy0, hb, hkp⟩; refine ⟨_, rfl, ?_⟩; have n0_ := Aside0.mk (Kd.R_mono (ok' := fun k_ => some k_ ≠ (.slice Ao51 t630.length co51 : Value).ownBlock) (Kd.R_keptB (HO_6.out) hkp (fun k_ hk_ hs_ => (hk_) hs_)) (fun k_ hk_ => hk_.1)); have n1_ := Aside0.mk (Kd.R_reok rfl hy0 (fun k_ e_ => HO_9.out.1 k_ e_)); have n2_ := Aside0.mk (blk_kept (by (with_reducible repeat (first | refine blk_drewN ?_ _ | refine blk_drew ?_ | refine blk_alloc ?_ _)); exact BK614.out) hkp (fun hs_ => (fun e_ => (Kd.R_ne HO_9.out BK614.out (by decide)) e_) hs_)); have n3_ := Aside0.mk (hb); clear HO_6; clear HO_9; clear BK614; clear HB; have HO_6 := n0_; have HO_9 := n1_; have BK614 := n2_; have HB := n3_; clear n0_ n1_ n2_ n3_; (try clear hb); (try clear hkp); (try clear hy0)) | ((with_reducible refine gate_callee (f := 24) rfl ?_); refine goesL_ (some 73) rfl rfl Try.func24 (by kernel_rfl) rfl #[.slice Ao51 t643.length co51, .int .i64 1] rfl (by (try simp only [List.map_toArray, List.map_cons, List.map_nil]); first | done | (rw [show t643.length = t630.length from (Kd.R_reads' HO_9.out).1.symm] <;> rfl) | rfl | (simp only [List.length_drop, List.length_take]; rfl)) ?_; (with_reducible refine (laws_heldIntS.calls kj34 _ _ t643 1 t644 _ ?side1 ?side2 A49.out).mono ?_); (case side1 => repeat (first | exact (Kd.R_reads' HO_9.out).2.2 | (with_reducible refine Kd.C_alloc ?_ _) | (with_reducible refine Kd.C_drewN ?_ _) | (with_reducible refine Kd.C_drew ?_))); (case side2 => rw [show t643.length = t630.length from (Kd.R_reads' HO_9.out).1.symm]; exact (Kd.R_reads' HO_9.out).2.1); rintro e w' ⟨rfl, ⟨nd, rfl⟩⟩; refine ⟨_, rfl, ?_⟩))
                    go_ret
                    exact ⟨by first | rfl | (simp [errW_none, errW_some] <;> rfl) | (simp [*, errW_none, errW_some] <;> rfl), by repeat (first | (with_reducible first | exact HB.out | apply below_alloc | apply pw_below_drewN | apply below_drew1 | refine below_set ?_ GE614.out) | exact HB.out)⟩
                  · rw [if_neg c50] at H
                    have c50b0 : decide (t644 < 0) = false := decide_eq_false c50
                    clear c50
                    by_cases c53 : t644 = t642
                    · rw [if_pos c53] at H
                      have c53b0 : (t644 == t642) = true := beq_iff_eq.mpr c53
                      have c53b1 : (t644 != t642) = false := bne_eq_false_iff_eq.mpr c53
                      clear c53
                      replace H := Option.bind_eq_some_iff.mp H
                      obtain ⟨t645, A540, H⟩ := H
                      replace H : ((laws_toCase.f a1_0 a1_1).bind fun bt648 => ((impl_PackByValue.f t645 bt648.1 bt648.2).bind fun bt650 => ((laws_eqIntS.f kj34 bt650.1 t621).bind fun t654 => (if t654 = true then (laws_FnExactPackByValue.j2 kj34 t643 t642 (bt650.2 != t624)) else (laws_FnExactPackByValue.j2 kj34 t643 t642 true))))) = some r := H
                      have A54 := Aside0.mk A540
                      clear A540
                      replace H := Option.bind_eq_some_iff.mp H
                      obtain ⟨⟨t648, t649⟩, A550, H⟩ := H
                      replace H : ((impl_PackByValue.f t645 t648 t649).bind fun bt650 => ((laws_eqIntS.f kj34 bt650.1 t621).bind fun t654 => (if t654 = true then (laws_FnExactPackByValue.j2 kj34 t643 t642 (bt650.2 != t624)) else (laws_FnExactPackByValue.j2 kj34 t643 t642 true)))) = some r := H
                      have A55 := Aside0.mk A550
                      clear A550
                      replace H := Option.bind_eq_some_iff.mp H
                      obtain ⟨⟨t650, t653⟩, A560, H⟩ := H
                      replace H : ((laws_eqIntS.f kj34 t650 t621).bind fun t654 => (if t654 = true then (laws_FnExactPackByValue.j2 kj34 t643 t642 (t653 != t624)) else (laws_FnExactPackByValue.j2 kj34 t643 t642 true))) = some r := H
                      have A56 := Aside0.mk A560
                      clear A560
                      have HC57 := Aside0.mk H
                      clear H
                      obtain ⟨Ao58, co58, eo58⟩ := Kd.R_slice HO_9.out
                      subst eo58
                      try go_wp2_with (first | ((with_reducible refine gate_callee (f := 23) rfl ?_); refine goesL_ (some 70) rfl rfl Try.func23 (by kernel_rfl) rfl #[.slice Ao58 t630.length co58, .int .i64 1] rfl (by (try simp only [List.map_toArray, List.map_cons, List.map_nil]); first | done | rfl | (simp only [List.length_drop, List.length_take]; rfl)) ?_; (with_reducible refine (laws_markIntS.calls kj34 (fun k_ => some k_ = (.slice Ao58 t630.length co58 : Value).ownBlock) (.slice Ao58 t630.length co58) t630 1 t642 t643 w _ ?side1 ?side2 A48.out).mono ?_); (case side1 => repeat (first | (with_reducible first | exact HB.out | apply below_alloc | apply pw_below_drewN | apply below_drew1 | refine below_set ?_ GE614.out) | exact HB.out)); (case side2 => exact Kd.R_tight rfl HO_9.out); rintro e w59 ⟨rfl, hy0, hb, hkp⟩; refine ⟨_, rfl, ?_⟩; have n0_ := Aside0.mk (Kd.R_mono (ok' := fun k_ => some k_ ≠ (.slice Ao58 t630.length co58 : Value).ownBlock) (Kd.R_keptB (HO_6.out) hkp (fun k_ hk_ hs_ => (hk_) hs_)) (fun k_ hk_ => hk_.1)); have n1_ := Aside0.mk (Kd.R_reok rfl hy0 (fun k_ e_ => HO_9.out.1 k_ e_)); have n2_ := Aside0.mk (blk_kept (by (with_reducible repeat (first | refine blk_drewN ?_ _ | refine blk_drew ?_ | refine blk_alloc ?_ _)); exact BK614.out) hkp (fun hs_ => (fun e_ => (Kd.R_ne HO_9.out BK614.out (by decide)) e_) hs_)); have n3_ := Aside0.mk (hb); clear HO_6; clear HO_9; clear BK614; clear HB; have HO_6 := n0_; have HO_9 := n1_; have BK614 := n2_; have HB := n3_; clear n0_ n1_ n2_ n3_; (try clear hb); (try clear hkp); (try clear hy0)) | ((with_reducible refine gate_callee (f := 24) rfl ?_); refine goesL_ (some 73) rfl rfl Try.func24 (by kernel_rfl) rfl #[.slice Ao58 t643.length co58, .int .i64 1] rfl (by (try simp only [List.map_toArray, List.map_cons, List.map_nil]); first | done | (rw [show t643.length = t630.length from (Kd.R_reads' HO_9.out).1.symm] <;> rfl) | rfl | (simp only [List.length_drop, List.length_take]; rfl)) ?_; (with_reducible refine (laws_heldIntS.calls kj34 _ _ t643 1 t644 _ ?side1 ?side2 A49.out).mono ?_); (case side1 => repeat (first | exact (Kd.R_reads' HO_9.out).2.2 | (with_reducible refine Kd.C_alloc ?_ _) | (with_reducible refine Kd.C_drewN ?_ _) | (with_reducible refine Kd.C_drew ?_))); (case side2 => rw [show t643.length = t630.length from (Kd.R_reads' HO_9.out).1.symm]; exact (Kd.R_reads' HO_9.out).2.1); rintro e w' ⟨rfl, ⟨nd, rfl⟩⟩; refine ⟨_, rfl, ?_⟩))
                      (try (rw [drewN_self w59]; generalize hq_ : World.drewN w59 _ = w59; have n0_ : Aside0 (Kd.R (Kd.int .i64) 3 w59 w.heap.size (fun k_ => some k_ ≠ (.slice Ao58 t630.length co58 : Value).ownBlock) v622 t621) := ⟨by rw [← hq_]; exact (by (with_reducible repeat (first | apply Kd.R_alloc | apply Kd.R_drewN | apply Kd.R_drew)); exact HO_6.out)⟩; have n1_ : Aside0 (Kd.R (Kd.int .i64) 3 w59 w.heap.size (fun k_ => some k_ ≠ (v622 : Value).ownBlock) (.slice Ao58 t630.length co58) t643) := ⟨by rw [← hq_]; exact (by (with_reducible repeat (first | apply Kd.R_alloc | apply Kd.R_drewN | apply Kd.R_drew)); exact HO_9.out)⟩; have n2_ : Aside0 (w59.heap[gb614]? = some (.cells #[.int .i64 a1_0, .int .i64 a1_1] 24 (0, 0))) := ⟨by rw [← hq_]; exact (by (with_reducible repeat (first | refine blk_drewN ?_ _ | refine blk_drew ?_ | refine blk_alloc ?_ _)); exact BK614.out)⟩; have n3_ : Aside0 (Below w.heap.size w w59) := ⟨by rw [← hq_]; exact (by repeat (first | (with_reducible first | exact HB.out | apply below_alloc | apply pw_below_drewN | apply below_drew1 | refine below_set ?_ GE614.out) | exact HB.out))⟩; clear HO_6 HO_9 BK614 HB hq_; have HO_6 := n0_; have HO_9 := n1_; have BK614 := n2_; have HB := n3_; clear n0_ n1_ n2_ n3_))
                      have n0_ := Aside0.mk (Kd.R_drew HO_6.out)
                      have n1_ := Aside0.mk (Kd.R_drew HO_9.out)
                      have n2_ := Aside0.mk (blk_drew BK614.out)
                      have n3_ := Aside0.mk (below_drew1 HB.out)
                      clear HO_6
                      clear HO_9
                      clear BK614
                      clear HB
                      have HO_6 := n0_
                      have HO_9 := n1_
                      have BK614 := n2_
                      have HB := n3_
                      clear n0_ n1_ n2_ n3_
                      refine start_ (n := 10) (S := fun w' => w'.cell? ⟨gb614, 0, none⟩ = some (.int .i64 a1_0) ∧ w'.cell? ⟨gb614, 1, none⟩ = some (.int .i64 a1_1)) (ds := []) #[false, false, false, false, false, false, false, false, false, false] (by kernel_rfl) rfl rfl ⟨(blk_cell BK614.out 0).trans rfl, (blk_cell BK614.out 1).trans rfl⟩ (fun hHeld => ?_); refine with_tabW laws_FnExactPackByValue.tab24 laws_FnExactPackByValue.bits24 (fun HT_ HW_ => ?_)
                      generalize w59.drew = w60 at HO_6 HO_9 BK614 HB hHeld ⊢
                      refine pure_ (i := 0) (N := some 80) (v := ?_) (a' := ?_) #[true, false, false, false, false, false, false, false, false, false] rfl rfl (any_of HT_.out (by kernel_rfl)) (fun _ _ _ h => h) (Or.inl ⟨by rfl, ?_⟩) ?_ ?_
                      rotate_left
                      · intro w'
                        go_simp
                        with_reducible rfl
                      rotate_left
                      · simp only [Act.put, List.setIfInBounds_toArray, List.set_cons_zero, List.set_cons_succ, i64_w, i32_w]
                        rfl
                      refine take_ (i := 2) (N := some 82) (v := ?_) (a' := ?_) #[true, false, true, false, false, false, false, false, false, false] rfl rfl (take_ofW HT_.out HW_.out (by kernel_rfl)) (fun _ _ _ h => h) (Or.inl ⟨by rfl, ?_⟩) hHeld ?_ ?_
                      rotate_left
                      · rintro w' ⟨s0, s1⟩
                        go_simp
                        with_reducible rfl
                      rotate_left
                      · simp only [Act.put, List.setIfInBounds_toArray, List.set_cons_zero, List.set_cons_succ, i64_w, i32_w]
                        rfl
                      refine one_ (i := 1) (N := some 81) #[true, true, true, false, false, false, false, false, false, false] rfl rfl (one_of HT_.out (by kernel_rfl)) (by decide) (fun K hK => ?_)
                      refine goes_ Try.func13 (by kernel_rfl) rfl #[.slice A0 l0.length c0] (by rfl) rfl rfl (by (try simp only [List.map_toArray, List.map_cons, List.map_nil]); first | done | rfl | (simp only [List.length_drop, List.length_take]; rfl)) ?_
                      with_reducible refine (laws_toItemS.calls kj34 _ _ l0 t645 _ ?side1 ?side2 A54.out).mono ?_
                      (case side1 => repeat (first | exact (Kd.C_below HR0.out HB.out) | (with_reducible refine Kd.C_alloc ?_ _) | (with_reducible refine Kd.C_drewN ?_ _) | (with_reducible refine Kd.C_drew ?_)))
                      (case side2 => exact HC0.out)
                      rintro e w61 ⟨v646, rfl, ho0, hb⟩
                      refine ⟨_, rfl, ?_⟩
                      have n0_ := Aside0.mk (Kd.R_below (by (with_reducible repeat (first | apply Kd.R_alloc | apply Kd.R_drewN | apply Kd.R_drew)); exact HO_6.out) hb)
                      have n1_ := Aside0.mk (Kd.R_below (by (with_reducible repeat (first | apply Kd.R_alloc | apply Kd.R_drewN | apply Kd.R_drew)); exact HO_9.out) hb)
                      have n2_ := Aside0.mk (Kd.R_lower ho0 (below_size (by repeat (first | (with_reducible first | exact HB.out | apply below_alloc | apply pw_below_drewN | apply below_drew1 | refine below_set ?_ GE614.out) | exact HB.out))))
                      have n3_ := Aside0.mk (blk_below (g := gb614) (o := .cells #[.int .i64 a1_0, .int .i64 a1_1] 24 (0, 0)) (by (with_reducible repeat (first | refine blk_drewN ?_ _ | refine blk_drew ?_ | refine blk_alloc ?_ _)); exact BK614.out) hb)
                      have n4_ := Aside0.mk (below_step (by repeat (first | (with_reducible first | exact HB.out | apply below_alloc | apply pw_below_drewN | apply below_drew1 | refine below_set ?_ GE614.out) | exact HB.out)) hb)
                      clear HO_6
                      clear HO_9
                      clear BK614
                      clear HB
                      have HO_6 := n0_
                      have HO_9 := n1_
                      have HO647 := n2_
                      have BK614 := n3_
                      have HB := n4_
                      clear n0_ n1_ n2_ n3_ n4_
                      (try clear hb)
                      (try clear hb2)
                      (try clear hk)
                      (try clear hi)
                      (try clear ho0)
                      refine hK.out _ _ ⟨(blk_cell BK614.out 0).trans rfl, (blk_cell BK614.out 1).trans rfl⟩ (fun hHeld => ?_)
                      clear hK K
                      refine norm_ (a' := ?_) ?_ ?_
                      rotate_left
                      · show Act.put _ (some 81) _ = _
                        simp only [Act.put, List.setIfInBounds_toArray, List.set_cons_zero, List.set_cons_succ, i64_w, i32_w]
                        rfl
                      refine one_ (i := 3) (N := some 83) #[true, true, true, true, false, false, false, false, false, false] rfl rfl (one_of HT_.out (by kernel_rfl)) (by decide) (fun K hK => ?_)
                      refine goes_ Try.func14 (by kernel_rfl) rfl #[.agg #[.int .i64 a1_0, .int .i64 a1_1]] (by rfl) rfl rfl (by (try simp only [List.map_toArray, List.map_cons, List.map_nil]); first | done | rfl | (simp only [List.length_drop, List.length_take]; rfl)) ?_
                      with_reducible refine (laws_toCase.calls a1_0 a1_1 t648 t649 _ A55.out).mono ?_
                      rintro e w62 ⟨rfl, hb⟩
                      refine ⟨_, rfl, ?_⟩
                      have n0_ := Aside0.mk (Kd.R_below (by (with_reducible repeat (first | apply Kd.R_alloc | apply Kd.R_drewN | apply Kd.R_drew)); exact HO_6.out) hb)
                      have n1_ := Aside0.mk (Kd.R_below (by (with_reducible repeat (first | apply Kd.R_alloc | apply Kd.R_drewN | apply Kd.R_drew)); exact HO_9.out) hb)
                      have n2_ := Aside0.mk (Kd.R_below (by (with_reducible repeat (first | apply Kd.R_alloc | apply Kd.R_drewN | apply Kd.R_drew)); exact HO647.out) hb)
                      have n3_ := Aside0.mk (blk_below (g := gb614) (o := .cells #[.int .i64 a1_0, .int .i64 a1_1] 24 (0, 0)) (by (with_reducible repeat (first | refine blk_drewN ?_ _ | refine blk_drew ?_ | refine blk_alloc ?_ _)); exact BK614.out) hb)
                      have n4_ := Aside0.mk (below_step (by repeat (first | (with_reducible first | exact HB.out | apply below_alloc | apply pw_below_drewN | apply below_drew1 | refine below_set ?_ GE614.out) | exact HB.out)) hb)
                      clear HO_6
                      clear HO_9
                      clear HO647
                      clear BK614
                      clear HB
                      have HO_6 := n0_
                      have HO_9 := n1_
                      have HO647 := n2_
                      have BK614 := n3_
                      have HB := n4_
                      clear n0_ n1_ n2_ n3_ n4_
                      (try clear hb)
                      (try clear hb2)
                      (try clear hk)
                      (try clear hi)
                      obtain ⟨Ao63, co63, eo63⟩ := Kd.R_slice HO647.out
                      (first | subst eo63 | (injection eo63 with f1_ f2_ f3_; have f4_ := f1_.symm; have f5_ := f3_.symm; clear f1_ f2_ f3_; subst f4_; subst f5_))
                      refine hK.out _ _ ⟨(blk_cell BK614.out 0).trans rfl, (blk_cell BK614.out 1).trans rfl⟩ (fun hHeld => ?_)
                      clear hK K
                      refine norm_ (a' := ?_) ?_ ?_
                      rotate_left
                      · show Act.put _ (some 83) _ = _
                        simp only [Act.put, List.setIfInBounds_toArray, List.set_cons_zero, List.set_cons_succ, i64_w, i32_w]
                        rfl
                      refine one_ (i := 4) (N := some 84) #[true, true, true, true, true, false, false, false, false, false] rfl rfl (one_of HT_.out (by kernel_rfl)) (by decide) (fun K hK => ?_)
                      refine goes_ Try.func33 (by kernel_rfl) rfl #[.slice Ao63 t645.length co63, .agg #[.int .i64 t648, .int .i64 t649]] (by rfl) rfl rfl (by (try simp only [List.map_toArray, List.map_cons, List.map_nil]); first | done | rfl | (simp only [List.length_drop, List.length_take]; rfl)) ?_
                      with_reducible refine (impl_PackByValue.calls _ _ t645 t648 t649 t650 t653 _ ?side1 ?side2 A56.out).mono ?_
                      (case side1 => repeat (first | exact (Kd.R_reads' HO647.out).2.2 | (with_reducible refine Kd.C_alloc ?_ _) | (with_reducible refine Kd.C_drewN ?_ _) | (with_reducible refine Kd.C_drew ?_)))
                      (case side2 => exact (Kd.R_reads' HO647.out).2.1)
                      rintro e w64 ⟨v651, rfl, ho0, hb⟩
                      refine ⟨_, rfl, ?_⟩
                      have n0_ := Aside0.mk (Kd.R_elder' (by (with_reducible repeat (first | apply Kd.R_alloc | apply Kd.R_drewN | apply Kd.R_drew)); exact HO_6.out) (Kd.R_base ho0) hb)
                      have n1_ := Aside0.mk (Kd.R_elder' (by (with_reducible repeat (first | apply Kd.R_alloc | apply Kd.R_drewN | apply Kd.R_drew)); exact HO_9.out) (Kd.R_base ho0) hb)
                      have n2_ := Aside0.mk (Kd.R_below (by (with_reducible repeat (first | apply Kd.R_alloc | apply Kd.R_drewN | apply Kd.R_drew)); exact HO647.out) hb)
                      have n3_ := Aside0.mk (Kd.R_lower (Kd.R_new' (Kd.R_new' ho0 (Kd.R_lt (by (with_reducible repeat (first | apply Kd.R_alloc | apply Kd.R_drewN | apply Kd.R_drew)); exact HO_6.out))) (Kd.R_lt (by (with_reducible repeat (first | apply Kd.R_alloc | apply Kd.R_drewN | apply Kd.R_drew)); exact HO_9.out))) (below_size (by repeat (first | (with_reducible first | exact HB.out | apply below_alloc | apply pw_below_drewN | apply below_drew1 | refine below_set ?_ GE614.out) | exact HB.out))))
                      have n4_ := Aside0.mk (blk_below (g := gb614) (o := .cells #[.int .i64 a1_0, .int .i64 a1_1] 24 (0, 0)) (by (with_reducible repeat (first | refine blk_drewN ?_ _ | refine blk_drew ?_ | refine blk_alloc ?_ _)); exact BK614.out) hb)
                      have n5_ := Aside0.mk (below_step (by repeat (first | (with_reducible first | exact HB.out | apply below_alloc | apply pw_below_drewN | apply below_drew1 | refine below_set ?_ GE614.out) | exact HB.out)) hb)
                      clear HO_6
                      clear HO_9
                      clear HO647
                      clear BK614
                      clear HB
                      have HO_6 := n0_
                      have HO_9 := n1_
                      have HO647 := n2_
                      have HO652 := n3_
                      have BK614 := n4_
                      have HB := n5_
                      clear n0_ n1_ n2_ n3_ n4_ n5_
                      (try clear hb)
                      (try clear hb2)
                      (try clear hk)
                      (try clear hi)
                      (try clear ho0)
                      refine hK.out _ _ ⟨(blk_cell BK614.out 0).trans rfl, (blk_cell BK614.out 1).trans rfl⟩ (fun hHeld => ?_)
                      clear hK K
                      refine norm_ (a' := ?_) ?_ ?_
                      rotate_left
                      · show Act.put _ (some 84) _ = _
                        simp only [Act.put, List.setIfInBounds_toArray, List.set_cons_zero, List.set_cons_succ, i64_w, i32_w]
                        rfl
                      refine pure_ (i := 5) (N := some 79) (v := ?_) (a' := ?_) #[true, true, true, true, true, true, false, false, false, false] rfl rfl (any_of HT_.out (by kernel_rfl)) (fun _ _ _ h => h) (Or.inl ⟨by rfl, ?_⟩) ?_ ?_
                      rotate_left
                      · intro w'
                        go_simp
                        with_reducible rfl
                      rotate_left
                      · simp only [Act.put, List.setIfInBounds_toArray, List.set_cons_zero, List.set_cons_succ, i64_w, i32_w]
                        rfl
                      refine pure_ (i := 6) (N := some 85) (v := ?_) (a' := ?_) #[true, true, true, true, true, true, true, false, false, false] rfl rfl (any_of HT_.out (by kernel_rfl)) (fun _ _ _ h => h) (Or.inl ⟨by rfl, ?_⟩) ?_ ?_
                      rotate_left
                      · intro w'
                        go_simp
                        with_reducible rfl
                      rotate_left
                      · simp only [Act.put, List.setIfInBounds_toArray, List.set_cons_zero, List.set_cons_succ, i64_w, i32_w]
                        rfl
                      refine pure_ (i := 7) (N := some 86) (v := ?_) (a' := ?_) #[true, true, true, true, true, true, true, true, false, false] rfl rfl (any_of HT_.out (by kernel_rfl)) (fun _ _ _ h => h) (Or.inl ⟨by rfl, ?_⟩) ?_ ?_
                      rotate_left
                      · intro w'
                        go_simp
                        with_reducible rfl
                      rotate_left
                      · simp only [Act.put, List.setIfInBounds_toArray, List.set_cons_zero, List.set_cons_succ, i64_w, i32_w]
                        rfl
                      refine pure_ (i := 8) (N := some 14) (v := ?_) (a' := ?_) #[true, true, true, true, true, true, true, true, true, false] rfl rfl (any_of HT_.out (by kernel_rfl)) (fun _ _ _ h => h) (Or.inl ⟨by rfl, ?_⟩) ?_ ?_
                      rotate_left
                      · intro w'
                        go_simp
                        with_reducible rfl
                      rotate_left
                      · simp only [Act.put, List.setIfInBounds_toArray, List.set_cons_zero, List.set_cons_succ, i64_w, i32_w]
                        rfl
                      refine pure_ (i := 9) (N := some 15) (v := ?_) (a' := ?_) #[true, true, true, true, true, true, true, true, true, true] rfl rfl (any_of HT_.out (by kernel_rfl)) (fun _ _ _ h => h) (Or.inl ⟨by rfl, ?_⟩) ?_ ?_
                      rotate_left
                      · intro w'
                        go_simp
                        with_reducible rfl
                      rotate_left
                      · simp only [Act.put, List.setIfInBounds_toArray, List.set_cons_zero, List.set_cons_succ, i64_w, i32_w]
                        rfl
                      refine done_ (done_of HT_.out (by kernel_rfl)) ?_
                      go_upto_region 25 with (fail)
                      go_cut [95] (fun v95 wc => ∃ (kq : Nat) (x95_56 : Bool), v95 = .bool x95_56 ∧ Aside0 (laws_FnExactPackByValue.j2 kq t643 t642 x95_56 = some r) ∧ Aside0 (kq ≤ kj34) ∧ Aside0 (Kd.R (Kd.int .i64) 3 wc w.heap.size (fun _ => True) (.slice Ao58 t630.length co58) t643) ∧ Aside0 (wc.heap[gb614]? = some (.cells #[.int .i64 a1_0, .int .i64 a1_1] 24 (0, 0))) ∧ Aside0 (Below w.heap.size w wc))
                      case first =>
                        have H := HC57.out
                        clear HC57
                        replace H := Option.bind_eq_some_iff.mp H
                        obtain ⟨t654, A650, H⟩ := H
                        replace H : (if t654 = true then (laws_FnExactPackByValue.j2 kj34 t643 t642 (t653 != t624)) else (laws_FnExactPackByValue.j2 kj34 t643 t642 true)) = some r := H
                        have A65 := Aside0.mk A650
                        clear A650
                        by_cases c66 : t654 = true
                        · subst c66
                          have H1 : (laws_FnExactPackByValue.j2 kj34 t643 t642 (t653 != t624)) = some r := by rw [if_pos rfl] at H; exact H
                          clear H
                          have H := H1
                          clear H1
                          have H' := Aside0.mk H
                          clear H
                          obtain ⟨Ao67, co67, eo67⟩ := Kd.R_slice HO652.out
                          subst eo67
                          obtain ⟨Ao68, co68, eo68⟩ := Kd.R_slice HO_6.out
                          subst eo68
                          go_wp2_with (first | ((with_reducible refine gate_callee (f := 21) rfl ?_); refine goesL_ (some 89) rfl rfl Try.func21 (by kernel_rfl) rfl #[.slice Ao67 t650.length co67, .slice Ao68 t621.length co68] rfl (by (try simp only [List.map_toArray, List.map_cons, List.map_nil]); first | done | rfl | (simp only [List.length_drop, List.length_take]; rfl)) ?_; (with_reducible refine (laws_eqIntS.calls kj34 _ _ t650 _ _ t621 true _ ?side1 ?side2 ?side3 ?side4 A65.out).mono ?_); (case side1 => repeat (first | exact (Kd.R_reads' HO652.out).2.2 | (with_reducible refine Kd.C_alloc ?_ _) | (with_reducible refine Kd.C_drewN ?_ _) | (with_reducible refine Kd.C_drew ?_))); (case side2 => exact (Kd.R_reads' HO652.out).2.1); (case side3 => repeat (first | exact (Kd.R_reads' HO_6.out).2.2 | (with_reducible refine Kd.C_alloc ?_ _) | (with_reducible refine Kd.C_drewN ?_ _) | (with_reducible refine Kd.C_drew ?_))); (case side4 => exact (Kd.R_reads' HO_6.out).2.1); rintro e w' ⟨rfl, ⟨nd, rfl⟩⟩; refine ⟨_, rfl, ?_⟩))
                          go_meet
                          case rel => exact ⟨_, ((t653 != t624)), (by first | rfl | (simp; done) | (simp [*]; done)), H', ⟨by have := HJ11.out; have := HJ34.out; first | omega | exact Nat.le_refl _⟩, ⟨by (with_reducible repeat (first | apply Kd.R_alloc | apply Kd.R_drewN | apply Kd.R_drew)); exact Kd.R_mono HO_9.out (fun _ hk => trivial)⟩, ⟨by (with_reducible repeat (first | refine blk_drewN ?_ _ | refine blk_drew ?_ | refine blk_alloc ?_ _)); exact BK614.out⟩, ⟨by repeat (first | (with_reducible first | exact HB.out | apply below_alloc | apply pw_below_drewN | apply below_drew1 | refine below_set ?_ GE614.out) | exact HB.out)⟩⟩
                        · replace c66 := Bool.eq_false_iff.mpr c66
                          subst c66
                          have H1 : (laws_FnExactPackByValue.j2 kj34 t643 t642 true) = some r := by rw [if_neg (show ¬ (false = true) by decide)] at H; exact H
                          clear H
                          have H := H1
                          clear H1
                          have H' := Aside0.mk H
                          clear H
                          obtain ⟨Ao69, co69, eo69⟩ := Kd.R_slice HO652.out
                          subst eo69
                          obtain ⟨Ao70, co70, eo70⟩ := Kd.R_slice HO_6.out
                          subst eo70
                          go_wp2_with (first | ((with_reducible refine gate_callee (f := 21) rfl ?_); refine goesL_ (some 89) rfl rfl Try.func21 (by kernel_rfl) rfl #[.slice Ao69 t650.length co69, .slice Ao70 t621.length co70] rfl (by (try simp only [List.map_toArray, List.map_cons, List.map_nil]); first | done | rfl | (simp only [List.length_drop, List.length_take]; rfl)) ?_; (with_reducible refine (laws_eqIntS.calls kj34 _ _ t650 _ _ t621 false _ ?side1 ?side2 ?side3 ?side4 A65.out).mono ?_); (case side1 => repeat (first | exact (Kd.R_reads' HO652.out).2.2 | (with_reducible refine Kd.C_alloc ?_ _) | (with_reducible refine Kd.C_drewN ?_ _) | (with_reducible refine Kd.C_drew ?_))); (case side2 => exact (Kd.R_reads' HO652.out).2.1); (case side3 => repeat (first | exact (Kd.R_reads' HO_6.out).2.2 | (with_reducible refine Kd.C_alloc ?_ _) | (with_reducible refine Kd.C_drewN ?_ _) | (with_reducible refine Kd.C_drew ?_))); (case side4 => exact (Kd.R_reads' HO_6.out).2.1); rintro e w' ⟨rfl, ⟨nd, rfl⟩⟩; refine ⟨_, rfl, ?_⟩))
                          go_meet
                          case rel => exact ⟨_, (true), (by first | rfl | (simp; done) | (simp [*]; done)), H', ⟨by have := HJ11.out; have := HJ34.out; first | omega | exact Nat.le_refl _⟩, ⟨by (with_reducible repeat (first | apply Kd.R_alloc | apply Kd.R_drewN | apply Kd.R_drew)); exact Kd.R_mono HO_9.out (fun _ hk => trivial)⟩, ⟨by (with_reducible repeat (first | refine blk_drewN ?_ _ | refine blk_drew ?_ | refine blk_alloc ?_ _)); exact BK614.out⟩, ⟨by repeat (first | (with_reducible first | exact HB.out | apply below_alloc | apply pw_below_drewN | apply below_drew1 | refine below_set ?_ GE614.out) | exact HB.out)⟩⟩
                      case rest =>
                        clear HC57
                        try clear c1
                        try clear c2
                        try clear p2
                        try clear c3
                        try clear c4
                        try clear c4b0
                        try clear c5
                        try clear c6
                        try clear c9
                        try clear c11
                        try clear c13
                        try clear c14
                        try clear c16
                        try clear c21
                        try clear c22
                        try clear c23
                        try clear c24
                        try clear c25
                        try clear c30
                        try clear c32
                        try clear c33
                        try clear c40
                        try clear c40b0
                        try clear c42
                        try clear c47
                        try clear c50
                        try clear c50b0
                        try clear c53
                        try clear c53b0
                        try clear c53b1
                        try clear c66
                        try clear hcz20_0
                        try clear hcz20_1
                        try clear hfz20_0
                        try clear hfz20_1
                        try clear p2
                        obtain ⟨kq, x95_56, rfl, HA, HJ56, HO_9, BK614, HB⟩ := hcut
                        have hl9_56 := (Kd.R_reads' HO_9.out).1
                        rw [hl9_56] at HO_9
                        (try simp only [hl9_56])
                        (try simp only [hl9_56] at BK614)
                        cases kq with
                        | zero => exact absurd HA.out (by simp [laws_FnExactPackByValue.j2])
                        | succ kj56 =>
                          have H := HA.out
                          clear HA
                          simp only [laws_FnExactPackByValue.j2] at H
                          by_cases c71 : x95_56 = true
                          · subst c71
                            have H1 : (some false) = some r := by rw [if_pos rfl] at H; exact H
                            clear H
                            have H := H1
                            clear H1
                            obtain rfl := Option.some.inj H
                            go_wp2
                            go_ret
                            exact ⟨by first | rfl | (simp [errW_none, errW_some] <;> rfl) | (simp [*, errW_none, errW_some] <;> rfl), by repeat (first | (with_reducible first | exact HB.out | apply below_alloc | apply pw_below_drewN | apply below_drew1 | refine below_set ?_ GE614.out) | exact HB.out)⟩
                          · replace c71 := Bool.eq_false_iff.mpr c71
                            subst c71
                            have H1 : ((laws_heldIntS.f kj56 t643 1).bind fun t655 => (if t655 < 0 then (some false) else (if t655 = t642 then (some true) else (some false)))) = some r := by rw [if_neg (show ¬ (false = true) by decide)] at H; exact H
                            clear H
                            have H := H1
                            clear H1
                            replace H := Option.bind_eq_some_iff.mp H
                            obtain ⟨t655, A720, H⟩ := H
                            replace H : (if t655 < 0 then (some false) else (if t655 = t642 then (some true) else (some false))) = some r := H
                            have A72 := Aside0.mk A720
                            clear A720
                            by_cases c73 : t655 < 0
                            · rw [if_pos c73] at H
                              have c73b0 : decide (t655 < 0) = true := decide_eq_true c73
                              clear c73
                              obtain rfl := Option.some.inj H
                              go_wp2_with (first | ((with_reducible refine gate_callee (f := 24) rfl ?_); refine goesL_ (some 98) rfl rfl Try.func24 (by kernel_rfl) rfl #[.slice Ao58 t643.length co58, .int .i64 1] rfl (by (try simp only [List.map_toArray, List.map_cons, List.map_nil]); first | done | rfl | (simp only [List.length_drop, List.length_take]; rfl)) ?_; (with_reducible refine (laws_heldIntS.calls kj56 _ _ t643 1 t655 _ ?side1 ?side2 A72.out).mono ?_); (case side1 => repeat (first | exact (Kd.R_reads' HO_9.out).2.2 | (with_reducible refine Kd.C_alloc ?_ _) | (with_reducible refine Kd.C_drewN ?_ _) | (with_reducible refine Kd.C_drew ?_))); (case side2 => exact (Kd.R_reads' HO_9.out).2.1); rintro e w' ⟨rfl, ⟨nd, rfl⟩⟩; refine ⟨_, rfl, ?_⟩))
                              go_ret
                              exact ⟨by first | rfl | (simp [errW_none, errW_some] <;> rfl) | (simp [*, errW_none, errW_some] <;> rfl), by repeat (first | (with_reducible first | exact HB.out | apply below_alloc | apply pw_below_drewN | apply below_drew1 | refine below_set ?_ GE614.out) | exact HB.out)⟩
                            · rw [if_neg c73] at H
                              have c73b0 : decide (t655 < 0) = false := decide_eq_false c73
                              clear c73
                              by_cases c74 : t655 = t642
                              · rw [if_pos c74] at H
                                have c74b0 : (t655 == t642) = true := beq_iff_eq.mpr c74
                                have c74b1 : (t655 != t642) = false := bne_eq_false_iff_eq.mpr c74
                                clear c74
                                obtain rfl := Option.some.inj H
                                go_wp2_with (first | ((with_reducible refine gate_callee (f := 24) rfl ?_); refine goesL_ (some 98) rfl rfl Try.func24 (by kernel_rfl) rfl #[.slice Ao58 t643.length co58, .int .i64 1] rfl (by (try simp only [List.map_toArray, List.map_cons, List.map_nil]); first | done | rfl | (simp only [List.length_drop, List.length_take]; rfl)) ?_; (with_reducible refine (laws_heldIntS.calls kj56 _ _ t643 1 t655 _ ?side1 ?side2 A72.out).mono ?_); (case side1 => repeat (first | exact (Kd.R_reads' HO_9.out).2.2 | (with_reducible refine Kd.C_alloc ?_ _) | (with_reducible refine Kd.C_drewN ?_ _) | (with_reducible refine Kd.C_drew ?_))); (case side2 => exact (Kd.R_reads' HO_9.out).2.1); rintro e w' ⟨rfl, ⟨nd, rfl⟩⟩; refine ⟨_, rfl, ?_⟩))
                                go_ret
                                exact ⟨by first | rfl | (simp [errW_none, errW_some] <;> rfl) | (simp [*, errW_none, errW_some] <;> rfl), by repeat (first | (with_reducible first | exact HB.out | apply below_alloc | apply pw_below_drewN | apply below_drew1 | refine below_set ?_ GE614.out) | exact HB.out)⟩
                              · rw [if_neg c74] at H
                                have c74b0 : (t655 == t642) = false := beq_eq_false_iff_ne.mpr c74
                                have c74b1 : (t655 != t642) = true := bne_iff_ne.mpr c74
                                obtain rfl := Option.some.inj H
                                go_wp2_with (first | ((with_reducible refine gate_callee (f := 24) rfl ?_); refine goesL_ (some 98) rfl rfl Try.func24 (by kernel_rfl) rfl #[.slice Ao58 t643.length co58, .int .i64 1] rfl (by (try simp only [List.map_toArray, List.map_cons, List.map_nil]); first | done | rfl | (simp only [List.length_drop, List.length_take]; rfl)) ?_; (with_reducible refine (laws_heldIntS.calls kj56 _ _ t643 1 t655 _ ?side1 ?side2 A72.out).mono ?_); (case side1 => repeat (first | exact (Kd.R_reads' HO_9.out).2.2 | (with_reducible refine Kd.C_alloc ?_ _) | (with_reducible refine Kd.C_drewN ?_ _) | (with_reducible refine Kd.C_drew ?_))); (case side2 => exact (Kd.R_reads' HO_9.out).2.1); rintro e w' ⟨rfl, ⟨nd, rfl⟩⟩; refine ⟨_, rfl, ?_⟩))
                                go_ret
                                exact ⟨by first | rfl | (simp [errW_none, errW_some] <;> rfl) | (simp [*, errW_none, errW_some] <;> rfl), by repeat (first | (with_reducible first | exact HB.out | apply below_alloc | apply pw_below_drewN | apply below_drew1 | refine below_set ?_ GE614.out) | exact HB.out)⟩
                    · rw [if_neg c53] at H
                      have c53b0 : (t644 == t642) = false := beq_eq_false_iff_ne.mpr c53
                      have c53b1 : (t644 != t642) = true := bne_iff_ne.mpr c53
                      obtain rfl := Option.some.inj H
                      obtain ⟨Ao75, co75, eo75⟩ := Kd.R_slice HO_9.out
                      subst eo75
                      go_wp2_with (first | ((with_reducible refine gate_callee (f := 23) rfl ?_); refine goesL_ (some 70) rfl rfl Try.func23 (by kernel_rfl) rfl #[.slice Ao75 t630.length co75, .int .i64 1] rfl (by (try simp only [List.map_toArray, List.map_cons, List.map_nil]); first | done | rfl | (simp only [List.length_drop, List.length_take]; rfl)) ?_; (with_reducible refine (laws_markIntS.calls kj34 (fun k_ => some k_ = (.slice Ao75 t630.length co75 : Value).ownBlock) (.slice Ao75 t630.length co75) t630 1 t642 t643 w _ ?side1 ?side2 A48.out).mono ?_); (case side1 => repeat (first | (with_reducible first | exact HB.out | apply below_alloc | apply pw_below_drewN | apply below_drew1 | refine below_set ?_ GE614.out) | exact HB.out)); (case side2 => exact Kd.R_tight rfl HO_9.out); rintro e w76 ⟨rfl, hy0, hb, hkp⟩; refine ⟨_, rfl, ?_⟩; have n0_ := Aside0.mk (Kd.R_mono (ok' := fun k_ => some k_ ≠ (.slice Ao75 t630.length co75 : Value).ownBlock) (Kd.R_keptB (HO_6.out) hkp (fun k_ hk_ hs_ => (hk_) hs_)) (fun k_ hk_ => hk_.1)); have n1_ := Aside0.mk (Kd.R_reok rfl hy0 (fun k_ e_ => HO_9.out.1 k_ e_)); have n2_ := Aside0.mk (blk_kept (by (with_reducible repeat (first | refine blk_drewN ?_ _ | refine blk_drew ?_ | refine blk_alloc ?_ _)); exact BK614.out) hkp (fun hs_ => (fun e_ => (Kd.R_ne HO_9.out BK614.out (by decide)) e_) hs_)); have n3_ := Aside0.mk (hb); clear HO_6; clear HO_9; clear BK614; clear HB; have HO_6 := n0_; have HO_9 := n1_; have BK614 := n2_; have HB := n3_; clear n0_ n1_ n2_ n3_; (try clear hb); (try clear hkp); (try clear hy0)) | ((with_reducible refine gate_callee (f := 24) rfl ?_); refine goesL_ (some 73) rfl rfl Try.func24 (by kernel_rfl) rfl #[.slice Ao75 t643.length co75, .int .i64 1] rfl (by (try simp only [List.map_toArray, List.map_cons, List.map_nil]); first | done | (rw [show t643.length = t630.length from (Kd.R_reads' HO_9.out).1.symm] <;> rfl) | rfl | (simp only [List.length_drop, List.length_take]; rfl)) ?_; (with_reducible refine (laws_heldIntS.calls kj34 _ _ t643 1 t644 _ ?side1 ?side2 A49.out).mono ?_); (case side1 => repeat (first | exact (Kd.R_reads' HO_9.out).2.2 | (with_reducible refine Kd.C_alloc ?_ _) | (with_reducible refine Kd.C_drewN ?_ _) | (with_reducible refine Kd.C_drew ?_))); (case side2 => rw [show t643.length = t630.length from (Kd.R_reads' HO_9.out).1.symm]; exact (Kd.R_reads' HO_9.out).2.1); rintro e w' ⟨rfl, ⟨nd, rfl⟩⟩; refine ⟨_, rfl, ?_⟩))
                      go_ret
                      exact ⟨by first | rfl | (simp [errW_none, errW_some] <;> rfl) | (simp [*, errW_none, errW_some] <;> rfl), by repeat (first | (with_reducible first | exact HB.out | apply below_alloc | apply pw_below_drewN | apply below_drew1 | refine below_set ?_ GE614.out) | exact HB.out)⟩
          · replace c33 := Bool.eq_false_iff.mpr c33
            subst c33
            have H1 : (some false) = some r := by rw [if_neg (show ¬ (false = true) by decide)] at H; exact H
            clear H
            have H := H1
            clear H1
            obtain rfl := Option.some.inj H
            go_wp2_with (first | ((with_reducible refine gate_callee (f := 13) rfl ?_); refine goesL_ (some 49) rfl rfl Try.func13 (by kernel_rfl) rfl #[.slice A0 l0.length c0] rfl (by (try simp only [List.map_toArray, List.map_cons, List.map_nil]); first | done | rfl | (simp only [List.length_drop, List.length_take]; rfl)) ?_; (with_reducible refine (laws_toItemS.calls kj11 _ _ l0 t635 _ ?side1 ?side2 A31.out).mono ?_); (case side1 => repeat (first | exact (Kd.C_below HR0.out HB.out) | (with_reducible refine Kd.C_alloc ?_ _) | (with_reducible refine Kd.C_drewN ?_ _) | (with_reducible refine Kd.C_drew ?_))); (case side2 => exact HC0.out); rintro e w77 ⟨v636, rfl, ho0, hb⟩; refine ⟨_, rfl, ?_⟩; have n0_ := Aside0.mk (Kd.R_below (by (with_reducible repeat (first | apply Kd.R_alloc | apply Kd.R_drewN | apply Kd.R_drew)); exact HO_6.out) hb); have n1_ := Aside0.mk (Kd.R_elder' (by (with_reducible repeat (first | apply Kd.R_alloc | apply Kd.R_drewN | apply Kd.R_drew)); exact HO_8.out) (Kd.R_base ho0) hb); have n2_ := Aside0.mk (Kd.R_below (by (with_reducible repeat (first | apply Kd.R_alloc | apply Kd.R_drewN | apply Kd.R_drew)); exact HO_9.out) hb); have n3_ := Aside0.mk (Kd.R_lower (Kd.R_new' ho0 (Kd.R_lt (by (with_reducible repeat (first | apply Kd.R_alloc | apply Kd.R_drewN | apply Kd.R_drew)); exact HO_8.out))) (below_size (by repeat (first | (with_reducible first | exact HB.out | apply below_alloc | apply pw_below_drewN | apply below_drew1 | refine below_set ?_ GE614.out) | exact HB.out)))); have n4_ := Aside0.mk (blk_below (g := gb614) (o := .cells #[.int .i64 a1_0, .int .i64 a1_1] 24 (0, 0)) (by (with_reducible repeat (first | refine blk_drewN ?_ _ | refine blk_drew ?_ | refine blk_alloc ?_ _)); exact BK614.out) hb); have n5_ := Aside0.mk (below_step (by repeat (first | (with_reducible first | exact HB.out | apply below_alloc | apply pw_below_drewN | apply below_drew1 | refine below_set ?_ GE614.out) | exact HB.out)) hb); clear HO_6; clear HO_8; clear HO_9; clear BK614; clear HB; have HO_6 := n0_; have HO_8 := n1_; have HO_9 := n2_; have HO637 := n3_; have BK614 := n4_; have HB := n5_; clear n0_ n1_ n2_ n3_ n4_ n5_; (try clear hb); (try clear hb2); (try clear hk); (try clear hi); (try clear ho0); obtain ⟨Ao78, co78, eo78⟩ := Kd.R_slice HO637.out; subst eo78) | ((with_reducible refine gate_callee (f := 16) rfl ?_); refine goesL_ (some 50) rfl rfl Try.func16 (by kernel_rfl) rfl #[.slice Ao22 t625.length co22, .slice Ao78 t635.length co78] rfl (by (try simp only [List.map_toArray, List.map_cons, List.map_nil]); first | done | rfl | (simp only [List.length_drop, List.length_take]; rfl)) ?_; (with_reducible refine (laws_eqItemS.calls kj11 _ _ t625 _ _ t635 false _ ?side1 ?side2 ?side3 ?side4 A32.out).mono ?_); (case side1 => repeat (first | exact (Kd.R_reads' HO_8.out).2.2 | (with_reducible refine Kd.C_alloc ?_ _) | (with_reducible refine Kd.C_drewN ?_ _) | (with_reducible refine Kd.C_drew ?_))); (case side2 => exact (Kd.R_reads' HO_8.out).2.1); (case side3 => repeat (first | exact (Kd.R_reads' HO637.out).2.2 | (with_reducible refine Kd.C_alloc ?_ _) | (with_reducible refine Kd.C_drewN ?_ _) | (with_reducible refine Kd.C_drew ?_))); (case side4 => exact (Kd.R_reads' HO637.out).2.1); rintro e w79 ⟨rfl, hb⟩; refine ⟨_, rfl, ?_⟩; have n0_ := Aside0.mk (Kd.R_below (by (with_reducible repeat (first | apply Kd.R_alloc | apply Kd.R_drewN | apply Kd.R_drew)); exact HO_6.out) hb); have n1_ := Aside0.mk (Kd.R_below (by (with_reducible repeat (first | apply Kd.R_alloc | apply Kd.R_drewN | apply Kd.R_drew)); exact HO_8.out) hb); have n2_ := Aside0.mk (Kd.R_below (by (with_reducible repeat (first | apply Kd.R_alloc | apply Kd.R_drewN | apply Kd.R_drew)); exact HO_9.out) hb); have n3_ := Aside0.mk (Kd.R_below (by (with_reducible repeat (first | apply Kd.R_alloc | apply Kd.R_drewN | apply Kd.R_drew)); exact HO637.out) hb); have n4_ := Aside0.mk (blk_below (g := gb614) (o := .cells #[.int .i64 a1_0, .int .i64 a1_1] 24 (0, 0)) (by (with_reducible repeat (first | refine blk_drewN ?_ _ | refine blk_drew ?_ | refine blk_alloc ?_ _)); exact BK614.out) hb); have n5_ := Aside0.mk (below_step (by repeat (first | (with_reducible first | exact HB.out | apply below_alloc | apply pw_below_drewN | apply below_drew1 | refine below_set ?_ GE614.out) | exact HB.out)) hb); clear HO_6; clear HO_8; clear HO_9; clear HO637; clear BK614; clear HB; have HO_6 := n0_; have HO_8 := n1_; have HO_9 := n2_; have HO637 := n3_; have BK614 := n4_; have HB := n5_; clear n0_ n1_ n2_ n3_ n4_ n5_; (try clear hb); (try clear hb2); (try clear hk); (try clear hi)))
            go_ret
            exact ⟨by first | rfl | (simp [errW_none, errW_some] <;> rfl) | (simp [*, errW_none, errW_some] <;> rfl), by repeat (first | (with_reducible first | exact HB.out | apply below_alloc | apply pw_below_drewN | apply below_drew1 | refine below_set ?_ GE614.out) | exact HB.out)⟩

end Go.Proofs.Ytkaihdpmjlhlaaa.Q

namespace Go.Proofs.Ytkaihdpmjlhlaaa.Q
open Go.RowKit Go.Proofs.YtkaihdpmjlhlaaaW.PrintWords Go.Proofs.YtkaihdpmjlhlaaaW.PrintLast Go.Proofs.YtkaihdpmjlhlaaaW.PrintMore
set_option linter.unusedVariables false
set_option linter.unusedSimpArgs false

theorem suAsked_eq (items : List Item) (a b : Int) (hn : items.length ≤ 10000000) (k : Nat) (hk : items.length < k) : spec_suAsked.f k items a b = impl_arePacked.f items [⟨a, b⟩] := by
  unfold spec_suAsked.f
  rw [suGood_eq items (by omega) k hk]
  unfold impl_AreItems.f impl_arePacked.f
  simp only [inItem, Option.bind_some, List.all_cons, List.all_nil, Bool.and_true]
  unfold okCase
  cases (decide (1 ≤ items.length) && decide (items.length ≤ 10) && items.all okItem) <;> cases (decide (0 ≤ a) && decide (a ≤ 200)) <;> cases (decide (0 ≤ b) && decide (b ≤ 200)) <;> simp
theorem packed_good {items : List Item} {a b : Int} (h : impl_arePacked.f items [⟨a, b⟩] = some true) : items.length ≤ 10 ∧ 1 ≤ items.length ∧ (∀ x ∈ items, okItem x = true) ∧ (0 ≤ a ∧ a ≤ 200) ∧ 0 ≤ b ∧ b ≤ 200 := by
  unfold impl_arePacked.f at h
  injection h with h
  simp only [List.all_cons, List.all_nil, Bool.and_true, Bool.and_eq_true, decide_eq_true_eq, okCase, List.all_eq_true] at h
  exact ⟨h.1.1.2, h.1.1.1, h.1.2, h.2.1, h.2.2⟩

theorem holds_eq (a b x y z : Int) : impl_Case_holds.f a b x y z = some (decide (x ≤ a) && decide (y ≤ b)) := by
  unfold impl_Case_holds.f
  by_cases h : x ≤ a
  · rw [if_pos h]; simp [h]
  · rw [if_neg h]; simp [h]
theorem suFits_eq (items : List Item) (a b : Int) (ch : List Int) (hw : Inside items ch) (hn : ch.length ≤ 100000000000000) (k : Nat) (hk : ch.length < k) :
    spec_suFits.f k items a b ch = some (decide ((tot items ch).1 ≤ a) && decide ((tot items ch).2.1 ≤ b)) := by
  unfold spec_suFits.f
  rw [suTotals_eq items ch hw hn k hk]
  simp only [Option.bind_some]
  by_cases h : (tot items ch).1 ≤ a
  · rw [if_pos h]; simp [h]
  · rw [if_neg h]; simp [h]

end Go.Proofs.Ytkaihdpmjlhlaaa.Q

namespace Go.Proofs.Ytkaihdpmjlhlaaa.Q
open Go.RowKit Go.Proofs.YtkaihdpmjlhlaaaW.PrintWords Go.Proofs.YtkaihdpmjlhlaaaW.PrintLast Go.Proofs.YtkaihdpmjlhlaaaW.PrintMore
set_option linter.unusedVariables false
set_option linter.unusedSimpArgs false

/-- A number put into a list ahead of the first that is not less. -/
def putL : List Int → Int → List Int
  | [], n => [n]
  | x :: xs, n => if x < n then x :: putL xs n else if x = n then x :: xs else n :: x :: xs
theorem put_l0 (l : List Int) (n : Int) (hn : l.length ≤ 1000000) : ∀ d k i, i + d = l.length → d < k → spec_l1Put.l0 k l n (i : Int) = some (l.take i ++ putL (l.drop i) n) := by
  intro d
  induction d with
  | zero =>
    intro k i hi hk
    obtain ⟨k, rfl⟩ : ∃ m, k = m + 1 := ⟨k - 1, by omega⟩
    have e1 : l.take i = l := List.take_of_length_le (by omega)
    have e2 : l.drop i = [] := List.drop_of_length_le (by omega)
    simp only [spec_l1Put.l0, Option.bind_some, Int.toNat_natCast, List.nil_append, e1, e2, List.append_nil]
    rw [if_neg (by omega), if_pos (by omega), if_pos (by omega), if_pos (by simp; omega), if_pos (by omega), if_pos (by simp; omega)]
    rfl
  | succ d ih =>
    intro k i hi hk
    obtain ⟨k, rfl⟩ : ∃ m, k = m + 1 := ⟨k - 1, by omega⟩
    have hlt : i < l.length := by omega
    simp only [spec_l1Put.l0, Option.bind_some, Int.toNat_natCast, List.nil_append]
    rw [if_pos (by omega), if_pos (by omega), rd_nat l i hlt, w64 (i := (i : Int) + 1) (by omega) (by omega), List.drop_eq_getElem_cons hlt, putL]
    by_cases h1 : l[i] < n
    · rw [if_pos h1, if_pos h1]
      have := ih k (i + 1) (by omega) (by omega)
      rw [show ((i + 1 : Nat) : Int) = (i : Int) + 1 by omega, List.take_add_one, List.getElem?_eq_getElem hlt] at this
      rw [this]; simp only [Option.toList_some, List.append_assoc, List.singleton_append]
    · rw [if_neg h1, if_neg h1]
      by_cases h2 : l[i] = n
      · rw [if_pos h2, if_pos h2, ← List.drop_eq_getElem_cons hlt, List.take_append_drop]
      · rw [if_neg h2, if_neg h2, if_pos (by omega), if_pos (by simp; omega), if_pos (by simp; omega), if_pos (by simp; omega)]
        simp
theorem put_eq (l : List Int) (n : Int) (hn : l.length ≤ 1000000) (k : Nat) (hk : l.length < k) : spec_l1Put.f k l n = some (putL l n) := by
  unfold spec_l1Put.f
  have := put_l0 l n hn l.length k 0 (by omega) hk
  simpa using this
theorem putL_perm : ∀ (l : List Int) (n : Int), n ∉ l → (putL l n).Perm (l ++ [n])
  | [], n, _ => List.Perm.refl _
  | x :: xs, n, h => by
    have h1 : x ≠ n := fun e => h (e ▸ List.mem_cons_self)
    have h2 : n ∉ xs := fun e => h (List.mem_cons_of_mem _ e)
    rw [putL]
    split
    · exact (putL_perm xs n h2).cons x
    · exact (List.perm_append_singleton n (x :: xs)).symm
theorem putL_length (l : List Int) (n : Int) (h : n ∉ l) : (putL l n).length = l.length + 1 := by rw [(putL_perm l n h).length_eq]; simp
theorem wrap_comm (s a b : Int) : wrap64 (wrap64 (s + a) + b) = wrap64 (wrap64 (s + b) + a) := by unfold wrap64; omega
theorem tot_perm (items : List Item) {l1 l2 : List Int} (h : l1.Perm l2) : tot items l1 = tot items l2 := by
  unfold tot
  refine h.foldl_eq' (fun x _ y _ z => ?_) _
  unfold addTo
  simp only [Prod.mk.injEq]
  exact ⟨wrap_comm _ _ _, wrap_comm _ _ _, wrap_comm _ _ _⟩
theorem inside_perm {items : List Item} {l1 l2 : List Int} (h : l1.Perm l2) (hi : Inside items l2) : Inside items l1 := fun x hx => hi x (h.mem_iff.1 hx)
theorem l1Own_eq (l : List Int) (h : l.length < 1000000) : spec_l1Own.f l = some l := by
  unfold spec_l1Own.f
  simp only [Option.bind_some, List.length_nil, List.nil_append]
  rw [if_pos (by omega)]
theorem asked_ten (items : List Item) (a b : Int) (hm : items.length ≤ 10000000) : ∃ t : Bool, impl_arePacked.f items [⟨a, b⟩] = some t ∧ (∀ k, items.length < k → spec_suAsked.f k items a b = some t) ∧ (t = true → items.length ≤ 10) := by
  obtain ⟨t, ht⟩ : ∃ t, impl_arePacked.f items [⟨a, b⟩] = some t := ⟨_, rfl⟩
  refine ⟨t, ht, fun k hk => (suAsked_eq items a b hm k hk).trans ht, fun h => ?_⟩
  subst h
  exact (packed_good ht).1
end Go.Proofs.Ytkaihdpmjlhlaaa.Q

namespace Go.Proofs.Ytkaihdpmjlhlaaa.Q
open Go.RowKit Go.Proofs.YtkaihdpmjlhlaaaW.PrintWords Go.Proofs.YtkaihdpmjlhlaaaW.PrintLast Go.Proofs.YtkaihdpmjlhlaaaW.PrintMore
set_option linter.unusedVariables false
set_option linter.unusedSimpArgs false

/-- Items are right: each number from 0 to 200. -/
def Light (items : List Item) : Prop := items.length ≤ 10 ∧ ∀ i : Int, 0 ≤ i → i < (items.length : Int) → (0 ≤ (rd_T49 items i).f0 ∧ (rd_T49 items i).f0 ≤ 200) ∧ (0 ≤ (rd_T49 items i).f1 ∧ (rd_T49 items i).f1 ≤ 200) ∧ 0 ≤ (rd_T49 items i).f2 ∧ (rd_T49 items i).f2 ≤ 200
theorem light_of {items : List Item} (hn : items.length ≤ 10) (h : ∀ x ∈ items, okItem x = true) : Light items := by
  refine ⟨hn, fun i h0 h1 => ?_⟩
  have hm : rd_T49 items i ∈ items := by
    unfold rd_T49
    rw [List.getD_eq_getElem?_getD, List.getElem?_eq_getElem (by omega)]
    exact List.getElem_mem _
  have := h _ hm
  unfold okItem at this
  simp only [Bool.and_eq_true, decide_eq_true_eq] at this
  exact ⟨by omega, by omega, by omega⟩
end Go.Proofs.Ytkaihdpmjlhlaaa.Q

namespace Go.Proofs.Ytkaihdpmjlhlaaa.Q
open Go.RowKit Go.Proofs.YtkaihdpmjlhlaaaW.PrintWords Go.Proofs.YtkaihdpmjlhlaaaW.PrintLast Go.Proofs.YtkaihdpmjlhlaaaW.PrintMore
attribute [local go_sem] max2_int min2_int max_two min_two max_three min_three max_four min_four   -- for this text's walks alone
set_option linter.unusedVariables false
set_option linter.unusedSimpArgs false

/-! ### spec_PackByRatio: function 34 -/
def spec_PackByRatio.f (k : Nat) (l0 : List (S49)) (a1_0 : Int) (a1_1 : Int) : Option (List Int × Bool) := (spec_suAsked.f k l0 a1_0 a1_1).bind fun t657 => (if t657 = true then ((spec_suTake.f k l0 a1_0 a1_1 true).bind fun t658 => (some (t658, true))) else (some (([] : List Int), false)))
theorem spec_PackByRatio.mono : ∀ a0 a1 a2 k, LeO (spec_PackByRatio.f k a0 a1 a2) (spec_PackByRatio.f (k + 1) a0 a1 a2) := by
  intro a0 a1 a2 k
  unfold spec_PackByRatio.f
  repeat' first
      | (with_reducible exact spec_suAsked.mono _ _ _ _)
      | (with_reducible exact spec_suTake.mono _ _ _ _ _)
      | (with_reducible exact LeO.refl _)
      | (with_reducible exact LeO.none _)
      | (with_reducible refine LeO.ite ?_ ?_)
      | (with_reducible refine LeO.bind ?_ (fun _ => ?_))
      | exact spec_suAsked.mono _ _ _ _
      | exact spec_suTake.mono _ _ _ _ _
      | exact LeO.none _
      | refine LeO.ite ?_ ?_
      | refine LeO.bind ?_ (fun _ => ?_)
set_option maxHeartbeats 8000000 in
set_option maxRecDepth 100000 in
theorem spec_PackByRatio.calls (k : Nat) (A0 : Option Addr) (c0 : Nat) (l0 : List (S49)) (a1_0 : Int) (a1_1 : Int) (r1 : List Int) (r2 : Bool) (w : World) (hr0 : Kd.C k49 w A0 l0.length l0) (hc0 : l0.length ≤ c0) (h : spec_PackByRatio.f k l0 a1_0 a1_1 = some (r1, r2)) :
    Calls Try.prog 34 #[.slice A0 l0.length c0, .agg #[.int .i64 a1_0, .int .i64 a1_1]] w fun e w' => ∃ v0_ : Value, e = .returned (.tuple #[v0_, .bool r2]) ∧ Kd.R (Kd.int .i64) 3 w' w.heap.size (fun _ => True) v0_ r1 ∧ Below w.heap.size w w' := by
  have hu30 := Try.underlying30
  have HR0 := Aside0.mk hr0
  have HC0 := Aside0.mk hc0
  clear hr0 hc0
  have HB := Aside0.mk (Below.refl w.heap.size w)
  have H : ((spec_suAsked.f k l0 a1_0 a1_1).bind fun t657 => (if t657 = true then ((spec_suTake.f k l0 a1_0 a1_1 true).bind fun t658 => (some (t658, true))) else (some (([] : List Int), false)))) = some (r1, r2) := h
  clear h
  replace H := Option.bind_eq_some_iff.mp H
  obtain ⟨t657, A30, H⟩ := H
  replace H : (if t657 = true then ((spec_suTake.f k l0 a1_0 a1_1 true).bind fun t658 => (some (t658, true))) else (some (([] : List Int), false))) = some (r1, r2) := H
  have A3 := Aside0.mk A30
  clear A30
  by_cases c4 : t657 = true
  · subst c4
    have H1 : ((spec_suTake.f k l0 a1_0 a1_1 true).bind fun t658 => (some (t658, true))) = some (r1, r2) := by rw [if_pos rfl] at H; exact H
    clear H
    have H := H1
    clear H1
    replace H := Option.bind_eq_some_iff.mp H
    obtain ⟨t658, A50, H⟩ := H
    replace H : (some (t658, true)) = some (r1, r2) := H
    have A5 := Aside0.mk A50
    clear A50
    simp only [Option.some.injEq, Prod.mk.injEq] at H
    obtain ⟨rfl, rfl⟩ := H
    go_enter Try.func34, Try.ntmps34
    go_wp2_with (first | ((with_reducible refine gate_dst (N := 3) rfl ?_); refine box_event ?hg (N := 3) ?hd (cs := #[.int .i64 a1_0, .int .i64 a1_1]) (t := 30) ?hr ?_; (case hd => rfl); (case hg => rfl); (case hr => first | (go_simp; done) | (go_simp; rfl)); intro gb656 hg w6 hbox hb; have n0_ := Aside0.mk (below_step (by repeat (first | (with_reducible first | exact HB.out | apply below_alloc | apply pw_below_drewN | apply below_drew1) | exact HB.out)) hb); have n1_ := Aside0.mk (hbox); have n2_ := Aside0.mk ((by rw [hg]; exact (below_size (by repeat (first | (with_reducible first | exact HB.out | apply below_alloc | apply pw_below_drewN | apply below_drew1) | exact HB.out))) : w.heap.size ≤ gb656)); have n3_ := Aside0.mk ((by rw [hg]; exact (below_size (by repeat (first | (with_reducible first | exact HB.out | apply below_alloc | apply pw_below_drewN | apply below_drew1) | exact HB.out))) : w.heap.size ≤ gb656)); clear HB; have HB := n0_; have BK656 := n1_; have GW656 := n2_; have GE656 := n3_; clear n0_ n1_ n2_ n3_; clear hb hbox hg; have hcz7_0 : w6.cell? ⟨gb656, 0, none⟩ = some (.int .i64 a1_0) := (blk_cell BK656.out 0).trans rfl; have hcz7_1 : w6.cell? ⟨gb656, 1, none⟩ = some (.int .i64 a1_1) := (blk_cell BK656.out 1).trans rfl; have hfz7_0 := blk_frozen BK656.out 0; have hfz7_1 := blk_frozen BK656.out 1) | ((with_reducible refine gate_callee (f := 36) rfl ?_); refine goesL_ (some 8) rfl rfl Try.func36 (by kernel_rfl) rfl #[.slice A0 l0.length c0, .agg #[.int .i64 a1_0, .int .i64 a1_1]] rfl (by (try simp only [List.map_toArray, List.map_cons, List.map_nil]); first | done | rfl | (simp only [List.length_drop, List.length_take]; rfl)) ?_; (with_reducible refine (spec_suAsked.calls k _ _ l0 a1_0 a1_1 true _ ?side1 ?side2 A3.out).mono ?_); (case side1 => repeat (first | exact (Kd.C_below HR0.out HB.out) | (with_reducible refine Kd.C_alloc ?_ _) | (with_reducible refine Kd.C_drewN ?_ _) | (with_reducible refine Kd.C_drew ?_))); (case side2 => exact HC0.out); rintro e w8 ⟨rfl, hb⟩; refine ⟨_, rfl, ?_⟩; have n0_ := Aside0.mk (blk_below (g := gb656) (o := .cells #[.int .i64 a1_0, .int .i64 a1_1] 30 (0, 0)) (by (with_reducible repeat (first | refine blk_drewN ?_ _ | refine blk_drew ?_ | refine blk_alloc ?_ _)); exact BK656.out) hb); have n1_ := Aside0.mk (below_step (by repeat (first | (with_reducible first | exact HB.out | apply below_alloc | apply pw_below_drewN | apply below_drew1 | refine below_set ?_ GE656.out) | exact HB.out)) hb); clear BK656; clear HB; have BK656 := n0_; have HB := n1_; clear n0_ n1_; (try clear hb); (try clear hb2); (try clear hk); (try clear hi); have hcz9_0 : w8.cell? ⟨gb656, 0, none⟩ = some (.int .i64 a1_0) := (blk_cell BK656.out 0).trans rfl; have hcz9_1 : w8.cell? ⟨gb656, 1, none⟩ = some (.int .i64 a1_1) := (blk_cell BK656.out 1).trans rfl; have hfz9_0 := blk_frozen BK656.out 0; have hfz9_1 := blk_frozen BK656.out 1) | ((with_reducible refine gate_callee (f := 67) rfl ?_); refine goesL_ (some 12) rfl rfl Try.func67 (by kernel_rfl) rfl #[.slice A0 l0.length c0, .agg #[.int .i64 a1_0, .int .i64 a1_1], .bool true] rfl (by (try simp only [List.map_toArray, List.map_cons, List.map_nil]); first | done | rfl | (simp only [List.length_drop, List.length_take]; rfl)) ?_; (with_reducible refine (spec_suTake.calls k _ _ l0 a1_0 a1_1 true t658 _ ?side1 ?side2 A5.out).mono ?_); (case side1 => repeat (first | exact (Kd.C_below HR0.out HB.out) | (with_reducible refine Kd.C_alloc ?_ _) | (with_reducible refine Kd.C_drewN ?_ _) | (with_reducible refine Kd.C_drew ?_))); (case side2 => exact HC0.out); rintro e w10 ⟨v659, rfl, ho0, hb⟩; refine ⟨_, rfl, ?_⟩; have n0_ := Aside0.mk (Kd.R_lower ho0 (below_size (by repeat (first | (with_reducible first | exact HB.out | apply below_alloc | apply pw_below_drewN | apply below_drew1 | refine below_set ?_ GE656.out) | exact HB.out)))); have n1_ := Aside0.mk (blk_below (g := gb656) (o := .cells #[.int .i64 a1_0, .int .i64 a1_1] 30 (0, 0)) (by (with_reducible repeat (first | refine blk_drewN ?_ _ | refine blk_drew ?_ | refine blk_alloc ?_ _)); exact BK656.out) hb); have n2_ := Aside0.mk (below_step (by repeat (first | (with_reducible first | exact HB.out | apply below_alloc | apply pw_below_drewN | apply below_drew1 | refine below_set ?_ GE656.out) | exact HB.out)) hb); clear BK656; clear HB; have HO660 := n0_; have BK656 := n1_; have HB := n2_; clear n0_ n1_ n2_; (try clear hb); (try clear hb2); (try clear hk); (try clear hi); (try clear ho0)))
    go_ret2
    exact ⟨_, by first | rfl | (simp [errW_none, errW_some] <;> rfl) | (simp [*, errW_none, errW_some] <;> rfl), by (with_reducible repeat (first | apply Kd.R_alloc | apply Kd.R_drewN | apply Kd.R_drew)); exact HO660.out, by repeat (first | (with_reducible first | exact HB.out | apply below_alloc | apply pw_below_drewN | apply below_drew1 | refine below_set ?_ GE656.out) | exact HB.out)⟩
  · replace c4 := Bool.eq_false_iff.mpr c4
    subst c4
    have H1 : (some (([] : List Int), false)) = some (r1, r2) := by rw [if_neg (show ¬ (false = true) by decide)] at H; exact H
    clear H
    have H := H1
    clear H1
    simp only [Option.some.injEq, Prod.mk.injEq] at H
    obtain ⟨rfl, rfl⟩ := H
    go_enter Try.func34, Try.ntmps34
    go_wp2_with (first | ((with_reducible refine gate_dst (N := 3) rfl ?_); refine box_event ?hg (N := 3) ?hd (cs := #[.int .i64 a1_0, .int .i64 a1_1]) (t := 30) ?hr ?_; (case hd => rfl); (case hg => rfl); (case hr => first | (go_simp; done) | (go_simp; rfl)); intro gb656 hg w11 hbox hb; have n0_ := Aside0.mk (below_step (by repeat (first | (with_reducible first | exact HB.out | apply below_alloc | apply pw_below_drewN | apply below_drew1) | exact HB.out)) hb); have n1_ := Aside0.mk (hbox); have n2_ := Aside0.mk ((by rw [hg]; exact (below_size (by repeat (first | (with_reducible first | exact HB.out | apply below_alloc | apply pw_below_drewN | apply below_drew1) | exact HB.out))) : w.heap.size ≤ gb656)); have n3_ := Aside0.mk ((by rw [hg]; exact (below_size (by repeat (first | (with_reducible first | exact HB.out | apply below_alloc | apply pw_below_drewN | apply below_drew1) | exact HB.out))) : w.heap.size ≤ gb656)); clear HB; have HB := n0_; have BK656 := n1_; have GW656 := n2_; have GE656 := n3_; clear n0_ n1_ n2_ n3_; clear hb hbox hg; have hcz12_0 : w11.cell? ⟨gb656, 0, none⟩ = some (.int .i64 a1_0) := (blk_cell BK656.out 0).trans rfl; have hcz12_1 : w11.cell? ⟨gb656, 1, none⟩ = some (.int .i64 a1_1) := (blk_cell BK656.out 1).trans rfl; have hfz12_0 := blk_frozen BK656.out 0; have hfz12_1 := blk_frozen BK656.out 1) | ((with_reducible refine gate_callee (f := 36) rfl ?_); refine goesL_ (some 8) rfl rfl Try.func36 (by kernel_rfl) rfl #[.slice A0 l0.length c0, .agg #[.int .i64 a1_0, .int .i64 a1_1]] rfl (by (try simp only [List.map_toArray, List.map_cons, List.map_nil]); first | done | rfl | (simp only [List.length_drop, List.length_take]; rfl)) ?_; (with_reducible refine (spec_suAsked.calls k _ _ l0 a1_0 a1_1 false _ ?side1 ?side2 A3.out).mono ?_); (case side1 => repeat (first | exact (Kd.C_below HR0.out HB.out) | (with_reducible refine Kd.C_alloc ?_ _) | (with_reducible refine Kd.C_drewN ?_ _) | (with_reducible refine Kd.C_drew ?_))); (case side2 => exact HC0.out); rintro e w13 ⟨rfl, hb⟩; refine ⟨_, rfl, ?_⟩; have n0_ := Aside0.mk (blk_below (g := gb656) (o := .cells #[.int .i64 a1_0, .int .i64 a1_1] 30 (0, 0)) (by (with_reducible repeat (first | refine blk_drewN ?_ _ | refine blk_drew ?_ | refine blk_alloc ?_ _)); exact BK656.out) hb); have n1_ := Aside0.mk (below_step (by repeat (first | (with_reducible first | exact HB.out | apply below_alloc | apply pw_below_drewN | apply below_drew1 | refine below_set ?_ GE656.out) | exact HB.out)) hb); clear BK656; clear HB; have BK656 := n0_; have HB := n1_; clear n0_ n1_; (try clear hb); (try clear hb2); (try clear hk); (try clear hi)))
    go_ret2
    exact ⟨_, by first | rfl | (simp [errW_none, errW_some] <;> rfl) | (simp [*, errW_none, errW_some] <;> rfl), by first | exact Kd.R_nil _ _ _ _ _ | exact Kd.N_nil _ _ _ _ _ | exact Kd.V_nil _ _ _ _ _ | exact Kd.Q_nil _ _ _ _ _ | exact Kd.S_nil _ _ _ _ _, by repeat (first | (with_reducible first | exact HB.out | apply below_alloc | apply pw_below_drewN | apply below_drew1 | refine below_set ?_ GE656.out) | exact HB.out)⟩

end Go.Proofs.Ytkaihdpmjlhlaaa.Q

namespace Go.Proofs.Ytkaihdpmjlhlaaa.Q
open Go.RowKit Go.Proofs.YtkaihdpmjlhlaaaW.PrintWords Go.Proofs.YtkaihdpmjlhlaaaW.PrintLast Go.Proofs.YtkaihdpmjlhlaaaW.PrintMore
set_option linter.unusedVariables false
set_option linter.unusedSimpArgs false

theorem asked_cases (items : List Item) (a b : Int) (hm : items.length ≤ 10000000) : ∃ t : Bool, impl_arePacked.f items [⟨a, b⟩] = some t ∧ (∀ k, items.length < k → spec_suAsked.f k items a b = some t) ∧ (t = true → Light items ∧ 0 ≤ a ∧ 0 ≤ b ∧ items.length ≤ 10) := by
  obtain ⟨t, ht⟩ : ∃ t, impl_arePacked.f items [⟨a, b⟩] = some t := ⟨_, rfl⟩
  refine ⟨t, ht, fun k hk => (suAsked_eq items a b hm k hk).trans ht, fun h => ?_⟩
  subst h
  obtain ⟨h1, _, h2, h3, h4⟩ := packed_good ht
  exact ⟨light_of h1 h2, h3.1, h4.1, h1⟩
/-! the longest -/

/-- The spec's 'before', of two places. -/
def BefOk (items : List Item) (q : Bool) (lt : Int → Int → Bool) : Prop := ∀ x y : Int, 0 ≤ x → x < (items.length : Int) → 0 ≤ y → y < (items.length : Int) →
  spec_suBefore.f (rd_T49 items x).f0 (rd_T49 items x).f1 (rd_T49 items x).f2 (rd_T49 items y).f0 (rd_T49 items y).f1 (rd_T49 items y).f2 q = some (lt x y)
theorem bef_value (items : List Item) (h : Light items) : BefOk items false (ltZ (cfP items cmpValue)) := fun x y h1 h2 h3 h4 => by
  have a := h.2 x h1 h2
  have b := h.2 y h3 h4
  unfold spec_suBefore.f ltZ cfP cmpValue
  rw [if_neg (by decide), w64 (by omega) (by omega)]
  congr 1
  rw [decide_eq_decide]
  omega
theorem mul_bound {x y : Int} (h0 : 0 ≤ x) (h1 : x ≤ 1000) (h2 : 0 ≤ y) (h3 : y ≤ 1000) : 0 ≤ x * y ∧ x * y ≤ 1000000 :=
  ⟨Int.mul_nonneg h0 h2, by have := Int.mul_le_mul h1 h3 h2 (by omega); omega⟩
theorem bef_ratio (items : List Item) (h : Light items) : BefOk items true (ltZ (cfP items cmpRatio)) := fun x y h1 h2 h3 h4 => by
  have a := h.2 x h1 h2
  have b := h.2 y h3 h4
  unfold spec_suBefore.f ltZ cfP cmpRatio
  generalize rd_T49 items x = X at a ⊢
  generalize rd_T49 items y = Y at b ⊢
  rw [if_pos rfl, w64 (i := X.f0 + X.f1) (by omega) (by omega), w64 (i := Y.f0 + Y.f1) (by omega) (by omega)]
  by_cases c1 : X.f0 + X.f1 = 0
  · rw [if_pos c1, if_pos (Or.inl c1)]
    congr 1
    unfold bitZ
    rw [c1, if_neg (by decide)]
    by_cases c2 : 0 < Y.f0 + Y.f1
    · rw [decide_eq_true c2, if_pos rfl, w64 (by omega) (by omega)]; rfl
    · rw [decide_eq_false c2, if_neg (by decide), w64 (by omega) (by omega)]; rfl
  · rw [if_neg c1]
    by_cases c2 : Y.f0 + Y.f1 = 0
    · rw [if_pos c2, if_pos (Or.inr c2)]
      congr 1
      unfold bitZ
      rw [c2, decide_eq_true (show 0 < X.f0 + X.f1 by omega), if_pos rfl, if_neg (by decide), w64 (by omega) (by omega)]; rfl
    · rw [if_neg c2, if_neg (fun h => h.elim c1 c2)]
      have m1 := mul_bound (x := X.f2) (y := Y.f0 + Y.f1) (by omega) (by omega) (by omega) (by omega)
      have m2 := mul_bound (x := Y.f2) (y := X.f0 + X.f1) (by omega) (by omega) (by omega) (by omega)
      rw [w64 (i := X.f2 * (Y.f0 + Y.f1)) (by omega) (by omega), w64 (i := Y.f2 * (X.f0 + X.f1)) (by omega) (by omega), w64 (by omega) (by omega)]
      congr 1
      rw [decide_eq_decide]
      omega

theorem insR_mem (lt : Int → Int → Bool) (x y : Int) (l : List Int) : y ∈ insR lt x l ↔ y = x ∨ y ∈ l := by
  rw [(insR_perm lt x l).mem_iff]; simp
theorem take_l1 (items : List Item) (q : Bool) (lt : Int → Int → Bool) (hb : BefOk items q lt) (hn : items.length ≤ 1000) (a b : Int) (i : Nat) (hi : i < items.length) (ord : List Int) (hin : Inside items ord) (hl : ord.length ≤ 1000) :
    ∀ d k, d ≤ ord.length → d < k → ∃ m, k = m + (d + 1) - 0 ∧ True ∧
      (∃ k', k' + (d + 1) ≥ k ∧ k' ≤ k ∧ spec_suTake.l1 k items q ord (i : Int) (d : Int) items (items.length : Int) (i : Int) a b (rd_T49 items (i : Int)).f0 (rd_T49 items (i : Int)).f1 (rd_T49 items (i : Int)).f2 =
        spec_suTake.l0 k' items q ((insR lt (i : Int) (ord.take d).reverse).reverse ++ ord.drop d) items (items.length : Int) ((i + 1 : Nat) : Int) a b) := by
  intro d
  induction d with
  | zero =>
    intro k hd hk
    obtain ⟨k, rfl⟩ : ∃ m, k = m + 1 := ⟨k - 1, by omega⟩
    refine ⟨k, by omega, trivial, k, by omega, by omega, ?_⟩
    simp only [spec_suTake.l1, Option.bind_some]
    rw [if_neg (by omega), if_pos (by omega), if_pos (by omega), l1Own_eq _ (by simp)]
    simp only [Option.bind_some, Int.natCast_zero, Int.toNat_zero, List.take_zero, List.drop_zero, List.nil_append, List.length_nil, List.length_cons]
    rw [if_pos (by omega), if_pos (by omega), w64 (by omega) (by omega)]
    rfl
  | succ d ih =>
    intro k hd hk
    obtain ⟨k, rfl⟩ : ∃ m, k = m + 1 := ⟨k - 1, by omega⟩
    have hlt : d < ord.length := by omega
    have hx := hin _ (List.getElem_mem hlt)
    simp only [spec_suTake.l1, Option.bind_some]
    rw [if_pos (by omega), w64 (i := ((d + 1 : Nat) : Int) - 1) (by omega) (by omega), show ((d + 1 : Nat) : Int) - 1 = (d : Int) by omega, if_pos (by omega), if_pos (by omega), rd_nat ord d hlt, if_pos (by omega), if_pos (by omega), hb (i : Int) ord[d] (by omega) (by omega) hx.1 hx.2]
    simp only [Option.bind_some]
    rw [take_rev ord d hlt, insR]
    cases lt (i : Int) ord[d] with
    | true =>
      obtain ⟨m, _, _, k', h1, h2, h3⟩ := ih k (by omega) (by omega)
      refine ⟨k - (d + 1), by omega, trivial, k', by omega, by omega, ?_⟩
      rw [if_pos rfl, h3, if_pos rfl]
      congr 1
      rw [List.reverse_cons, List.append_assoc, List.drop_eq_getElem_cons hlt]
      rfl
    | false =>
      refine ⟨k - (d + 1), by omega, trivial, k, by omega, by omega, ?_⟩
      rw [if_neg (show ¬ (false = true) by decide), if_neg (show ¬ (false = true) by decide), if_pos (by omega), if_pos (by omega), show (((d + 1 : Nat) : Int)).toNat = d + 1 by omega, l1Own_eq _ (by simp; omega)]
      simp only [Option.bind_some, List.length_append, List.length_take, List.length_drop, List.length_cons, List.length_nil]
      rw [if_pos (by omega), if_pos (by omega), w64 (by omega) (by omega)]
      rw [List.reverse_cons, List.reverse_cons, List.reverse_reverse, List.take_add_one, List.getElem?_eq_getElem hlt]
      rfl
theorem take_l0 (items : List Item) (q : Bool) (lt : Int → Int → Bool) (hb : BefOk items q lt) (hn : items.length ≤ 1000) (a b : Int) (R : Option (List Int)) (K : Nat) (hR : ∀ k, K ≤ k → spec_suTake.l2 k items [] (sortL lt (upToL items.length)) (items.length : Int) 0 a b = R) :
    ∀ d k i (ord : List Int), i + d = items.length → ord.length = i → K + (d + 1) * 3000 ≤ k → (((List.range d).map fun j => ((i + j : Nat) : Int)).foldl (fun r x => insR lt x r) ord.reverse).reverse = sortL lt (upToL items.length) → Inside items ord → spec_suTake.l0 k items q ord items (items.length : Int) (i : Int) a b = R := by
  intro d
  induction d with
  | zero =>
    intro k i ord hi hl hk hs hin
    obtain ⟨k, rfl⟩ : ∃ m, k = m + 1 := ⟨k - 1, by omega⟩
    simp only [spec_suTake.l0, Option.bind_some]
    have hs2 : ord = sortL lt (upToL items.length) := by simpa using hs
    rw [if_neg (by omega), ← hR k (by omega), ← hs2, show ord.length = items.length by omega]
  | succ d ih =>
    intro k i ord hi hl hk hs hin
    obtain ⟨k, rfl⟩ : ∃ m, k = m + 1 := ⟨k - 1, by omega⟩
    simp only [spec_suTake.l0, Option.bind_some]
    rw [if_pos (by omega), if_pos (by omega), if_pos (by omega)]
    obtain ⟨m, _, _, k', h1, h2, h3⟩ := take_l1 items q lt hb hn a b i (by omega) ord hin (by omega) ord.length k (Nat.le_refl _) (by omega)
    refine h3.trans ?_
    rw [ List.take_length, List.drop_length, List.append_nil]
    refine ih k' (i + 1) _ (by omega) (by rw [List.length_reverse, insR_length, List.length_reverse, hl]) (by clear h3 ih hs hin hb; rw [Nat.succ_mul] at hk; generalize (d + 1) * 3000 = e at hk ⊢; omega) ?_ ?_
    · rw [← hs, List.reverse_reverse, List.range_succ_eq_map, List.map_cons, List.foldl_cons, List.map_map]
      congr 2
      congr 1
      funext j
      simp only [Function.comp]
      omega
    · intro x hx
      rw [List.mem_reverse, insR_mem] at hx
      rcases hx with rfl | hx
      · omega
      · exact hin x (List.mem_reverse.1 hx)
def putStep (items : List Item) (a b : Int) (o : List Int) (i : Int) : List Int := if holdsC a b (tot items (putL o i)) = true then putL o i else o
theorem putL_mem (l : List Int) (n x : Int) (h : x ∈ putL l n) : x ∈ l ∨ x = n := by
  induction l with
  | nil => simpa [putL] using h
  | cons y ys ih =>
    rw [putL] at h
    split at h
    · rcases List.mem_cons.1 h with h | h
      · exact Or.inl (h ▸ List.mem_cons_self)
      · rcases ih h with h | h
        · exact Or.inl (List.mem_cons_of_mem _ h)
        · exact Or.inr h
    · split at h
      · exact Or.inl h
      · rcases List.mem_cons.1 h with h | h
        · exact Or.inr h
        · exact Or.inl h
theorem putL_len (l : List Int) (n : Int) : (putL l n).length ≤ l.length + 1 := by
  induction l with
  | nil => simp [putL]
  | cons y ys ih =>
    rw [putL]
    split
    · simp; omega
    · split
      · simp
      · simp
theorem take_l2 (items : List Item) (hn : items.length ≤ 1000) (a b : Int) (ord : List Int) (hin : Inside items ord) (hl : ord.length ≤ 1000) : ∀ d k i (o : List Int), i + d = ord.length → Inside items o → o.length ≤ i → d * 10 + 5000 ≤ k →
    spec_suTake.l2 k items o ord (ord.length : Int) (i : Int) a b = some ((ord.drop i).foldl (putStep items a b) o) := by
  intro d
  induction d with
  | zero =>
    intro k i o hi ho hoi hk
    obtain ⟨k, rfl⟩ : ∃ m, k = m + 1 := ⟨k - 1, by omega⟩
    simp only [spec_suTake.l2, Option.bind_some]
    rw [if_neg (by omega), List.drop_of_length_le (by omega)]
    rfl
  | succ d ih =>
    intro k i o hi ho hoi hk
    obtain ⟨k, rfl⟩ : ∃ m, k = m + 1 := ⟨k - 1, by omega⟩
    have hlt : i < ord.length := by omega
    have hx := hin _ (List.getElem_mem hlt)
    have hip : Inside items (putL o ord[i]) := fun x h => by
      rcases putL_mem o _ x h with h | h
      · exact ho x h
      · rw [h]; exact hx
    have hpl := putL_len o ord[i]
    simp only [spec_suTake.l2, Option.bind_some]
    rw [if_pos (by omega), if_pos (by omega), if_pos (by omega), rd_nat ord i hlt, l1Own_eq _ (by omega)]
    simp only [Option.bind_some]
    rw [put_eq o _ (by omega) k (by omega)]
    simp only [Option.bind_some]
    rw [suFits_eq items a b _ hip (by omega) k (by omega), w64 (i := (i : Int) + 1) (by omega) (by omega), show (i : Int) + 1 = ((i + 1 : Nat) : Int) by omega, List.drop_eq_getElem_cons hlt, List.foldl_cons]
    simp only [Option.bind_some]
    unfold putStep
    by_cases hc : holdsC a b (tot items (putL o ord[i])) = true
    · rw [if_pos (by unfold holdsC at hc; exact hc), if_pos hc]
      exact ih k (i + 1) _ (by omega) hip (by omega) (by omega)
    · rw [if_neg (by unfold holdsC at hc; exact hc), if_neg hc]
      exact ih k (i + 1) _ (by omega) ho (by omega) (by omega)
/-! sorted, and of the same members -/
theorem putL_sorted : ∀ (l : List Int) (n : Int), l.Pairwise (· ≤ ·) → (putL l n).Pairwise (· ≤ ·)
  | [], n, _ => by simp [putL]
  | x :: xs, n, h => by
    obtain ⟨h1, h2⟩ := List.pairwise_cons.1 h
    rw [putL]
    split
    · rename_i hlt
      refine List.pairwise_cons.2 ⟨fun y hy => ?_, putL_sorted xs n h2⟩
      rcases putL_mem xs n y hy with hy | hy
      · exact h1 y hy
      · omega
    · split
      · exact h
      · refine List.pairwise_cons.2 ⟨fun y hy => ?_, h⟩
        rcases List.mem_cons.1 hy with hy | hy
        · omega
        · have := h1 y hy; omega
theorem sortZ_of {l1 l2 : List Int} (hp : l1.Perm l2) (hs : l1.Pairwise (· ≤ ·)) : sortZ l2 = l1 := by
  have e1 : (sortZ l2).Pairwise (· ≤ ·) := by
    have := List.pairwise_mergeSort (le := fun x y : Int => decide (x ≤ y)) (fun a b c h1 h2 => by simp at *; omega) (fun a b => by simp; omega) l2
    exact this.imp (fun h => by simpa using h)
  refine List.Perm.eq_of_pairwise (le := (· ≤ ·)) (fun a b _ _ h1 h2 => by omega) e1 hs ((List.mergeSort_perm l2 _).trans hp.symm)
theorem fold_both (items : List Item) (a b : Int) : ∀ (ord o1 o2 : List Int), o1.Perm o2 → o1.Pairwise (· ≤ ·) → (∀ x ∈ o1, x ∉ ord) → ord.Nodup →
    (ord.foldl (putStep items a b) o1).Perm (ord.foldl (packStep items a b) o2) ∧ (ord.foldl (putStep items a b) o1).Pairwise (· ≤ ·)
  | [], o1, o2, hp, hs, _, _ => ⟨hp, hs⟩
  | x :: ord, o1, o2, hp, hs, hd, hn => by
    rw [List.foldl_cons, List.foldl_cons]
    obtain ⟨hn1, hn2⟩ := List.nodup_cons.1 hn
    have hx : x ∉ o1 := fun h => hd x h List.mem_cons_self
    have hpp : (putL o1 x).Perm (o2 ++ [x]) := (putL_perm o1 x hx).trans (hp.append_right [x])
    have ht := tot_perm items hpp
    unfold putStep packStep
    rw [ht]
    split
    · refine fold_both items a b ord _ _ hpp (putL_sorted o1 x hs) (fun y hy hm => ?_) hn2
      rcases putL_mem o1 x y hy with h | h
      · exact hd y h (List.mem_cons_of_mem _ hm)
      · exact hn1 (h ▸ hm)
    · exact fold_both items a b ord _ _ hp hs (fun y hy hm => hd y hy (List.mem_cons_of_mem _ hm)) hn2
theorem upToL_nodup (n : Nat) : (upToL n).Nodup := by
  unfold upToL
  rw [List.nodup_iff_pairwise_ne, List.pairwise_map]
  exact (List.nodup_range (n := n)).imp (fun h e => h (by omega))
theorem take_eq (items : List Item) (q : Bool) (cf : Item → Item → Int) (hb : BefOk items q (ltZ (cfP items cf))) (hn : items.length ≤ 1000) (a b : Int) (k : Nat) (hk : 4000000 ≤ k) : spec_suTake.f k items a b q = some (packL items a b cf) := by
  have hol := orderL_length items cf
  have hoi := orderL_inside items cf
  have hnd : (orderL items cf).Nodup := (sortL_perm _ _).nodup_iff.2 (upToL_nodup _)
  have hl2 := fun k (hk : 20000 ≤ k) => take_l2 items hn a b (orderL items cf) hoi (by omega) items.length k 0 [] (by omega) (fun x hx => by cases hx) (by simp) (by omega)
  have hb2 := fold_both items a b (orderL items cf) [] [] (List.Perm.refl _) List.Pairwise.nil (fun x hx => by cases hx) hnd
  have hl0 := take_l0 items q (ltZ (cfP items cf)) hb hn a b (some (packL items a b cf)) 20000 (fun k hk => by
    have := hl2 k hk
    rw [hol, Int.natCast_zero, List.drop_zero] at this
    rw [show packL items a b cf = (orderL items cf).foldl (putStep items a b) [] from sortZ_of hb2.1 hb2.2]
    exact this) items.length k 0 [] (by omega) rfl (by omega) (by simp [sortL, upToL]) (fun x hx => by cases hx)
  unfold spec_suTake.f
  simpa using hl0
theorem pack_both (items : List Item) (q : Bool) (cf : Item → Item → Int) (hb : Light items → BefOk items q (ltZ (cfP items cf))) (a b : Int) (hm : items.length ≤ 10000000) : ∃ r : List Int × Bool, Ev (fun k => (spec_suAsked.f k items a b).bind fun t => (if t = true then ((spec_suTake.f k items a b q).bind fun u => (some (u, true))) else (some (([] : List Int), false)))) r ∧ Ev (fun _ => packF cf items a b) r ∧ r.1.length ≤ 10000000 := by
  obtain ⟨t, h1, h2, h3⟩ := asked_cases items a b hm
  unfold packF
  rw [h1]
  cases t with
  | false => exact ⟨([], false), Ev_from items.length fun k hk => by rw [h2 k hk]; rfl, Ev_from 0 fun k _ => rfl, by simp⟩
  | true =>
    obtain ⟨hL, _, _, hn⟩ := h3 rfl
    have hpos : 1 ≤ items.length := (packed_good h1).2.1
    refine ⟨(packL items a b cf, true), Ev_from 10000000 fun k hk => ?_, Ev_from 0 fun k _ => ?_, ?_⟩
    · rw [h2 k (by omega)]; simp only [Option.bind_some, if_true]; rw [take_eq items q cf (hb hL) (by omega) a b k (by omega)]; rfl
    · simp only [Option.bind_some, if_true]; rw [if_pos (by omega)]
    · show (sortZ _).length ≤ _
      rw [List.length_mergeSort]
      have key : ∀ (L o : List Int), (L.foldl (packStep items a b) o).length ≤ o.length + L.length := by
        intro L
        induction L with
        | nil => intro o; simp
        | cons x L ih =>
          intro o
          rw [List.foldl_cons]
          refine Nat.le_trans (ih _) ?_
          unfold packStep
          split <;> simp <;> omega
      have := key (orderL items cf) []
      have hol := orderL_length items cf
      simp at this
      omega
theorem packByValue_both (items : List Item) (a b : Int) (hm : items.length ≤ 10000000) : ∃ r : List Int × Bool, Ev (fun k => spec_PackByValue.f k items a b) r ∧ Ev (fun _ => impl_PackByValue.f items a b) r ∧ r.1.length ≤ 10000000 :=
  pack_both items false cmpValue (bef_value items) a b hm
theorem packByRatio_both (items : List Item) (a b : Int) (hm : items.length ≤ 10000000) : ∃ r : List Int × Bool, Ev (fun k => spec_PackByRatio.f k items a b) r ∧ Ev (fun _ => impl_PackByRatio.f items a b) r ∧ r.1.length ≤ 10000000 :=
  pack_both items true cmpRatio (bef_ratio items) a b hm
end Go.Proofs.Ytkaihdpmjlhlaaa.Q

namespace Go.Proofs.Ytkaihdpmjlhlaaa.Q
open Go.RowKit Go.Proofs.YtkaihdpmjlhlaaaW.PrintWords Go.Proofs.YtkaihdpmjlhlaaaW.PrintLast Go.Proofs.YtkaihdpmjlhlaaaW.PrintMore
set_option linter.unusedVariables false
set_option linter.unusedSimpArgs false

def marksItem (a : Int) (n : Nat) : List S49 := (List.range n).map fun (j : Nat) => ⟨a + 3 * (j : Int), a + 3 * (j : Int) + 1, a + 3 * (j : Int) + 2⟩
theorem marksItem_length (a : Int) (n : Nat) : (marksItem a n).length = n := by simp [marksItem]

theorem markItemS_l0 (a : Int) (n : Nat) (h0 : 0 ≤ a) (hn : a + 3 * n ≤ 100000000000000) : ∀ d k i (x : List S49), i + d = n → d < k → x.length = n →
    ∃ y, laws_markItemS.l0 k x (a + 3 * (i : Int)) (i : Int) = some (a + 3 * (n : Int), y) ∧ y.length = n := by
  intro d
  induction d with
  | zero =>
    intro k i x hi hk hx
    obtain ⟨k, rfl⟩ : ∃ m, k = m + 1 := ⟨k - 1, by omega⟩
    simp only [laws_markItemS.l0]; rw [if_neg (by omega)]
    have : i = n := by omega
    subst this
    exact ⟨x, rfl, hx⟩
  | succ d ih =>
    intro k i x hi hk hx
    obtain ⟨k, rfl⟩ : ∃ m, k = m + 1 := ⟨k - 1, by omega⟩
    simp only [laws_markItemS.l0]
    rw [if_pos (by omega), if_pos (by omega)]
    simp only [Option.bind_some]
    rw [w64Item (i := a + 3 * (i : Int) + 1) (by omega) (by omega), w64Item (i := a + 3 * (i : Int) + 1 + 1) (by omega) (by omega), w64Item (i := a + 3 * (i : Int) + 1 + 1 + 1) (by omega) (by omega), w64Item (i := (i : Int) + 1) (by omega) (by omega)]
    rw [show a + 3 * (i : Int) + 1 + 1 + 1 = a + 3 * ((i + 1 : Nat) : Int) by omega, show (i : Int) + 1 = ((i + 1 : Nat) : Int) by omega]
    exact ih k (i + 1) _ (by omega) (by omega) (by simp [hx])
/-- Marking counts on, whatever it writes. -/
theorem markItemS_eq (x : List S49) (a : Int) (h0 : 0 ≤ a) (hn : a + 3 * x.length ≤ 100000000000000) (k : Nat) (hk : x.length < k) : ∃ y, laws_markItemS.f k x a = some (a + 3 * (x.length : Int), y) := by
  unfold laws_markItemS.f
  obtain ⟨y, h, _⟩ := markItemS_l0 a x.length h0 hn x.length k 0 x (by omega) hk rfl
  exact ⟨y, by simpa using h⟩
theorem markItemS_ev (x : List S49) (h : x.length ≤ 10000000) (a : Int) (h0 : 0 ≤ a) (hn : a ≤ 10000000000) : ∃ y, Ev (fun k => laws_markItemS.f k x a) (a + 3 * (x.length : Int), y) := by
  obtain ⟨y, hy⟩ := markItemS_eq x a h0 (by omega) (x.length + 1) (by omega)
  exact ⟨y, Ev.of (fun k => laws_markItemS.mono x a k) hy⟩
end Go.Proofs.Ytkaihdpmjlhlaaa.Q
