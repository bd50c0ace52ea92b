/-
  PROVED: for all arguments, the program's CanBearMore returns what the reference's returns; the arguments read behind the call as before.
  CONDITIONS: none beyond the statement's own.
-/
import Derived.Test.YtehjicblchnknaaZFnExactCanBearMore1
import Derived.Test.YtehjicblchnknaaZFnExactCanBearMore2
import Derived.Test.YtehjicblchnknaaZFnExactCanBearMore3
import Derived.Test.YtehjicblchnknaaZFnExactCanBearMore4
import Derived.Deep.Slices
import Derived.Deep.Fields
import Derived.ChangeSame
import Derived.SizedLaws
import Derived.ChangeSlices
import Derived.Lib.SmallJoins
import Derived.Test.YtehjicblchnknaaWWords
import Derived.Test.YtehjicblchnknaaRows
import Derived.WalkKit
import Derived.ProofKit
import Derived.OpenShut
import Derived.ShutString
import Derived.ChangeOld
import Derived.Below
import Derived.Test.YtehjicblchnknaaWSized
namespace Go.Proofs.Ytehjicblchnknaa.Q
open Go.RowKit Go.Proofs.YtehjicblchnknaaW.PrintWords Go.Proofs.YtehjicblchnknaaW.PrintLast Go.Proofs.YtehjicblchnknaaW.PrintMore
attribute [local go_sem] max2_int min2_int max_two min_two max_three min_three max_four min_four   -- for this text's walks alone
set_option linter.unusedVariables false
set_option linter.unusedSimpArgs false

/-! ### impl_TakeTop: function 28 -/
def impl_TakeTop.f (l0 : List (S46)) (l1 : List Int) : Option (List Int × Int × Bool) := (impl_areStacked.f l0 l1).bind fun t333 => (if t333 = true then (if (wrap64 ((l1.length : Int) - 1)) < 0 then (some (([] : List Int), 0, false)) else (if 0 ≤ (wrap64 ((l1.length : Int) - 1)) then (if (wrap64 ((l1.length : Int) - 1)) ≤ (l1.length : Int) then ((slices_Clone_int.f (l1.take ((wrap64 ((l1.length : Int) - 1)) : Int).toNat)).bind fun t335 => (if (wrap64 ((l1.length : Int) - 1)) < (l1.length : Int) then (some (t335, rd l1 (wrap64 ((l1.length : Int) - 1)), true)) else (none))) else (none)) else (none))) else (some (([] : List Int), 0, false)))
def impl_TakeTop.T4 : Bool × List (List Nat × List Nat) := (true, [([], []), ([], []), ([0, 1], [0, 1]), ([2], [2]), ([], []), ([], []), ([4, 5], [4, 5]), ([6], [6]), ([3, 3, 0, 1, 2, 3], [3]), ([7, 8, 0, 1, 2, 3, 4, 5, 6, 7, 8], [7]), ([9, 0, 1, 2, 3, 4, 5, 6, 7, 8, 9], [])])
def impl_TakeTop.B4 : List Nat := [0, 0, 3, 7, 0, 0, 48, 112, 15, 511, 1023]
theorem impl_TakeTop.tab4 : rtab .any (opsOf Try.f28 4) = impl_TakeTop.T4 := by kernel_rfl
theorem impl_TakeTop.bits4 : waitsOk impl_TakeTop.T4.2 impl_TakeTop.B4 = true := by kernel_rfl
set_option maxHeartbeats 8000000 in
set_option maxRecDepth 100000 in
theorem impl_TakeTop.calls (A0 : Option Addr) (c0 : Nat) (l0 : List (S46)) (A1 : Option Addr) (c1 : Nat) (l1 : List Int) (r1 : List Int) (r2 : Int) (r3 : Bool) (w : World) (hr0 : Kd.C k46 w A0 l0.length l0) (hc0 : l0.length ≤ c0) (hr1 : Kd.C (Kd.int .i64) w A1 l1.length l1) (hc1 : l1.length ≤ c1) (h : impl_TakeTop.f l0 l1 = some (r1, r2, r3)) :
    Calls Try.prog 28 #[.slice A0 l0.length c0, .slice A1 l1.length c1] w fun e w' => ∃ v0_ : Value, e = .returned (.tuple #[v0_, .int .i64 r2, .bool r3]) ∧ Kd.R (Kd.int .i64) 3 w' w.heap.size (fun _ => True) v0_ r1 ∧ Below w.heap.size w w' := by
  have HR0 := Aside0.mk hr0
  have HC0 := Aside0.mk hc0
  clear hr0 hc0
  have HR1 := Aside0.mk hr1
  have HC1 := Aside0.mk hc1
  clear hr1 hc1
  have HB := Aside0.mk (Below.refl w.heap.size w)
  have H : ((impl_areStacked.f l0 l1).bind fun t333 => (if t333 = true then (if (wrap64 ((l1.length : Int) - 1)) < 0 then (some (([] : List Int), 0, false)) else (if 0 ≤ (wrap64 ((l1.length : Int) - 1)) then (if (wrap64 ((l1.length : Int) - 1)) ≤ (l1.length : Int) then ((slices_Clone_int.f (l1.take ((wrap64 ((l1.length : Int) - 1)) : Int).toNat)).bind fun t335 => (if (wrap64 ((l1.length : Int) - 1)) < (l1.length : Int) then (some (t335, rd l1 (wrap64 ((l1.length : Int) - 1)), true)) else (none))) else (none)) else (none))) else (some (([] : List Int), 0, false)))) = some (r1, r2, r3) := h
  clear h
  replace H := Option.bind_eq_some_iff.mp H
  obtain ⟨t333, A30, H⟩ := H
  replace H : (if t333 = true then (if (wrap64 ((l1.length : Int) - 1)) < 0 then (some (([] : List Int), 0, false)) else (if 0 ≤ (wrap64 ((l1.length : Int) - 1)) then (if (wrap64 ((l1.length : Int) - 1)) ≤ (l1.length : Int) then ((slices_Clone_int.f (l1.take ((wrap64 ((l1.length : Int) - 1)) : Int).toNat)).bind fun t335 => (if (wrap64 ((l1.length : Int) - 1)) < (l1.length : Int) then (some (t335, rd l1 (wrap64 ((l1.length : Int) - 1)), true)) else (none))) else (none)) else (none))) else (some (([] : List Int), 0, false))) = some (r1, r2, r3) := H
  have A3 := Aside0.mk A30
  clear A30
  by_cases c4 : t333 = true
  · subst c4
    have H1 : (if (wrap64 ((l1.length : Int) - 1)) < 0 then (some (([] : List Int), 0, false)) else (if 0 ≤ (wrap64 ((l1.length : Int) - 1)) then (if (wrap64 ((l1.length : Int) - 1)) ≤ (l1.length : Int) then ((slices_Clone_int.f (l1.take ((wrap64 ((l1.length : Int) - 1)) : Int).toNat)).bind fun t335 => (if (wrap64 ((l1.length : Int) - 1)) < (l1.length : Int) then (some (t335, rd l1 (wrap64 ((l1.length : Int) - 1)), true)) else (none))) else (none)) else (none))) = some (r1, r2, r3) := by rw [if_pos rfl] at H; exact H
    clear H
    have H := H1
    clear H1
    by_cases c5 : (wrap64 ((l1.length : Int) - 1)) < 0
    · rw [if_pos c5] at H
      have c5b0 : decide ((wrap64 ((l1.length : Int) - 1)) < 0) = true := decide_eq_true c5
      clear c5
      simp only [Option.some.injEq, Prod.mk.injEq] at H
      obtain ⟨rfl, rfl, rfl⟩ := H
      go_enter Try.func28, Try.ntmps28
      go_wp2_with (first | ((with_reducible refine gate_callee (f := 42) rfl ?_); refine goesL_ (some 13) rfl rfl Try.func42 (by kernel_rfl) rfl #[.slice A0 l0.length c0, .slice A1 l1.length c1] rfl (by (try simp only [List.map_toArray, List.map_cons, List.map_nil]); first | done | rfl | (simp only [List.length_drop, List.length_take]; rfl)) ?_; (with_reducible refine (impl_areStacked.calls _ _ l0 _ _ l1 true _ ?side1 ?side2 ?side3 ?side4 A3.out).mono ?_); (case side1 => repeat (first | exact HR0.out | (with_reducible refine Kd.C_alloc ?_ _) | (with_reducible refine Kd.C_drewN ?_ _) | (with_reducible refine Kd.C_drew ?_))); (case side2 => exact HC0.out); (case side3 => repeat (first | exact HR1.out | (with_reducible refine Kd.C_alloc ?_ _) | (with_reducible refine Kd.C_drewN ?_ _) | (with_reducible refine Kd.C_drew ?_))); (case side4 => exact HC1.out); rintro e w6 ⟨rfl, hb⟩; refine ⟨_, rfl, ?_⟩; have n0_ := Aside0.mk (below_step (by repeat (first | (with_reducible first | exact HB.out | apply below_alloc | apply pw_below_drewN | apply below_drew1) | exact HB.out)) hb); clear HB; have HB := n0_; clear n0_; (try clear hb); (try clear hb2); (try clear hk); (try clear hi)))
      go_ret3
      exact ⟨_, by first | rfl | (simp [errW_none, errW_some] <;> rfl) | (simp [*, errW_none, errW_some] <;> rfl), by first | exact Kd.R_nil _ _ _ _ _ | exact Kd.N_nil _ _ _ _ _ | exact Kd.V_nil _ _ _ _ _ | exact Kd.Q_nil _ _ _ _ _ | exact Kd.S_nil _ _ _ _ _, by repeat (first | (with_reducible first | exact HB.out | apply below_alloc | apply pw_below_drewN | apply below_drew1) | exact HB.out)⟩
    · rw [if_neg c5] at H
      have c5b0 : decide ((wrap64 ((l1.length : Int) - 1)) < 0) = false := decide_eq_false c5
      clear c5
      obtain ⟨ji7, hji7⟩ : ∃ j_ : Int, (wrap64 ((l1.length : Int) - 1)) = j_ := ⟨_, rfl⟩
      replace H : (if 0 ≤ (ji7) then (if (ji7) ≤ (l1.length : Int) then ((slices_Clone_int.f (l1.take ((ji7) : Int).toNat)).bind fun t335 => (if (ji7) < (l1.length : Int) then (some (t335, rd l1 (ji7), true)) else (none))) else (none)) else (none)) = some (r1, r2, r3) := by first | (rw [hji7] at H; exact H) | (simp only [hji7] at H ⊢; exact H)
      (try rw [hji7] at c5b0)
      (try rw [hji7] at A3)
      have hji7w : (IntKind.i64.wrap ((l1.length : Int) - 1)) = ji7 := (i64_w _).trans hji7
      by_cases c8 : 0 ≤ (ji7)
      · rw [if_pos c8] at H
        have c8b0 := eq_true c8
        have c8b1 : decide (0 ≤ (ji7)) = true := decide_eq_true c8
        clear c8
        by_cases c9 : (ji7) ≤ (l1.length : Int)
        · rw [if_pos c9] at H
          have c9b0 := eq_true c9
          have c9b1 : decide ((ji7) ≤ (l1.length : Int)) = true := decide_eq_true c9
          clear c9
          replace H := Option.bind_eq_some_iff.mp H
          obtain ⟨t335, A100, H⟩ := H
          replace H : (if (ji7) < (l1.length : Int) then (some (t335, rd l1 (ji7), true)) else (none)) = some (r1, r2, r3) := H
          have A10 := Aside0.mk A100
          clear A100
          by_cases c11 : (ji7) < (l1.length : Int)
          · rw [if_pos c11] at H
            have c11b0 : decide ((ji7) < (l1.length : Int)) = true := decide_eq_true c11
            clear c11
            simp only [Option.some.injEq, Prod.mk.injEq] at H
            obtain ⟨rfl, rfl, rfl⟩ := H
            go_enter Try.func28, Try.ntmps28
            try go_wp2_with (first | ((with_reducible refine gate_callee (f := 42) rfl ?_); refine goesL_ (some 13) rfl rfl Try.func42 (by kernel_rfl) rfl #[.slice A0 l0.length c0, .slice A1 l1.length c1] rfl (by (try simp only [List.map_toArray, List.map_cons, List.map_nil]); first | done | rfl | (simp only [List.length_drop, List.length_take]; rfl)) ?_; (with_reducible refine (impl_areStacked.calls _ _ l0 _ _ l1 true _ ?side1 ?side2 ?side3 ?side4 A3.out).mono ?_); (case side1 => repeat (first | exact HR0.out | (with_reducible refine Kd.C_alloc ?_ _) | (with_reducible refine Kd.C_drewN ?_ _) | (with_reducible refine Kd.C_drew ?_))); (case side2 => exact HC0.out); (case side3 => repeat (first | exact HR1.out | (with_reducible refine Kd.C_alloc ?_ _) | (with_reducible refine Kd.C_drewN ?_ _) | (with_reducible refine Kd.C_drew ?_))); (case side4 => exact HC1.out); rintro e w12 ⟨rfl, hb⟩; refine ⟨_, rfl, ?_⟩; have n0_ := Aside0.mk (below_step (by repeat (first | (with_reducible first | exact HB.out | apply below_alloc | apply pw_below_drewN | apply below_drew1) | exact HB.out)) hb); clear HB; have HB := n0_; clear n0_; (try clear hb); (try clear hb2); (try clear hk); (try clear hi)))
            have n0_ := Aside0.mk (below_drew1 HB.out)
            clear HB
            have HB := n0_
            clear n0_
            obtain ⟨i014, hi014, _, hsz14, _⟩ := info_parts info3
            obtain ⟨hcut14, hA14, hC14⟩ := print_take_of (P := Try.prog) (Value.int .i64) 0 23 3 .i64 Try.underlying23 hi014 hsz14 A1 c1 l1 (ji7) (of_decide_eq_true (by first | (with_reducible assumption) | assumption)) (of_decide_eq_true (by first | (with_reducible assumption) | assumption)) HC1.out
            have HR334 := Aside0.mk (Kd.C_of_reads (h1 := fun _ => rfl) (hA14 _ (Kd.reads_of_C HR1.out)))
            have HC334 := Aside0.mk hC14
            clear hA14 hC14 hi014 hsz14
            have p338 : 0 ≤ ((ji7) : Int) := of_decide_eq_true (by first | (with_reducible assumption) | assumption)
            have q338 : (ji7) < (l1.length : Int) := of_decide_eq_true (by first | (with_reducible assumption) | assumption)
            obtain ⟨ad338, e338, hx338_0⟩ := Kd.at_int HR1.out (ji7) p338 q338
            have hw338_0 := hx338_0
            cases e338
            replace hx338_0 := (HB.out.cell (World.block_lt_of_cell? w _ hx338_0)).trans hx338_0
            replace p338 := eq_true p338
            replace q338 := eq_true q338
            refine start_ (n := 11) (S := fun w' => w'.cell? (ad338.add ((ji7)).toNat) = some (.int .i64 (rd l1 (ji7)))) (ds := []) #[false, false, false, false, false, false, false, false, false, false, false] (by kernel_rfl) rfl rfl (((HB.out.cell (World.block_lt_of_cell? w _ hw338_0)).trans hw338_0)) (fun hHeld => ?_); refine with_tabW impl_TakeTop.tab4 impl_TakeTop.bits4 (fun HT_ HW_ => ?_)
            generalize w12.drew = w13 at HB HR334 hx338_0 hHeld ⊢
            refine pure_ (i := 0) (N := some 19) (v := ?_) (a' := ?_) #[true, false, false, false, false, false, false, false, false, false, false] rfl rfl (any_of HT_.out (by kernel_rfl)) (fun _ _ _ h => h) (Or.inl ⟨by rfl, ?_⟩) ?_ ?_
            rotate_left
            · intro w'
              go_simp
              with_reducible rfl
            rotate_left
            · simp only [Act.put, List.setIfInBounds_toArray, List.set_cons_zero, List.set_cons_succ, i64_w, i32_w]
              rfl
            refine pure_ (i := 1) (N := some 20) (v := ?_) (a' := ?_) #[true, true, false, false, false, false, false, false, false, false, false] rfl rfl (any_of HT_.out (by kernel_rfl)) (fun _ _ _ h => h) (Or.inl ⟨by rfl, ?_⟩) ?_ ?_
            rotate_left
            · intro w'
              go_simp
              with_reducible rfl
            rotate_left
            · simp only [Act.put, List.setIfInBounds_toArray, List.set_cons_zero, List.set_cons_succ, i64_w, i32_w]
              rfl
            refine pure_ (i := 2) (N := some 21) (v := ?_) (a' := ?_) #[true, true, true, false, false, false, false, false, false, false, false] rfl rfl (any_of HT_.out (by kernel_rfl)) (fun _ _ _ h => h) (Or.inl ⟨by rfl, ?_⟩) ?_ ?_
            rotate_left
            · intro w'
              go_simp
              with_reducible rfl
            rotate_left
            · simp only [Act.put, List.setIfInBounds_toArray, List.set_cons_zero, List.set_cons_succ, i64_w, i32_w]
              rfl
            refine pure_ (i := 4) (N := some 23) (v := ?_) (a' := ?_) #[true, true, true, false, true, false, false, false, false, false, false] rfl rfl (any_of HT_.out (by kernel_rfl)) (fun _ _ _ h => h) (Or.inl ⟨by rfl, ?_⟩) ?_ ?_
            rotate_left
            · intro w'
              go_simp
              with_reducible rfl
            rotate_left
            · simp only [Act.put, List.setIfInBounds_toArray, List.set_cons_zero, List.set_cons_succ, i64_w, i32_w]
              rfl
            refine pure_ (i := 5) (N := some 24) (v := ?_) (a' := ?_) #[true, true, true, false, true, true, false, false, false, false, false] rfl rfl (any_of HT_.out (by kernel_rfl)) (fun _ _ _ h => h) (Or.inl ⟨by rfl, ?_⟩) ?_ ?_
            rotate_left
            · intro w'
              go_simp
              with_reducible rfl
            rotate_left
            · simp only [Act.put, List.setIfInBounds_toArray, List.set_cons_zero, List.set_cons_succ, i64_w, i32_w]
              rfl
            refine pure_ (i := 6) (N := some 25) (v := ?_) (a' := ?_) #[true, true, true, false, true, true, true, false, false, false, false] rfl rfl (any_of HT_.out (by kernel_rfl)) (fun _ _ _ h => h) (Or.inl ⟨by rfl, ?_⟩) ?_ ?_
            rotate_left
            · intro w'
              go_simp
              with_reducible rfl
            rotate_left
            · simp only [Act.put, List.setIfInBounds_toArray, List.set_cons_zero, List.set_cons_succ, i64_w, i32_w]
              rfl
            refine take_ (i := 7) (N := some 26) (v := ?_) (a' := ?_) #[true, true, true, false, true, true, true, true, false, false, false] rfl rfl (take_ofW HT_.out HW_.out (by kernel_rfl)) (fun _ _ _ h => h) (Or.inl ⟨by rfl, ?_⟩) hHeld ?_ ?_
            rotate_left
            · intro w' s0
              go_simp
              with_reducible rfl
            rotate_left
            · simp only [Act.put, List.setIfInBounds_toArray, List.set_cons_zero, List.set_cons_succ, i64_w, i32_w]
              rfl
            refine one_ (i := 3) (N := some 22) #[true, true, true, true, true, true, true, true, false, false, false] rfl rfl (one_of HT_.out (by kernel_rfl)) (by decide) (fun K hK => ?_)
            refine goes_ Try.func49 (by kernel_rfl) rfl #[.slice (some ad338) (l1.take ((ji7) : Int).toNat).length c1] (by rfl) rfl rfl (by (try simp only [List.map_toArray, List.map_cons, List.map_nil]); first | done | (rw [show (l1.take ((ji7) : Int).toNat).length = (ji7).toNat from (by rw [List.length_take]; have h_ : ((ji7) : Int) ≤ (l1.length : Int) := of_decide_eq_true (by first | (with_reducible assumption) | assumption); omega)] <;> rfl) | (simp only [hji7]; rfl) | rfl | (simp only [List.length_drop, List.length_take]; rfl)) ?_
            with_reducible refine (slices_Clone_int.calls _ _ (l1.take ((ji7) : Int).toNat) t335 _ ?side1 ?side2 A10.out).mono ?_
            (case side1 => repeat (first | exact (Kd.C_below HR334.out HB.out) | (with_reducible refine Kd.C_alloc ?_ _) | (with_reducible refine Kd.C_drewN ?_ _) | (with_reducible refine Kd.C_drew ?_)))
            (case side2 => exact HC334.out)
            rintro e w15 ⟨v336, rfl, ho0, hb⟩
            refine ⟨_, rfl, ?_⟩
            have n0_ := Aside0.mk (Kd.R_lower ho0 (below_size (by repeat (first | (with_reducible first | exact HB.out | apply below_alloc | apply pw_below_drewN | apply below_drew1) | exact HB.out))))
            have n1_ := Aside0.mk (below_step (by repeat (first | (with_reducible first | exact HB.out | apply below_alloc | apply pw_below_drewN | apply below_drew1) | exact HB.out)) hb)
            clear HB
            have HO337 := n0_
            have HB := n1_
            clear n0_ n1_
            (try clear hb)
            (try clear hb2)
            (try clear hk)
            (try clear hi)
            (try clear ho0)
            refine hK.out _ _ (((HB.out.cell (World.block_lt_of_cell? w _ hw338_0)).trans hw338_0)) (fun hHeld => ?_)
            clear hK K
            refine norm_ (a' := ?_) ?_ ?_
            rotate_left
            · show Act.put _ (some 22) _ = _
              simp only [Act.put, List.setIfInBounds_toArray, List.set_cons_zero, List.set_cons_succ, i64_w, i32_w]
              rfl
            refine pure_ (i := 8) (N := some 4) (v := ?_) (a' := ?_) #[true, true, true, true, true, true, true, true, true, false, false] rfl rfl (any_of HT_.out (by kernel_rfl)) (fun _ _ _ h => h) (Or.inl ⟨by rfl, ?_⟩) ?_ ?_
            rotate_left
            · intro w'
              go_simp
              with_reducible rfl
            rotate_left
            · simp only [Act.put, List.setIfInBounds_toArray, List.set_cons_zero, List.set_cons_succ, i64_w, i32_w]
              rfl
            refine pure_ (i := 9) (N := some 5) (v := ?_) (a' := ?_) #[true, true, true, true, true, true, true, true, true, true, false] rfl rfl (any_of HT_.out (by kernel_rfl)) (fun _ _ _ h => h) (Or.inl ⟨by rfl, ?_⟩) ?_ ?_
            rotate_left
            · intro w'
              go_simp
              with_reducible rfl
            rotate_left
            · simp only [Act.put, List.setIfInBounds_toArray, List.set_cons_zero, List.set_cons_succ, i64_w, i32_w]
              rfl
            refine pure_ (i := 10) (N := some 6) (v := ?_) (a' := ?_) #[true, true, true, true, true, true, true, true, true, true, true] rfl rfl (any_of HT_.out (by kernel_rfl)) (fun _ _ _ h => h) (Or.inl ⟨by rfl, ?_⟩) ?_ ?_
            rotate_left
            · intro w'
              go_simp
              with_reducible rfl
            rotate_left
            · simp only [Act.put, List.setIfInBounds_toArray, List.set_cons_zero, List.set_cons_succ, i64_w, i32_w]
              rfl
            refine done_ (done_of HT_.out (by kernel_rfl)) ?_
            try go_wp2
            go_ret3
            exact ⟨_, by first | rfl | (simp [errW_none, errW_some] <;> rfl) | (simp only [← hji7]; first | rfl | (simp [errW_none, errW_some] <;> rfl)) | (simp [*, errW_none, errW_some] <;> rfl), by (with_reducible repeat (first | apply Kd.R_alloc | apply Kd.R_drewN | apply Kd.R_drew)); exact HO337.out, by repeat (first | (with_reducible first | exact HB.out | apply below_alloc | apply pw_below_drewN | apply below_drew1) | exact HB.out)⟩
          · rw [if_neg c11] at H
            exact absurd H (by simp)
        · rw [if_neg c9] at H
          exact absurd H (by simp)
      · rw [if_neg c8] at H
        exact absurd H (by simp)
  · replace c4 := Bool.eq_false_iff.mpr c4
    subst c4
    have H1 : (some (([] : List Int), 0, false)) = some (r1, r2, r3) := by rw [if_neg (show ¬ (false = true) by decide)] at H; exact H
    clear H
    have H := H1
    clear H1
    simp only [Option.some.injEq, Prod.mk.injEq] at H
    obtain ⟨rfl, rfl, rfl⟩ := H
    go_enter Try.func28, Try.ntmps28
    go_wp2_with (first | ((with_reducible refine gate_callee (f := 42) rfl ?_); refine goesL_ (some 13) rfl rfl Try.func42 (by kernel_rfl) rfl #[.slice A0 l0.length c0, .slice A1 l1.length c1] rfl (by (try simp only [List.map_toArray, List.map_cons, List.map_nil]); first | done | rfl | (simp only [List.length_drop, List.length_take]; rfl)) ?_; (with_reducible refine (impl_areStacked.calls _ _ l0 _ _ l1 false _ ?side1 ?side2 ?side3 ?side4 A3.out).mono ?_); (case side1 => repeat (first | exact HR0.out | (with_reducible refine Kd.C_alloc ?_ _) | (with_reducible refine Kd.C_drewN ?_ _) | (with_reducible refine Kd.C_drew ?_))); (case side2 => exact HC0.out); (case side3 => repeat (first | exact HR1.out | (with_reducible refine Kd.C_alloc ?_ _) | (with_reducible refine Kd.C_drewN ?_ _) | (with_reducible refine Kd.C_drew ?_))); (case side4 => exact HC1.out); rintro e w16 ⟨rfl, hb⟩; refine ⟨_, rfl, ?_⟩; have n0_ := Aside0.mk (below_step (by repeat (first | (with_reducible first | exact HB.out | apply below_alloc | apply pw_below_drewN | apply below_drew1) | exact HB.out)) hb); clear HB; have HB := n0_; clear n0_; (try clear hb); (try clear hb2); (try clear hk); (try clear hi)))
    go_ret3
    exact ⟨_, by first | rfl | (simp [errW_none, errW_some] <;> rfl) | (simp [*, errW_none, errW_some] <;> rfl), by first | exact Kd.R_nil _ _ _ _ _ | exact Kd.N_nil _ _ _ _ _ | exact Kd.V_nil _ _ _ _ _ | exact Kd.Q_nil _ _ _ _ _ | exact Kd.S_nil _ _ _ _ _, by repeat (first | (with_reducible first | exact HB.out | apply below_alloc | apply pw_below_drewN | apply below_drew1) | exact HB.out)⟩

end Go.Proofs.Ytehjicblchnknaa.Q

namespace Go.Proofs.Ytehjicblchnknaa.Q
open Go.RowKit Go.Proofs.YtehjicblchnknaaW.PrintWords Go.Proofs.YtehjicblchnknaaW.PrintLast Go.Proofs.YtehjicblchnknaaW.PrintMore
attribute [local go_sem] max2_int min2_int max_two min_two max_three min_three max_four min_four   -- for this text's walks alone
set_option linter.unusedVariables false
set_option linter.unusedSimpArgs false

/-! ### spec_PutOn: function 22 -/
def spec_PutOn.f (k : Nat) (l0 : List (S46)) (l1 : List Int) (a2 : Int) : Option (List Int × Bool) := (spec_scStack.f k l0 l1).bind fun t255 => (if t255 = true then ((spec_l1In.f a2 0 (wrap64 ((l0.length : Int) - 1))).bind fun t256 => (if t256 = true then ((spec_l1Has.f k l1 a2).bind fun t257 => (if t257 = true then (some (([] : List Int), false)) else ((spec_l1Own.f l1).bind fun t258 => (if t258.length < 17592186044416 then (some ((t258 ++ [a2]), true)) else (none))))) else (some (([] : List Int), false)))) else (some (([] : List Int), false)))
theorem spec_PutOn.mono : ∀ a0 a1 a2 k, LeO (spec_PutOn.f k a0 a1 a2) (spec_PutOn.f (k + 1) a0 a1 a2) := by
  intro a0 a1 a2 k
  unfold spec_PutOn.f
  repeat' first
      | (with_reducible exact spec_l1Has.mono _ _ _)
      | (with_reducible exact spec_scStack.mono _ _ _)
      | (with_reducible exact LeO.refl _)
      | (with_reducible exact LeO.none _)
      | (with_reducible refine LeO.ite ?_ ?_)
      | (with_reducible refine LeO.bind ?_ (fun _ => ?_))
      | exact spec_l1Has.mono _ _ _
      | exact spec_scStack.mono _ _ _
      | exact LeO.none _
      | refine LeO.ite ?_ ?_
      | refine LeO.bind ?_ (fun _ => ?_)
set_option maxHeartbeats 8000000 in
set_option maxRecDepth 100000 in
theorem spec_PutOn.calls (k : Nat) (A0 : Option Addr) (c0 : Nat) (l0 : List (S46)) (A1 : Option Addr) (c1 : Nat) (l1 : List Int) (a2 : Int) (r1 : List Int) (r2 : Bool) (w : World) (hr0 : Kd.C k46 w A0 l0.length l0) (hc0 : l0.length ≤ c0) (hr1 : Kd.C (Kd.int .i64) w A1 l1.length l1) (hc1 : l1.length ≤ c1) (h : spec_PutOn.f k l0 l1 a2 = some (r1, r2)) :
    Calls Try.prog 22 #[.slice A0 l0.length c0, .slice A1 l1.length c1, .int .i64 a2] w fun e w' => ∃ v0_ : Value, e = .returned (.tuple #[v0_, .bool r2]) ∧ Kd.R (Kd.int .i64) 3 w' w.heap.size (fun _ => True) v0_ r1 ∧ Below w.heap.size w w' := by
  have HR0 := Aside0.mk hr0
  have HC0 := Aside0.mk hc0
  clear hr0 hc0
  have HR1 := Aside0.mk hr1
  have HC1 := Aside0.mk hc1
  clear hr1 hc1
  have HB := Aside0.mk (Below.refl w.heap.size w)
  have H : ((spec_scStack.f k l0 l1).bind fun t255 => (if t255 = true then ((spec_l1In.f a2 0 (wrap64 ((l0.length : Int) - 1))).bind fun t256 => (if t256 = true then ((spec_l1Has.f k l1 a2).bind fun t257 => (if t257 = true then (some (([] : List Int), false)) else ((spec_l1Own.f l1).bind fun t258 => (if t258.length < 17592186044416 then (some ((t258 ++ [a2]), true)) else (none))))) else (some (([] : List Int), false)))) else (some (([] : List Int), false)))) = some (r1, r2) := h
  clear h
  replace H := Option.bind_eq_some_iff.mp H
  obtain ⟨t255, A40, H⟩ := H
  replace H : (if t255 = true then ((spec_l1In.f a2 0 (wrap64 ((l0.length : Int) - 1))).bind fun t256 => (if t256 = true then ((spec_l1Has.f k l1 a2).bind fun t257 => (if t257 = true then (some (([] : List Int), false)) else ((spec_l1Own.f l1).bind fun t258 => (if t258.length < 17592186044416 then (some ((t258 ++ [a2]), true)) else (none))))) else (some (([] : List Int), false)))) else (some (([] : List Int), false))) = some (r1, r2) := H
  have A4 := Aside0.mk A40
  clear A40
  by_cases c5 : t255 = true
  · subst c5
    have H1 : ((spec_l1In.f a2 0 (wrap64 ((l0.length : Int) - 1))).bind fun t256 => (if t256 = true then ((spec_l1Has.f k l1 a2).bind fun t257 => (if t257 = true then (some (([] : List Int), false)) else ((spec_l1Own.f l1).bind fun t258 => (if t258.length < 17592186044416 then (some ((t258 ++ [a2]), true)) else (none))))) else (some (([] : List Int), false)))) = some (r1, r2) := by rw [if_pos rfl] at H; exact H
    clear H
    have H := H1
    clear H1
    replace H := Option.bind_eq_some_iff.mp H
    obtain ⟨t256, A60, H⟩ := H
    replace H : (if t256 = true then ((spec_l1Has.f k l1 a2).bind fun t257 => (if t257 = true then (some (([] : List Int), false)) else ((spec_l1Own.f l1).bind fun t258 => (if t258.length < 17592186044416 then (some ((t258 ++ [a2]), true)) else (none))))) else (some (([] : List Int), false))) = some (r1, r2) := H
    have A6 := Aside0.mk A60
    clear A60
    by_cases c7 : t256 = true
    · subst c7
      have H1 : ((spec_l1Has.f k l1 a2).bind fun t257 => (if t257 = true then (some (([] : List Int), false)) else ((spec_l1Own.f l1).bind fun t258 => (if t258.length < 17592186044416 then (some ((t258 ++ [a2]), true)) else (none))))) = some (r1, r2) := by rw [if_pos rfl] at H; exact H
      clear H
      have H := H1
      clear H1
      replace H := Option.bind_eq_some_iff.mp H
      obtain ⟨t257, A80, H⟩ := H
      replace H : (if t257 = true then (some (([] : List Int), false)) else ((spec_l1Own.f l1).bind fun t258 => (if t258.length < 17592186044416 then (some ((t258 ++ [a2]), true)) else (none)))) = some (r1, r2) := H
      have A8 := Aside0.mk A80
      clear A80
      by_cases c9 : t257 = true
      · subst c9
        have H1 : (some (([] : List Int), false)) = some (r1, r2) := by rw [if_pos rfl] at H; exact H
        clear H
        have H := H1
        clear H1
        simp only [Option.some.injEq, Prod.mk.injEq] at H
        obtain ⟨rfl, rfl⟩ := H
        go_enter Try.func22, Try.ntmps22
        go_wp2_with (first | ((with_reducible refine gate_callee (f := 36) rfl ?_); refine goesL_ (some 10) rfl rfl Try.func36 (by kernel_rfl) rfl #[.slice A0 l0.length c0, .slice A1 l1.length c1] rfl (by (try simp only [List.map_toArray, List.map_cons, List.map_nil]); first | done | rfl | (simp only [List.length_drop, List.length_take]; rfl)) ?_; (with_reducible refine (spec_scStack.calls k _ _ l0 _ _ l1 true _ ?side1 ?side2 ?side3 ?side4 A4.out).mono ?_); (case side1 => repeat (first | exact HR0.out | (with_reducible refine Kd.C_alloc ?_ _) | (with_reducible refine Kd.C_drewN ?_ _) | (with_reducible refine Kd.C_drew ?_))); (case side2 => exact HC0.out); (case side3 => repeat (first | exact HR1.out | (with_reducible refine Kd.C_alloc ?_ _) | (with_reducible refine Kd.C_drewN ?_ _) | (with_reducible refine Kd.C_drew ?_))); (case side4 => exact HC1.out); rintro e w10 ⟨rfl, hb⟩; refine ⟨_, rfl, ?_⟩; have n0_ := Aside0.mk (below_step (by repeat (first | (with_reducible first | exact HB.out | apply below_alloc | apply pw_below_drewN | apply below_drew1) | exact HB.out)) hb); clear HB; have HB := n0_; clear n0_; (try clear hb); (try clear hb2); (try clear hk); (try clear hi)) | (go_at_call 46; (with_reducible refine (spec_l1In.calls a2 0 (wrap64 ((l0.length : Int) - 1)) true _ A6.out).mono ?_); rintro e w' ⟨rfl, ⟨nd, rfl⟩⟩) | (go_at_call 47; (with_reducible refine (spec_l1Has.calls k _ _ l1 a2 true _ ?side1 ?side2 A8.out).mono ?_); (case side1 => repeat (first | exact (Kd.C_below HR1.out (by repeat (first | (with_reducible first | exact HB.out | apply below_alloc | apply pw_below_drewN | apply below_drew1) | exact HB.out))) | (with_reducible refine Kd.C_alloc ?_ _) | (with_reducible refine Kd.C_drewN ?_ _) | (with_reducible refine Kd.C_drew ?_))); (case side2 => exact HC1.out); rintro e w' ⟨rfl, ⟨nd, rfl⟩⟩))
        go_ret2
        exact ⟨_, by first | rfl | (simp [errW_none, errW_some] <;> rfl) | (simp [*, errW_none, errW_some] <;> rfl), by first | exact Kd.R_nil _ _ _ _ _ | exact Kd.N_nil _ _ _ _ _ | exact Kd.V_nil _ _ _ _ _ | exact Kd.Q_nil _ _ _ _ _ | exact Kd.S_nil _ _ _ _ _, by repeat (first | (with_reducible first | exact HB.out | apply below_alloc | apply pw_below_drewN | apply below_drew1) | exact HB.out)⟩
      · replace c9 := Bool.eq_false_iff.mpr c9
        subst c9
        have H1 : ((spec_l1Own.f l1).bind fun t258 => (if t258.length < 17592186044416 then (some ((t258 ++ [a2]), true)) else (none))) = some (r1, r2) := by rw [if_neg (show ¬ (false = true) by decide)] at H; exact H
        clear H
        have H := H1
        clear H1
        replace H := Option.bind_eq_some_iff.mp H
        obtain ⟨t258, A110, H⟩ := H
        replace H : (if t258.length < 17592186044416 then (some ((t258 ++ [a2]), true)) else (none)) = some (r1, r2) := H
        have A11 := Aside0.mk A110
        clear A110
        by_cases c12 : t258.length < 17592186044416
        · rw [if_pos c12] at H
          have LMc12 := Aside0.mk c12
          clear c12
          obtain ⟨y261, hy261⟩ : ∃ y_ : List Int, y_ = (t258 ++ [a2]) := ⟨_, rfl⟩
          replace H : (some (y261, true)) = some (r1, r2) := by first | (rw [hy261]; with_reducible exact H) | (have H2_ := (Option.bind_some _ _).symm.trans H; rw [hy261]; with_reducible exact H2_) | (have H2_ := (Option.bind_some _ _).symm.trans H; with_reducible exact H2_) | with_reducible exact H | (rw [hy261]; exact H) | exact H
          have Ny261 := Aside0.mk hy261
          clear hy261
          simp only [Option.some.injEq, Prod.mk.injEq] at H
          obtain ⟨rfl, rfl⟩ := H
          go_enter Try.func22, Try.ntmps22
          go_wp2_with (first | ((with_reducible refine gate_callee (f := 36) rfl ?_); refine goesL_ (some 10) rfl rfl Try.func36 (by kernel_rfl) rfl #[.slice A0 l0.length c0, .slice A1 l1.length c1] rfl (by (try simp only [List.map_toArray, List.map_cons, List.map_nil]); first | done | rfl | (simp only [List.length_drop, List.length_take]; rfl)) ?_; (with_reducible refine (spec_scStack.calls k _ _ l0 _ _ l1 true _ ?side1 ?side2 ?side3 ?side4 A4.out).mono ?_); (case side1 => repeat (first | exact HR0.out | (with_reducible refine Kd.C_alloc ?_ _) | (with_reducible refine Kd.C_drewN ?_ _) | (with_reducible refine Kd.C_drew ?_))); (case side2 => exact HC0.out); (case side3 => repeat (first | exact HR1.out | (with_reducible refine Kd.C_alloc ?_ _) | (with_reducible refine Kd.C_drewN ?_ _) | (with_reducible refine Kd.C_drew ?_))); (case side4 => exact HC1.out); rintro e w13 ⟨rfl, hb⟩; refine ⟨_, rfl, ?_⟩; have n0_ := Aside0.mk (below_step (by repeat (first | (with_reducible first | exact HB.out | apply below_alloc | apply pw_below_drewN | apply below_drew1) | exact HB.out)) hb); clear HB; have HB := n0_; clear n0_; (try clear hb); (try clear hb2); (try clear hk); (try clear hi)) | (go_at_call 46; (with_reducible refine (spec_l1In.calls a2 0 (wrap64 ((l0.length : Int) - 1)) true _ A6.out).mono ?_); rintro e w' ⟨rfl, ⟨nd, rfl⟩⟩) | (go_at_call 47; (with_reducible refine (spec_l1Has.calls k _ _ l1 a2 false _ ?side1 ?side2 A8.out).mono ?_); (case side1 => repeat (first | exact (Kd.C_below HR1.out (by repeat (first | (with_reducible first | exact HB.out | apply below_alloc | apply pw_below_drewN | apply below_drew1) | exact HB.out))) | (with_reducible refine Kd.C_alloc ?_ _) | (with_reducible refine Kd.C_drewN ?_ _) | (with_reducible refine Kd.C_drew ?_))); (case side2 => exact HC1.out); rintro e w' ⟨rfl, ⟨nd, rfl⟩⟩) | ((with_reducible refine gate_callee (f := 48) rfl ?_); refine goesL_ (some 26) rfl rfl Try.func48 (by kernel_rfl) rfl #[.slice A1 l1.length c1] rfl (by (try simp only [List.map_toArray, List.map_cons, List.map_nil]); first | done | rfl | (simp only [List.length_drop, List.length_take]; rfl)) ?_; (with_reducible refine (spec_l1Own.calls _ _ l1 t258 _ ?side1 ?side2 A11.out).mono ?_); (case side1 => repeat (first | exact (Kd.C_below HR1.out (by repeat (first | (with_reducible first | exact HB.out | apply below_alloc | apply pw_below_drewN | apply below_drew1) | exact HB.out))) | (with_reducible refine Kd.C_alloc ?_ _) | (with_reducible refine Kd.C_drewN ?_ _) | (with_reducible refine Kd.C_drew ?_))); (case side2 => exact HC1.out); rintro e w14 ⟨v259, rfl, ho0, hb⟩; refine ⟨_, rfl, ?_⟩; have n0_ := Aside0.mk (Kd.R_lower ho0 (below_size (by repeat (first | (with_reducible first | exact HB.out | apply below_alloc | apply pw_below_drewN | apply below_drew1) | exact HB.out)))); have n1_ := Aside0.mk (below_step (by repeat (first | (with_reducible first | exact HB.out | apply below_alloc | apply pw_below_drewN | apply below_drew1) | exact HB.out)) hb); clear HB; have HO260 := n0_; have HB := n1_; clear n0_ n1_; (try clear hb); (try clear hb2); (try clear hk); (try clear hi); (try clear ho0)) | ((with_reducible refine gate_builtin (b := .append) (xs := #[.tmp 26, .tmp 28]) rfl ?_); (try (refine gate_guard (by rfl) ?_; dsimp only)); at_builtin; refine Kd.R_append (Kd.int .i64) (w0 := w) w.heap.size rfl (.tmp 26) (.tmp 28) 23 3 (.int .i64 0) 8 rfl Try.underlying23 info3 rfl (by decide) (by omega) v259 t258 a2 [.int .i64 a2] (fun _ => True) (fun _ => False) rfl rfl ?aP (fun _ hk => hk.elim) ?aF ?aO ?aB ?aS ?aL ?_; (case aP => exact rfl); (case aB => exact (by repeat (first | (with_reducible first | exact HB.out | apply below_alloc | apply pw_below_drewN | apply below_drew1) | exact HB.out))); (case aF => exact (fun _ _ => trivial)); (case aO => exact (by (with_reducible repeat (first | apply Kd.R_alloc | apply Kd.R_drewN | apply Kd.R_drew)); exact HO260.out)); (case aS => exact (below_size (by repeat (first | (with_reducible first | exact HB.out | apply below_alloc | apply pw_below_drewN | apply below_drew1) | exact HB.out)))); (case aL => have := LMc12.out; omega); intro v262 w15 ho hb hg hat; rw [← Ny261.out] at ho; have n0_ := Aside0.mk (hb); have n1_ := Aside0.mk (ho); clear HB; clear HO260; have HB := n0_; have HO263 := n1_; clear n0_ n1_; clear ho hb hg hat))
          go_ret2
          exact ⟨_, by first | rfl | (simp [errW_none, errW_some] <;> rfl) | (simp [*, errW_none, errW_some] <;> rfl), by (with_reducible repeat (first | apply Kd.R_alloc | apply Kd.R_drewN | apply Kd.R_drew)); exact HO263.out, by repeat (first | (with_reducible first | exact HB.out | apply below_alloc | apply pw_below_drewN | apply below_drew1) | exact HB.out)⟩
        · rw [if_neg c12] at H
          exact absurd H (by simp)
    · replace c7 := Bool.eq_false_iff.mpr c7
      subst c7
      have H1 : (some (([] : List Int), false)) = some (r1, r2) := by rw [if_neg (show ¬ (false = true) by decide)] at H; exact H
      clear H
      have H := H1
      clear H1
      simp only [Option.some.injEq, Prod.mk.injEq] at H
      obtain ⟨rfl, rfl⟩ := H
      go_enter Try.func22, Try.ntmps22
      go_wp2_with (first | ((with_reducible refine gate_callee (f := 36) rfl ?_); refine goesL_ (some 10) rfl rfl Try.func36 (by kernel_rfl) rfl #[.slice A0 l0.length c0, .slice A1 l1.length c1] rfl (by (try simp only [List.map_toArray, List.map_cons, List.map_nil]); first | done | rfl | (simp only [List.length_drop, List.length_take]; rfl)) ?_; (with_reducible refine (spec_scStack.calls k _ _ l0 _ _ l1 true _ ?side1 ?side2 ?side3 ?side4 A4.out).mono ?_); (case side1 => repeat (first | exact HR0.out | (with_reducible refine Kd.C_alloc ?_ _) | (with_reducible refine Kd.C_drewN ?_ _) | (with_reducible refine Kd.C_drew ?_))); (case side2 => exact HC0.out); (case side3 => repeat (first | exact HR1.out | (with_reducible refine Kd.C_alloc ?_ _) | (with_reducible refine Kd.C_drewN ?_ _) | (with_reducible refine Kd.C_drew ?_))); (case side4 => exact HC1.out); rintro e w16 ⟨rfl, hb⟩; refine ⟨_, rfl, ?_⟩; have n0_ := Aside0.mk (below_step (by repeat (first | (with_reducible first | exact HB.out | apply below_alloc | apply pw_below_drewN | apply below_drew1) | exact HB.out)) hb); clear HB; have HB := n0_; clear n0_; (try clear hb); (try clear hb2); (try clear hk); (try clear hi)) | (go_at_call 46; (with_reducible refine (spec_l1In.calls a2 0 (wrap64 ((l0.length : Int) - 1)) false _ A6.out).mono ?_); rintro e w' ⟨rfl, ⟨nd, rfl⟩⟩))
      go_ret2
      exact ⟨_, by first | rfl | (simp [errW_none, errW_some] <;> rfl) | (simp [*, errW_none, errW_some] <;> rfl), by first | exact Kd.R_nil _ _ _ _ _ | exact Kd.N_nil _ _ _ _ _ | exact Kd.V_nil _ _ _ _ _ | exact Kd.Q_nil _ _ _ _ _ | exact Kd.S_nil _ _ _ _ _, by repeat (first | (with_reducible first | exact HB.out | apply below_alloc | apply pw_below_drewN | apply below_drew1) | exact HB.out)⟩
  · replace c5 := Bool.eq_false_iff.mpr c5
    subst c5
    have H1 : (some (([] : List Int), false)) = some (r1, r2) := by rw [if_neg (show ¬ (false = true) by decide)] at H; exact H
    clear H
    have H := H1
    clear H1
    simp only [Option.some.injEq, Prod.mk.injEq] at H
    obtain ⟨rfl, rfl⟩ := H
    go_enter Try.func22, Try.ntmps22
    go_wp2_with (first | ((with_reducible refine gate_callee (f := 36) rfl ?_); refine goesL_ (some 10) rfl rfl Try.func36 (by kernel_rfl) rfl #[.slice A0 l0.length c0, .slice A1 l1.length c1] rfl (by (try simp only [List.map_toArray, List.map_cons, List.map_nil]); first | done | rfl | (simp only [List.length_drop, List.length_take]; rfl)) ?_; (with_reducible refine (spec_scStack.calls k _ _ l0 _ _ l1 false _ ?side1 ?side2 ?side3 ?side4 A4.out).mono ?_); (case side1 => repeat (first | exact HR0.out | (with_reducible refine Kd.C_alloc ?_ _) | (with_reducible refine Kd.C_drewN ?_ _) | (with_reducible refine Kd.C_drew ?_))); (case side2 => exact HC0.out); (case side3 => repeat (first | exact HR1.out | (with_reducible refine Kd.C_alloc ?_ _) | (with_reducible refine Kd.C_drewN ?_ _) | (with_reducible refine Kd.C_drew ?_))); (case side4 => exact HC1.out); rintro e w17 ⟨rfl, hb⟩; refine ⟨_, rfl, ?_⟩; have n0_ := Aside0.mk (below_step (by repeat (first | (with_reducible first | exact HB.out | apply below_alloc | apply pw_below_drewN | apply below_drew1) | exact HB.out)) hb); clear HB; have HB := n0_; clear n0_; (try clear hb); (try clear hb2); (try clear hk); (try clear hi)))
    go_ret2
    exact ⟨_, by first | rfl | (simp [errW_none, errW_some] <;> rfl) | (simp [*, errW_none, errW_some] <;> rfl), by first | exact Kd.R_nil _ _ _ _ _ | exact Kd.N_nil _ _ _ _ _ | exact Kd.V_nil _ _ _ _ _ | exact Kd.Q_nil _ _ _ _ _ | exact Kd.S_nil _ _ _ _ _, by repeat (first | (with_reducible first | exact HB.out | apply below_alloc | apply pw_below_drewN | apply below_drew1) | exact HB.out)⟩

end Go.Proofs.Ytehjicblchnknaa.Q

namespace Go.Proofs.Ytehjicblchnknaa.Q
open Go.RowKit Go.Proofs.YtehjicblchnknaaW.PrintWords Go.Proofs.YtehjicblchnknaaW.PrintLast Go.Proofs.YtehjicblchnknaaW.PrintMore
attribute [local go_sem] max2_int min2_int max_two min_two max_three min_three max_four min_four   -- for this text's walks alone
set_option linter.unusedVariables false
set_option linter.unusedSimpArgs false

/-! ### impl_PutOn: function 23 -/
def impl_PutOn.f (l0 : List (S46)) (l1 : List Int) (a2 : Int) : Option (List Int × Bool) := (slices_Clone_int.f l1).bind fun t264 => (if t264.length < 17592186044416 then ((some (t264 ++ [a2] : List Int)).bind fun y267 => ((impl_areStacked.f l0 l1).bind fun t270 => (if t270 = true then ((impl_isStack.f l0 y267).bind fun t271 => (if t271 = true then (some (y267, true)) else (some (([] : List Int), false)))) else (some (([] : List Int), false))))) else (none))
set_option maxHeartbeats 8000000 in
set_option maxRecDepth 100000 in
theorem impl_PutOn.calls (A0 : Option Addr) (c0 : Nat) (l0 : List (S46)) (A1 : Option Addr) (c1 : Nat) (l1 : List Int) (a2 : Int) (r1 : List Int) (r2 : Bool) (w : World) (hr0 : Kd.C k46 w A0 l0.length l0) (hc0 : l0.length ≤ c0) (hr1 : Kd.C (Kd.int .i64) w A1 l1.length l1) (hc1 : l1.length ≤ c1) (h : impl_PutOn.f l0 l1 a2 = some (r1, r2)) :
    Calls Try.prog 23 #[.slice A0 l0.length c0, .slice A1 l1.length c1, .int .i64 a2] w fun e w' => ∃ v0_ : Value, e = .returned (.tuple #[v0_, .bool r2]) ∧ Kd.R (Kd.int .i64) 3 w' w.heap.size (fun _ => True) v0_ r1 ∧ Below w.heap.size w w' := by
  have HR0 := Aside0.mk hr0
  have HC0 := Aside0.mk hc0
  clear hr0 hc0
  have HR1 := Aside0.mk hr1
  have HC1 := Aside0.mk hc1
  clear hr1 hc1
  have HB := Aside0.mk (Below.refl w.heap.size w)
  have H : ((slices_Clone_int.f l1).bind fun t264 => (if t264.length < 17592186044416 then ((some (t264 ++ [a2] : List Int)).bind fun y267 => ((impl_areStacked.f l0 l1).bind fun t270 => (if t270 = true then ((impl_isStack.f l0 y267).bind fun t271 => (if t271 = true then (some (y267, true)) else (some (([] : List Int), false)))) else (some (([] : List Int), false))))) else (none))) = some (r1, r2) := h
  clear h
  replace H := Option.bind_eq_some_iff.mp H
  obtain ⟨t264, A40, H⟩ := H
  replace H : (if t264.length < 17592186044416 then ((some (t264 ++ [a2] : List Int)).bind fun y267 => ((impl_areStacked.f l0 l1).bind fun t270 => (if t270 = true then ((impl_isStack.f l0 y267).bind fun t271 => (if t271 = true then (some (y267, true)) else (some (([] : List Int), false)))) else (some (([] : List Int), false))))) else (none)) = some (r1, r2) := H
  have A4 := Aside0.mk A40
  clear A40
  by_cases c5 : t264.length < 17592186044416
  · rw [if_pos c5] at H
    have LMc5 := Aside0.mk c5
    clear c5
    obtain ⟨y267, hy267⟩ : ∃ y_ : List Int, y_ = (t264 ++ [a2]) := ⟨_, rfl⟩
    replace H : ((impl_areStacked.f l0 l1).bind fun t270 => (if t270 = true then ((impl_isStack.f l0 y267).bind fun t271 => (if t271 = true then (some (y267, true)) else (some (([] : List Int), false)))) else (some (([] : List Int), false)))) = some (r1, r2) := by first | (rw [hy267]; with_reducible exact H) | (have H2_ := (Option.bind_some _ _).symm.trans H; rw [hy267]; with_reducible exact H2_) | (have H2_ := (Option.bind_some _ _).symm.trans H; with_reducible exact H2_) | with_reducible exact H | (rw [hy267]; exact H) | exact H
    have Ny267 := Aside0.mk hy267
    clear hy267
    replace H := Option.bind_eq_some_iff.mp H
    obtain ⟨t270, A60, H⟩ := H
    replace H : (if t270 = true then ((impl_isStack.f l0 y267).bind fun t271 => (if t271 = true then (some (y267, true)) else (some (([] : List Int), false)))) else (some (([] : List Int), false))) = some (r1, r2) := H
    have A6 := Aside0.mk A60
    clear A60
    by_cases c7 : t270 = true
    · subst c7
      have H1 : ((impl_isStack.f l0 y267).bind fun t271 => (if t271 = true then (some (y267, true)) else (some (([] : List Int), false)))) = some (r1, r2) := by rw [if_pos rfl] at H; exact H
      clear H
      have H := H1
      clear H1
      replace H := Option.bind_eq_some_iff.mp H
      obtain ⟨t271, A80, H⟩ := H
      replace H : (if t271 = true then (some (y267, true)) else (some (([] : List Int), false))) = some (r1, r2) := H
      have A8 := Aside0.mk A80
      clear A80
      by_cases c9 : t271 = true
      · subst c9
        have H1 : (some (y267, true)) = some (r1, r2) := by rw [if_pos rfl] at H; exact H
        clear H
        have H := H1
        clear H1
        simp only [Option.some.injEq, Prod.mk.injEq] at H
        obtain ⟨rfl, rfl⟩ := H
        go_enter Try.func23, Try.ntmps23
        go_wp2_with (first | ((with_reducible refine gate_callee (f := 49) rfl ?_); refine goesL_ (some 10) rfl rfl Try.func49 (by kernel_rfl) rfl #[.slice A1 l1.length c1] rfl (by (try simp only [List.map_toArray, List.map_cons, List.map_nil]); first | done | rfl | (simp only [List.length_drop, List.length_take]; rfl)) ?_; (with_reducible refine (slices_Clone_int.calls _ _ l1 t264 _ ?side1 ?side2 A4.out).mono ?_); (case side1 => repeat (first | exact HR1.out | (with_reducible refine Kd.C_alloc ?_ _) | (with_reducible refine Kd.C_drewN ?_ _) | (with_reducible refine Kd.C_drew ?_))); (case side2 => exact HC1.out); rintro e w10 ⟨v265, rfl, ho0, hb⟩; refine ⟨_, rfl, ?_⟩; have n0_ := Aside0.mk (Kd.R_lower ho0 (below_size (by repeat (first | (with_reducible first | exact HB.out | apply below_alloc | apply pw_below_drewN | apply below_drew1) | exact HB.out)))); have n1_ := Aside0.mk (below_step (by repeat (first | (with_reducible first | exact HB.out | apply below_alloc | apply pw_below_drewN | apply below_drew1) | exact HB.out)) hb); clear HB; have HO266 := n0_; have HB := n1_; clear n0_ n1_; (try clear hb); (try clear hb2); (try clear hk); (try clear hi); (try clear ho0)) | ((with_reducible refine gate_builtin (b := .append) (xs := #[.tmp 10, .tmp 12]) rfl ?_); at_builtin; refine Kd.R_append (Kd.int .i64) (w0 := w) w.heap.size rfl (.tmp 10) (.tmp 12) 23 3 (.int .i64 0) 8 rfl Try.underlying23 info3 rfl (by decide) (by omega) v265 t264 a2 [.int .i64 a2] (fun _ => True) (fun _ => False) rfl rfl ?aP (fun _ hk => hk.elim) ?aF ?aO ?aB ?aS ?aL ?_; (case aP => exact rfl); (case aB => exact (by repeat (first | (with_reducible first | exact HB.out | apply below_alloc | apply pw_below_drewN | apply below_drew1) | exact HB.out))); (case aF => exact (fun _ _ => trivial)); (case aO => exact (by (with_reducible repeat (first | apply Kd.R_alloc | apply Kd.R_drewN | apply Kd.R_drew)); exact HO266.out)); (case aS => exact (below_size (by repeat (first | (with_reducible first | exact HB.out | apply below_alloc | apply pw_below_drewN | apply below_drew1) | exact HB.out)))); (case aL => have := LMc5.out; omega); intro v268 w11 ho hb hg hat; rw [← Ny267.out] at ho; have n0_ := Aside0.mk (hb); have n1_ := Aside0.mk (ho); clear HB; clear HO266; have HB := n0_; have HO269 := n1_; clear n0_ n1_; clear ho hb hg hat) | ((with_reducible refine gate_callee (f := 42) rfl ?_); refine goesL_ (some 16) rfl rfl Try.func42 (by kernel_rfl) rfl #[.slice A0 l0.length c0, .slice A1 l1.length c1] rfl (by (try simp only [List.map_toArray, List.map_cons, List.map_nil]); first | done | rfl | (simp only [List.length_drop, List.length_take]; rfl)) ?_; (with_reducible refine (impl_areStacked.calls _ _ l0 _ _ l1 true _ ?side1 ?side2 ?side3 ?side4 A6.out).mono ?_); (case side1 => repeat (first | exact (Kd.C_below HR0.out HB.out) | (with_reducible refine Kd.C_alloc ?_ _) | (with_reducible refine Kd.C_drewN ?_ _) | (with_reducible refine Kd.C_drew ?_))); (case side2 => exact HC0.out); (case side3 => repeat (first | exact (Kd.C_below HR1.out HB.out) | (with_reducible refine Kd.C_alloc ?_ _) | (with_reducible refine Kd.C_drewN ?_ _) | (with_reducible refine Kd.C_drew ?_))); (case side4 => exact HC1.out); rintro e w12 ⟨rfl, hb⟩; refine ⟨_, rfl, ?_⟩; have n0_ := Aside0.mk (Kd.R_below (by (with_reducible repeat (first | apply Kd.R_alloc | apply Kd.R_drewN | apply Kd.R_drew)); exact HO269.out) hb); have n1_ := Aside0.mk (below_step (by repeat (first | (with_reducible first | exact HB.out | apply below_alloc | apply pw_below_drewN | apply below_drew1) | exact HB.out)) hb); clear HO269; clear HB; have HO269 := n0_; have HB := n1_; clear n0_ n1_; (try clear hb); (try clear hb2); (try clear hk); (try clear hi); obtain ⟨Ao13, co13, eo13⟩ := Kd.R_slice HO269.out; subst eo13) | (go_at_call 39; (with_reducible refine (impl_isStack.calls _ _ l0 _ _ y267 true _ ?side1 ?side2 ?side3 ?side4 A8.out).mono ?_); (case side1 => repeat (first | exact (Kd.C_below HR0.out HB.out) | (with_reducible refine Kd.C_alloc ?_ _) | (with_reducible refine Kd.C_drewN ?_ _) | (with_reducible refine Kd.C_drew ?_))); (case side2 => exact HC0.out); (case side3 => repeat (first | exact (Kd.R_reads' HO269.out).2.2 | (with_reducible refine Kd.C_alloc ?_ _) | (with_reducible refine Kd.C_drewN ?_ _) | (with_reducible refine Kd.C_drew ?_))); (case side4 => exact (Kd.R_reads' HO269.out).2.1); rintro e w14 ⟨rfl, hb⟩; have n0_ := Aside0.mk (Kd.R_below (by (with_reducible repeat (first | apply Kd.R_alloc | apply Kd.R_drewN | apply Kd.R_drew)); exact HO269.out) hb); have n1_ := Aside0.mk (below_step (by repeat (first | (with_reducible first | exact HB.out | apply below_alloc | apply pw_below_drewN | apply below_drew1) | exact HB.out)) hb); clear HO269; clear HB; have HO269 := n0_; have HB := n1_; clear n0_ n1_; (try clear hb); (try clear hb2); (try clear hk); (try clear hi)))
        go_ret2
        exact ⟨_, by first | rfl | (simp [errW_none, errW_some] <;> rfl) | (simp [*, errW_none, errW_some] <;> rfl), by (with_reducible repeat (first | apply Kd.R_alloc | apply Kd.R_drewN | apply Kd.R_drew)); exact HO269.out, by repeat (first | (with_reducible first | exact HB.out | apply below_alloc | apply pw_below_drewN | apply below_drew1) | exact HB.out)⟩
      · replace c9 := Bool.eq_false_iff.mpr c9
        subst c9
        have H1 : (some (([] : List Int), false)) = some (r1, r2) := by rw [if_neg (show ¬ (false = true) by decide)] at H; exact H
        clear H
        have H := H1
        clear H1
        simp only [Option.some.injEq, Prod.mk.injEq] at H
        obtain ⟨rfl, rfl⟩ := H
        go_enter Try.func23, Try.ntmps23
        go_wp2_with (first | ((with_reducible refine gate_callee (f := 49) rfl ?_); refine goesL_ (some 10) rfl rfl Try.func49 (by kernel_rfl) rfl #[.slice A1 l1.length c1] rfl (by (try simp only [List.map_toArray, List.map_cons, List.map_nil]); first | done | rfl | (simp only [List.length_drop, List.length_take]; rfl)) ?_; (with_reducible refine (slices_Clone_int.calls _ _ l1 t264 _ ?side1 ?side2 A4.out).mono ?_); (case side1 => repeat (first | exact HR1.out | (with_reducible refine Kd.C_alloc ?_ _) | (with_reducible refine Kd.C_drewN ?_ _) | (with_reducible refine Kd.C_drew ?_))); (case side2 => exact HC1.out); rintro e w15 ⟨v265, rfl, ho0, hb⟩; refine ⟨_, rfl, ?_⟩; have n0_ := Aside0.mk (Kd.R_lower ho0 (below_size (by repeat (first | (with_reducible first | exact HB.out | apply below_alloc | apply pw_below_drewN | apply below_drew1) | exact HB.out)))); have n1_ := Aside0.mk (below_step (by repeat (first | (with_reducible first | exact HB.out | apply below_alloc | apply pw_below_drewN | apply below_drew1) | exact HB.out)) hb); clear HB; have HO266 := n0_; have HB := n1_; clear n0_ n1_; (try clear hb); (try clear hb2); (try clear hk); (try clear hi); (try clear ho0)) | ((with_reducible refine gate_builtin (b := .append) (xs := #[.tmp 10, .tmp 12]) rfl ?_); at_builtin; refine Kd.R_append (Kd.int .i64) (w0 := w) w.heap.size rfl (.tmp 10) (.tmp 12) 23 3 (.int .i64 0) 8 rfl Try.underlying23 info3 rfl (by decide) (by omega) v265 t264 a2 [.int .i64 a2] (fun _ => True) (fun _ => False) rfl rfl ?aP (fun _ hk => hk.elim) ?aF ?aO ?aB ?aS ?aL ?_; (case aP => exact rfl); (case aB => exact (by repeat (first | (with_reducible first | exact HB.out | apply below_alloc | apply pw_below_drewN | apply below_drew1) | exact HB.out))); (case aF => exact (fun _ _ => trivial)); (case aO => exact (by (with_reducible repeat (first | apply Kd.R_alloc | apply Kd.R_drewN | apply Kd.R_drew)); exact HO266.out)); (case aS => exact (below_size (by repeat (first | (with_reducible first | exact HB.out | apply below_alloc | apply pw_below_drewN | apply below_drew1) | exact HB.out)))); (case aL => have := LMc5.out; omega); intro v268 w16 ho hb hg hat; rw [← Ny267.out] at ho; have n0_ := Aside0.mk (hb); have n1_ := Aside0.mk (ho); clear HB; clear HO266; have HB := n0_; have HO269 := n1_; clear n0_ n1_; clear ho hb hg hat) | ((with_reducible refine gate_callee (f := 42) rfl ?_); refine goesL_ (some 16) rfl rfl Try.func42 (by kernel_rfl) rfl #[.slice A0 l0.length c0, .slice A1 l1.length c1] rfl (by (try simp only [List.map_toArray, List.map_cons, List.map_nil]); first | done | rfl | (simp only [List.length_drop, List.length_take]; rfl)) ?_; (with_reducible refine (impl_areStacked.calls _ _ l0 _ _ l1 true _ ?side1 ?side2 ?side3 ?side4 A6.out).mono ?_); (case side1 => repeat (first | exact (Kd.C_below HR0.out HB.out) | (with_reducible refine Kd.C_alloc ?_ _) | (with_reducible refine Kd.C_drewN ?_ _) | (with_reducible refine Kd.C_drew ?_))); (case side2 => exact HC0.out); (case side3 => repeat (first | exact (Kd.C_below HR1.out HB.out) | (with_reducible refine Kd.C_alloc ?_ _) | (with_reducible refine Kd.C_drewN ?_ _) | (with_reducible refine Kd.C_drew ?_))); (case side4 => exact HC1.out); rintro e w17 ⟨rfl, hb⟩; refine ⟨_, rfl, ?_⟩; have n0_ := Aside0.mk (Kd.R_below (by (with_reducible repeat (first | apply Kd.R_alloc | apply Kd.R_drewN | apply Kd.R_drew)); exact HO269.out) hb); have n1_ := Aside0.mk (below_step (by repeat (first | (with_reducible first | exact HB.out | apply below_alloc | apply pw_below_drewN | apply below_drew1) | exact HB.out)) hb); clear HO269; clear HB; have HO269 := n0_; have HB := n1_; clear n0_ n1_; (try clear hb); (try clear hb2); (try clear hk); (try clear hi); obtain ⟨Ao18, co18, eo18⟩ := Kd.R_slice HO269.out; subst eo18) | (go_at_call 39; (with_reducible refine (impl_isStack.calls _ _ l0 _ _ y267 false _ ?side1 ?side2 ?side3 ?side4 A8.out).mono ?_); (case side1 => repeat (first | exact (Kd.C_below HR0.out HB.out) | (with_reducible refine Kd.C_alloc ?_ _) | (with_reducible refine Kd.C_drewN ?_ _) | (with_reducible refine Kd.C_drew ?_))); (case side2 => exact HC0.out); (case side3 => repeat (first | exact (Kd.R_reads' HO269.out).2.2 | (with_reducible refine Kd.C_alloc ?_ _) | (with_reducible refine Kd.C_drewN ?_ _) | (with_reducible refine Kd.C_drew ?_))); (case side4 => exact (Kd.R_reads' HO269.out).2.1); rintro e w19 ⟨rfl, hb⟩; have n0_ := Aside0.mk (Kd.R_below (by (with_reducible repeat (first | apply Kd.R_alloc | apply Kd.R_drewN | apply Kd.R_drew)); exact HO269.out) hb); have n1_ := Aside0.mk (below_step (by repeat (first | (with_reducible first | exact HB.out | apply below_alloc | apply pw_below_drewN | apply below_drew1) | exact HB.out)) hb); clear HO269; clear HB; have HO269 := n0_; have HB := n1_; clear n0_ n1_; (try clear hb); (try clear hb2); (try clear hk); (try clear hi)))
        go_ret2
        exact ⟨_, by first | rfl | (simp [errW_none, errW_some] <;> rfl) | (simp [*, errW_none, errW_some] <;> rfl), by first | exact Kd.R_nil _ _ _ _ _ | exact Kd.N_nil _ _ _ _ _ | exact Kd.V_nil _ _ _ _ _ | exact Kd.Q_nil _ _ _ _ _ | exact Kd.S_nil _ _ _ _ _, by repeat (first | (with_reducible first | exact HB.out | apply below_alloc | apply pw_below_drewN | apply below_drew1) | exact HB.out)⟩
    · replace c7 := Bool.eq_false_iff.mpr c7
      subst c7
      have H1 : (some (([] : List Int), false)) = some (r1, r2) := by rw [if_neg (show ¬ (false = true) by decide)] at H; exact H
      clear H
      have H := H1
      clear H1
      simp only [Option.some.injEq, Prod.mk.injEq] at H
      obtain ⟨rfl, rfl⟩ := H
      go_enter Try.func23, Try.ntmps23
      go_wp2_with (first | ((with_reducible refine gate_callee (f := 49) rfl ?_); refine goesL_ (some 10) rfl rfl Try.func49 (by kernel_rfl) rfl #[.slice A1 l1.length c1] rfl (by (try simp only [List.map_toArray, List.map_cons, List.map_nil]); first | done | rfl | (simp only [List.length_drop, List.length_take]; rfl)) ?_; (with_reducible refine (slices_Clone_int.calls _ _ l1 t264 _ ?side1 ?side2 A4.out).mono ?_); (case side1 => repeat (first | exact HR1.out | (with_reducible refine Kd.C_alloc ?_ _) | (with_reducible refine Kd.C_drewN ?_ _) | (with_reducible refine Kd.C_drew ?_))); (case side2 => exact HC1.out); rintro e w20 ⟨v265, rfl, ho0, hb⟩; refine ⟨_, rfl, ?_⟩; have n0_ := Aside0.mk (Kd.R_lower ho0 (below_size (by repeat (first | (with_reducible first | exact HB.out | apply below_alloc | apply pw_below_drewN | apply below_drew1) | exact HB.out)))); have n1_ := Aside0.mk (below_step (by repeat (first | (with_reducible first | exact HB.out | apply below_alloc | apply pw_below_drewN | apply below_drew1) | exact HB.out)) hb); clear HB; have HO266 := n0_; have HB := n1_; clear n0_ n1_; (try clear hb); (try clear hb2); (try clear hk); (try clear hi); (try clear ho0)) | ((with_reducible refine gate_builtin (b := .append) (xs := #[.tmp 10, .tmp 12]) rfl ?_); at_builtin; refine Kd.R_append (Kd.int .i64) (w0 := w) w.heap.size rfl (.tmp 10) (.tmp 12) 23 3 (.int .i64 0) 8 rfl Try.underlying23 info3 rfl (by decide) (by omega) v265 t264 a2 [.int .i64 a2] (fun _ => True) (fun _ => False) rfl rfl ?aP (fun _ hk => hk.elim) ?aF ?aO ?aB ?aS ?aL ?_; (case aP => exact rfl); (case aB => exact (by repeat (first | (with_reducible first | exact HB.out | apply below_alloc | apply pw_below_drewN | apply below_drew1) | exact HB.out))); (case aF => exact (fun _ _ => trivial)); (case aO => exact (by (with_reducible repeat (first | apply Kd.R_alloc | apply Kd.R_drewN | apply Kd.R_drew)); exact HO266.out)); (case aS => exact (below_size (by repeat (first | (with_reducible first | exact HB.out | apply below_alloc | apply pw_below_drewN | apply below_drew1) | exact HB.out)))); (case aL => have := LMc5.out; omega); intro v268 w21 ho hb hg hat; rw [← Ny267.out] at ho; have n0_ := Aside0.mk (hb); have n1_ := Aside0.mk (ho); clear HB; clear HO266; have HB := n0_; have HO269 := n1_; clear n0_ n1_; clear ho hb hg hat) | ((with_reducible refine gate_callee (f := 42) rfl ?_); refine goesL_ (some 16) rfl rfl Try.func42 (by kernel_rfl) rfl #[.slice A0 l0.length c0, .slice A1 l1.length c1] rfl (by (try simp only [List.map_toArray, List.map_cons, List.map_nil]); first | done | rfl | (simp only [List.length_drop, List.length_take]; rfl)) ?_; (with_reducible refine (impl_areStacked.calls _ _ l0 _ _ l1 false _ ?side1 ?side2 ?side3 ?side4 A6.out).mono ?_); (case side1 => repeat (first | exact (Kd.C_below HR0.out HB.out) | (with_reducible refine Kd.C_alloc ?_ _) | (with_reducible refine Kd.C_drewN ?_ _) | (with_reducible refine Kd.C_drew ?_))); (case side2 => exact HC0.out); (case side3 => repeat (first | exact (Kd.C_below HR1.out HB.out) | (with_reducible refine Kd.C_alloc ?_ _) | (with_reducible refine Kd.C_drewN ?_ _) | (with_reducible refine Kd.C_drew ?_))); (case side4 => exact HC1.out); rintro e w22 ⟨rfl, hb⟩; refine ⟨_, rfl, ?_⟩; have n0_ := Aside0.mk (Kd.R_below (by (with_reducible repeat (first | apply Kd.R_alloc | apply Kd.R_drewN | apply Kd.R_drew)); exact HO269.out) hb); have n1_ := Aside0.mk (below_step (by repeat (first | (with_reducible first | exact HB.out | apply below_alloc | apply pw_below_drewN | apply below_drew1) | exact HB.out)) hb); clear HO269; clear HB; have HO269 := n0_; have HB := n1_; clear n0_ n1_; (try clear hb); (try clear hb2); (try clear hk); (try clear hi)))
      go_ret2
      exact ⟨_, by first | rfl | (simp [errW_none, errW_some] <;> rfl) | (simp [*, errW_none, errW_some] <;> rfl), by first | exact Kd.R_nil _ _ _ _ _ | exact Kd.N_nil _ _ _ _ _ | exact Kd.V_nil _ _ _ _ _ | exact Kd.Q_nil _ _ _ _ _ | exact Kd.S_nil _ _ _ _ _, by repeat (first | (with_reducible first | exact HB.out | apply below_alloc | apply pw_below_drewN | apply below_drew1) | exact HB.out)⟩
  · rw [if_neg c5] at H
    exact absurd H (by simp)

end Go.Proofs.Ytehjicblchnknaa.Q

namespace Go.Proofs.Ytehjicblchnknaa.Q
open Go.RowKit Go.Proofs.YtehjicblchnknaaW.PrintWords Go.Proofs.YtehjicblchnknaaW.PrintLast Go.Proofs.YtehjicblchnknaaW.PrintMore
set_option linter.unusedVariables false
set_option linter.unusedSimpArgs false
set_option maxRecDepth 100000

theorem isStack_both (list : List Thing) (st : List Int) (hm : list.length ≤ 10000000) (hn : st.length ≤ 10000000) : ∃ r : Bool × Bool, Ev (fun k => spec_IsStack.f k list st) r ∧ Ev (fun _ => impl_IsStack.f list st) r := by
  obtain ⟨t, h1, h2, h3⟩ := good_cases list hm
  unfold spec_IsStack.f impl_IsStack.f
  cases t with
  | false => exact ⟨(false, false), Ev_from 100000000 fun k hk => by rw [h2 k (by omega)]; rfl, Ev_from 0 fun k _ => by rw [h1]; rfl⟩
  | true => exact ⟨(okStack list.length st, true), Ev_from 100000000 fun k hk => by rw [h2 k (by omega), scStack_eq list st hm (by omega) true h1 k (by omega)]; simp, Ev_from 0 fun k _ => by rw [h1, isStack_eq list st hm (by omega)]; simp⟩
theorem heightOf_both (list : List Thing) (st : List Int) (hm : list.length ≤ 10000000) (hn : st.length ≤ 10000000) : ∃ r : Int × Bool, Ev (fun k => spec_HeightOf.f k list st) r ∧ Ev (fun k => impl_HeightOf.f k list st) r := by
  obtain ⟨t, h1, h2, h3⟩ := stacked_cases list st hm hn
  unfold spec_HeightOf.f impl_HeightOf.f
  cases t with
  | false => exact ⟨(0, false), Ev_from 100000000 fun k hk => by rw [h2 k (by omega)]; rfl, Ev_from 0 fun k _ => by rw [h1]; rfl⟩
  | true =>
    obtain ⟨hS, hin, _, hl⟩ := h3 rfl
    exact ⟨(highV list st, true), Ev_from 100000000 fun k hk => by rw [h2 k (by omega)]; simp only [Option.bind_some, if_true]; rw [scHigh_eq list st hin (by omega) k (by omega)]; rfl, Ev_from 100000000 fun k hk => by rw [h1]; simp only [Option.bind_some, if_true]; rw [high_eq list st hin (by omega) k (by omega)]; rfl⟩
theorem isSafe_both (list : List Thing) (st : List Int) (hm : list.length ≤ 10000000) (hn : st.length ≤ 10000000) : ∃ r : Bool × Bool, Ev (fun k => spec_IsSafe.f k list st) r ∧ Ev (fun k => impl_IsSafe.f k list st) r := by
  obtain ⟨t, h1, h2, h3⟩ := stacked_cases list st hm hn
  unfold spec_IsSafe.f impl_IsSafe.f
  cases t with
  | false => exact ⟨(false, false), Ev_from 100000000 fun k hk => by rw [h2 k (by omega)]; rfl, Ev_from 0 fun k _ => by rw [h1]; rfl⟩
  | true =>
    obtain ⟨hS, hin, _, hl⟩ := h3 rfl
    exact ⟨(safeL list st, true), Ev_from 100000000 fun k hk => by rw [h2 k (by omega)]; simp only [Option.bind_some, if_true]; rw [scSafe_eq hS st hin (by omega) k (by omega)]; rfl, Ev_from 100000000 fun k hk => by rw [h1]; simp only [Option.bind_some, if_true]; rw [bearsMore_eq list st hin (by omega) k (by omega), ← safe_may hS st hin (by omega)]; rfl⟩
theorem weightsAbove_both (list : List Thing) (st : List Int) (hm : list.length ≤ 10000000) (hn : st.length ≤ 10000000) : ∃ r : List Int × Bool, Ev (fun k => spec_WeightsAbove.f k list st) r ∧ Ev (fun _ => impl_WeightsAbove.f list st) r ∧ r.1.length ≤ 10000000 := by
  obtain ⟨t, h1, h2, h3⟩ := stacked_cases list st hm hn
  unfold spec_WeightsAbove.f impl_WeightsAbove.f
  cases t with
  | false => exact ⟨([], false), Ev_from 100000000 fun k hk => by rw [h2 k (by omega)]; rfl, Ev_from 0 fun k _ => by rw [h1]; rfl, by simp⟩
  | true =>
    obtain ⟨hS, hin, _, hl⟩ := h3 rfl
    exact ⟨(aboveS list st, true), Ev_from 100000000 fun k hk => by rw [h2 k (by omega)]; simp only [Option.bind_some, if_true]; rw [scAbove_eq hS st hin (by omega) k (by omega)]; rfl, Ev_from 0 fun k _ => by rw [h1]; simp only [Option.bind_some, if_true]; rw [above_eq hS st hin (by omega)]; rfl, by simp only [aboveS_length]; omega⟩
/-! the lowest that fails -/
def whoL (list : List Thing) : List Int → List Int → Int × Bool
  | i :: st, n :: ab => if n > (rd_T46 list i).f1 then (i, true) else whoL list st ab
  | _, _ => (0, false)
theorem who_l0 (list : List Thing) (st ab : List Int) (hw : Inside list st) (hl : ab.length = st.length) (hn : st.length ≤ 1000000000) : ∀ d k i, i + d = st.length → d < k →
    spec_WhoFails.l0 k list st ab (ab.length : Int) (i : Int) = some (whoL list (st.drop i) (ab.drop i)) ∧ impl_WhoFails.l0 k list st ab (ab.length : Int) (i : Int) = some (whoL list (st.drop i) (ab.drop i)) := by
  intro d
  induction d with
  | zero =>
    intro k i hi hk
    obtain ⟨k, rfl⟩ : ∃ q, k = q + 1 := ⟨k - 1, by omega⟩
    constructor
    · simp only [spec_WhoFails.l0]; rw [if_neg (by omega), List.drop_of_length_le (by omega), List.drop_of_length_le (by omega)]; rfl
    · simp only [impl_WhoFails.l0]; rw [if_neg (by omega), List.drop_of_length_le (by omega), List.drop_of_length_le (by omega)]; rfl
  | succ d ih =>
    intro k i hi hk
    obtain ⟨k, rfl⟩ : ∃ q, k = q + 1 := ⟨k - 1, by omega⟩
    have hlt : i < st.length := by omega
    have hlt2 : i < ab.length := by omega
    have hin := hw st[i] (List.getElem_mem hlt)
    have h := ih k (i + 1) (by omega) (by omega)
    rw [show ((i + 1 : Nat) : Int) = (i : Int) + 1 by omega] at h
    constructor
    · simp only [spec_WhoFails.l0]
      rw [if_pos (by omega), if_pos (by omega), if_pos (by omega), if_pos (by omega), rd_nat st i hlt, if_pos hin.1, if_pos hin.2, rd_nat ab i hlt2, w64 (i := (i : Int) + 1) (by omega) (by omega), List.drop_eq_getElem_cons hlt, List.drop_eq_getElem_cons hlt2, whoL]
      by_cases hc : ab[i] > (rd_T46 list st[i]).f1
      · rw [if_pos hc, if_pos hc]
      · rw [if_neg hc, if_neg hc]; exact h.1
    · simp only [impl_WhoFails.l0]
      rw [if_pos (by omega), if_pos (by omega), if_pos (by omega), if_pos (by omega), rd_nat st i hlt, if_pos hin.1, if_pos hin.2, rd_nat ab i hlt2, w64 (i := (i : Int) + 1) (by omega) (by omega), List.drop_eq_getElem_cons hlt, List.drop_eq_getElem_cons hlt2, whoL]
      by_cases hc : ab[i] > (rd_T46 list st[i]).f1
      · rw [if_pos hc, if_pos hc]
      · rw [if_neg hc, if_neg hc]; exact h.2
theorem whoFails_both (list : List Thing) (st : List Int) (hm : list.length ≤ 10000000) (hn : st.length ≤ 10000000) : ∃ r : Int × Bool, Ev (fun k => spec_WhoFails.f k list st) r ∧ Ev (fun k => impl_WhoFails.f k list st) r := by
  obtain ⟨t, h1, h2, h3⟩ := stacked_cases list st hm hn
  unfold spec_WhoFails.f impl_WhoFails.f
  cases t with
  | false => exact ⟨(0, false), Ev_from 100000000 fun k hk => by rw [h2 k (by omega)]; rfl, Ev_from 0 fun k _ => by rw [h1]; rfl⟩
  | true =>
    obtain ⟨hS, hin, _, hl⟩ := h3 rfl
    have h := fun k (hk : 100000000 ≤ k) => who_l0 list st (aboveS list st) hin (aboveS_length list st) (by omega) st.length k 0 (by omega) (by omega)
    simp only [Int.natCast_zero, List.drop_zero] at h
    exact ⟨whoL list st (aboveS list st), Ev_from 100000000 fun k hk => by rw [h2 k (by omega)]; simp only [Option.bind_some, if_true]; rw [scAbove_eq hS st hin (by omega) k (by omega)]; exact (h k (by omega)).1, Ev_from 100000000 fun k hk => by rw [h1]; simp only [Option.bind_some, if_true]; rw [above_eq hS st hin (by omega)]; exact (h k (by omega)).2⟩
/-! how much more -/
theorem least_mn (a b : Int) : spec_l1Least.f a b = some (mn a b) := by
  unfold spec_l1Least.f mn
  by_cases h : a < b
  · rw [if_pos h, if_neg (by omega)]
  · rw [if_neg h]
    by_cases h2 : b < a
    · rw [if_pos h2]
    · rw [if_neg h2]; congr 1; omega
theorem more_l0 (list : List Thing) (st ab : List Int) (hw : Inside list st) (hl : ab.length = st.length) (hn : st.length ≤ 1000000000) : ∀ d k i m, i + d = st.length → d < k →
    spec_CanBearMore.l0 k list st m ab (ab.length : Int) (i : Int) = some (bearsL list (st.drop i) (ab.drop i) m, true) := by
  intro d
  induction d with
  | zero =>
    intro k i m hi hk
    obtain ⟨k, rfl⟩ : ∃ q, k = q + 1 := ⟨k - 1, by omega⟩
    simp only [spec_CanBearMore.l0]; rw [if_neg (by omega), List.drop_of_length_le (by omega), List.drop_of_length_le (by omega)]; rfl
  | succ d ih =>
    intro k i m hi hk
    obtain ⟨k, rfl⟩ : ∃ q, k = q + 1 := ⟨k - 1, by omega⟩
    have hlt : i < st.length := by omega
    have hlt2 : i < ab.length := by omega
    have hin := hw st[i] (List.getElem_mem hlt)
    simp only [spec_CanBearMore.l0]
    rw [if_pos (by omega), if_pos (by omega), if_pos (by omega), if_pos (by omega), rd_nat st i hlt, if_pos hin.1, if_pos hin.2, rd_nat ab i hlt2, w64 (i := (i : Int) + 1) (by omega) (by omega), List.drop_eq_getElem_cons hlt, List.drop_eq_getElem_cons hlt2, bearsL, least_mn]
    simp only [Option.bind_some]
    have := ih k (i + 1) (mn m (wrap64 ((rd_T46 list st[i]).f1 - ab[i]))) (by omega) (by omega)
    rw [show ((i + 1 : Nat) : Int) = (i : Int) + 1 by omega] at this
    exact this
theorem canBearMore_both (list : List Thing) (st : List Int) (hm : list.length ≤ 10000000) (hn : st.length ≤ 10000000) : ∃ r : Int × Bool, Ev (fun k => spec_CanBearMore.f k list st) r ∧ Ev (fun k => impl_CanBearMore.f k list st) r := by
  obtain ⟨t, h1, h2, h3⟩ := stacked_cases list st hm hn
  unfold spec_CanBearMore.f impl_CanBearMore.f
  cases t with
  | false => exact ⟨(0, false), Ev_from 100000000 fun k hk => by
      obtain ⟨k, rfl⟩ : ∃ q, k = q + 1 := ⟨k - 1, by omega⟩
      rw [h2 (k + 1) (by omega)]; simp only [Option.bind_some, spec_CanBearMore.j0]; rfl, Ev_from 0 fun k _ => by rw [h1]; rfl⟩
  | true =>
    obtain ⟨hS, hin, _, hl⟩ := h3 rfl
    have hs := safe_may hS st hin (by omega)
    have hA := aboveAll_S hS st hin (by omega)
    cases hsv : safeL list st with
    | false =>
      have hneg : bearsV list st < 0 := by rw [hsv] at hs; have := of_decide_eq_false hs; omega
      exact ⟨(0, false), Ev_from 100000000 fun k hk => by
        obtain ⟨k, rfl⟩ : ∃ q, k = q + 1 := ⟨k - 1, by omega⟩
        rw [h2 (k + 1) (by omega)]; simp only [Option.bind_some, if_true]; rw [scSafe_eq hS st hin (by omega) (k + 1) (by omega), hsv]; simp only [Option.bind_some, spec_CanBearMore.j0]; rfl,
        Ev_from 100000000 fun k hk => by rw [h1]; simp only [Option.bind_some, if_true]; rw [bearsMore_eq list st hin (by omega) k (by omega)]; simp only [Option.bind_some]; rw [if_pos hneg]⟩
    | true =>
      have hpos : ¬ bearsV list st < 0 := by rw [hsv] at hs; have := of_decide_eq_true hs; omega
      exact ⟨(bearsV list st, true), Ev_from 100000000 fun k hk => by
        obtain ⟨k, rfl⟩ : ∃ q, k = q + 1 := ⟨k - 1, by omega⟩
        rw [h2 (k + 1) (by omega)]; simp only [Option.bind_some, if_true]; rw [scSafe_eq hS st hin (by omega) (k + 1) (by omega), hsv]; simp only [Option.bind_some, spec_CanBearMore.j0, Bool.not_true, Bool.false_eq_true, if_false]
        rw [scAbove_eq hS st hin (by omega) k (by omega)]
        simp only [Option.bind_some]
        have := more_l0 list st (aboveS list st) hin (aboveS_length list st) (by omega) st.length k 0 1000 (by omega) (by omega)
        simp only [Int.natCast_zero, List.drop_zero] at this
        rw [this]; unfold bearsV; rw [hA],
        Ev_from 100000000 fun k hk => by rw [h1]; simp only [Option.bind_some, if_true]; rw [bearsMore_eq list st hin (by omega) k (by omega)]; simp only [Option.bind_some]; rw [if_neg hpos]⟩
/-! on and off -/
theorem takeTop_both (list : List Thing) (st : List Int) (hm : list.length ≤ 10000000) (hn : st.length ≤ 10000000) : ∃ r : List Int × Int × Bool, Ev (fun k => spec_TakeTop.f k list st) r ∧ Ev (fun _ => impl_TakeTop.f list st) r ∧ r.1.length ≤ 10000000 := by
  obtain ⟨t, h1, h2, h3⟩ := stacked_cases list st hm hn
  unfold spec_TakeTop.f impl_TakeTop.f
  cases t with
  | false => exact ⟨([], 0, false), Ev_from 100000000 fun k hk => by rw [h2 k (by omega)]; rfl, Ev_from 0 fun k _ => by rw [h1]; rfl, by simp⟩
  | true =>
    obtain ⟨hS, hin, _, hl⟩ := h3 rfl
    by_cases h0 : st.length = 0
    · exact ⟨([], 0, false), Ev_from 100000000 fun k hk => by rw [h2 k (by omega)]; simp only [Option.bind_some, if_true]; rw [if_pos (by omega)], Ev_from 0 fun k _ => by rw [h1, w64 (by omega) (by omega)]; simp only [Option.bind_some, if_true]; rw [if_pos (by omega)], by simp⟩
    · have hw : wrap64 ((st.length : Int) - 1) = (st.length : Int) - 1 := w64 (by omega) (by omega)
      have htl : (st.take ((st.length : Int) - 1).toNat).length ≤ 7 := by rw [List.length_take]; omega
      refine ⟨(st.take ((st.length : Int) - 1).toNat, rd st ((st.length : Int) - 1), true), Ev_from 100000000 fun k hk => ?_, Ev_from 0 fun k _ => ?_, by simp only; omega⟩
      · rw [h2 k (by omega), hw]; simp only [Option.bind_some, if_true]; rw [if_neg (by omega), if_pos (by omega), if_pos (by omega), l1Own_eq _ (by omega)]; simp only [Option.bind_some]; rw [if_pos (by omega)]
      · rw [h1, hw]; simp only [Option.bind_some, if_true]; rw [if_neg (by omega), if_pos (by omega), if_pos (by omega)]; unfold slices_Clone_int.f; rw [if_pos (by omega)]; simp only [Option.bind_some]; rw [if_pos (by omega)]
theorem okStack_snoc (n : Nat) (st : List Int) (a : Int) (h : okStack n st = true) : okStack n (st ++ [a]) = ((decide (0 ≤ a) && decide (a ≤ (n : Int) - 1)) && !st.contains a) := by
  unfold okStack at h ⊢
  simp only [Bool.and_eq_true, decide_eq_true_eq] at h
  rw [List.all_append, h.1, Bool.eq_iff_iff]
  simp only [Bool.true_and, List.all_cons, List.all_nil, Bool.and_true, Bool.and_eq_true, decide_eq_true_eq, Bool.not_eq_true', List.contains_eq_mem, decide_eq_false_iff_not, List.nodup_append, List.mem_singleton, forall_eq]
  constructor
  · rintro ⟨h1, _, _, h3⟩
    exact ⟨h1, fun hx => h3 a hx rfl⟩
  · rintro ⟨h1, h2⟩
    exact ⟨h1, h.2, by simp, fun x hx e => h2 (e ▸ hx)⟩
theorem putOn_both (list : List Thing) (st : List Int) (a : Int) (hm : list.length ≤ 10000000) (hn : st.length ≤ 1048576) : ∃ r : List Int × Bool, Ev (fun k => spec_PutOn.f k list st a) r ∧ Ev (fun _ => impl_PutOn.f list st a) r ∧ r.1.length ≤ 10000000 := by
  obtain ⟨t, h1, h2, h3⟩ := stacked_cases list st hm (by omega)
  have hiA := isStack_eq list (st ++ [a]) hm (by simp; omega)
  have hw : wrap64 ((list.length : Int) - 1) = (list.length : Int) - 1 := w64 (by omega) (by omega)
  unfold spec_PutOn.f impl_PutOn.f slices_Clone_int.f
  rw [if_pos (by omega)]
  cases t with
  | false => exact ⟨([], false), Ev_from 100000000 fun k hk => by rw [h2 k (by omega)]; rfl, Ev_from 0 fun k _ => by rw [h1]; simp only [Option.bind_some]; rw [if_pos (by omega)]; rfl, by simp⟩
  | true =>
    obtain ⟨hS, hin, hd, hl⟩ := h3 rfl
    have hok : okStack list.length st = true := by
      unfold okStack
      simp only [Bool.and_eq_true, List.all_eq_true, decide_eq_true_eq]
      exact ⟨fun x hx => by have := hin x hx; omega, hd⟩
    rw [okStack_snoc _ _ a hok] at hiA
    have hI : (fun k => spec_PutOn.f k list st a) = fun k => spec_PutOn.f k list st a := rfl
    have hown : spec_l1Own.f st = some st := l1Own_eq _ (by omega)
    cases hc : (decide (0 ≤ a) && decide (a ≤ (list.length : Int) - 1)) with
    | false =>
      rw [hc] at hiA
      refine ⟨([], false), Ev_from 100000000 fun k hk => ?_, Ev_from 0 fun k _ => ?_, by simp⟩
      · rw [h2 k (by omega), hw, inThing, hc]; rfl
      · rw [h1]; simp only [Option.bind_some, if_true]; rw [if_pos (by omega), hiA]; rfl
    | true =>
      rw [hc] at hiA
      cases hcn : st.contains a with
      | true =>
        rw [hcn] at hiA
        refine ⟨([], false), Ev_from 100000000 fun k hk => ?_, Ev_from 0 fun k _ => ?_, by simp⟩
        · rw [h2 k (by omega), hw, inThing, hc]; simp only [Option.bind_some, if_true]; rw [l1Has_eq st a (by omega) k (by omega), hcn]; rfl
        · rw [h1]; simp only [Option.bind_some, if_true]; rw [if_pos (by omega), hiA]; rfl
      | false =>
        rw [hcn] at hiA
        refine ⟨(st ++ [a], true), Ev_from 100000000 fun k hk => ?_, Ev_from 0 fun k _ => ?_, by simp; omega⟩
        · rw [h2 k (by omega), hw, inThing, hc]; simp only [Option.bind_some, if_true]; rw [l1Has_eq st a (by omega) k (by omega), hcn, hown]; simp only [Option.bind_some, Bool.false_eq_true, if_false]; rw [if_pos (by omega)]
        · rw [h1]; simp only [Option.bind_some, if_true]; rw [if_pos (by omega), hiA]; rfl
end Go.Proofs.Ytehjicblchnknaa.Q

namespace Go.Proofs.Ytehjicblchnknaa.Q
open Go.RowKit Go.Proofs.YtehjicblchnknaaW.PrintWords Go.Proofs.YtehjicblchnknaaW.PrintLast Go.Proofs.YtehjicblchnknaaW.PrintMore
attribute [local go_sem] max2_int min2_int max_two min_two max_three min_three max_four min_four   -- for this text's walks alone
set_option linter.unusedVariables false
set_option linter.unusedSimpArgs false

/-! ### laws_markThingS: function 24 -/
def laws_markThingS.l0 : Nat → List (S46) → Int → Int → Option (Int × (List (S46)))
  | 0, _, _, _ => none
  | k + 1, x0, x1, x5 => if x5 < (x0.length : Int) then (if 0 ≤ x5 then ((some (x0.set (x5 : Int).toNat (⟨x1, (rd_T46 x0 x5).f1, (rd_T46 x0 x5).f2⟩ : S46) : List (S46))).bind fun y272 => ((some (y272.set (x5 : Int).toNat (⟨(rd_T46 y272 x5).f0, wrap64 (x1 + 1), (rd_T46 y272 x5).f2⟩ : S46) : List (S46))).bind fun y273 => (laws_markThingS.l0 k (y273.set (x5 : Int).toNat (⟨(rd_T46 y273 x5).f0, (rd_T46 y273 x5).f1, wrap64 ((wrap64 (x1 + 1)) + 1)⟩ : S46)) (wrap64 ((wrap64 ((wrap64 (x1 + 1)) + 1)) + 1)) (wrap64 (x5 + 1))))) else (none)) else (some (x1, x0))
def laws_markThingS.f (k : Nat) (l0 : List (S46)) (a1 : Int) : Option (Int × (List (S46))) := laws_markThingS.l0 k l0 a1 0
theorem laws_markThingS.mono_l : ∀ k, (∀ y0 y1 y2, LeO (laws_markThingS.l0 k y0 y1 y2) (laws_markThingS.l0 (k + 1) y0 y1 y2))
  | 0 => fun _ _ _ r h => by simp [laws_markThingS.l0] at h
  | k + 1 => by
    have ih0 := laws_markThingS.mono_l k
    · intro y0 y1 y2
      unfold laws_markThingS.l0
      repeat' first
      | (with_reducible exact ih0 _ _ _)
      | (with_reducible exact LeO.refl _)
      | (with_reducible exact LeO.none _)
      | (with_reducible refine LeO.ite ?_ ?_)
      | (with_reducible refine LeO.bind ?_ (fun _ => ?_))
      | exact ih0 _ _ _
      | exact LeO.none _
      | refine LeO.ite ?_ ?_
      | refine LeO.bind ?_ (fun _ => ?_)
theorem laws_markThingS.mono : ∀ a0 a1 k, LeO (laws_markThingS.f k a0 a1) (laws_markThingS.f (k + 1) a0 a1) := by
  intro a0 a1 k
  have ih0 := laws_markThingS.mono_l k
  unfold laws_markThingS.f
  repeat' first
      | (with_reducible exact ih0 _ _ _)
      | (with_reducible exact LeO.refl _)
      | (with_reducible exact LeO.none _)
      | (with_reducible refine LeO.ite ?_ ?_)
      | (with_reducible refine LeO.bind ?_ (fun _ => ?_))
      | exact ih0 _ _ _
      | exact LeO.none _
      | refine LeO.ite ?_ ?_
      | refine LeO.bind ?_ (fun _ => ?_)
set_option maxHeartbeats 8000000 in
set_option maxRecDepth 100000 in
theorem laws_markThingS.calls (k : Nat) (P0_ : Nat → Prop) (u9000_ : Value) (l0 : List (S46)) (a1 : Int) (r1 : Int) (r2 : List (S46)) (w0 w : World) (hB : Below w0.heap.size w0 w) (ho0 : Kd.R k46 46 w w0.heap.size P0_ u9000_ l0) (h : laws_markThingS.f k l0 a1 = some (r1, r2)) :
    Calls Try.prog 24 #[u9000_, .int .i64 a1] w fun e w' => e = .returned (.int .i64 r1) ∧ Kd.R k46 46 w' w0.heap.size (fun k_ => (P0_ k_ ∨ w.heap.size ≤ k_)) u9000_ r2 ∧ Below w0.heap.size w0 w' ∧ Kept w w' (fun k_ => P0_ k_) := by
  have HO0 := Aside0.mk (show Kd.R k46 46 w w0.heap.size (fun k_ => (P0_ k_ ∨ w.heap.size ≤ k_)) u9000_ l0 from Kd.R_mono ho0 (fun k_ hk => (.inl hk)))
  have HK := Aside0.mk (Kept.refl w (fun k_ => P0_ k_))
  have HW0 := Aside0.mk hB.size
  have HB := Aside0.mk hB
  clear hB
  have H : (laws_markThingS.l0 k l0 a1 0) = some (r1, r2) := h
  clear h
  have H' := Aside0.mk H
  clear H
  go_enter Try.func24, Try.ntmps24
  go_wp2
  go_loopg [1, 5] k (fun kq v1 v5 w' => ∃ (x0_1 : List (S46)) (x1_1 : Int) (x5_1 : Int), v1 = .int .i64 x1_1 ∧ v5 = .int .i64 x5_1 ∧ Aside0 (laws_markThingS.l0 kq x0_1 x1_1 x5_1 = some (r1, r2)) ∧ Aside0 (kq ≤ k) ∧ Aside0 (Kd.R k46 46 w' w0.heap.size (fun k_ => (P0_ k_ ∨ w.heap.size ≤ k_)) u9000_ x0_1) ∧ Aside0 (Kept w w' (fun k_ => P0_ k_)) ∧ Aside0 (Below w0.heap.size w0 w'))
  case atStart => exact ⟨(l0), (a1), (0), (by first | rfl | (simp; done) | (simp [*]; done)), (by first | rfl | (simp; done) | (simp [*]; done)), H', ⟨Nat.le_refl _⟩, ⟨by (with_reducible repeat (first | apply Kd.R_alloc | apply Kd.R_drewN | apply Kd.R_drew)); exact HO0.out⟩, ⟨by repeat (first | (with_reducible first | exact HK.out | apply Kept.alloc | apply Kept.drewN | apply Kept.drew) | exact HK.out)⟩, ⟨by repeat (first | (with_reducible first | exact HB.out | apply below_alloc | apply pw_below_drewN | apply below_drew1) | exact HB.out)⟩⟩
  case round =>
    clear H'
    try clear c2
    try clear p2
    obtain ⟨x0_1, x1_1, x5_1, rfl, rfl, HA, HK1, HO_0, HK, HB⟩ := hrel
    cases gk with
    | zero => exact absurd HA.out (by simp [laws_markThingS.l0])
    | succ k1 =>
      have H := HA.out
      clear HA
      simp only [laws_markThingS.l0] at H
      by_cases c3 : x5_1 < (x0_1.length : Int)
      · rw [if_pos c3] at H
        have c3b0 : decide (x5_1 < (x0_1.length : Int)) = true := decide_eq_true c3
        clear c3
        by_cases c4 : 0 ≤ x5_1
        · rw [if_pos c4] at H
          have c4b0 : decide (0 ≤ x5_1) = true := decide_eq_true c4
          clear c4
          obtain ⟨y272, hy272⟩ : ∃ y_ : List (S46), y_ = (x0_1.set (x5_1 : Int).toNat (⟨x1_1, (rd_T46 x0_1 x5_1).f1, (rd_T46 x0_1 x5_1).f2⟩ : S46)) := ⟨_, rfl⟩
          replace H : ((some (y272.set (x5_1 : Int).toNat (⟨(rd_T46 y272 x5_1).f0, wrap64 (x1_1 + 1), (rd_T46 y272 x5_1).f2⟩ : S46) : List (S46))).bind fun y273 => (laws_markThingS.l0 k1 (y273.set (x5_1 : Int).toNat (⟨(rd_T46 y273 x5_1).f0, (rd_T46 y273 x5_1).f1, wrap64 ((wrap64 (x1_1 + 1)) + 1)⟩ : S46)) (wrap64 ((wrap64 ((wrap64 (x1_1 + 1)) + 1)) + 1)) (wrap64 (x5_1 + 1)))) = some (r1, r2) := by first | (rw [hy272]; with_reducible exact H) | (have H2_ := (Option.bind_some _ _).symm.trans H; rw [hy272]; with_reducible exact H2_) | (have H2_ := (Option.bind_some _ _).symm.trans H; with_reducible exact H2_) | with_reducible exact H | (rw [hy272]; exact H) | exact H
          have Ny272 := Aside0.mk hy272
          clear hy272
          obtain ⟨y273, hy273⟩ : ∃ y_ : List (S46), y_ = (y272.set (x5_1 : Int).toNat (⟨(rd_T46 y272 x5_1).f0, wrap64 (x1_1 + 1), (rd_T46 y272 x5_1).f2⟩ : S46)) := ⟨_, rfl⟩
          replace H : (laws_markThingS.l0 k1 (y273.set (x5_1 : Int).toNat (⟨(rd_T46 y273 x5_1).f0, (rd_T46 y273 x5_1).f1, wrap64 ((wrap64 (x1_1 + 1)) + 1)⟩ : S46)) (wrap64 ((wrap64 ((wrap64 (x1_1 + 1)) + 1)) + 1)) (wrap64 (x5_1 + 1))) = some (r1, r2) := by first | (rw [hy273]; with_reducible exact H) | (have H2_ := (Option.bind_some _ _).symm.trans H; rw [hy273]; with_reducible exact H2_) | (have H2_ := (Option.bind_some _ _).symm.trans H; with_reducible exact H2_) | with_reducible exact H | (rw [hy273]; exact H) | exact H
          have Ny273 := Aside0.mk hy273
          clear hy273
          obtain ⟨y274, hy274⟩ : ∃ y_ : List (S46), y_ = (y273.set (x5_1 : Int).toNat (⟨(rd_T46 y273 x5_1).f0, (rd_T46 y273 x5_1).f1, wrap64 ((wrap64 (x1_1 + 1)) + 1)⟩ : S46)) := ⟨_, rfl⟩
          replace H : (laws_markThingS.l0 k1 y274 (wrap64 ((wrap64 ((wrap64 (x1_1 + 1)) + 1)) + 1)) (wrap64 (x5_1 + 1))) = some (r1, r2) := by first | (rw [hy274]; with_reducible exact H) | (have H2_ := (Option.bind_some _ _).symm.trans H; rw [hy274]; with_reducible exact H2_) | (have H2_ := (Option.bind_some _ _).symm.trans H; with_reducible exact H2_) | with_reducible exact H | (rw [hy274]; exact H) | exact H
          have Ny274 := Aside0.mk hy274
          clear hy274
          have H' := Aside0.mk H
          clear H
          obtain ⟨Ao8, co8, eo8⟩ := Kd.R_slice HO_0.out
          subst eo8
          have p5 : 0 ≤ (x5_1 : Int) := of_decide_eq_true (by first | (with_reducible assumption) | assumption)
          have q5 : (x5_1 : Int) < ((x0_1.length : Int) : Int) := of_decide_eq_true (by first | (with_reducible assumption) | assumption)
          obtain ⟨go5, co5, eo5, gb5, gl5, cl5, HG5⟩ := Kd.R_form HO_0.out (by omega)
          (first | cases eo5 | (injection eo5 with ea_ en_ ec_; (first | subst ea_ | (injection ea_ with ea_; subst ea_)); subst ec_; clear en_))
          have GB5 := Aside0.mk gb5
          have GG5 := Aside0.mk HG5
          clear gb5 gl5 HG5
          have HMgo5 := Aside0.mk (show (P0_ go5 ∨ w.heap.size ≤ go5) from (HO_0.out.1 _ rfl))
          obtain ⟨ce5, hcl5, hM5, hcc5, hfr5⟩ := Kd.R_elem HO_0.out z46 (x5_1 : Int) p5 q5
          obtain rfl := k46_openM hM5
          have hx5_0 : wr.cell? ⟨go5, (x5_1 : Int).toNat * 3, none⟩ = some (.int .i64 ((rd_T46 x0_1 x5_1).f0)) := hcc5 0 _ rfl
          have hx5_1 : wr.cell? ⟨go5, (x5_1 : Int).toNat * 3 + 1, none⟩ = some (.int .i64 ((rd_T46 x0_1 x5_1).f1)) := hcc5 1 _ rfl
          have hx5_2 : wr.cell? ⟨go5, (x5_1 : Int).toNat * 3 + 2, none⟩ = some (.int .i64 ((rd_T46 x0_1 x5_1).f2)) := hcc5 2 _ rfl
          have hf5_0 : wr.frozen? ⟨go5, (x5_1 : Int).toNat * 3, none⟩ = false := hfr5 0
          have hf5_1 : wr.frozen? ⟨go5, (x5_1 : Int).toNat * 3 + 1, none⟩ = false := hfr5 1
          have hf5_2 : wr.frozen? ⟨go5, (x5_1 : Int).toNat * 3 + 2, none⟩ = false := hfr5 2
          clear hcl5 hcc5 hfr5 hM5
          replace p5 := eq_true p5
          replace q5 := eq_true q5
          have HX9 := Aside0.mk (show Kd.R k46 46 wr w0.heap.size (fun k_ => (P0_ k_ ∨ w.heap.size ≤ k_)) (.slice (some ⟨go5, 0, none⟩) x0_1.length co8) x0_1 from (by (with_reducible repeat (first | apply Kd.R_alloc | apply Kd.R_drewN | apply Kd.R_drew)); exact HO_0.out))
          obtain ⟨ce9, hcl9, hM9, hcc9, hfr9⟩ := Kd.R_elem HX9.out z46 (x5_1 : Int) (of_decide_eq_true (by first | (with_reducible assumption) | assumption)) (by have h_ : (x5_1 : Int) < ((x0_1.length : Int) : Int) := of_decide_eq_true (by first | (with_reducible assumption) | assumption); first | exact h_ | (have e_ := (Kd.R_reads' HO_0.out).1; omega) | simpa using h_)
          obtain rfl := k46_openM hM9
          have HP9 := Kd.R_seg HX9.out (x5_1 : Int) (of_decide_eq_true (by first | (with_reducible assumption) | assumption)) (by have h_ : (x5_1 : Int) < ((x0_1.length : Int) : Int) := of_decide_eq_true (by first | (with_reducible assumption) | assumption); first | exact h_ | (have e_ := (Kd.R_reads' HO_0.out).1; omega) | simpa using h_) (seg := [.int .i64 x1_1]) (j := 0) hcl9 hcc9 (show 1 ≤ 3 from by decide) (x' := (⟨x1_1, (rd_T46 x0_1 x5_1).f1, (rd_T46 x0_1 x5_1).f2⟩ : S46)) (k46_mkM _ _ _ (⟨x1_1, (rd_T46 x0_1 x5_1).f1, (rd_T46 x0_1 x5_1).f2⟩ : S46) ) (fun _ hk => hk)
          have hx9_0 := hcc9 0 _ rfl
          (try simp only [show (k46).sz = 3 from rfl, Nat.mul_one, Nat.add_zero] at hx9_0)
          have hf9_0 := hfr9 0
          (try simp only [show (k46).sz = 3 from rfl, Nat.mul_one, Nat.add_zero] at hf9_0)
          clear hcl9 hcc9 hfr9 hM9
          go_wp2_with (first | ((with_reducible refine gate_store (t := 3) (p := 16) rfl ?_); refine store_event (t := 3) (p := 16) (v := ?vo_w10) (w1 := (wr.setCell ⟨go5, (x5_1 : Int).toNat * 3, none⟩ (.int .i64 x1_1))) ?hg ?ho ?hn ?hr ?_; (case ho => rfl); (case hg => rfl); (case hn => rfl); (case hr => first | (go_simp; done) | (go_simp; rfl)); intro w10 hw; have hg : wr.grownBy w10 (some go5) := (by rw [hw]; exact HP9.2); have hp_ : Kd.R k46 46 w10 w0.heap.size (fun k_ => (P0_ k_ ∨ w.heap.size ≤ k_)) (.slice (some ⟨go5, 0, none⟩) x0_1.length co8) y272 := (by rw [hw, Ny272.out]; exact HP9.1); clear HP9; have n0_ := Aside0.mk (hp_); have n1_ := Aside0.mk ((by rw [hw]; exact below_set (HB.out) GB5.out : Below w0.heap.size w0 w10)); have n2_ := Aside0.mk (Kept.of_grown (S := (fun k_ => P0_ k_)) hg (by repeat (first | (with_reducible first | exact HK.out | apply Kept.alloc | apply Kept.drewN | apply Kept.drew) | exact HK.out)) (fun k_ e_ => (HO_0.out.1 k_ e_))); clear HO_0; clear HB; clear HK; have HO_0 := n0_; have HB := n1_; have HK := n2_; clear n0_ n1_ n2_; clear hg hw hp_; have p6 : 0 ≤ (x5_1 : Int) := of_decide_eq_true (by first | (with_reducible assumption) | assumption); have q6 : (x5_1 : Int) < ((x0_1.length : Int) : Int) := of_decide_eq_true (by first | (with_reducible assumption) | assumption); obtain ⟨ce6, hcl6, hM6, hcc6, hfr6⟩ := Kd.R_elem HO_0.out z46 (x5_1 : Int) p6 q6; obtain rfl := k46_openM hM6; have hx6_0 : w10.cell? ⟨go5, (x5_1 : Int).toNat * 3, none⟩ = some (.int .i64 ((rd_T46 y272 x5_1).f0)) := hcc6 0 _ rfl; have hx6_1 : w10.cell? ⟨go5, (x5_1 : Int).toNat * 3 + 1, none⟩ = some (.int .i64 ((rd_T46 y272 x5_1).f1)) := hcc6 1 _ rfl; have hx6_2 : w10.cell? ⟨go5, (x5_1 : Int).toNat * 3 + 2, none⟩ = some (.int .i64 ((rd_T46 y272 x5_1).f2)) := hcc6 2 _ rfl; have hf6_0 : w10.frozen? ⟨go5, (x5_1 : Int).toNat * 3, none⟩ = false := hfr6 0; have hf6_1 : w10.frozen? ⟨go5, (x5_1 : Int).toNat * 3 + 1, none⟩ = false := hfr6 1; have hf6_2 : w10.frozen? ⟨go5, (x5_1 : Int).toNat * 3 + 2, none⟩ = false := hfr6 2; clear hcl6 hcc6 hfr6 hM6; replace p6 := eq_true p6; replace q6 := eq_true q6; have HX11 := Aside0.mk (show Kd.R k46 46 w10 w0.heap.size (fun k_ => (P0_ k_ ∨ w.heap.size ≤ k_)) (.slice (some ⟨go5, 0, none⟩) x0_1.length co8) y272 from (by (with_reducible repeat (first | apply Kd.R_alloc | apply Kd.R_drewN | apply Kd.R_drew)); exact HO_0.out)); obtain ⟨ce11, hcl11, hM11, hcc11, hfr11⟩ := Kd.R_elem HX11.out z46 (x5_1 : Int) (of_decide_eq_true (by first | (with_reducible assumption) | assumption)) (by have h_ : (x5_1 : Int) < ((x0_1.length : Int) : Int) := of_decide_eq_true (by first | (with_reducible assumption) | assumption); first | exact h_ | (have e_ := (Kd.R_reads' HO_0.out).1; omega) | simpa using h_); obtain rfl := k46_openM hM11; have HP11 := Kd.R_seg HX11.out (x5_1 : Int) (of_decide_eq_true (by first | (with_reducible assumption) | assumption)) (by have h_ : (x5_1 : Int) < ((x0_1.length : Int) : Int) := of_decide_eq_true (by first | (with_reducible assumption) | assumption); first | exact h_ | (have e_ := (Kd.R_reads' HO_0.out).1; omega) | simpa using h_) (seg := [.int .i64 (wrap64 (x1_1 + 1))]) (j := 1) hcl11 hcc11 (show 2 ≤ 3 from by decide) (x' := (⟨(rd_T46 y272 x5_1).f0, wrap64 (x1_1 + 1), (rd_T46 y272 x5_1).f2⟩ : S46)) (k46_mkM _ _ _ (⟨(rd_T46 y272 x5_1).f0, wrap64 (x1_1 + 1), (rd_T46 y272 x5_1).f2⟩ : S46) ) (fun _ hk => hk); have hx11_1 := hcc11 1 _ rfl; (try simp only [show (k46).sz = 3 from rfl, Nat.mul_one, Nat.add_zero] at hx11_1); have hf11_1 := hfr11 1; (try simp only [show (k46).sz = 3 from rfl, Nat.mul_one, Nat.add_zero] at hf11_1); clear hcl11 hcc11 hfr11 hM11) | ((with_reducible refine gate_store (t := 3) (p := 23) rfl ?_); refine store_event (t := 3) (p := 23) (v := ?vo_w12) (w1 := (w10.setCell ⟨go5, (x5_1 : Int).toNat * 3 + 1, none⟩ (.int .i64 (wrap64 (x1_1 + 1))))) ?hg ?ho ?hn ?hr ?_; (case ho => rfl); (case hg => rfl); (case hn => rfl); (case hr => first | (go_simp; done) | (go_simp; rfl)); intro w12 hw; have hg : w10.grownBy w12 (some go5) := (by rw [hw]; exact HP11.2); have hp_ : Kd.R k46 46 w12 w0.heap.size (fun k_ => (P0_ k_ ∨ w.heap.size ≤ k_)) (.slice (some ⟨go5, 0, none⟩) x0_1.length co8) y273 := (by rw [hw, Ny273.out]; exact HP11.1); clear HP11; have n0_ := Aside0.mk (hp_); have n1_ := Aside0.mk ((by rw [hw]; exact below_set (HB.out) GB5.out : Below w0.heap.size w0 w12)); have n2_ := Aside0.mk (Kept.of_grown (S := (fun k_ => P0_ k_)) hg (by repeat (first | (with_reducible first | exact HK.out | apply Kept.alloc | apply Kept.drewN | apply Kept.drew) | exact HK.out)) (fun k_ e_ => (HO_0.out.1 k_ e_))); clear HO_0; clear HB; clear HK; have HO_0 := n0_; have HB := n1_; have HK := n2_; clear n0_ n1_ n2_; clear hg hw hp_; have p7 : 0 ≤ (x5_1 : Int) := of_decide_eq_true (by first | (with_reducible assumption) | assumption); have q7 : (x5_1 : Int) < ((x0_1.length : Int) : Int) := of_decide_eq_true (by first | (with_reducible assumption) | assumption); obtain ⟨ce7, hcl7, hM7, hcc7, hfr7⟩ := Kd.R_elem HO_0.out z46 (x5_1 : Int) p7 q7; obtain rfl := k46_openM hM7; have hx7_0 : w12.cell? ⟨go5, (x5_1 : Int).toNat * 3, none⟩ = some (.int .i64 ((rd_T46 y273 x5_1).f0)) := hcc7 0 _ rfl; have hx7_1 : w12.cell? ⟨go5, (x5_1 : Int).toNat * 3 + 1, none⟩ = some (.int .i64 ((rd_T46 y273 x5_1).f1)) := hcc7 1 _ rfl; have hx7_2 : w12.cell? ⟨go5, (x5_1 : Int).toNat * 3 + 2, none⟩ = some (.int .i64 ((rd_T46 y273 x5_1).f2)) := hcc7 2 _ rfl; have hf7_0 : w12.frozen? ⟨go5, (x5_1 : Int).toNat * 3, none⟩ = false := hfr7 0; have hf7_1 : w12.frozen? ⟨go5, (x5_1 : Int).toNat * 3 + 1, none⟩ = false := hfr7 1; have hf7_2 : w12.frozen? ⟨go5, (x5_1 : Int).toNat * 3 + 2, none⟩ = false := hfr7 2; clear hcl7 hcc7 hfr7 hM7; replace p7 := eq_true p7; replace q7 := eq_true q7; have HX13 := Aside0.mk (show Kd.R k46 46 w12 w0.heap.size (fun k_ => (P0_ k_ ∨ w.heap.size ≤ k_)) (.slice (some ⟨go5, 0, none⟩) x0_1.length co8) y273 from (by (with_reducible repeat (first | apply Kd.R_alloc | apply Kd.R_drewN | apply Kd.R_drew)); exact HO_0.out)); obtain ⟨ce13, hcl13, hM13, hcc13, hfr13⟩ := Kd.R_elem HX13.out z46 (x5_1 : Int) (of_decide_eq_true (by first | (with_reducible assumption) | assumption)) (by have h_ : (x5_1 : Int) < ((x0_1.length : Int) : Int) := of_decide_eq_true (by first | (with_reducible assumption) | assumption); first | exact h_ | (have e_ := (Kd.R_reads' HO_0.out).1; omega) | simpa using h_); obtain rfl := k46_openM hM13; have HP13 := Kd.R_seg HX13.out (x5_1 : Int) (of_decide_eq_true (by first | (with_reducible assumption) | assumption)) (by have h_ : (x5_1 : Int) < ((x0_1.length : Int) : Int) := of_decide_eq_true (by first | (with_reducible assumption) | assumption); first | exact h_ | (have e_ := (Kd.R_reads' HO_0.out).1; omega) | simpa using h_) (seg := [.int .i64 (wrap64 ((wrap64 (x1_1 + 1)) + 1))]) (j := 2) hcl13 hcc13 (show 3 ≤ 3 from by decide) (x' := (⟨(rd_T46 y273 x5_1).f0, (rd_T46 y273 x5_1).f1, wrap64 ((wrap64 (x1_1 + 1)) + 1)⟩ : S46)) (k46_mkM _ _ _ (⟨(rd_T46 y273 x5_1).f0, (rd_T46 y273 x5_1).f1, wrap64 ((wrap64 (x1_1 + 1)) + 1)⟩ : S46) ) (fun _ hk => hk); have hx13_2 := hcc13 2 _ rfl; (try simp only [show (k46).sz = 3 from rfl, Nat.mul_one, Nat.add_zero] at hx13_2); have hf13_2 := hfr13 2; (try simp only [show (k46).sz = 3 from rfl, Nat.mul_one, Nat.add_zero] at hf13_2); clear hcl13 hcc13 hfr13 hM13) | ((with_reducible refine gate_store (t := 3) (p := 30) rfl ?_); refine store_event (t := 3) (p := 30) (v := ?vo_w14) (w1 := (w12.setCell ⟨go5, (x5_1 : Int).toNat * 3 + 2, none⟩ (.int .i64 (wrap64 ((wrap64 (x1_1 + 1)) + 1))))) ?hg ?ho ?hn ?hr ?_; (case ho => rfl); (case hg => rfl); (case hn => rfl); (case hr => first | (go_simp; done) | (go_simp; rfl)); intro w14 hw; have hg : w12.grownBy w14 (some go5) := (by rw [hw]; exact HP13.2); have hp_ : Kd.R k46 46 w14 w0.heap.size (fun k_ => (P0_ k_ ∨ w.heap.size ≤ k_)) (.slice (some ⟨go5, 0, none⟩) x0_1.length co8) y274 := (by rw [hw, Ny274.out]; exact HP13.1); clear HP13; have n0_ := Aside0.mk (hp_); have n1_ := Aside0.mk ((by rw [hw]; exact below_set (HB.out) GB5.out : Below w0.heap.size w0 w14)); have n2_ := Aside0.mk (Kept.of_grown (S := (fun k_ => P0_ k_)) hg (by repeat (first | (with_reducible first | exact HK.out | apply Kept.alloc | apply Kept.drewN | apply Kept.drew) | exact HK.out)) (fun k_ e_ => (HO_0.out.1 k_ e_))); clear HO_0; clear HB; clear HK; have HO_0 := n0_; have HB := n1_; have HK := n2_; clear n0_ n1_ n2_; clear hg hw hp_))
          go_roundg k1
          case measure => have := HK1.out; omega
          case rel => exact ⟨(y274), (wrap64 ((wrap64 ((wrap64 (x1_1 + 1)) + 1)) + 1)), (wrap64 (x5_1 + 1)), (by first | rfl | (simp; done) | (simp [*]; done)), (by first | rfl | (simp; done) | (simp [*]; done)), H', ⟨by have := HK1.out; omega⟩, ⟨by (with_reducible repeat (first | apply Kd.R_alloc | apply Kd.R_drewN | apply Kd.R_drew)); exact HO_0.out⟩, ⟨by repeat (first | (with_reducible first | exact HK.out | apply Kept.alloc | apply Kept.drewN | apply Kept.drew) | exact HK.out)⟩, ⟨by repeat (first | (with_reducible first | exact HB.out | apply below_alloc | apply pw_below_drewN | apply below_drew1) | exact HB.out)⟩⟩
        · rw [if_neg c4] at H
          exact absurd H (by simp)
      · rw [if_neg c3] at H
        have c3b0 : decide (x5_1 < (x0_1.length : Int)) = false := decide_eq_false c3
        clear c3
        simp only [Option.some.injEq, Prod.mk.injEq] at H
        obtain ⟨rfl, rfl⟩ := H
        obtain ⟨Ao15, co15, eo15⟩ := Kd.R_slice HO_0.out
        subst eo15
        go_wp2
        go_ret
        exact ⟨by first | rfl | (simp [errW_none, errW_some] <;> rfl) | (simp [*, errW_none, errW_some] <;> rfl), by (with_reducible repeat (first | apply Kd.R_alloc | apply Kd.R_drewN | apply Kd.R_drew)); exact HO_0.out, by repeat (first | (with_reducible first | exact HB.out | apply below_alloc | apply pw_below_drewN | apply below_drew1) | exact HB.out), by repeat (first | (with_reducible first | exact HK.out | apply Kept.alloc | apply Kept.drewN | apply Kept.drew) | exact HK.out)⟩

end Go.Proofs.Ytehjicblchnknaa.Q

namespace Go.Proofs.Ytehjicblchnknaa.Q
open Go.RowKit Go.Proofs.YtehjicblchnknaaW.PrintWords Go.Proofs.YtehjicblchnknaaW.PrintLast Go.Proofs.YtehjicblchnknaaW.PrintMore
set_option linter.unusedVariables false
set_option linter.unusedSimpArgs false

def marksThing (a : Int) (n : Nat) : List S46 := (List.range n).map fun (j : Nat) => ⟨a + 3 * (j : Int), a + 3 * (j : Int) + 1, a + 3 * (j : Int) + 2⟩
theorem marksThing_length (a : Int) (n : Nat) : (marksThing a n).length = n := by simp [marksThing]

theorem markThingS_l0 (a : Int) (n : Nat) (h0 : 0 ≤ a) (hn : a + 3 * n ≤ 100000000000000) : ∀ d k i (x : List S46), i + d = n → d < k → x.length = n →
    ∃ y, laws_markThingS.l0 k x (a + 3 * (i : Int)) (i : Int) = some (a + 3 * (n : Int), y) ∧ y.length = n := by
  intro d
  induction d with
  | zero =>
    intro k i x hi hk hx
    obtain ⟨k, rfl⟩ : ∃ m, k = m + 1 := ⟨k - 1, by omega⟩
    simp only [laws_markThingS.l0]; rw [if_neg (by omega)]
    have : i = n := by omega
    subst this
    exact ⟨x, rfl, hx⟩
  | succ d ih =>
    intro k i x hi hk hx
    obtain ⟨k, rfl⟩ : ∃ m, k = m + 1 := ⟨k - 1, by omega⟩
    simp only [laws_markThingS.l0]
    rw [if_pos (by omega), if_pos (by omega)]
    simp only [Option.bind_some]
    rw [w64Thing (i := a + 3 * (i : Int) + 1) (by omega) (by omega), w64Thing (i := a + 3 * (i : Int) + 1 + 1) (by omega) (by omega), w64Thing (i := a + 3 * (i : Int) + 1 + 1 + 1) (by omega) (by omega), w64Thing (i := (i : Int) + 1) (by omega) (by omega)]
    rw [show a + 3 * (i : Int) + 1 + 1 + 1 = a + 3 * ((i + 1 : Nat) : Int) by omega, show (i : Int) + 1 = ((i + 1 : Nat) : Int) by omega]
    exact ih k (i + 1) _ (by omega) (by omega) (by simp [hx])
/-- Marking counts on, whatever it writes. -/
theorem markThingS_eq (x : List S46) (a : Int) (h0 : 0 ≤ a) (hn : a + 3 * x.length ≤ 100000000000000) (k : Nat) (hk : x.length < k) : ∃ y, laws_markThingS.f k x a = some (a + 3 * (x.length : Int), y) := by
  unfold laws_markThingS.f
  obtain ⟨y, h, _⟩ := markThingS_l0 a x.length h0 hn x.length k 0 x (by omega) hk rfl
  exact ⟨y, by simpa using h⟩
theorem markThingS_ev (x : List S46) (h : x.length ≤ 10000000) (a : Int) (h0 : 0 ≤ a) (hn : a ≤ 10000000000) : ∃ y, Ev (fun k => laws_markThingS.f k x a) (a + 3 * (x.length : Int), y) := by
  obtain ⟨y, hy⟩ := markThingS_eq x a h0 (by omega) (x.length + 1) (by omega)
  exact ⟨y, Ev.of (fun k => laws_markThingS.mono x a k) hy⟩
end Go.Proofs.Ytehjicblchnknaa.Q

namespace Go.Proofs.Ytehjicblchnknaa.Q
open Go.RowKit Go.Proofs.YtehjicblchnknaaW.PrintWords Go.Proofs.YtehjicblchnknaaW.PrintLast Go.Proofs.YtehjicblchnknaaW.PrintMore
set_option linter.unusedVariables false
set_option linter.unusedSimpArgs false

theorem toIntS_l0 (l : List Int) (hn : l.length ≤ 100000000000000) : ∀ d k i (x : List Int), i + d = l.length → d < k → x.length = l.length → (∀ j (hj : j < x.length) (hj2 : j < l.length), j < i → x[j] = l[j]) →
    laws_toIntS.l0 k l x (i : Int) = some l := by
  intro d
  induction d with
  | zero =>
    intro k i x hi hk hx hj
    obtain ⟨k, rfl⟩ : ∃ m, k = m + 1 := ⟨k - 1, by omega⟩
    simp only [laws_toIntS.l0]; rw [if_neg (by omega)]
    congr 1
    apply List.ext_getElem
    · omega
    · intro j h1 h2
      exact hj j h1 (by omega) (by omega)
  | succ d ih =>
    intro k i x hi hk hx hj
    obtain ⟨k, rfl⟩ : ∃ m, k = m + 1 := ⟨k - 1, by omega⟩
    simp only [laws_toIntS.l0]
    rw [if_pos (by omega), if_pos (by omega), if_pos (by omega), w64 (i := (i : Int) + 1) (by omega) (by omega), rd_nat l i (by omega)]
    have := ih k (i + 1) (x.set (i : Int).toNat (l[i]'(by omega))) (by omega) (by omega) (by simp [hx]) (fun j hj1 hj2 hj3 => by
      simp only [Int.toNat_natCast]
      rw [List.getElem_set]
      split
      · rename_i e; subst e; rfl
      · rename_i e; exact hj j (by simpa using hj1) hj2 (by omega))
    rw [show ((i + 1 : Nat) : Int) = (i : Int) + 1 by omega] at this
    exact this
theorem toIntS_eq (l : List Int) (hn : l.length ≤ 1000000000) (k : Nat) (hk : l.length < k) : laws_toIntS.f k l = some l := by
  unfold laws_toIntS.f
  rw [if_pos (by omega), if_pos (by omega)]
  exact toIntS_l0 l (by omega) l.length k 0 _ (by omega) hk (by simp) (fun j _ _ h => absurd h (by omega))
theorem toIntS_ev (a : List Int) (h : a.length ≤ 10000000) : Ev (fun k => laws_toIntS.f k a) a := ⟨a.length + 1, fun k hk => toIntS_eq a (by omega) k (by omega)⟩
end Go.Proofs.Ytehjicblchnknaa.Q

namespace Go.Proofs.Ytehjicblchnknaa.Pure
open Go.RowKit Go.Proofs.Ytehjicblchnknaa.Q Go.Proofs.YtehjicblchnknaaW.PrintWords Go.Proofs.YtehjicblchnknaaW.PrintLast
set_option linter.unusedVariables false
set_option linter.unusedSimpArgs false

set_option maxHeartbeats 2000000 in
set_option maxRecDepth 10000 in
theorem FnExactCanBearMore : ∀ (l0 : List S48) (l1 : List Int), l0.length ≤ maxLen → l0.length * 24 ≤ 140737488351232 → (∀ x ∈ l0, (Lit.int .i64 x.f0).wf = true ∧ (Lit.int .i64 x.f1).wf = true ∧ (Lit.int .i64 x.f2).wf = true) → l1.length ≤ maxLen → l1.length * 8 ≤ 140737488351232 → (∀ x ∈ l1, (Lit.int .i64 x).wf = true) → ∃ k, laws_FnExactCanBearMore.f k l0 l1 = some true := by
  intro l0 l1 _ h0 g0 _ h1 g1
  refine Ev.rounds (g := fun k => laws_FnExactCanBearMore.f k l0 l1) ?_
  by_cases hl1 : l1.length ≤ 1048576
  · skip
    by_cases hl0 : l0.length ≤ 1048576
    · skip
      have hm0 : (l0.map cvThing).length ≤ 1048576 := by simpa using hl0
      obtain ⟨r, hs, hi⟩ := canBearMore_both (l0.map cvThing) l1 (by omega) (by omega)
      simp only [laws_FnExactCanBearMore.f, szThingS_small l0 hl0, Option.bind_some]
      repeat' (first
        | exact Ev_some _
        | (simp (disch := omega) only [Option.bind_some, if_neg, if_pos, bne_self_eq_false, Bool.false_eq_true, if_false, if_true, eq_self])
        | refine Ev.bind (toThingS_ev l0 (by omega)) ?_
        | refine Ev.bind (eqThingS_ev (l0.map cvThing) (by omega)) ?_
        | refine Ev.bind hy0 ?_
        | refine Ev.bind (toIntS_ev l1 (by omega)) ?_
        | refine Ev.bind (eqIntS_ev l1 (by omega)) ?_
        | refine Ev.bind (markIntS_ev l1 (by omega) _ (by omega) (by omega)) ?_
        | refine Ev.bind hs ?_
        | refine Ev.bind hi ?_
        | refine Ev.step (fun k => by rw [laws_FnExactCanBearMore.j0]) ?_)
    · simp only [laws_FnExactCanBearMore.f, szThingS_great l0 (by omega) (by omega)]
      simp (disch := omega) only [Option.bind_some, if_neg, if_pos]
      exact Ev_some _
  · simp (disch := omega) only [laws_FnExactCanBearMore.f, if_pos, if_neg]
    exact Ev_some _
end Go.Proofs.Ytehjicblchnknaa.Pure

namespace Go.Proofs.Ytehjicblchnknaa.HO
open Go.ChangeShapes Go.WideShapes Go.Deep Go.RowKit Go.Proofs.YtehjicblchnknaaW.PrintWords
set_option linter.unusedVariables false
section
variable {H : Type} {enc : TypeId × Value → H} {P : Program} {w : World} {base : Nat} {spare : Nat → Bool} {held : Bool}

/-- A slice of structs of n whole numbers each, opened: F i j is field j of element i. -/
theorem open_ints_struct {t e : TypeId} {fs : Array Field} {fuel : Nat} {cs : List Value} {x : DataW H × List MemPlace} (ht : P.underlying t = some (.slice e)) (he : P.underlying e = some (.struct fs))
    (hone : oneCellFields P fs = true) (hC : P.cellsOf e = fs.size) (hk : ∀ (j : Nat) (f : Field), fs[j]? = some f → P.underlying f.type = some (.int .i64)) (h : DataW.trod enc P w base spare held fuel t cs = some x) :
    (cs = [.slice none 0 0] ∧ x = (.nil, [])) ∨
    ∃ (a : Addr) (len cap : Nat) (F : Nat → Nat → Int) (el sp : List (DataW H)) (ps : List MemPlace), cs = [.slice (some a) len cap] ∧ len ≤ cap ∧ cap ≤ maxLen ∧ x = (.slice el sp, ps) ∧ el.length = len ∧
      ∀ i, i < len → ∀ j, j < fs.size → w.cell? (a.add (i * fs.size + j)) = some (.int .i64 (F i j)) ∧ (Lit.int .i64 (F i j)).wf = true := by
  rcases open_slice ht h with h0 | ⟨a, len, cap, m, n, D, Pl, hcs, hb, hl, hm, hmm, hx, hi⟩
  · exact .inl h0
  · have hlm : len ≤ m := by rw [hmm]; split <;> omega
    have key : ∀ i, i < len → ∃ G : Nat → Int, ∀ j, j < fs.size → w.cell? (a.add (i * fs.size + j)) = some (.int .i64 (G j)) ∧ (Lit.int .i64 (G j)).wf = true := fun i hil => by
      obtain ⟨cs', hc, ht'⟩ := hi i (by omega)
      rw [hC] at hc
      obtain ⟨ys, n', hn', hy, hlen, hyl, hf⟩ := DataW.trod_struct he ht'
      obtain ⟨_, hcl, hat⟩ := World.cells?_some hc
      refine choose_lt (α := Int) (p := fun j v => w.cell? (a.add (i * fs.size + j)) = some (.int .i64 v) ∧ (Lit.int .i64 v).wf = true) (fun j hj => ?_)
      have hfj : fs[j]? = some fs[j] := Array.getElem?_eq_getElem hj
      obtain ⟨ho, hk1⟩ := hone_of hone j _ hfj
      have hcell := hat j hj
      have hv : cs'[j]? = some (cs'[j]'(by omega)) := List.getElem?_eq_getElem (by omega)
      have h1 := hf j _ hfj
      rw [ho, hk1] at h1
      have hone' : (cs'.drop j).take 1 = [cs'[j]'(by omega)] := by
        rw [List.drop_eq_getElem_cons (by omega)]
        rfl
      rw [hone'] at h1
      have hys : ys[j]? = some (ys[j]'(by omega)) := List.getElem?_eq_getElem (by omega)
      obtain ⟨v, e0, _, wv⟩ := DataW.trod_int (hk j _ hfj) (h1.trans hys)
      refine ⟨v, ?_, wv⟩
      rw [← Go.Deep.add_add, hcell, hv]
      simp only [List.cons.injEq, and_true] at e0
      rw [e0]
    obtain ⟨F, hF⟩ := choose_lt (α := Nat → Int) (p := fun i G => ∀ j, j < fs.size → w.cell? (a.add (i * fs.size + j)) = some (.int .i64 (G j)) ∧ (Lit.int .i64 (G j)).wf = true) key
    exact .inr ⟨a, len, cap, F, _, _, _, hcs, hl, hm, hx, by simp, hF⟩

/-- The same of an argument: the numbers, and how many at most. -/
theorem open_structs {t e : TypeId} {fs : Array Field} {a : Option Addr} {len cap : Nat} {d : DataW H} {ps : List MemPlace} {ts : List TypeId} {ds : List (DataW H)} {j : Nat}
    (hsz : (DataW.weightsEach P ts ds).all (· ≤ reachBytes) = true) (htj : ts[j]? = some t) (hdj : ds[j]? = some d) (ht : P.underlying t = some (.slice e)) (he : P.underlying e = some (.struct fs))
    (hone : oneCellFields P fs = true) (hC : P.cellsOf e = fs.size) (hk : ∀ (j : Nat) (f : Field), fs[j]? = some f → P.underlying f.type = some (.int .i64)) {B : Nat} (hB : P.bytesOf e = B)
    (h : DataW.Trod enc P w base spare held t (.slice a len cap) d ps) :
    ∃ F : Nat → Nat → Int, len ≤ cap ∧ len ≤ maxLen ∧ len * B ≤ 140737488351232 ∧ (0 < len → ∃ ad, a = some ad ∧ ∀ i, i < len → ∀ j, j < fs.size → w.cell? (ad.add (i * fs.size + j)) = some (.int .i64 (F i j))) ∧ ∀ i, i < len → ∀ j, j < fs.size → (Lit.int .i64 (F i j)).wf = true := by
  obtain ⟨fuel, hf⟩ := h
  rcases open_ints_struct ht he hone hC hk hf with ⟨hcs, _⟩ | ⟨x, l, c, F, el, sp, ps', hcs, hl, hm, hx, hel, hF⟩
  · simp [Value.cells] at hcs
    obtain ⟨rfl, rfl, rfl⟩ := hcs
    exact ⟨fun _ _ => 0, by omega, by omega, by omega, fun h => absurd h (by omega), fun i hi => absurd hi (by omega)⟩
  · simp [Value.cells] at hcs
    obtain ⟨rfl, rfl, rfl⟩ := hcs
    obtain ⟨hx, _⟩ := Prod.mk.inj hx
    subst hx
    have z := sized_slice hsz htj hdj ht
    rw [hB, hel] at z
    refine ⟨F, hl, by omega, ?_, fun _ => ⟨x, rfl, fun i hi j hj => (hF i hi j hj).1⟩, fun i hi j hj => (hF i hi j hj).2⟩
    have : reachBytes = 140737488351232 := by decide
    rw [this] at z
    exact Nat.le_trans (Nat.mul_le_mul_right _ (by omega)) z

/-- A struct of two whole numbers, by value. -/
theorem open_pair {r : Reach} {b0 : Nat} {t : TypeId} {f0 f1 : Field} {v : Value} {d : DataW H} {p : List MemPlace} (hs : P.underlying t = some (.struct #[f0, f1])) (hone : oneCellFields P #[f0, f1] = true) (hC : P.cellsOf t = 2)
    (h0 : P.underlying f0.type = some (.int .i64)) (h1 : P.underlying f1.type = some (.int .i64)) (hv : Value.okWide P w r b0 t v) (h : DataW.Trod enc P w base spare held t v d p) :
    ∃ x y : Int, v = .agg #[.int .i64 x, .int .i64 y] ∧ p = [] ∧ (Lit.int .i64 x).wf = true ∧ (Lit.int .i64 y).wf = true := by
  obtain ⟨v0, v1, y0, y1, n, rfl, rfl, rfl, g0, g1⟩ := Go.Joins.open_agg2 hs hone hC hv h
  obtain ⟨x, e0, rfl, w0⟩ := DataW.trod_int h0 g0
  obtain ⟨y, e1, rfl, w1⟩ := DataW.trod_int h1 g1
  simp only [List.cons.injEq, and_true] at e0 e1
  subst e0 e1
  exact ⟨x, y, rfl, rfl, w0, w1⟩
end
end Go.Proofs.Ytehjicblchnknaa.HO

namespace Go.Proofs.Ytehjicblchnknaa.fnExactCanBearMore
open Go.ChangeShapes Go.WideShapes Go.ChangeAt Go.RowKit Go.Proofs.YtehjicblchnknaaW Go.Proofs.YtehjicblchnknaaW.PrintWords
open Go.ChangeMaps (open_string shut_string)
set_option linter.unusedVariables false
theorem own : ownKnob Try.prog.godebug = none := by kernel_rfl
theorem laidOut : laidOutB Try.prog = true := by kernel_rfl
def IsRow (k : IntKind) (w : World) (a : Option Addr) (len cap : Nat) (zs : List Int) : Prop :=
  (a = none ∧ len = 0 ∧ cap = 0 ∧ zs = []) ∨
  ∃ x, a = some x ∧ len ≤ cap ∧ cap ≤ maxLen ∧ zs.length = cap ∧ (∀ i, i < zs.length → w.cell? (x.add i) = some (.int k (zs.getD i 0))) ∧ ∀ n ∈ zs, (Lit.int k n).wf = true
theorem mk_C48 {w : World} {A : Option Addr} {n : Nat} {F : Nat → Nat → Int} (hn : n ≤ maxLen) (h : 0 < n → ∃ ad, A = some ad ∧ ∀ i, i < n → ∀ j, j < 3 → w.cell? (ad.add (i * 3 + j)) = some (.int .i64 (F i j))) (hw : ∀ i, i < n → ∀ j, j < 3 → (Lit.int .i64 (F i j)).wf = true) :
    ∃ l : List Q.S48, l.length = n ∧ Kd.C Q.k48 w A l.length l ∧ ∀ x ∈ l, (Lit.int .i64 x.f0).wf = true ∧ (Lit.int .i64 x.f1).wf = true ∧ (Lit.int .i64 x.f2).wf = true := by
  refine ⟨(List.range n).map fun i => ⟨F i 0, F i 1, F i 2⟩, by simp, ⟨rfl, by unfold maxLen at hn; simp; omega, fun h0 => ?_⟩, fun x hx => ?_⟩
  · rw [List.length_map, List.length_range] at h0
    obtain ⟨ad, ha, hc⟩ := h h0
    refine ⟨ad, ha, fun j p hj => ?_⟩
    rw [List.getElem?_map] at hj
    obtain ⟨i, hi, rfl⟩ := Option.map_eq_some_iff.1 hj
    have hji : j < n := by have := (List.getElem?_eq_some_iff.1 hi).1; simpa using this
    have hij : i = j := by rw [List.getElem?_range hji] at hi; injection hi with hi; exact hi.symm
    subst hij
    refine ⟨[.int .i64 (F i 0), .int .i64 (F i 1), .int .i64 (F i 2)], rfl, Q.k48_mk w _, fun q u hq => ?_⟩
    match q, hq with
    | 0, hq => injection hq with hq; subst hq; exact hc i hji 0 (by omega)
    | 1, hq => injection hq with hq; subst hq; exact hc i hji 1 (by omega)
    | 2, hq => injection hq with hq; subst hq; exact hc i hji 2 (by omega)
    | q + 3, hq => simp at hq
  · rw [List.mem_map] at hx
    obtain ⟨i, hi, rfl⟩ := hx
    rw [List.mem_range] at hi
    exact ⟨hw i hi 0 (by omega), hw i hi 1 (by omega), hw i hi 2 (by omega)⟩
set_option maxRecDepth 100000 in
theorem lifted (os : Os) (started : os.Started) (H : Type) (enc : TypeId × Value → H) :
    ReturnsInHanded {} Try.checked os 10 .any (Rows.fnExactCanBearMoreSpec.pre6 enc Try.prog Try.f10 Rows.fnExactCanBearMoreRow.domain false) (Rows.fnExactCanBearMoreSpec.post enc Try.prog Try.f10 false true false false) := by
  refine returnsInHanded_of_change_sized (C := Try.checked) own started (by kernel_rfl) Try.func10
    (ChangeSpec.witness6 (enc := enc) (C := Try.checked) false ⟨#[], #[.slice none 0 0, .slice none 0 0], []⟩ 8 (by kernel_rfl) (by kernel_rfl) (by kernel_rfl) (by kernel_rfl)) ?_
  intro W base args ds gs before hval0 hW hcnd hsz0 _
  have hsz : (DataW.weightsEach Try.prog (Try.f10.params.toList ++ Rows.fnExactCanBearMoreSpec.plain.varTypes Try.prog) (ds ++ gs)).all (· ≤ reachBytes) = true := hsz0
  have hval : ∀ (j : Nat) t v, Try.f10.params[j]? = some t → args[j]? = some v → Value.okWide Try.prog W .any base t v := hval0
  have hW' := hW
  obtain ⟨p, q, hA0, hV, rfl, hfz, hnd⟩ := hW
  have hA : DataW.TrodAll enc Try.prog W 0 (fun _ => true) true Try.f10.params.toList args.toList ds p := hA0
  rw [Try.params10] at hA hval hsz
  obtain ⟨v0, vs0, d0, ds0, p0, q0, hargs, rfl, rfl, h0, r0⟩ := trodAll_cons hA
  obtain ⟨v1, vs1, d1, ds1, p1, q1, rfl, rfl, rfl, h1, r1⟩ := trodAll_cons r0
  obtain ⟨rfl, rfl, rfl⟩ := trodAll_nil r1
  obtain rfl : args = #[v0, v1] := by cases args; simp_all
  obtain ⟨rfl, rfl⟩ := trodVars_none hV
  obtain ⟨a0, len0, cap0, rfl⟩ := okWide_slice Try.underlying22 (hval 0 22 v0 rfl rfl)
  have k0 := h0
  have lt0 : ∀ x ∈ p0, x.block < W.heap.size := by obtain ⟨m, hm⟩ := k0; exact DataW.trod_lt m _ _ _ hm
  obtain ⟨F0, hc0, hm0, y0, hcell0, hw0⟩ := HO.open_structs (j := 0) (t := 22) (B := 24) hsz rfl rfl Try.underlying22 Try.underlying48 (by kernel_rfl) (by kernel_rfl) (fun j f hj => by
    have hj3 : j < 3 := (Array.getElem?_eq_some_iff.1 hj).1
    match j, hj3 with
    | 0, _ => injection hj with hj; subst hj; exact Try.underlying3
    | 1, _ => injection hj with hj; subst hj; exact Try.underlying3
    | 2, _ => injection hj with hj; subst hj; exact Try.underlying3
    ) (by kernel_rfl) h0
  obtain ⟨l0, hl0, hr0, hz0⟩ := mk_C48 hm0 hcell0 hw0
  subst hl0
  obtain ⟨a1, len1, cap1, rfl⟩ := okWide_slice Try.underlying23 (hval 1 23 v1 rfl rfl)
  have k1 := h1
  have lt1 : ∀ x ∈ p1, x.block < W.heap.size := by obtain ⟨m, hm⟩ := k1; exact DataW.trod_lt m _ _ _ hm
  obtain ⟨z1, w1⟩ : ∃ zs, IsRow .i64 W a1 len1 cap1 zs := by
    obtain ⟨fuel, hf⟩ := h1
    rcases open_ints Try.underlying23 Try.underlying3 (by kernel_rfl) hf with ⟨hcs, _⟩ | ⟨x, l, c, zs, hcs, _, hl, hm, hz, _, hcell, hwz⟩
    · simp [Value.cells] at hcs
      obtain ⟨rfl, rfl, rfl⟩ := hcs
      exact ⟨[], .inl ⟨rfl, rfl, rfl, rfl⟩⟩
    · simp [Value.cells] at hcs
      obtain ⟨rfl, rfl, rfl⟩ := hcs
      exact ⟨zs, .inr ⟨_, rfl, hl, hm, by simpa using hz, hcell, hwz⟩⟩
  have y1 : len1 * 8 ≤ 140737488351232 := PrintWords.sized_ints hsz (j := 1) (t := 23) rfl rfl Try.underlying23 Try.underlying3 (by kernel_rfl) (by kernel_rfl) h1
  clear hA0 hval0 hsz0 hsz
  obtain ⟨l1, rfl, hr1, hm1, hw1, hc1⟩ := ReadsInt.ofRowC w1
  obtain ⟨k, hh⟩ := Pure.FnExactCanBearMore l0 l1 hm0 y0 hz0 hm1 y1 hw1
  refine (Q.laws_FnExactCanBearMore.calls k _ _ l0 _ _ l1 true W hr0 hc0 (Kd.C_of_reads (d := (0 : Int)) (h1 := fun _ => rfl) hr1) hc1 hh).mono fun e W' ⟨he, bel⟩ => ?_
  subst he
  exact ⟨_, rfl, _, _, _, [], _, [], hW', trodAll_mk1 (shut_bool Try.underlying4 _), (trodAll_cons_mk (Below.trod laidOut (by kernel_rfl) (of_decide_eq_true (by kernel_rfl)) k0 bel lt0) (trodAll_cons_mk (Below.trod laidOut (by kernel_rfl) (of_decide_eq_true (by kernel_rfl)) k1 bel lt1) trodAll_mk0)), rfl, bel.frame _, fun h => by cases h⟩
theorem over : Rows.fnExactCanBearMoreRow.holds Try.pinned (OpenSpec.ofChange Rows.fnExactCanBearMoreSpec) :=
  OpenClaim.holds_of_wide 10 Try.f10 rfl rfl rfl rfl rfl rfl rfl ⟨rfl, rfl, rfl, rfl, rfl⟩ rfl rfl rfl rfl rfl (by kernel_rfl) Try.func10 (by kernel_rfl)
    (of_decide_eq_true (by kernel_rfl)) (by unfold Func.isWrapper; first | (rw [if_pos (by decide +kernel)]; kernel_rfl) | (rw [if_neg (by decide +kernel)]; exact ⟨rfl, rfl⟩))
    (fun os started H enc _ => lifted os started H enc)
theorem proved : Rows.FnExactCanBearMoreSaid := over
#print axioms proved
end Go.Proofs.Ytehjicblchnknaa.fnExactCanBearMore
namespace Go.Proofs.Ytehjicblchnknaa
/-- The row, under a short name, for the claim. -/
theorem fnExactCanBearMore_holds : Rows.FnExactCanBearMoreSaid := fnExactCanBearMore.proved
end Go.Proofs.Ytehjicblchnknaa
