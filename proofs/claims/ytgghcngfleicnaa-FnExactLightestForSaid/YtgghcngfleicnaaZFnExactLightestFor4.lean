/-
  Part 4 of the proof of FnExactLightestFor: what Go functions that it reaches compute, each shown by a walk of its code, and plain laws on numbers and lists.
  CONDITIONS: each theorem's own, as stated.
-/
import Derived.Test.YtgghcngfleicnaaZFnExactLightestFor1
import Derived.Test.YtgghcngfleicnaaZFnExactLightestFor2
import Derived.Test.YtgghcngfleicnaaZFnExactLightestFor3
import Derived.Laws.EntriesVeiled
import Derived.Deep.Cut
namespace Go.Proofs.Ytgghcngfleicnaa.Q
open Go.RowKit Go.Proofs.YtgghcngfleicnaaW.PrintWords Go.Proofs.YtgghcngfleicnaaW.PrintLast Go.Proofs.YtgghcngfleicnaaW.PrintMore
attribute [local go_sem] max2_int min2_int max_two min_two max_three min_three max_four min_four   -- for this text's walks alone
set_option linter.unusedVariables false
set_option linter.unusedSimpArgs false

/-! ### spec_LightestFor: function 37 -/
mutual
def spec_LightestFor.j0 : Nat → List (S54) → Int → Int → Bool → Option (List Int × Int × Bool)
  | 0, _, _, _, _ => none
  | k + 1, x0, x1, x2, x28 => if x28 = true then (some (([] : List Int), 0, false)) else ((spec_suAll.f x0 2000 x1).bind fun t509 => (spec_LightestFor.l0 k x0 x2 ([] : List Int) (-1) t509 (t509.length : Int) 0))
def spec_LightestFor.l0 : Nat → List (S54) → Int → List Int → Int → List (List Int) → Int → Int → Option (List Int × Int × Bool)
  | 0, _, _, _, _, _, _, _ => none
  | k + 1, x0, x2, x9, x10, x32, x33, x34 => if x34 < x33 then (if 0 ≤ x34 then (if x34 < (x32.length : Int) then ((spec_suTotals.f k x0 (rd_L7 x32 x34)).bind fun bt513 => (if bt513.2.2 ≥ x2 then (if x10 < 0 then (spec_LightestFor.l0 k x0 x2 (rd_L7 x32 x34) bt513.1 x32 x33 (wrap64 (x34 + 1))) else (if bt513.1 < x10 then (spec_LightestFor.l0 k x0 x2 (rd_L7 x32 x34) bt513.1 x32 x33 (wrap64 (x34 + 1))) else (spec_LightestFor.l0 k x0 x2 x9 x10 x32 x33 (wrap64 (x34 + 1))))) else (spec_LightestFor.l0 k x0 x2 x9 x10 x32 x33 (wrap64 (x34 + 1))))) else (none)) else (none)) else (if x10 < 0 then (some (([] : List Int), 0, false)) else (some (x9, x10, true)))
end
def spec_LightestFor.f (k : Nat) (l0 : List (S54)) (a1 : Int) (a2 : Int) : Option (List Int × Int × Bool) := (spec_suGood.f k l0).bind fun t506 => (if t506 = true then ((spec_l1In.f a1 0 200).bind fun t507 => (if t507 = true then ((spec_l1In.f a2 0 10000).bind fun t508 => (spec_LightestFor.j0 k l0 a1 a2 (!t508))) else (spec_LightestFor.j0 k l0 a1 a2 true))) else (spec_LightestFor.j0 k l0 a1 a2 true))
theorem spec_LightestFor.mono_l : ∀ k, (∀ y0 y1 y2 y3, LeO (spec_LightestFor.j0 k y0 y1 y2 y3) (spec_LightestFor.j0 (k + 1) y0 y1 y2 y3)) ∧ (∀ y0 y1 y2 y3 y4 y5 y6, LeO (spec_LightestFor.l0 k y0 y1 y2 y3 y4 y5 y6) (spec_LightestFor.l0 (k + 1) y0 y1 y2 y3 y4 y5 y6))
  | 0 => ⟨fun _ _ _ _ r h => by simp [spec_LightestFor.j0] at h, fun _ _ _ _ _ _ _ r h => by simp [spec_LightestFor.l0] at h⟩
  | k + 1 => by
    obtain ⟨ih0, ih1⟩ := spec_LightestFor.mono_l k
    refine ⟨?_, ?_⟩
    · intro y0 y1 y2 y3
      unfold spec_LightestFor.j0
      repeat' first
      | (with_reducible exact ih0 _ _ _ _)
      | (with_reducible exact ih1 _ _ _ _ _ _ _)
      | (with_reducible exact spec_suGood.mono _ _)
      | (with_reducible exact spec_suTotals.mono _ _ _)
      | (with_reducible exact LeO.refl _)
      | (with_reducible exact LeO.none _)
      | (with_reducible refine LeO.ite ?_ ?_)
      | (with_reducible refine LeO.bind ?_ (fun _ => ?_))
      | exact ih0 _ _ _ _
      | exact ih1 _ _ _ _ _ _ _
      | exact spec_suGood.mono _ _
      | exact spec_suTotals.mono _ _ _
      | exact LeO.none _
      | refine LeO.ite ?_ ?_
      | refine LeO.bind ?_ (fun _ => ?_)
    · intro y0 y1 y2 y3 y4 y5 y6
      unfold spec_LightestFor.l0
      repeat' first
      | (with_reducible exact ih0 _ _ _ _)
      | (with_reducible exact ih1 _ _ _ _ _ _ _)
      | (with_reducible exact spec_suGood.mono _ _)
      | (with_reducible exact spec_suTotals.mono _ _ _)
      | (with_reducible exact LeO.refl _)
      | (with_reducible exact LeO.none _)
      | (with_reducible refine LeO.ite ?_ ?_)
      | (with_reducible refine LeO.bind ?_ (fun _ => ?_))
      | exact ih0 _ _ _ _
      | exact ih1 _ _ _ _ _ _ _
      | exact spec_suGood.mono _ _
      | exact spec_suTotals.mono _ _ _
      | exact LeO.none _
      | refine LeO.ite ?_ ?_
      | refine LeO.bind ?_ (fun _ => ?_)
theorem spec_LightestFor.mono : ∀ a0 a1 a2 k, LeO (spec_LightestFor.f k a0 a1 a2) (spec_LightestFor.f (k + 1) a0 a1 a2) := by
  intro a0 a1 a2 k
  obtain ⟨ih0, ih1⟩ := spec_LightestFor.mono_l k
  unfold spec_LightestFor.f
  repeat' first
      | (with_reducible exact ih0 _ _ _ _)
      | (with_reducible exact ih1 _ _ _ _ _ _ _)
      | (with_reducible exact spec_suGood.mono _ _)
      | (with_reducible exact spec_suTotals.mono _ _ _)
      | (with_reducible exact LeO.refl _)
      | (with_reducible exact LeO.none _)
      | (with_reducible refine LeO.ite ?_ ?_)
      | (with_reducible refine LeO.bind ?_ (fun _ => ?_))
      | exact ih0 _ _ _ _
      | exact ih1 _ _ _ _ _ _ _
      | exact spec_suGood.mono _ _
      | exact spec_suTotals.mono _ _ _
      | exact LeO.none _
      | refine LeO.ite ?_ ?_
      | refine LeO.bind ?_ (fun _ => ?_)
set_option maxHeartbeats 8000000 in
set_option maxRecDepth 100000 in
theorem spec_LightestFor.calls (k : Nat) (A0 : Option Addr) (c0 : Nat) (l0 : List (S54)) (a1 : Int) (a2 : Int) (r1 : List Int) (r2 : Int) (r3 : Bool) (w : World) (hr0 : Kd.C k54 w A0 l0.length l0) (hc0 : l0.length ≤ c0) (h : spec_LightestFor.f k l0 a1 a2 = some (r1, r2, r3)) :
    Calls Try.prog 37 #[.slice A0 l0.length c0, .int .i64 a1, .int .i64 a2] w fun e w' => ∃ v0_ : Value, e = .returned (.tuple #[v0_, .int .i64 r2, .bool r3]) ∧ Kd.V (Kd.int .i64) 3 w' w.heap.size (fun k_ => (w.heap.size ≤ k_)) v0_ r1 ∧ Below w.heap.size w w' := by
  have hu39 := Try.underlying39
  have HR0 := Aside0.mk hr0
  have HC0 := Aside0.mk hc0
  clear hr0 hc0
  have HB := Aside0.mk (Below.refl w.heap.size w)
  have H : ((spec_suGood.f k l0).bind fun t506 => (if t506 = true then ((spec_l1In.f a1 0 200).bind fun t507 => (if t507 = true then ((spec_l1In.f a2 0 10000).bind fun t508 => (spec_LightestFor.j0 k l0 a1 a2 (!t508))) else (spec_LightestFor.j0 k l0 a1 a2 true))) else (spec_LightestFor.j0 k l0 a1 a2 true))) = some (r1, r2, r3) := h
  clear h
  have HC4 := Aside0.mk H
  clear H
  go_enter Try.func37, Try.ntmps37
  go_upto_region 1 with (fail)
  go_cut [28] (fun v28 wc => ∃ (kq : Nat) (x28_3 : Bool), v28 = .bool x28_3 ∧ Aside0 (spec_LightestFor.j0 kq l0 a1 a2 x28_3 = some (r1, r2, r3)) ∧ Aside0 (kq ≤ k) ∧ Aside0 (Below w.heap.size w wc))
  case first =>
    have H := HC4.out
    clear HC4
    replace H := Option.bind_eq_some_iff.mp H
    obtain ⟨t506, A50, H⟩ := H
    replace H : (if t506 = true then ((spec_l1In.f a1 0 200).bind fun t507 => (if t507 = true then ((spec_l1In.f a2 0 10000).bind fun t508 => (spec_LightestFor.j0 k l0 a1 a2 (!t508))) else (spec_LightestFor.j0 k l0 a1 a2 true))) else (spec_LightestFor.j0 k l0 a1 a2 true)) = some (r1, r2, r3) := H
    have A5 := Aside0.mk A50
    clear A50
    by_cases c6 : t506 = true
    · subst c6
      have H1 : ((spec_l1In.f a1 0 200).bind fun t507 => (if t507 = true then ((spec_l1In.f a2 0 10000).bind fun t508 => (spec_LightestFor.j0 k l0 a1 a2 (!t508))) else (spec_LightestFor.j0 k l0 a1 a2 true))) = some (r1, r2, r3) := by rw [if_pos rfl] at H; exact H
      clear H
      have H := H1
      clear H1
      replace H := Option.bind_eq_some_iff.mp H
      obtain ⟨t507, A70, H⟩ := H
      replace H : (if t507 = true then ((spec_l1In.f a2 0 10000).bind fun t508 => (spec_LightestFor.j0 k l0 a1 a2 (!t508))) else (spec_LightestFor.j0 k l0 a1 a2 true)) = some (r1, r2, r3) := H
      have A7 := Aside0.mk A70
      clear A70
      by_cases c8 : t507 = true
      · subst c8
        have H1 : ((spec_l1In.f a2 0 10000).bind fun t508 => (spec_LightestFor.j0 k l0 a1 a2 (!t508))) = some (r1, r2, r3) := by rw [if_pos rfl] at H; exact H
        clear H
        have H := H1
        clear H1
        replace H := Option.bind_eq_some_iff.mp H
        obtain ⟨t508, A90, H⟩ := H
        replace H : (spec_LightestFor.j0 k l0 a1 a2 (!t508)) = some (r1, r2, r3) := H
        have A9 := Aside0.mk A90
        clear A90
        have H' := Aside0.mk H
        clear H
        go_wp2_with (first | ((with_reducible refine gate_callee (f := 39) rfl ?_); refine goesL_ (some 17) rfl rfl Try.func39 (by kernel_rfl) rfl #[.slice A0 l0.length c0] rfl (by (try simp only [List.map_toArray, List.map_cons, List.map_nil]); first | done | rfl | (simp only [List.length_drop, List.length_take]; rfl)) ?_; (with_reducible refine (spec_suGood.calls k _ _ l0 true _ ?side1 ?side2 A5.out).mono ?_); (case side1 => repeat (first | exact (Kd.C_below HR0.out HB.out) | (with_reducible refine Kd.C_alloc ?_ _) | (with_reducible refine Kd.C_drewN ?_ _) | (with_reducible refine Kd.C_drew ?_))); (case side2 => exact HC0.out); rintro e w10 ⟨rfl, hb⟩; refine ⟨_, rfl, ?_⟩; have n0_ := Aside0.mk (below_step (by repeat (first | (with_reducible first | exact HB.out | apply below_alloc | apply pw_below_drewN | apply below_drew1) | exact HB.out)) hb); clear HB; have HB := n0_; clear n0_; (try clear hb); (try clear hb2); (try clear hk); (try clear hi)) | (go_at_call 63; (with_reducible refine (spec_l1In.calls a1 0 200 true _ A7.out).mono ?_); rintro e w' ⟨rfl, ⟨nd, rfl⟩⟩) | (go_at_call 63; (with_reducible refine (spec_l1In.calls a2 0 10000 t508 _ A9.out).mono ?_); rintro e w' ⟨rfl, ⟨nd, rfl⟩⟩))
        go_meet
        case rel => exact ⟨_, (!t508), (by first | rfl | (simp; done) | (simp [*]; done)), H', ⟨by first | omega | exact Nat.le_refl _⟩, ⟨by repeat (first | (with_reducible first | exact HB.out | apply below_alloc | apply pw_below_drewN | apply below_drew1) | exact HB.out)⟩⟩
      · replace c8 := Bool.eq_false_iff.mpr c8
        subst c8
        have H1 : (spec_LightestFor.j0 k l0 a1 a2 true) = some (r1, r2, r3) := by rw [if_neg (show ¬ (false = true) by decide)] at H; exact H
        clear H
        have H := H1
        clear H1
        have H' := Aside0.mk H
        clear H
        go_wp2_with (first | ((with_reducible refine gate_callee (f := 39) rfl ?_); refine goesL_ (some 17) rfl rfl Try.func39 (by kernel_rfl) rfl #[.slice A0 l0.length c0] rfl (by (try simp only [List.map_toArray, List.map_cons, List.map_nil]); first | done | rfl | (simp only [List.length_drop, List.length_take]; rfl)) ?_; (with_reducible refine (spec_suGood.calls k _ _ l0 true _ ?side1 ?side2 A5.out).mono ?_); (case side1 => repeat (first | exact (Kd.C_below HR0.out HB.out) | (with_reducible refine Kd.C_alloc ?_ _) | (with_reducible refine Kd.C_drewN ?_ _) | (with_reducible refine Kd.C_drew ?_))); (case side2 => exact HC0.out); rintro e w11 ⟨rfl, hb⟩; refine ⟨_, rfl, ?_⟩; have n0_ := Aside0.mk (below_step (by repeat (first | (with_reducible first | exact HB.out | apply below_alloc | apply pw_below_drewN | apply below_drew1) | exact HB.out)) hb); clear HB; have HB := n0_; clear n0_; (try clear hb); (try clear hb2); (try clear hk); (try clear hi)) | (go_at_call 63; (with_reducible refine (spec_l1In.calls a1 0 200 false _ A7.out).mono ?_); rintro e w' ⟨rfl, ⟨nd, rfl⟩⟩))
        go_meet
        case rel => exact ⟨_, (true), (by first | rfl | (simp; done) | (simp [*]; done)), H', ⟨by first | omega | exact Nat.le_refl _⟩, ⟨by repeat (first | (with_reducible first | exact HB.out | apply below_alloc | apply pw_below_drewN | apply below_drew1) | exact HB.out)⟩⟩
    · replace c6 := Bool.eq_false_iff.mpr c6
      subst c6
      have H1 : (spec_LightestFor.j0 k l0 a1 a2 true) = some (r1, r2, r3) := by rw [if_neg (show ¬ (false = true) by decide)] at H; exact H
      clear H
      have H := H1
      clear H1
      have H' := Aside0.mk H
      clear H
      go_wp2_with (first | ((with_reducible refine gate_callee (f := 39) rfl ?_); refine goesL_ (some 17) rfl rfl Try.func39 (by kernel_rfl) rfl #[.slice A0 l0.length c0] rfl (by (try simp only [List.map_toArray, List.map_cons, List.map_nil]); first | done | rfl | (simp only [List.length_drop, List.length_take]; rfl)) ?_; (with_reducible refine (spec_suGood.calls k _ _ l0 false _ ?side1 ?side2 A5.out).mono ?_); (case side1 => repeat (first | exact (Kd.C_below HR0.out HB.out) | (with_reducible refine Kd.C_alloc ?_ _) | (with_reducible refine Kd.C_drewN ?_ _) | (with_reducible refine Kd.C_drew ?_))); (case side2 => exact HC0.out); rintro e w12 ⟨rfl, hb⟩; refine ⟨_, rfl, ?_⟩; have n0_ := Aside0.mk (below_step (by repeat (first | (with_reducible first | exact HB.out | apply below_alloc | apply pw_below_drewN | apply below_drew1) | exact HB.out)) hb); clear HB; have HB := n0_; clear n0_; (try clear hb); (try clear hb2); (try clear hk); (try clear hi)))
      go_meet
      case rel => exact ⟨_, (true), (by first | rfl | (simp; done) | (simp [*]; done)), H', ⟨by first | omega | exact Nat.le_refl _⟩, ⟨by repeat (first | (with_reducible first | exact HB.out | apply below_alloc | apply pw_below_drewN | apply below_drew1) | exact HB.out)⟩⟩
  case rest =>
    clear HC4
    try clear p2
    try clear c3
    try clear c6
    try clear c8
    obtain ⟨kq, x28_3, rfl, HA, HJ3, HB⟩ := hcut
    cases kq with
    | zero => exact absurd HA.out (by simp [spec_LightestFor.j0])
    | succ kj3 =>
      have H := HA.out
      clear HA
      simp only [spec_LightestFor.j0] at H
      by_cases c13 : x28_3 = true
      · subst c13
        have H1 : (some (([] : List Int), 0, false)) = some (r1, r2, r3) := by rw [if_pos rfl] at H; exact H
        clear H
        have H := H1
        clear H1
        simp only [Option.some.injEq, Prod.mk.injEq] at H
        obtain ⟨rfl, rfl, rfl⟩ := H
        go_wp2
        go_ret3
        exact ⟨_, by first | rfl | (simp [errW_none, errW_some] <;> rfl) | (simp [*, errW_none, errW_some] <;> rfl), (Kd.V_nil _ _ _ _ _), by repeat (first | (with_reducible first | exact HB.out | apply below_alloc | apply pw_below_drewN | apply below_drew1) | exact HB.out)⟩
      · replace c13 := Bool.eq_false_iff.mpr c13
        subst c13
        have H1 : ((spec_suAll.f l0 2000 a1).bind fun t509 => (spec_LightestFor.l0 kj3 l0 a2 ([] : List Int) (-1) t509 (t509.length : Int) 0)) = some (r1, r2, r3) := by rw [if_neg (show ¬ (false = true) by decide)] at H; exact H
        clear H
        have H := H1
        clear H1
        replace H := Option.bind_eq_some_iff.mp H
        obtain ⟨t509, A140, H⟩ := H
        replace H : (spec_LightestFor.l0 kj3 l0 a2 ([] : List Int) (-1) t509 (t509.length : Int) 0) = some (r1, r2, r3) := H
        have A14 := Aside0.mk A140
        clear A140
        have H' := Aside0.mk H
        clear H
        go_wp2_with (first | ((with_reducible refine gate_callee (f := 50) rfl ?_); refine goesL_ (some 32) rfl rfl Try.func50 (by kernel_rfl) rfl #[.slice A0 l0.length c0, .agg #[.int .i64 2000, .int .i64 a1]] rfl (by (try simp only [List.map_toArray, List.map_cons, List.map_nil]); first | done | rfl | (simp only [List.length_drop, List.length_take]; rfl)) ?_; (with_reducible refine (spec_suAll.calls _ _ l0 2000 a1 t509 _ ?side1 ?side2 A14.out).mono ?_); (case side1 => repeat (first | exact (Kd.C_below HR0.out HB.out) | (with_reducible refine Kd.C_alloc ?_ _) | (with_reducible refine Kd.C_drewN ?_ _) | (with_reducible refine Kd.C_drew ?_))); (case side2 => exact HC0.out); rintro e w15 ⟨v510, rfl, ho0, hb⟩; refine ⟨_, rfl, ?_⟩; have n0_ := Aside0.mk (Kd.N_lower (Kd.N_mono (ok' := fun k_ => (w.heap.size ≤ k_)) ho0 (fun k_ hk_ => (Nat.le_trans (below_size (by repeat (first | (with_reducible first | exact HB.out | apply below_alloc | apply pw_below_drewN | apply below_drew1) | exact HB.out))) hk_))) (below_size (by repeat (first | (with_reducible first | exact HB.out | apply below_alloc | apply pw_below_drewN | apply below_drew1) | exact HB.out)))); have n1_ := Aside0.mk (below_step (by repeat (first | (with_reducible first | exact HB.out | apply below_alloc | apply pw_below_drewN | apply below_drew1) | exact HB.out)) hb); clear HB; have HO511 := n0_; have HB := n1_; clear n0_ n1_; (try clear hb); (try clear hb2); (try clear hk); (try clear hi); (try clear ho0); obtain ⟨Ao16, co16, eo16⟩ := Kd.N_slice HO511.out; subst eo16))
        go_loopg [9, 10, 34] kj3 (fun kq v9 v10 v34 w' => ∃ (x9_2 : List Int) (x10_2 : Int) (x34_2 : Int), v10 = .int .i64 x10_2 ∧ v34 = .int .i64 x34_2 ∧ Aside0 (spec_LightestFor.l0 kq l0 a2 x9_2 x10_2 t509 (t509.length : Int) x34_2 = some (r1, r2, r3)) ∧ Aside0 (kq ≤ kj3) ∧ Aside0 (Kd.V (Kd.int .i64) 3 w' w.heap.size (fun k_ => (w.heap.size ≤ k_) ∧ some k_ ≠ ((.slice Ao16 t509.length co16) : Value).ownBlock) v9 x9_2) ∧ Aside0 (Kd.N (Kd.slice 3 (Kd.int .i64)) 29 w' w.heap.size (fun k_ => (w.heap.size ≤ k_)) (.slice Ao16 t509.length co16) t509) ∧ Aside0 (Below w.heap.size w w'))
        case atStart => exact ⟨(([] : List Int)), ((-1)), (0), (by first | rfl | (simp; done) | (simp [*]; done)), (by first | rfl | (simp; done) | (simp [*]; done)), H', ⟨Nat.le_refl _⟩, ⟨(Kd.V_nil _ _ _ _ _)⟩, ⟨by (with_reducible repeat (first | apply Kd.N_alloc | apply Kd.N_drewN | apply Kd.N_drew)); exact HO511.out⟩, ⟨by repeat (first | (with_reducible first | exact HB.out | apply below_alloc | apply pw_below_drewN | apply below_drew1) | exact HB.out)⟩⟩
        case round =>
          clear H'
          try clear c1
          try clear p2
          try clear c3
          try clear c5
          try clear c6
          try clear c8
          try clear c13
          try clear p2
          obtain ⟨x9_2, x10_2, x34_2, rfl, rfl, HA, HK2, HO_9, HO_32, HB⟩ := hrel
          cases gk with
          | zero => exact absurd HA.out (by simp [spec_LightestFor.l0])
          | succ k2 =>
            have H := HA.out
            clear HA
            simp only [spec_LightestFor.l0] at H
            by_cases c17 : x34_2 < (t509.length : Int)
            · rw [if_pos c17] at H
              have c17b0 : decide (x34_2 < (t509.length : Int)) = true := decide_eq_true c17
              clear c17
              by_cases c18 : 0 ≤ x34_2
              · rw [if_pos c18] at H
                have c18b0 : decide (0 ≤ x34_2) = true := decide_eq_true c18
                clear c18
                by_cases c19 : x34_2 < (t509.length : Int)
                · rw [if_pos c19] at H
                  have c19b0 : decide (x34_2 < (t509.length : Int)) = true := decide_eq_true c19
                  clear c19
                  replace H := Option.bind_eq_some_iff.mp H
                  obtain ⟨⟨t513, t514, t515⟩, A200, H⟩ := H
                  replace H : (if t515 ≥ a2 then (if x10_2 < 0 then (spec_LightestFor.l0 k2 l0 a2 (rd_L7 t509 x34_2) t513 t509 (t509.length : Int) (wrap64 (x34_2 + 1))) else (if t513 < x10_2 then (spec_LightestFor.l0 k2 l0 a2 (rd_L7 t509 x34_2) t513 t509 (t509.length : Int) (wrap64 (x34_2 + 1))) else (spec_LightestFor.l0 k2 l0 a2 x9_2 x10_2 t509 (t509.length : Int) (wrap64 (x34_2 + 1))))) else (spec_LightestFor.l0 k2 l0 a2 x9_2 x10_2 t509 (t509.length : Int) (wrap64 (x34_2 + 1)))) = some (r1, r2, r3) := H
                  have A20 := Aside0.mk A200
                  clear A200
                  by_cases c21 : t515 ≥ a2
                  · rw [if_pos c21] at H
                    have c21b0 : decide (a2 ≤ t515) = true := decide_eq_true c21
                    clear c21
                    by_cases c22 : x10_2 < 0
                    · rw [if_pos c22] at H
                      have c22b0 : decide (x10_2 < 0) = true := decide_eq_true c22
                      clear c22
                      have H' := Aside0.mk H
                      clear H
                      have p512 : 0 ≤ (x34_2 : Int) := of_decide_eq_true (by first | (with_reducible assumption) | assumption)
                      have q512 : x34_2 < (t509.length : Int) := of_decide_eq_true (by first | (with_reducible assumption) | assumption)
                      obtain ⟨ad512, A512_0, c512_0, e512, hx512_0, hl512_0, hi512_0⟩ := at_L7 (Kd.N_reads' HO_32.out).2.2 x34_2 p512 q512
                      cases e512
                      obtain ⟨ce512, hce512, hMe512, hcc512⟩ := Kd.N_get HO_32.out [] x34_2 p512 (by first | exact q512 | exact of_decide_eq_true (by first | (with_reducible assumption) | assumption) | (have e_ := (Kd.N_reads' HO_32.out).1; omega))
                      obtain ⟨ua512_0, uc512_0, rfl, ul512_0, ge512_0⟩ := Kd.FK_slice_open hMe512
                      have hv512_0 := hcc512 0 _ rfl
                      rw [Nat.add_zero, show ((Kd.slice 3 (Kd.int .i64))).sz = 1 from rfl, Nat.mul_one] at hv512_0
                      replace hv512_0 := Option.some.inj (hv512_0.symm.trans hx512_0)
                      injection hv512_0 with hva_ hvn_ hvc_
                      rw [hva_] at ge512_0
                      rw [hvc_] at ul512_0
                      have HL512_0 := Aside0.mk (show Kd.V (Kd.int .i64) 3 _ w.heap.size _ _ (rd_L7 t509 x34_2) from Kd.V_mk ul512_0 ge512_0)
                      clear hva_ hvn_ hvc_ ge512_0 ul512_0
                      clear hcc512 hce512
                      have HR512_0 := Aside0.mk hi512_0
                      have HC512_0 := Aside0.mk hl512_0
                      clear hi512_0 hl512_0
                      replace p512 := eq_true p512
                      replace q512 := eq_true q512
                      go_wp2_with (first | ((with_reducible refine gate_callee (f := 54) rfl ?_); refine goesL_ (some 41) rfl rfl Try.func54 (by kernel_rfl) rfl #[.slice A0 l0.length c0, .slice A512_0 (rd_L7 t509 x34_2).length c512_0] rfl (by (try simp only [List.map_toArray, List.map_cons, List.map_nil]); first | done | rfl | (simp only [List.length_drop, List.length_take]; rfl)) ?_; (with_reducible refine (spec_suTotals.calls k2 _ _ l0 _ _ (rd_L7 t509 x34_2) t513 t514 t515 _ ?side1 ?side2 ?side3 ?side4 A20.out).mono ?_); (case side1 => repeat (first | exact (Kd.C_below HR0.out HB.out) | (with_reducible refine Kd.C_alloc ?_ _) | (with_reducible refine Kd.C_drewN ?_ _) | (with_reducible refine Kd.C_drew ?_))); (case side2 => exact HC0.out); (case side3 => repeat (first | exact (by repeat (first | (with_reducible exact HR512_0.out) | (with_reducible refine Kd.C_alloc ?_ _) | (with_reducible refine Kd.C_drewN ?_ _) | (with_reducible refine Kd.C_drew ?_) | exact HR512_0.out)) | (with_reducible refine Kd.C_alloc ?_ _) | (with_reducible refine Kd.C_drewN ?_ _) | (with_reducible refine Kd.C_drew ?_))); (case side4 => exact HC512_0.out); rintro e w' ⟨rfl, ⟨nd, rfl⟩⟩; refine ⟨_, rfl, ?_⟩))
                      go_roundg k2
                      case measure => have := HJ3.out; have := HK2.out; omega
                      case rel => exact ⟨(rd_L7 t509 x34_2), (t513), (wrap64 (x34_2 + 1)), (by first | rfl | (simp; done) | (simp [*]; done)), (by first | rfl | (simp; done) | (simp [*]; done)), H', ⟨by have := HJ3.out; have := HK2.out; omega⟩, ⟨by (with_reducible repeat (first | apply Kd.V_alloc | apply Kd.V_drewN | apply Kd.V_drew)); exact HL512_0.out⟩, ⟨by (with_reducible repeat (first | apply Kd.N_alloc | apply Kd.N_drewN | apply Kd.N_drew)); exact HO_32.out⟩, ⟨by repeat (first | (with_reducible first | exact HB.out | apply below_alloc | apply pw_below_drewN | apply below_drew1) | exact HB.out)⟩⟩
                    · rw [if_neg c22] at H
                      have c22b0 : decide (x10_2 < 0) = false := decide_eq_false c22
                      clear c22
                      by_cases c23 : t513 < x10_2
                      · rw [if_pos c23] at H
                        have c23b0 : decide (t513 < x10_2) = true := decide_eq_true c23
                        clear c23
                        have H' := Aside0.mk H
                        clear H
                        have p512 : 0 ≤ (x34_2 : Int) := of_decide_eq_true (by first | (with_reducible assumption) | assumption)
                        have q512 : x34_2 < (t509.length : Int) := of_decide_eq_true (by first | (with_reducible assumption) | assumption)
                        obtain ⟨ad512, A512_0, c512_0, e512, hx512_0, hl512_0, hi512_0⟩ := at_L7 (Kd.N_reads' HO_32.out).2.2 x34_2 p512 q512
                        cases e512
                        obtain ⟨ce512, hce512, hMe512, hcc512⟩ := Kd.N_get HO_32.out [] x34_2 p512 (by first | exact q512 | exact of_decide_eq_true (by first | (with_reducible assumption) | assumption) | (have e_ := (Kd.N_reads' HO_32.out).1; omega))
                        obtain ⟨ua512_0, uc512_0, rfl, ul512_0, ge512_0⟩ := Kd.FK_slice_open hMe512
                        have hv512_0 := hcc512 0 _ rfl
                        rw [Nat.add_zero, show ((Kd.slice 3 (Kd.int .i64))).sz = 1 from rfl, Nat.mul_one] at hv512_0
                        replace hv512_0 := Option.some.inj (hv512_0.symm.trans hx512_0)
                        injection hv512_0 with hva_ hvn_ hvc_
                        rw [hva_] at ge512_0
                        rw [hvc_] at ul512_0
                        have HL512_0 := Aside0.mk (show Kd.V (Kd.int .i64) 3 _ w.heap.size _ _ (rd_L7 t509 x34_2) from Kd.V_mk ul512_0 ge512_0)
                        clear hva_ hvn_ hvc_ ge512_0 ul512_0
                        clear hcc512 hce512
                        have HR512_0 := Aside0.mk hi512_0
                        have HC512_0 := Aside0.mk hl512_0
                        clear hi512_0 hl512_0
                        replace p512 := eq_true p512
                        replace q512 := eq_true q512
                        go_wp2_with (first | ((with_reducible refine gate_callee (f := 54) rfl ?_); refine goesL_ (some 41) rfl rfl Try.func54 (by kernel_rfl) rfl #[.slice A0 l0.length c0, .slice A512_0 (rd_L7 t509 x34_2).length c512_0] rfl (by (try simp only [List.map_toArray, List.map_cons, List.map_nil]); first | done | rfl | (simp only [List.length_drop, List.length_take]; rfl)) ?_; (with_reducible refine (spec_suTotals.calls k2 _ _ l0 _ _ (rd_L7 t509 x34_2) t513 t514 t515 _ ?side1 ?side2 ?side3 ?side4 A20.out).mono ?_); (case side1 => repeat (first | exact (Kd.C_below HR0.out HB.out) | (with_reducible refine Kd.C_alloc ?_ _) | (with_reducible refine Kd.C_drewN ?_ _) | (with_reducible refine Kd.C_drew ?_))); (case side2 => exact HC0.out); (case side3 => repeat (first | exact (by repeat (first | (with_reducible exact HR512_0.out) | (with_reducible refine Kd.C_alloc ?_ _) | (with_reducible refine Kd.C_drewN ?_ _) | (with_reducible refine Kd.C_drew ?_) | exact HR512_0.out)) | (with_reducible refine Kd.C_alloc ?_ _) | (with_reducible refine Kd.C_drewN ?_ _) | (with_reducible refine Kd.C_drew ?_))); (case side4 => exact HC512_0.out); rintro e w' ⟨rfl, ⟨nd, rfl⟩⟩; refine ⟨_, rfl, ?_⟩))
                        go_roundg k2
                        case measure => have := HJ3.out; have := HK2.out; omega
                        case rel => exact ⟨(rd_L7 t509 x34_2), (t513), (wrap64 (x34_2 + 1)), (by first | rfl | (simp; done) | (simp [*]; done)), (by first | rfl | (simp; done) | (simp [*]; done)), H', ⟨by have := HJ3.out; have := HK2.out; omega⟩, ⟨by (with_reducible repeat (first | apply Kd.V_alloc | apply Kd.V_drewN | apply Kd.V_drew)); exact HL512_0.out⟩, ⟨by (with_reducible repeat (first | apply Kd.N_alloc | apply Kd.N_drewN | apply Kd.N_drew)); exact HO_32.out⟩, ⟨by repeat (first | (with_reducible first | exact HB.out | apply below_alloc | apply pw_below_drewN | apply below_drew1) | exact HB.out)⟩⟩
                      · rw [if_neg c23] at H
                        have c23b0 : decide (t513 < x10_2) = false := decide_eq_false c23
                        clear c23
                        have H' := Aside0.mk H
                        clear H
                        have p512 : 0 ≤ (x34_2 : Int) := of_decide_eq_true (by first | (with_reducible assumption) | assumption)
                        have q512 : x34_2 < (t509.length : Int) := of_decide_eq_true (by first | (with_reducible assumption) | assumption)
                        obtain ⟨ad512, A512_0, c512_0, e512, hx512_0, hl512_0, hi512_0⟩ := at_L7 (Kd.N_reads' HO_32.out).2.2 x34_2 p512 q512
                        cases e512
                        obtain ⟨ce512, hce512, hMe512, hcc512⟩ := Kd.N_get HO_32.out [] x34_2 p512 (by first | exact q512 | exact of_decide_eq_true (by first | (with_reducible assumption) | assumption) | (have e_ := (Kd.N_reads' HO_32.out).1; omega))
                        obtain ⟨ua512_0, uc512_0, rfl, ul512_0, ge512_0⟩ := Kd.FK_slice_open hMe512
                        have hv512_0 := hcc512 0 _ rfl
                        rw [Nat.add_zero, show ((Kd.slice 3 (Kd.int .i64))).sz = 1 from rfl, Nat.mul_one] at hv512_0
                        replace hv512_0 := Option.some.inj (hv512_0.symm.trans hx512_0)
                        injection hv512_0 with hva_ hvn_ hvc_
                        rw [hva_] at ge512_0
                        rw [hvc_] at ul512_0
                        have HL512_0 := Aside0.mk (show Kd.V (Kd.int .i64) 3 _ w.heap.size _ _ (rd_L7 t509 x34_2) from Kd.V_mk ul512_0 ge512_0)
                        clear hva_ hvn_ hvc_ ge512_0 ul512_0
                        clear hcc512 hce512
                        have HR512_0 := Aside0.mk hi512_0
                        have HC512_0 := Aside0.mk hl512_0
                        clear hi512_0 hl512_0
                        replace p512 := eq_true p512
                        replace q512 := eq_true q512
                        go_wp2_with (first | ((with_reducible refine gate_callee (f := 54) rfl ?_); refine goesL_ (some 41) rfl rfl Try.func54 (by kernel_rfl) rfl #[.slice A0 l0.length c0, .slice A512_0 (rd_L7 t509 x34_2).length c512_0] rfl (by (try simp only [List.map_toArray, List.map_cons, List.map_nil]); first | done | rfl | (simp only [List.length_drop, List.length_take]; rfl)) ?_; (with_reducible refine (spec_suTotals.calls k2 _ _ l0 _ _ (rd_L7 t509 x34_2) t513 t514 t515 _ ?side1 ?side2 ?side3 ?side4 A20.out).mono ?_); (case side1 => repeat (first | exact (Kd.C_below HR0.out HB.out) | (with_reducible refine Kd.C_alloc ?_ _) | (with_reducible refine Kd.C_drewN ?_ _) | (with_reducible refine Kd.C_drew ?_))); (case side2 => exact HC0.out); (case side3 => repeat (first | exact (by repeat (first | (with_reducible exact HR512_0.out) | (with_reducible refine Kd.C_alloc ?_ _) | (with_reducible refine Kd.C_drewN ?_ _) | (with_reducible refine Kd.C_drew ?_) | exact HR512_0.out)) | (with_reducible refine Kd.C_alloc ?_ _) | (with_reducible refine Kd.C_drewN ?_ _) | (with_reducible refine Kd.C_drew ?_))); (case side4 => exact HC512_0.out); rintro e w' ⟨rfl, ⟨nd, rfl⟩⟩; refine ⟨_, rfl, ?_⟩))
                        go_roundg k2
                        case measure => have := HJ3.out; have := HK2.out; omega
                        case rel => exact ⟨(x9_2), (x10_2), (wrap64 (x34_2 + 1)), (by first | rfl | (simp; done) | (simp [*]; done)), (by first | rfl | (simp; done) | (simp [*]; done)), H', ⟨by have := HJ3.out; have := HK2.out; omega⟩, ⟨by (with_reducible repeat (first | apply Kd.V_alloc | apply Kd.V_drewN | apply Kd.V_drew)); exact HO_9.out⟩, ⟨by (with_reducible repeat (first | apply Kd.N_alloc | apply Kd.N_drewN | apply Kd.N_drew)); exact HO_32.out⟩, ⟨by repeat (first | (with_reducible first | exact HB.out | apply below_alloc | apply pw_below_drewN | apply below_drew1) | exact HB.out)⟩⟩
                  · rw [if_neg c21] at H
                    have c21b0 : decide (a2 ≤ t515) = false := decide_eq_false c21
                    clear c21
                    have H' := Aside0.mk H
                    clear H
                    have p512 : 0 ≤ (x34_2 : Int) := of_decide_eq_true (by first | (with_reducible assumption) | assumption)
                    have q512 : x34_2 < (t509.length : Int) := of_decide_eq_true (by first | (with_reducible assumption) | assumption)
                    obtain ⟨ad512, A512_0, c512_0, e512, hx512_0, hl512_0, hi512_0⟩ := at_L7 (Kd.N_reads' HO_32.out).2.2 x34_2 p512 q512
                    cases e512
                    obtain ⟨ce512, hce512, hMe512, hcc512⟩ := Kd.N_get HO_32.out [] x34_2 p512 (by first | exact q512 | exact of_decide_eq_true (by first | (with_reducible assumption) | assumption) | (have e_ := (Kd.N_reads' HO_32.out).1; omega))
                    obtain ⟨ua512_0, uc512_0, rfl, ul512_0, ge512_0⟩ := Kd.FK_slice_open hMe512
                    have hv512_0 := hcc512 0 _ rfl
                    rw [Nat.add_zero, show ((Kd.slice 3 (Kd.int .i64))).sz = 1 from rfl, Nat.mul_one] at hv512_0
                    replace hv512_0 := Option.some.inj (hv512_0.symm.trans hx512_0)
                    injection hv512_0 with hva_ hvn_ hvc_
                    rw [hva_] at ge512_0
                    rw [hvc_] at ul512_0
                    have HL512_0 := Aside0.mk (show Kd.V (Kd.int .i64) 3 _ w.heap.size _ _ (rd_L7 t509 x34_2) from Kd.V_mk ul512_0 ge512_0)
                    clear hva_ hvn_ hvc_ ge512_0 ul512_0
                    clear hcc512 hce512
                    have HR512_0 := Aside0.mk hi512_0
                    have HC512_0 := Aside0.mk hl512_0
                    clear hi512_0 hl512_0
                    replace p512 := eq_true p512
                    replace q512 := eq_true q512
                    go_wp2_with (first | ((with_reducible refine gate_callee (f := 54) rfl ?_); refine goesL_ (some 41) rfl rfl Try.func54 (by kernel_rfl) rfl #[.slice A0 l0.length c0, .slice A512_0 (rd_L7 t509 x34_2).length c512_0] rfl (by (try simp only [List.map_toArray, List.map_cons, List.map_nil]); first | done | rfl | (simp only [List.length_drop, List.length_take]; rfl)) ?_; (with_reducible refine (spec_suTotals.calls k2 _ _ l0 _ _ (rd_L7 t509 x34_2) t513 t514 t515 _ ?side1 ?side2 ?side3 ?side4 A20.out).mono ?_); (case side1 => repeat (first | exact (Kd.C_below HR0.out HB.out) | (with_reducible refine Kd.C_alloc ?_ _) | (with_reducible refine Kd.C_drewN ?_ _) | (with_reducible refine Kd.C_drew ?_))); (case side2 => exact HC0.out); (case side3 => repeat (first | exact (by repeat (first | (with_reducible exact HR512_0.out) | (with_reducible refine Kd.C_alloc ?_ _) | (with_reducible refine Kd.C_drewN ?_ _) | (with_reducible refine Kd.C_drew ?_) | exact HR512_0.out)) | (with_reducible refine Kd.C_alloc ?_ _) | (with_reducible refine Kd.C_drewN ?_ _) | (with_reducible refine Kd.C_drew ?_))); (case side4 => exact HC512_0.out); rintro e w' ⟨rfl, ⟨nd, rfl⟩⟩; refine ⟨_, rfl, ?_⟩))
                    go_roundg k2
                    case measure => have := HJ3.out; have := HK2.out; omega
                    case rel => exact ⟨(x9_2), (x10_2), (wrap64 (x34_2 + 1)), (by first | rfl | (simp; done) | (simp [*]; done)), (by first | rfl | (simp; done) | (simp [*]; done)), H', ⟨by have := HJ3.out; have := HK2.out; omega⟩, ⟨by (with_reducible repeat (first | apply Kd.V_alloc | apply Kd.V_drewN | apply Kd.V_drew)); exact HO_9.out⟩, ⟨by (with_reducible repeat (first | apply Kd.N_alloc | apply Kd.N_drewN | apply Kd.N_drew)); exact HO_32.out⟩, ⟨by repeat (first | (with_reducible first | exact HB.out | apply below_alloc | apply pw_below_drewN | apply below_drew1) | exact HB.out)⟩⟩
                · rw [if_neg c19] at H
                  exact absurd H (by simp)
              · rw [if_neg c18] at H
                exact absurd H (by simp)
            · rw [if_neg c17] at H
              have c17b0 : decide (x34_2 < (t509.length : Int)) = false := decide_eq_false c17
              clear c17
              by_cases c24 : x10_2 < 0
              · rw [if_pos c24] at H
                have c24b0 : decide (x10_2 < 0) = true := decide_eq_true c24
                clear c24
                simp only [Option.some.injEq, Prod.mk.injEq] at H
                obtain ⟨rfl, rfl, rfl⟩ := H
                go_wp2
                go_ret3
                exact ⟨_, by first | rfl | (simp [errW_none, errW_some] <;> rfl) | (simp [*, errW_none, errW_some] <;> rfl), (Kd.V_nil _ _ _ _ _), by repeat (first | (with_reducible first | exact HB.out | apply below_alloc | apply pw_below_drewN | apply below_drew1) | exact HB.out)⟩
              · rw [if_neg c24] at H
                have c24b0 : decide (x10_2 < 0) = false := decide_eq_false c24
                clear c24
                simp only [Option.some.injEq, Prod.mk.injEq] at H
                obtain ⟨rfl, rfl, rfl⟩ := H
                go_wp2
                go_ret3
                exact ⟨_, by first | rfl | (simp [errW_none, errW_some] <;> rfl) | (simp [*, errW_none, errW_some] <;> rfl), by (with_reducible repeat (first | apply Kd.V_alloc | apply Kd.V_drewN | apply Kd.V_drew)); exact Kd.V_mono HO_9.out (fun _ hk => hk.1), by repeat (first | (with_reducible first | exact HB.out | apply below_alloc | apply pw_below_drewN | apply below_drew1) | exact HB.out)⟩

end Go.Proofs.Ytgghcngfleicnaa.Q

namespace Go.Proofs.Ytgghcngfleicnaa.Q
open Go.RowKit Go.Shelf Go.Proofs.YtgghcngfleicnaaW.PrintWords Go.Proofs.YtgghcngfleicnaaW.PrintLast Go.Proofs.YtgghcngfleicnaaW.PrintMore
set_option linter.unusedVariables false
set_option linter.unusedSimpArgs false

theorem Two.later {σ : Type} {items : List Item} {S : Nat → Prop} {I : σ → World → Prop} {base : Nat} {w w1 : World} {ga : Nat} {bda fra : Array Value} {ge : Nat} {bde fre : Array Value} {accept : Int × Int × Int → Bool} {step : σ → List Int → σ}
    (T : Two items S I base w ga bda fra ge bde fre accept step) (h : Fr S w w1) : Two items S I base w1 ga bda fra ge bde fre accept step :=
  ⟨T.ea, T.ee, T.st, fun W x hF => T.acc W x (h.trans hF), fun s W v ch hF => T.each s W v ch (h.trans hF)⟩

/-- All lists of items, in order. -/
def allV (n : Nat) : List (List Int) := [] :: loopV n [] 0

set_option maxRecDepth 100000 in
set_option maxHeartbeats 4000000 in
theorem choices_calls {σ : Type} (items : List Item) (A0 : Option Addr) (c0 : Nat) (S : Nat → Prop) (I : σ → World → Prop) (base : Nat) (w : World) (ga : Nat) (bda fra : Array Value) (ge : Nat) (bde fre : Array Value) (accept : Int × Int × Int → Bool) (step : σ → List Int → σ) (s : σ)
    (hn : items.length ≤ 1000) (T : Two items S I base w ga bda fra ge bde fre accept step) (hb : base ≤ w.heap.size) (hSl : ∀ k, S k → k < w.heap.size)
    (hC : ∀ W, Fr S w W → Kd.C k54 W A0 items.length items) (hc0 : items.length ≤ c0) (hI : I s w) :
    Calls Try.prog 64 #[.slice A0 items.length c0, .func (.func ga) bda fra, .func (.func ge) bde fre] w fun e w' => e = .returned (.tuple #[]) ∧ I ((allV items.length).foldl (visit items accept step) s) w' ∧ Fr S w w' := by
  have x1 := Boxed.new w 25 (.slice A0 items.length c0)
  obtain ⟨w1, e1⟩ : ∃ w1, w.alloc (.cells #[.slice A0 items.length c0] 25) = w1 := ⟨_, rfl⟩
  have b1 : Below w.heap.size w w1 := by rw [← e1]; exact (Below.refl _ w).alloc (Nat.le_refl _) _
  rw [e1] at x1
  have x2 := Boxed.new w1 60 (.func (.func ga) bda fra)
  have y1 := x1.alloc (.cells #[.func (.func ga) bda fra] 60)
  obtain ⟨w2, e2⟩ : ∃ w2, w1.alloc (.cells #[.func (.func ga) bda fra] 60) = w2 := ⟨_, rfl⟩
  have b2 : Below w.heap.size w w2 := by rw [← e2]; exact b1.alloc b1.size _
  rw [e2] at x2 y1
  have x3 := Boxed.new w2 81 (.func (.func ge) bde fre)
  have y2 := x2.alloc (.cells #[.func (.func ge) bde fre] 81)
  have u1 := y1.alloc (.cells #[.func (.func ge) bde fre] 81)
  obtain ⟨w3, e3⟩ : ∃ w3, w2.alloc (.cells #[.func (.func ge) bde fre] 81) = w3 := ⟨_, rfl⟩
  have b3 : Below w.heap.size w w3 := by rw [← e3]; exact b2.alloc b2.size _
  rw [e3] at x3 y2 u1
  obtain ⟨fv, hfv⟩ : ∃ fv : Value, fv = .func (.func 78) #[] #[.pointer (some ⟨w.heap.size, 0, none⟩), .pointer (some ⟨w1.heap.size, 0, none⟩), .pointer (some ⟨w2.heap.size, 0, none⟩), .pointer (some ⟨w3.heap.size, 0, none⟩)] := ⟨_, rfl⟩
  have x4 := Boxed.new w3 90 fv
  have y3 := x3.alloc (.cells #[fv] 90)
  have u2 := y2.alloc (.cells #[fv] 90)
  have v1 := u1.alloc (.cells #[fv] 90)
  obtain ⟨w4, e4⟩ : ∃ w4, w3.alloc (.cells #[fv] 90) = w4 := ⟨_, rfl⟩
  have b4 : Below w.heap.size w w4 := by rw [← e4]; exact b3.alloc b3.size _
  rw [e4] at x4 y3 u2 v1
  have F4 : Fr S w w4 := Fr.of b4
  have nS : ∀ k, w.heap.size ≤ k → ¬ S k := fun k hk hs => by have := hSl k hs; omega
  have hcall := choose_calls items A0 c0 S I base w4 ga bda fra ge bde fre accept step w.heap.size w1.heap.size (w2.heap.size) (w3.heap.size) hn (T.later F4) (Nat.le_trans hb b4.size) (fun k hk => Nat.lt_of_lt_of_le (hSl k hk) b4.size) (fun W h => hC W (F4.trans h)) hc0 v1 u2 y3 (hfv ▸ x4) (nS _ (Nat.le_refl _)) (nS _ b1.size) (nS _ b2.size) (nS _ b3.size)
    items.length s w4 (.slice none 0 0) [] 0 (by omega) (Fr.refl _ _) (T.st _ _ _ hI b4) (Kd.R_nil _ _ _ _ _) (fun x hx => by cases hx) (by simp)
  have HCALL := Aside0.mk hcall
  have q4 := x4.cell
  have HF4 := Aside0.mk F4
  clear hcall x1 x2 x3 x4 y1 y2 y3 u1 u2 v1 b1 b2 b3 b4 T hC hI F4
  subst hfv
  go_enter Try.func64, Try.ntmps64
  go_wp2_with (go_at_call 78; refine HCALL.out.mono ?_; rintro e w5 ⟨rfl, hI5, hF5⟩)
  go_end0
  exact ⟨rfl, hI5, HF4.out.trans hF5⟩

/-! bestOf -/
abbrev Best := List Int × Int × Int
def bestStep (items : List Item) (sc : List Int → Int × Int × Int → Int) (s : Best) (ch : List Int) : Best :=
  if s.2.1 < sc ch (tot items ch) then (ch, sc ch (tot items ch), 1) else if sc ch (tot items ch) = s.2.1 then (s.1, s.2.1, wrap64 (s.2.2 + 1)) else s
/-- What the score is. -/
def ScoreOk (g : Nat) (sc : List Int → Int × Int × Int → Int) : Prop :=
  ∀ (W : World) (A : Option Addr) (c : Nat) (ch : List Int) (x : Int × Int × Int), Kd.C kInt W A ch.length ch → ch.length ≤ c →
    Calls Try.prog g #[.slice A ch.length c, valTot x] W fun e w' => e = .returned (.int .i64 (sc ch x)) ∧ Below W.heap.size W w'
/-- The three variables of bestOf. -/
def Three (base Bb Bm Bk : Nat) (s : Best) (W : World) : Prop :=
  (∃ v, Boxed W Bb 29 v ∧ Kd.R kInt 3 W base (fun k => ¬ (k = Bb ∨ k = Bm ∨ k = Bk)) v s.1) ∧ Boxed W Bm 3 (.int .i64 s.2.1) ∧ Boxed W Bk 3 (.int .i64 s.2.2)
theorem Three.later {base Bb Bm Bk : Nat} {s : Best} {W W' : World} (h : Three base Bb Bm Bk s W) (hb : Below W.heap.size W W') : Three base Bb Bm Bk s W' := by
  obtain ⟨⟨v, h1, h2⟩, h3, h4⟩ := h
  exact ⟨⟨v, box_below h1 hb, Kd.R_below h2 hb⟩, box_below h3 hb, box_below h4 hb⟩

set_option maxRecDepth 100000 in
set_option maxHeartbeats 4000000 in
theorem bestOf1_calls (items : List Item) (g : Nat) (sc : List Int → Int × Int × Int → Int) (eg : ∀ args w, (callFunc g args).run Try.prog w = .ok (.enter g args) w) (hsc : ScoreOk g sc) (base Bs Bb Bm Bk : Nat) (hbm : Bb ≠ Bm) (hbk : Bb ≠ Bk) (hmk : Bm ≠ Bk)
    (s : Best) (W : World) (v : Value) (ch : List Int) (hs : Boxed W Bs 69 (.func (.func g) #[] #[])) (hI : Three base Bb Bm Bk s W) (hv : Kd.R kInt 3 W base (fun k => ¬ (k = Bb ∨ k = Bm ∨ k = Bk)) v ch) :
    Calls Try.prog 75 #[v, valTot (tot items ch), .pointer (some ⟨Bs, 0, none⟩), .pointer (some ⟨Bm, 0, none⟩), .pointer (some ⟨Bb, 0, none⟩), .pointer (some ⟨Bk, 0, none⟩)] W
      fun e w' => e = .returned (.tuple #[]) ∧ Three base Bb Bm Bk (bestStep items sc s ch) w' ∧ Fr (fun k => k = Bb ∨ k = Bm ∨ k = Bk) W w' := by
  obtain ⟨A1, c1, rfl, hc1, hC1⟩ := Kd.R_reads hv
  have HI := Aside0.mk hI
  have HV := Aside0.mk hv
  have HC1 := Aside0.mk hC1
  have XS := Aside0.mk hs
  clear hI hv hC1 hs
  have q1 := (XS.out.alloc (.cells #[.int .i64 (tot items ch).1, .int .i64 (tot items ch).2.1, .int .i64 (tot items ch).2.2] 54)).cell
  go_enter Try.func75, Try.ntmps75
  have hcall := hsc (W.alloc (.cells #[.int .i64 (tot items ch).1, .int .i64 (tot items ch).2.1, .int .i64 (tot items ch).2.2] 54)) A1 c1 ch (tot items ch) (Kd.C_below HC1.out ((Below.refl _ W).alloc (Nat.le_refl _) _)) hc1
  have B1 := Aside0.mk ((Below.refl _ W).alloc (Nat.le_refl _) (.cells #[.int .i64 (tot items ch).1, .int .i64 (tot items ch).2.1, .int .i64 (tot items ch).2.2] 54))
  generalize hn : sc ch (tot items ch) = n at hcall
  have HN := Aside0.mk hn
  clear hn
  have hbm2 := Ne.symm hbm
  have hbk2 := Ne.symm hbk
  have hmk2 := Ne.symm hmk
  obtain ⟨b, m, k⟩ := s
  by_cases h1 : m < n
  · go_wp2_with (go_at_fn g; refine hcall.mono ?_; rintro e w2 ⟨rfl, hb2⟩; have B2 := Aside0.mk (B1.out.trans (hb2.mono B1.out.size)); obtain ⟨⟨vb, xb, xr⟩, xm, xk⟩ := HI.out.later B2.out; have qm := xm.cell; have fm := xm.frozen; have fb := xb.frozen; have fk := xk.frozen; have qb := xb.cell; have qk := xk.cell)
    go_end0
    have hF : Fr (fun k => k = Bb ∨ k = Bm ∨ k = Bk) W (((w2.setCell ⟨Bb, 0, none⟩ (.slice A1 ch.length c1)).setCell ⟨Bm, 0, none⟩ (.int .i64 n)).setCell ⟨Bk, 0, none⟩ (.int .i64 1)) :=
      (((Fr.of B2.out).set _ _ (.inl (.inl rfl))).set _ _ (.inl (.inr (.inl rfl)))).set _ _ (.inl (.inr (.inr rfl)))
    refine ⟨rfl, ?_, hF⟩
    unfold bestStep
    rw [HN.out, if_pos h1]
    exact ⟨⟨_, ((xb.set _).other hbm _).other hbk _, R_fr HV.out hF (fun _ h => h)⟩, ((xm.other hbm2 _).set _).other hmk _, ((xk.other hbk2 _).other hmk2 _).set _⟩
  · by_cases h2 : n = m
    · go_wp2_with (go_at_fn g; refine hcall.mono ?_; rintro e w2 ⟨rfl, hb2⟩; have B2 := Aside0.mk (B1.out.trans (hb2.mono B1.out.size)); obtain ⟨⟨vb, xb, xr⟩, xm, xk⟩ := HI.out.later B2.out; have qm := xm.cell; have fm := xm.frozen; have fb := xb.frozen; have fk := xk.frozen; have qb := xb.cell; have qk := xk.cell)
      go_end0
      have hF : Fr (fun k => k = Bb ∨ k = Bm ∨ k = Bk) W (w2.setCell ⟨Bk, 0, none⟩ (.int .i64 (wrap64 (k + 1)))) := (Fr.of B2.out).set _ _ (.inl (.inr (.inr rfl)))
      refine ⟨rfl, ?_, hF⟩
      unfold bestStep
      rw [HN.out, if_neg (by simp only; omega), if_pos h2]
      exact ⟨⟨_, xb.other hbk _, R_fr xr (Fr.set (Fr.refl _ w2) _ _ (.inl (.inr (.inr rfl)))) (fun _ h => h)⟩, xm.other hmk _, xk.set _⟩
    · go_wp2_with (go_at_fn g; refine hcall.mono ?_; rintro e w2 ⟨rfl, hb2⟩; have B2 := Aside0.mk (B1.out.trans (hb2.mono B1.out.size)); obtain ⟨⟨vb, xb, xr⟩, xm, xk⟩ := HI.out.later B2.out; have qm := xm.cell; have fm := xm.frozen; have fb := xb.frozen; have fk := xk.frozen; have qb := xb.cell; have qk := xk.cell)
      go_end0
      refine ⟨rfl, ?_, Fr.of B2.out⟩
      unfold bestStep
      rw [HN.out, if_neg (by simp only; omega), if_neg (by simp only; omega)]
      exact ⟨⟨_, xb, xr⟩, xm, xk⟩
end Go.Proofs.Ytgghcngfleicnaa.Q

namespace Go.Proofs.Ytgghcngfleicnaa.Q
open Go.RowKit Go.Shelf Go.Proofs.YtgghcngfleicnaaW.PrintWords Go.Proofs.YtgghcngfleicnaaW.PrintLast Go.Proofs.YtgghcngfleicnaaW.PrintMore
set_option linter.unusedVariables false
set_option linter.unusedSimpArgs false

def askedL (bulk value : Int) (x : Int × Int × Int) : Bool := decide (x.2.1 ≤ bulk) && decide (value ≤ x.2.2)
set_option maxHeartbeats 2000000 in
theorem light1_calls (Bb Bv : Nat) (bulk value : Int) (x : Int × Int × Int) (W : World) (hb : Boxed W Bb 3 (.int .i64 bulk)) (hv : Boxed W Bv 3 (.int .i64 value)) :
    Calls Try.prog 65 #[valTot x, .pointer (some ⟨Bb, 0, none⟩), .pointer (some ⟨Bv, 0, none⟩)] W fun e w' => e = .returned (.bool (askedL bulk value x)) ∧ Below W.heap.size W w' := by
  obtain ⟨x1, x2, x3⟩ := x
  have q1 := (hb.alloc (.cells #[.int .i64 x1, .int .i64 x2, .int .i64 x3] 54)).cell
  have q2 := (hv.alloc (.cells #[.int .i64 x1, .int .i64 x2, .int .i64 x3] 54)).cell
  clear hb hv
  unfold askedL
  simp only
  by_cases h1 : x2 ≤ bulk
  · by_cases h2 : value ≤ x3
    all_goals
      go_enter Try.func65, Try.ntmps65
      go_wp2
      go_ret
      exact ⟨ret_bool (by simp [h1, h2] <;> omega), (Below.refl _ W).alloc (Nat.le_refl _) _⟩
  · go_enter Try.func65, Try.ntmps65
    go_wp2
    go_ret
    exact ⟨ret_bool (by simp [h1] <;> omega), (Below.refl _ W).alloc (Nat.le_refl _) _⟩

abbrev Light2 := List Int × Int
def lightStep (items : List Item) (s : Light2) (ch : List Int) : Light2 := if s.2 < 0 ∨ (tot items ch).1 < s.2 then (ch, (tot items ch).1) else s
def LightV (base Bb Bm : Nat) (s : Light2) (W : World) : Prop :=
  (∃ v, Boxed W Bb 29 v ∧ Kd.R kInt 3 W base (fun k => ¬ (k = Bb ∨ k = Bm)) v s.1) ∧ Boxed W Bm 3 (.int .i64 s.2)
theorem LightV.later {base Bb Bm : Nat} {s : Light2} {W W' : World} (h : LightV base Bb Bm s W) (hb : Below W.heap.size W W') : LightV base Bb Bm s W' := by
  obtain ⟨⟨v, h1, h2⟩, h3⟩ := h
  exact ⟨⟨v, box_below h1 hb, Kd.R_below h2 hb⟩, box_below h3 hb⟩

set_option maxRecDepth 100000 in
set_option maxHeartbeats 4000000 in
theorem light2_calls (items : List Item) (base Bb Bm : Nat) (hbm : Bb ≠ Bm) (s : Light2) (W : World) (v : Value) (ch : List Int) (hI : LightV base Bb Bm s W) (hv : Kd.R kInt 3 W base (fun k => ¬ (k = Bb ∨ k = Bm)) v ch) :
    Calls Try.prog 66 #[v, valTot (tot items ch), .pointer (some ⟨Bm, 0, none⟩), .pointer (some ⟨Bb, 0, none⟩)] W
      fun e w' => e = .returned (.tuple #[]) ∧ LightV base Bb Bm (lightStep items s ch) w' ∧ Fr (fun k => k = Bb ∨ k = Bm) W w' := by
  obtain ⟨A1, c1, rfl, hc1, hC1⟩ := Kd.R_reads hv
  have HV := Aside0.mk hv
  obtain ⟨b, m⟩ := s
  unfold lightStep
  generalize htt : tot items ch = tt
  obtain ⟨t1, t2, t3⟩ := tt
  have b1 := (Below.refl _ W).alloc (Nat.le_refl _) (.cells #[.int .i64 t1, .int .i64 t2, .int .i64 t3] 54)
  have hnew := heap_alloc_new W (.cells #[.int .i64 t1, .int .i64 t2, .int .i64 t3] 54)
  obtain ⟨⟨vb, xb, xr⟩, xm⟩ := hI.later b1
  have hb1 : Bb < W.heap.size := by obtain ⟨⟨_, x, _⟩, _⟩ := hI; exact x.lt
  have hm1 : Bm < W.heap.size := by obtain ⟨_, x⟩ := hI; exact x.lt
  obtain ⟨W1, e1⟩ : ∃ W1, W.alloc (.cells #[.int .i64 t1, .int .i64 t2, .int .i64 t3] 54) = W1 := ⟨_, rfl⟩
  rw [e1] at b1 hnew xb xr xm
  have B1 := Aside0.mk b1
  have HXB := Aside0.mk xb
  have HXM := Aside0.mk xm
  have HXR := Aside0.mk xr
  have qm := xm.cell
  have fm := xm.frozen
  have fb := xb.frozen
  have qb := xb.cell
  have k0 : W1.cell? ⟨W.heap.size, 0, none⟩ = some (.int .i64 t1) := (blk_cell hnew 0).trans rfl
  have hbm2 := Ne.symm hbm
  have hne1 : W.heap.size ≠ Bb := by omega
  have hne2 : W.heap.size ≠ Bm := by omega
  clear hv hC1 hI xb xm xr b1 hnew hb1 hm1
  by_cases h1 : m < 0
  · go_enter Try.func66, Try.ntmps66
    go_wp2
    go_region
    all_goals
      go_wp2
      go_end0
      have hF : Fr (fun k => k = Bb ∨ k = Bm) W (((W1.setCell ⟨Bb, 0, none⟩ (.slice A1 ch.length c1)).setCell ⟨Bm, 0, none⟩ (.int .i64 t1)).drew) :=
        (((Fr.of B1.out).set _ _ (.inl (.inl rfl))).set _ _ (.inl (.inr rfl))).drew
      refine ⟨rfl, ?_, hF⟩
      exact ⟨⟨_, box_below ((HXB.out.set _).other hbm _) ((Below.refl _ _).drew), R_fr HV.out hF (fun _ h => h)⟩, box_below ((HXM.out.other hbm2 _).set _) ((Below.refl _ _).drew)⟩
  · by_cases h2 : t1 < m
    · go_enter Try.func66, Try.ntmps66
      go_wp2
      go_region
      all_goals
        go_wp2
        go_end0
        have hF : Fr (fun k => k = Bb ∨ k = Bm) W (((W1.setCell ⟨Bb, 0, none⟩ (.slice A1 ch.length c1)).setCell ⟨Bm, 0, none⟩ (.int .i64 t1)).drew) :=
          (((Fr.of B1.out).set _ _ (.inl (.inl rfl))).set _ _ (.inl (.inr rfl))).drew
        refine ⟨rfl, ?_, hF⟩
        exact ⟨⟨_, box_below ((HXB.out.set _).other hbm _) ((Below.refl _ _).drew), R_fr HV.out hF (fun _ h => h)⟩, box_below ((HXM.out.other hbm2 _).set _) ((Below.refl _ _).drew)⟩
    · go_enter Try.func66, Try.ntmps66
      go_wp2
      go_end0
      refine ⟨rfl, ?_, Fr.of B1.out⟩
      exact ⟨⟨_, HXB.out, HXR.out⟩, HXM.out⟩

def lightAll (items : List Item) (bulk value : Int) : Light2 := (allV items.length).foldl (visit items (askedL bulk value) (lightStep items)) ([], -1)
def inside (a lo hi : Int) : Bool := decide (lo ≤ a) && decide (a ≤ hi)
theorem within_calls (a lo hi : Int) (W : World) : Calls Try.prog 41 #[.int .i64 a, .int .i64 lo, .int .i64 hi] W fun e w' => e = .returned (.bool (inside a lo hi)) ∧ w' = W := by
  unfold inside
  by_cases h1 : lo ≤ a
  · by_cases h2 : a ≤ hi
    all_goals
      go_enter Try.func41, Try.ntmps41
      go_wp2
      go_ret
      exact ⟨ret_bool (by simp [h1, h2] <;> omega), rfl⟩
  · go_enter Try.func41, Try.ntmps41
    go_wp2
    go_ret
    exact ⟨ret_bool (by simp [h1] <;> omega), rfl⟩
def impl_LightestFor.f (l0 : List Item) (a1 a2 : Int) : Option (List Int × Int × Bool) :=
  (impl_AreItems.f l0).bind fun t => if (t && inside a1 0 200 && inside a2 0 10000) = true then (if l0.length ≤ 1000 then (if (lightAll l0 a1 a2).2 < 0 then some ([], 0, false) else some ((lightAll l0 a1 a2).1, (lightAll l0 a1 a2).2, true)) else none) else some ([], 0, false)
set_option maxRecDepth 100000 in
set_option maxHeartbeats 1000000 in
theorem impl_LightestFor.calls (A0 : Option Addr) (c0 : Nat) (l0 : List Item) (a1 a2 : Int) (r1 : List Int) (r2 : Int) (r3 : Bool) (w : World) (hr0 : Kd.C k54 w A0 l0.length l0) (hc0 : l0.length ≤ c0) (h : impl_LightestFor.f l0 a1 a2 = some (r1, r2, r3)) :
    Calls Try.prog 38 #[.slice A0 l0.length c0, .int .i64 a1, .int .i64 a2] w fun e w' => ∃ v0_ : Value, e = .returned (.tuple #[v0_, .int .i64 r2, .bool r3]) ∧ Kd.R (Kd.int .i64) 3 w' w.heap.size (fun _ => True) v0_ r1 ∧ Below w.heap.size w w' := by
  unfold impl_LightestFor.f at h
  obtain ⟨t, ht, h⟩ := Option.bind_eq_some_iff.mp h
  have x1 := (Boxed.new w 3 (.int .i64 a1)).alloc (.cells #[.int .i64 a2] 3)
  have x2 := Boxed.new (w.alloc (.cells #[.int .i64 a1] 3)) 3 (.int .i64 a2)
  have b2 : Below w.heap.size w ((w.alloc (.cells #[.int .i64 a1] 3)).alloc (.cells #[.int .i64 a2] 3)) := ((Below.refl _ w).alloc (by simp) _).alloc (by simp) _
  have hare := impl_AreItems.calls A0 c0 l0 t _ (Kd.C_below hr0 b2) hc0 ht
  have HR := Aside0.mk hr0
  have B2 := Aside0.mk b2
  have X1 := Aside0.mk x1
  simp only [show ∀ (W : World) (o : Obj), (W.alloc o).heap.size = W.heap.size + 1 from fun W o => by simp] at x2
  have X2 := Aside0.mk x2
  have q01 := x1.cell
  have q02 := x2.cell
  clear hr0 ht x1 x2 b2
  cases hc : (t && inside a1 0 200 && inside a2 0 10000) with
  | false =>
    rw [hc] at h
    have hr : [] = r1 ∧ 0 = r2 ∧ false = r3 := by simpa using h
    obtain ⟨rfl, rfl, rfl⟩ := hr
    clear h
    cases t <;> cases ha : inside a1 0 200 <;> cases hb : inside a2 0 10000 <;> simp only [ha, hb, Bool.and_true, Bool.and_false, Bool.true_and, Bool.false_and, Bool.true_eq_false, reduceCtorEq] at hc
    all_goals
      go_enter Try.func38, Try.ntmps38
      go_wp2_with (first
        | (go_at_call 15; refine hare.mono ?_; rintro e w1 ⟨rfl, hb1⟩; have B3 := Aside0.mk (B2.out.trans (hb1.mono B2.out.size)); have Y1 := Aside0.mk (box_below X1.out hb1); have Y2 := Aside0.mk (box_below X2.out hb1); have q1 := Y1.out.cell; have q2 := Y2.out.cell)
        | (go_at_call 41; refine (within_calls _ _ _ _).mono ?_; rintro e w' ⟨rfl, rfl⟩))
      go_ret3
      exact ⟨_, rfl, Kd.R_nil _ _ _ _ _, B3.out⟩
  | true =>
    have hn : l0.length ≤ 1000 := by
      by_cases hn : l0.length ≤ 1000
      · exact hn
      · simp [hc, hn] at h
    simp only [hc, if_true, hn] at h
    simp only [Bool.and_eq_true] at hc
    obtain ⟨⟨rfl, ha⟩, hb⟩ := hc
    generalize hlr : lightAll l0 a1 a2 = lr at h
    obtain ⟨lb, lm⟩ := lr
    have HLR := Aside0.mk hlr
    have H := Aside0.mk h
    clear hlr h
    have hT : ∀ W5, Below w.heap.size w W5 → Boxed W5 w.heap.size 3 (.int .i64 a1) → Boxed W5 (w.heap.size + 1) 3 (.int .i64 a2) → ∀ Bb Bm : Nat, Bb ≠ Bm → w.heap.size + 1 < Bb → w.heap.size + 1 < Bm → Bb < W5.heap.size → Bm < W5.heap.size → LightV w.heap.size Bb Bm ([], -1) W5 →
        Calls Try.prog 64 #[.slice A0 l0.length c0, .func (.func 65) #[] #[.pointer (some ⟨w.heap.size, 0, none⟩), .pointer (some ⟨w.heap.size + 1, 0, none⟩)], .func (.func 66) #[] #[.pointer (some ⟨Bm, 0, none⟩), .pointer (some ⟨Bb, 0, none⟩)]] W5
          fun e w' => e = .returned (.tuple #[]) ∧ LightV w.heap.size Bb Bm (lb, lm) w' ∧ Fr (fun k => k = Bb ∨ k = Bm) W5 w' := fun W5 b5 y1 y2 Bb Bm hne h1 h2 h3 h4 hV => by
      have hTwo : Two l0 (fun k => k = Bb ∨ k = Bm) (LightV w.heap.size Bb Bm) w.heap.size W5
          65 #[] #[.pointer (some ⟨w.heap.size, 0, none⟩), .pointer (some ⟨w.heap.size + 1, 0, none⟩)] 66 #[] #[.pointer (some ⟨Bm, 0, none⟩), .pointer (some ⟨Bb, 0, none⟩)] (askedL a1 a2) (lightStep l0) := by
        refine ⟨enters_of Try.func65 (by kernel_rfl) rfl, enters_of Try.func66 (by kernel_rfl) rfl, fun s W W' h hb => h.later hb, fun W x hF => ?_, fun s W v ch hF hI hv _ _ _ => ?_⟩
        · exact light1_calls w.heap.size (w.heap.size + 1) a1 a2 x W (box_fr y1 hF (by omega)) (box_fr y2 hF (by omega))
        · exact light2_calls l0 w.heap.size Bb Bm hne s W v ch hI hv
      have := choices_calls l0 A0 c0 _ _ w.heap.size W5 _ _ _ _ _ _ _ _ ([], -1) hn hTwo b5.size (fun k hk => by omega)
        (fun W h => Kd.C_below HR.out (b5.trans (h.below (fun k hk => by omega) b5.size))) hc0 hV
      rw [show (allV l0.length).foldl (visit l0 (askedL a1 a2) (lightStep l0)) ([], -1) = (lb, lm) from HLR.out] at this
      exact this
    have HT := Aside0.mk hT
    clear hT
    go_enter Try.func38, Try.ntmps38
    go_upto_region 3 with (first
      | (go_at_call 15; refine hare.mono ?_; rintro e w1 ⟨rfl, hb1⟩; have B3 := Aside0.mk (B2.out.trans (hb1.mono B2.out.size)); have Y1 := Aside0.mk (box_below X1.out hb1); have Y2 := Aside0.mk (box_below X2.out hb1); have q1 := Y1.out.cell; have q2 := Y2.out.cell)
      | (go_at_call 41; refine (within_calls _ _ _ _).mono ?_; rintro e w' ⟨rfl, rfl⟩))
    have hsz : w.heap.size + 2 ≤ w'.heap.size := by have := Y2.out.lt; have := B3.out.size; omega
    have HSZ := Aside0.mk hsz
    clear hsz q1 q2 q01 q02
    go_wp2_with fail
    have x3 := (Boxed.new w' 29 (.slice none 0 0)).alloc (.cells #[.int .i64 (-1)] 3)
    have x4 := Boxed.new (w'.alloc (.cells #[.slice none 0 0] 29)) 3 (.int .i64 (-1))
    have b4 : Below w'.heap.size w' ((w'.alloc (.cells #[.slice none 0 0] 29)).alloc (.cells #[.int .i64 (-1)] 3)) := ((Below.refl _ w').alloc (by simp) _).alloc (by simp) _
    have z4 : ((w'.alloc (.cells #[.slice none 0 0] 29)).alloc (.cells #[.int .i64 (-1)] 3)).heap.size = w'.heap.size + 2 := by simp
    generalize ((w'.alloc (.cells #[.slice none 0 0] 29)).alloc (.cells #[.int .i64 (-1)] 3)) = W5 at x3 x4 b4 z4 ⊢
    simp only [show ∀ (W : World) (o : Obj), (W.alloc o).heap.size = W.heap.size + 1 from fun W o => by simp] at x4
    have hcall := HT.out W5 (B3.out.trans (b4.mono B3.out.size)) (box_below Y1.out b4) (box_below Y2.out b4) w'.heap.size (w'.heap.size + 1) (by omega) (by have := HSZ.out; omega) (by have := HSZ.out; omega) (by omega) (by omega) ⟨⟨_, x3, Kd.R_nil _ _ _ _ _⟩, x4⟩
    have B5 := Aside0.mk (B3.out.trans (b4.mono B3.out.size))
    clear x3 x4 b4 z4
    cases hlm : decide (lm < 0) with
    | true =>
      have hneg : lm < 0 := of_decide_eq_true hlm
      go_wp2_with (go_at_call 64; refine hcall.mono ?_; rintro e w6 ⟨rfl, ⟨⟨v, xb, xr⟩, xm⟩, hF6⟩; have q6 := xm.cell)
      go_ret3
      have hr := H.out
      simp only [if_pos hneg, Option.some.injEq, Prod.mk.injEq] at hr
      obtain ⟨e1, e2, e3⟩ := hr
      subst e1 e2 e3
      exact ⟨_, rfl, Kd.R_nil _ _ _ _ _, B5.out.trans (hF6.below (fun k hk => by have := HSZ.out; omega) B5.out.size)⟩
    | false =>
      have hneg : ¬ lm < 0 := of_decide_eq_false hlm
      go_wp2_with (go_at_call 64; refine hcall.mono ?_; rintro e w6 ⟨rfl, ⟨⟨v, xb, xr⟩, xm⟩, hF6⟩; have q6 := xm.cell; have q7 := xb.cell; obtain ⟨A6, c6, rfl⟩ := Kd.R_slice xr)
      have HX := Aside0.mk xr
      clear xr
      go_region
      all_goals
        go_wp2
        go_ret3
        have hr := H.out
        rw [if_neg (by omega)] at hr
        simp only [Option.some.injEq, Prod.mk.injEq] at hr
        obtain ⟨e1, e2, e3⟩ := hr
        subst e1 e2 e3
        exact ⟨_, rfl, Kd.R_mono HX.out (fun _ _ => trivial), (B5.out.trans (hF6.below (fun k hk => by have := HSZ.out; omega) B5.out.size)).drew⟩
end Go.Proofs.Ytgghcngfleicnaa.Q

namespace Go.Proofs.Ytgghcngfleicnaa.Q
open Go.RowKit Go.Proofs.YtgghcngfleicnaaW.PrintWords Go.Proofs.YtgghcngfleicnaaW.PrintLast Go.Proofs.YtgghcngfleicnaaW.PrintMore
attribute [local go_sem] max2_int min2_int max_two min_two max_three min_three max_four min_four   -- for this text's walks alone
set_option linter.unusedVariables false
set_option linter.unusedSimpArgs false

/-! ### laws_FnExactLightestFor: function 11 -/
mutual
def laws_FnExactLightestFor.j0 : Nat → List (S56) → Int → Int → List Int → Int → Bool → List (S54) → List Int → Int → Bool → Bool → Option (Bool)
  | 0, _, _, _, _, _, _, _, _, _, _, _ => none
  | k + 1, x0, x1, x2, x8, x9, x10, x11, x12, x13, x14, x58 => if x58 = true then (some false) else ((laws_toItemS.f k x0).bind fun t534 => ((laws_eqItemS.f k x11 t534).bind fun t537 => (if t537 = true then ((laws_markItemS.f k x11 1).bind fun bt538 => (if bt538.1 < 0 then (laws_FnExactLightestFor.j1 k x0 x1 x2 x8 x9 x10 x12 true) else ((laws_eqIntS.f k x12 x8).bind fun t540 => (if t540 = true then (if x13 = x9 then (laws_FnExactLightestFor.j1 k x0 x1 x2 x8 x9 x10 x12 (x14 != x10)) else (laws_FnExactLightestFor.j1 k x0 x1 x2 x8 x9 x10 x12 true)) else (laws_FnExactLightestFor.j1 k x0 x1 x2 x8 x9 x10 x12 true))))) else (some false))))
def laws_FnExactLightestFor.j1 : Nat → List (S56) → Int → Int → List Int → Int → Bool → List Int → Bool → Option (Bool)
  | 0, _, _, _, _, _, _, _, _ => none
  | k + 1, x0, x1, x2, x8, x9, x10, x12, x84 => if x84 = true then (some false) else ((laws_markIntS.f k x12 1).bind fun bt541 => ((laws_heldIntS.f k bt541.2 1).bind fun t543 => (if t543 < 0 then (some false) else (if t543 = bt541.1 then ((laws_toItemS.f k x0).bind fun t544 => ((impl_LightestFor.f t544 x1 x2).bind fun bt547 => ((laws_eqIntS.f k bt547.1 x8).bind fun t552 => (if t552 = true then (if bt547.2.1 = x9 then (laws_FnExactLightestFor.j2 k bt541.2 bt541.1 (bt547.2.2 != x10)) else (laws_FnExactLightestFor.j2 k bt541.2 bt541.1 true)) else (laws_FnExactLightestFor.j2 k bt541.2 bt541.1 true))))) else (some false)))))
def laws_FnExactLightestFor.j2 : Nat → List Int → Int → Bool → Option (Bool)
  | 0, _, _, _ => none
  | k + 1, x12, x16, x118 => if x118 = true then (some false) else ((laws_heldIntS.f k x12 1).bind fun t553 => (if t553 < 0 then (some false) else (if t553 = x16 then (some true) else (some false))))
end
def laws_FnExactLightestFor.f (k : Nat) (l0 : List (S56)) (a1 : Int) (a2 : Int) : Option (Bool) := (laws_szItemS.f l0 1048576).bind fun t516 => (if t516 < 0 then (some true) else ((laws_toItemS.f k l0).bind fun t517 => ((spec_LightestFor.f k t517 a1 a2).bind fun bt520 => ((laws_toItemS.f k l0).bind fun t525 => ((impl_LightestFor.f t525 a1 a2).bind fun bt528 => ((laws_eqIntS.f k bt528.1 bt520.1).bind fun t533 => (if t533 = true then (if bt528.2.1 = bt520.2.1 then (laws_FnExactLightestFor.j0 k l0 a1 a2 bt520.1 bt520.2.1 bt520.2.2 t525 bt528.1 bt528.2.1 bt528.2.2 (bt528.2.2 != bt520.2.2)) else (laws_FnExactLightestFor.j0 k l0 a1 a2 bt520.1 bt520.2.1 bt520.2.2 t525 bt528.1 bt528.2.1 bt528.2.2 true)) else (laws_FnExactLightestFor.j0 k l0 a1 a2 bt520.1 bt520.2.1 bt520.2.2 t525 bt528.1 bt528.2.1 bt528.2.2 true))))))))
theorem laws_FnExactLightestFor.mono_l : ∀ k, (∀ y0 y1 y2 y3 y4 y5 y6 y7 y8 y9 y10, LeO (laws_FnExactLightestFor.j0 k y0 y1 y2 y3 y4 y5 y6 y7 y8 y9 y10) (laws_FnExactLightestFor.j0 (k + 1) y0 y1 y2 y3 y4 y5 y6 y7 y8 y9 y10)) ∧ (∀ y0 y1 y2 y3 y4 y5 y6 y7, LeO (laws_FnExactLightestFor.j1 k y0 y1 y2 y3 y4 y5 y6 y7) (laws_FnExactLightestFor.j1 (k + 1) y0 y1 y2 y3 y4 y5 y6 y7)) ∧ (∀ y0 y1 y2, LeO (laws_FnExactLightestFor.j2 k y0 y1 y2) (laws_FnExactLightestFor.j2 (k + 1) y0 y1 y2))
  | 0 => ⟨fun _ _ _ _ _ _ _ _ _ _ _ r h => by simp [laws_FnExactLightestFor.j0] at h, fun _ _ _ _ _ _ _ _ r h => by simp [laws_FnExactLightestFor.j1] at h, fun _ _ _ r h => by simp [laws_FnExactLightestFor.j2] at h⟩
  | k + 1 => by
    obtain ⟨ih0, ih1, ih2⟩ := laws_FnExactLightestFor.mono_l k
    refine ⟨?_, ?_, ?_⟩
    · intro y0 y1 y2 y3 y4 y5 y6 y7 y8 y9 y10
      unfold laws_FnExactLightestFor.j0
      repeat' first
      | (with_reducible exact ih0 _ _ _ _ _ _ _ _ _ _ _)
      | (with_reducible exact ih1 _ _ _ _ _ _ _ _)
      | (with_reducible exact ih2 _ _ _)
      | (with_reducible exact laws_eqIntS.mono _ _ _)
      | (with_reducible exact laws_eqItemS.mono _ _ _)
      | (with_reducible exact laws_heldIntS.mono _ _ _)
      | (with_reducible exact laws_markIntS.mono _ _ _)
      | (with_reducible exact laws_markItemS.mono _ _ _)
      | (with_reducible exact laws_toItemS.mono _ _)
      | (with_reducible exact spec_LightestFor.mono _ _ _ _)
      | (with_reducible exact LeO.refl _)
      | (with_reducible exact LeO.none _)
      | (with_reducible refine LeO.ite ?_ ?_)
      | (with_reducible refine LeO.bind ?_ (fun _ => ?_))
      | exact ih0 _ _ _ _ _ _ _ _ _ _ _
      | exact ih1 _ _ _ _ _ _ _ _
      | exact ih2 _ _ _
      | exact laws_eqIntS.mono _ _ _
      | exact laws_eqItemS.mono _ _ _
      | exact laws_heldIntS.mono _ _ _
      | exact laws_markIntS.mono _ _ _
      | exact laws_markItemS.mono _ _ _
      | exact laws_toItemS.mono _ _
      | exact spec_LightestFor.mono _ _ _ _
      | exact LeO.none _
      | refine LeO.ite ?_ ?_
      | refine LeO.bind ?_ (fun _ => ?_)
    · intro y0 y1 y2 y3 y4 y5 y6 y7
      unfold laws_FnExactLightestFor.j1
      repeat' first
      | (with_reducible exact ih0 _ _ _ _ _ _ _ _ _ _ _)
      | (with_reducible exact ih1 _ _ _ _ _ _ _ _)
      | (with_reducible exact ih2 _ _ _)
      | (with_reducible exact laws_eqIntS.mono _ _ _)
      | (with_reducible exact laws_eqItemS.mono _ _ _)
      | (with_reducible exact laws_heldIntS.mono _ _ _)
      | (with_reducible exact laws_markIntS.mono _ _ _)
      | (with_reducible exact laws_markItemS.mono _ _ _)
      | (with_reducible exact laws_toItemS.mono _ _)
      | (with_reducible exact spec_LightestFor.mono _ _ _ _)
      | (with_reducible exact LeO.refl _)
      | (with_reducible exact LeO.none _)
      | (with_reducible refine LeO.ite ?_ ?_)
      | (with_reducible refine LeO.bind ?_ (fun _ => ?_))
      | exact ih0 _ _ _ _ _ _ _ _ _ _ _
      | exact ih1 _ _ _ _ _ _ _ _
      | exact ih2 _ _ _
      | exact laws_eqIntS.mono _ _ _
      | exact laws_eqItemS.mono _ _ _
      | exact laws_heldIntS.mono _ _ _
      | exact laws_markIntS.mono _ _ _
      | exact laws_markItemS.mono _ _ _
      | exact laws_toItemS.mono _ _
      | exact spec_LightestFor.mono _ _ _ _
      | exact LeO.none _
      | refine LeO.ite ?_ ?_
      | refine LeO.bind ?_ (fun _ => ?_)
    · intro y0 y1 y2
      unfold laws_FnExactLightestFor.j2
      repeat' first
      | (with_reducible exact ih0 _ _ _ _ _ _ _ _ _ _ _)
      | (with_reducible exact ih1 _ _ _ _ _ _ _ _)
      | (with_reducible exact ih2 _ _ _)
      | (with_reducible exact laws_eqIntS.mono _ _ _)
      | (with_reducible exact laws_eqItemS.mono _ _ _)
      | (with_reducible exact laws_heldIntS.mono _ _ _)
      | (with_reducible exact laws_markIntS.mono _ _ _)
      | (with_reducible exact laws_markItemS.mono _ _ _)
      | (with_reducible exact laws_toItemS.mono _ _)
      | (with_reducible exact spec_LightestFor.mono _ _ _ _)
      | (with_reducible exact LeO.refl _)
      | (with_reducible exact LeO.none _)
      | (with_reducible refine LeO.ite ?_ ?_)
      | (with_reducible refine LeO.bind ?_ (fun _ => ?_))
      | exact ih0 _ _ _ _ _ _ _ _ _ _ _
      | exact ih1 _ _ _ _ _ _ _ _
      | exact ih2 _ _ _
      | exact laws_eqIntS.mono _ _ _
      | exact laws_eqItemS.mono _ _ _
      | exact laws_heldIntS.mono _ _ _
      | exact laws_markIntS.mono _ _ _
      | exact laws_markItemS.mono _ _ _
      | exact laws_toItemS.mono _ _
      | exact spec_LightestFor.mono _ _ _ _
      | exact LeO.none _
      | refine LeO.ite ?_ ?_
      | refine LeO.bind ?_ (fun _ => ?_)
theorem laws_FnExactLightestFor.mono : ∀ a0 a1 a2 k, LeO (laws_FnExactLightestFor.f k a0 a1 a2) (laws_FnExactLightestFor.f (k + 1) a0 a1 a2) := by
  intro a0 a1 a2 k
  obtain ⟨ih0, ih1, ih2⟩ := laws_FnExactLightestFor.mono_l k
  unfold laws_FnExactLightestFor.f
  repeat' first
      | (with_reducible exact ih0 _ _ _ _ _ _ _ _ _ _ _)
      | (with_reducible exact ih1 _ _ _ _ _ _ _ _)
      | (with_reducible exact ih2 _ _ _)
      | (with_reducible exact laws_eqIntS.mono _ _ _)
      | (with_reducible exact laws_eqItemS.mono _ _ _)
      | (with_reducible exact laws_heldIntS.mono _ _ _)
      | (with_reducible exact laws_markIntS.mono _ _ _)
      | (with_reducible exact laws_markItemS.mono _ _ _)
      | (with_reducible exact laws_toItemS.mono _ _)
      | (with_reducible exact spec_LightestFor.mono _ _ _ _)
      | (with_reducible exact LeO.refl _)
      | (with_reducible exact LeO.none _)
      | (with_reducible refine LeO.ite ?_ ?_)
      | (with_reducible refine LeO.bind ?_ (fun _ => ?_))
      | exact ih0 _ _ _ _ _ _ _ _ _ _ _
      | exact ih1 _ _ _ _ _ _ _ _
      | exact ih2 _ _ _
      | exact laws_eqIntS.mono _ _ _
      | exact laws_eqItemS.mono _ _ _
      | exact laws_heldIntS.mono _ _ _
      | exact laws_markIntS.mono _ _ _
      | exact laws_markItemS.mono _ _ _
      | exact laws_toItemS.mono _ _
      | exact spec_LightestFor.mono _ _ _ _
      | exact LeO.none _
      | refine LeO.ite ?_ ?_
      | refine LeO.bind ?_ (fun _ => ?_)
set_option maxHeartbeats 8000000 in
set_option maxRecDepth 100000 in
theorem laws_FnExactLightestFor.calls (k : Nat) (A0 : Option Addr) (c0 : Nat) (l0 : List (S56)) (a1 : Int) (a2 : Int) (r : Bool) (w : World) (hr0 : Kd.C k56 w A0 l0.length l0) (hc0 : l0.length ≤ c0) (h : laws_FnExactLightestFor.f k l0 a1 a2 = some r) :
    Calls Try.prog 11 #[.slice A0 l0.length c0, .int .i64 a1, .int .i64 a2] w fun e w' => e = .returned (.bool r) ∧ Below w.heap.size w w' := by
  have HR0 := Aside0.mk hr0
  have HC0 := Aside0.mk hc0
  clear hr0 hc0
  have HB := Aside0.mk (Below.refl w.heap.size w)
  have H : ((laws_szItemS.f l0 1048576).bind fun t516 => (if t516 < 0 then (some true) else ((laws_toItemS.f k l0).bind fun t517 => ((spec_LightestFor.f k t517 a1 a2).bind fun bt520 => ((laws_toItemS.f k l0).bind fun t525 => ((impl_LightestFor.f t525 a1 a2).bind fun bt528 => ((laws_eqIntS.f k bt528.1 bt520.1).bind fun t533 => (if t533 = true then (if bt528.2.1 = bt520.2.1 then (laws_FnExactLightestFor.j0 k l0 a1 a2 bt520.1 bt520.2.1 bt520.2.2 t525 bt528.1 bt528.2.1 bt528.2.2 (bt528.2.2 != bt520.2.2)) else (laws_FnExactLightestFor.j0 k l0 a1 a2 bt520.1 bt520.2.1 bt520.2.2 t525 bt528.1 bt528.2.1 bt528.2.2 true)) else (laws_FnExactLightestFor.j0 k l0 a1 a2 bt520.1 bt520.2.1 bt520.2.2 t525 bt528.1 bt528.2.1 bt528.2.2 true))))))))) = some r := h
  clear h
  replace H := Option.bind_eq_some_iff.mp H
  obtain ⟨t516, A40, H⟩ := H
  replace H : (if t516 < 0 then (some true) else ((laws_toItemS.f k l0).bind fun t517 => ((spec_LightestFor.f k t517 a1 a2).bind fun bt520 => ((laws_toItemS.f k l0).bind fun t525 => ((impl_LightestFor.f t525 a1 a2).bind fun bt528 => ((laws_eqIntS.f k bt528.1 bt520.1).bind fun t533 => (if t533 = true then (if bt528.2.1 = bt520.2.1 then (laws_FnExactLightestFor.j0 k l0 a1 a2 bt520.1 bt520.2.1 bt520.2.2 t525 bt528.1 bt528.2.1 bt528.2.2 (bt528.2.2 != bt520.2.2)) else (laws_FnExactLightestFor.j0 k l0 a1 a2 bt520.1 bt520.2.1 bt520.2.2 t525 bt528.1 bt528.2.1 bt528.2.2 true)) else (laws_FnExactLightestFor.j0 k l0 a1 a2 bt520.1 bt520.2.1 bt520.2.2 t525 bt528.1 bt528.2.1 bt528.2.2 true)))))))) = some r := H
  have A4 := Aside0.mk A40
  clear A40
  by_cases c5 : t516 < 0
  · rw [if_pos c5] at H
    have c5b0 : decide (t516 < 0) = true := decide_eq_true c5
    clear c5
    obtain rfl := Option.some.inj H
    go_enter Try.func11, Try.ntmps11
    go_wp2_with (first | ((with_reducible refine gate_callee (f := 12) rfl ?_); refine goesL_ (some 23) rfl rfl Try.func12 (by kernel_rfl) rfl #[.slice A0 l0.length c0, .int .i64 1048576] rfl (by (try simp only [List.map_toArray, List.map_cons, List.map_nil]); first | done | rfl | (simp only [List.length_drop, List.length_take]; rfl)) ?_; (with_reducible refine (laws_szItemS.calls _ _ l0 1048576 t516 _ ?side1 ?side2 A4.out).mono ?_); (case side1 => repeat (first | exact HR0.out | (with_reducible refine Kd.C_alloc ?_ _) | (with_reducible refine Kd.C_drewN ?_ _) | (with_reducible refine Kd.C_drew ?_))); (case side2 => exact HC0.out); rintro e w' ⟨rfl, ⟨nd, rfl⟩⟩; refine ⟨_, rfl, ?_⟩))
    go_ret
    exact ⟨by first | rfl | (simp [errW_none, errW_some] <;> rfl) | (simp [*, errW_none, errW_some] <;> rfl), by repeat (first | (with_reducible first | exact HB.out | apply below_alloc | apply pw_below_drewN | apply below_drew1) | exact HB.out)⟩
  · rw [if_neg c5] at H
    have c5b0 : decide (t516 < 0) = false := decide_eq_false c5
    clear c5
    replace H := Option.bind_eq_some_iff.mp H
    obtain ⟨t517, A60, H⟩ := H
    replace H : ((spec_LightestFor.f k t517 a1 a2).bind fun bt520 => ((laws_toItemS.f k l0).bind fun t525 => ((impl_LightestFor.f t525 a1 a2).bind fun bt528 => ((laws_eqIntS.f k bt528.1 bt520.1).bind fun t533 => (if t533 = true then (if bt528.2.1 = bt520.2.1 then (laws_FnExactLightestFor.j0 k l0 a1 a2 bt520.1 bt520.2.1 bt520.2.2 t525 bt528.1 bt528.2.1 bt528.2.2 (bt528.2.2 != bt520.2.2)) else (laws_FnExactLightestFor.j0 k l0 a1 a2 bt520.1 bt520.2.1 bt520.2.2 t525 bt528.1 bt528.2.1 bt528.2.2 true)) else (laws_FnExactLightestFor.j0 k l0 a1 a2 bt520.1 bt520.2.1 bt520.2.2 t525 bt528.1 bt528.2.1 bt528.2.2 true)))))) = some r := H
    have A6 := Aside0.mk A60
    clear A60
    replace H := Option.bind_eq_some_iff.mp H
    obtain ⟨⟨t520, t523, t524⟩, A70, H⟩ := H
    replace H : ((laws_toItemS.f k l0).bind fun t525 => ((impl_LightestFor.f t525 a1 a2).bind fun bt528 => ((laws_eqIntS.f k bt528.1 t520).bind fun t533 => (if t533 = true then (if bt528.2.1 = t523 then (laws_FnExactLightestFor.j0 k l0 a1 a2 t520 t523 t524 t525 bt528.1 bt528.2.1 bt528.2.2 (bt528.2.2 != t524)) else (laws_FnExactLightestFor.j0 k l0 a1 a2 t520 t523 t524 t525 bt528.1 bt528.2.1 bt528.2.2 true)) else (laws_FnExactLightestFor.j0 k l0 a1 a2 t520 t523 t524 t525 bt528.1 bt528.2.1 bt528.2.2 true))))) = some r := H
    have A7 := Aside0.mk A70
    clear A70
    replace H := Option.bind_eq_some_iff.mp H
    obtain ⟨t525, A80, H⟩ := H
    replace H : ((impl_LightestFor.f t525 a1 a2).bind fun bt528 => ((laws_eqIntS.f k bt528.1 t520).bind fun t533 => (if t533 = true then (if bt528.2.1 = t523 then (laws_FnExactLightestFor.j0 k l0 a1 a2 t520 t523 t524 t525 bt528.1 bt528.2.1 bt528.2.2 (bt528.2.2 != t524)) else (laws_FnExactLightestFor.j0 k l0 a1 a2 t520 t523 t524 t525 bt528.1 bt528.2.1 bt528.2.2 true)) else (laws_FnExactLightestFor.j0 k l0 a1 a2 t520 t523 t524 t525 bt528.1 bt528.2.1 bt528.2.2 true)))) = some r := H
    have A8 := Aside0.mk A80
    clear A80
    replace H := Option.bind_eq_some_iff.mp H
    obtain ⟨⟨t528, t529, t530⟩, A90, H⟩ := H
    replace H : ((laws_eqIntS.f k t528 t520).bind fun t533 => (if t533 = true then (if t529 = t523 then (laws_FnExactLightestFor.j0 k l0 a1 a2 t520 t523 t524 t525 t528 t529 t530 (t530 != t524)) else (laws_FnExactLightestFor.j0 k l0 a1 a2 t520 t523 t524 t525 t528 t529 t530 true)) else (laws_FnExactLightestFor.j0 k l0 a1 a2 t520 t523 t524 t525 t528 t529 t530 true))) = some r := H
    have A9 := Aside0.mk A90
    clear A90
    have HC10 := Aside0.mk H
    clear H
    go_enter Try.func11, Try.ntmps11
    go_upto_region 8 with (first | ((with_reducible refine gate_callee (f := 12) rfl ?_); refine goesL_ (some 23) rfl rfl Try.func12 (by kernel_rfl) rfl #[.slice A0 l0.length c0, .int .i64 1048576] rfl (by (try simp only [List.map_toArray, List.map_cons, List.map_nil]); first | done | rfl | (simp only [List.length_drop, List.length_take]; rfl)) ?_; (with_reducible refine (laws_szItemS.calls _ _ l0 1048576 t516 _ ?side1 ?side2 A4.out).mono ?_); (case side1 => repeat (first | exact HR0.out | (with_reducible refine Kd.C_alloc ?_ _) | (with_reducible refine Kd.C_drewN ?_ _) | (with_reducible refine Kd.C_drew ?_))); (case side2 => exact HC0.out); rintro e w' ⟨rfl, ⟨nd, rfl⟩⟩; refine ⟨_, rfl, ?_⟩) | ((with_reducible refine gate_callee (f := 14) rfl ?_); refine goesL_ (some 28) rfl rfl Try.func14 (by kernel_rfl) rfl #[.slice A0 l0.length c0] rfl (by (try simp only [List.map_toArray, List.map_cons, List.map_nil]); first | done | rfl | (simp only [List.length_drop, List.length_take]; rfl)) ?_; (with_reducible refine (laws_toItemS.calls k _ _ l0 t517 _ ?side1 ?side2 A6.out).mono ?_); (case side1 => repeat (first | exact HR0.out | (with_reducible refine Kd.C_alloc ?_ _) | (with_reducible refine Kd.C_drewN ?_ _) | (with_reducible refine Kd.C_drew ?_))); (case side2 => exact HC0.out); rintro e w11 ⟨v518, rfl, ho0, hb⟩; refine ⟨_, rfl, ?_⟩; have n0_ := Aside0.mk (Kd.R_lower ho0 (below_size (by repeat (first | (with_reducible first | exact HB.out | apply below_alloc | apply pw_below_drewN | apply below_drew1) | exact HB.out)))); have n1_ := Aside0.mk (below_step (by repeat (first | (with_reducible first | exact HB.out | apply below_alloc | apply pw_below_drewN | apply below_drew1) | exact HB.out)) hb); clear HB; have HO519 := n0_; have HB := n1_; clear n0_ n1_; (try clear hb); (try clear hb2); (try clear hk); (try clear hi); (try clear ho0); obtain ⟨Ao12, co12, eo12⟩ := Kd.R_slice HO519.out; subst eo12) | ((with_reducible refine gate_callee (f := 37) rfl ?_); refine goesL_ (some 31) rfl rfl Try.func37 (by kernel_rfl) rfl #[.slice Ao12 t517.length co12, .int .i64 a1, .int .i64 a2] rfl (by (try simp only [List.map_toArray, List.map_cons, List.map_nil]); first | done | rfl | (simp only [List.length_drop, List.length_take]; rfl)) ?_; (with_reducible refine (spec_LightestFor.calls k _ _ t517 a1 a2 t520 t523 t524 _ ?side1 ?side2 A7.out).mono ?_); (case side1 => repeat (first | exact (Kd.R_reads' HO519.out).2.2 | (with_reducible refine Kd.C_alloc ?_ _) | (with_reducible refine Kd.C_drewN ?_ _) | (with_reducible refine Kd.C_drew ?_))); (case side2 => exact (Kd.R_reads' HO519.out).2.1); rintro e w13 ⟨v521, rfl, ho0, hb⟩; refine ⟨_, rfl, ?_⟩; have n0_ := Aside0.mk (Kd.R_below (by (with_reducible repeat (first | apply Kd.R_alloc | apply Kd.R_drewN | apply Kd.R_drew)); exact HO519.out) hb); have n1_ := Aside0.mk (Kd.V_lower (Kd.V_mono (ok' := fun k_ => some k_ ≠ (.slice Ao12 t517.length co12 : Value).ownBlock) ho0 (fun k_ hk_ => (Kd.fresh' (Kd.R_lt (by (with_reducible repeat (first | apply Kd.R_alloc | apply Kd.R_drewN | apply Kd.R_drew)); exact HO519.out)) k_ hk_))) (below_size (by repeat (first | (with_reducible first | exact HB.out | apply below_alloc | apply pw_below_drewN | apply below_drew1) | exact HB.out)))); have n2_ := Aside0.mk (below_step (by repeat (first | (with_reducible first | exact HB.out | apply below_alloc | apply pw_below_drewN | apply below_drew1) | exact HB.out)) hb); clear HO519; clear HB; have HO519 := n0_; have HO522 := n1_; have HB := n2_; clear n0_ n1_ n2_; (try clear hb); (try clear hb2); (try clear hk); (try clear hi); (try clear ho0)) | ((with_reducible refine gate_callee (f := 14) rfl ?_); refine goesL_ (some 36) rfl rfl Try.func14 (by kernel_rfl) rfl #[.slice A0 l0.length c0] rfl (by (try simp only [List.map_toArray, List.map_cons, List.map_nil]); first | done | rfl | (simp only [List.length_drop, List.length_take]; rfl)) ?_; (with_reducible refine (laws_toItemS.calls k _ _ l0 t525 _ ?side1 ?side2 A8.out).mono ?_); (case side1 => repeat (first | exact (Kd.C_below HR0.out HB.out) | (with_reducible refine Kd.C_alloc ?_ _) | (with_reducible refine Kd.C_drewN ?_ _) | (with_reducible refine Kd.C_drew ?_))); (case side2 => exact HC0.out); rintro e w14 ⟨v526, rfl, ho0, hb⟩; refine ⟨_, rfl, ?_⟩; have n0_ := Aside0.mk (Kd.R_elder' (by (with_reducible repeat (first | apply Kd.R_alloc | apply Kd.R_drewN | apply Kd.R_drew)); exact HO519.out) (Kd.R_base ho0) hb); have n1_ := Aside0.mk (Kd.V_elder' (by (with_reducible repeat (first | apply Kd.V_alloc | apply Kd.V_drewN | apply Kd.V_drew)); exact HO522.out) (Kd.R_base ho0) hb); have n2_ := Aside0.mk (Kd.R_lower (Kd.R_new' ho0 (Kd.R_lt (by (with_reducible repeat (first | apply Kd.R_alloc | apply Kd.R_drewN | apply Kd.R_drew)); exact HO519.out))) (below_size (by repeat (first | (with_reducible first | exact HB.out | apply below_alloc | apply pw_below_drewN | apply below_drew1) | exact HB.out)))); have n3_ := Aside0.mk (below_step (by repeat (first | (with_reducible first | exact HB.out | apply below_alloc | apply pw_below_drewN | apply below_drew1) | exact HB.out)) hb); clear HO519; clear HO522; clear HB; have HO519 := n0_; have HO522 := n1_; have HO527 := n2_; have HB := n3_; clear n0_ n1_ n2_ n3_; (try clear hb); (try clear hb2); (try clear hk); (try clear hi); (try clear ho0); obtain ⟨Ao15, co15, eo15⟩ := Kd.R_slice HO527.out; subst eo15) | ((with_reducible refine gate_callee (f := 38) rfl ?_); refine goesL_ (some 41) rfl rfl Try.func38 (by kernel_rfl) rfl #[.slice Ao15 t525.length co15, .int .i64 a1, .int .i64 a2] rfl (by (try simp only [List.map_toArray, List.map_cons, List.map_nil]); first | done | rfl | (simp only [List.length_drop, List.length_take]; rfl)) ?_; (with_reducible refine (impl_LightestFor.calls _ _ t525 a1 a2 t528 t529 t530 _ ?side1 ?side2 A9.out).mono ?_); (case side1 => repeat (first | exact (Kd.R_reads' HO527.out).2.2 | (with_reducible refine Kd.C_alloc ?_ _) | (with_reducible refine Kd.C_drewN ?_ _) | (with_reducible refine Kd.C_drew ?_))); (case side2 => exact (Kd.R_reads' HO527.out).2.1); rintro e w16 ⟨v531, rfl, ho0, hb⟩; refine ⟨_, rfl, ?_⟩; have n0_ := Aside0.mk (Kd.R_below (by (with_reducible repeat (first | apply Kd.R_alloc | apply Kd.R_drewN | apply Kd.R_drew)); exact HO519.out) hb); have n1_ := Aside0.mk (Kd.V_elder' (by (with_reducible repeat (first | apply Kd.V_alloc | apply Kd.V_drewN | apply Kd.V_drew)); exact HO522.out) (Kd.R_base ho0) hb); have n2_ := Aside0.mk (Kd.R_below (by (with_reducible repeat (first | apply Kd.R_alloc | apply Kd.R_drewN | apply Kd.R_drew)); exact HO527.out) hb); have n3_ := Aside0.mk (Kd.R_lower ho0 (below_size (by repeat (first | (with_reducible first | exact HB.out | apply below_alloc | apply pw_below_drewN | apply below_drew1) | exact HB.out)))); have n4_ := Aside0.mk (below_step (by repeat (first | (with_reducible first | exact HB.out | apply below_alloc | apply pw_below_drewN | apply below_drew1) | exact HB.out)) hb); clear HO519; clear HO522; clear HO527; clear HB; have HO519 := n0_; have HO522 := n1_; have HO527 := n2_; have HO532 := n3_; have HB := n4_; clear n0_ n1_ n2_ n3_ n4_; (try clear hb); (try clear hb2); (try clear hk); (try clear hi); (try clear ho0)))
    (try simp only [Act.put, List.setIfInBounds_toArray, List.set_cons_zero, List.set_cons_succ])
    go_cut [58] (fun v58 wc => ∃ (kq : Nat) (x58_9 : Bool), v58 = .bool x58_9 ∧ Aside0 (laws_FnExactLightestFor.j0 kq l0 a1 a2 t520 t523 t524 t525 t528 t529 t530 x58_9 = some r) ∧ Aside0 (kq ≤ k) ∧ Aside0 (Kd.V (Kd.int .i64) 3 wc w.heap.size (fun k_ => some k_ ≠ ((.slice Ao15 t525.length co15) : Value).ownBlock ∧ some k_ ≠ (v531 : Value).ownBlock) v521 t520) ∧ Aside0 (Kd.R k54 54 wc w.heap.size (fun _ => True) (.slice Ao15 t525.length co15) t525) ∧ Aside0 (Kd.R (Kd.int .i64) 3 wc w.heap.size (fun _ => True) v531 t528) ∧ Aside0 (Below w.heap.size w wc))
    case first =>
      have H := HC10.out
      clear HC10
      replace H := Option.bind_eq_some_iff.mp H
      obtain ⟨t533, A170, H⟩ := H
      replace H : (if t533 = true then (if t529 = t523 then (laws_FnExactLightestFor.j0 k l0 a1 a2 t520 t523 t524 t525 t528 t529 t530 (t530 != t524)) else (laws_FnExactLightestFor.j0 k l0 a1 a2 t520 t523 t524 t525 t528 t529 t530 true)) else (laws_FnExactLightestFor.j0 k l0 a1 a2 t520 t523 t524 t525 t528 t529 t530 true)) = some r := H
      have A17 := Aside0.mk A170
      clear A170
      by_cases c18 : t533 = true
      · subst c18
        have H1 : (if t529 = t523 then (laws_FnExactLightestFor.j0 k l0 a1 a2 t520 t523 t524 t525 t528 t529 t530 (t530 != t524)) else (laws_FnExactLightestFor.j0 k l0 a1 a2 t520 t523 t524 t525 t528 t529 t530 true)) = some r := by rw [if_pos rfl] at H; exact H
        clear H
        have H := H1
        clear H1
        by_cases c19 : t529 = t523
        · rw [if_pos c19] at H
          have c19b0 : (t529 == t523) = true := beq_iff_eq.mpr c19
          have c19b1 : (t529 != t523) = false := bne_eq_false_iff_eq.mpr c19
          clear c19
          (first | rw [c19b0] | (simp only [i64_w, i32_w]; rw [c19b0]) | skip)
          have H' := Aside0.mk H
          clear H
          obtain ⟨Ao20, co20, eo20⟩ := Kd.R_slice HO532.out
          subst eo20
          obtain ⟨Ao21, co21, eo21⟩ := Kd.V_slice HO522.out
          subst eo21
          go_wp2_with (first | ((with_reducible refine gate_callee (f := 19) rfl ?_); refine goesL_ (some 47) rfl rfl Try.func19 (by kernel_rfl) rfl #[.slice Ao20 t528.length co20, .slice Ao21 t520.length co21] rfl (by (try simp only [List.map_toArray, List.map_cons, List.map_nil]); first | done | rfl | (simp only [List.length_drop, List.length_take]; rfl)) ?_; (with_reducible refine (laws_eqIntS.calls k _ _ t528 _ _ t520 true _ ?side1 ?side2 ?side3 ?side4 A17.out).mono ?_); (case side1 => repeat (first | exact (Kd.R_reads' HO532.out).2.2 | (with_reducible refine Kd.C_alloc ?_ _) | (with_reducible refine Kd.C_drewN ?_ _) | (with_reducible refine Kd.C_drew ?_))); (case side2 => exact (Kd.R_reads' HO532.out).2.1); (case side3 => repeat (first | exact (Kd.V_reads' HO522.out).2.2 | (with_reducible refine Kd.C_alloc ?_ _) | (with_reducible refine Kd.C_drewN ?_ _) | (with_reducible refine Kd.C_drew ?_))); (case side4 => exact (Kd.V_reads' HO522.out).2.1); rintro e w' ⟨rfl, ⟨nd, rfl⟩⟩; refine ⟨_, rfl, ?_⟩))
          go_meet
          case rel => exact ⟨_, ((t530 != t524)), (by first | rfl | (simp; done) | (simp [*]; done)), H', ⟨by first | omega | exact Nat.le_refl _⟩, ⟨by (with_reducible repeat (first | apply Kd.V_alloc | apply Kd.V_drewN | apply Kd.V_drew)); exact Kd.V_mono HO522.out (fun _ hk => ⟨hk.1.2, hk.2⟩)⟩, ⟨by (with_reducible repeat (first | apply Kd.R_alloc | apply Kd.R_drewN | apply Kd.R_drew)); exact Kd.R_mono HO527.out (fun _ hk => trivial)⟩, ⟨by (with_reducible repeat (first | apply Kd.R_alloc | apply Kd.R_drewN | apply Kd.R_drew)); exact HO532.out⟩, ⟨by repeat (first | (with_reducible first | exact HB.out | apply below_alloc | apply pw_below_drewN | apply below_drew1) | exact HB.out)⟩⟩
        · rw [if_neg c19] at H
          have c19b0 : (t529 == t523) = false := beq_eq_false_iff_ne.mpr c19
          have c19b1 : (t529 != t523) = true := bne_iff_ne.mpr c19
          (first | rw [c19b0] | (simp only [i64_w, i32_w]; rw [c19b0]) | skip)
          have H' := Aside0.mk H
          clear H
          obtain ⟨Ao22, co22, eo22⟩ := Kd.R_slice HO532.out
          subst eo22
          obtain ⟨Ao23, co23, eo23⟩ := Kd.V_slice HO522.out
          subst eo23
          go_wp2_with (first | ((with_reducible refine gate_callee (f := 19) rfl ?_); refine goesL_ (some 47) rfl rfl Try.func19 (by kernel_rfl) rfl #[.slice Ao22 t528.length co22, .slice Ao23 t520.length co23] rfl (by (try simp only [List.map_toArray, List.map_cons, List.map_nil]); first | done | rfl | (simp only [List.length_drop, List.length_take]; rfl)) ?_; (with_reducible refine (laws_eqIntS.calls k _ _ t528 _ _ t520 true _ ?side1 ?side2 ?side3 ?side4 A17.out).mono ?_); (case side1 => repeat (first | exact (Kd.R_reads' HO532.out).2.2 | (with_reducible refine Kd.C_alloc ?_ _) | (with_reducible refine Kd.C_drewN ?_ _) | (with_reducible refine Kd.C_drew ?_))); (case side2 => exact (Kd.R_reads' HO532.out).2.1); (case side3 => repeat (first | exact (Kd.V_reads' HO522.out).2.2 | (with_reducible refine Kd.C_alloc ?_ _) | (with_reducible refine Kd.C_drewN ?_ _) | (with_reducible refine Kd.C_drew ?_))); (case side4 => exact (Kd.V_reads' HO522.out).2.1); rintro e w' ⟨rfl, ⟨nd, rfl⟩⟩; refine ⟨_, rfl, ?_⟩))
          go_meet
          case rel => exact ⟨_, (true), (by first | rfl | (simp; done) | (simp [*]; done)), H', ⟨by first | omega | exact Nat.le_refl _⟩, ⟨by (with_reducible repeat (first | apply Kd.V_alloc | apply Kd.V_drewN | apply Kd.V_drew)); exact Kd.V_mono HO522.out (fun _ hk => ⟨hk.1.2, hk.2⟩)⟩, ⟨by (with_reducible repeat (first | apply Kd.R_alloc | apply Kd.R_drewN | apply Kd.R_drew)); exact Kd.R_mono HO527.out (fun _ hk => trivial)⟩, ⟨by (with_reducible repeat (first | apply Kd.R_alloc | apply Kd.R_drewN | apply Kd.R_drew)); exact HO532.out⟩, ⟨by repeat (first | (with_reducible first | exact HB.out | apply below_alloc | apply pw_below_drewN | apply below_drew1) | exact HB.out)⟩⟩
      · replace c18 := Bool.eq_false_iff.mpr c18
        subst c18
        have H1 : (laws_FnExactLightestFor.j0 k l0 a1 a2 t520 t523 t524 t525 t528 t529 t530 true) = some r := by rw [if_neg (show ¬ (false = true) by decide)] at H; exact H
        clear H
        have H := H1
        clear H1
        have H' := Aside0.mk H
        clear H
        obtain ⟨Ao24, co24, eo24⟩ := Kd.R_slice HO532.out
        subst eo24
        obtain ⟨Ao25, co25, eo25⟩ := Kd.V_slice HO522.out
        subst eo25
        go_wp2_with (first | ((with_reducible refine gate_callee (f := 19) rfl ?_); refine goesL_ (some 47) rfl rfl Try.func19 (by kernel_rfl) rfl #[.slice Ao24 t528.length co24, .slice Ao25 t520.length co25] rfl (by (try simp only [List.map_toArray, List.map_cons, List.map_nil]); first | done | rfl | (simp only [List.length_drop, List.length_take]; rfl)) ?_; (with_reducible refine (laws_eqIntS.calls k _ _ t528 _ _ t520 false _ ?side1 ?side2 ?side3 ?side4 A17.out).mono ?_); (case side1 => repeat (first | exact (Kd.R_reads' HO532.out).2.2 | (with_reducible refine Kd.C_alloc ?_ _) | (with_reducible refine Kd.C_drewN ?_ _) | (with_reducible refine Kd.C_drew ?_))); (case side2 => exact (Kd.R_reads' HO532.out).2.1); (case side3 => repeat (first | exact (Kd.V_reads' HO522.out).2.2 | (with_reducible refine Kd.C_alloc ?_ _) | (with_reducible refine Kd.C_drewN ?_ _) | (with_reducible refine Kd.C_drew ?_))); (case side4 => exact (Kd.V_reads' HO522.out).2.1); rintro e w' ⟨rfl, ⟨nd, rfl⟩⟩; refine ⟨_, rfl, ?_⟩))
        go_meet
        case rel => exact ⟨_, (true), (by first | rfl | (simp; done) | (simp [*]; done)), H', ⟨by first | omega | exact Nat.le_refl _⟩, ⟨by (with_reducible repeat (first | apply Kd.V_alloc | apply Kd.V_drewN | apply Kd.V_drew)); exact Kd.V_mono HO522.out (fun _ hk => ⟨hk.1.2, hk.2⟩)⟩, ⟨by (with_reducible repeat (first | apply Kd.R_alloc | apply Kd.R_drewN | apply Kd.R_drew)); exact Kd.R_mono HO527.out (fun _ hk => trivial)⟩, ⟨by (with_reducible repeat (first | apply Kd.R_alloc | apply Kd.R_drewN | apply Kd.R_drew)); exact HO532.out⟩, ⟨by repeat (first | (with_reducible first | exact HB.out | apply below_alloc | apply pw_below_drewN | apply below_drew1) | exact HB.out)⟩⟩
    case rest =>
      clear HC10
      try clear c1
      try clear p2
      try clear c3
      try clear c5
      try clear c5b0
      try clear c11
      try clear c12
      try clear c14
      try clear c18
      try clear c19
      try clear c19b0
      try clear c19b1
      obtain ⟨kq, x58_9, rfl, HA, HJ9, HO_8, HO_11, HO_12, HB⟩ := hcut
      cases kq with
      | zero => exact absurd HA.out (by simp [laws_FnExactLightestFor.j0])
      | succ kj9 =>
        have H := HA.out
        clear HA
        simp only [laws_FnExactLightestFor.j0] at H
        by_cases c26 : x58_9 = true
        · subst c26
          have H1 : (some false) = some r := by rw [if_pos rfl] at H; exact H
          clear H
          have H := H1
          clear H1
          obtain rfl := Option.some.inj H
          go_wp2
          go_ret
          exact ⟨by first | rfl | (simp [errW_none, errW_some] <;> rfl) | (simp [*, errW_none, errW_some] <;> rfl), by repeat (first | (with_reducible first | exact HB.out | apply below_alloc | apply pw_below_drewN | apply below_drew1) | exact HB.out)⟩
        · replace c26 := Bool.eq_false_iff.mpr c26
          subst c26
          have H1 : ((laws_toItemS.f kj9 l0).bind fun t534 => ((laws_eqItemS.f kj9 t525 t534).bind fun t537 => (if t537 = true then ((laws_markItemS.f kj9 t525 1).bind fun bt538 => (if bt538.1 < 0 then (laws_FnExactLightestFor.j1 kj9 l0 a1 a2 t520 t523 t524 t528 true) else ((laws_eqIntS.f kj9 t528 t520).bind fun t540 => (if t540 = true then (if t529 = t523 then (laws_FnExactLightestFor.j1 kj9 l0 a1 a2 t520 t523 t524 t528 (t530 != t524)) else (laws_FnExactLightestFor.j1 kj9 l0 a1 a2 t520 t523 t524 t528 true)) else (laws_FnExactLightestFor.j1 kj9 l0 a1 a2 t520 t523 t524 t528 true))))) else (some false)))) = some r := by rw [if_neg (show ¬ (false = true) by decide)] at H; exact H
          clear H
          have H := H1
          clear H1
          replace H := Option.bind_eq_some_iff.mp H
          obtain ⟨t534, A270, H⟩ := H
          replace H : ((laws_eqItemS.f kj9 t525 t534).bind fun t537 => (if t537 = true then ((laws_markItemS.f kj9 t525 1).bind fun bt538 => (if bt538.1 < 0 then (laws_FnExactLightestFor.j1 kj9 l0 a1 a2 t520 t523 t524 t528 true) else ((laws_eqIntS.f kj9 t528 t520).bind fun t540 => (if t540 = true then (if t529 = t523 then (laws_FnExactLightestFor.j1 kj9 l0 a1 a2 t520 t523 t524 t528 (t530 != t524)) else (laws_FnExactLightestFor.j1 kj9 l0 a1 a2 t520 t523 t524 t528 true)) else (laws_FnExactLightestFor.j1 kj9 l0 a1 a2 t520 t523 t524 t528 true))))) else (some false))) = some r := H
          have A27 := Aside0.mk A270
          clear A270
          replace H := Option.bind_eq_some_iff.mp H
          obtain ⟨t537, A280, H⟩ := H
          replace H : (if t537 = true then ((laws_markItemS.f kj9 t525 1).bind fun bt538 => (if bt538.1 < 0 then (laws_FnExactLightestFor.j1 kj9 l0 a1 a2 t520 t523 t524 t528 true) else ((laws_eqIntS.f kj9 t528 t520).bind fun t540 => (if t540 = true then (if t529 = t523 then (laws_FnExactLightestFor.j1 kj9 l0 a1 a2 t520 t523 t524 t528 (t530 != t524)) else (laws_FnExactLightestFor.j1 kj9 l0 a1 a2 t520 t523 t524 t528 true)) else (laws_FnExactLightestFor.j1 kj9 l0 a1 a2 t520 t523 t524 t528 true))))) else (some false)) = some r := H
          have A28 := Aside0.mk A280
          clear A280
          by_cases c29 : t537 = true
          · subst c29
            have H1 : ((laws_markItemS.f kj9 t525 1).bind fun bt538 => (if bt538.1 < 0 then (laws_FnExactLightestFor.j1 kj9 l0 a1 a2 t520 t523 t524 t528 true) else ((laws_eqIntS.f kj9 t528 t520).bind fun t540 => (if t540 = true then (if t529 = t523 then (laws_FnExactLightestFor.j1 kj9 l0 a1 a2 t520 t523 t524 t528 (t530 != t524)) else (laws_FnExactLightestFor.j1 kj9 l0 a1 a2 t520 t523 t524 t528 true)) else (laws_FnExactLightestFor.j1 kj9 l0 a1 a2 t520 t523 t524 t528 true))))) = some r := by rw [if_pos rfl] at H; exact H
            clear H
            have H := H1
            clear H1
            replace H := Option.bind_eq_some_iff.mp H
            obtain ⟨⟨t538, t539⟩, A300, H⟩ := H
            replace H : (if t538 < 0 then (laws_FnExactLightestFor.j1 kj9 l0 a1 a2 t520 t523 t524 t528 true) else ((laws_eqIntS.f kj9 t528 t520).bind fun t540 => (if t540 = true then (if t529 = t523 then (laws_FnExactLightestFor.j1 kj9 l0 a1 a2 t520 t523 t524 t528 (t530 != t524)) else (laws_FnExactLightestFor.j1 kj9 l0 a1 a2 t520 t523 t524 t528 true)) else (laws_FnExactLightestFor.j1 kj9 l0 a1 a2 t520 t523 t524 t528 true)))) = some r := H
            have A30 := Aside0.mk A300
            clear A300
            have HC31 := Aside0.mk H
            clear H
            go_upto_region 14 with (first | ((with_reducible refine gate_callee (f := 14) rfl ?_); refine goesL_ (some 61) rfl rfl Try.func14 (by kernel_rfl) rfl #[.slice A0 l0.length c0] rfl (by (try simp only [List.map_toArray, List.map_cons, List.map_nil]); first | done | rfl | (simp only [List.length_drop, List.length_take]; rfl)) ?_; (with_reducible refine (laws_toItemS.calls kj9 _ _ l0 t534 _ ?side1 ?side2 A27.out).mono ?_); (case side1 => repeat (first | exact (Kd.C_below HR0.out HB.out) | (with_reducible refine Kd.C_alloc ?_ _) | (with_reducible refine Kd.C_drewN ?_ _) | (with_reducible refine Kd.C_drew ?_))); (case side2 => exact HC0.out); rintro e w32 ⟨v535, rfl, ho0, hb⟩; refine ⟨_, rfl, ?_⟩; have n0_ := Aside0.mk (Kd.V_elder' (by (with_reducible repeat (first | apply Kd.V_alloc | apply Kd.V_drewN | apply Kd.V_drew)); exact HO_8.out) (Kd.R_base ho0) hb); have n1_ := Aside0.mk (Kd.R_elder' (by (with_reducible repeat (first | apply Kd.R_alloc | apply Kd.R_drewN | apply Kd.R_drew)); exact HO_11.out) (Kd.R_base ho0) hb); have n2_ := Aside0.mk (Kd.R_below (by (with_reducible repeat (first | apply Kd.R_alloc | apply Kd.R_drewN | apply Kd.R_drew)); exact HO_12.out) hb); have n3_ := Aside0.mk (Kd.R_lower (Kd.R_new' ho0 (Kd.R_lt (by (with_reducible repeat (first | apply Kd.R_alloc | apply Kd.R_drewN | apply Kd.R_drew)); exact HO_11.out))) (below_size (by repeat (first | (with_reducible first | exact HB.out | apply below_alloc | apply pw_below_drewN | apply below_drew1) | exact HB.out)))); have n4_ := Aside0.mk (below_step (by repeat (first | (with_reducible first | exact HB.out | apply below_alloc | apply pw_below_drewN | apply below_drew1) | exact HB.out)) hb); clear HO_8; clear HO_11; clear HO_12; clear HB; have HO_8 := n0_; have HO_11 := n1_; have HO_12 := n2_; have HO536 := n3_; have HB := n4_; clear n0_ n1_ n2_ n3_ n4_; (try clear hb); (try clear hb2); (try clear hk); (try clear hi); (try clear ho0); obtain ⟨Ao33, co33, eo33⟩ := Kd.R_slice HO536.out; subst eo33) | ((with_reducible refine gate_callee (f := 16) rfl ?_); refine goesL_ (some 62) rfl rfl Try.func16 (by kernel_rfl) rfl #[.slice Ao15 t525.length co15, .slice Ao33 t534.length co33] rfl (by (try simp only [List.map_toArray, List.map_cons, List.map_nil]); first | done | rfl | (simp only [List.length_drop, List.length_take]; rfl)) ?_; (with_reducible refine (laws_eqItemS.calls kj9 _ _ t525 _ _ t534 true _ ?side1 ?side2 ?side3 ?side4 A28.out).mono ?_); (case side1 => repeat (first | exact (Kd.R_reads' HO_11.out).2.2 | (with_reducible refine Kd.C_alloc ?_ _) | (with_reducible refine Kd.C_drewN ?_ _) | (with_reducible refine Kd.C_drew ?_))); (case side2 => exact (Kd.R_reads' HO_11.out).2.1); (case side3 => repeat (first | exact (Kd.R_reads' HO536.out).2.2 | (with_reducible refine Kd.C_alloc ?_ _) | (with_reducible refine Kd.C_drewN ?_ _) | (with_reducible refine Kd.C_drew ?_))); (case side4 => exact (Kd.R_reads' HO536.out).2.1); rintro e w34 ⟨rfl, hb⟩; refine ⟨_, rfl, ?_⟩; have n0_ := Aside0.mk (Kd.V_below (by (with_reducible repeat (first | apply Kd.V_alloc | apply Kd.V_drewN | apply Kd.V_drew)); exact HO_8.out) hb); have n1_ := Aside0.mk (Kd.R_below (by (with_reducible repeat (first | apply Kd.R_alloc | apply Kd.R_drewN | apply Kd.R_drew)); exact HO_11.out) hb); have n2_ := Aside0.mk (Kd.R_below (by (with_reducible repeat (first | apply Kd.R_alloc | apply Kd.R_drewN | apply Kd.R_drew)); exact HO_12.out) hb); have n3_ := Aside0.mk (Kd.R_below (by (with_reducible repeat (first | apply Kd.R_alloc | apply Kd.R_drewN | apply Kd.R_drew)); exact HO536.out) hb); have n4_ := Aside0.mk (below_step (by repeat (first | (with_reducible first | exact HB.out | apply below_alloc | apply pw_below_drewN | apply below_drew1) | exact HB.out)) hb); clear HO_8; clear HO_11; clear HO_12; clear HO536; clear HB; have HO_8 := n0_; have HO_11 := n1_; have HO_12 := n2_; have HO536 := n3_; have HB := n4_; clear n0_ n1_ n2_ n3_ n4_; (try clear hb); (try clear hb2); (try clear hk); (try clear hi)) | ((with_reducible refine gate_callee (f := 20) rfl ?_); refine goesL_ (some 66) rfl rfl Try.func20 (by kernel_rfl) rfl #[.slice Ao15 t525.length co15, .int .i64 1] rfl (by (try simp only [List.map_toArray, List.map_cons, List.map_nil]); first | done | rfl | (simp only [List.length_drop, List.length_take]; rfl)) ?_; (with_reducible refine (laws_markItemS.calls kj9 (fun k_ => some k_ = (.slice Ao15 t525.length co15 : Value).ownBlock) (.slice Ao15 t525.length co15) t525 1 t538 t539 w _ ?side1 ?side2 A30.out).mono ?_); (case side1 => repeat (first | (with_reducible first | exact HB.out | apply below_alloc | apply pw_below_drewN | apply below_drew1) | exact HB.out)); (case side2 => exact Kd.R_tight rfl HO_11.out); rintro e w35 ⟨rfl, hy0, hb, hkp⟩; refine ⟨_, rfl, ?_⟩; have n0_ := Aside0.mk (Kd.V_mono (ok' := fun k_ => some k_ ≠ (.slice Ao15 t525.length co15 : Value).ownBlock ∧ some k_ ≠ (v531 : Value).ownBlock ∧ some k_ ≠ (.slice Ao33 t534.length co33 : Value).ownBlock) (Kd.V_keptB (HO_8.out) hkp (fun k_ hk_ hs_ => (hk_.1.1) hs_)) (fun k_ hk_ => ⟨hk_.1.1.1, hk_.1.1.2, hk_.1.2⟩)); have n1_ := Aside0.mk (Kd.R_reok rfl hy0 (fun k_ e_ => HO_11.out.1 k_ e_)); have n2_ := Aside0.mk (Kd.R_mono (ok' := fun k_ => True) (Kd.R_keptB ((Kd.R_apart' HO_12.out (Kd.R_typed HO_11.out) (by decide))) hkp (fun k_ hk_ hs_ => (hk_.2) hs_)) (fun k_ hk_ => trivial)); have n3_ := Aside0.mk (Kd.R_mono (ok' := fun k_ => some k_ ≠ (.slice Ao15 t525.length co15 : Value).ownBlock) (Kd.R_keptB (HO536.out) hkp (fun k_ hk_ hs_ => (hk_.2) hs_)) (fun k_ hk_ => hk_.1.2)); have n4_ := Aside0.mk (hb); clear HO_8; clear HO_11; clear HO_12; clear HO536; clear HB; have HO_8 := n0_; have HO_11 := n1_; have HO_12 := n2_; have HO536 := n3_; have HB := n4_; clear n0_ n1_ n2_ n3_ n4_; (try clear hb); (try clear hkp); (try clear hy0)))
            (try simp only [Act.put, List.setIfInBounds_toArray, List.set_cons_zero, List.set_cons_succ])
            go_cut [84] (fun v84 wc => ∃ (kq : Nat) (x84_30 : Bool), v84 = .bool x84_30 ∧ Aside0 (laws_FnExactLightestFor.j1 kq l0 a1 a2 t520 t523 t524 t528 x84_30 = some r) ∧ Aside0 (kq ≤ kj9) ∧ Aside0 (Kd.V (Kd.int .i64) 3 wc w.heap.size (fun k_ => some k_ ≠ (v531 : Value).ownBlock) v521 t520) ∧ Aside0 (Kd.R (Kd.int .i64) 3 wc w.heap.size (fun _ => True) v531 t528) ∧ Aside0 (Below w.heap.size w wc))
            case first =>
              have H := HC31.out
              clear HC31
              by_cases c36 : t538 < 0
              · rw [if_pos c36] at H
                have c36b0 : decide (t538 < 0) = true := decide_eq_true c36
                clear c36
                (first | rw [c36b0] | (simp only [i64_w, i32_w]; rw [c36b0]) | skip)
                have H' := Aside0.mk H
                clear H
                go_wp2
                go_meet
                case rel => exact ⟨_, (true), (by first | rfl | (simp; done) | (simp [*]; done)), H', ⟨by have := HJ9.out; first | omega | exact Nat.le_refl _⟩, ⟨by (with_reducible repeat (first | apply Kd.V_alloc | apply Kd.V_drewN | apply Kd.V_drew)); exact Kd.V_mono HO_8.out (fun _ hk => hk.2.1)⟩, ⟨by (with_reducible repeat (first | apply Kd.R_alloc | apply Kd.R_drewN | apply Kd.R_drew)); exact HO_12.out⟩, ⟨by repeat (first | (with_reducible first | exact HB.out | apply below_alloc | apply pw_below_drewN | apply below_drew1) | exact HB.out)⟩⟩
              · rw [if_neg c36] at H
                have c36b0 : decide (t538 < 0) = false := decide_eq_false c36
                clear c36
                (first | rw [c36b0] | (simp only [i64_w, i32_w]; rw [c36b0]) | skip)
                replace H := Option.bind_eq_some_iff.mp H
                obtain ⟨t540, A370, H⟩ := H
                replace H : (if t540 = true then (if t529 = t523 then (laws_FnExactLightestFor.j1 kj9 l0 a1 a2 t520 t523 t524 t528 (t530 != t524)) else (laws_FnExactLightestFor.j1 kj9 l0 a1 a2 t520 t523 t524 t528 true)) else (laws_FnExactLightestFor.j1 kj9 l0 a1 a2 t520 t523 t524 t528 true)) = some r := H
                have A37 := Aside0.mk A370
                clear A370
                by_cases c38 : t540 = true
                · subst c38
                  have H1 : (if t529 = t523 then (laws_FnExactLightestFor.j1 kj9 l0 a1 a2 t520 t523 t524 t528 (t530 != t524)) else (laws_FnExactLightestFor.j1 kj9 l0 a1 a2 t520 t523 t524 t528 true)) = some r := by rw [if_pos rfl] at H; exact H
                  clear H
                  have H := H1
                  clear H1
                  by_cases c39 : t529 = t523
                  · rw [if_pos c39] at H
                    have c39b0 : (t529 == t523) = true := beq_iff_eq.mpr c39
                    have c39b1 : (t529 != t523) = false := bne_eq_false_iff_eq.mpr c39
                    clear c39
                    have H' := Aside0.mk H
                    clear H
                    obtain ⟨Ao40, co40, eo40⟩ := Kd.R_slice HO_12.out
                    subst eo40
                    obtain ⟨Ao41, co41, eo41⟩ := Kd.V_slice HO_8.out
                    subst eo41
                    go_wp2_with (first | (go_at_call 19; (with_reducible refine (laws_eqIntS.calls kj9 _ _ t528 _ _ t520 true _ ?side1 ?side2 ?side3 ?side4 A37.out).mono ?_); (case side1 => repeat (first | exact (Kd.R_reads' HO_12.out).2.2 | (with_reducible refine Kd.C_alloc ?_ _) | (with_reducible refine Kd.C_drewN ?_ _) | (with_reducible refine Kd.C_drew ?_))); (case side2 => exact (Kd.R_reads' HO_12.out).2.1); (case side3 => repeat (first | exact (Kd.V_reads' HO_8.out).2.2 | (with_reducible refine Kd.C_alloc ?_ _) | (with_reducible refine Kd.C_drewN ?_ _) | (with_reducible refine Kd.C_drew ?_))); (case side4 => exact (Kd.V_reads' HO_8.out).2.1); rintro e w' ⟨rfl, ⟨nd, rfl⟩⟩))
                    go_meet
                    case rel => exact ⟨_, ((t530 != t524)), (by first | rfl | (simp; done) | (simp [*]; done)), H', ⟨by have := HJ9.out; first | omega | exact Nat.le_refl _⟩, ⟨by (with_reducible repeat (first | apply Kd.V_alloc | apply Kd.V_drewN | apply Kd.V_drew)); exact Kd.V_mono HO_8.out (fun _ hk => hk.2.1)⟩, ⟨by (with_reducible repeat (first | apply Kd.R_alloc | apply Kd.R_drewN | apply Kd.R_drew)); exact HO_12.out⟩, ⟨by repeat (first | (with_reducible first | exact HB.out | apply below_alloc | apply pw_below_drewN | apply below_drew1) | exact HB.out)⟩⟩
                  · rw [if_neg c39] at H
                    have c39b0 : (t529 == t523) = false := beq_eq_false_iff_ne.mpr c39
                    have c39b1 : (t529 != t523) = true := bne_iff_ne.mpr c39
                    have H' := Aside0.mk H
                    clear H
                    obtain ⟨Ao42, co42, eo42⟩ := Kd.R_slice HO_12.out
                    subst eo42
                    obtain ⟨Ao43, co43, eo43⟩ := Kd.V_slice HO_8.out
                    subst eo43
                    go_wp2_with (first | (go_at_call 19; (with_reducible refine (laws_eqIntS.calls kj9 _ _ t528 _ _ t520 true _ ?side1 ?side2 ?side3 ?side4 A37.out).mono ?_); (case side1 => repeat (first | exact (Kd.R_reads' HO_12.out).2.2 | (with_reducible refine Kd.C_alloc ?_ _) | (with_reducible refine Kd.C_drewN ?_ _) | (with_reducible refine Kd.C_drew ?_))); (case side2 => exact (Kd.R_reads' HO_12.out).2.1); (case side3 => repeat (first | exact (Kd.V_reads' HO_8.out).2.2 | (with_reducible refine Kd.C_alloc ?_ _) | (with_reducible refine Kd.C_drewN ?_ _) | (with_reducible refine Kd.C_drew ?_))); (case side4 => exact (Kd.V_reads' HO_8.out).2.1); rintro e w' ⟨rfl, ⟨nd, rfl⟩⟩))
                    go_meet
                    case rel => exact ⟨_, (true), (by first | rfl | (simp; done) | (simp [*]; done)), H', ⟨by have := HJ9.out; first | omega | exact Nat.le_refl _⟩, ⟨by (with_reducible repeat (first | apply Kd.V_alloc | apply Kd.V_drewN | apply Kd.V_drew)); exact Kd.V_mono HO_8.out (fun _ hk => hk.2.1)⟩, ⟨by (with_reducible repeat (first | apply Kd.R_alloc | apply Kd.R_drewN | apply Kd.R_drew)); exact HO_12.out⟩, ⟨by repeat (first | (with_reducible first | exact HB.out | apply below_alloc | apply pw_below_drewN | apply below_drew1) | exact HB.out)⟩⟩
                · replace c38 := Bool.eq_false_iff.mpr c38
                  subst c38
                  have H1 : (laws_FnExactLightestFor.j1 kj9 l0 a1 a2 t520 t523 t524 t528 true) = some r := by rw [if_neg (show ¬ (false = true) by decide)] at H; exact H
                  clear H
                  have H := H1
                  clear H1
                  have H' := Aside0.mk H
                  clear H
                  obtain ⟨Ao44, co44, eo44⟩ := Kd.R_slice HO_12.out
                  subst eo44
                  obtain ⟨Ao45, co45, eo45⟩ := Kd.V_slice HO_8.out
                  subst eo45
                  go_wp2_with (first | (go_at_call 19; (with_reducible refine (laws_eqIntS.calls kj9 _ _ t528 _ _ t520 false _ ?side1 ?side2 ?side3 ?side4 A37.out).mono ?_); (case side1 => repeat (first | exact (Kd.R_reads' HO_12.out).2.2 | (with_reducible refine Kd.C_alloc ?_ _) | (with_reducible refine Kd.C_drewN ?_ _) | (with_reducible refine Kd.C_drew ?_))); (case side2 => exact (Kd.R_reads' HO_12.out).2.1); (case side3 => repeat (first | exact (Kd.V_reads' HO_8.out).2.2 | (with_reducible refine Kd.C_alloc ?_ _) | (with_reducible refine Kd.C_drewN ?_ _) | (with_reducible refine Kd.C_drew ?_))); (case side4 => exact (Kd.V_reads' HO_8.out).2.1); rintro e w' ⟨rfl, ⟨nd, rfl⟩⟩))
                  go_meet
                  case rel => exact ⟨_, (true), (by first | rfl | (simp; done) | (simp [*]; done)), H', ⟨by have := HJ9.out; first | omega | exact Nat.le_refl _⟩, ⟨by (with_reducible repeat (first | apply Kd.V_alloc | apply Kd.V_drewN | apply Kd.V_drew)); exact Kd.V_mono HO_8.out (fun _ hk => hk.2.1)⟩, ⟨by (with_reducible repeat (first | apply Kd.R_alloc | apply Kd.R_drewN | apply Kd.R_drew)); exact HO_12.out⟩, ⟨by repeat (first | (with_reducible first | exact HB.out | apply below_alloc | apply pw_below_drewN | apply below_drew1) | exact HB.out)⟩⟩
            case rest =>
              clear HC31
              try clear c1
              try clear c2
              try clear p2
              try clear c3
              try clear c5
              try clear c5b0
              try clear c11
              try clear c12
              try clear c14
              try clear c16
              try clear c18
              try clear c19
              try clear c19b0
              try clear c19b1
              try clear c20
              try clear c26
              try clear c29
              try clear c36
              try clear c36b0
              try clear c37
              try clear c38
              try clear c39
              try clear c39b0
              try clear c39b1
              try clear p2
              obtain ⟨kq, x84_30, rfl, HA, HJ30, HO_8, HO_12, HB⟩ := hcut
              cases kq with
              | zero => exact absurd HA.out (by simp [laws_FnExactLightestFor.j1])
              | succ kj30 =>
                have H := HA.out
                clear HA
                simp only [laws_FnExactLightestFor.j1] at H
                by_cases c46 : x84_30 = true
                · subst c46
                  have H1 : (some false) = some r := by rw [if_pos rfl] at H; exact H
                  clear H
                  have H := H1
                  clear H1
                  obtain rfl := Option.some.inj H
                  go_wp2
                  go_ret
                  exact ⟨by first | rfl | (simp [errW_none, errW_some] <;> rfl) | (simp [*, errW_none, errW_some] <;> rfl), by repeat (first | (with_reducible first | exact HB.out | apply below_alloc | apply pw_below_drewN | apply below_drew1) | exact HB.out)⟩
                · replace c46 := Bool.eq_false_iff.mpr c46
                  subst c46
                  have H1 : ((laws_markIntS.f kj30 t528 1).bind fun bt541 => ((laws_heldIntS.f kj30 bt541.2 1).bind fun t543 => (if t543 < 0 then (some false) else (if t543 = bt541.1 then ((laws_toItemS.f kj30 l0).bind fun t544 => ((impl_LightestFor.f t544 a1 a2).bind fun bt547 => ((laws_eqIntS.f kj30 bt547.1 t520).bind fun t552 => (if t552 = true then (if bt547.2.1 = t523 then (laws_FnExactLightestFor.j2 kj30 bt541.2 bt541.1 (bt547.2.2 != t524)) else (laws_FnExactLightestFor.j2 kj30 bt541.2 bt541.1 true)) else (laws_FnExactLightestFor.j2 kj30 bt541.2 bt541.1 true))))) else (some false))))) = some r := by rw [if_neg (show ¬ (false = true) by decide)] at H; exact H
                  clear H
                  have H := H1
                  clear H1
                  replace H := Option.bind_eq_some_iff.mp H
                  obtain ⟨⟨t541, t542⟩, A470, H⟩ := H
                  replace H : ((laws_heldIntS.f kj30 t542 1).bind fun t543 => (if t543 < 0 then (some false) else (if t543 = t541 then ((laws_toItemS.f kj30 l0).bind fun t544 => ((impl_LightestFor.f t544 a1 a2).bind fun bt547 => ((laws_eqIntS.f kj30 bt547.1 t520).bind fun t552 => (if t552 = true then (if bt547.2.1 = t523 then (laws_FnExactLightestFor.j2 kj30 t542 t541 (bt547.2.2 != t524)) else (laws_FnExactLightestFor.j2 kj30 t542 t541 true)) else (laws_FnExactLightestFor.j2 kj30 t542 t541 true))))) else (some false)))) = some r := H
                  have A47 := Aside0.mk A470
                  clear A470
                  replace H := Option.bind_eq_some_iff.mp H
                  obtain ⟨t543, A480, H⟩ := H
                  replace H : (if t543 < 0 then (some false) else (if t543 = t541 then ((laws_toItemS.f kj30 l0).bind fun t544 => ((impl_LightestFor.f t544 a1 a2).bind fun bt547 => ((laws_eqIntS.f kj30 bt547.1 t520).bind fun t552 => (if t552 = true then (if bt547.2.1 = t523 then (laws_FnExactLightestFor.j2 kj30 t542 t541 (bt547.2.2 != t524)) else (laws_FnExactLightestFor.j2 kj30 t542 t541 true)) else (laws_FnExactLightestFor.j2 kj30 t542 t541 true))))) else (some false))) = some r := H
                  have A48 := Aside0.mk A480
                  clear A480
                  by_cases c49 : t543 < 0
                  · rw [if_pos c49] at H
                    have c49b0 : decide (t543 < 0) = true := decide_eq_true c49
                    clear c49
                    obtain rfl := Option.some.inj H
                    obtain ⟨Ao50, co50, eo50⟩ := Kd.R_slice HO_12.out
                    subst eo50
                    go_wp2_with (first | ((with_reducible refine gate_callee (f := 21) rfl ?_); refine goesL_ (some 87) rfl rfl Try.func21 (by kernel_rfl) rfl #[.slice Ao50 t528.length co50, .int .i64 1] rfl (by (try simp only [List.map_toArray, List.map_cons, List.map_nil]); first | done | rfl | (simp only [List.length_drop, List.length_take]; rfl)) ?_; (with_reducible refine (laws_markIntS.calls kj30 (fun k_ => some k_ = (.slice Ao50 t528.length co50 : Value).ownBlock) (.slice Ao50 t528.length co50) t528 1 t541 t542 w _ ?side1 ?side2 A47.out).mono ?_); (case side1 => repeat (first | (with_reducible first | exact HB.out | apply below_alloc | apply pw_below_drewN | apply below_drew1) | exact HB.out)); (case side2 => exact Kd.R_tight rfl HO_12.out); rintro e w51 ⟨rfl, hy0, hb, hkp⟩; refine ⟨_, rfl, ?_⟩; have n0_ := Aside0.mk (Kd.V_mono (ok' := fun k_ => some k_ ≠ (.slice Ao50 t528.length co50 : Value).ownBlock) (Kd.V_keptB (HO_8.out) hkp (fun k_ hk_ hs_ => (hk_) hs_)) (fun k_ hk_ => hk_.1)); have n1_ := Aside0.mk (Kd.R_reok rfl hy0 (fun k_ e_ => HO_12.out.1 k_ e_)); have n2_ := Aside0.mk (hb); clear HO_8; clear HO_12; clear HB; have HO_8 := n0_; have HO_12 := n1_; have HB := n2_; clear n0_ n1_ n2_; (try clear hb); (try clear hkp); (try clear hy0)) | ((with_reducible refine gate_callee (f := 22) rfl ?_); refine goesL_ (some 90) rfl rfl Try.func22 (by kernel_rfl) rfl #[.slice Ao50 t542.length co50, .int .i64 1] rfl (by (try simp only [List.map_toArray, List.map_cons, List.map_nil]); first | done | (rw [show t542.length = t528.length from (Kd.R_reads' HO_12.out).1.symm] <;> rfl) | rfl | (simp only [List.length_drop, List.length_take]; rfl)) ?_; (with_reducible refine (laws_heldIntS.calls kj30 _ _ t542 1 t543 _ ?side1 ?side2 A48.out).mono ?_); (case side1 => repeat (first | exact (Kd.R_reads' HO_12.out).2.2 | (with_reducible refine Kd.C_alloc ?_ _) | (with_reducible refine Kd.C_drewN ?_ _) | (with_reducible refine Kd.C_drew ?_))); (case side2 => rw [show t542.length = t528.length from (Kd.R_reads' HO_12.out).1.symm]; exact (Kd.R_reads' HO_12.out).2.1); rintro e w' ⟨rfl, ⟨nd, rfl⟩⟩; refine ⟨_, rfl, ?_⟩))
                    go_ret
                    exact ⟨by first | rfl | (simp [errW_none, errW_some] <;> rfl) | (simp [*, errW_none, errW_some] <;> rfl), by repeat (first | (with_reducible first | exact HB.out | apply below_alloc | apply pw_below_drewN | apply below_drew1) | exact HB.out)⟩
                  · rw [if_neg c49] at H
                    have c49b0 : decide (t543 < 0) = false := decide_eq_false c49
                    clear c49
                    by_cases c52 : t543 = t541
                    · rw [if_pos c52] at H
                      have c52b0 : (t543 == t541) = true := beq_iff_eq.mpr c52
                      have c52b1 : (t543 != t541) = false := bne_eq_false_iff_eq.mpr c52
                      clear c52
                      replace H := Option.bind_eq_some_iff.mp H
                      obtain ⟨t544, A530, H⟩ := H
                      replace H : ((impl_LightestFor.f t544 a1 a2).bind fun bt547 => ((laws_eqIntS.f kj30 bt547.1 t520).bind fun t552 => (if t552 = true then (if bt547.2.1 = t523 then (laws_FnExactLightestFor.j2 kj30 t542 t541 (bt547.2.2 != t524)) else (laws_FnExactLightestFor.j2 kj30 t542 t541 true)) else (laws_FnExactLightestFor.j2 kj30 t542 t541 true)))) = some r := H
                      have A53 := Aside0.mk A530
                      clear A530
                      replace H := Option.bind_eq_some_iff.mp H
                      obtain ⟨⟨t547, t548, t549⟩, A540, H⟩ := H
                      replace H : ((laws_eqIntS.f kj30 t547 t520).bind fun t552 => (if t552 = true then (if t548 = t523 then (laws_FnExactLightestFor.j2 kj30 t542 t541 (t549 != t524)) else (laws_FnExactLightestFor.j2 kj30 t542 t541 true)) else (laws_FnExactLightestFor.j2 kj30 t542 t541 true))) = some r := H
                      have A54 := Aside0.mk A540
                      clear A540
                      have HC55 := Aside0.mk H
                      clear H
                      obtain ⟨Ao56, co56, eo56⟩ := Kd.R_slice HO_12.out
                      subst eo56
                      go_upto_region 25 with (first | ((with_reducible refine gate_callee (f := 21) rfl ?_); refine goesL_ (some 87) rfl rfl Try.func21 (by kernel_rfl) rfl #[.slice Ao56 t528.length co56, .int .i64 1] rfl (by (try simp only [List.map_toArray, List.map_cons, List.map_nil]); first | done | rfl | (simp only [List.length_drop, List.length_take]; rfl)) ?_; (with_reducible refine (laws_markIntS.calls kj30 (fun k_ => some k_ = (.slice Ao56 t528.length co56 : Value).ownBlock) (.slice Ao56 t528.length co56) t528 1 t541 t542 w _ ?side1 ?side2 A47.out).mono ?_); (case side1 => repeat (first | (with_reducible first | exact HB.out | apply below_alloc | apply pw_below_drewN | apply below_drew1) | exact HB.out)); (case side2 => exact Kd.R_tight rfl HO_12.out); rintro e w57 ⟨rfl, hy0, hb, hkp⟩; refine ⟨_, rfl, ?_⟩; have n0_ := Aside0.mk (Kd.V_mono (ok' := fun k_ => some k_ ≠ (.slice Ao56 t528.length co56 : Value).ownBlock) (Kd.V_keptB (HO_8.out) hkp (fun k_ hk_ hs_ => (hk_) hs_)) (fun k_ hk_ => hk_.1)); have n1_ := Aside0.mk (Kd.R_reok rfl hy0 (fun k_ e_ => HO_12.out.1 k_ e_)); have n2_ := Aside0.mk (hb); clear HO_8; clear HO_12; clear HB; have HO_8 := n0_; have HO_12 := n1_; have HB := n2_; clear n0_ n1_ n2_; (try clear hb); (try clear hkp); (try clear hy0)) | ((with_reducible refine gate_callee (f := 22) rfl ?_); refine goesL_ (some 90) rfl rfl Try.func22 (by kernel_rfl) rfl #[.slice Ao56 t542.length co56, .int .i64 1] rfl (by (try simp only [List.map_toArray, List.map_cons, List.map_nil]); first | done | (rw [show t542.length = t528.length from (Kd.R_reads' HO_12.out).1.symm] <;> rfl) | rfl | (simp only [List.length_drop, List.length_take]; rfl)) ?_; (with_reducible refine (laws_heldIntS.calls kj30 _ _ t542 1 t543 _ ?side1 ?side2 A48.out).mono ?_); (case side1 => repeat (first | exact (Kd.R_reads' HO_12.out).2.2 | (with_reducible refine Kd.C_alloc ?_ _) | (with_reducible refine Kd.C_drewN ?_ _) | (with_reducible refine Kd.C_drew ?_))); (case side2 => rw [show t542.length = t528.length from (Kd.R_reads' HO_12.out).1.symm]; exact (Kd.R_reads' HO_12.out).2.1); rintro e w' ⟨rfl, ⟨nd, rfl⟩⟩; refine ⟨_, rfl, ?_⟩) | ((with_reducible refine gate_callee (f := 14) rfl ?_); refine goesL_ (some 98) rfl rfl Try.func14 (by kernel_rfl) rfl #[.slice A0 l0.length c0] rfl (by (try simp only [List.map_toArray, List.map_cons, List.map_nil]); first | done | rfl | (simp only [List.length_drop, List.length_take]; rfl)) ?_; (with_reducible refine (laws_toItemS.calls kj30 _ _ l0 t544 _ ?side1 ?side2 A53.out).mono ?_); (case side1 => repeat (first | exact (Kd.C_below HR0.out (by repeat (first | (with_reducible first | exact HB.out | apply below_alloc | apply pw_below_drewN | apply below_drew1) | exact HB.out))) | (with_reducible refine Kd.C_alloc ?_ _) | (with_reducible refine Kd.C_drewN ?_ _) | (with_reducible refine Kd.C_drew ?_))); (case side2 => exact HC0.out); rintro e w58 ⟨v545, rfl, ho0, hb⟩; refine ⟨_, rfl, ?_⟩; have n0_ := Aside0.mk (Kd.V_elder' (by (with_reducible repeat (first | apply Kd.V_alloc | apply Kd.V_drewN | apply Kd.V_drew)); exact HO_8.out) (Kd.R_base ho0) hb); have n1_ := Aside0.mk (Kd.R_below (by (with_reducible repeat (first | apply Kd.R_alloc | apply Kd.R_drewN | apply Kd.R_drew)); exact HO_12.out) hb); have n2_ := Aside0.mk (Kd.R_lower ho0 (below_size (by repeat (first | (with_reducible first | exact HB.out | apply below_alloc | apply pw_below_drewN | apply below_drew1) | exact HB.out)))); have n3_ := Aside0.mk (below_step (by repeat (first | (with_reducible first | exact HB.out | apply below_alloc | apply pw_below_drewN | apply below_drew1) | exact HB.out)) hb); clear HO_8; clear HO_12; clear HB; have HO_8 := n0_; have HO_12 := n1_; have HO546 := n2_; have HB := n3_; clear n0_ n1_ n2_ n3_; (try clear hb); (try clear hb2); (try clear hk); (try clear hi); (try clear ho0); obtain ⟨Ao59, co59, eo59⟩ := Kd.R_slice HO546.out; subst eo59) | ((with_reducible refine gate_callee (f := 38) rfl ?_); refine goesL_ (some 101) rfl rfl Try.func38 (by kernel_rfl) rfl #[.slice Ao59 t544.length co59, .int .i64 a1, .int .i64 a2] rfl (by (try simp only [List.map_toArray, List.map_cons, List.map_nil]); first | done | rfl | (simp only [List.length_drop, List.length_take]; rfl)) ?_; (with_reducible refine (impl_LightestFor.calls _ _ t544 a1 a2 t547 t548 t549 _ ?side1 ?side2 A54.out).mono ?_); (case side1 => repeat (first | exact (Kd.R_reads' HO546.out).2.2 | (with_reducible refine Kd.C_alloc ?_ _) | (with_reducible refine Kd.C_drewN ?_ _) | (with_reducible refine Kd.C_drew ?_))); (case side2 => exact (Kd.R_reads' HO546.out).2.1); rintro e w60 ⟨v550, rfl, ho0, hb⟩; refine ⟨_, rfl, ?_⟩; have n0_ := Aside0.mk (Kd.V_elder' (by (with_reducible repeat (first | apply Kd.V_alloc | apply Kd.V_drewN | apply Kd.V_drew)); exact HO_8.out) (Kd.R_base ho0) hb); have n1_ := Aside0.mk (Kd.R_elder' (by (with_reducible repeat (first | apply Kd.R_alloc | apply Kd.R_drewN | apply Kd.R_drew)); exact HO_12.out) (Kd.R_base ho0) hb); have n2_ := Aside0.mk (Kd.R_below (by (with_reducible repeat (first | apply Kd.R_alloc | apply Kd.R_drewN | apply Kd.R_drew)); exact HO546.out) hb); have n3_ := Aside0.mk (Kd.R_lower (Kd.R_new' ho0 (Kd.R_lt (by (with_reducible repeat (first | apply Kd.R_alloc | apply Kd.R_drewN | apply Kd.R_drew)); exact HO_12.out))) (below_size (by repeat (first | (with_reducible first | exact HB.out | apply below_alloc | apply pw_below_drewN | apply below_drew1) | exact HB.out)))); have n4_ := Aside0.mk (below_step (by repeat (first | (with_reducible first | exact HB.out | apply below_alloc | apply pw_below_drewN | apply below_drew1) | exact HB.out)) hb); clear HO_8; clear HO_12; clear HO546; clear HB; have HO_8 := n0_; have HO_12 := n1_; have HO546 := n2_; have HO551 := n3_; have HB := n4_; clear n0_ n1_ n2_ n3_ n4_; (try clear hb); (try clear hb2); (try clear hk); (try clear hi); (try clear ho0)))
                      (try simp only [Act.put, List.setIfInBounds_toArray, List.set_cons_zero, List.set_cons_succ])
                      go_cut [118] (fun v118 wc => ∃ (kq : Nat) (x118_54 : Bool), v118 = .bool x118_54 ∧ Aside0 (laws_FnExactLightestFor.j2 kq t542 t541 x118_54 = some r) ∧ Aside0 (kq ≤ kj30) ∧ Aside0 (Kd.R (Kd.int .i64) 3 wc w.heap.size (fun _ => True) (.slice Ao56 t528.length co56) t542) ∧ Aside0 (Below w.heap.size w wc))
                      case first =>
                        have H := HC55.out
                        clear HC55
                        replace H := Option.bind_eq_some_iff.mp H
                        obtain ⟨t552, A610, H⟩ := H
                        replace H : (if t552 = true then (if t548 = t523 then (laws_FnExactLightestFor.j2 kj30 t542 t541 (t549 != t524)) else (laws_FnExactLightestFor.j2 kj30 t542 t541 true)) else (laws_FnExactLightestFor.j2 kj30 t542 t541 true)) = some r := H
                        have A61 := Aside0.mk A610
                        clear A610
                        by_cases c62 : t552 = true
                        · subst c62
                          have H1 : (if t548 = t523 then (laws_FnExactLightestFor.j2 kj30 t542 t541 (t549 != t524)) else (laws_FnExactLightestFor.j2 kj30 t542 t541 true)) = some r := by rw [if_pos rfl] at H; exact H
                          clear H
                          have H := H1
                          clear H1
                          by_cases c63 : t548 = t523
                          · rw [if_pos c63] at H
                            have c63b0 : (t548 == t523) = true := beq_iff_eq.mpr c63
                            have c63b1 : (t548 != t523) = false := bne_eq_false_iff_eq.mpr c63
                            clear c63
                            (first | rw [c63b0] | (simp only [i64_w, i32_w]; rw [c63b0]) | skip)
                            have H' := Aside0.mk H
                            clear H
                            obtain ⟨Ao64, co64, eo64⟩ := Kd.R_slice HO551.out
                            subst eo64
                            obtain ⟨Ao65, co65, eo65⟩ := Kd.V_slice HO_8.out
                            subst eo65
                            go_wp2_with (first | ((with_reducible refine gate_callee (f := 19) rfl ?_); refine goesL_ (some 107) rfl rfl Try.func19 (by kernel_rfl) rfl #[.slice Ao64 t547.length co64, .slice Ao65 t520.length co65] rfl (by (try simp only [List.map_toArray, List.map_cons, List.map_nil]); first | done | rfl | (simp only [List.length_drop, List.length_take]; rfl)) ?_; (with_reducible refine (laws_eqIntS.calls kj30 _ _ t547 _ _ t520 true _ ?side1 ?side2 ?side3 ?side4 A61.out).mono ?_); (case side1 => repeat (first | exact (Kd.R_reads' HO551.out).2.2 | (with_reducible refine Kd.C_alloc ?_ _) | (with_reducible refine Kd.C_drewN ?_ _) | (with_reducible refine Kd.C_drew ?_))); (case side2 => exact (Kd.R_reads' HO551.out).2.1); (case side3 => repeat (first | exact (Kd.V_reads' HO_8.out).2.2 | (with_reducible refine Kd.C_alloc ?_ _) | (with_reducible refine Kd.C_drewN ?_ _) | (with_reducible refine Kd.C_drew ?_))); (case side4 => exact (Kd.V_reads' HO_8.out).2.1); rintro e w' ⟨rfl, ⟨nd, rfl⟩⟩; refine ⟨_, rfl, ?_⟩))
                            go_meet
                            case rel => exact ⟨_, ((t549 != t524)), (by first | rfl | (simp; done) | (simp [*]; done)), H', ⟨by have := HJ9.out; have := HJ30.out; first | omega | exact Nat.le_refl _⟩, ⟨by (with_reducible repeat (first | apply Kd.R_alloc | apply Kd.R_drewN | apply Kd.R_drew)); exact Kd.R_mono HO_12.out (fun _ hk => trivial)⟩, ⟨by repeat (first | (with_reducible first | exact HB.out | apply below_alloc | apply pw_below_drewN | apply below_drew1) | exact HB.out)⟩⟩
                          · rw [if_neg c63] at H
                            have c63b0 : (t548 == t523) = false := beq_eq_false_iff_ne.mpr c63
                            have c63b1 : (t548 != t523) = true := bne_iff_ne.mpr c63
                            (first | rw [c63b0] | (simp only [i64_w, i32_w]; rw [c63b0]) | skip)
                            have H' := Aside0.mk H
                            clear H
                            obtain ⟨Ao66, co66, eo66⟩ := Kd.R_slice HO551.out
                            subst eo66
                            obtain ⟨Ao67, co67, eo67⟩ := Kd.V_slice HO_8.out
                            subst eo67
                            go_wp2_with (first | ((with_reducible refine gate_callee (f := 19) rfl ?_); refine goesL_ (some 107) rfl rfl Try.func19 (by kernel_rfl) rfl #[.slice Ao66 t547.length co66, .slice Ao67 t520.length co67] rfl (by (try simp only [List.map_toArray, List.map_cons, List.map_nil]); first | done | rfl | (simp only [List.length_drop, List.length_take]; rfl)) ?_; (with_reducible refine (laws_eqIntS.calls kj30 _ _ t547 _ _ t520 true _ ?side1 ?side2 ?side3 ?side4 A61.out).mono ?_); (case side1 => repeat (first | exact (Kd.R_reads' HO551.out).2.2 | (with_reducible refine Kd.C_alloc ?_ _) | (with_reducible refine Kd.C_drewN ?_ _) | (with_reducible refine Kd.C_drew ?_))); (case side2 => exact (Kd.R_reads' HO551.out).2.1); (case side3 => repeat (first | exact (Kd.V_reads' HO_8.out).2.2 | (with_reducible refine Kd.C_alloc ?_ _) | (with_reducible refine Kd.C_drewN ?_ _) | (with_reducible refine Kd.C_drew ?_))); (case side4 => exact (Kd.V_reads' HO_8.out).2.1); rintro e w' ⟨rfl, ⟨nd, rfl⟩⟩; refine ⟨_, rfl, ?_⟩))
                            go_meet
                            case rel => exact ⟨_, (true), (by first | rfl | (simp; done) | (simp [*]; done)), H', ⟨by have := HJ9.out; have := HJ30.out; first | omega | exact Nat.le_refl _⟩, ⟨by (with_reducible repeat (first | apply Kd.R_alloc | apply Kd.R_drewN | apply Kd.R_drew)); exact Kd.R_mono HO_12.out (fun _ hk => trivial)⟩, ⟨by repeat (first | (with_reducible first | exact HB.out | apply below_alloc | apply pw_below_drewN | apply below_drew1) | exact HB.out)⟩⟩
                        · replace c62 := Bool.eq_false_iff.mpr c62
                          subst c62
                          have H1 : (laws_FnExactLightestFor.j2 kj30 t542 t541 true) = some r := by rw [if_neg (show ¬ (false = true) by decide)] at H; exact H
                          clear H
                          have H := H1
                          clear H1
                          have H' := Aside0.mk H
                          clear H
                          obtain ⟨Ao68, co68, eo68⟩ := Kd.R_slice HO551.out
                          subst eo68
                          obtain ⟨Ao69, co69, eo69⟩ := Kd.V_slice HO_8.out
                          subst eo69
                          go_wp2_with (first | ((with_reducible refine gate_callee (f := 19) rfl ?_); refine goesL_ (some 107) rfl rfl Try.func19 (by kernel_rfl) rfl #[.slice Ao68 t547.length co68, .slice Ao69 t520.length co69] rfl (by (try simp only [List.map_toArray, List.map_cons, List.map_nil]); first | done | rfl | (simp only [List.length_drop, List.length_take]; rfl)) ?_; (with_reducible refine (laws_eqIntS.calls kj30 _ _ t547 _ _ t520 false _ ?side1 ?side2 ?side3 ?side4 A61.out).mono ?_); (case side1 => repeat (first | exact (Kd.R_reads' HO551.out).2.2 | (with_reducible refine Kd.C_alloc ?_ _) | (with_reducible refine Kd.C_drewN ?_ _) | (with_reducible refine Kd.C_drew ?_))); (case side2 => exact (Kd.R_reads' HO551.out).2.1); (case side3 => repeat (first | exact (Kd.V_reads' HO_8.out).2.2 | (with_reducible refine Kd.C_alloc ?_ _) | (with_reducible refine Kd.C_drewN ?_ _) | (with_reducible refine Kd.C_drew ?_))); (case side4 => exact (Kd.V_reads' HO_8.out).2.1); rintro e w' ⟨rfl, ⟨nd, rfl⟩⟩; refine ⟨_, rfl, ?_⟩))
                          go_meet
                          case rel => exact ⟨_, (true), (by first | rfl | (simp; done) | (simp [*]; done)), H', ⟨by have := HJ9.out; have := HJ30.out; first | omega | exact Nat.le_refl _⟩, ⟨by (with_reducible repeat (first | apply Kd.R_alloc | apply Kd.R_drewN | apply Kd.R_drew)); exact Kd.R_mono HO_12.out (fun _ hk => trivial)⟩, ⟨by repeat (first | (with_reducible first | exact HB.out | apply below_alloc | apply pw_below_drewN | apply below_drew1) | exact HB.out)⟩⟩
                      case rest =>
                        clear HC55
                        try clear c1
                        try clear c2
                        try clear p2
                        try clear c3
                        try clear c4
                        try clear c5
                        try clear c5b0
                        try clear c6
                        try clear c11
                        try clear c12
                        try clear c14
                        try clear c16
                        try clear c18
                        try clear c19
                        try clear c19b0
                        try clear c19b1
                        try clear c20
                        try clear c21
                        try clear c22
                        try clear c26
                        try clear c29
                        try clear c36
                        try clear c36b0
                        try clear c37
                        try clear c38
                        try clear c39
                        try clear c39b0
                        try clear c39b1
                        try clear c46
                        try clear c49
                        try clear c49b0
                        try clear c52
                        try clear c52b0
                        try clear c52b1
                        try clear c62
                        try clear c63
                        try clear c63b0
                        try clear c63b1
                        try clear p2
                        obtain ⟨kq, x118_54, rfl, HA, HJ54, HO_12, HB⟩ := hcut
                        have hl12_54 := (Kd.R_reads' HO_12.out).1
                        rw [hl12_54] at HO_12
                        (try simp only [hl12_54])
                        cases kq with
                        | zero => exact absurd HA.out (by simp [laws_FnExactLightestFor.j2])
                        | succ kj54 =>
                          have H := HA.out
                          clear HA
                          simp only [laws_FnExactLightestFor.j2] at H
                          by_cases c70 : x118_54 = true
                          · subst c70
                            have H1 : (some false) = some r := by rw [if_pos rfl] at H; exact H
                            clear H
                            have H := H1
                            clear H1
                            obtain rfl := Option.some.inj H
                            go_wp2
                            go_ret
                            exact ⟨by first | rfl | (simp [errW_none, errW_some] <;> rfl) | (simp [*, errW_none, errW_some] <;> rfl), by repeat (first | (with_reducible first | exact HB.out | apply below_alloc | apply pw_below_drewN | apply below_drew1) | exact HB.out)⟩
                          · replace c70 := Bool.eq_false_iff.mpr c70
                            subst c70
                            have H1 : ((laws_heldIntS.f kj54 t542 1).bind fun t553 => (if t553 < 0 then (some false) else (if t553 = t541 then (some true) else (some false)))) = some r := by rw [if_neg (show ¬ (false = true) by decide)] at H; exact H
                            clear H
                            have H := H1
                            clear H1
                            replace H := Option.bind_eq_some_iff.mp H
                            obtain ⟨t553, A710, H⟩ := H
                            replace H : (if t553 < 0 then (some false) else (if t553 = t541 then (some true) else (some false))) = some r := H
                            have A71 := Aside0.mk A710
                            clear A710
                            by_cases c72 : t553 < 0
                            · rw [if_pos c72] at H
                              have c72b0 : decide (t553 < 0) = true := decide_eq_true c72
                              clear c72
                              obtain rfl := Option.some.inj H
                              go_wp2_with (first | ((with_reducible refine gate_callee (f := 22) rfl ?_); refine goesL_ (some 121) rfl rfl Try.func22 (by kernel_rfl) rfl #[.slice Ao56 t542.length co56, .int .i64 1] rfl (by (try simp only [List.map_toArray, List.map_cons, List.map_nil]); first | done | rfl | (simp only [List.length_drop, List.length_take]; rfl)) ?_; (with_reducible refine (laws_heldIntS.calls kj54 _ _ t542 1 t553 _ ?side1 ?side2 A71.out).mono ?_); (case side1 => repeat (first | exact (Kd.R_reads' HO_12.out).2.2 | (with_reducible refine Kd.C_alloc ?_ _) | (with_reducible refine Kd.C_drewN ?_ _) | (with_reducible refine Kd.C_drew ?_))); (case side2 => exact (Kd.R_reads' HO_12.out).2.1); rintro e w' ⟨rfl, ⟨nd, rfl⟩⟩; refine ⟨_, rfl, ?_⟩))
                              go_ret
                              exact ⟨by first | rfl | (simp [errW_none, errW_some] <;> rfl) | (simp [*, errW_none, errW_some] <;> rfl), by repeat (first | (with_reducible first | exact HB.out | apply below_alloc | apply pw_below_drewN | apply below_drew1) | exact HB.out)⟩
                            · rw [if_neg c72] at H
                              have c72b0 : decide (t553 < 0) = false := decide_eq_false c72
                              clear c72
                              by_cases c73 : t553 = t541
                              · rw [if_pos c73] at H
                                have c73b0 : (t553 == t541) = true := beq_iff_eq.mpr c73
                                have c73b1 : (t553 != t541) = false := bne_eq_false_iff_eq.mpr c73
                                clear c73
                                obtain rfl := Option.some.inj H
                                go_wp2_with (first | ((with_reducible refine gate_callee (f := 22) rfl ?_); refine goesL_ (some 121) rfl rfl Try.func22 (by kernel_rfl) rfl #[.slice Ao56 t542.length co56, .int .i64 1] rfl (by (try simp only [List.map_toArray, List.map_cons, List.map_nil]); first | done | rfl | (simp only [List.length_drop, List.length_take]; rfl)) ?_; (with_reducible refine (laws_heldIntS.calls kj54 _ _ t542 1 t553 _ ?side1 ?side2 A71.out).mono ?_); (case side1 => repeat (first | exact (Kd.R_reads' HO_12.out).2.2 | (with_reducible refine Kd.C_alloc ?_ _) | (with_reducible refine Kd.C_drewN ?_ _) | (with_reducible refine Kd.C_drew ?_))); (case side2 => exact (Kd.R_reads' HO_12.out).2.1); rintro e w' ⟨rfl, ⟨nd, rfl⟩⟩; refine ⟨_, rfl, ?_⟩))
                                go_ret
                                exact ⟨by first | rfl | (simp [errW_none, errW_some] <;> rfl) | (simp [*, errW_none, errW_some] <;> rfl), by repeat (first | (with_reducible first | exact HB.out | apply below_alloc | apply pw_below_drewN | apply below_drew1) | exact HB.out)⟩
                              · rw [if_neg c73] at H
                                have c73b0 : (t553 == t541) = false := beq_eq_false_iff_ne.mpr c73
                                have c73b1 : (t553 != t541) = true := bne_iff_ne.mpr c73
                                obtain rfl := Option.some.inj H
                                go_wp2_with (first | ((with_reducible refine gate_callee (f := 22) rfl ?_); refine goesL_ (some 121) rfl rfl Try.func22 (by kernel_rfl) rfl #[.slice Ao56 t542.length co56, .int .i64 1] rfl (by (try simp only [List.map_toArray, List.map_cons, List.map_nil]); first | done | rfl | (simp only [List.length_drop, List.length_take]; rfl)) ?_; (with_reducible refine (laws_heldIntS.calls kj54 _ _ t542 1 t553 _ ?side1 ?side2 A71.out).mono ?_); (case side1 => repeat (first | exact (Kd.R_reads' HO_12.out).2.2 | (with_reducible refine Kd.C_alloc ?_ _) | (with_reducible refine Kd.C_drewN ?_ _) | (with_reducible refine Kd.C_drew ?_))); (case side2 => exact (Kd.R_reads' HO_12.out).2.1); rintro e w' ⟨rfl, ⟨nd, rfl⟩⟩; refine ⟨_, rfl, ?_⟩))
                                go_ret
                                exact ⟨by first | rfl | (simp [errW_none, errW_some] <;> rfl) | (simp [*, errW_none, errW_some] <;> rfl), by repeat (first | (with_reducible first | exact HB.out | apply below_alloc | apply pw_below_drewN | apply below_drew1) | exact HB.out)⟩
                    · rw [if_neg c52] at H
                      have c52b0 : (t543 == t541) = false := beq_eq_false_iff_ne.mpr c52
                      have c52b1 : (t543 != t541) = true := bne_iff_ne.mpr c52
                      obtain rfl := Option.some.inj H
                      obtain ⟨Ao74, co74, eo74⟩ := Kd.R_slice HO_12.out
                      subst eo74
                      go_wp2_with (first | ((with_reducible refine gate_callee (f := 21) rfl ?_); refine goesL_ (some 87) rfl rfl Try.func21 (by kernel_rfl) rfl #[.slice Ao74 t528.length co74, .int .i64 1] rfl (by (try simp only [List.map_toArray, List.map_cons, List.map_nil]); first | done | rfl | (simp only [List.length_drop, List.length_take]; rfl)) ?_; (with_reducible refine (laws_markIntS.calls kj30 (fun k_ => some k_ = (.slice Ao74 t528.length co74 : Value).ownBlock) (.slice Ao74 t528.length co74) t528 1 t541 t542 w _ ?side1 ?side2 A47.out).mono ?_); (case side1 => repeat (first | (with_reducible first | exact HB.out | apply below_alloc | apply pw_below_drewN | apply below_drew1) | exact HB.out)); (case side2 => exact Kd.R_tight rfl HO_12.out); rintro e w75 ⟨rfl, hy0, hb, hkp⟩; refine ⟨_, rfl, ?_⟩; have n0_ := Aside0.mk (Kd.V_mono (ok' := fun k_ => some k_ ≠ (.slice Ao74 t528.length co74 : Value).ownBlock) (Kd.V_keptB (HO_8.out) hkp (fun k_ hk_ hs_ => (hk_) hs_)) (fun k_ hk_ => hk_.1)); have n1_ := Aside0.mk (Kd.R_reok rfl hy0 (fun k_ e_ => HO_12.out.1 k_ e_)); have n2_ := Aside0.mk (hb); clear HO_8; clear HO_12; clear HB; have HO_8 := n0_; have HO_12 := n1_; have HB := n2_; clear n0_ n1_ n2_; (try clear hb); (try clear hkp); (try clear hy0)) | ((with_reducible refine gate_callee (f := 22) rfl ?_); refine goesL_ (some 90) rfl rfl Try.func22 (by kernel_rfl) rfl #[.slice Ao74 t542.length co74, .int .i64 1] rfl (by (try simp only [List.map_toArray, List.map_cons, List.map_nil]); first | done | (rw [show t542.length = t528.length from (Kd.R_reads' HO_12.out).1.symm] <;> rfl) | rfl | (simp only [List.length_drop, List.length_take]; rfl)) ?_; (with_reducible refine (laws_heldIntS.calls kj30 _ _ t542 1 t543 _ ?side1 ?side2 A48.out).mono ?_); (case side1 => repeat (first | exact (Kd.R_reads' HO_12.out).2.2 | (with_reducible refine Kd.C_alloc ?_ _) | (with_reducible refine Kd.C_drewN ?_ _) | (with_reducible refine Kd.C_drew ?_))); (case side2 => rw [show t542.length = t528.length from (Kd.R_reads' HO_12.out).1.symm]; exact (Kd.R_reads' HO_12.out).2.1); rintro e w' ⟨rfl, ⟨nd, rfl⟩⟩; refine ⟨_, rfl, ?_⟩))
                      go_ret
                      exact ⟨by first | rfl | (simp [errW_none, errW_some] <;> rfl) | (simp [*, errW_none, errW_some] <;> rfl), by repeat (first | (with_reducible first | exact HB.out | apply below_alloc | apply pw_below_drewN | apply below_drew1) | exact HB.out)⟩
          · replace c29 := Bool.eq_false_iff.mpr c29
            subst c29
            have H1 : (some false) = some r := by rw [if_neg (show ¬ (false = true) by decide)] at H; exact H
            clear H
            have H := H1
            clear H1
            obtain rfl := Option.some.inj H
            go_wp2_with (first | ((with_reducible refine gate_callee (f := 14) rfl ?_); refine goesL_ (some 61) rfl rfl Try.func14 (by kernel_rfl) rfl #[.slice A0 l0.length c0] rfl (by (try simp only [List.map_toArray, List.map_cons, List.map_nil]); first | done | rfl | (simp only [List.length_drop, List.length_take]; rfl)) ?_; (with_reducible refine (laws_toItemS.calls kj9 _ _ l0 t534 _ ?side1 ?side2 A27.out).mono ?_); (case side1 => repeat (first | exact (Kd.C_below HR0.out HB.out) | (with_reducible refine Kd.C_alloc ?_ _) | (with_reducible refine Kd.C_drewN ?_ _) | (with_reducible refine Kd.C_drew ?_))); (case side2 => exact HC0.out); rintro e w76 ⟨v535, rfl, ho0, hb⟩; refine ⟨_, rfl, ?_⟩; have n0_ := Aside0.mk (Kd.V_elder' (by (with_reducible repeat (first | apply Kd.V_alloc | apply Kd.V_drewN | apply Kd.V_drew)); exact HO_8.out) (Kd.R_base ho0) hb); have n1_ := Aside0.mk (Kd.R_elder' (by (with_reducible repeat (first | apply Kd.R_alloc | apply Kd.R_drewN | apply Kd.R_drew)); exact HO_11.out) (Kd.R_base ho0) hb); have n2_ := Aside0.mk (Kd.R_below (by (with_reducible repeat (first | apply Kd.R_alloc | apply Kd.R_drewN | apply Kd.R_drew)); exact HO_12.out) hb); have n3_ := Aside0.mk (Kd.R_lower (Kd.R_new' ho0 (Kd.R_lt (by (with_reducible repeat (first | apply Kd.R_alloc | apply Kd.R_drewN | apply Kd.R_drew)); exact HO_11.out))) (below_size (by repeat (first | (with_reducible first | exact HB.out | apply below_alloc | apply pw_below_drewN | apply below_drew1) | exact HB.out)))); have n4_ := Aside0.mk (below_step (by repeat (first | (with_reducible first | exact HB.out | apply below_alloc | apply pw_below_drewN | apply below_drew1) | exact HB.out)) hb); clear HO_8; clear HO_11; clear HO_12; clear HB; have HO_8 := n0_; have HO_11 := n1_; have HO_12 := n2_; have HO536 := n3_; have HB := n4_; clear n0_ n1_ n2_ n3_ n4_; (try clear hb); (try clear hb2); (try clear hk); (try clear hi); (try clear ho0); obtain ⟨Ao77, co77, eo77⟩ := Kd.R_slice HO536.out; subst eo77) | ((with_reducible refine gate_callee (f := 16) rfl ?_); refine goesL_ (some 62) rfl rfl Try.func16 (by kernel_rfl) rfl #[.slice Ao15 t525.length co15, .slice Ao77 t534.length co77] rfl (by (try simp only [List.map_toArray, List.map_cons, List.map_nil]); first | done | rfl | (simp only [List.length_drop, List.length_take]; rfl)) ?_; (with_reducible refine (laws_eqItemS.calls kj9 _ _ t525 _ _ t534 false _ ?side1 ?side2 ?side3 ?side4 A28.out).mono ?_); (case side1 => repeat (first | exact (Kd.R_reads' HO_11.out).2.2 | (with_reducible refine Kd.C_alloc ?_ _) | (with_reducible refine Kd.C_drewN ?_ _) | (with_reducible refine Kd.C_drew ?_))); (case side2 => exact (Kd.R_reads' HO_11.out).2.1); (case side3 => repeat (first | exact (Kd.R_reads' HO536.out).2.2 | (with_reducible refine Kd.C_alloc ?_ _) | (with_reducible refine Kd.C_drewN ?_ _) | (with_reducible refine Kd.C_drew ?_))); (case side4 => exact (Kd.R_reads' HO536.out).2.1); rintro e w78 ⟨rfl, hb⟩; refine ⟨_, rfl, ?_⟩; have n0_ := Aside0.mk (Kd.V_below (by (with_reducible repeat (first | apply Kd.V_alloc | apply Kd.V_drewN | apply Kd.V_drew)); exact HO_8.out) hb); have n1_ := Aside0.mk (Kd.R_below (by (with_reducible repeat (first | apply Kd.R_alloc | apply Kd.R_drewN | apply Kd.R_drew)); exact HO_11.out) hb); have n2_ := Aside0.mk (Kd.R_below (by (with_reducible repeat (first | apply Kd.R_alloc | apply Kd.R_drewN | apply Kd.R_drew)); exact HO_12.out) hb); have n3_ := Aside0.mk (Kd.R_below (by (with_reducible repeat (first | apply Kd.R_alloc | apply Kd.R_drewN | apply Kd.R_drew)); exact HO536.out) hb); have n4_ := Aside0.mk (below_step (by repeat (first | (with_reducible first | exact HB.out | apply below_alloc | apply pw_below_drewN | apply below_drew1) | exact HB.out)) hb); clear HO_8; clear HO_11; clear HO_12; clear HO536; clear HB; have HO_8 := n0_; have HO_11 := n1_; have HO_12 := n2_; have HO536 := n3_; have HB := n4_; clear n0_ n1_ n2_ n3_ n4_; (try clear hb); (try clear hb2); (try clear hk); (try clear hi)))
            go_ret
            exact ⟨by first | rfl | (simp [errW_none, errW_some] <;> rfl) | (simp [*, errW_none, errW_some] <;> rfl), by repeat (first | (with_reducible first | exact HB.out | apply below_alloc | apply pw_below_drewN | apply below_drew1) | exact HB.out)⟩

end Go.Proofs.Ytgghcngfleicnaa.Q
