/-
  Part 3 of the proof of FnExactOnlyBelow: what Go functions that it reaches compute, each shown by a walk of its code, and plain laws on numbers and lists.
  CONDITIONS: each theorem's own, as stated.
-/
import Derived.Test.YtbmefldckdaopaaZFnExactOnlyBelow1
import Derived.Test.YtbmefldckdaopaaZFnExactOnlyBelow2
import Derived.Deep.Slices
import Derived.Deep.Fields
import Derived.ChangeSame
import Derived.SizedLaws
import Derived.ChangeSlices
import Derived.Lib.SmallJoins
import Derived.Test.YtbmefldckdaopaaWWords
import Derived.Test.YtbmefldckdaopaaRows
import Derived.WalkKit
import Derived.ProofKit
import Derived.OpenShut
import Derived.ShutString
import Derived.ChangeOld
import Derived.Below
import Derived.Test.YtbmefldckdaopaaWSized
namespace Go.Proofs.Ytbmefldckdaopaa.Q
open Go.RowKit Go.Proofs.YtbmefldckdaopaaW.PrintWords Go.Proofs.YtbmefldckdaopaaW.PrintLast Go.Proofs.YtbmefldckdaopaaW.PrintMore
attribute [local go_sem] max2_int min2_int max_two min_two max_three min_three max_four min_four   -- for this text's walks alone
set_option linter.unusedVariables false
set_option linter.unusedSimpArgs false

/-! ### spec_OnlyBelow: function 17 -/
mutual
def spec_OnlyBelow.l0 : Nat → List (S49) → List (List Int) → Int → Int → Option ((List (List Int)) × Bool)
  | 0, _, _, _, _ => none
  | k + 1, x0, x4, x11, x12 => if x12 < x11 then (spec_OnlyBelow.l1 k x0 x4 x12 x11 x12 (x0.length : Int) 0) else (some (x4, true))
def spec_OnlyBelow.l1 : Nat → List (S49) → List (List Int) → Int → Int → Int → Int → Int → Option ((List (List Int)) × Bool)
  | 0, _, _, _, _, _, _, _ => none
  | k + 1, x0, x4, x5, x11, x12, x16, x17 => if x17 < x16 then (if x5 = x17 then (spec_OnlyBelow.l1 k x0 x4 x5 x11 x12 x16 (wrap64 (x17 + 1))) else ((spec_scSafe.f k x0 (([x5, x17] : List Int))).bind fun t153 => (if t153 = true then ((spec_scSafe.f k x0 (([x17, x5] : List Int))).bind fun t157 => (if t157 = true then (spec_OnlyBelow.l1 k x0 x4 x5 x11 x12 x16 (wrap64 (x17 + 1))) else (if x4.length < 5864062014805 then (spec_OnlyBelow.l1 k x0 (x4 ++ [(([x5, x17] : List Int))]) x5 x11 x12 x16 (wrap64 (x17 + 1))) else (none)))) else (spec_OnlyBelow.l1 k x0 x4 x5 x11 x12 x16 (wrap64 (x17 + 1)))))) else (spec_OnlyBelow.l0 k x0 x4 x11 (wrap64 (x12 + 1)))
end
def spec_OnlyBelow.f (k : Nat) (l0 : List (S49)) : Option ((List (List Int)) × Bool) := (spec_scGood.f k l0).bind fun t149 => (if t149 = true then (spec_OnlyBelow.l0 k l0 ([] : List (List Int)) (l0.length : Int) 0) else (some (([] : List (List Int)), false)))
theorem spec_OnlyBelow.mono_l : ∀ k, (∀ y0 y1 y2 y3, LeO (spec_OnlyBelow.l0 k y0 y1 y2 y3) (spec_OnlyBelow.l0 (k + 1) y0 y1 y2 y3)) ∧ (∀ y0 y1 y2 y3 y4 y5 y6, LeO (spec_OnlyBelow.l1 k y0 y1 y2 y3 y4 y5 y6) (spec_OnlyBelow.l1 (k + 1) y0 y1 y2 y3 y4 y5 y6))
  | 0 => ⟨fun _ _ _ _ r h => by simp [spec_OnlyBelow.l0] at h, fun _ _ _ _ _ _ _ r h => by simp [spec_OnlyBelow.l1] at h⟩
  | k + 1 => by
    obtain ⟨ih0, ih1⟩ := spec_OnlyBelow.mono_l k
    refine ⟨?_, ?_⟩
    · intro y0 y1 y2 y3
      unfold spec_OnlyBelow.l0
      repeat' first
      | (with_reducible exact ih0 _ _ _ _)
      | (with_reducible exact ih1 _ _ _ _ _ _ _)
      | (with_reducible exact spec_scGood.mono _ _)
      | (with_reducible exact spec_scSafe.mono _ _ _)
      | (with_reducible exact LeO.refl _)
      | (with_reducible exact LeO.none _)
      | (with_reducible refine LeO.ite ?_ ?_)
      | (with_reducible refine LeO.bind ?_ (fun _ => ?_))
      | exact ih0 _ _ _ _
      | exact ih1 _ _ _ _ _ _ _
      | exact spec_scGood.mono _ _
      | exact spec_scSafe.mono _ _ _
      | exact LeO.none _
      | refine LeO.ite ?_ ?_
      | refine LeO.bind ?_ (fun _ => ?_)
    · intro y0 y1 y2 y3 y4 y5 y6
      unfold spec_OnlyBelow.l1
      repeat' first
      | (with_reducible exact ih0 _ _ _ _)
      | (with_reducible exact ih1 _ _ _ _ _ _ _)
      | (with_reducible exact spec_scGood.mono _ _)
      | (with_reducible exact spec_scSafe.mono _ _ _)
      | (with_reducible exact LeO.refl _)
      | (with_reducible exact LeO.none _)
      | (with_reducible refine LeO.ite ?_ ?_)
      | (with_reducible refine LeO.bind ?_ (fun _ => ?_))
      | exact ih0 _ _ _ _
      | exact ih1 _ _ _ _ _ _ _
      | exact spec_scGood.mono _ _
      | exact spec_scSafe.mono _ _ _
      | exact LeO.none _
      | refine LeO.ite ?_ ?_
      | refine LeO.bind ?_ (fun _ => ?_)
theorem spec_OnlyBelow.mono : ∀ a0 k, LeO (spec_OnlyBelow.f k a0) (spec_OnlyBelow.f (k + 1) a0) := by
  intro a0 k
  obtain ⟨ih0, ih1⟩ := spec_OnlyBelow.mono_l k
  unfold spec_OnlyBelow.f
  repeat' first
      | (with_reducible exact ih0 _ _ _ _)
      | (with_reducible exact ih1 _ _ _ _ _ _ _)
      | (with_reducible exact spec_scGood.mono _ _)
      | (with_reducible exact spec_scSafe.mono _ _ _)
      | (with_reducible exact LeO.refl _)
      | (with_reducible exact LeO.none _)
      | (with_reducible refine LeO.ite ?_ ?_)
      | (with_reducible refine LeO.bind ?_ (fun _ => ?_))
      | exact ih0 _ _ _ _
      | exact ih1 _ _ _ _ _ _ _
      | exact spec_scGood.mono _ _
      | exact spec_scSafe.mono _ _ _
      | exact LeO.none _
      | refine LeO.ite ?_ ?_
      | refine LeO.bind ?_ (fun _ => ?_)
set_option maxHeartbeats 8000000 in
set_option maxRecDepth 100000 in
theorem spec_OnlyBelow.calls (k : Nat) (A0 : Option Addr) (c0 : Nat) (l0 : List (S49)) (r1 : List (List Int)) (r2 : Bool) (w : World) (hr0 : Kd.C k49 w A0 l0.length l0) (hc0 : l0.length ≤ c0) (h : spec_OnlyBelow.f k l0 = some (r1, r2)) :
    Calls Try.prog 17 #[.slice A0 l0.length c0] w fun e w' => ∃ v0_ : Value, e = .returned (.tuple #[v0_, .bool r2]) ∧ Kd.S (Kd.slice 3 (Kd.int .i64)) 41 w' w.heap.size (fun _ => True) v0_ r1 ∧ Below w.heap.size w w' := by
  have HR0 := Aside0.mk hr0
  have HC0 := Aside0.mk hc0
  clear hr0 hc0
  have HB := Aside0.mk (Below.refl w.heap.size w)
  have H : ((spec_scGood.f k l0).bind fun t149 => (if t149 = true then (spec_OnlyBelow.l0 k l0 ([] : List (List Int)) (l0.length : Int) 0) else (some (([] : List (List Int)), false)))) = some (r1, r2) := h
  clear h
  replace H := Option.bind_eq_some_iff.mp H
  obtain ⟨t149, A20, H⟩ := H
  replace H : (if t149 = true then (spec_OnlyBelow.l0 k l0 ([] : List (List Int)) (l0.length : Int) 0) else (some (([] : List (List Int)), false))) = some (r1, r2) := H
  have A2 := Aside0.mk A20
  clear A20
  by_cases c3 : t149 = true
  · subst c3
    have H1 : (spec_OnlyBelow.l0 k l0 ([] : List (List Int)) (l0.length : Int) 0) = some (r1, r2) := by rw [if_pos rfl] at H; exact H
    clear H
    have H := H1
    clear H1
    have H' := Aside0.mk H
    clear H
    go_enter Try.func17, Try.ntmps17
    go_wp2_with (first | ((with_reducible refine gate_callee (f := 40) rfl ?_); refine goesL_ (some 8) rfl rfl Try.func40 (by kernel_rfl) rfl #[.slice A0 l0.length c0] rfl (by (try simp only [List.map_toArray, List.map_cons, List.map_nil]); first | done | rfl | (simp only [List.length_drop, List.length_take]; rfl)) ?_; (with_reducible refine (spec_scGood.calls k _ _ l0 true _ ?side1 ?side2 A2.out).mono ?_); (case side1 => repeat (first | exact HR0.out | (with_reducible refine Kd.C_alloc ?_ _) | (with_reducible refine Kd.C_drewN ?_ _) | (with_reducible refine Kd.C_drew ?_))); (case side2 => exact HC0.out); rintro e w4 ⟨rfl, hb⟩; refine ⟨_, rfl, ?_⟩; have n0_ := Aside0.mk (below_step (by repeat (first | (with_reducible first | exact HB.out | apply below_alloc | apply pw_below_drewN | apply below_drew1) | exact HB.out)) hb); clear HB; have HB := n0_; clear n0_; (try clear hb); (try clear hb2); (try clear hk); (try clear hi)))
    go_loopg [4, 12] k (fun kq v4 v12 w' => ∃ (x4_1 : List (List Int)) (x12_1 : Int), v12 = .int .i64 x12_1 ∧ Aside0 (spec_OnlyBelow.l0 kq l0 x4_1 (l0.length : Int) x12_1 = some (r1, r2)) ∧ Aside0 (kq ≤ k) ∧ Aside0 (Kd.S (Kd.slice 3 (Kd.int .i64)) 41 w' w.heap.size (fun _ => True) v4 x4_1) ∧ Aside0 (Below w.heap.size w w'))
    case atStart => exact ⟨(([] : List (List Int))), (0), (by first | rfl | (simp; done) | (simp [*]; done)), H', ⟨Nat.le_refl _⟩, ⟨by first | exact Kd.S_nil _ _ _ _ _ | exact Kd.N_nil _ _ _ _ _ | exact Kd.V_nil _ _ _ _ _ | exact Kd.Q_nil _ _ _ _ _ | exact Kd.R_nil _ _ _ _ _⟩, ⟨by repeat (first | (with_reducible first | exact HB.out | apply below_alloc | apply pw_below_drewN | apply below_drew1) | exact HB.out)⟩⟩
    case round =>
      clear H'
      try clear c1
      try clear p2
      try clear c3
      try clear c4
      obtain ⟨x4_1, x12_1, rfl, HA, HK1, HO_4, HB⟩ := hrel
      cases gk with
      | zero => exact absurd HA.out (by simp [spec_OnlyBelow.l0])
      | succ k1 =>
        have H := HA.out
        clear HA
        simp only [spec_OnlyBelow.l0] at H
        by_cases c5 : x12_1 < (l0.length : Int)
        · rw [if_pos c5] at H
          have c5b0 : decide (x12_1 < (l0.length : Int)) = true := decide_eq_true c5
          clear c5
          have H' := Aside0.mk H
          clear H
          go_wp2
          go_loopg [4, 17] k1 (fun kq v4 v17 w' => ∃ (x4_2 : List (List Int)) (x17_2 : Int), v17 = .int .i64 x17_2 ∧ Aside0 (spec_OnlyBelow.l1 kq l0 x4_2 x12_1 (l0.length : Int) x12_1 (l0.length : Int) x17_2 = some (r1, r2)) ∧ Aside0 (kq ≤ k1) ∧ Aside0 (Kd.S (Kd.slice 3 (Kd.int .i64)) 41 w' w.heap.size (fun _ => True) v4 x4_2) ∧ Aside0 (Below w.heap.size w w'))
          case atStart => exact ⟨(x4_1), (0), (by first | rfl | (simp; done) | (simp [*]; done)), H', ⟨Nat.le_refl _⟩, ⟨by (with_reducible repeat (first | apply Kd.S_alloc | apply Kd.S_drewN | apply Kd.S_drew)); exact HO_4.out⟩, ⟨by repeat (first | (with_reducible first | exact HB.out | apply below_alloc | apply pw_below_drewN | apply below_drew1) | exact HB.out)⟩⟩
          case round =>
            clear H'
            try clear c1
            try clear p2
            try clear c3
            try clear c4
            try clear c5
            try clear c5b0
            try clear p2
            obtain ⟨x4_2, x17_2, rfl, HA, HK2, HO_4, HB⟩ := hrel
            cases gk with
            | zero => exact absurd HA.out (by simp [spec_OnlyBelow.l1])
            | succ k2 =>
              have H := HA.out
              clear HA
              simp only [spec_OnlyBelow.l1] at H
              by_cases c6 : x17_2 < (l0.length : Int)
              · rw [if_pos c6] at H
                have c6b0 : decide (x17_2 < (l0.length : Int)) = true := decide_eq_true c6
                clear c6
                by_cases c7 : x12_1 = x17_2
                · rw [if_pos c7] at H
                  have c7b0 : (x12_1 == x17_2) = true := beq_iff_eq.mpr c7
                  have c7b1 : (x12_1 != x17_2) = false := bne_eq_false_iff_eq.mpr c7
                  clear c7
                  have H' := Aside0.mk H
                  clear H
                  go_wp2
                  go_roundg k2
                  case measure => have := HK1.out; have := HK2.out; omega
                  case rel => exact ⟨(x4_2), (wrap64 (x17_2 + 1)), (by first | rfl | (simp; done) | (simp [*]; done)), H', ⟨by have := HK1.out; have := HK2.out; omega⟩, ⟨by (with_reducible repeat (first | apply Kd.S_alloc | apply Kd.S_drewN | apply Kd.S_drew)); exact HO_4.out⟩, ⟨by repeat (first | (with_reducible first | exact HB.out | apply below_alloc | apply pw_below_drewN | apply below_drew1) | exact HB.out)⟩⟩
                · rw [if_neg c7] at H
                  have c7b0 : (x12_1 == x17_2) = false := beq_eq_false_iff_ne.mpr c7
                  have c7b1 : (x12_1 != x17_2) = true := bne_iff_ne.mpr c7
                  obtain ⟨y150, hy150⟩ : ∃ y_ : List Int, y_ = (([x12_1, x17_2] : List Int)) := ⟨_, rfl⟩
                  replace H : ((spec_scSafe.f k2 l0 y150).bind fun t153 => (if t153 = true then ((spec_scSafe.f k2 l0 (([x17_2, x12_1] : List Int))).bind fun t157 => (if t157 = true then (spec_OnlyBelow.l1 k2 l0 x4_2 x12_1 (l0.length : Int) x12_1 (l0.length : Int) (wrap64 (x17_2 + 1))) else (if x4_2.length < 5864062014805 then (spec_OnlyBelow.l1 k2 l0 (x4_2 ++ [(([x12_1, x17_2] : List Int))]) x12_1 (l0.length : Int) x12_1 (l0.length : Int) (wrap64 (x17_2 + 1))) else (none)))) else (spec_OnlyBelow.l1 k2 l0 x4_2 x12_1 (l0.length : Int) x12_1 (l0.length : Int) (wrap64 (x17_2 + 1))))) = some (r1, r2) := by first | (rw [hy150]; with_reducible exact H) | (have H2_ := (Option.bind_some _ _).symm.trans H; rw [hy150]; with_reducible exact H2_) | (have H2_ := (Option.bind_some _ _).symm.trans H; with_reducible exact H2_) | with_reducible exact H | (rw [hy150]; exact H) | exact H
                  have Ny150 := Aside0.mk hy150
                  clear hy150
                  replace H := Option.bind_eq_some_iff.mp H
                  obtain ⟨t153, A80, H⟩ := H
                  replace H : (if t153 = true then ((spec_scSafe.f k2 l0 (([x17_2, x12_1] : List Int))).bind fun t157 => (if t157 = true then (spec_OnlyBelow.l1 k2 l0 x4_2 x12_1 (l0.length : Int) x12_1 (l0.length : Int) (wrap64 (x17_2 + 1))) else (if x4_2.length < 5864062014805 then (spec_OnlyBelow.l1 k2 l0 (x4_2 ++ [(([x12_1, x17_2] : List Int))]) x12_1 (l0.length : Int) x12_1 (l0.length : Int) (wrap64 (x17_2 + 1))) else (none)))) else (spec_OnlyBelow.l1 k2 l0 x4_2 x12_1 (l0.length : Int) x12_1 (l0.length : Int) (wrap64 (x17_2 + 1)))) = some (r1, r2) := H
                  have A8 := Aside0.mk A80
                  clear A80
                  by_cases c9 : t153 = true
                  · subst c9
                    have H1 : ((spec_scSafe.f k2 l0 (([x17_2, x12_1] : List Int))).bind fun t157 => (if t157 = true then (spec_OnlyBelow.l1 k2 l0 x4_2 x12_1 (l0.length : Int) x12_1 (l0.length : Int) (wrap64 (x17_2 + 1))) else (if x4_2.length < 5864062014805 then (spec_OnlyBelow.l1 k2 l0 (x4_2 ++ [(([x12_1, x17_2] : List Int))]) x12_1 (l0.length : Int) x12_1 (l0.length : Int) (wrap64 (x17_2 + 1))) else (none)))) = some (r1, r2) := by rw [if_pos rfl] at H; exact H
                    clear H
                    have H := H1
                    clear H1
                    obtain ⟨y154, hy154⟩ : ∃ y_ : List Int, y_ = (([x17_2, x12_1] : List Int)) := ⟨_, rfl⟩
                    replace H : ((spec_scSafe.f k2 l0 y154).bind fun t157 => (if t157 = true then (spec_OnlyBelow.l1 k2 l0 x4_2 x12_1 (l0.length : Int) x12_1 (l0.length : Int) (wrap64 (x17_2 + 1))) else (if x4_2.length < 5864062014805 then (spec_OnlyBelow.l1 k2 l0 (x4_2 ++ [(([x12_1, x17_2] : List Int))]) x12_1 (l0.length : Int) x12_1 (l0.length : Int) (wrap64 (x17_2 + 1))) else (none)))) = some (r1, r2) := by first | (rw [hy154]; with_reducible exact H) | (have H2_ := (Option.bind_some _ _).symm.trans H; rw [hy154]; with_reducible exact H2_) | (have H2_ := (Option.bind_some _ _).symm.trans H; with_reducible exact H2_) | with_reducible exact H | (rw [hy154]; exact H) | exact H
                    have Ny154 := Aside0.mk hy154
                    clear hy154
                    replace H := Option.bind_eq_some_iff.mp H
                    obtain ⟨t157, A100, H⟩ := H
                    replace H : (if t157 = true then (spec_OnlyBelow.l1 k2 l0 x4_2 x12_1 (l0.length : Int) x12_1 (l0.length : Int) (wrap64 (x17_2 + 1))) else (if x4_2.length < 5864062014805 then (spec_OnlyBelow.l1 k2 l0 (x4_2 ++ [(([x12_1, x17_2] : List Int))]) x12_1 (l0.length : Int) x12_1 (l0.length : Int) (wrap64 (x17_2 + 1))) else (none))) = some (r1, r2) := H
                    have A10 := Aside0.mk A100
                    clear A100
                    by_cases c11 : t157 = true
                    · subst c11
                      have H1 : (spec_OnlyBelow.l1 k2 l0 x4_2 x12_1 (l0.length : Int) x12_1 (l0.length : Int) (wrap64 (x17_2 + 1))) = some (r1, r2) := by rw [if_pos rfl] at H; exact H
                      clear H
                      have H := H1
                      clear H1
                      have H' := Aside0.mk H
                      clear H
                      go_wp2_with (first | ((with_reducible refine gate_dst (N := 27) rfl ?_); (try (refine gate_guard (by rfl) ?_; dsimp only)); refine Kd.R_lit (Kd.int .i64) _ 3 ?hg (N := 27) ?hd (xs := ([x12_1, x17_2] : List Int)) (inner := [.int .i64 x12_1, .int .i64 x17_2]) (ok := fun _ => True) (okp := fun _ => True) ?hr ?hp (fun _ hk => hk) trivial (Below.refl _ _) (Nat.le_refl _) (by simp) ?_; (case hd => rfl); (case hg => rfl); (case hr => first | (go_simp; done) | (go_simp; rfl)); (case hp => exact (Reps.one (show Kd.M (Kd.int .i64) _ _ _ x12_1 [.int .i64 x12_1] from rfl) (Reps.one (show Kd.M (Kd.int .i64) _ _ _ x17_2 [.int .i64 x17_2] from rfl) (Reps.none _ _)))); intro v151 w12 ho13 hb hg_ hnew_; clear hg_ hnew_; (first | rw [← Ny150.out] at ho13 | (simp only [Int.reduceToNat] at ho13; rw [← Ny150.out] at ho13)); have n0_ := Aside0.mk (Kd.S_elder' (by (with_reducible repeat (first | apply Kd.S_alloc | apply Kd.S_drewN | apply Kd.S_drew)); exact HO_4.out) (Kd.R_base ho13) hb); have n1_ := Aside0.mk (Kd.R_lower ho13 (below_size (by repeat (first | (with_reducible first | exact HB.out | apply below_alloc | apply pw_below_drewN | apply below_drew1) | exact HB.out)))); have n2_ := Aside0.mk (below_step (by repeat (first | (with_reducible first | exact HB.out | apply below_alloc | apply pw_below_drewN | apply below_drew1) | exact HB.out)) hb); clear HO_4; clear HB; have HO_4 := n0_; have HO152 := n1_; have HB := n2_; clear n0_ n1_ n2_; clear hb ho13; obtain ⟨Ao14, co14, eo14⟩ := Kd.R_slice HO152.out; subst eo14) | (go_at_call 46; (with_reducible refine (spec_scSafe.calls k2 _ _ l0 _ _ y150 true _ ?side1 ?side2 ?side3 ?side4 A8.out).mono ?_); (case side1 => repeat (first | exact (Kd.C_below HR0.out HB.out) | (with_reducible refine Kd.C_alloc ?_ _) | (with_reducible refine Kd.C_drewN ?_ _) | (with_reducible refine Kd.C_drew ?_))); (case side2 => exact HC0.out); (case side3 => repeat (first | exact (Kd.R_reads' HO152.out).2.2 | (with_reducible refine Kd.C_alloc ?_ _) | (with_reducible refine Kd.C_drewN ?_ _) | (with_reducible refine Kd.C_drew ?_))); (case side4 => exact (Kd.R_reads' HO152.out).2.1); rintro e w15 ⟨rfl, hb⟩; have n0_ := Aside0.mk (Kd.S_below (by (with_reducible repeat (first | apply Kd.S_alloc | apply Kd.S_drewN | apply Kd.S_drew)); exact HO_4.out) hb); have n1_ := Aside0.mk (Kd.R_below (by (with_reducible repeat (first | apply Kd.R_alloc | apply Kd.R_drewN | apply Kd.R_drew)); exact HO152.out) hb); have n2_ := Aside0.mk (below_step (by repeat (first | (with_reducible first | exact HB.out | apply below_alloc | apply pw_below_drewN | apply below_drew1) | exact HB.out)) hb); clear HO_4; clear HO152; clear HB; have HO_4 := n0_; have HO152 := n1_; have HB := n2_; clear n0_ n1_ n2_; (try clear hb); (try clear hb2); (try clear hk); (try clear hi)) | ((with_reducible refine gate_dst (N := 34) rfl ?_); (try (refine gate_guard (by rfl) ?_; dsimp only)); refine Kd.R_lit (Kd.int .i64) _ 3 ?hg (N := 34) ?hd (xs := ([x17_2, x12_1] : List Int)) (inner := [.int .i64 x17_2, .int .i64 x12_1]) (ok := fun _ => True) (okp := fun _ => True) ?hr ?hp (fun _ hk => hk) trivial (Below.refl _ _) (Nat.le_refl _) (by simp) ?_; (case hd => rfl); (case hg => rfl); (case hr => first | (go_simp; done) | (go_simp; rfl)); (case hp => exact (Reps.one (show Kd.M (Kd.int .i64) _ _ _ x17_2 [.int .i64 x17_2] from rfl) (Reps.one (show Kd.M (Kd.int .i64) _ _ _ x12_1 [.int .i64 x12_1] from rfl) (Reps.none _ _)))); intro v155 w16 ho17 hb hg_ hnew_; clear hg_ hnew_; (first | rw [← Ny154.out] at ho17 | (simp only [Int.reduceToNat] at ho17; rw [← Ny154.out] at ho17)); have n0_ := Aside0.mk (Kd.S_elder' (by (with_reducible repeat (first | apply Kd.S_alloc | apply Kd.S_drewN | apply Kd.S_drew)); exact HO_4.out) (Kd.R_base ho17) hb); have n1_ := Aside0.mk (Kd.R_elder' (by (with_reducible repeat (first | apply Kd.R_alloc | apply Kd.R_drewN | apply Kd.R_drew)); exact HO152.out) (Kd.R_base ho17) hb); have n2_ := Aside0.mk (Kd.R_lower (Kd.R_new' ho17 (Kd.R_lt (by (with_reducible repeat (first | apply Kd.R_alloc | apply Kd.R_drewN | apply Kd.R_drew)); exact HO152.out))) (below_size (by repeat (first | (with_reducible first | exact HB.out | apply below_alloc | apply pw_below_drewN | apply below_drew1) | exact HB.out)))); have n3_ := Aside0.mk (below_step (by repeat (first | (with_reducible first | exact HB.out | apply below_alloc | apply pw_below_drewN | apply below_drew1) | exact HB.out)) hb); clear HO_4; clear HO152; clear HB; have HO_4 := n0_; have HO152 := n1_; have HO156 := n2_; have HB := n3_; clear n0_ n1_ n2_ n3_; clear hb ho17; obtain ⟨Ao18, co18, eo18⟩ := Kd.R_slice HO156.out; subst eo18) | (go_at_call 46; (with_reducible refine (spec_scSafe.calls k2 _ _ l0 _ _ y154 true _ ?side1 ?side2 ?side3 ?side4 A10.out).mono ?_); (case side1 => repeat (first | exact (Kd.C_below HR0.out HB.out) | (with_reducible refine Kd.C_alloc ?_ _) | (with_reducible refine Kd.C_drewN ?_ _) | (with_reducible refine Kd.C_drew ?_))); (case side2 => exact HC0.out); (case side3 => repeat (first | exact (Kd.R_reads' HO156.out).2.2 | (with_reducible refine Kd.C_alloc ?_ _) | (with_reducible refine Kd.C_drewN ?_ _) | (with_reducible refine Kd.C_drew ?_))); (case side4 => exact (Kd.R_reads' HO156.out).2.1); rintro e w19 ⟨rfl, hb⟩; have n0_ := Aside0.mk (Kd.S_below (by (with_reducible repeat (first | apply Kd.S_alloc | apply Kd.S_drewN | apply Kd.S_drew)); exact HO_4.out) hb); have n1_ := Aside0.mk (Kd.R_below (by (with_reducible repeat (first | apply Kd.R_alloc | apply Kd.R_drewN | apply Kd.R_drew)); exact HO152.out) hb); have n2_ := Aside0.mk (Kd.R_below (by (with_reducible repeat (first | apply Kd.R_alloc | apply Kd.R_drewN | apply Kd.R_drew)); exact HO156.out) hb); have n3_ := Aside0.mk (below_step (by repeat (first | (with_reducible first | exact HB.out | apply below_alloc | apply pw_below_drewN | apply below_drew1) | exact HB.out)) hb); clear HO_4; clear HO152; clear HO156; clear HB; have HO_4 := n0_; have HO152 := n1_; have HO156 := n2_; have HB := n3_; clear n0_ n1_ n2_ n3_; (try clear hb); (try clear hb2); (try clear hk); (try clear hi)))
                      go_roundg k2
                      case measure => have := HK1.out; have := HK2.out; omega
                      case rel => exact ⟨(x4_2), (wrap64 (x17_2 + 1)), (by first | rfl | (simp; done) | (simp [*]; done)), H', ⟨by have := HK1.out; have := HK2.out; omega⟩, ⟨by (with_reducible repeat (first | apply Kd.S_alloc | apply Kd.S_drewN | apply Kd.S_drew)); exact Kd.S_mono HO_4.out (fun _ hk => trivial)⟩, ⟨by repeat (first | (with_reducible first | exact HB.out | apply below_alloc | apply pw_below_drewN | apply below_drew1) | exact HB.out)⟩⟩
                    · replace c11 := Bool.eq_false_iff.mpr c11
                      subst c11
                      have H1 : (if x4_2.length < 5864062014805 then (spec_OnlyBelow.l1 k2 l0 (x4_2 ++ [(([x12_1, x17_2] : List Int))]) x12_1 (l0.length : Int) x12_1 (l0.length : Int) (wrap64 (x17_2 + 1))) else (none)) = some (r1, r2) := by rw [if_neg (show ¬ (false = true) by decide)] at H; exact H
                      clear H
                      have H := H1
                      clear H1
                      obtain ⟨y158, hy158⟩ : ∃ y_ : List Int, y_ = (([x12_1, x17_2] : List Int)) := ⟨_, rfl⟩
                      replace H : (if x4_2.length < 5864062014805 then (spec_OnlyBelow.l1 k2 l0 (x4_2 ++ [y158]) x12_1 (l0.length : Int) x12_1 (l0.length : Int) (wrap64 (x17_2 + 1))) else (none)) = some (r1, r2) := by first | (rw [hy158]; with_reducible exact H) | (have H2_ := (Option.bind_some _ _).symm.trans H; rw [hy158]; with_reducible exact H2_) | (have H2_ := (Option.bind_some _ _).symm.trans H; with_reducible exact H2_) | with_reducible exact H | (rw [hy158]; exact H) | exact H
                      have Ny158 := Aside0.mk hy158
                      clear hy158
                      by_cases c20 : x4_2.length < 5864062014805
                      · rw [if_pos c20] at H
                        have LMc20 := Aside0.mk c20
                        clear c20
                        obtain ⟨y161, hy161⟩ : ∃ y_ : List (List Int), y_ = (x4_2 ++ [y158]) := ⟨_, rfl⟩
                        replace H : (spec_OnlyBelow.l1 k2 l0 y161 x12_1 (l0.length : Int) x12_1 (l0.length : Int) (wrap64 (x17_2 + 1))) = some (r1, r2) := by first | (rw [hy161]; with_reducible exact H) | (have H2_ := (Option.bind_some _ _).symm.trans H; rw [hy161]; with_reducible exact H2_) | (have H2_ := (Option.bind_some _ _).symm.trans H; with_reducible exact H2_) | with_reducible exact H | (rw [hy161]; exact H) | exact H
                        have Ny161 := Aside0.mk hy161
                        clear hy161
                        have H' := Aside0.mk H
                        clear H
                        go_wp2_with (first | ((with_reducible refine gate_dst (N := 27) rfl ?_); (try (refine gate_guard (by rfl) ?_; dsimp only)); refine Kd.R_lit (Kd.int .i64) _ 3 ?hg (N := 27) ?hd (xs := ([x12_1, x17_2] : List Int)) (inner := [.int .i64 x12_1, .int .i64 x17_2]) (ok := fun _ => True) (okp := fun _ => True) ?hr ?hp (fun _ hk => hk) trivial (Below.refl _ _) (Nat.le_refl _) (by simp) ?_; (case hd => rfl); (case hg => rfl); (case hr => first | (go_simp; done) | (go_simp; rfl)); (case hp => exact (Reps.one (show Kd.M (Kd.int .i64) _ _ _ x12_1 [.int .i64 x12_1] from rfl) (Reps.one (show Kd.M (Kd.int .i64) _ _ _ x17_2 [.int .i64 x17_2] from rfl) (Reps.none _ _)))); intro v151 w21 ho22 hb hg_ hnew_; clear hg_ hnew_; (first | rw [← Ny150.out] at ho22 | (simp only [Int.reduceToNat] at ho22; rw [← Ny150.out] at ho22)); have n0_ := Aside0.mk (Kd.S_elder' (by (with_reducible repeat (first | apply Kd.S_alloc | apply Kd.S_drewN | apply Kd.S_drew)); exact HO_4.out) (Kd.R_base ho22) hb); have n1_ := Aside0.mk (Kd.R_lower ho22 (below_size (by repeat (first | (with_reducible first | exact HB.out | apply below_alloc | apply pw_below_drewN | apply below_drew1) | exact HB.out)))); have n2_ := Aside0.mk (below_step (by repeat (first | (with_reducible first | exact HB.out | apply below_alloc | apply pw_below_drewN | apply below_drew1) | exact HB.out)) hb); clear HO_4; clear HB; have HO_4 := n0_; have HO152 := n1_; have HB := n2_; clear n0_ n1_ n2_; clear hb ho22; obtain ⟨Ao23, co23, eo23⟩ := Kd.R_slice HO152.out; subst eo23) | (go_at_call 46; (with_reducible refine (spec_scSafe.calls k2 _ _ l0 _ _ y150 true _ ?side1 ?side2 ?side3 ?side4 A8.out).mono ?_); (case side1 => repeat (first | exact (Kd.C_below HR0.out HB.out) | (with_reducible refine Kd.C_alloc ?_ _) | (with_reducible refine Kd.C_drewN ?_ _) | (with_reducible refine Kd.C_drew ?_))); (case side2 => exact HC0.out); (case side3 => repeat (first | exact (Kd.R_reads' HO152.out).2.2 | (with_reducible refine Kd.C_alloc ?_ _) | (with_reducible refine Kd.C_drewN ?_ _) | (with_reducible refine Kd.C_drew ?_))); (case side4 => exact (Kd.R_reads' HO152.out).2.1); rintro e w24 ⟨rfl, hb⟩; have n0_ := Aside0.mk (Kd.S_below (by (with_reducible repeat (first | apply Kd.S_alloc | apply Kd.S_drewN | apply Kd.S_drew)); exact HO_4.out) hb); have n1_ := Aside0.mk (Kd.R_below (by (with_reducible repeat (first | apply Kd.R_alloc | apply Kd.R_drewN | apply Kd.R_drew)); exact HO152.out) hb); have n2_ := Aside0.mk (below_step (by repeat (first | (with_reducible first | exact HB.out | apply below_alloc | apply pw_below_drewN | apply below_drew1) | exact HB.out)) hb); clear HO_4; clear HO152; clear HB; have HO_4 := n0_; have HO152 := n1_; have HB := n2_; clear n0_ n1_ n2_; (try clear hb); (try clear hb2); (try clear hk); (try clear hi)) | ((with_reducible refine gate_dst (N := 34) rfl ?_); (try (refine gate_guard (by rfl) ?_; dsimp only)); refine Kd.R_lit (Kd.int .i64) _ 3 ?hg (N := 34) ?hd (xs := ([x17_2, x12_1] : List Int)) (inner := [.int .i64 x17_2, .int .i64 x12_1]) (ok := fun _ => True) (okp := fun _ => True) ?hr ?hp (fun _ hk => hk) trivial (Below.refl _ _) (Nat.le_refl _) (by simp) ?_; (case hd => rfl); (case hg => rfl); (case hr => first | (go_simp; done) | (go_simp; rfl)); (case hp => exact (Reps.one (show Kd.M (Kd.int .i64) _ _ _ x17_2 [.int .i64 x17_2] from rfl) (Reps.one (show Kd.M (Kd.int .i64) _ _ _ x12_1 [.int .i64 x12_1] from rfl) (Reps.none _ _)))); intro v155 w25 ho26 hb hg_ hnew_; clear hg_ hnew_; (first | rw [← Ny154.out] at ho26 | (simp only [Int.reduceToNat] at ho26; rw [← Ny154.out] at ho26)); have n0_ := Aside0.mk (Kd.S_elder' (by (with_reducible repeat (first | apply Kd.S_alloc | apply Kd.S_drewN | apply Kd.S_drew)); exact HO_4.out) (Kd.R_base ho26) hb); have n1_ := Aside0.mk (Kd.R_elder' (by (with_reducible repeat (first | apply Kd.R_alloc | apply Kd.R_drewN | apply Kd.R_drew)); exact HO152.out) (Kd.R_base ho26) hb); have n2_ := Aside0.mk (Kd.R_lower (Kd.R_new' ho26 (Kd.R_lt (by (with_reducible repeat (first | apply Kd.R_alloc | apply Kd.R_drewN | apply Kd.R_drew)); exact HO152.out))) (below_size (by repeat (first | (with_reducible first | exact HB.out | apply below_alloc | apply pw_below_drewN | apply below_drew1) | exact HB.out)))); have n3_ := Aside0.mk (below_step (by repeat (first | (with_reducible first | exact HB.out | apply below_alloc | apply pw_below_drewN | apply below_drew1) | exact HB.out)) hb); clear HO_4; clear HO152; clear HB; have HO_4 := n0_; have HO152 := n1_; have HO156 := n2_; have HB := n3_; clear n0_ n1_ n2_ n3_; clear hb ho26; obtain ⟨Ao27, co27, eo27⟩ := Kd.R_slice HO156.out; subst eo27) | (go_at_call 46; (with_reducible refine (spec_scSafe.calls k2 _ _ l0 _ _ y154 false _ ?side1 ?side2 ?side3 ?side4 A10.out).mono ?_); (case side1 => repeat (first | exact (Kd.C_below HR0.out HB.out) | (with_reducible refine Kd.C_alloc ?_ _) | (with_reducible refine Kd.C_drewN ?_ _) | (with_reducible refine Kd.C_drew ?_))); (case side2 => exact HC0.out); (case side3 => repeat (first | exact (Kd.R_reads' HO156.out).2.2 | (with_reducible refine Kd.C_alloc ?_ _) | (with_reducible refine Kd.C_drewN ?_ _) | (with_reducible refine Kd.C_drew ?_))); (case side4 => exact (Kd.R_reads' HO156.out).2.1); rintro e w28 ⟨rfl, hb⟩; have n0_ := Aside0.mk (Kd.S_below (by (with_reducible repeat (first | apply Kd.S_alloc | apply Kd.S_drewN | apply Kd.S_drew)); exact HO_4.out) hb); have n1_ := Aside0.mk (Kd.R_below (by (with_reducible repeat (first | apply Kd.R_alloc | apply Kd.R_drewN | apply Kd.R_drew)); exact HO152.out) hb); have n2_ := Aside0.mk (Kd.R_below (by (with_reducible repeat (first | apply Kd.R_alloc | apply Kd.R_drewN | apply Kd.R_drew)); exact HO156.out) hb); have n3_ := Aside0.mk (below_step (by repeat (first | (with_reducible first | exact HB.out | apply below_alloc | apply pw_below_drewN | apply below_drew1) | exact HB.out)) hb); clear HO_4; clear HO152; clear HO156; clear HB; have HO_4 := n0_; have HO152 := n1_; have HO156 := n2_; have HB := n3_; clear n0_ n1_ n2_ n3_; (try clear hb); (try clear hb2); (try clear hk); (try clear hi)) | ((with_reducible refine gate_dst (N := 41) rfl ?_); (try (refine gate_guard (by rfl) ?_; dsimp only)); refine Kd.R_lit (Kd.int .i64) _ 3 ?hg (N := 41) ?hd (xs := ([x12_1, x17_2] : List Int)) (inner := [.int .i64 x12_1, .int .i64 x17_2]) (ok := fun _ => True) (okp := fun _ => True) ?hr ?hp (fun _ hk => hk) trivial (Below.refl _ _) (Nat.le_refl _) (by simp) ?_; (case hd => rfl); (case hg => rfl); (case hr => first | (go_simp; done) | (go_simp; rfl)); (case hp => exact (Reps.one (show Kd.M (Kd.int .i64) _ _ _ x12_1 [.int .i64 x12_1] from rfl) (Reps.one (show Kd.M (Kd.int .i64) _ _ _ x17_2 [.int .i64 x17_2] from rfl) (Reps.none _ _)))); intro v159 w29 ho30 hb hg_ hnew_; clear hg_ hnew_; (first | rw [← Ny158.out] at ho30 | (simp only [Int.reduceToNat] at ho30; rw [← Ny158.out] at ho30)); have n0_ := Aside0.mk (Kd.S_elder' (by (with_reducible repeat (first | apply Kd.S_alloc | apply Kd.S_drewN | apply Kd.S_drew)); exact HO_4.out) (Kd.R_base ho30) hb); have n1_ := Aside0.mk (Kd.R_elder' (by (with_reducible repeat (first | apply Kd.R_alloc | apply Kd.R_drewN | apply Kd.R_drew)); exact HO152.out) (Kd.R_base ho30) hb); have n2_ := Aside0.mk (Kd.R_elder' (by (with_reducible repeat (first | apply Kd.R_alloc | apply Kd.R_drewN | apply Kd.R_drew)); exact HO156.out) (Kd.R_base ho30) hb); have n3_ := Aside0.mk (Kd.R_lower (Kd.R_new' (Kd.R_new' ho30 (Kd.R_lt (by (with_reducible repeat (first | apply Kd.R_alloc | apply Kd.R_drewN | apply Kd.R_drew)); exact HO152.out))) (Kd.R_lt (by (with_reducible repeat (first | apply Kd.R_alloc | apply Kd.R_drewN | apply Kd.R_drew)); exact HO156.out))) (below_size (by repeat (first | (with_reducible first | exact HB.out | apply below_alloc | apply pw_below_drewN | apply below_drew1) | exact HB.out)))); have n4_ := Aside0.mk (below_step (by repeat (first | (with_reducible first | exact HB.out | apply below_alloc | apply pw_below_drewN | apply below_drew1) | exact HB.out)) hb); clear HO_4; clear HO152; clear HO156; clear HB; have HO_4 := n0_; have HO152 := n1_; have HO156 := n2_; have HO160 := n3_; have HB := n4_; clear n0_ n1_ n2_ n3_ n4_; clear hb ho30; obtain ⟨Ao32, co32, eo32⟩ := Kd.R_slice HO160.out; subst eo32) | ((with_reducible refine gate_builtin (b := .append) (xs := #[.tmp 38, .tmp 42]) rfl ?_); (try (refine gate_guard (by rfl) ?_; dsimp only)); at_builtin; refine Kd.S_append (Kd.slice 3 (Kd.int .i64)) (w0 := w) w.heap.size rfl (.tmp 38) (.tmp 42) 29 41 (.slice none 0 0) 24 rfl Try.underlying29 info41 rfl (by decide) (by omega) u4 x4_2 y158 [.slice Ao32 y158.length co32] (fun k_ => some k_ ≠ (.slice Ao23 y150.length co23 : Value).ownBlock ∧ some k_ ≠ (.slice Ao27 y154.length co27 : Value).ownBlock) (fun k_ => some k_ = (.slice Ao32 y158.length co32 : Value).ownBlock) rfl rfl ?aP (fun k_ hk_ => ((Kd.R_mono (ok' := fun k_ => ((fun k_ => some k_ ≠ (.slice Ao23 y150.length co23 : Value).ownBlock ∧ some k_ ≠ (.slice Ao27 y154.length co27 : Value).ownBlock)) k_ ∧ some k_ ≠ (u4 : Value).ownBlock) (Kd.R_apart' (HO160.out) (Kd.S_typed HO_4.out) (by decide)) (fun k_ hk => ⟨⟨hk.1.1.2, hk.1.2⟩, hk.2⟩))).1 k_ hk_.symm) ?aF ?aO ?aB ?aS ?aL ?_; (case aP => exact Kd.M_row (Kd.R_mono (Kd.R_tight rfl (Kd.R_mono (ok' := fun k_ => ((fun k_ => some k_ ≠ (.slice Ao23 y150.length co23 : Value).ownBlock ∧ some k_ ≠ (.slice Ao27 y154.length co27 : Value).ownBlock)) k_ ∧ some k_ ≠ (u4 : Value).ownBlock) (Kd.R_apart' (HO160.out) (Kd.S_typed HO_4.out) (by decide)) (fun k_ hk => ⟨⟨hk.1.1.2, hk.1.2⟩, hk.2⟩))) (fun _ h_ => h_))); (case aB => exact (by repeat (first | (with_reducible first | exact HB.out | apply below_alloc | apply pw_below_drewN | apply below_drew1) | exact HB.out))); (case aF => exact (fun k_ hk => ⟨Kd.fresh' (Kd.R_lt (by (with_reducible repeat (first | apply Kd.R_alloc | apply Kd.R_drewN | apply Kd.R_drew)); exact HO152.out)) k_ hk, Kd.fresh' (Kd.R_lt (by (with_reducible repeat (first | apply Kd.R_alloc | apply Kd.R_drewN | apply Kd.R_drew)); exact HO156.out)) k_ hk⟩)); (case aO => exact (by (with_reducible repeat (first | apply Kd.S_alloc | apply Kd.S_drewN | apply Kd.S_drew)); exact Kd.S_mono HO_4.out (fun k_ hk => ⟨⟨hk.1.1.2, hk.1.2⟩, fun e_ => hk.2 e_⟩))); (case aS => exact (below_size (by repeat (first | (with_reducible first | exact HB.out | apply below_alloc | apply pw_below_drewN | apply below_drew1) | exact HB.out)))); (case aL => have := LMc20.out; omega); intro v162 w31 ho hb hg hat; rw [← Ny161.out] at ho; have n0_ := Aside0.mk (Kd.R_over' (by (with_reducible repeat (first | apply Kd.R_alloc | apply Kd.R_drewN | apply Kd.R_drew)); exact HO152.out) (Kd.S_typed (by (with_reducible repeat (first | apply Kd.S_alloc | apply Kd.S_drewN | apply Kd.S_drew)); exact HO_4.out)) (by decide) hg); have n1_ := Aside0.mk (Kd.R_over' (by (with_reducible repeat (first | apply Kd.R_alloc | apply Kd.R_drewN | apply Kd.R_drew)); exact HO156.out) (Kd.S_typed (by (with_reducible repeat (first | apply Kd.S_alloc | apply Kd.S_drewN | apply Kd.S_drew)); exact HO_4.out)) (by decide) hg); have n2_ := Aside0.mk (hb); have n3_ := Aside0.mk (ho); clear HO152; clear HO156; clear HB; clear HO_4; clear HO160; have HO152 := n0_; have HO156 := n1_; have HB := n2_; have HO163 := n3_; clear n0_ n1_ n2_ n3_; clear ho hb hg hat))
                        go_roundg k2
                        case measure => have := HK1.out; have := HK2.out; omega
                        case rel => exact ⟨(y161), (wrap64 (x17_2 + 1)), (by first | rfl | (simp; done) | (simp [*]; done)), H', ⟨by have := HK1.out; have := HK2.out; omega⟩, ⟨by (with_reducible repeat (first | apply Kd.S_alloc | apply Kd.S_drewN | apply Kd.S_drew)); exact Kd.S_mono HO163.out (fun _ hk => trivial)⟩, ⟨by repeat (first | (with_reducible first | exact HB.out | apply below_alloc | apply pw_below_drewN | apply below_drew1) | exact HB.out)⟩⟩
                      · rw [if_neg c20] at H
                        exact absurd H (by simp)
                  · replace c9 := Bool.eq_false_iff.mpr c9
                    subst c9
                    have H1 : (spec_OnlyBelow.l1 k2 l0 x4_2 x12_1 (l0.length : Int) x12_1 (l0.length : Int) (wrap64 (x17_2 + 1))) = some (r1, r2) := by rw [if_neg (show ¬ (false = true) by decide)] at H; exact H
                    clear H
                    have H := H1
                    clear H1
                    have H' := Aside0.mk H
                    clear H
                    go_wp2_with (first | ((with_reducible refine gate_dst (N := 27) rfl ?_); (try (refine gate_guard (by rfl) ?_; dsimp only)); refine Kd.R_lit (Kd.int .i64) _ 3 ?hg (N := 27) ?hd (xs := ([x12_1, x17_2] : List Int)) (inner := [.int .i64 x12_1, .int .i64 x17_2]) (ok := fun _ => True) (okp := fun _ => True) ?hr ?hp (fun _ hk => hk) trivial (Below.refl _ _) (Nat.le_refl _) (by simp) ?_; (case hd => rfl); (case hg => rfl); (case hr => first | (go_simp; done) | (go_simp; rfl)); (case hp => exact (Reps.one (show Kd.M (Kd.int .i64) _ _ _ x12_1 [.int .i64 x12_1] from rfl) (Reps.one (show Kd.M (Kd.int .i64) _ _ _ x17_2 [.int .i64 x17_2] from rfl) (Reps.none _ _)))); intro v151 w33 ho34 hb hg_ hnew_; clear hg_ hnew_; (first | rw [← Ny150.out] at ho34 | (simp only [Int.reduceToNat] at ho34; rw [← Ny150.out] at ho34)); have n0_ := Aside0.mk (Kd.S_elder' (by (with_reducible repeat (first | apply Kd.S_alloc | apply Kd.S_drewN | apply Kd.S_drew)); exact HO_4.out) (Kd.R_base ho34) hb); have n1_ := Aside0.mk (Kd.R_lower ho34 (below_size (by repeat (first | (with_reducible first | exact HB.out | apply below_alloc | apply pw_below_drewN | apply below_drew1) | exact HB.out)))); have n2_ := Aside0.mk (below_step (by repeat (first | (with_reducible first | exact HB.out | apply below_alloc | apply pw_below_drewN | apply below_drew1) | exact HB.out)) hb); clear HO_4; clear HB; have HO_4 := n0_; have HO152 := n1_; have HB := n2_; clear n0_ n1_ n2_; clear hb ho34; obtain ⟨Ao35, co35, eo35⟩ := Kd.R_slice HO152.out; subst eo35) | (go_at_call 46; (with_reducible refine (spec_scSafe.calls k2 _ _ l0 _ _ y150 false _ ?side1 ?side2 ?side3 ?side4 A8.out).mono ?_); (case side1 => repeat (first | exact (Kd.C_below HR0.out HB.out) | (with_reducible refine Kd.C_alloc ?_ _) | (with_reducible refine Kd.C_drewN ?_ _) | (with_reducible refine Kd.C_drew ?_))); (case side2 => exact HC0.out); (case side3 => repeat (first | exact (Kd.R_reads' HO152.out).2.2 | (with_reducible refine Kd.C_alloc ?_ _) | (with_reducible refine Kd.C_drewN ?_ _) | (with_reducible refine Kd.C_drew ?_))); (case side4 => exact (Kd.R_reads' HO152.out).2.1); rintro e w36 ⟨rfl, hb⟩; have n0_ := Aside0.mk (Kd.S_below (by (with_reducible repeat (first | apply Kd.S_alloc | apply Kd.S_drewN | apply Kd.S_drew)); exact HO_4.out) hb); have n1_ := Aside0.mk (Kd.R_below (by (with_reducible repeat (first | apply Kd.R_alloc | apply Kd.R_drewN | apply Kd.R_drew)); exact HO152.out) hb); have n2_ := Aside0.mk (below_step (by repeat (first | (with_reducible first | exact HB.out | apply below_alloc | apply pw_below_drewN | apply below_drew1) | exact HB.out)) hb); clear HO_4; clear HO152; clear HB; have HO_4 := n0_; have HO152 := n1_; have HB := n2_; clear n0_ n1_ n2_; (try clear hb); (try clear hb2); (try clear hk); (try clear hi)))
                    go_roundg k2
                    case measure => have := HK1.out; have := HK2.out; omega
                    case rel => exact ⟨(x4_2), (wrap64 (x17_2 + 1)), (by first | rfl | (simp; done) | (simp [*]; done)), H', ⟨by have := HK1.out; have := HK2.out; omega⟩, ⟨by (with_reducible repeat (first | apply Kd.S_alloc | apply Kd.S_drewN | apply Kd.S_drew)); exact Kd.S_mono HO_4.out (fun _ hk => trivial)⟩, ⟨by repeat (first | (with_reducible first | exact HB.out | apply below_alloc | apply pw_below_drewN | apply below_drew1) | exact HB.out)⟩⟩
              · rw [if_neg c6] at H
                have c6b0 : decide (x17_2 < (l0.length : Int)) = false := decide_eq_false c6
                clear c6
                have H' := Aside0.mk H
                clear H
                go_wp2
                go_roundg k2
                case measure => have := HK1.out; have := HK2.out; omega
                case rel => exact ⟨(x4_2), (wrap64 (x12_1 + 1)), (by first | rfl | (simp; done) | (simp [*]; done)), H', ⟨by have := HK1.out; have := HK2.out; omega⟩, ⟨by (with_reducible repeat (first | apply Kd.S_alloc | apply Kd.S_drewN | apply Kd.S_drew)); exact HO_4.out⟩, ⟨by repeat (first | (with_reducible first | exact HB.out | apply below_alloc | apply pw_below_drewN | apply below_drew1) | exact HB.out)⟩⟩
        · rw [if_neg c5] at H
          have c5b0 : decide (x12_1 < (l0.length : Int)) = false := decide_eq_false c5
          clear c5
          simp only [Option.some.injEq, Prod.mk.injEq] at H
          obtain ⟨rfl, rfl⟩ := H
          go_wp2
          go_ret2
          exact ⟨_, by first | rfl | (simp [errW_none, errW_some] <;> rfl) | (simp [*, errW_none, errW_some] <;> rfl), by (with_reducible repeat (first | apply Kd.S_alloc | apply Kd.S_drewN | apply Kd.S_drew)); exact HO_4.out, by repeat (first | (with_reducible first | exact HB.out | apply below_alloc | apply pw_below_drewN | apply below_drew1) | exact HB.out)⟩
  · replace c3 := Bool.eq_false_iff.mpr c3
    subst c3
    have H1 : (some (([] : List (List Int)), false)) = some (r1, r2) := by rw [if_neg (show ¬ (false = true) by decide)] at H; exact H
    clear H
    have H := H1
    clear H1
    simp only [Option.some.injEq, Prod.mk.injEq] at H
    obtain ⟨rfl, rfl⟩ := H
    go_enter Try.func17, Try.ntmps17
    go_wp2_with (first | ((with_reducible refine gate_callee (f := 40) rfl ?_); refine goesL_ (some 8) rfl rfl Try.func40 (by kernel_rfl) rfl #[.slice A0 l0.length c0] rfl (by (try simp only [List.map_toArray, List.map_cons, List.map_nil]); first | done | rfl | (simp only [List.length_drop, List.length_take]; rfl)) ?_; (with_reducible refine (spec_scGood.calls k _ _ l0 false _ ?side1 ?side2 A2.out).mono ?_); (case side1 => repeat (first | exact HR0.out | (with_reducible refine Kd.C_alloc ?_ _) | (with_reducible refine Kd.C_drewN ?_ _) | (with_reducible refine Kd.C_drew ?_))); (case side2 => exact HC0.out); rintro e w37 ⟨rfl, hb⟩; refine ⟨_, rfl, ?_⟩; have n0_ := Aside0.mk (below_step (by repeat (first | (with_reducible first | exact HB.out | apply below_alloc | apply pw_below_drewN | apply below_drew1) | exact HB.out)) hb); clear HB; have HB := n0_; clear n0_; (try clear hb); (try clear hb2); (try clear hk); (try clear hi)))
    go_ret2
    exact ⟨_, by first | rfl | (simp [errW_none, errW_some] <;> rfl) | (simp [*, errW_none, errW_some] <;> rfl), by first | exact Kd.S_nil _ _ _ _ _ | exact Kd.N_nil _ _ _ _ _ | exact Kd.V_nil _ _ _ _ _ | exact Kd.Q_nil _ _ _ _ _ | exact Kd.R_nil _ _ _ _ _, by repeat (first | (with_reducible first | exact HB.out | apply below_alloc | apply pw_below_drewN | apply below_drew1) | exact HB.out)⟩

end Go.Proofs.Ytbmefldckdaopaa.Q

namespace Go.Proofs.Ytbmefldckdaopaa.Q
open Go.RowKit Go.Proofs.YtbmefldckdaopaaW.PrintWords Go.Proofs.YtbmefldckdaopaaW.PrintLast Go.Proofs.YtbmefldckdaopaaW.PrintMore
attribute [local go_sem] max2_int min2_int max_two min_two max_three min_three max_four min_four   -- for this text's walks alone
set_option linter.unusedVariables false
set_option linter.unusedSimpArgs false

/-! ### impl_OnlyBelow: function 18 -/
mutual
def impl_OnlyBelow.l0 : Nat → List (S49) → List (List Int) → List (S49) → Int → Int → Option ((List (List Int)) × Bool)
  | 0, _, _, _, _, _ => none
  | k + 1, x0, x4, x13, x14, x15 => if x15 < x14 then (if 0 ≤ x15 then (if x15 < (x13.length : Int) then (impl_OnlyBelow.l1 k x0 x4 x15 x13 x14 x15 x0 (x0.length : Int) 0 ((rd_T49 x13 x15).f0) ((rd_T49 x13 x15).f1) ((rd_T49 x13 x15).f2)) else (none)) else (none)) else (some (x4, true))
def impl_OnlyBelow.l1 : Nat → List (S49) → List (List Int) → Int → List (S49) → Int → Int → List (S49) → Int → Int → Int → Int → Int → Option ((List (List Int)) × Bool)
  | 0, _, _, _, _, _, _, _, _, _, _, _, _ => none
  | k + 1, x0, x4, x5, x13, x14, x15, x20, x21, x22, x170000, x170001, x170002 => if x22 < x21 then (if 0 ≤ x22 then (if x22 < (x20.length : Int) then (if x5 = x22 then (impl_OnlyBelow.l1 k x0 x4 x5 x13 x14 x15 x20 x21 (wrap64 (x22 + 1)) x170000 x170001 x170002) else (if ((rd_T49 x20 x22).f1) < x170000 then (if x170001 ≥ ((rd_T49 x20 x22).f0) then (if x4.length < 5864062014805 then (impl_OnlyBelow.l1 k x0 (x4 ++ [(([x5, x22] : List Int))]) x5 x13 x14 x15 x20 x21 (wrap64 (x22 + 1)) x170000 x170001 x170002) else (none)) else (impl_OnlyBelow.l1 k x0 x4 x5 x13 x14 x15 x20 x21 (wrap64 (x22 + 1)) x170000 x170001 x170002)) else (impl_OnlyBelow.l1 k x0 x4 x5 x13 x14 x15 x20 x21 (wrap64 (x22 + 1)) x170000 x170001 x170002))) else (none)) else (none)) else (impl_OnlyBelow.l0 k x0 x4 x13 x14 (wrap64 (x15 + 1)))
end
def impl_OnlyBelow.f (k : Nat) (l0 : List (S49)) : Option ((List (List Int)) × Bool) := (impl_AreStackable.f l0).bind fun t164 => (if t164 = true then (impl_OnlyBelow.l0 k l0 (([] : List (List Int))) l0 (l0.length : Int) 0) else (some (([] : List (List Int)), false)))
theorem impl_OnlyBelow.mono_l : ∀ k, (∀ y0 y1 y2 y3 y4, LeO (impl_OnlyBelow.l0 k y0 y1 y2 y3 y4) (impl_OnlyBelow.l0 (k + 1) y0 y1 y2 y3 y4)) ∧ (∀ y0 y1 y2 y3 y4 y5 y6 y7 y8 y9 y10 y11, LeO (impl_OnlyBelow.l1 k y0 y1 y2 y3 y4 y5 y6 y7 y8 y9 y10 y11) (impl_OnlyBelow.l1 (k + 1) y0 y1 y2 y3 y4 y5 y6 y7 y8 y9 y10 y11))
  | 0 => ⟨fun _ _ _ _ _ r h => by simp [impl_OnlyBelow.l0] at h, fun _ _ _ _ _ _ _ _ _ _ _ _ r h => by simp [impl_OnlyBelow.l1] at h⟩
  | k + 1 => by
    obtain ⟨ih0, ih1⟩ := impl_OnlyBelow.mono_l k
    refine ⟨?_, ?_⟩
    · intro y0 y1 y2 y3 y4
      unfold impl_OnlyBelow.l0
      repeat' first
      | (with_reducible exact ih0 _ _ _ _ _)
      | (with_reducible exact ih1 _ _ _ _ _ _ _ _ _ _ _ _)
      | (with_reducible exact LeO.refl _)
      | (with_reducible exact LeO.none _)
      | (with_reducible refine LeO.ite ?_ ?_)
      | (with_reducible refine LeO.bind ?_ (fun _ => ?_))
      | exact ih0 _ _ _ _ _
      | exact ih1 _ _ _ _ _ _ _ _ _ _ _ _
      | exact LeO.none _
      | refine LeO.ite ?_ ?_
      | refine LeO.bind ?_ (fun _ => ?_)
    · intro y0 y1 y2 y3 y4 y5 y6 y7 y8 y9 y10 y11
      unfold impl_OnlyBelow.l1
      repeat' first
      | (with_reducible exact ih0 _ _ _ _ _)
      | (with_reducible exact ih1 _ _ _ _ _ _ _ _ _ _ _ _)
      | (with_reducible exact LeO.refl _)
      | (with_reducible exact LeO.none _)
      | (with_reducible refine LeO.ite ?_ ?_)
      | (with_reducible refine LeO.bind ?_ (fun _ => ?_))
      | exact ih0 _ _ _ _ _
      | exact ih1 _ _ _ _ _ _ _ _ _ _ _ _
      | exact LeO.none _
      | refine LeO.ite ?_ ?_
      | refine LeO.bind ?_ (fun _ => ?_)
theorem impl_OnlyBelow.mono : ∀ a0 k, LeO (impl_OnlyBelow.f k a0) (impl_OnlyBelow.f (k + 1) a0) := by
  intro a0 k
  obtain ⟨ih0, ih1⟩ := impl_OnlyBelow.mono_l k
  unfold impl_OnlyBelow.f
  repeat' first
      | (with_reducible exact ih0 _ _ _ _ _)
      | (with_reducible exact ih1 _ _ _ _ _ _ _ _ _ _ _ _)
      | (with_reducible exact LeO.refl _)
      | (with_reducible exact LeO.none _)
      | (with_reducible refine LeO.ite ?_ ?_)
      | (with_reducible refine LeO.bind ?_ (fun _ => ?_))
      | exact ih0 _ _ _ _ _
      | exact ih1 _ _ _ _ _ _ _ _ _ _ _ _
      | exact LeO.none _
      | refine LeO.ite ?_ ?_
      | refine LeO.bind ?_ (fun _ => ?_)
set_option maxHeartbeats 8000000 in
set_option maxRecDepth 100000 in
theorem impl_OnlyBelow.calls (k : Nat) (A0 : Option Addr) (c0 : Nat) (l0 : List (S49)) (r1 : List (List Int)) (r2 : Bool) (w : World) (hr0 : Kd.C k49 w A0 l0.length l0) (hc0 : l0.length ≤ c0) (h : impl_OnlyBelow.f k l0 = some (r1, r2)) :
    Calls Try.prog 18 #[.slice A0 l0.length c0] w fun e w' => ∃ v0_ : Value, e = .returned (.tuple #[v0_, .bool r2]) ∧ Kd.S (Kd.slice 3 (Kd.int .i64)) 41 w' w.heap.size (fun _ => True) v0_ r1 ∧ Below w.heap.size w w' := by
  have hu49 := Try.underlying49
  have HR0 := Aside0.mk hr0
  have HC0 := Aside0.mk hc0
  clear hr0 hc0
  have HB := Aside0.mk (Below.refl w.heap.size w)
  have H : ((impl_AreStackable.f l0).bind fun t164 => (if t164 = true then (impl_OnlyBelow.l0 k l0 (([] : List (List Int))) l0 (l0.length : Int) 0) else (some (([] : List (List Int)), false)))) = some (r1, r2) := h
  clear h
  replace H := Option.bind_eq_some_iff.mp H
  obtain ⟨t164, A20, H⟩ := H
  replace H : (if t164 = true then (impl_OnlyBelow.l0 k l0 (([] : List (List Int))) l0 (l0.length : Int) 0) else (some (([] : List (List Int)), false))) = some (r1, r2) := H
  have A2 := Aside0.mk A20
  clear A20
  by_cases c3 : t164 = true
  · subst c3
    have H1 : (impl_OnlyBelow.l0 k l0 (([] : List (List Int))) l0 (l0.length : Int) 0) = some (r1, r2) := by rw [if_pos rfl] at H; exact H
    clear H
    have H := H1
    clear H1
    obtain ⟨y165, hy165⟩ : ∃ y_ : List (List Int), y_ = (([] : List (List Int))) := ⟨_, rfl⟩
    replace H : (impl_OnlyBelow.l0 k l0 y165 l0 (l0.length : Int) 0) = some (r1, r2) := by first | (rw [hy165]; with_reducible exact H) | (have H2_ := (Option.bind_some _ _).symm.trans H; rw [hy165]; with_reducible exact H2_) | (have H2_ := (Option.bind_some _ _).symm.trans H; with_reducible exact H2_) | with_reducible exact H | (rw [hy165]; exact H) | exact H
    have Ny165 := Aside0.mk hy165
    clear hy165
    have H' := Aside0.mk H
    clear H
    go_enter Try.func18, Try.ntmps18
    go_wp2_with (first | ((with_reducible refine gate_callee (f := 15) rfl ?_); refine goesL_ (some 10) rfl rfl Try.func15 (by kernel_rfl) rfl #[.slice A0 l0.length c0] rfl (by (try simp only [List.map_toArray, List.map_cons, List.map_nil]); first | done | rfl | (simp only [List.length_drop, List.length_take]; rfl)) ?_; (with_reducible refine (impl_AreStackable.calls _ _ l0 true _ ?side1 ?side2 A2.out).mono ?_); (case side1 => repeat (first | exact HR0.out | (with_reducible refine Kd.C_alloc ?_ _) | (with_reducible refine Kd.C_drewN ?_ _) | (with_reducible refine Kd.C_drew ?_))); (case side2 => exact HC0.out); rintro e w4 ⟨rfl, hb⟩; refine ⟨_, rfl, ?_⟩; have n0_ := Aside0.mk (below_step (by repeat (first | (with_reducible first | exact HB.out | apply below_alloc | apply pw_below_drewN | apply below_drew1) | exact HB.out)) hb); clear HB; have HB := n0_; clear n0_; (try clear hb); (try clear hb2); (try clear hk); (try clear hi)) | ((with_reducible refine gate_dst (N := 12) rfl ?_); refine Kd.S_lit (Kd.slice 3 (Kd.int .i64)) _ 41 ?hg (N := 12) ?hd (xs := ([] : List (List Int))) (inner := []) (ok := fun _ => True) (okp := fun _ => True) ?hr ?hp (fun _ hk => hk) trivial (Below.refl _ _) (Nat.le_refl _) (by simp) ?_; (case hd => rfl); (case hg => rfl); (case hr => first | (go_simp; done) | (go_simp; rfl)); (case hp => exact (Reps.none _ _)); intro v166 w5 ho6 hb hg_ hnew_; clear hg_ hnew_; (first | rw [← Ny165.out] at ho6 | (simp only [Int.reduceToNat] at ho6; rw [← Ny165.out] at ho6)); have n0_ := Aside0.mk (Kd.S_lower ho6 (below_size (by repeat (first | (with_reducible first | exact HB.out | apply below_alloc | apply pw_below_drewN | apply below_drew1) | exact HB.out)))); have n1_ := Aside0.mk (below_step (by repeat (first | (with_reducible first | exact HB.out | apply below_alloc | apply pw_below_drewN | apply below_drew1) | exact HB.out)) hb); clear HB; have HO167 := n0_; have HB := n1_; clear n0_ n1_; clear hb ho6))
    go_loopg [4, 15] k (fun kq v4 v15 w' => ∃ (x4_1 : List (List Int)) (x15_1 : Int), v15 = .int .i64 x15_1 ∧ Aside0 (impl_OnlyBelow.l0 kq l0 x4_1 l0 (l0.length : Int) x15_1 = some (r1, r2)) ∧ Aside0 (kq ≤ k) ∧ Aside0 (Kd.S (Kd.slice 3 (Kd.int .i64)) 41 w' w.heap.size (fun _ => True) v4 x4_1) ∧ Aside0 (Below w.heap.size w w'))
    case atStart => exact ⟨(y165), (0), (by first | rfl | (simp; done) | (simp [*]; done)), H', ⟨Nat.le_refl _⟩, ⟨by (with_reducible repeat (first | apply Kd.S_alloc | apply Kd.S_drewN | apply Kd.S_drew)); exact HO167.out⟩, ⟨by repeat (first | (with_reducible first | exact HB.out | apply below_alloc | apply pw_below_drewN | apply below_drew1) | exact HB.out)⟩⟩
    case round =>
      clear H'
      try clear c1
      try clear p2
      try clear c3
      obtain ⟨x4_1, x15_1, rfl, HA, HK1, HO_4, HB⟩ := hrel
      cases gk with
      | zero => exact absurd HA.out (by simp [impl_OnlyBelow.l0])
      | succ k1 =>
        have H := HA.out
        clear HA
        simp only [impl_OnlyBelow.l0] at H
        by_cases c7 : x15_1 < (l0.length : Int)
        · rw [if_pos c7] at H
          have c7b0 : decide (x15_1 < (l0.length : Int)) = true := decide_eq_true c7
          clear c7
          by_cases c8 : 0 ≤ x15_1
          · rw [if_pos c8] at H
            have c8b0 : decide (0 ≤ x15_1) = true := decide_eq_true c8
            clear c8
            by_cases c9 : x15_1 < (l0.length : Int)
            · rw [if_pos c9] at H
              have c9b0 : decide (x15_1 < (l0.length : Int)) = true := decide_eq_true c9
              clear c9
              have H' := Aside0.mk H
              clear H
              have p168 : 0 ≤ (x15_1 : Int) := of_decide_eq_true (by first | (with_reducible assumption) | assumption)
              have q168 : x15_1 < (l0.length : Int) := of_decide_eq_true (by first | (with_reducible assumption) | assumption)
              obtain ⟨ad168, e168, hx168_0, hx168_1, hx168_2⟩ := at_T49 HR0.out x15_1 p168 q168
              cases e168
              replace hx168_0 := (HB.out.cell (World.block_lt_of_cell? w _ hx168_0)).trans hx168_0
              replace hx168_1 := (HB.out.cell (World.block_lt_of_cell? w _ hx168_1)).trans hx168_1
              replace hx168_2 := (HB.out.cell (World.block_lt_of_cell? w _ hx168_2)).trans hx168_2
              replace p168 := eq_true p168
              replace q168 := eq_true q168
              go_wp2_with (first | ((with_reducible refine gate_dst (N := 6) rfl ?_); refine box_event ?hg (N := 6) ?hd (cs := #[.int .i64 0, .int .i64 0, .int .i64 0]) (t := 49) ?hr ?_; (case hd => rfl); (case hg => rfl); (case hr => first | (go_simp; done) | (go_simp; rfl)); intro gb169 hg w10 hbox hb; have n0_ := Aside0.mk (Kd.S_below (by (with_reducible repeat (first | apply Kd.S_alloc | apply Kd.S_drewN | apply Kd.S_drew)); exact HO_4.out) hb); have n1_ := Aside0.mk (below_step (by repeat (first | (with_reducible first | exact HB.out | apply below_alloc | apply pw_below_drewN | apply below_drew1) | exact HB.out)) hb); have n2_ := Aside0.mk (hbox); have n3_ := Aside0.mk ((by rw [hg]; exact (below_size (by repeat (first | (with_reducible first | exact HB.out | apply below_alloc | apply pw_below_drewN | apply below_drew1) | exact HB.out))) : w.heap.size ≤ gb169)); have n4_ := Aside0.mk ((by rw [hg]; exact (below_size (by repeat (first | (with_reducible first | exact HB.out | apply below_alloc | apply pw_below_drewN | apply below_drew1) | exact HB.out))) : w.heap.size ≤ gb169)); clear HO_4; clear HB; have HO_4 := n0_; have HB := n1_; have BK169 := n2_; have GW169 := n3_; have GE169 := n4_; clear n0_ n1_ n2_ n3_ n4_; clear hb hbox hg; have hcz11_0 : w10.cell? ⟨gb169, 0, none⟩ = some (.int .i64 0) := (blk_cell BK169.out 0).trans rfl; have hcz11_1 : w10.cell? ⟨gb169, 1, none⟩ = some (.int .i64 0) := (blk_cell BK169.out 1).trans rfl; have hcz11_2 : w10.cell? ⟨gb169, 2, none⟩ = some (.int .i64 0) := (blk_cell BK169.out 2).trans rfl; have hfz11_0 := blk_frozen BK169.out 0; have hfz11_1 := blk_frozen BK169.out 1; have hfz11_2 := blk_frozen BK169.out 2))
              go_loopg [4, 22] k1 (fun kq v4 v22 w' => ∃ (x4_2 : List (List Int)) (x22_2 : Int), v22 = .int .i64 x22_2 ∧ Aside0 (impl_OnlyBelow.l1 kq l0 x4_2 x15_1 l0 (l0.length : Int) x15_1 l0 (l0.length : Int) x22_2 ((rd_T49 l0 x15_1).f0) ((rd_T49 l0 x15_1).f1) ((rd_T49 l0 x15_1).f2) = some (r1, r2)) ∧ Aside0 (kq ≤ k1) ∧ Aside0 (Kd.S (Kd.slice 3 (Kd.int .i64)) 41 w' w.heap.size (fun _ => True) v4 x4_2) ∧ Aside0 (w'.heap[gb169]? = some (.cells #[.int .i64 ((rd_T49 l0 x15_1).f0), .int .i64 ((rd_T49 l0 x15_1).f1), .int .i64 ((rd_T49 l0 x15_1).f2)] 49 (0, 0))) ∧ Aside0 (Below w.heap.size w w'))
              case atStart => exact ⟨(x4_1), (0), (by first | rfl | (simp; done) | (simp [*]; done)), H', ⟨Nat.le_refl _⟩, ⟨by (with_reducible repeat (first | apply Kd.S_alloc | apply Kd.S_drewN | apply Kd.S_drew)); exact Kd.S_mono (Kd.S_far (p := ⟨gb169, 2, none⟩) (Kd.S_far (p := ⟨gb169, 1, none⟩) (Kd.S_far (p := ⟨gb169, 0, none⟩) (Kd.S_types HO_4.out BK169.out (by decide)) (fun _ hk => hk.2) (.int .i64 ((rd_T49 l0 x15_1).f0))) (fun _ hk => hk.2) (.int .i64 ((rd_T49 l0 x15_1).f1))) (fun _ hk => hk.2) (.int .i64 ((rd_T49 l0 x15_1).f2))) (fun _ hk => trivial)⟩, ⟨by (with_reducible repeat (first | refine blk_drewN ?_ _ | refine blk_drew ?_ | refine blk_alloc ?_ _)); refine blk_put (cs := #[.int .i64 ((rd_T49 l0 x15_1).f0), .int .i64 ((rd_T49 l0 x15_1).f1), .int .i64 0]) ?_ 2 _ rfl; (with_reducible repeat (first | refine blk_drewN ?_ _ | refine blk_drew ?_ | refine blk_alloc ?_ _)); refine blk_put (cs := #[.int .i64 ((rd_T49 l0 x15_1).f0), .int .i64 0, .int .i64 0]) ?_ 1 _ rfl; (with_reducible repeat (first | refine blk_drewN ?_ _ | refine blk_drew ?_ | refine blk_alloc ?_ _)); refine blk_put (cs := #[.int .i64 0, .int .i64 0, .int .i64 0]) ?_ 0 _ rfl; (with_reducible repeat (first | refine blk_drewN ?_ _ | refine blk_drew ?_ | refine blk_alloc ?_ _)); exact BK169.out⟩, ⟨by repeat (first | (with_reducible first | exact HB.out | apply below_alloc | apply pw_below_drewN | apply below_drew1 | refine below_set ?_ GE169.out) | exact HB.out)⟩⟩
              case round =>
                clear H'
                try clear c1
                try clear p1
                try clear q1
                try clear hx1
                try clear p2
                try clear c3
                try clear c7
                try clear c7b0
                try clear c8
                try clear c8b0
                try clear c9
                try clear c9b0
                try clear hcz11_0
                try clear hcz11_1
                try clear hcz11_2
                try clear hfz11_0
                try clear hfz11_1
                try clear hfz11_2
                try clear hx168_0
                try clear hx168_1
                try clear hx168_2
                try clear p168
                try clear p2
                try clear q168
                obtain ⟨x4_2, x22_2, rfl, HA, HK2, HO_4, BK169, HB⟩ := hrel
                cases gk with
                | zero => exact absurd HA.out (by simp [impl_OnlyBelow.l1])
                | succ k2 =>
                  have H := HA.out
                  clear HA
                  simp only [impl_OnlyBelow.l1] at H
                  by_cases c12 : x22_2 < (l0.length : Int)
                  · rw [if_pos c12] at H
                    have c12b0 : decide (x22_2 < (l0.length : Int)) = true := decide_eq_true c12
                    clear c12
                    by_cases c13 : 0 ≤ x22_2
                    · rw [if_pos c13] at H
                      have c13b0 : decide (0 ≤ x22_2) = true := decide_eq_true c13
                      clear c13
                      by_cases c14 : x22_2 < (l0.length : Int)
                      · rw [if_pos c14] at H
                        have c14b0 : decide (x22_2 < (l0.length : Int)) = true := decide_eq_true c14
                        clear c14
                        by_cases c15 : x15_1 = x22_2
                        · rw [if_pos c15] at H
                          have c15b0 : (x15_1 == x22_2) = true := beq_iff_eq.mpr c15
                          have c15b1 : (x15_1 != x22_2) = false := bne_eq_false_iff_eq.mpr c15
                          clear c15
                          have H' := Aside0.mk H
                          clear H
                          have p170 : 0 ≤ (x22_2 : Int) := of_decide_eq_true (by first | (with_reducible assumption) | assumption)
                          have q170 : x22_2 < (l0.length : Int) := of_decide_eq_true (by first | (with_reducible assumption) | assumption)
                          obtain ⟨ad170, e170, hx170_0, hx170_1, hx170_2⟩ := at_T49 HR0.out x22_2 p170 q170
                          obtain rfl : ad168 = ad170 := (by injection e170)
                          replace hx170_0 := (HB.out.cell (World.block_lt_of_cell? w _ hx170_0)).trans hx170_0
                          replace hx170_1 := (HB.out.cell (World.block_lt_of_cell? w _ hx170_1)).trans hx170_1
                          replace hx170_2 := (HB.out.cell (World.block_lt_of_cell? w _ hx170_2)).trans hx170_2
                          replace p170 := eq_true p170
                          replace q170 := eq_true q170
                          go_wp2_with (first | ((with_reducible refine gate_dst (N := 8) rfl ?_); refine box_event ?hg (N := 8) ?hd (cs := #[.int .i64 0, .int .i64 0, .int .i64 0]) (t := 49) ?hr ?_; (case hd => rfl); (case hg => rfl); (case hr => first | (go_simp; done) | (go_simp; rfl)); intro gb171 hg w16 hbox hb; have n0_ := Aside0.mk (Kd.S_below (by (with_reducible repeat (first | apply Kd.S_alloc | apply Kd.S_drewN | apply Kd.S_drew)); exact HO_4.out) hb); have n1_ := Aside0.mk (blk_below (g := gb169) (o := .cells #[.int .i64 ((rd_T49 l0 x15_1).f0), .int .i64 ((rd_T49 l0 x15_1).f1), .int .i64 ((rd_T49 l0 x15_1).f2)] 49 (0, 0)) (by (with_reducible repeat (first | refine blk_drewN ?_ _ | refine blk_drew ?_ | refine blk_alloc ?_ _)); exact BK169.out) hb); have n2_ := Aside0.mk (below_step (by repeat (first | (with_reducible first | exact HB.out | apply below_alloc | apply pw_below_drewN | apply below_drew1 | refine below_set ?_ GE169.out) | exact HB.out)) hb); have n3_ := Aside0.mk (hbox); have n4_ := Aside0.mk ((by rw [hg]; exact (below_size (by repeat (first | (with_reducible first | exact HB.out | apply below_alloc | apply pw_below_drewN | apply below_drew1 | refine below_set ?_ GE169.out) | exact HB.out))) : w.heap.size ≤ gb171)); have n5_ := Aside0.mk ((by rw [hg]; exact (below_size (by repeat (first | (with_reducible first | exact HB.out | apply below_alloc | apply pw_below_drewN | apply below_drew1 | refine below_set ?_ GE169.out) | exact HB.out))) : w.heap.size ≤ gb171)); have n6_ := Aside0.mk ((by rw [hg]; exact Nat.ne_of_lt (blk_lt (g := gb169) (o := .cells #[.int .i64 ((rd_T49 l0 x15_1).f0), .int .i64 ((rd_T49 l0 x15_1).f1), .int .i64 ((rd_T49 l0 x15_1).f2)] 49 (0, 0)) (by (with_reducible repeat (first | refine blk_drewN ?_ _ | refine blk_drew ?_ | refine blk_alloc ?_ _)); exact BK169.out)) : gb169 ≠ gb171)); have n7_ := Aside0.mk ((by rw [hg]; exact Nat.ne_of_gt (blk_lt (g := gb169) (o := .cells #[.int .i64 ((rd_T49 l0 x15_1).f0), .int .i64 ((rd_T49 l0 x15_1).f1), .int .i64 ((rd_T49 l0 x15_1).f2)] 49 (0, 0)) (by (with_reducible repeat (first | refine blk_drewN ?_ _ | refine blk_drew ?_ | refine blk_alloc ?_ _)); exact BK169.out)) : gb171 ≠ gb169)); clear HO_4; clear BK169; clear HB; have HO_4 := n0_; have BK169 := n1_; have HB := n2_; have BK171 := n3_; have GW171 := n4_; have GE171 := n5_; have NB169_171 := n6_; have NB171_169 := n7_; clear n0_ n1_ n2_ n3_ n4_ n5_ n6_ n7_; clear hb hbox hg; have hnb17 := NB171_169.out; have hnc17 := NB169_171.out; have hcz18_0 : w16.cell? ⟨gb171, 0, none⟩ = some (.int .i64 0) := (blk_cell BK171.out 0).trans rfl; have hcz18_1 : w16.cell? ⟨gb171, 1, none⟩ = some (.int .i64 0) := (blk_cell BK171.out 1).trans rfl; have hcz18_2 : w16.cell? ⟨gb171, 2, none⟩ = some (.int .i64 0) := (blk_cell BK171.out 2).trans rfl; have hfz18_0 := blk_frozen BK171.out 0; have hfz18_1 := blk_frozen BK171.out 1; have hfz18_2 := blk_frozen BK171.out 2))
                          go_roundg k2
                          case measure => have := HK1.out; have := HK2.out; omega
                          case rel => exact ⟨(x4_2), (wrap64 (x22_2 + 1)), (by first | rfl | (simp; done) | (simp [*]; done)), H', ⟨by have := HK1.out; have := HK2.out; omega⟩, ⟨by (with_reducible repeat (first | apply Kd.S_alloc | apply Kd.S_drewN | apply Kd.S_drew)); exact Kd.S_mono (Kd.S_far (p := ⟨gb171, 2, none⟩) (Kd.S_far (p := ⟨gb171, 1, none⟩) (Kd.S_far (p := ⟨gb171, 0, none⟩) (Kd.S_types HO_4.out BK171.out (by decide)) (fun _ hk => hk.2) (.int .i64 ((rd_T49 l0 x22_2).f0))) (fun _ hk => hk.2) (.int .i64 ((rd_T49 l0 x22_2).f1))) (fun _ hk => hk.2) (.int .i64 ((rd_T49 l0 x22_2).f2))) (fun _ hk => trivial)⟩, ⟨by (with_reducible repeat (first | refine blk_drewN ?_ _ | refine blk_drew ?_ | refine blk_alloc ?_ _)); refine blk_far ?_ NB169_171.out _; (with_reducible repeat (first | refine blk_drewN ?_ _ | refine blk_drew ?_ | refine blk_alloc ?_ _)); refine blk_far ?_ NB169_171.out _; (with_reducible repeat (first | refine blk_drewN ?_ _ | refine blk_drew ?_ | refine blk_alloc ?_ _)); refine blk_far ?_ NB169_171.out _; (with_reducible repeat (first | refine blk_drewN ?_ _ | refine blk_drew ?_ | refine blk_alloc ?_ _)); exact BK169.out⟩, ⟨by repeat (first | (with_reducible first | exact HB.out | apply below_alloc | apply pw_below_drewN | apply below_drew1 | refine below_set ?_ GE169.out | refine below_set ?_ GE171.out) | exact HB.out)⟩⟩
                        · rw [if_neg c15] at H
                          have c15b0 : (x15_1 == x22_2) = false := beq_eq_false_iff_ne.mpr c15
                          have c15b1 : (x15_1 != x22_2) = true := bne_iff_ne.mpr c15
                          by_cases c19 : ((rd_T49 l0 x22_2).f1) < ((rd_T49 l0 x15_1).f0)
                          · rw [if_pos c19] at H
                            have c19b0 : decide (((rd_T49 l0 x22_2).f1) < ((rd_T49 l0 x15_1).f0)) = true := decide_eq_true c19
                            clear c19
                            by_cases c20 : ((rd_T49 l0 x15_1).f1) ≥ ((rd_T49 l0 x22_2).f0)
                            · rw [if_pos c20] at H
                              have c20b0 : decide (((rd_T49 l0 x22_2).f0) ≤ ((rd_T49 l0 x15_1).f1)) = true := decide_eq_true c20
                              clear c20
                              obtain ⟨y172, hy172⟩ : ∃ y_ : List Int, y_ = (([x15_1, x22_2] : List Int)) := ⟨_, rfl⟩
                              replace H : (if x4_2.length < 5864062014805 then (impl_OnlyBelow.l1 k2 l0 (x4_2 ++ [y172]) x15_1 l0 (l0.length : Int) x15_1 l0 (l0.length : Int) (wrap64 (x22_2 + 1)) ((rd_T49 l0 x15_1).f0) ((rd_T49 l0 x15_1).f1) ((rd_T49 l0 x15_1).f2)) else (none)) = some (r1, r2) := by first | (rw [hy172]; with_reducible exact H) | (have H2_ := (Option.bind_some _ _).symm.trans H; rw [hy172]; with_reducible exact H2_) | (have H2_ := (Option.bind_some _ _).symm.trans H; with_reducible exact H2_) | with_reducible exact H | (rw [hy172]; exact H) | exact H
                              have Ny172 := Aside0.mk hy172
                              clear hy172
                              by_cases c21 : x4_2.length < 5864062014805
                              · rw [if_pos c21] at H
                                have LMc21 := Aside0.mk c21
                                clear c21
                                obtain ⟨y175, hy175⟩ : ∃ y_ : List (List Int), y_ = (x4_2 ++ [y172]) := ⟨_, rfl⟩
                                replace H : (impl_OnlyBelow.l1 k2 l0 y175 x15_1 l0 (l0.length : Int) x15_1 l0 (l0.length : Int) (wrap64 (x22_2 + 1)) ((rd_T49 l0 x15_1).f0) ((rd_T49 l0 x15_1).f1) ((rd_T49 l0 x15_1).f2)) = some (r1, r2) := by first | (rw [hy175]; with_reducible exact H) | (have H2_ := (Option.bind_some _ _).symm.trans H; rw [hy175]; with_reducible exact H2_) | (have H2_ := (Option.bind_some _ _).symm.trans H; with_reducible exact H2_) | with_reducible exact H | (rw [hy175]; exact H) | exact H
                                have Ny175 := Aside0.mk hy175
                                clear hy175
                                have H' := Aside0.mk H
                                clear H
                                have p170 : 0 ≤ (x22_2 : Int) := of_decide_eq_true (by first | (with_reducible assumption) | assumption)
                                have q170 : x22_2 < (l0.length : Int) := of_decide_eq_true (by first | (with_reducible assumption) | assumption)
                                obtain ⟨ad170, e170, hx170_0, hx170_1, hx170_2⟩ := at_T49 HR0.out x22_2 p170 q170
                                obtain rfl : ad168 = ad170 := (by injection e170)
                                replace hx170_0 := (HB.out.cell (World.block_lt_of_cell? w _ hx170_0)).trans hx170_0
                                replace hx170_1 := (HB.out.cell (World.block_lt_of_cell? w _ hx170_1)).trans hx170_1
                                replace hx170_2 := (HB.out.cell (World.block_lt_of_cell? w _ hx170_2)).trans hx170_2
                                replace p170 := eq_true p170
                                replace q170 := eq_true q170
                                go_wp2_with (first | ((with_reducible refine gate_dst (N := 8) rfl ?_); refine box_event ?hg (N := 8) ?hd (cs := #[.int .i64 0, .int .i64 0, .int .i64 0]) (t := 49) ?hr ?_; (case hd => rfl); (case hg => rfl); (case hr => first | (go_simp; done) | (go_simp; rfl)); intro gb171 hg w22 hbox hb; have n0_ := Aside0.mk (Kd.S_below (by (with_reducible repeat (first | apply Kd.S_alloc | apply Kd.S_drewN | apply Kd.S_drew)); exact HO_4.out) hb); have n1_ := Aside0.mk (blk_below (g := gb169) (o := .cells #[.int .i64 ((rd_T49 l0 x15_1).f0), .int .i64 ((rd_T49 l0 x15_1).f1), .int .i64 ((rd_T49 l0 x15_1).f2)] 49 (0, 0)) (by (with_reducible repeat (first | refine blk_drewN ?_ _ | refine blk_drew ?_ | refine blk_alloc ?_ _)); exact BK169.out) hb); have n2_ := Aside0.mk (below_step (by repeat (first | (with_reducible first | exact HB.out | apply below_alloc | apply pw_below_drewN | apply below_drew1 | refine below_set ?_ GE169.out) | exact HB.out)) hb); have n3_ := Aside0.mk (hbox); have n4_ := Aside0.mk ((by rw [hg]; exact (below_size (by repeat (first | (with_reducible first | exact HB.out | apply below_alloc | apply pw_below_drewN | apply below_drew1 | refine below_set ?_ GE169.out) | exact HB.out))) : w.heap.size ≤ gb171)); have n5_ := Aside0.mk ((by rw [hg]; exact (below_size (by repeat (first | (with_reducible first | exact HB.out | apply below_alloc | apply pw_below_drewN | apply below_drew1 | refine below_set ?_ GE169.out) | exact HB.out))) : w.heap.size ≤ gb171)); have n6_ := Aside0.mk ((by rw [hg]; exact Nat.ne_of_lt (blk_lt (g := gb169) (o := .cells #[.int .i64 ((rd_T49 l0 x15_1).f0), .int .i64 ((rd_T49 l0 x15_1).f1), .int .i64 ((rd_T49 l0 x15_1).f2)] 49 (0, 0)) (by (with_reducible repeat (first | refine blk_drewN ?_ _ | refine blk_drew ?_ | refine blk_alloc ?_ _)); exact BK169.out)) : gb169 ≠ gb171)); have n7_ := Aside0.mk ((by rw [hg]; exact Nat.ne_of_gt (blk_lt (g := gb169) (o := .cells #[.int .i64 ((rd_T49 l0 x15_1).f0), .int .i64 ((rd_T49 l0 x15_1).f1), .int .i64 ((rd_T49 l0 x15_1).f2)] 49 (0, 0)) (by (with_reducible repeat (first | refine blk_drewN ?_ _ | refine blk_drew ?_ | refine blk_alloc ?_ _)); exact BK169.out)) : gb171 ≠ gb169)); clear HO_4; clear BK169; clear HB; have HO_4 := n0_; have BK169 := n1_; have HB := n2_; have BK171 := n3_; have GW171 := n4_; have GE171 := n5_; have NB169_171 := n6_; have NB171_169 := n7_; clear n0_ n1_ n2_ n3_ n4_ n5_ n6_ n7_; clear hb hbox hg; have hnb23 := NB171_169.out; have hnc23 := NB169_171.out; have hcz24_0 : w22.cell? ⟨gb171, 0, none⟩ = some (.int .i64 0) := (blk_cell BK171.out 0).trans rfl; have hcz24_1 : w22.cell? ⟨gb171, 1, none⟩ = some (.int .i64 0) := (blk_cell BK171.out 1).trans rfl; have hcz24_2 : w22.cell? ⟨gb171, 2, none⟩ = some (.int .i64 0) := (blk_cell BK171.out 2).trans rfl; have hfz24_0 := blk_frozen BK171.out 0; have hfz24_1 := blk_frozen BK171.out 1; have hfz24_2 := blk_frozen BK171.out 2; have hcz25_0 : w22.cell? ⟨gb169, 0, none⟩ = some (.int .i64 ((rd_T49 l0 x15_1).f0)) := (blk_cell BK169.out 0).trans rfl; have hcz25_1 : w22.cell? ⟨gb169, 1, none⟩ = some (.int .i64 ((rd_T49 l0 x15_1).f1)) := (blk_cell BK169.out 1).trans rfl; have hcz25_2 : w22.cell? ⟨gb169, 2, none⟩ = some (.int .i64 ((rd_T49 l0 x15_1).f2)) := (blk_cell BK169.out 2).trans rfl; have hfz25_0 := blk_frozen BK169.out 0; have hfz25_1 := blk_frozen BK169.out 1; have hfz25_2 := blk_frozen BK169.out 2) | ((with_reducible refine gate_dst (N := 47) rfl ?_); refine Kd.R_lit (Kd.int .i64) _ 3 ?hg (N := 47) ?hd (xs := ([x15_1, x22_2] : List Int)) (inner := [.int .i64 x15_1, .int .i64 x22_2]) (ok := fun _ => True) (okp := fun _ => True) ?hr ?hp (fun _ hk => hk) trivial (Below.refl _ _) (Nat.le_refl _) (by simp) ?_; (case hd => rfl); (case hg => rfl); (case hr => first | (go_simp; done) | (go_simp; rfl)); (case hp => exact (Reps.one (show Kd.M (Kd.int .i64) _ _ _ x15_1 [.int .i64 x15_1] from rfl) (Reps.one (show Kd.M (Kd.int .i64) _ _ _ x22_2 [.int .i64 x22_2] from rfl) (Reps.none _ _)))); intro v173 w26 ho27 hb hg_ hnew_; clear hg_ hnew_; (first | rw [← Ny172.out] at ho27 | (simp only [Int.reduceToNat] at ho27; rw [← Ny172.out] at ho27)); have n0_ := Aside0.mk (Kd.S_elder' (by (with_reducible repeat (first | apply Kd.S_alloc | apply Kd.S_drewN | apply Kd.S_drew)); exact (Kd.S_mono (Kd.S_far (p := ⟨gb171, 2, none⟩) (Kd.S_far (p := ⟨gb171, 1, none⟩) (Kd.S_far (p := ⟨gb171, 0, none⟩) (Kd.S_types HO_4.out BK171.out (by decide)) (fun _ hk => hk.2) (.int .i64 ((rd_T49 l0 x22_2).f0))) (fun _ hk => hk.2) (.int .i64 ((rd_T49 l0 x22_2).f1))) (fun _ hk => hk.2) (.int .i64 ((rd_T49 l0 x22_2).f2))) (fun _ h_ => h_.1))) (Kd.R_base ho27) hb); have n1_ := Aside0.mk (Kd.R_lower ho27 (below_size (by repeat (first | (with_reducible first | exact HB.out | apply below_alloc | apply pw_below_drewN | apply below_drew1 | refine below_set ?_ GE169.out | refine below_set ?_ GE171.out) | exact HB.out)))); have n2_ := Aside0.mk (blk_below (g := gb169) (o := .cells #[.int .i64 ((rd_T49 l0 x15_1).f0), .int .i64 ((rd_T49 l0 x15_1).f1), .int .i64 ((rd_T49 l0 x15_1).f2)] 49 (0, 0)) (by (with_reducible repeat (first | refine blk_drewN ?_ _ | refine blk_drew ?_ | refine blk_alloc ?_ _)); refine blk_far ?_ NB169_171.out _; (with_reducible repeat (first | refine blk_drewN ?_ _ | refine blk_drew ?_ | refine blk_alloc ?_ _)); refine blk_far ?_ NB169_171.out _; (with_reducible repeat (first | refine blk_drewN ?_ _ | refine blk_drew ?_ | refine blk_alloc ?_ _)); refine blk_far ?_ NB169_171.out _; (with_reducible repeat (first | refine blk_drewN ?_ _ | refine blk_drew ?_ | refine blk_alloc ?_ _)); exact BK169.out) hb); have n3_ := Aside0.mk (blk_below (g := gb171) (o := .cells #[.int .i64 ((rd_T49 l0 x22_2).f0), .int .i64 ((rd_T49 l0 x22_2).f1), .int .i64 ((rd_T49 l0 x22_2).f2)] 49 (0, 0)) (by (with_reducible repeat (first | refine blk_drewN ?_ _ | refine blk_drew ?_ | refine blk_alloc ?_ _)); refine blk_put (cs := #[.int .i64 ((rd_T49 l0 x22_2).f0), .int .i64 ((rd_T49 l0 x22_2).f1), .int .i64 0]) ?_ 2 _ rfl; (with_reducible repeat (first | refine blk_drewN ?_ _ | refine blk_drew ?_ | refine blk_alloc ?_ _)); refine blk_put (cs := #[.int .i64 ((rd_T49 l0 x22_2).f0), .int .i64 0, .int .i64 0]) ?_ 1 _ rfl; (with_reducible repeat (first | refine blk_drewN ?_ _ | refine blk_drew ?_ | refine blk_alloc ?_ _)); refine blk_put (cs := #[.int .i64 0, .int .i64 0, .int .i64 0]) ?_ 0 _ rfl; (with_reducible repeat (first | refine blk_drewN ?_ _ | refine blk_drew ?_ | refine blk_alloc ?_ _)); exact BK171.out) hb); have n4_ := Aside0.mk (below_step (by repeat (first | (with_reducible first | exact HB.out | apply below_alloc | apply pw_below_drewN | apply below_drew1 | refine below_set ?_ GE169.out | refine below_set ?_ GE171.out) | exact HB.out)) hb); clear HO_4; clear BK169; clear BK171; clear HB; have HO_4 := n0_; have HO174 := n1_; have BK169 := n2_; have BK171 := n3_; have HB := n4_; clear n0_ n1_ n2_ n3_ n4_; clear hb ho27; obtain ⟨Ao29, co29, eo29⟩ := Kd.R_slice HO174.out; subst eo29) | ((with_reducible refine gate_builtin (b := .append) (xs := #[.tmp 44, .tmp 48]) rfl ?_); at_builtin; refine Kd.S_append (Kd.slice 3 (Kd.int .i64)) (w0 := w) w.heap.size rfl (.tmp 44) (.tmp 48) 29 41 (.slice none 0 0) 24 rfl Try.underlying29 info41 rfl (by decide) (by omega) u4 x4_2 y172 [.slice Ao29 y172.length co29] (fun _ => True) (fun k_ => some k_ = (.slice Ao29 y172.length co29 : Value).ownBlock) rfl rfl ?aP (fun k_ hk_ => ((Kd.R_mono (ok' := fun k_ => ((fun _ => True)) k_ ∧ some k_ ≠ (u4 : Value).ownBlock) (Kd.R_apart' (HO174.out) (Kd.S_typed HO_4.out) (by decide)) (fun k_ hk => ⟨trivial, hk.2⟩))).1 k_ hk_.symm) ?aF ?aO ?aB ?aS ?aL ?_; (case aP => exact Kd.M_row (Kd.R_mono (Kd.R_tight rfl (Kd.R_mono (ok' := fun k_ => ((fun _ => True)) k_ ∧ some k_ ≠ (u4 : Value).ownBlock) (Kd.R_apart' (HO174.out) (Kd.S_typed HO_4.out) (by decide)) (fun k_ hk => ⟨trivial, hk.2⟩))) (fun _ h_ => h_))); (case aB => exact (by repeat (first | (with_reducible first | exact HB.out | apply below_alloc | apply pw_below_drewN | apply below_drew1 | refine below_set ?_ GE169.out | refine below_set ?_ GE171.out) | exact HB.out))); (case aF => exact (fun _ _ => trivial)); (case aO => exact (by (with_reducible repeat (first | apply Kd.S_alloc | apply Kd.S_drewN | apply Kd.S_drew)); exact Kd.S_mono HO_4.out (fun k_ hk => ⟨trivial, fun e_ => hk.2 e_⟩))); (case aS => exact (below_size (by repeat (first | (with_reducible first | exact HB.out | apply below_alloc | apply pw_below_drewN | apply below_drew1 | refine below_set ?_ GE169.out | refine below_set ?_ GE171.out) | exact HB.out)))); (case aL => have := LMc21.out; omega); intro v176 w28 ho hb hg hat; rw [← Ny175.out] at ho; have n0_ := Aside0.mk (blk_grown (g := gb169) (o := .cells #[.int .i64 ((rd_T49 l0 x15_1).f0), .int .i64 ((rd_T49 l0 x15_1).f1), .int .i64 ((rd_T49 l0 x15_1).f2)] 49 (0, 0)) (by (with_reducible repeat (first | refine blk_drewN ?_ _ | refine blk_drew ?_ | refine blk_alloc ?_ _)); exact BK169.out) hg (Kd.S_ne HO_4.out BK169.out (by decide))); have n1_ := Aside0.mk (blk_grown (g := gb171) (o := .cells #[.int .i64 ((rd_T49 l0 x22_2).f0), .int .i64 ((rd_T49 l0 x22_2).f1), .int .i64 ((rd_T49 l0 x22_2).f2)] 49 (0, 0)) (by (with_reducible repeat (first | refine blk_drewN ?_ _ | refine blk_drew ?_ | refine blk_alloc ?_ _)); exact BK171.out) hg (Kd.S_ne HO_4.out BK171.out (by decide))); have n2_ := Aside0.mk (hb); have n3_ := Aside0.mk (ho); clear BK169; clear BK171; clear HB; clear HO_4; clear HO174; have BK169 := n0_; have BK171 := n1_; have HB := n2_; have HO177 := n3_; clear n0_ n1_ n2_ n3_; clear ho hb hg hat))
                                go_roundg k2
                                case measure => have := HK1.out; have := HK2.out; omega
                                case rel => exact ⟨(y175), (wrap64 (x22_2 + 1)), (by first | rfl | (simp; done) | (simp [*]; done)), H', ⟨by have := HK1.out; have := HK2.out; omega⟩, ⟨by (with_reducible repeat (first | apply Kd.S_alloc | apply Kd.S_drewN | apply Kd.S_drew)); exact HO177.out⟩, ⟨by (with_reducible repeat (first | refine blk_drewN ?_ _ | refine blk_drew ?_ | refine blk_alloc ?_ _)); exact BK169.out⟩, ⟨by repeat (first | (with_reducible first | exact HB.out | apply below_alloc | apply pw_below_drewN | apply below_drew1 | refine below_set ?_ GE169.out | refine below_set ?_ GE171.out) | exact HB.out)⟩⟩
                              · rw [if_neg c21] at H
                                exact absurd H (by simp)
                            · rw [if_neg c20] at H
                              have c20b0 : decide (((rd_T49 l0 x22_2).f0) ≤ ((rd_T49 l0 x15_1).f1)) = false := decide_eq_false c20
                              clear c20
                              have H' := Aside0.mk H
                              clear H
                              have p170 : 0 ≤ (x22_2 : Int) := of_decide_eq_true (by first | (with_reducible assumption) | assumption)
                              have q170 : x22_2 < (l0.length : Int) := of_decide_eq_true (by first | (with_reducible assumption) | assumption)
                              obtain ⟨ad170, e170, hx170_0, hx170_1, hx170_2⟩ := at_T49 HR0.out x22_2 p170 q170
                              obtain rfl : ad168 = ad170 := (by injection e170)
                              replace hx170_0 := (HB.out.cell (World.block_lt_of_cell? w _ hx170_0)).trans hx170_0
                              replace hx170_1 := (HB.out.cell (World.block_lt_of_cell? w _ hx170_1)).trans hx170_1
                              replace hx170_2 := (HB.out.cell (World.block_lt_of_cell? w _ hx170_2)).trans hx170_2
                              replace p170 := eq_true p170
                              replace q170 := eq_true q170
                              go_wp2_with (first | ((with_reducible refine gate_dst (N := 8) rfl ?_); refine box_event ?hg (N := 8) ?hd (cs := #[.int .i64 0, .int .i64 0, .int .i64 0]) (t := 49) ?hr ?_; (case hd => rfl); (case hg => rfl); (case hr => first | (go_simp; done) | (go_simp; rfl)); intro gb171 hg w30 hbox hb; have n0_ := Aside0.mk (Kd.S_below (by (with_reducible repeat (first | apply Kd.S_alloc | apply Kd.S_drewN | apply Kd.S_drew)); exact HO_4.out) hb); have n1_ := Aside0.mk (blk_below (g := gb169) (o := .cells #[.int .i64 ((rd_T49 l0 x15_1).f0), .int .i64 ((rd_T49 l0 x15_1).f1), .int .i64 ((rd_T49 l0 x15_1).f2)] 49 (0, 0)) (by (with_reducible repeat (first | refine blk_drewN ?_ _ | refine blk_drew ?_ | refine blk_alloc ?_ _)); exact BK169.out) hb); have n2_ := Aside0.mk (below_step (by repeat (first | (with_reducible first | exact HB.out | apply below_alloc | apply pw_below_drewN | apply below_drew1 | refine below_set ?_ GE169.out) | exact HB.out)) hb); have n3_ := Aside0.mk (hbox); have n4_ := Aside0.mk ((by rw [hg]; exact (below_size (by repeat (first | (with_reducible first | exact HB.out | apply below_alloc | apply pw_below_drewN | apply below_drew1 | refine below_set ?_ GE169.out) | exact HB.out))) : w.heap.size ≤ gb171)); have n5_ := Aside0.mk ((by rw [hg]; exact (below_size (by repeat (first | (with_reducible first | exact HB.out | apply below_alloc | apply pw_below_drewN | apply below_drew1 | refine below_set ?_ GE169.out) | exact HB.out))) : w.heap.size ≤ gb171)); have n6_ := Aside0.mk ((by rw [hg]; exact Nat.ne_of_lt (blk_lt (g := gb169) (o := .cells #[.int .i64 ((rd_T49 l0 x15_1).f0), .int .i64 ((rd_T49 l0 x15_1).f1), .int .i64 ((rd_T49 l0 x15_1).f2)] 49 (0, 0)) (by (with_reducible repeat (first | refine blk_drewN ?_ _ | refine blk_drew ?_ | refine blk_alloc ?_ _)); exact BK169.out)) : gb169 ≠ gb171)); have n7_ := Aside0.mk ((by rw [hg]; exact Nat.ne_of_gt (blk_lt (g := gb169) (o := .cells #[.int .i64 ((rd_T49 l0 x15_1).f0), .int .i64 ((rd_T49 l0 x15_1).f1), .int .i64 ((rd_T49 l0 x15_1).f2)] 49 (0, 0)) (by (with_reducible repeat (first | refine blk_drewN ?_ _ | refine blk_drew ?_ | refine blk_alloc ?_ _)); exact BK169.out)) : gb171 ≠ gb169)); clear HO_4; clear BK169; clear HB; have HO_4 := n0_; have BK169 := n1_; have HB := n2_; have BK171 := n3_; have GW171 := n4_; have GE171 := n5_; have NB169_171 := n6_; have NB171_169 := n7_; clear n0_ n1_ n2_ n3_ n4_ n5_ n6_ n7_; clear hb hbox hg; have hnb31 := NB171_169.out; have hnc31 := NB169_171.out; have hcz32_0 : w30.cell? ⟨gb171, 0, none⟩ = some (.int .i64 0) := (blk_cell BK171.out 0).trans rfl; have hcz32_1 : w30.cell? ⟨gb171, 1, none⟩ = some (.int .i64 0) := (blk_cell BK171.out 1).trans rfl; have hcz32_2 : w30.cell? ⟨gb171, 2, none⟩ = some (.int .i64 0) := (blk_cell BK171.out 2).trans rfl; have hfz32_0 := blk_frozen BK171.out 0; have hfz32_1 := blk_frozen BK171.out 1; have hfz32_2 := blk_frozen BK171.out 2; have hcz33_0 : w30.cell? ⟨gb169, 0, none⟩ = some (.int .i64 ((rd_T49 l0 x15_1).f0)) := (blk_cell BK169.out 0).trans rfl; have hcz33_1 : w30.cell? ⟨gb169, 1, none⟩ = some (.int .i64 ((rd_T49 l0 x15_1).f1)) := (blk_cell BK169.out 1).trans rfl; have hcz33_2 : w30.cell? ⟨gb169, 2, none⟩ = some (.int .i64 ((rd_T49 l0 x15_1).f2)) := (blk_cell BK169.out 2).trans rfl; have hfz33_0 := blk_frozen BK169.out 0; have hfz33_1 := blk_frozen BK169.out 1; have hfz33_2 := blk_frozen BK169.out 2))
                              go_roundg k2
                              case measure => have := HK1.out; have := HK2.out; omega
                              case rel => exact ⟨(x4_2), (wrap64 (x22_2 + 1)), (by first | rfl | (simp; done) | (simp [*]; done)), H', ⟨by have := HK1.out; have := HK2.out; omega⟩, ⟨by (with_reducible repeat (first | apply Kd.S_alloc | apply Kd.S_drewN | apply Kd.S_drew)); exact Kd.S_mono (Kd.S_far (p := ⟨gb171, 2, none⟩) (Kd.S_far (p := ⟨gb171, 1, none⟩) (Kd.S_far (p := ⟨gb171, 0, none⟩) (Kd.S_types HO_4.out BK171.out (by decide)) (fun _ hk => hk.2) (.int .i64 ((rd_T49 l0 x22_2).f0))) (fun _ hk => hk.2) (.int .i64 ((rd_T49 l0 x22_2).f1))) (fun _ hk => hk.2) (.int .i64 ((rd_T49 l0 x22_2).f2))) (fun _ hk => trivial)⟩, ⟨by (with_reducible repeat (first | refine blk_drewN ?_ _ | refine blk_drew ?_ | refine blk_alloc ?_ _)); refine blk_far ?_ NB169_171.out _; (with_reducible repeat (first | refine blk_drewN ?_ _ | refine blk_drew ?_ | refine blk_alloc ?_ _)); refine blk_far ?_ NB169_171.out _; (with_reducible repeat (first | refine blk_drewN ?_ _ | refine blk_drew ?_ | refine blk_alloc ?_ _)); refine blk_far ?_ NB169_171.out _; (with_reducible repeat (first | refine blk_drewN ?_ _ | refine blk_drew ?_ | refine blk_alloc ?_ _)); exact BK169.out⟩, ⟨by repeat (first | (with_reducible first | exact HB.out | apply below_alloc | apply pw_below_drewN | apply below_drew1 | refine below_set ?_ GE169.out | refine below_set ?_ GE171.out) | exact HB.out)⟩⟩
                          · rw [if_neg c19] at H
                            have c19b0 : decide (((rd_T49 l0 x22_2).f1) < ((rd_T49 l0 x15_1).f0)) = false := decide_eq_false c19
                            clear c19
                            have H' := Aside0.mk H
                            clear H
                            have p170 : 0 ≤ (x22_2 : Int) := of_decide_eq_true (by first | (with_reducible assumption) | assumption)
                            have q170 : x22_2 < (l0.length : Int) := of_decide_eq_true (by first | (with_reducible assumption) | assumption)
                            obtain ⟨ad170, e170, hx170_0, hx170_1, hx170_2⟩ := at_T49 HR0.out x22_2 p170 q170
                            obtain rfl : ad168 = ad170 := (by injection e170)
                            replace hx170_0 := (HB.out.cell (World.block_lt_of_cell? w _ hx170_0)).trans hx170_0
                            replace hx170_1 := (HB.out.cell (World.block_lt_of_cell? w _ hx170_1)).trans hx170_1
                            replace hx170_2 := (HB.out.cell (World.block_lt_of_cell? w _ hx170_2)).trans hx170_2
                            replace p170 := eq_true p170
                            replace q170 := eq_true q170
                            go_wp2_with (first | ((with_reducible refine gate_dst (N := 8) rfl ?_); refine box_event ?hg (N := 8) ?hd (cs := #[.int .i64 0, .int .i64 0, .int .i64 0]) (t := 49) ?hr ?_; (case hd => rfl); (case hg => rfl); (case hr => first | (go_simp; done) | (go_simp; rfl)); intro gb171 hg w34 hbox hb; have n0_ := Aside0.mk (Kd.S_below (by (with_reducible repeat (first | apply Kd.S_alloc | apply Kd.S_drewN | apply Kd.S_drew)); exact HO_4.out) hb); have n1_ := Aside0.mk (blk_below (g := gb169) (o := .cells #[.int .i64 ((rd_T49 l0 x15_1).f0), .int .i64 ((rd_T49 l0 x15_1).f1), .int .i64 ((rd_T49 l0 x15_1).f2)] 49 (0, 0)) (by (with_reducible repeat (first | refine blk_drewN ?_ _ | refine blk_drew ?_ | refine blk_alloc ?_ _)); exact BK169.out) hb); have n2_ := Aside0.mk (below_step (by repeat (first | (with_reducible first | exact HB.out | apply below_alloc | apply pw_below_drewN | apply below_drew1 | refine below_set ?_ GE169.out) | exact HB.out)) hb); have n3_ := Aside0.mk (hbox); have n4_ := Aside0.mk ((by rw [hg]; exact (below_size (by repeat (first | (with_reducible first | exact HB.out | apply below_alloc | apply pw_below_drewN | apply below_drew1 | refine below_set ?_ GE169.out) | exact HB.out))) : w.heap.size ≤ gb171)); have n5_ := Aside0.mk ((by rw [hg]; exact (below_size (by repeat (first | (with_reducible first | exact HB.out | apply below_alloc | apply pw_below_drewN | apply below_drew1 | refine below_set ?_ GE169.out) | exact HB.out))) : w.heap.size ≤ gb171)); have n6_ := Aside0.mk ((by rw [hg]; exact Nat.ne_of_lt (blk_lt (g := gb169) (o := .cells #[.int .i64 ((rd_T49 l0 x15_1).f0), .int .i64 ((rd_T49 l0 x15_1).f1), .int .i64 ((rd_T49 l0 x15_1).f2)] 49 (0, 0)) (by (with_reducible repeat (first | refine blk_drewN ?_ _ | refine blk_drew ?_ | refine blk_alloc ?_ _)); exact BK169.out)) : gb169 ≠ gb171)); have n7_ := Aside0.mk ((by rw [hg]; exact Nat.ne_of_gt (blk_lt (g := gb169) (o := .cells #[.int .i64 ((rd_T49 l0 x15_1).f0), .int .i64 ((rd_T49 l0 x15_1).f1), .int .i64 ((rd_T49 l0 x15_1).f2)] 49 (0, 0)) (by (with_reducible repeat (first | refine blk_drewN ?_ _ | refine blk_drew ?_ | refine blk_alloc ?_ _)); exact BK169.out)) : gb171 ≠ gb169)); clear HO_4; clear BK169; clear HB; have HO_4 := n0_; have BK169 := n1_; have HB := n2_; have BK171 := n3_; have GW171 := n4_; have GE171 := n5_; have NB169_171 := n6_; have NB171_169 := n7_; clear n0_ n1_ n2_ n3_ n4_ n5_ n6_ n7_; clear hb hbox hg; have hnb35 := NB171_169.out; have hnc35 := NB169_171.out; have hcz36_0 : w34.cell? ⟨gb171, 0, none⟩ = some (.int .i64 0) := (blk_cell BK171.out 0).trans rfl; have hcz36_1 : w34.cell? ⟨gb171, 1, none⟩ = some (.int .i64 0) := (blk_cell BK171.out 1).trans rfl; have hcz36_2 : w34.cell? ⟨gb171, 2, none⟩ = some (.int .i64 0) := (blk_cell BK171.out 2).trans rfl; have hfz36_0 := blk_frozen BK171.out 0; have hfz36_1 := blk_frozen BK171.out 1; have hfz36_2 := blk_frozen BK171.out 2; have hcz37_0 : w34.cell? ⟨gb169, 0, none⟩ = some (.int .i64 ((rd_T49 l0 x15_1).f0)) := (blk_cell BK169.out 0).trans rfl; have hcz37_1 : w34.cell? ⟨gb169, 1, none⟩ = some (.int .i64 ((rd_T49 l0 x15_1).f1)) := (blk_cell BK169.out 1).trans rfl; have hcz37_2 : w34.cell? ⟨gb169, 2, none⟩ = some (.int .i64 ((rd_T49 l0 x15_1).f2)) := (blk_cell BK169.out 2).trans rfl; have hfz37_0 := blk_frozen BK169.out 0; have hfz37_1 := blk_frozen BK169.out 1; have hfz37_2 := blk_frozen BK169.out 2))
                            go_roundg k2
                            case measure => have := HK1.out; have := HK2.out; omega
                            case rel => exact ⟨(x4_2), (wrap64 (x22_2 + 1)), (by first | rfl | (simp; done) | (simp [*]; done)), H', ⟨by have := HK1.out; have := HK2.out; omega⟩, ⟨by (with_reducible repeat (first | apply Kd.S_alloc | apply Kd.S_drewN | apply Kd.S_drew)); exact Kd.S_mono (Kd.S_far (p := ⟨gb171, 2, none⟩) (Kd.S_far (p := ⟨gb171, 1, none⟩) (Kd.S_far (p := ⟨gb171, 0, none⟩) (Kd.S_types HO_4.out BK171.out (by decide)) (fun _ hk => hk.2) (.int .i64 ((rd_T49 l0 x22_2).f0))) (fun _ hk => hk.2) (.int .i64 ((rd_T49 l0 x22_2).f1))) (fun _ hk => hk.2) (.int .i64 ((rd_T49 l0 x22_2).f2))) (fun _ hk => trivial)⟩, ⟨by (with_reducible repeat (first | refine blk_drewN ?_ _ | refine blk_drew ?_ | refine blk_alloc ?_ _)); refine blk_far ?_ NB169_171.out _; (with_reducible repeat (first | refine blk_drewN ?_ _ | refine blk_drew ?_ | refine blk_alloc ?_ _)); refine blk_far ?_ NB169_171.out _; (with_reducible repeat (first | refine blk_drewN ?_ _ | refine blk_drew ?_ | refine blk_alloc ?_ _)); refine blk_far ?_ NB169_171.out _; (with_reducible repeat (first | refine blk_drewN ?_ _ | refine blk_drew ?_ | refine blk_alloc ?_ _)); exact BK169.out⟩, ⟨by repeat (first | (with_reducible first | exact HB.out | apply below_alloc | apply pw_below_drewN | apply below_drew1 | refine below_set ?_ GE169.out | refine below_set ?_ GE171.out) | exact HB.out)⟩⟩
                      · rw [if_neg c14] at H
                        exact absurd H (by simp)
                    · rw [if_neg c13] at H
                      exact absurd H (by simp)
                  · rw [if_neg c12] at H
                    have c12b0 : decide (x22_2 < (l0.length : Int)) = false := decide_eq_false c12
                    clear c12
                    have H' := Aside0.mk H
                    clear H
                    go_wp2
                    go_roundg k2
                    case measure => have := HK1.out; have := HK2.out; omega
                    case rel => exact ⟨(x4_2), (wrap64 (x15_1 + 1)), (by first | rfl | (simp; done) | (simp [*]; done)), H', ⟨by have := HK1.out; have := HK2.out; omega⟩, ⟨by (with_reducible repeat (first | apply Kd.S_alloc | apply Kd.S_drewN | apply Kd.S_drew)); exact HO_4.out⟩, ⟨by repeat (first | (with_reducible first | exact HB.out | apply below_alloc | apply pw_below_drewN | apply below_drew1 | refine below_set ?_ GE169.out) | exact HB.out)⟩⟩
            · rw [if_neg c9] at H
              exact absurd H (by simp)
          · rw [if_neg c8] at H
            exact absurd H (by simp)
        · rw [if_neg c7] at H
          have c7b0 : decide (x15_1 < (l0.length : Int)) = false := decide_eq_false c7
          clear c7
          simp only [Option.some.injEq, Prod.mk.injEq] at H
          obtain ⟨rfl, rfl⟩ := H
          go_wp2
          go_ret2
          exact ⟨_, by first | rfl | (simp [errW_none, errW_some] <;> rfl) | (simp [*, errW_none, errW_some] <;> rfl), by (with_reducible repeat (first | apply Kd.S_alloc | apply Kd.S_drewN | apply Kd.S_drew)); exact HO_4.out, by repeat (first | (with_reducible first | exact HB.out | apply below_alloc | apply pw_below_drewN | apply below_drew1) | exact HB.out)⟩
  · replace c3 := Bool.eq_false_iff.mpr c3
    subst c3
    have H1 : (some (([] : List (List Int)), false)) = some (r1, r2) := by rw [if_neg (show ¬ (false = true) by decide)] at H; exact H
    clear H
    have H := H1
    clear H1
    simp only [Option.some.injEq, Prod.mk.injEq] at H
    obtain ⟨rfl, rfl⟩ := H
    go_enter Try.func18, Try.ntmps18
    go_wp2_with (first | ((with_reducible refine gate_callee (f := 15) rfl ?_); refine goesL_ (some 10) rfl rfl Try.func15 (by kernel_rfl) rfl #[.slice A0 l0.length c0] rfl (by (try simp only [List.map_toArray, List.map_cons, List.map_nil]); first | done | rfl | (simp only [List.length_drop, List.length_take]; rfl)) ?_; (with_reducible refine (impl_AreStackable.calls _ _ l0 false _ ?side1 ?side2 A2.out).mono ?_); (case side1 => repeat (first | exact HR0.out | (with_reducible refine Kd.C_alloc ?_ _) | (with_reducible refine Kd.C_drewN ?_ _) | (with_reducible refine Kd.C_drew ?_))); (case side2 => exact HC0.out); rintro e w38 ⟨rfl, hb⟩; refine ⟨_, rfl, ?_⟩; have n0_ := Aside0.mk (below_step (by repeat (first | (with_reducible first | exact HB.out | apply below_alloc | apply pw_below_drewN | apply below_drew1) | exact HB.out)) hb); clear HB; have HB := n0_; clear n0_; (try clear hb); (try clear hb2); (try clear hk); (try clear hi)))
    go_ret2
    exact ⟨_, by first | rfl | (simp [errW_none, errW_some] <;> rfl) | (simp [*, errW_none, errW_some] <;> rfl), by first | exact Kd.S_nil _ _ _ _ _ | exact Kd.N_nil _ _ _ _ _ | exact Kd.V_nil _ _ _ _ _ | exact Kd.Q_nil _ _ _ _ _ | exact Kd.R_nil _ _ _ _ _, by repeat (first | (with_reducible first | exact HB.out | apply below_alloc | apply pw_below_drewN | apply below_drew1) | exact HB.out)⟩

end Go.Proofs.Ytbmefldckdaopaa.Q

namespace Go.Proofs.Ytbmefldckdaopaa.Q
open Go.RowKit Go.Proofs.YtbmefldckdaopaaW.PrintWords Go.Proofs.YtbmefldckdaopaaW.PrintLast Go.Proofs.YtbmefldckdaopaaW.PrintMore
set_option linter.unusedVariables false
set_option linter.unusedSimpArgs false

/-- Things whose numbers are small. -/
def Little (l : List Thing) : Prop := ∀ i : Int, 0 ≤ i → i < (l.length : Int) → (1 ≤ (rd_T49 l i).f0 ∧ (rd_T49 l i).f0 ≤ 1000) ∧ 0 ≤ (rd_T49 l i).f1 ∧ (rd_T49 l i).f1 ≤ 1000
theorem little_of {l : List Thing} (h : impl_AreStackable.f l = some true) : 1 ≤ l.length ∧ l.length ≤ 7 ∧ Little l := by
  unfold impl_AreStackable.f at h
  injection h with h
  simp only [Bool.and_eq_true, decide_eq_true_eq, List.all_eq_true] at h
  refine ⟨h.1.1, h.1.2, fun i h0 h1 => ?_⟩
  have hm : rd_T49 l i ∈ l := by
    unfold rd_T49
    rw [List.getD_eq_getElem?_getD, List.getElem?_eq_getElem (by omega)]
    exact List.getElem_mem _
  have := h.2 _ hm
  unfold okThing at this
  simp only [Bool.and_eq_true, decide_eq_true_eq] at this
  omega
theorem rd_two0 (x y : Int) : rd [x, y] 0 = x := rfl
theorem rd_two1 (x y : Int) : rd [x, y] 1 = y := rfl
theorem rd_one0 (x : Int) : rd [x] 0 = x := rfl
theorem above_two (l : List Thing) (hL : Little l) (i j : Int) (hi : 0 ≤ i ∧ i < (l.length : Int)) (hj : 0 ≤ j ∧ j < (l.length : Int)) (k : Nat) : spec_scAbove.f (k + 10) l [i, j] = some [(rd_T49 l j).f0, 0] := by
  have h := hL j hj.1 hj.2
  unfold spec_scAbove.f
  rw [spec_scAbove.l0]
  simp only [List.length_cons, List.length_nil]
  rw [if_pos (by omega), w64 (i := (0 : Int) + 1) (by omega) (by omega), if_pos (by omega), if_pos (by omega)]
  simp only [show ((0 : Int) + 1).toNat = 1 from rfl, List.drop_succ_cons, List.drop_zero, List.length_cons, List.length_nil]
  rw [spec_scAbove.l1, if_pos (by omega), if_pos (by omega), if_pos (by simp), rd_one0, if_pos (by omega), if_pos (by omega), w64 (i := (0 : Int) + 1) (by omega) (by omega), w64 (i := (0 : Int) + _) (by omega) (by omega)]
  rw [spec_scAbove.l1, if_neg (by omega), if_pos (by simp), w64 (i := (0 : Int) + 1) (by omega) (by omega)]
  rw [spec_scAbove.l0, if_pos (by omega), w64 (i := (0 : Int) + 1 + 1) (by omega) (by omega), if_pos (by omega), if_pos (by simp)]
  simp only [show ((0 : Int) + 1 + 1).toNat = 2 from rfl, List.drop_succ_cons, List.drop_zero, List.drop_nil, List.length_cons, List.length_nil]
  rw [spec_scAbove.l1, if_neg (by omega), if_pos (by simp), w64 (i := (0 : Int) + 1 + 1) (by omega) (by omega)]
  rw [spec_scAbove.l0, if_neg (by omega)]
  simp
theorem safe_two (l : List Thing) (hL : Little l) (i j : Int) (hi : 0 ≤ i ∧ i < (l.length : Int)) (hj : 0 ≤ j ∧ j < (l.length : Int)) (k : Nat) : spec_scSafe.f (k + 10) l [i, j] = some (decide ((rd_T49 l j).f0 ≤ (rd_T49 l i).f1)) := by
  have h := hL j hj.1 hj.2
  unfold spec_scSafe.f
  rw [above_two l hL i j hi hj k]
  generalize hX : (rd_T49 l j).f0 = X at h ⊢
  rw [Option.bind_some, spec_scSafe.l0, if_pos (by simp), if_pos (by omega), if_pos (by simp), if_pos (by simp), rd_two0 i j, if_pos (by omega), if_pos (by omega), rd_two0 X 0]
  by_cases hc : X > (rd_T49 l i).f1
  · rw [if_pos hc, decide_eq_false (by omega)]
  · rw [if_neg hc, decide_eq_true (by omega), w64 (i := (0 : Int) + 1) (by omega) (by omega), show (0 : Int) + 1 = 1 from rfl]
    rw [spec_scSafe.l0, if_pos (by simp), if_pos (by omega), if_pos (by simp), if_pos (by simp), rd_two1 i j, if_pos (by omega), if_pos (by omega), rd_two1 X 0, if_neg (by omega), w64 (by omega) (by omega), spec_scSafe.l0, if_neg (by simp)]
/-- Is place i, and not the other way round, able to carry place j? -/
def onlyB (l : List Thing) (i j : Int) : Bool := decide (i ≠ j) && decide ((rd_T49 l j).f1 < (rd_T49 l i).f0) && decide ((rd_T49 l j).f0 ≤ (rd_T49 l i).f1)
/-- The pairs of i from j on, d of them. -/
def rowB (l : List Thing) (i : Int) : Nat → Nat → List (List Int)
  | 0, _ => []
  | d + 1, j => (if onlyB l i (j : Int) = true then [[i, (j : Int)]] else []) ++ rowB l i d (j + 1)
def allB (l : List Thing) : Nat → Nat → List (List Int)
  | 0, _ => []
  | d + 1, i => rowB l (i : Int) l.length 0 ++ allB l d (i + 1)
theorem rowB_len (l : List Thing) (i : Int) : ∀ d j, (rowB l i d j).length ≤ d
  | 0, _ => by simp [rowB]
  | d + 1, j => by
    have := rowB_len l i d (j + 1)
    rw [rowB, List.length_append]
    split <;> simp <;> omega
theorem allLen_append : ∀ (a b : List (List Int)), allLen (a ++ b) = allLen a + allLen b
  | [], b => by simp [allLen]
  | x :: a, b => by rw [List.cons_append, allLen, allLen, allLen_append a b]; omega
theorem rowB_all (l : List Thing) (i : Int) : ∀ d j, allLen (rowB l i d j) ≤ 2 * d
  | 0, _ => by simp [rowB, allLen]
  | d + 1, j => by
    have := rowB_all l i d (j + 1)
    rw [rowB, allLen_append]
    split
    · simp [allLen]; omega
    · simp [allLen]; omega
theorem allB_len (l : List Thing) : ∀ d i, (allB l d i).length ≤ d * l.length ∧ allLen (allB l d i) ≤ 2 * (d * l.length)
  | 0, _ => by simp [allB, allLen]
  | d + 1, i => by
    have h := allB_len l d (i + 1)
    have h1 := rowB_len l (i : Int) l.length 0
    have h2 := rowB_all l (i : Int) l.length 0
    rw [allB, List.length_append, allLen_append, Nat.succ_mul]
    omega
theorem spec_row (l : List Thing) (hL : Little l) (hn : l.length ≤ 7) (i : Nat) (hi : i < l.length) (R : Option (List (List Int) × Bool)) (acc2 : List (List Int)) (K : Nat) (hR : ∀ k, K ≤ k → spec_OnlyBelow.l0 k l acc2 (l.length : Int) ((i + 1 : Nat) : Int) = R) :
    ∀ d j k (acc : List (List Int)), j + d = l.length → acc.length ≤ 1000 - d → acc ++ rowB l (i : Int) d j = acc2 → K + 20 + d ≤ k → spec_OnlyBelow.l1 k l acc (i : Int) (l.length : Int) (i : Int) (l.length : Int) (j : Int) = R := by
  intro d
  induction d with
  | zero =>
    intro j k acc hj ha he hk
    obtain ⟨k, rfl⟩ : ∃ m, k = m + 1 := ⟨k - 1, by omega⟩
    simp only [spec_OnlyBelow.l1]
    rw [if_neg (by omega), w64 (by omega) (by omega), ← hR k (by omega), ← he, rowB, List.append_nil]
    rfl
  | succ d ih =>
    intro j k acc hj ha he hk
    obtain ⟨k, rfl⟩ : ∃ m, k = m + 10 + 1 := ⟨k - 11, by omega⟩
    have hw : wrap64 ((j : Int) + 1) = ((j + 1 : Nat) : Int) := by rw [w64 (by omega) (by omega)]; omega
    have hij := hL (i : Int) (by omega) (by omega)
    have hjj := hL (j : Int) (by omega) (by omega)
    rw [spec_OnlyBelow.l1, if_pos (by omega), hw]
    rw [rowB] at he
    unfold onlyB at he
    by_cases c1 : (i : Int) = (j : Int)
    · rw [if_pos c1]
      refine ih (j + 1) (k + 10) acc (by omega) (by omega) ?_ (by omega)
      rw [← he, if_neg (by simp [c1])]
      rfl
    · rw [if_neg c1, safe_two l hL (i : Int) (j : Int) (by omega) (by omega) k]
      simp only [Option.bind_some]
      by_cases c2 : (rd_T49 l (j : Int)).f0 ≤ (rd_T49 l (i : Int)).f1
      · rw [if_pos (decide_eq_true c2), safe_two l hL (j : Int) (i : Int) (by omega) (by omega) k]
        simp only [Option.bind_some]
        by_cases c3 : (rd_T49 l (i : Int)).f0 ≤ (rd_T49 l (j : Int)).f1
        · rw [if_pos (decide_eq_true c3)]
          refine ih (j + 1) (k + 10) acc (by omega) (by omega) ?_ (by omega)
          rw [← he, if_neg (by simp; omega)]
          rfl
        · rw [if_neg (by simp; omega), if_pos (by omega)]
          refine ih (j + 1) (k + 10) _ (by omega) (by simp; omega) ?_ (by omega)
          rw [← he, if_pos (by simp [c1, c2]; omega), List.append_assoc]
      · rw [if_neg (by simpa using c2)]
        refine ih (j + 1) (k + 10) acc (by omega) (by omega) ?_ (by omega)
        rw [← he, if_neg (by simp; omega)]
        rfl
theorem spec_all (l : List Thing) (hL : Little l) (hn : l.length ≤ 7) : ∀ d i k (acc : List (List Int)), i + d = l.length → acc.length ≤ 900 - d * 7 → 100 * d + 50 ≤ k → spec_OnlyBelow.l0 k l acc (l.length : Int) (i : Int) = some (acc ++ allB l d i, true) := by
  intro d
  induction d with
  | zero =>
    intro i k acc hi ha hk
    obtain ⟨k, rfl⟩ : ∃ m, k = m + 1 := ⟨k - 1, by omega⟩
    simp only [spec_OnlyBelow.l0]
    rw [if_neg (by omega), allB, List.append_nil]
  | succ d ih =>
    intro i k acc hi ha hk
    obtain ⟨k, rfl⟩ : ∃ m, k = m + 1 := ⟨k - 1, by omega⟩
    simp only [spec_OnlyBelow.l0]
    rw [if_pos (by omega)]
    have hrl := rowB_len l (i : Int) l.length 0
    refine spec_row l hL hn i (by omega) _ (acc ++ rowB l (i : Int) l.length 0) (100 * d + 50) (fun k hk => ?_) l.length 0 k acc (by omega) (by omega) rfl (by omega)
    rw [ih (i + 1) k _ (by omega) (by rw [List.length_append]; omega) hk, allB, List.append_assoc]
theorem impl_row (l : List Thing) (hL : Little l) (hn : l.length ≤ 7) (i : Nat) (hi : i < l.length) (R : Option (List (List Int) × Bool)) (acc2 : List (List Int)) (K : Nat) (hR : ∀ k, K ≤ k → impl_OnlyBelow.l0 k l acc2 l (l.length : Int) ((i + 1 : Nat) : Int) = R) :
    ∀ d j k (acc : List (List Int)), j + d = l.length → acc.length ≤ 1000 - d → acc ++ rowB l (i : Int) d j = acc2 → K + 20 + d ≤ k → impl_OnlyBelow.l1 k l acc (i : Int) l (l.length : Int) (i : Int) l (l.length : Int) (j : Int) (rd_T49 l (i : Int)).f0 (rd_T49 l (i : Int)).f1 (rd_T49 l (i : Int)).f2 = R := by
  intro d
  induction d with
  | zero =>
    intro j k acc hj ha he hk
    obtain ⟨k, rfl⟩ : ∃ m, k = m + 1 := ⟨k - 1, by omega⟩
    simp only [impl_OnlyBelow.l1]
    rw [if_neg (by omega), w64 (by omega) (by omega), ← hR k (by omega), ← he, rowB, List.append_nil]
    rfl
  | succ d ih =>
    intro j k acc hj ha he hk
    obtain ⟨k, rfl⟩ : ∃ m, k = m + 1 := ⟨k - 1, by omega⟩
    have hw : wrap64 ((j : Int) + 1) = ((j + 1 : Nat) : Int) := by rw [w64 (by omega) (by omega)]; omega
    simp only [impl_OnlyBelow.l1]
    rw [if_pos (by omega), if_pos (by omega), if_pos (by omega), hw]
    rw [rowB] at he
    unfold onlyB at he
    by_cases c1 : (i : Int) = (j : Int)
    · rw [if_pos c1]
      refine ih (j + 1) k acc (by omega) (by omega) ?_ (by omega)
      rw [← he, if_neg (by simp [c1])]
      rfl
    · rw [if_neg c1]
      by_cases c3 : (rd_T49 l (j : Int)).f1 < (rd_T49 l (i : Int)).f0
      · rw [if_pos c3]
        by_cases c2 : (rd_T49 l (i : Int)).f1 ≥ (rd_T49 l (j : Int)).f0
        · rw [if_pos c2, if_pos (by omega)]
          refine ih (j + 1) k _ (by omega) (by simp; omega) ?_ (by omega)
          rw [← he, if_pos (by simp [c1, c3]; omega), List.append_assoc]
        · rw [if_neg c2]
          refine ih (j + 1) k acc (by omega) (by omega) ?_ (by omega)
          rw [← he, if_neg (by simp; omega)]
          rfl
      · rw [if_neg c3]
        refine ih (j + 1) k acc (by omega) (by omega) ?_ (by omega)
        rw [← he, if_neg (by simp [c3])]
        rfl
theorem impl_all (l : List Thing) (hL : Little l) (hn : l.length ≤ 7) : ∀ d i k (acc : List (List Int)), i + d = l.length → acc.length ≤ 900 - d * 7 → 100 * d + 50 ≤ k → impl_OnlyBelow.l0 k l acc l (l.length : Int) (i : Int) = some (acc ++ allB l d i, true) := by
  intro d
  induction d with
  | zero =>
    intro i k acc hi ha hk
    obtain ⟨k, rfl⟩ : ∃ m, k = m + 1 := ⟨k - 1, by omega⟩
    simp only [impl_OnlyBelow.l0]
    rw [if_neg (by omega), allB, List.append_nil]
  | succ d ih =>
    intro i k acc hi ha hk
    obtain ⟨k, rfl⟩ : ∃ m, k = m + 1 := ⟨k - 1, by omega⟩
    simp only [impl_OnlyBelow.l0]
    rw [if_pos (by omega), if_pos (by omega), if_pos (by omega)]
    have hrl := rowB_len l (i : Int) l.length 0
    refine impl_row l hL hn i (by omega) _ (acc ++ rowB l (i : Int) l.length 0) (100 * d + 50) (fun k hk => ?_) l.length 0 k acc (by omega) (by omega) rfl (by omega)
    rw [ih (i + 1) k _ (by omega) (by rw [List.length_append]; omega) hk, allB, List.append_assoc]
theorem onlyBelow_both (l : List Thing) (hm : l.length ≤ 10000000) : ∃ r : List (List Int) × Bool, Ev (fun k => spec_OnlyBelow.f k l) r ∧ Ev (fun k => impl_OnlyBelow.f k l) r ∧ r.1.length + allLen r.1 ≤ 10000000 := by
  obtain ⟨t, ht⟩ : ∃ t, impl_AreStackable.f l = some t := ⟨_, rfl⟩
  have hg := fun k (hk : l.length < k) => (scGood_eq l (by omega) k hk).trans ht
  unfold spec_OnlyBelow.f impl_OnlyBelow.f
  rw [ht]
  cases t with
  | false => exact ⟨([], false), Ev_from l.length fun k hk => by rw [hg k hk]; rfl, Ev_from 0 fun k _ => rfl, by simp [allLen]⟩
  | true =>
    obtain ⟨h1, h2, hL⟩ := little_of ht
    have hb := allB_len l l.length 0
    have hb2 : l.length * l.length ≤ 7 * 7 := Nat.mul_le_mul h2 h2
    refine ⟨(allB l l.length 0, true), Ev_from 100000 fun k hk => ?_, Ev_from 100000 fun k hk => ?_, by show (allB l l.length 0).length + allLen (allB l l.length 0) ≤ _; omega⟩
    · rw [hg k (by omega)]; simp only [Option.bind_some, if_true]
      have := spec_all l hL h2 l.length 0 k [] (by omega) (by simp) (by omega)
      simpa using this
    · simp only [Option.bind_some, if_true]
      have := impl_all l hL h2 l.length 0 k [] (by omega) (by simp) (by omega)
      simpa using this
end Go.Proofs.Ytbmefldckdaopaa.Q

namespace Go.Proofs.Ytbmefldckdaopaa.Q
open Go.RowKit Go.Shelf Go.Proofs.YtbmefldckdaopaaW.PrintWords Go.Proofs.YtbmefldckdaopaaW.PrintLast Go.Proofs.YtbmefldckdaopaaW.PrintMore
set_option linter.unusedVariables false
set_option linter.unusedSimpArgs false

set_option maxRecDepth 100000 in
set_option maxHeartbeats 8000000 in
/-- The law itself, walked. -/
theorem law_calls (A0 : Option Addr) (c0 : Nat) (l0 : List S51) (W : World) (hr0 : Kd.C k51 W A0 l0.length l0) (hc0 : l0.length ≤ c0) (hm : l0.length * 24 ≤ 140737488351232) :
    Calls Try.prog 4 #[.slice A0 l0.length c0] W fun e W' => e = .returned (.bool true) ∧ Below W.heap.size W W' := by
  by_cases hl : l0.length ≤ 1048576
  case neg =>
    have hsz := laws_szThingS.calls A0 c0 l0 1048576 _ W hr0 hc0 (szThingS_great l0 (by omega) (by omega))
    have HSZ := Aside0.mk hsz
    clear hsz hr0
    go_enter Try.func4, Try.ntmps4
    go_wp2_with (go_at_call 12; refine HSZ.out.mono ?_; rintro e w1 ⟨rfl, hd⟩)
    go_ret
    exact ⟨rfl, hd.below⟩
  obtain ⟨xs, hxs⟩ : ∃ xs, l0.map cvThing = xs := ⟨_, rfl⟩
  have hxl : xs.length = l0.length := by rw [← hxs]; simp
  obtain ⟨⟨rs, rb⟩, hs, hi, hb⟩ := onlyBelow_both xs (by omega)
  obtain ⟨y, hy⟩ := markThingS_ev xs (by omega) 1 (by omega) (by omega)
  obtain ⟨k1, hs⟩ := hs
  obtain ⟨k2, hi⟩ := hi
  obtain ⟨k3, ht⟩ := toThingS_ev l0 (by omega)
  obtain ⟨k4, he⟩ := eqThingS_ev xs (by omega)
  obtain ⟨k5, hy⟩ := hy
  have hs := hs k1 (Nat.le_refl _)
  have hi := hi k2 (Nat.le_refl _)
  have ht := ht k3 (Nat.le_refl _)
  have he := he k4 (Nat.le_refl _)
  have hy := hy k5 (Nat.le_refl _)
  rw [hxs] at ht
  simp only at hb hs hi ht he hy
  have hsz := laws_szThingS.calls A0 c0 l0 1048576 _ W hr0 hc0 (szThingS_small l0 hl)
  have hct := fun W' (hb : Below W.heap.size W W') => laws_toThingS.calls k3 A0 c0 l0 xs W' (Kd.C_below hr0 hb) hc0 ht
  have hspec := fun (A : Option Addr) (c : Nat) (W' : World) (hC : Kd.C k49 W' A xs.length xs) (hc : xs.length ≤ c) => spec_OnlyBelow.calls k1 A c xs rs rb W' hC hc hs
  have himpl := fun (A : Option Addr) (c : Nat) (W' : World) (hC : Kd.C k49 W' A xs.length xs) (hc : xs.length ≤ c) => impl_OnlyBelow.calls k2 A c xs rs rb W' hC hc hi
  have heq := fun (A : Option Addr) (c : Nat) (A' : Option Addr) (c' : Nat) (W' : World) (hC : Kd.C k49 W' A xs.length xs) (hc : xs.length ≤ c) (hC' : Kd.C k49 W' A' xs.length xs) (hc' : xs.length ≤ c') => laws_eqThingS.calls k4 A c xs A' c' xs true W' hC hc hC' hc' he
  have hmk := fun (P : Nat → Prop) (v : Value) (w0 W' : World) (hB : Below w0.heap.size w0 W') (hR : Kd.R k49 49 W' w0.heap.size P v xs) => laws_markThingS.calls k5 P v xs 1 _ y w0 W' hB hR hy
  have heqs := fun (A : Option Addr) (c : Nat) (A' : Option Addr) (c' : Nat) (W' : World) (hC : Kd.C kRow W' A rs.length rs) (hc : rs.length ≤ c) (hC' : Kd.C kRow W' A' rs.length rs) (hc' : rs.length ≤ c') => laws_eqIntSS.calls (rs.length + allLen rs + 2) A c rs A' c' rs true W' hC hc hC' hc' (eqSS_self rs (by omega) _ (Nat.le_refl _))
  have hheld := fun (A : Option Addr) (c : Nat) (W' : World) (hC : Kd.C kRow W' A (marksS 1 rs).length (marksS 1 rs)) (hc : (marksS 1 rs).length ≤ c) => laws_heldIntSS.calls (rs.length + allLen rs + 2) A c (marksS 1 rs) 1 _ W' hC hc (heldSS_eq rs (by omega) _ (Nat.le_refl _))
  simp only [marksS_length] at hheld
  obtain ⟨m, hme⟩ : ∃ m : Int, (1 : Int) + ((allLen rs : Nat) : Int) = m := ⟨_, rfl⟩
  have hm0 : ¬ m < 0 := by omega
  have hrb : (rb != rb) = false := by cases rb <;> rfl
  have hmss := fun (w0 W' : World) (P0 : Nat → Prop) (v : Value) (hB : Below w0.heap.size w0 W') (hS : Kd.S kRow 41 W' w0.heap.size P0 v rs) => markSS_calls w0 W' P0 v rs hB hS (by omega)
  rw [hme] at hheld hmss
  obtain ⟨q, hq⟩ : ∃ q : Int, (1 : Int) + 3 * (xs.length : Int) = q := ⟨_, rfl⟩
  have hq0 : ¬ q < 0 := by omega
  rw [hq] at hmk
  obtain ⟨z, hz⟩ : ∃ z : Int, (1048576 : Int) - (l0.length : Int) = z := ⟨_, rfl⟩
  have hz0 : ¬ z < 0 := by omega
  rw [hz] at hsz
  have HSZ := Aside0.mk hsz
  have HCT := Aside0.mk hct
  have HSP := Aside0.mk hspec
  have HIM := Aside0.mk himpl
  have HEQ := Aside0.mk heq
  have HMK := Aside0.mk hmk
  have HES := Aside0.mk heqs
  have HHE := Aside0.mk hheld
  have HMS := Aside0.mk hmss
  clear hsz hct hspec himpl heq hmk heqs hheld hmss hs hi ht he hy hxs hxl hme hq hz hr0 hb
  go_enter Try.func4, Try.ntmps4
  go_wp2_with (go_at_call 12; refine HSZ.out.mono ?_; rintro e w1 ⟨rfl, hd⟩; have B1 := Aside0.mk hd.below; clear hd)
  go_wp2_with (go_at_call 14; refine (HCT.out w1 B1.out).mono ?_; rintro e w2 ⟨v2, rfl, hR2, hb2⟩; obtain ⟨A2, c2, hv2, hc2, hC2⟩ := Kd.R_reads hR2; subst hv2; have B2 := Aside0.mk (B1.out.trans (hb2.mono B1.out.size)); have C2 := Aside0.mk hC2; clear hR2 hb2 hC2)
  go_wp2_with (go_at_call 17; refine (HSP.out A2 c2 w2 C2.out hc2).mono ?_; rintro e w3 ⟨v3, rfl, hS3, hb3⟩; obtain ⟨A3, c3, hv3, hc3, _⟩ := Kd.S_reads hS3; subst hv3; have B3 := Aside0.mk (B2.out.trans (hb3.mono B2.out.size)); have S3 := Aside0.mk hS3; clear hS3 hb3)
  go_wp2_with (go_at_call 14; refine (HCT.out w3 B3.out).mono ?_; rintro e w4 ⟨v4, rfl, hR4, hb4⟩; obtain ⟨A4, c4, hv4, hc4, hC4⟩ := Kd.R_reads hR4; subst hv4; have D4 := Aside0.mk hb4; have C4 := Aside0.mk hC4; have R4 := Aside0.mk hR4; clear hR4 hb4 hC4)
  go_wp2_with (go_at_call 18; refine (HIM.out A4 c4 w4 C4.out hc4).mono ?_; rintro e w5 ⟨v5, rfl, hS5, hb5⟩; obtain ⟨A5, c5, hv5, hc5, _⟩ := Kd.S_reads hS5; subst hv5; have D5 := Aside0.mk (D4.out.trans (hb5.mono D4.out.size)); have E5 := Aside0.mk hb5; have S5 := Aside0.mk hS5; clear hS5 hb5)
  have T3 := Aside0.mk (Kd.S_mono (Kd.S_below S3.out (D4.out.trans (E5.out.mono D4.out.size))) (fun k hk => hk))
  have hc53 : ∀ W', Below w5.heap.size w5 W' → Kd.C kRow W' A5 rs.length rs ∧ Kd.C kRow W' A3 rs.length rs := fun W' hb => ⟨(Kd.S_reads' (Kd.S_below S5.out hb)).2.2, (Kd.S_reads' (Kd.S_below T3.out hb)).2.2⟩
  have B5 := Aside0.mk (B3.out.trans (D5.out.mono B3.out.size))
  go_wp2_with (go_at_call 19; refine (HES.out A5 c5 A3 c3 w5 (hc53 w5 (Below.refl _ _)).1 hc5 (hc53 w5 (Below.refl _ _)).2 hc3).mono ?_; rintro e w6 ⟨rfl, hd⟩; have E6 := Aside0.mk hd.below; clear hd)
  go_wp2_with (go_at_call 14; refine (HCT.out w6 (B5.out.trans (E6.out.mono B5.out.size))).mono ?_; rintro e w7 ⟨v7, rfl, hR7, hb7⟩; obtain ⟨A7, c7, hv7, hc7, hC7⟩ := Kd.R_reads hR7; subst hv7; have E7 := Aside0.mk (E6.out.trans (hb7.mono E6.out.size)); have C7 := Aside0.mk hC7; clear hR7 hb7 hC7)
  have C47 : Aside0 (Kd.C k49 w7 A4 xs.length xs) := ⟨Kd.C_below C4.out (E5.out.trans (E7.out.mono E5.out.size))⟩
  go_wp2_with (go_at_call 16; refine (HEQ.out A4 c4 A7 c7 w7 C47.out hc4 C7.out hc7).mono ?_; rintro e w8 ⟨rfl, hb8⟩; have E8 := Aside0.mk (E7.out.trans (hb8.mono E7.out.size)); clear hb8)
  have R8 : Aside0 (Kd.R k49 49 w8 w3.heap.size (fun k => k < w4.heap.size) (.slice A4 xs.length c4) xs) :=
    ⟨Kd.R_below (Kd.R_mono (Kd.R_bound R4.out) (fun k hk => hk.2.2.1)) (E5.out.trans (E8.out.mono E5.out.size))⟩
  have B38 : Aside0 (Below w3.heap.size w3 w8) := ⟨D5.out.trans (E8.out.mono D5.out.size)⟩
  have S8 : Aside0 (Kd.S kRow 41 w8 w4.heap.size (fun k => w4.heap.size ≤ k) (.slice A5 rs.length c5) rs) := ⟨Kd.S_below (Kd.S_mono (Kd.S_bound S5.out) (fun k hk => hk.2.1)) E8.out⟩
  go_wp2_with (go_at_call 20; refine (HMK.out _ _ w3 w8 B38.out R8.out).mono ?_; rintro e w9 ⟨rfl, _, hb9, hk9⟩; have B39 := Aside0.mk hb9; have S9 := Aside0.mk (Kd.S_kept S8.out hk9 (fun k h1 h2 => Nat.lt_irrefl _ (Nat.lt_of_lt_of_le h2 h1))); clear hb9 hk9)
  have X39 : Aside0 (∀ W', Below w3.heap.size w3 W' → Kd.C kRow W' A3 rs.length rs) := ⟨fun W' hb => (Kd.S_reads' (Kd.S_below S3.out hb)).2.2⟩
  go_wp2_with (go_at_call 19; refine (HES.out A5 c5 A3 c3 w9 (Kd.S_reads' S9.out).2.2 hc5 (X39.out w9 B39.out) hc3).mono ?_; rintro e w10 ⟨rfl, hd⟩; have E10 := Aside0.mk hd.below; clear hd)
  have B310 : Aside0 (Below w3.heap.size w3 w10) := ⟨B39.out.trans (E10.out.mono B39.out.size)⟩
  have S10 : Aside0 (Kd.S kRow 41 w10 w3.heap.size (fun k => w4.heap.size ≤ k) (.slice A5 rs.length c5) rs) := ⟨Kd.S_lower (Kd.S_below S9.out E10.out) D4.out.size⟩
  go_wp2_with (go_at_call 21; refine (HMS.out w3 w10 _ _ B310.out S10.out).mono ?_; rintro e w11 ⟨rfl, hS11, hb11, _⟩; have B311 := Aside0.mk hb11; have S11 := Aside0.mk hS11; clear hS11 hb11)
  have Y11 : Aside0 (∀ W', Below w11.heap.size w11 W' → Kd.C kRow W' A5 rs.length (marksS 1 rs)) := ⟨fun W' hb => by have h := (Kd.S_reads' (Kd.S_below S11.out hb)).2.2; rwa [marksS_length] at h⟩
  go_wp2_with (go_at_call 22; refine (HHE.out A5 c5 w11 (Y11.out w11 (Below.refl _ _)) hc5).mono ?_; rintro e w12 ⟨rfl, hd⟩; have E12 := Aside0.mk hd.below; clear hd)
  have B312 : Aside0 (Below w3.heap.size w3 w12) := ⟨B311.out.trans (E12.out.mono B311.out.size)⟩
  go_wp2_with (go_at_call 14; refine (HCT.out w12 (B3.out.trans (B312.out.mono B3.out.size))).mono ?_; rintro e w13 ⟨v13, rfl, hR13, hb13⟩; obtain ⟨A13, c13, hv13, hc13, hC13⟩ := Kd.R_reads hR13; subst hv13; have E13 := Aside0.mk (E12.out.trans (hb13.mono E12.out.size)); have C13 := Aside0.mk hC13; clear hR13 hb13 hC13)
  go_wp2_with (go_at_call 18; refine (HIM.out A13 c13 w13 C13.out hc13).mono ?_; rintro e w14 ⟨v14, rfl, hS14, hb14⟩; obtain ⟨A14, c14, hv14, hc14, hC14⟩ := Kd.S_reads hS14; subst hv14; have E14 := Aside0.mk (E13.out.trans (hb14.mono E13.out.size)); have C14 := Aside0.mk hC14; clear hS14 hb14 hC14)
  have B314 : Aside0 (Below w3.heap.size w3 w14) := ⟨B311.out.trans (E14.out.mono B311.out.size)⟩
  go_wp2_with (go_at_call 19; refine (HES.out A14 c14 A3 c3 w14 C14.out hc14 (X39.out w14 B314.out) hc3).mono ?_; rintro e w15 ⟨rfl, hd⟩; have E15 := Aside0.mk (E14.out.trans (hd.below.mono E14.out.size)); clear hd)
  go_wp2_with (go_at_call 22; refine (HHE.out A5 c5 w15 (Y11.out w15 E15.out) hc5).mono ?_; rintro e w16 ⟨rfl, hd⟩; have E16 := Aside0.mk (E15.out.trans (hd.below.mono E15.out.size)); clear hd)
  go_ret
  exact ⟨rfl, B3.out.trans ((B311.out.trans (E16.out.mono B311.out.size)).mono B3.out.size)⟩
end Go.Proofs.Ytbmefldckdaopaa.Q

namespace Go.Proofs.Ytbmefldckdaopaa.HO
open Go.ChangeShapes Go.WideShapes Go.Deep Go.RowKit Go.Proofs.YtbmefldckdaopaaW.PrintWords
set_option linter.unusedVariables false
section
variable {H : Type} {enc : TypeId × Value → H} {P : Program} {w : World} {base : Nat} {spare : Nat → Bool} {held : Bool}

/-- A slice of structs of n whole numbers each, opened: F i j is field j of element i. -/
theorem open_ints_struct {t e : TypeId} {fs : Array Field} {fuel : Nat} {cs : List Value} {x : DataW H × List MemPlace} (ht : P.underlying t = some (.slice e)) (he : P.underlying e = some (.struct fs))
    (hone : oneCellFields P fs = true) (hC : P.cellsOf e = fs.size) (hk : ∀ (j : Nat) (f : Field), fs[j]? = some f → P.underlying f.type = some (.int .i64)) (h : DataW.trod enc P w base spare held fuel t cs = some x) :
    (cs = [.slice none 0 0] ∧ x = (.nil, [])) ∨
    ∃ (a : Addr) (len cap : Nat) (F : Nat → Nat → Int) (el sp : List (DataW H)) (ps : List MemPlace), cs = [.slice (some a) len cap] ∧ len ≤ cap ∧ cap ≤ maxLen ∧ x = (.slice el sp, ps) ∧ el.length = len ∧
      ∀ i, i < len → ∀ j, j < fs.size → w.cell? (a.add (i * fs.size + j)) = some (.int .i64 (F i j)) ∧ (Lit.int .i64 (F i j)).wf = true := by
  rcases open_slice ht h with h0 | ⟨a, len, cap, m, n, D, Pl, hcs, hb, hl, hm, hmm, hx, hi⟩
  · exact .inl h0
  · have hlm : len ≤ m := by rw [hmm]; split <;> omega
    have key : ∀ i, i < len → ∃ G : Nat → Int, ∀ j, j < fs.size → w.cell? (a.add (i * fs.size + j)) = some (.int .i64 (G j)) ∧ (Lit.int .i64 (G j)).wf = true := fun i hil => by
      obtain ⟨cs', hc, ht'⟩ := hi i (by omega)
      rw [hC] at hc
      obtain ⟨ys, n', hn', hy, hlen, hyl, hf⟩ := DataW.trod_struct he ht'
      obtain ⟨_, hcl, hat⟩ := World.cells?_some hc
      refine choose_lt (α := Int) (p := fun j v => w.cell? (a.add (i * fs.size + j)) = some (.int .i64 v) ∧ (Lit.int .i64 v).wf = true) (fun j hj => ?_)
      have hfj : fs[j]? = some fs[j] := Array.getElem?_eq_getElem hj
      obtain ⟨ho, hk1⟩ := hone_of hone j _ hfj
      have hcell := hat j hj
      have hv : cs'[j]? = some (cs'[j]'(by omega)) := List.getElem?_eq_getElem (by omega)
      have h1 := hf j _ hfj
      rw [ho, hk1] at h1
      have hone' : (cs'.drop j).take 1 = [cs'[j]'(by omega)] := by
        rw [List.drop_eq_getElem_cons (by omega)]
        rfl
      rw [hone'] at h1
      have hys : ys[j]? = some (ys[j]'(by omega)) := List.getElem?_eq_getElem (by omega)
      obtain ⟨v, e0, _, wv⟩ := DataW.trod_int (hk j _ hfj) (h1.trans hys)
      refine ⟨v, ?_, wv⟩
      rw [← Go.Deep.add_add, hcell, hv]
      simp only [List.cons.injEq, and_true] at e0
      rw [e0]
    obtain ⟨F, hF⟩ := choose_lt (α := Nat → Int) (p := fun i G => ∀ j, j < fs.size → w.cell? (a.add (i * fs.size + j)) = some (.int .i64 (G j)) ∧ (Lit.int .i64 (G j)).wf = true) key
    exact .inr ⟨a, len, cap, F, _, _, _, hcs, hl, hm, hx, by simp, hF⟩

/-- The same of an argument: the numbers, and how many at most. -/
theorem open_structs {t e : TypeId} {fs : Array Field} {a : Option Addr} {len cap : Nat} {d : DataW H} {ps : List MemPlace} {ts : List TypeId} {ds : List (DataW H)} {j : Nat}
    (hsz : (DataW.weightsEach P ts ds).all (· ≤ reachBytes) = true) (htj : ts[j]? = some t) (hdj : ds[j]? = some d) (ht : P.underlying t = some (.slice e)) (he : P.underlying e = some (.struct fs))
    (hone : oneCellFields P fs = true) (hC : P.cellsOf e = fs.size) (hk : ∀ (j : Nat) (f : Field), fs[j]? = some f → P.underlying f.type = some (.int .i64)) {B : Nat} (hB : P.bytesOf e = B)
    (h : DataW.Trod enc P w base spare held t (.slice a len cap) d ps) :
    ∃ F : Nat → Nat → Int, len ≤ cap ∧ len ≤ maxLen ∧ len * B ≤ 140737488351232 ∧ (0 < len → ∃ ad, a = some ad ∧ ∀ i, i < len → ∀ j, j < fs.size → w.cell? (ad.add (i * fs.size + j)) = some (.int .i64 (F i j))) ∧ ∀ i, i < len → ∀ j, j < fs.size → (Lit.int .i64 (F i j)).wf = true := by
  obtain ⟨fuel, hf⟩ := h
  rcases open_ints_struct ht he hone hC hk hf with ⟨hcs, _⟩ | ⟨x, l, c, F, el, sp, ps', hcs, hl, hm, hx, hel, hF⟩
  · simp [Value.cells] at hcs
    obtain ⟨rfl, rfl, rfl⟩ := hcs
    exact ⟨fun _ _ => 0, by omega, by omega, by omega, fun h => absurd h (by omega), fun i hi => absurd hi (by omega)⟩
  · simp [Value.cells] at hcs
    obtain ⟨rfl, rfl, rfl⟩ := hcs
    obtain ⟨hx, _⟩ := Prod.mk.inj hx
    subst hx
    have z := sized_slice hsz htj hdj ht
    rw [hB, hel] at z
    refine ⟨F, hl, by omega, ?_, fun _ => ⟨x, rfl, fun i hi j hj => (hF i hi j hj).1⟩, fun i hi j hj => (hF i hi j hj).2⟩
    have : reachBytes = 140737488351232 := by decide
    rw [this] at z
    exact Nat.le_trans (Nat.mul_le_mul_right _ (by omega)) z

/-- A struct of two whole numbers, by value. -/
theorem open_pair {r : Reach} {b0 : Nat} {t : TypeId} {f0 f1 : Field} {v : Value} {d : DataW H} {p : List MemPlace} (hs : P.underlying t = some (.struct #[f0, f1])) (hone : oneCellFields P #[f0, f1] = true) (hC : P.cellsOf t = 2)
    (h0 : P.underlying f0.type = some (.int .i64)) (h1 : P.underlying f1.type = some (.int .i64)) (hv : Value.okWide P w r b0 t v) (h : DataW.Trod enc P w base spare held t v d p) :
    ∃ x y : Int, v = .agg #[.int .i64 x, .int .i64 y] ∧ p = [] ∧ (Lit.int .i64 x).wf = true ∧ (Lit.int .i64 y).wf = true := by
  obtain ⟨v0, v1, y0, y1, n, rfl, rfl, rfl, g0, g1⟩ := Go.Joins.open_agg2 hs hone hC hv h
  obtain ⟨x, e0, rfl, w0⟩ := DataW.trod_int h0 g0
  obtain ⟨y, e1, rfl, w1⟩ := DataW.trod_int h1 g1
  simp only [List.cons.injEq, and_true] at e0 e1
  subst e0 e1
  exact ⟨x, y, rfl, rfl, w0, w1⟩
end
end Go.Proofs.Ytbmefldckdaopaa.HO

namespace Go.Proofs.Ytbmefldckdaopaa.fnExactOnlyBelow
open Go.ChangeShapes Go.WideShapes Go.ChangeAt Go.RowKit Go.Proofs.YtbmefldckdaopaaW Go.Proofs.YtbmefldckdaopaaW.PrintWords
open Go.ChangeMaps (open_string shut_string)
set_option linter.unusedVariables false
theorem own : ownKnob Try.prog.godebug = none := by kernel_rfl
theorem laidOut : laidOutB Try.prog = true := by kernel_rfl
theorem mk_C51 {w : World} {A : Option Addr} {n : Nat} {F : Nat → Nat → Int} (hn : n ≤ maxLen) (h : 0 < n → ∃ ad, A = some ad ∧ ∀ i, i < n → ∀ j, j < 3 → w.cell? (ad.add (i * 3 + j)) = some (.int .i64 (F i j))) (hw : ∀ i, i < n → ∀ j, j < 3 → (Lit.int .i64 (F i j)).wf = true) :
    ∃ l : List Q.S51, l.length = n ∧ Kd.C Q.k51 w A l.length l ∧ ∀ x ∈ l, (Lit.int .i64 x.f0).wf = true ∧ (Lit.int .i64 x.f1).wf = true ∧ (Lit.int .i64 x.f2).wf = true := by
  refine ⟨(List.range n).map fun i => ⟨F i 0, F i 1, F i 2⟩, by simp, ⟨rfl, by unfold maxLen at hn; simp; omega, fun h0 => ?_⟩, fun x hx => ?_⟩
  · rw [List.length_map, List.length_range] at h0
    obtain ⟨ad, ha, hc⟩ := h h0
    refine ⟨ad, ha, fun j p hj => ?_⟩
    rw [List.getElem?_map] at hj
    obtain ⟨i, hi, rfl⟩ := Option.map_eq_some_iff.1 hj
    have hji : j < n := by have := (List.getElem?_eq_some_iff.1 hi).1; simpa using this
    have hij : i = j := by rw [List.getElem?_range hji] at hi; injection hi with hi; exact hi.symm
    subst hij
    refine ⟨[.int .i64 (F i 0), .int .i64 (F i 1), .int .i64 (F i 2)], rfl, Q.k51_mk w _, fun q u hq => ?_⟩
    match q, hq with
    | 0, hq => injection hq with hq; subst hq; exact hc i hji 0 (by omega)
    | 1, hq => injection hq with hq; subst hq; exact hc i hji 1 (by omega)
    | 2, hq => injection hq with hq; subst hq; exact hc i hji 2 (by omega)
    | q + 3, hq => simp at hq
  · rw [List.mem_map] at hx
    obtain ⟨i, hi, rfl⟩ := hx
    rw [List.mem_range] at hi
    exact ⟨hw i hi 0 (by omega), hw i hi 1 (by omega), hw i hi 2 (by omega)⟩
set_option maxRecDepth 100000 in
theorem lifted (os : Os) (started : os.Started) (H : Type) (enc : TypeId × Value → H) :
    ReturnsInHanded {} Try.checked os 4 .any (Rows.fnExactOnlyBelowSpec.pre6 enc Try.prog Try.f4 Rows.fnExactOnlyBelowRow.domain false) (Rows.fnExactOnlyBelowSpec.post enc Try.prog Try.f4 false true false false) := by
  refine returnsInHanded_of_change_sized (C := Try.checked) own started (by kernel_rfl) Try.func4
    (ChangeSpec.witness6 (enc := enc) (C := Try.checked) false ⟨#[], #[.slice none 0 0], []⟩ 8 (by kernel_rfl) (by kernel_rfl) (by kernel_rfl) (by kernel_rfl)) ?_
  intro W base args ds gs before hval0 hW hcnd hsz0 _
  have hsz : (DataW.weightsEach Try.prog (Try.f4.params.toList ++ Rows.fnExactOnlyBelowSpec.plain.varTypes Try.prog) (ds ++ gs)).all (· ≤ reachBytes) = true := hsz0
  have hval : ∀ (j : Nat) t v, Try.f4.params[j]? = some t → args[j]? = some v → Value.okWide Try.prog W .any base t v := hval0
  have hW' := hW
  obtain ⟨p, q, hA0, hV, rfl, hfz, hnd⟩ := hW
  have hA : DataW.TrodAll enc Try.prog W 0 (fun _ => true) true Try.f4.params.toList args.toList ds p := hA0
  rw [Try.params4] at hA hval hsz
  obtain ⟨v0, vs0, d0, ds0, p0, q0, hargs, rfl, rfl, h0, r0⟩ := trodAll_cons hA
  obtain ⟨rfl, rfl, rfl⟩ := trodAll_nil r0
  obtain rfl : args = #[v0] := by cases args; simp_all
  obtain ⟨rfl, rfl⟩ := trodVars_none hV
  obtain ⟨a0, len0, cap0, rfl⟩ := okWide_slice Try.underlying22 (hval 0 22 v0 rfl rfl)
  have k0 := h0
  have lt0 : ∀ x ∈ p0, x.block < W.heap.size := by obtain ⟨m, hm⟩ := k0; exact DataW.trod_lt m _ _ _ hm
  obtain ⟨F0, hc0, hm0, y0, hcell0, hw0⟩ := HO.open_structs (j := 0) (t := 22) (B := 24) hsz rfl rfl Try.underlying22 Try.underlying51 (by kernel_rfl) (by kernel_rfl) (fun j f hj => by
    have hj3 : j < 3 := (Array.getElem?_eq_some_iff.1 hj).1
    match j, hj3 with
    | 0, _ => injection hj with hj; subst hj; exact Try.underlying3
    | 1, _ => injection hj with hj; subst hj; exact Try.underlying3
    | 2, _ => injection hj with hj; subst hj; exact Try.underlying3
    ) (by kernel_rfl) h0
  obtain ⟨l0, hl0, hr0, hz0⟩ := mk_C51 hm0 hcell0 hw0
  subst hl0
  clear hA0 hval0 hsz0 hsz
  refine (Q.law_calls _ _ l0 W hr0 hc0 y0).mono fun e W' ⟨he, bel⟩ => ?_
  subst he
  exact ⟨_, rfl, _, _, _, [], _, [], hW', trodAll_mk1 (shut_bool Try.underlying4 _), (trodAll_cons_mk (Below.trod laidOut (by kernel_rfl) (of_decide_eq_true (by kernel_rfl)) k0 bel lt0) trodAll_mk0), rfl, bel.frame _, fun h => by cases h⟩
theorem over : Rows.fnExactOnlyBelowRow.holds Try.pinned (OpenSpec.ofChange Rows.fnExactOnlyBelowSpec) :=
  OpenClaim.holds_of_wide 4 Try.f4 rfl rfl rfl rfl rfl rfl rfl ⟨rfl, rfl, rfl, rfl, rfl⟩ rfl rfl rfl rfl rfl (by kernel_rfl) Try.func4 (by kernel_rfl)
    (of_decide_eq_true (by kernel_rfl)) (by unfold Func.isWrapper; first | (rw [if_pos (by decide +kernel)]; kernel_rfl) | (rw [if_neg (by decide +kernel)]; exact ⟨rfl, rfl⟩))
    (fun os started H enc _ => lifted os started H enc)
theorem proved : Rows.FnExactOnlyBelowSaid := over
#print axioms proved
end Go.Proofs.Ytbmefldckdaopaa.fnExactOnlyBelow
namespace Go.Proofs.Ytbmefldckdaopaa
/-- The row, under a short name, for the claim. -/
theorem fnExactOnlyBelow_holds : Rows.FnExactOnlyBelowSaid := fnExactOnlyBelow.proved
end Go.Proofs.Ytbmefldckdaopaa
