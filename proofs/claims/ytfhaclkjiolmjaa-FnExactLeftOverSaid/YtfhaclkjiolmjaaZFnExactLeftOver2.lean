/-
  Part 2 of the proof of FnExactLeftOver: what Go functions that it reaches compute, each shown by a walk of its code, and plain laws on numbers and lists.
  CONDITIONS: each theorem's own, as stated.
-/
import Derived.Test.YtfhaclkjiolmjaaZFnExactLeftOver1
import Derived.Deep.Slices
import Derived.Deep.Fields
import Derived.ChangeSame
import Derived.SizedLaws
import Derived.ChangeSlices
import Derived.Lib.SmallJoins
import Derived.Test.YtfhaclkjiolmjaaWWords
import Derived.Deep.Matrix
import Derived.Test.YtfhaclkjiolmjaaWLast
namespace Go.Proofs.Ytfhaclkjiolmjaa.Q
open Go.RowKit Go.Proofs.YtfhaclkjiolmjaaW.PrintWords Go.Proofs.YtfhaclkjiolmjaaW.PrintLast Go.Proofs.YtfhaclkjiolmjaaW.PrintMore
attribute [local go_sem] max2_int min2_int max_two min_two max_three min_three max_four min_four   -- for this text's walks alone
set_option linter.unusedVariables false
set_option linter.unusedSimpArgs false

/-! ### spec_LeftOver: function 22 -/
mutual
def spec_LeftOver.j0 : Nat → List Int → List (List Int) → Bool → Option (List Int × Bool)
  | 0, _, _, _ => none
  | k + 1, x0, x1, x18 => if x18 = true then (some (([] : List Int), false)) else ((spec_l1Own.f x0).bind fun t218 => (spec_LeftOver.l0 k x0 t218 x1 (x1.length : Int) 0))
def spec_LeftOver.l0 : Nat → List Int → List Int → List (List Int) → Int → Int → Option (List Int × Bool)
  | 0, _, _, _, _, _ => none
  | k + 1, x0, x6, x21, x22, x23 => if x23 < x22 then (if 0 ≤ x23 then (if x23 < (x21.length : Int) then (if ((rd_L1 x21 x23).length : Int) = (x0.length : Int) then ((spec_l1All.f k (rd_L1 x21 x23) 0 6).bind fun t223 => (spec_LeftOver.j2 k x0 x6 (rd_L1 x21 x23) x21 x22 x23 (!t223))) else (spec_LeftOver.j2 k x0 x6 (rd_L1 x21 x23) x21 x22 x23 true)) else (none)) else (none)) else ((spec_l1All.f k x6 0 6).bind fun t221 => (if t221 = true then (some (x6, true)) else (some (([] : List Int), false))))
def spec_LeftOver.j2 : Nat → List Int → List Int → List Int → List (List Int) → Int → Int → Bool → Option (List Int × Bool)
  | 0, _, _, _, _, _, _, _ => none
  | k + 1, x0, x6, x8, x21, x22, x23, x36 => if x36 = true then (some (([] : List Int), false)) else (spec_LeftOver.l1 k x0 x6 x21 x22 x23 x8 (x8.length : Int) 0)
def spec_LeftOver.l1 : Nat → List Int → List Int → List (List Int) → Int → Int → List Int → Int → Int → Option (List Int × Bool)
  | 0, _, _, _, _, _, _, _, _ => none
  | k + 1, x0, x6, x21, x22, x23, x37, x38, x39 => if x39 < x38 then (if 0 ≤ x39 then (if x39 < (x37.length : Int) then (if x39 < (x6.length : Int) then (spec_LeftOver.l1 k x0 (x6.set (x39 : Int).toNat (wrap64 ((rd x6 x39) - (rd x37 x39)))) x21 x22 x23 x37 x38 (wrap64 (x39 + 1))) else (none)) else (none)) else (none)) else (spec_LeftOver.l0 k x0 x6 x21 x22 (wrap64 (x23 + 1)))
end
def spec_LeftOver.f (k : Nat) (l0 : List Int) (l1 : List (List Int)) : Option (List Int × Bool) := (spec_rdCounts.f k l0).bind fun t217 => (if t217 = true then (spec_LeftOver.j0 k l0 l1 (decide ((l1.length : Int) > 20))) else (spec_LeftOver.j0 k l0 l1 true))
theorem spec_LeftOver.mono_l : ∀ k, (∀ y0 y1 y2, LeO (spec_LeftOver.j0 k y0 y1 y2) (spec_LeftOver.j0 (k + 1) y0 y1 y2)) ∧ (∀ y0 y1 y2 y3 y4, LeO (spec_LeftOver.l0 k y0 y1 y2 y3 y4) (spec_LeftOver.l0 (k + 1) y0 y1 y2 y3 y4)) ∧ (∀ y0 y1 y2 y3 y4 y5 y6, LeO (spec_LeftOver.j2 k y0 y1 y2 y3 y4 y5 y6) (spec_LeftOver.j2 (k + 1) y0 y1 y2 y3 y4 y5 y6)) ∧ (∀ y0 y1 y2 y3 y4 y5 y6 y7, LeO (spec_LeftOver.l1 k y0 y1 y2 y3 y4 y5 y6 y7) (spec_LeftOver.l1 (k + 1) y0 y1 y2 y3 y4 y5 y6 y7))
  | 0 => ⟨fun _ _ _ r h => by simp [spec_LeftOver.j0] at h, fun _ _ _ _ _ r h => by simp [spec_LeftOver.l0] at h, fun _ _ _ _ _ _ _ r h => by simp [spec_LeftOver.j2] at h, fun _ _ _ _ _ _ _ _ r h => by simp [spec_LeftOver.l1] at h⟩
  | k + 1 => by
    obtain ⟨ih0, ih1, ih2, ih3⟩ := spec_LeftOver.mono_l k
    refine ⟨?_, ?_, ?_, ?_⟩
    · intro y0 y1 y2
      unfold spec_LeftOver.j0
      repeat' first
      | (with_reducible exact ih0 _ _ _)
      | (with_reducible exact ih1 _ _ _ _ _)
      | (with_reducible exact ih2 _ _ _ _ _ _ _)
      | (with_reducible exact ih3 _ _ _ _ _ _ _ _)
      | (with_reducible exact spec_l1All.mono _ _ _ _)
      | (with_reducible exact spec_rdCounts.mono _ _)
      | (with_reducible exact LeO.refl _)
      | (with_reducible exact LeO.none _)
      | (with_reducible refine LeO.ite ?_ ?_)
      | (with_reducible refine LeO.bind ?_ (fun _ => ?_))
      | exact ih0 _ _ _
      | exact ih1 _ _ _ _ _
      | exact ih2 _ _ _ _ _ _ _
      | exact ih3 _ _ _ _ _ _ _ _
      | exact spec_l1All.mono _ _ _ _
      | exact spec_rdCounts.mono _ _
      | exact LeO.none _
      | refine LeO.ite ?_ ?_
      | refine LeO.bind ?_ (fun _ => ?_)
    · intro y0 y1 y2 y3 y4
      unfold spec_LeftOver.l0
      repeat' first
      | (with_reducible exact ih0 _ _ _)
      | (with_reducible exact ih1 _ _ _ _ _)
      | (with_reducible exact ih2 _ _ _ _ _ _ _)
      | (with_reducible exact ih3 _ _ _ _ _ _ _ _)
      | (with_reducible exact spec_l1All.mono _ _ _ _)
      | (with_reducible exact spec_rdCounts.mono _ _)
      | (with_reducible exact LeO.refl _)
      | (with_reducible exact LeO.none _)
      | (with_reducible refine LeO.ite ?_ ?_)
      | (with_reducible refine LeO.bind ?_ (fun _ => ?_))
      | exact ih0 _ _ _
      | exact ih1 _ _ _ _ _
      | exact ih2 _ _ _ _ _ _ _
      | exact ih3 _ _ _ _ _ _ _ _
      | exact spec_l1All.mono _ _ _ _
      | exact spec_rdCounts.mono _ _
      | exact LeO.none _
      | refine LeO.ite ?_ ?_
      | refine LeO.bind ?_ (fun _ => ?_)
    · intro y0 y1 y2 y3 y4 y5 y6
      unfold spec_LeftOver.j2
      repeat' first
      | (with_reducible exact ih0 _ _ _)
      | (with_reducible exact ih1 _ _ _ _ _)
      | (with_reducible exact ih2 _ _ _ _ _ _ _)
      | (with_reducible exact ih3 _ _ _ _ _ _ _ _)
      | (with_reducible exact spec_l1All.mono _ _ _ _)
      | (with_reducible exact spec_rdCounts.mono _ _)
      | (with_reducible exact LeO.refl _)
      | (with_reducible exact LeO.none _)
      | (with_reducible refine LeO.ite ?_ ?_)
      | (with_reducible refine LeO.bind ?_ (fun _ => ?_))
      | exact ih0 _ _ _
      | exact ih1 _ _ _ _ _
      | exact ih2 _ _ _ _ _ _ _
      | exact ih3 _ _ _ _ _ _ _ _
      | exact spec_l1All.mono _ _ _ _
      | exact spec_rdCounts.mono _ _
      | exact LeO.none _
      | refine LeO.ite ?_ ?_
      | refine LeO.bind ?_ (fun _ => ?_)
    · intro y0 y1 y2 y3 y4 y5 y6 y7
      unfold spec_LeftOver.l1
      repeat' first
      | (with_reducible exact ih0 _ _ _)
      | (with_reducible exact ih1 _ _ _ _ _)
      | (with_reducible exact ih2 _ _ _ _ _ _ _)
      | (with_reducible exact ih3 _ _ _ _ _ _ _ _)
      | (with_reducible exact spec_l1All.mono _ _ _ _)
      | (with_reducible exact spec_rdCounts.mono _ _)
      | (with_reducible exact LeO.refl _)
      | (with_reducible exact LeO.none _)
      | (with_reducible refine LeO.ite ?_ ?_)
      | (with_reducible refine LeO.bind ?_ (fun _ => ?_))
      | exact ih0 _ _ _
      | exact ih1 _ _ _ _ _
      | exact ih2 _ _ _ _ _ _ _
      | exact ih3 _ _ _ _ _ _ _ _
      | exact spec_l1All.mono _ _ _ _
      | exact spec_rdCounts.mono _ _
      | exact LeO.none _
      | refine LeO.ite ?_ ?_
      | refine LeO.bind ?_ (fun _ => ?_)
theorem spec_LeftOver.mono : ∀ a0 a1 k, LeO (spec_LeftOver.f k a0 a1) (spec_LeftOver.f (k + 1) a0 a1) := by
  intro a0 a1 k
  obtain ⟨ih0, ih1, ih2, ih3⟩ := spec_LeftOver.mono_l k
  unfold spec_LeftOver.f
  repeat' first
      | (with_reducible exact ih0 _ _ _)
      | (with_reducible exact ih1 _ _ _ _ _)
      | (with_reducible exact ih2 _ _ _ _ _ _ _)
      | (with_reducible exact ih3 _ _ _ _ _ _ _ _)
      | (with_reducible exact spec_l1All.mono _ _ _ _)
      | (with_reducible exact spec_rdCounts.mono _ _)
      | (with_reducible exact LeO.refl _)
      | (with_reducible exact LeO.none _)
      | (with_reducible refine LeO.ite ?_ ?_)
      | (with_reducible refine LeO.bind ?_ (fun _ => ?_))
      | exact ih0 _ _ _
      | exact ih1 _ _ _ _ _
      | exact ih2 _ _ _ _ _ _ _
      | exact ih3 _ _ _ _ _ _ _ _
      | exact spec_l1All.mono _ _ _ _
      | exact spec_rdCounts.mono _ _
      | exact LeO.none _
      | refine LeO.ite ?_ ?_
      | refine LeO.bind ?_ (fun _ => ?_)
set_option maxHeartbeats 8000000 in
set_option maxRecDepth 100000 in
theorem spec_LeftOver.calls (k : Nat) (A0 : Option Addr) (c0 : Nat) (l0 : List Int) (A1 : Option Addr) (c1 : Nat) (l1 : List (List Int)) (r1 : List Int) (r2 : Bool) (w : World) (hr0 : Kd.C (Kd.int .i64) w A0 l0.length l0) (hc0 : l0.length ≤ c0) (hr1 : Kd.C (Kd.slice 3 (Kd.int .i64)) w A1 l1.length l1) (hc1 : l1.length ≤ c1) (h : spec_LeftOver.f k l0 l1 = some (r1, r2)) :
    Calls Try.prog 22 #[.slice A0 l0.length c0, .slice A1 l1.length c1] w fun e w' => ∃ v0_ : Value, e = .returned (.tuple #[v0_, .bool r2]) ∧ Kd.R (Kd.int .i64) 3 w' w.heap.size (fun _ => True) v0_ r1 ∧ Below w.heap.size w w' := by
  have HR0 := Aside0.mk hr0
  have HC0 := Aside0.mk hc0
  clear hr0 hc0
  have HR1 := Aside0.mk hr1
  have HC1 := Aside0.mk hc1
  clear hr1 hc1
  have HB := Aside0.mk (Below.refl w.heap.size w)
  have H : ((spec_rdCounts.f k l0).bind fun t217 => (if t217 = true then (spec_LeftOver.j0 k l0 l1 (decide ((l1.length : Int) > 20))) else (spec_LeftOver.j0 k l0 l1 true))) = some (r1, r2) := h
  clear h
  have HC3 := Aside0.mk H
  clear H
  go_enter Try.func22, Try.ntmps22
  go_upto_region 1 with (fail)
  go_cut [18] (fun v18 wc => ∃ (kq : Nat) (x18_2 : Bool), v18 = .bool x18_2 ∧ Aside0 (spec_LeftOver.j0 kq l0 l1 x18_2 = some (r1, r2)) ∧ Aside0 (kq ≤ k) ∧ Aside0 (Below w.heap.size w wc))
  case first =>
    have H := HC3.out
    clear HC3
    replace H := Option.bind_eq_some_iff.mp H
    obtain ⟨t217, A40, H⟩ := H
    replace H : (if t217 = true then (spec_LeftOver.j0 k l0 l1 (decide ((l1.length : Int) > 20))) else (spec_LeftOver.j0 k l0 l1 true)) = some (r1, r2) := H
    have A4 := Aside0.mk A40
    clear A40
    by_cases c5 : t217 = true
    · subst c5
      have H1 : (spec_LeftOver.j0 k l0 l1 (decide ((l1.length : Int) > 20))) = some (r1, r2) := by rw [if_pos rfl] at H; exact H
      clear H
      have H := H1
      clear H1
      have H' := Aside0.mk H
      clear H
      go_wp2_with (first | ((with_reducible refine gate_callee (f := 62) rfl ?_); refine goesL_ (some 12) rfl rfl Try.func62 (by kernel_rfl) rfl #[.slice A0 l0.length c0] rfl (by (try simp only [List.map_toArray, List.map_cons, List.map_nil]); first | done | rfl | (simp only [List.length_drop, List.length_take]; rfl)) ?_; (with_reducible refine (spec_rdCounts.calls k _ _ l0 true _ ?side1 ?side2 A4.out).mono ?_); (case side1 => repeat (first | exact (Kd.C_below HR0.out HB.out) | (with_reducible refine Kd.C_alloc ?_ _) | (with_reducible refine Kd.C_drewN ?_ _) | (with_reducible refine Kd.C_drew ?_))); (case side2 => exact HC0.out); rintro e w' ⟨rfl, ⟨nd, rfl⟩⟩; refine ⟨_, rfl, ?_⟩))
      go_meet
      case rel => exact ⟨_, (decide ((l1.length : Int) > 20)), (by first | rfl | (simp; done) | (simp [*]; done)), H', ⟨by first | omega | exact Nat.le_refl _⟩, ⟨by repeat (first | (with_reducible first | exact HB.out | apply below_alloc | apply pw_below_drewN | apply below_drew1) | exact HB.out)⟩⟩
    · replace c5 := Bool.eq_false_iff.mpr c5
      subst c5
      have H1 : (spec_LeftOver.j0 k l0 l1 true) = some (r1, r2) := by rw [if_neg (show ¬ (false = true) by decide)] at H; exact H
      clear H
      have H := H1
      clear H1
      have H' := Aside0.mk H
      clear H
      go_wp2_with (first | ((with_reducible refine gate_callee (f := 62) rfl ?_); refine goesL_ (some 12) rfl rfl Try.func62 (by kernel_rfl) rfl #[.slice A0 l0.length c0] rfl (by (try simp only [List.map_toArray, List.map_cons, List.map_nil]); first | done | rfl | (simp only [List.length_drop, List.length_take]; rfl)) ?_; (with_reducible refine (spec_rdCounts.calls k _ _ l0 false _ ?side1 ?side2 A4.out).mono ?_); (case side1 => repeat (first | exact (Kd.C_below HR0.out HB.out) | (with_reducible refine Kd.C_alloc ?_ _) | (with_reducible refine Kd.C_drewN ?_ _) | (with_reducible refine Kd.C_drew ?_))); (case side2 => exact HC0.out); rintro e w' ⟨rfl, ⟨nd, rfl⟩⟩; refine ⟨_, rfl, ?_⟩))
      go_meet
      case rel => exact ⟨_, (true), (by first | rfl | (simp; done) | (simp [*]; done)), H', ⟨by first | omega | exact Nat.le_refl _⟩, ⟨by repeat (first | (with_reducible first | exact HB.out | apply below_alloc | apply pw_below_drewN | apply below_drew1) | exact HB.out)⟩⟩
  case rest =>
    clear HC3
    try clear c1
    try clear c2
    try clear p2
    try clear c5
    obtain ⟨kq, x18_2, rfl, HA, HJ2, HB⟩ := hcut
    cases kq with
    | zero => exact absurd HA.out (by simp [spec_LeftOver.j0])
    | succ kj2 =>
      have H := HA.out
      clear HA
      simp only [spec_LeftOver.j0] at H
      by_cases c6 : x18_2 = true
      · subst c6
        have H1 : (some (([] : List Int), false)) = some (r1, r2) := by rw [if_pos rfl] at H; exact H
        clear H
        have H := H1
        clear H1
        simp only [Option.some.injEq, Prod.mk.injEq] at H
        obtain ⟨rfl, rfl⟩ := H
        go_wp2
        go_ret2
        exact ⟨_, by first | rfl | (simp [errW_none, errW_some] <;> rfl) | (simp [*, errW_none, errW_some] <;> rfl), by first | exact Kd.R_nil _ _ _ _ _ | exact Kd.N_nil _ _ _ _ _ | exact Kd.V_nil _ _ _ _ _ | exact Kd.Q_nil _ _ _ _ _ | exact Kd.S_nil _ _ _ _ _, by repeat (first | (with_reducible first | exact HB.out | apply below_alloc | apply pw_below_drewN | apply below_drew1) | exact HB.out)⟩
      · replace c6 := Bool.eq_false_iff.mpr c6
        subst c6
        have H1 : ((spec_l1Own.f l0).bind fun t218 => (spec_LeftOver.l0 kj2 l0 t218 l1 (l1.length : Int) 0)) = some (r1, r2) := by rw [if_neg (show ¬ (false = true) by decide)] at H; exact H
        clear H
        have H := H1
        clear H1
        replace H := Option.bind_eq_some_iff.mp H
        obtain ⟨t218, A70, H⟩ := H
        replace H : (spec_LeftOver.l0 kj2 l0 t218 l1 (l1.length : Int) 0) = some (r1, r2) := H
        have A7 := Aside0.mk A70
        clear A70
        have H' := Aside0.mk H
        clear H
        go_wp2_with (first | ((with_reducible refine gate_callee (f := 63) rfl ?_); refine goesL_ (some 20) rfl rfl Try.func63 (by kernel_rfl) rfl #[.slice A0 l0.length c0] rfl (by (try simp only [List.map_toArray, List.map_cons, List.map_nil]); first | done | rfl | (simp only [List.length_drop, List.length_take]; rfl)) ?_; (with_reducible refine (spec_l1Own.calls _ _ l0 t218 _ ?side1 ?side2 A7.out).mono ?_); (case side1 => repeat (first | exact (Kd.C_below HR0.out HB.out) | (with_reducible refine Kd.C_alloc ?_ _) | (with_reducible refine Kd.C_drewN ?_ _) | (with_reducible refine Kd.C_drew ?_))); (case side2 => exact HC0.out); rintro e w8 ⟨v219, rfl, ho0, hb⟩; refine ⟨_, rfl, ?_⟩; have n0_ := Aside0.mk (Kd.R_lower ho0 (below_size (by repeat (first | (with_reducible first | exact HB.out | apply below_alloc | apply pw_below_drewN | apply below_drew1) | exact HB.out)))); have n1_ := Aside0.mk (below_step (by repeat (first | (with_reducible first | exact HB.out | apply below_alloc | apply pw_below_drewN | apply below_drew1) | exact HB.out)) hb); clear HB; have HO220 := n0_; have HB := n1_; clear n0_ n1_; (try clear hb); (try clear hb2); (try clear hk); (try clear hi); (try clear ho0)))
        go_loopg [23] kj2 (fun kq v23 w' => ∃ (x6_2 : List Int) (x23_2 : Int), v23 = .int .i64 x23_2 ∧ Aside0 (spec_LeftOver.l0 kq l0 x6_2 l1 (l1.length : Int) x23_2 = some (r1, r2)) ∧ Aside0 (kq ≤ kj2) ∧ Aside0 (Kd.R (Kd.int .i64) 3 w' w.heap.size (fun _ => True) v219 x6_2) ∧ Aside0 (Below w.heap.size w w'))
        case atStart => exact ⟨(t218), (0), (by first | rfl | (simp; done) | (simp [*]; done)), H', ⟨Nat.le_refl _⟩, ⟨by (with_reducible repeat (first | apply Kd.R_alloc | apply Kd.R_drewN | apply Kd.R_drew)); exact HO220.out⟩, ⟨by repeat (first | (with_reducible first | exact HB.out | apply below_alloc | apply pw_below_drewN | apply below_drew1) | exact HB.out)⟩⟩
        case round =>
          clear H'
          try clear c1
          try clear c2
          try clear p2
          try clear c5
          try clear c6
          try clear p2
          obtain ⟨x6_2, x23_2, rfl, HA, HK2, HO_6, HB⟩ := hrel
          cases gk with
          | zero => exact absurd HA.out (by simp [spec_LeftOver.l0])
          | succ k2 =>
            have H := HA.out
            clear HA
            simp only [spec_LeftOver.l0] at H
            by_cases c9 : x23_2 < (l1.length : Int)
            · rw [if_pos c9] at H
              have c9b0 : decide (x23_2 < (l1.length : Int)) = true := decide_eq_true c9
              clear c9
              by_cases c10 : 0 ≤ x23_2
              · rw [if_pos c10] at H
                have c10b0 : decide (0 ≤ x23_2) = true := decide_eq_true c10
                clear c10
                by_cases c11 : x23_2 < (l1.length : Int)
                · rw [if_pos c11] at H
                  have c11b0 : decide (x23_2 < (l1.length : Int)) = true := decide_eq_true c11
                  clear c11
                  have HC12 := Aside0.mk H
                  clear H
                  have p222 : 0 ≤ (x23_2 : Int) := of_decide_eq_true (by first | (with_reducible assumption) | assumption)
                  have q222 : x23_2 < (l1.length : Int) := of_decide_eq_true (by first | (with_reducible assumption) | assumption)
                  obtain ⟨ad222, A222_0, c222_0, e222, hx222_0, hl222_0, hi222_0⟩ := at_L1 HR1.out x23_2 p222 q222
                  cases e222
                  replace hx222_0 := (HB.out.cell (World.block_lt_of_cell? w _ hx222_0)).trans hx222_0
                  have HR222_0 := Aside0.mk hi222_0
                  have HC222_0 := Aside0.mk hl222_0
                  clear hi222_0 hl222_0
                  replace p222 := eq_true p222
                  replace q222 := eq_true q222
                  go_upto_region 7 with (fail)
                  go_cut [36] (fun v36 wc => ∃ (kq : Nat) (x36_11 : Bool), v36 = .bool x36_11 ∧ Aside0 (spec_LeftOver.j2 kq l0 x6_2 (rd_L1 l1 x23_2) l1 (l1.length : Int) x23_2 x36_11 = some (r1, r2)) ∧ Aside0 (kq ≤ k2) ∧ Aside0 (Kd.R (Kd.int .i64) 3 wc w.heap.size (fun _ => True) v219 x6_2) ∧ Aside0 (Below w.heap.size w wc))
                  case first =>
                    have H := HC12.out
                    clear HC12
                    by_cases c13 : ((rd_L1 l1 x23_2).length : Int) = (l0.length : Int)
                    · rw [if_pos c13] at H
                      have c13b0 : (((rd_L1 l1 x23_2).length : Int) == (l0.length : Int)) = true := beq_iff_eq.mpr c13
                      have c13b1 : (((rd_L1 l1 x23_2).length : Int) != (l0.length : Int)) = false := bne_eq_false_iff_eq.mpr c13
                      have c13b2 : ((rd_L1 l1 x23_2).length == l0.length) = true := by first | simpa using c13 | (simp at c13 ⊢; omega)
                      clear c13
                      (first | rw [c13b0] | (simp only [i64_w, i32_w]; rw [c13b0]) | skip)
                      replace H := Option.bind_eq_some_iff.mp H
                      obtain ⟨t223, A140, H⟩ := H
                      replace H : (spec_LeftOver.j2 k2 l0 x6_2 (rd_L1 l1 x23_2) l1 (l1.length : Int) x23_2 (!t223)) = some (r1, r2) := H
                      have A14 := Aside0.mk A140
                      clear A140
                      have H' := Aside0.mk H
                      clear H
                      go_wp2_with (first | (go_at_call 64; (with_reducible refine (spec_l1All.calls k2 _ _ (rd_L1 l1 x23_2) 0 6 t223 _ ?side1 ?side2 A14.out).mono ?_); (case side1 => repeat (first | exact (Kd.C_below HR222_0.out HB.out) | (with_reducible refine Kd.C_alloc ?_ _) | (with_reducible refine Kd.C_drewN ?_ _) | (with_reducible refine Kd.C_drew ?_))); (case side2 => exact HC222_0.out); rintro e w' ⟨rfl, ⟨nd, rfl⟩⟩))
                      go_meet
                      case rel => exact ⟨_, (!t223), (by first | rfl | (simp; done) | (simp [*]; done)), H', ⟨by have := HJ2.out; have := HK2.out; first | omega | exact Nat.le_refl _⟩, ⟨by (with_reducible repeat (first | apply Kd.R_alloc | apply Kd.R_drewN | apply Kd.R_drew)); exact HO_6.out⟩, ⟨by repeat (first | (with_reducible first | exact HB.out | apply below_alloc | apply pw_below_drewN | apply below_drew1) | exact HB.out)⟩⟩
                    · rw [if_neg c13] at H
                      have c13b0 : (((rd_L1 l1 x23_2).length : Int) == (l0.length : Int)) = false := beq_eq_false_iff_ne.mpr c13
                      have c13b1 : (((rd_L1 l1 x23_2).length : Int) != (l0.length : Int)) = true := bne_iff_ne.mpr c13
                      have c13b2 : ((rd_L1 l1 x23_2).length == l0.length) = false := by first | simpa using c13 | (simp at c13 ⊢; omega)
                      (first | rw [c13b0] | (simp only [i64_w, i32_w]; rw [c13b0]) | skip)
                      have H' := Aside0.mk H
                      clear H
                      go_wp2
                      go_meet
                      case rel => exact ⟨_, (true), (by first | rfl | (simp; done) | (simp [*]; done)), H', ⟨by have := HJ2.out; have := HK2.out; first | omega | exact Nat.le_refl _⟩, ⟨by (with_reducible repeat (first | apply Kd.R_alloc | apply Kd.R_drewN | apply Kd.R_drew)); exact HO_6.out⟩, ⟨by repeat (first | (with_reducible first | exact HB.out | apply below_alloc | apply pw_below_drewN | apply below_drew1) | exact HB.out)⟩⟩
                  case rest =>
                    clear HC12
                    try clear c1
                    try clear c2
                    try clear p2
                    try clear q2
                    try clear hx2
                    try clear c5
                    try clear c6
                    try clear c9
                    try clear c9b0
                    try clear c10
                    try clear c10b0
                    try clear c11
                    try clear c11b0
                    try clear c13
                    try clear c13b0
                    try clear c13b1
                    try clear c13b2
                    try clear hx222_0
                    try clear p2
                    try clear p222
                    try clear q222
                    obtain ⟨kq, x36_11, rfl, HA, HJ11, HO_6, HB⟩ := hcut
                    cases kq with
                    | zero => exact absurd HA.out (by simp [spec_LeftOver.j2])
                    | succ kj11 =>
                      have H := HA.out
                      clear HA
                      simp only [spec_LeftOver.j2] at H
                      by_cases c15 : x36_11 = true
                      · subst c15
                        have H1 : (some (([] : List Int), false)) = some (r1, r2) := by rw [if_pos rfl] at H; exact H
                        clear H
                        have H := H1
                        clear H1
                        simp only [Option.some.injEq, Prod.mk.injEq] at H
                        obtain ⟨rfl, rfl⟩ := H
                        go_wp2
                        go_ret2
                        exact ⟨_, by first | rfl | (simp [errW_none, errW_some] <;> rfl) | (simp [*, errW_none, errW_some] <;> rfl), by first | exact Kd.R_nil _ _ _ _ _ | exact Kd.N_nil _ _ _ _ _ | exact Kd.V_nil _ _ _ _ _ | exact Kd.Q_nil _ _ _ _ _ | exact Kd.S_nil _ _ _ _ _, by repeat (first | (with_reducible first | exact HB.out | apply below_alloc | apply pw_below_drewN | apply below_drew1) | exact HB.out)⟩
                      · replace c15 := Bool.eq_false_iff.mpr c15
                        subst c15
                        have H1 : (spec_LeftOver.l1 kj11 l0 x6_2 l1 (l1.length : Int) x23_2 (rd_L1 l1 x23_2) ((rd_L1 l1 x23_2).length : Int) 0) = some (r1, r2) := by rw [if_neg (show ¬ (false = true) by decide)] at H; exact H
                        clear H
                        have H := H1
                        clear H1
                        have H' := Aside0.mk H
                        clear H
                        go_wp2
                        go_loopg [39] kj11 (fun kq v39 w' => ∃ (x6_4 : List Int) (x39_4 : Int), v39 = .int .i64 x39_4 ∧ Aside0 (spec_LeftOver.l1 kq l0 x6_4 l1 (l1.length : Int) x23_2 (rd_L1 l1 x23_2) ((rd_L1 l1 x23_2).length : Int) x39_4 = some (r1, r2)) ∧ Aside0 (kq ≤ kj11) ∧ Aside0 (Kd.R (Kd.int .i64) 3 w' w.heap.size (fun _ => True) v219 x6_4) ∧ Aside0 (Below w.heap.size w w'))
                        case atStart => exact ⟨(x6_2), (0), (by first | rfl | (simp; done) | (simp [*]; done)), H', ⟨Nat.le_refl _⟩, ⟨by (with_reducible repeat (first | apply Kd.R_alloc | apply Kd.R_drewN | apply Kd.R_drew)); exact HO_6.out⟩, ⟨by repeat (first | (with_reducible first | exact HB.out | apply below_alloc | apply pw_below_drewN | apply below_drew1) | exact HB.out)⟩⟩
                        case round =>
                          clear H'
                          try clear c1
                          try clear c2
                          try clear p2
                          try clear q2
                          try clear hx2
                          try clear c5
                          try clear c6
                          try clear c9
                          try clear c9b0
                          try clear c10
                          try clear c10b0
                          try clear c11
                          try clear c11b0
                          try clear c13
                          try clear c13b0
                          try clear c13b1
                          try clear c13b2
                          try clear c15
                          try clear hx222_0
                          try clear p2
                          try clear p222
                          try clear q2
                          try clear q222
                          obtain ⟨x6_4, x39_4, rfl, HA, HK4, HO_6, HB⟩ := hrel
                          cases gk with
                          | zero => exact absurd HA.out (by simp [spec_LeftOver.l1])
                          | succ k4 =>
                            have H := HA.out
                            clear HA
                            simp only [spec_LeftOver.l1] at H
                            by_cases c16 : x39_4 < ((rd_L1 l1 x23_2).length : Int)
                            · rw [if_pos c16] at H
                              have c16b0 : decide (x39_4 < ((rd_L1 l1 x23_2).length : Int)) = true := decide_eq_true c16
                              clear c16
                              by_cases c17 : 0 ≤ x39_4
                              · rw [if_pos c17] at H
                                have c17b0 : decide (0 ≤ x39_4) = true := decide_eq_true c17
                                clear c17
                                by_cases c18 : x39_4 < ((rd_L1 l1 x23_2).length : Int)
                                · rw [if_pos c18] at H
                                  have c18b0 : decide (x39_4 < ((rd_L1 l1 x23_2).length : Int)) = true := decide_eq_true c18
                                  clear c18
                                  by_cases c19 : x39_4 < (x6_4.length : Int)
                                  · rw [if_pos c19] at H
                                    have c19b0 : decide (x39_4 < (x6_4.length : Int)) = true := decide_eq_true c19
                                    clear c19
                                    obtain ⟨y226, hy226⟩ : ∃ y_ : List Int, y_ = (x6_4.set (x39_4 : Int).toNat (wrap64 ((rd x6_4 x39_4) - (rd (rd_L1 l1 x23_2) x39_4)))) := ⟨_, rfl⟩
                                    replace H : (spec_LeftOver.l1 k4 l0 y226 l1 (l1.length : Int) x23_2 (rd_L1 l1 x23_2) ((rd_L1 l1 x23_2).length : Int) (wrap64 (x39_4 + 1))) = some (r1, r2) := by first | (rw [hy226]; with_reducible exact H) | (have H2_ := (Option.bind_some _ _).symm.trans H; rw [hy226]; with_reducible exact H2_) | (have H2_ := (Option.bind_some _ _).symm.trans H; with_reducible exact H2_) | with_reducible exact H | (rw [hy226]; exact H) | exact H
                                    have Ny226 := Aside0.mk hy226
                                    clear hy226
                                    have H' := Aside0.mk H
                                    clear H
                                    have p224 : 0 ≤ (x39_4 : Int) := of_decide_eq_true (by first | (with_reducible assumption) | assumption)
                                    have q224 : x39_4 < ((rd_L1 l1 x23_2).length : Int) := of_decide_eq_true (by first | (with_reducible assumption) | assumption)
                                    obtain ⟨ad224, e224, hx224_0⟩ := Kd.at_int HR222_0.out x39_4 p224 q224
                                    cases e224
                                    replace hx224_0 := (HB.out.cell (World.block_lt_of_cell? w _ hx224_0)).trans hx224_0
                                    replace p224 := eq_true p224
                                    replace q224 := eq_true q224
                                    obtain ⟨Ao21, co21, eo21⟩ := Kd.R_slice HO_6.out
                                    subst eo21
                                    have p225 : 0 ≤ (x39_4 : Int) := of_decide_eq_true (by first | (with_reducible assumption) | assumption)
                                    have q225 : x39_4 < (x6_4.length : Int) := of_decide_eq_true (by first | (with_reducible assumption) | assumption)
                                    obtain ⟨ad225, e225, hx225_0⟩ := Kd.at_int (Kd.R_reads' HO_6.out).2.2 x39_4 p225 q225
                                    cases e225
                                    replace p225 := eq_true p225
                                    replace q225 := eq_true q225
                                    have p20 : 0 ≤ (x39_4 : Int) := of_decide_eq_true (by first | (with_reducible assumption) | assumption)
                                    have q20 : (x39_4 : Int) < ((x6_4.length : Int) : Int) := of_decide_eq_true (by first | (with_reducible assumption) | assumption)
                                    obtain ⟨go20, co20, eo20, gb20, gl20, cl20, HG20⟩ := Kd.R_form HO_6.out (by omega)
                                    (first | cases eo20 | (injection eo20 with ea_ en_ ec_; (first | subst ea_ | (injection ea_ with ea_; subst ea_)); subst ec_; clear en_))
                                    have GB20 := Aside0.mk gb20
                                    have GG20 := Aside0.mk HG20
                                    clear gb20 gl20 HG20
                                    (first | simp only [add_plain] at hx225_0 | skip)
                                    obtain ⟨hx20_0, hf20_0⟩ := Kd.R_celln 0 HO_6.out (x39_4 : Int) p20 q20
                                    replace p20 := eq_true p20
                                    replace q20 := eq_true q20
                                    have HP22 := Kd.R_putg HO_6.out (x39_4 : Int) (wrap64 ((rd x6_4 x39_4) - (rd (rd_L1 l1 x23_2) x39_4)))
                                    go_wp2_with (first | ((with_reducible refine gate_store (t := 3) (p := 50) rfl ?_); refine store_event (t := 3) (p := 50) (v := ?vo_w23) (w1 := (wr.setCell ⟨go20, (x39_4 : Int).toNat, none⟩ (.int .i64 (wrap64 ((rd x6_4 x39_4) - (rd (rd_L1 l1 x23_2) x39_4)))))) ?hg ?ho ?hn ?hr ?_; (case ho => rfl); (case hg => rfl); (case hn => rfl); (case hr => first | (go_simp; done) | (go_simp; rfl)); intro w23 hw; have hg : wr.grownBy w23 (some go20) := (by rw [hw]; exact HP22.2); have hp_ : Kd.R (Kd.int .i64) 3 w23 w.heap.size (fun _ => True) (.slice (some ⟨go20, 0, none⟩) x6_4.length co21) y226 := (by rw [hw, Ny226.out]; exact HP22.1); clear HP22; have n0_ := Aside0.mk (hp_); have n1_ := Aside0.mk ((by rw [hw]; exact below_set (HB.out) GB20.out : Below w.heap.size w w23)); clear HO_6; clear HB; have HO_6 := n0_; have HB := n1_; clear n0_ n1_; clear hg hw hp_))
                                    go_roundg k4
                                    case measure => have := HJ2.out; have := HK2.out; have := HJ11.out; have := HK4.out; omega
                                    case rel => exact ⟨(y226), (wrap64 (x39_4 + 1)), (by first | rfl | (simp; done) | (simp [*]; done)), H', ⟨by have := HJ2.out; have := HK2.out; have := HJ11.out; have := HK4.out; omega⟩, ⟨by (with_reducible repeat (first | apply Kd.R_alloc | apply Kd.R_drewN | apply Kd.R_drew)); exact HO_6.out⟩, ⟨by repeat (first | (with_reducible first | exact HB.out | apply below_alloc | apply pw_below_drewN | apply below_drew1) | exact HB.out)⟩⟩
                                  · rw [if_neg c19] at H
                                    exact absurd H (by simp)
                                · rw [if_neg c18] at H
                                  exact absurd H (by simp)
                              · rw [if_neg c17] at H
                                exact absurd H (by simp)
                            · rw [if_neg c16] at H
                              have c16b0 : decide (x39_4 < ((rd_L1 l1 x23_2).length : Int)) = false := decide_eq_false c16
                              clear c16
                              have H' := Aside0.mk H
                              clear H
                              go_wp2
                              go_roundg k4
                              case measure => have := HJ2.out; have := HK2.out; have := HJ11.out; have := HK4.out; omega
                              case rel => exact ⟨(x6_4), (wrap64 (x23_2 + 1)), (by first | rfl | (simp; done) | (simp [*]; done)), H', ⟨by have := HJ2.out; have := HK2.out; have := HJ11.out; have := HK4.out; omega⟩, ⟨by (with_reducible repeat (first | apply Kd.R_alloc | apply Kd.R_drewN | apply Kd.R_drew)); exact HO_6.out⟩, ⟨by repeat (first | (with_reducible first | exact HB.out | apply below_alloc | apply pw_below_drewN | apply below_drew1) | exact HB.out)⟩⟩
                · rw [if_neg c11] at H
                  exact absurd H (by simp)
              · rw [if_neg c10] at H
                exact absurd H (by simp)
            · rw [if_neg c9] at H
              have c9b0 : decide (x23_2 < (l1.length : Int)) = false := decide_eq_false c9
              clear c9
              replace H := Option.bind_eq_some_iff.mp H
              obtain ⟨t221, A240, H⟩ := H
              replace H : (if t221 = true then (some (x6_2, true)) else (some (([] : List Int), false))) = some (r1, r2) := H
              have A24 := Aside0.mk A240
              clear A240
              by_cases c25 : t221 = true
              · subst c25
                have H1 : (some (x6_2, true)) = some (r1, r2) := by rw [if_pos rfl] at H; exact H
                clear H
                have H := H1
                clear H1
                simp only [Option.some.injEq, Prod.mk.injEq] at H
                obtain ⟨rfl, rfl⟩ := H
                obtain ⟨Ao26, co26, eo26⟩ := Kd.R_slice HO_6.out
                subst eo26
                go_wp2_with (first | ((with_reducible refine gate_callee (f := 64) rfl ?_); refine goesL_ (some 54) rfl rfl Try.func64 (by kernel_rfl) rfl #[.slice Ao26 x6_2.length co26, .int .i64 0, .int .i64 6] rfl (by (try simp only [List.map_toArray, List.map_cons, List.map_nil]); first | done | rfl | (simp only [List.length_drop, List.length_take]; rfl)) ?_; (with_reducible refine (spec_l1All.calls k2 _ _ x6_2 0 6 true _ ?side1 ?side2 A24.out).mono ?_); (case side1 => repeat (first | exact (Kd.R_reads' HO_6.out).2.2 | (with_reducible refine Kd.C_alloc ?_ _) | (with_reducible refine Kd.C_drewN ?_ _) | (with_reducible refine Kd.C_drew ?_))); (case side2 => exact (Kd.R_reads' HO_6.out).2.1); rintro e w' ⟨rfl, ⟨nd, rfl⟩⟩; refine ⟨_, rfl, ?_⟩))
                go_ret2
                exact ⟨_, by first | rfl | (simp [errW_none, errW_some] <;> rfl) | (simp [*, errW_none, errW_some] <;> rfl), by (with_reducible repeat (first | apply Kd.R_alloc | apply Kd.R_drewN | apply Kd.R_drew)); exact HO_6.out, by repeat (first | (with_reducible first | exact HB.out | apply below_alloc | apply pw_below_drewN | apply below_drew1) | exact HB.out)⟩
              · replace c25 := Bool.eq_false_iff.mpr c25
                subst c25
                have H1 : (some (([] : List Int), false)) = some (r1, r2) := by rw [if_neg (show ¬ (false = true) by decide)] at H; exact H
                clear H
                have H := H1
                clear H1
                simp only [Option.some.injEq, Prod.mk.injEq] at H
                obtain ⟨rfl, rfl⟩ := H
                obtain ⟨Ao27, co27, eo27⟩ := Kd.R_slice HO_6.out
                subst eo27
                go_wp2_with (first | ((with_reducible refine gate_callee (f := 64) rfl ?_); refine goesL_ (some 54) rfl rfl Try.func64 (by kernel_rfl) rfl #[.slice Ao27 x6_2.length co27, .int .i64 0, .int .i64 6] rfl (by (try simp only [List.map_toArray, List.map_cons, List.map_nil]); first | done | rfl | (simp only [List.length_drop, List.length_take]; rfl)) ?_; (with_reducible refine (spec_l1All.calls k2 _ _ x6_2 0 6 false _ ?side1 ?side2 A24.out).mono ?_); (case side1 => repeat (first | exact (Kd.R_reads' HO_6.out).2.2 | (with_reducible refine Kd.C_alloc ?_ _) | (with_reducible refine Kd.C_drewN ?_ _) | (with_reducible refine Kd.C_drew ?_))); (case side2 => exact (Kd.R_reads' HO_6.out).2.1); rintro e w' ⟨rfl, ⟨nd, rfl⟩⟩; refine ⟨_, rfl, ?_⟩))
                go_ret2
                exact ⟨_, by first | rfl | (simp [errW_none, errW_some] <;> rfl) | (simp [*, errW_none, errW_some] <;> rfl), by first | exact Kd.R_nil _ _ _ _ _ | exact Kd.N_nil _ _ _ _ _ | exact Kd.V_nil _ _ _ _ _ | exact Kd.Q_nil _ _ _ _ _ | exact Kd.S_nil _ _ _ _ _, by repeat (first | (with_reducible first | exact HB.out | apply below_alloc | apply pw_below_drewN | apply below_drew1) | exact HB.out)⟩

end Go.Proofs.Ytfhaclkjiolmjaa.Q

namespace Go.Proofs.Ytfhaclkjiolmjaa.Q
open Go.RowKit Go.Proofs.YtfhaclkjiolmjaaW.PrintWords Go.Proofs.YtfhaclkjiolmjaaW.PrintLast Go.Proofs.YtfhaclkjiolmjaaW.PrintMore
attribute [local go_sem] max2_int min2_int max_two min_two max_three min_three max_four min_four   -- for this text's walks alone
set_option linter.unusedVariables false
set_option linter.unusedSimpArgs false

/-! ### impl_within: function 85 -/
def impl_within.f (a0 : Int) (a1 : Int) (a2 : Int) : Option (Bool) := if a1 ≤ a0 then (some (decide (a0 ≤ a2))) else (some false)
set_option maxHeartbeats 8000000 in
set_option maxRecDepth 100000 in
theorem impl_within.calls (a0 : Int) (a1 : Int) (a2 : Int) (r : Bool) (w : World) (h : impl_within.f a0 a1 a2 = some r) :
    Calls Try.prog 85 #[.int .i64 a0, .int .i64 a1, .int .i64 a2] w fun e w' => e = .returned (.bool r) ∧ Drawn0 w w' := by
  have H : (if a1 ≤ a0 then (some (decide (a0 ≤ a2))) else (some false)) = some r := h
  clear h
  by_cases c4 : a1 ≤ a0
  · rw [if_pos c4] at H
    have c4b0 : decide (a1 ≤ a0) = true := decide_eq_true c4
    clear c4
    obtain rfl := Option.some.inj H
    go_enter Try.func85, Try.ntmps85
    go_wp2
    go_ret
    exact ⟨by first | rfl | (simp; done) | (simp [*]; done), by repeat (first | exact Drawn0.refl _ | apply Drawn0.step)⟩
  · rw [if_neg c4] at H
    have c4b0 : decide (a1 ≤ a0) = false := decide_eq_false c4
    clear c4
    obtain rfl := Option.some.inj H
    go_enter Try.func85, Try.ntmps85
    go_wp2
    go_ret
    exact ⟨by first | rfl | (simp; done) | (simp [*]; done), by repeat (first | exact Drawn0.refl _ | apply Drawn0.step)⟩

end Go.Proofs.Ytfhaclkjiolmjaa.Q

namespace Go.Proofs.Ytfhaclkjiolmjaa.Q
open Go.RowKit Go.Proofs.YtfhaclkjiolmjaaW.PrintWords Go.Proofs.YtfhaclkjiolmjaaW.PrintLast Go.Proofs.YtfhaclkjiolmjaaW.PrintMore
attribute [local go_sem] max2_int min2_int max_two min_two max_three min_three max_four min_four   -- for this text's walks alone
set_option linter.unusedVariables false
set_option linter.unusedSimpArgs false

/-! ### impl_areCounts: function 65 -/
def impl_areCounts.f (l0 : List Int) : Option (Bool) := (impl_within.f (l0.length : Int) 1 4).bind fun t235 => (if t235 = true then ((impl_areWithin.f l0 0 6).bind fun t236 => (some t236)) else (some false))
set_option maxHeartbeats 8000000 in
set_option maxRecDepth 100000 in
theorem impl_areCounts.calls (A0 : Option Addr) (c0 : Nat) (l0 : List Int) (r : Bool) (w : World) (hr0 : Kd.C (Kd.int .i64) w A0 l0.length l0) (hc0 : l0.length ≤ c0) (h : impl_areCounts.f l0 = some r) :
    Calls Try.prog 65 #[.slice A0 l0.length c0] w fun e w' => e = .returned (.bool r) ∧ Below w.heap.size w w' := by
  have HR0 := Aside0.mk hr0
  have HC0 := Aside0.mk hc0
  clear hr0 hc0
  have HB := Aside0.mk (Below.refl w.heap.size w)
  have H : ((impl_within.f (l0.length : Int) 1 4).bind fun t235 => (if t235 = true then ((impl_areWithin.f l0 0 6).bind fun t236 => (some t236)) else (some false))) = some r := h
  clear h
  replace H := Option.bind_eq_some_iff.mp H
  obtain ⟨t235, A20, H⟩ := H
  replace H : (if t235 = true then ((impl_areWithin.f l0 0 6).bind fun t236 => (some t236)) else (some false)) = some r := H
  have A2 := Aside0.mk A20
  clear A20
  by_cases c3 : t235 = true
  · subst c3
    have H1 : ((impl_areWithin.f l0 0 6).bind fun t236 => (some t236)) = some r := by rw [if_pos rfl] at H; exact H
    clear H
    have H := H1
    clear H1
    replace H := Option.bind_eq_some_iff.mp H
    obtain ⟨t236, A40, H⟩ := H
    replace H : (some t236) = some r := H
    have A4 := Aside0.mk A40
    clear A40
    obtain rfl := Option.some.inj H
    go_enter Try.func65, Try.ntmps65
    go_wp2_with (first | ((with_reducible refine gate_callee (f := 85) rfl ?_); refine goesL_ (some 5) rfl rfl Try.func85 (by kernel_rfl) rfl #[.int .i64 (l0.length : Int), .int .i64 1, .int .i64 4] rfl (by (try simp only [List.map_toArray, List.map_cons, List.map_nil]); first | done | rfl | (simp only [List.length_drop, List.length_take]; rfl)) ?_; (with_reducible refine (impl_within.calls (l0.length : Int) 1 4 true _ A2.out).mono ?_); rintro e w' ⟨rfl, ⟨nd, rfl⟩⟩; refine ⟨_, rfl, ?_⟩) | (go_at_call 68; (with_reducible refine (impl_areWithin.calls _ _ l0 0 6 t236 _ ?side1 ?side2 A4.out).mono ?_); (case side1 => repeat (first | exact HR0.out | (with_reducible refine Kd.C_alloc ?_ _) | (with_reducible refine Kd.C_drewN ?_ _) | (with_reducible refine Kd.C_drew ?_))); (case side2 => exact HC0.out); rintro e w5 ⟨rfl, hb⟩; have n0_ := Aside0.mk (below_step (by repeat (first | (with_reducible first | exact HB.out | apply below_alloc | apply pw_below_drewN | apply below_drew1) | exact HB.out)) hb); clear HB; have HB := n0_; clear n0_; (try clear hb); (try clear hb2); (try clear hk); (try clear hi)))
    go_ret
    exact ⟨by first | rfl | (simp [errW_none, errW_some] <;> rfl) | (simp [*, errW_none, errW_some] <;> rfl), by repeat (first | (with_reducible first | exact HB.out | apply below_alloc | apply pw_below_drewN | apply below_drew1) | exact HB.out)⟩
  · replace c3 := Bool.eq_false_iff.mpr c3
    subst c3
    have H1 : (some false) = some r := by rw [if_neg (show ¬ (false = true) by decide)] at H; exact H
    clear H
    have H := H1
    clear H1
    obtain rfl := Option.some.inj H
    go_enter Try.func65, Try.ntmps65
    go_wp2_with (first | ((with_reducible refine gate_callee (f := 85) rfl ?_); refine goesL_ (some 5) rfl rfl Try.func85 (by kernel_rfl) rfl #[.int .i64 (l0.length : Int), .int .i64 1, .int .i64 4] rfl (by (try simp only [List.map_toArray, List.map_cons, List.map_nil]); first | done | rfl | (simp only [List.length_drop, List.length_take]; rfl)) ?_; (with_reducible refine (impl_within.calls (l0.length : Int) 1 4 false _ A2.out).mono ?_); rintro e w' ⟨rfl, ⟨nd, rfl⟩⟩; refine ⟨_, rfl, ?_⟩))
    go_ret
    exact ⟨by first | rfl | (simp [errW_none, errW_some] <;> rfl) | (simp [*, errW_none, errW_some] <;> rfl), by repeat (first | (with_reducible first | exact HB.out | apply below_alloc | apply pw_below_drewN | apply below_drew1) | exact HB.out)⟩

end Go.Proofs.Ytfhaclkjiolmjaa.Q

namespace Go.Proofs.Ytfhaclkjiolmjaa.Q
open Go.RowKit Go.Proofs.YtfhaclkjiolmjaaW.PrintWords Go.Proofs.YtfhaclkjiolmjaaW.PrintLast Go.Proofs.YtfhaclkjiolmjaaW.PrintMore
attribute [local go_sem] max2_int min2_int max_two min_two max_three min_three max_four min_four   -- for this text's walks alone
set_option linter.unusedVariables false
set_option linter.unusedSimpArgs false

/-! ### impl_minus: function 67 -/
def impl_minus.l0 : Nat → List Int → List Int → Int → Int → Option (List Int)
  | 0, _, _, _, _ => none
  | k + 1, x5, x10, x11, x12 => if x12 < x11 then (if 0 ≤ x12 then (if x12 < (x10.length : Int) then (if x12 < (x5.length : Int) then (impl_minus.l0 k (x5.set (x12 : Int).toNat (wrap64 ((rd x5 x12) - (rd x10 x12)))) x10 x11 (wrap64 (x12 + 1))) else (none)) else (none)) else (none)) else (some x5)
def impl_minus.f (k : Nat) (l0 : List Int) (l1 : List Int) : Option (List Int) := (slices_Clone_int.f l0).bind fun t237 => (impl_minus.l0 k t237 l1 (l1.length : Int) 0)
theorem impl_minus.mono_l : ∀ k, (∀ y0 y1 y2 y3, LeO (impl_minus.l0 k y0 y1 y2 y3) (impl_minus.l0 (k + 1) y0 y1 y2 y3))
  | 0 => fun _ _ _ _ r h => by simp [impl_minus.l0] at h
  | k + 1 => by
    have ih0 := impl_minus.mono_l k
    · intro y0 y1 y2 y3
      unfold impl_minus.l0
      repeat' first
      | (with_reducible exact ih0 _ _ _ _)
      | (with_reducible exact LeO.refl _)
      | (with_reducible exact LeO.none _)
      | (with_reducible refine LeO.ite ?_ ?_)
      | (with_reducible refine LeO.bind ?_ (fun _ => ?_))
      | exact ih0 _ _ _ _
      | exact LeO.none _
      | refine LeO.ite ?_ ?_
      | refine LeO.bind ?_ (fun _ => ?_)
theorem impl_minus.mono : ∀ a0 a1 k, LeO (impl_minus.f k a0 a1) (impl_minus.f (k + 1) a0 a1) := by
  intro a0 a1 k
  have ih0 := impl_minus.mono_l k
  unfold impl_minus.f
  repeat' first
      | (with_reducible exact ih0 _ _ _ _)
      | (with_reducible exact LeO.refl _)
      | (with_reducible exact LeO.none _)
      | (with_reducible refine LeO.ite ?_ ?_)
      | (with_reducible refine LeO.bind ?_ (fun _ => ?_))
      | exact ih0 _ _ _ _
      | exact LeO.none _
      | refine LeO.ite ?_ ?_
      | refine LeO.bind ?_ (fun _ => ?_)
set_option maxHeartbeats 8000000 in
set_option maxRecDepth 100000 in
theorem impl_minus.calls (k : Nat) (A0 : Option Addr) (c0 : Nat) (l0 : List Int) (A1 : Option Addr) (c1 : Nat) (l1 : List Int) (r : List Int) (w : World) (hr0 : Kd.C (Kd.int .i64) w A0 l0.length l0) (hc0 : l0.length ≤ c0) (hr1 : Kd.C (Kd.int .i64) w A1 l1.length l1) (hc1 : l1.length ≤ c1) (h : impl_minus.f k l0 l1 = some r) :
    Calls Try.prog 67 #[.slice A0 l0.length c0, .slice A1 l1.length c1] w fun e w' => ∃ v0_ : Value, e = .returned (v0_) ∧ Kd.R (Kd.int .i64) 3 w' w.heap.size (fun _ => True) v0_ r ∧ Below w.heap.size w w' := by
  have HR0 := Aside0.mk hr0
  have HC0 := Aside0.mk hc0
  clear hr0 hc0
  have HR1 := Aside0.mk hr1
  have HC1 := Aside0.mk hc1
  clear hr1 hc1
  have HB := Aside0.mk (Below.refl w.heap.size w)
  have H : ((slices_Clone_int.f l0).bind fun t237 => (impl_minus.l0 k t237 l1 (l1.length : Int) 0)) = some r := h
  clear h
  replace H := Option.bind_eq_some_iff.mp H
  obtain ⟨t237, A30, H⟩ := H
  replace H : (impl_minus.l0 k t237 l1 (l1.length : Int) 0) = some r := H
  have A3 := Aside0.mk A30
  clear A30
  have H' := Aside0.mk H
  clear H
  go_enter Try.func67, Try.ntmps67
  go_wp2_with (first | ((with_reducible refine gate_callee (f := 66) rfl ?_); refine goesL_ (some 9) rfl rfl Try.func66 (by kernel_rfl) rfl #[.slice A0 l0.length c0] rfl (by (try simp only [List.map_toArray, List.map_cons, List.map_nil]); first | done | rfl | (simp only [List.length_drop, List.length_take]; rfl)) ?_; (with_reducible refine (slices_Clone_int.calls _ _ l0 t237 _ ?side1 ?side2 A3.out).mono ?_); (case side1 => repeat (first | exact HR0.out | (with_reducible refine Kd.C_alloc ?_ _) | (with_reducible refine Kd.C_drewN ?_ _) | (with_reducible refine Kd.C_drew ?_))); (case side2 => exact HC0.out); rintro e w4 ⟨v238, rfl, ho0, hb⟩; refine ⟨_, rfl, ?_⟩; have n0_ := Aside0.mk (Kd.R_lower ho0 (below_size (by repeat (first | (with_reducible first | exact HB.out | apply below_alloc | apply pw_below_drewN | apply below_drew1) | exact HB.out)))); have n1_ := Aside0.mk (below_step (by repeat (first | (with_reducible first | exact HB.out | apply below_alloc | apply pw_below_drewN | apply below_drew1) | exact HB.out)) hb); clear HB; have HO239 := n0_; have HB := n1_; clear n0_ n1_; (try clear hb); (try clear hb2); (try clear hk); (try clear hi); (try clear ho0)))
  go_loopg [12] k (fun kq v12 w' => ∃ (x5_1 : List Int) (x12_1 : Int), v12 = .int .i64 x12_1 ∧ Aside0 (impl_minus.l0 kq x5_1 l1 (l1.length : Int) x12_1 = some r) ∧ Aside0 (kq ≤ k) ∧ Aside0 (Kd.R (Kd.int .i64) 3 w' w.heap.size (fun _ => True) v238 x5_1) ∧ Aside0 (Below w.heap.size w w'))
  case atStart => exact ⟨(t237), (0), (by first | rfl | (simp; done) | (simp [*]; done)), H', ⟨Nat.le_refl _⟩, ⟨by (with_reducible repeat (first | apply Kd.R_alloc | apply Kd.R_drewN | apply Kd.R_drew)); exact HO239.out⟩, ⟨by repeat (first | (with_reducible first | exact HB.out | apply below_alloc | apply pw_below_drewN | apply below_drew1) | exact HB.out)⟩⟩
  case round =>
    clear H'
    try clear c1
    try clear p2
    obtain ⟨x5_1, x12_1, rfl, HA, HK1, HO_5, HB⟩ := hrel
    cases gk with
    | zero => exact absurd HA.out (by simp [impl_minus.l0])
    | succ k1 =>
      have H := HA.out
      clear HA
      simp only [impl_minus.l0] at H
      by_cases c5 : x12_1 < (l1.length : Int)
      · rw [if_pos c5] at H
        have c5b0 : decide (x12_1 < (l1.length : Int)) = true := decide_eq_true c5
        clear c5
        by_cases c6 : 0 ≤ x12_1
        · rw [if_pos c6] at H
          have c6b0 : decide (0 ≤ x12_1) = true := decide_eq_true c6
          clear c6
          by_cases c7 : x12_1 < (l1.length : Int)
          · rw [if_pos c7] at H
            have c7b0 : decide (x12_1 < (l1.length : Int)) = true := decide_eq_true c7
            clear c7
            by_cases c8 : x12_1 < (x5_1.length : Int)
            · rw [if_pos c8] at H
              have c8b0 : decide (x12_1 < (x5_1.length : Int)) = true := decide_eq_true c8
              clear c8
              obtain ⟨y242, hy242⟩ : ∃ y_ : List Int, y_ = (x5_1.set (x12_1 : Int).toNat (wrap64 ((rd x5_1 x12_1) - (rd l1 x12_1)))) := ⟨_, rfl⟩
              replace H : (impl_minus.l0 k1 y242 l1 (l1.length : Int) (wrap64 (x12_1 + 1))) = some r := by first | (rw [hy242]; with_reducible exact H) | (have H2_ := (Option.bind_some _ _).symm.trans H; rw [hy242]; with_reducible exact H2_) | (have H2_ := (Option.bind_some _ _).symm.trans H; with_reducible exact H2_) | with_reducible exact H | (rw [hy242]; exact H) | exact H
              have Ny242 := Aside0.mk hy242
              clear hy242
              have H' := Aside0.mk H
              clear H
              have p240 : 0 ≤ (x12_1 : Int) := of_decide_eq_true (by first | (with_reducible assumption) | assumption)
              have q240 : x12_1 < (l1.length : Int) := of_decide_eq_true (by first | (with_reducible assumption) | assumption)
              obtain ⟨ad240, e240, hx240_0⟩ := Kd.at_int HR1.out x12_1 p240 q240
              cases e240
              replace hx240_0 := (HB.out.cell (World.block_lt_of_cell? w _ hx240_0)).trans hx240_0
              replace p240 := eq_true p240
              replace q240 := eq_true q240
              obtain ⟨Ao10, co10, eo10⟩ := Kd.R_slice HO_5.out
              subst eo10
              have p241 : 0 ≤ (x12_1 : Int) := of_decide_eq_true (by first | (with_reducible assumption) | assumption)
              have q241 : x12_1 < (x5_1.length : Int) := of_decide_eq_true (by first | (with_reducible assumption) | assumption)
              obtain ⟨ad241, e241, hx241_0⟩ := Kd.at_int (Kd.R_reads' HO_5.out).2.2 x12_1 p241 q241
              cases e241
              replace p241 := eq_true p241
              replace q241 := eq_true q241
              have p9 : 0 ≤ (x12_1 : Int) := of_decide_eq_true (by first | (with_reducible assumption) | assumption)
              have q9 : (x12_1 : Int) < ((x5_1.length : Int) : Int) := of_decide_eq_true (by first | (with_reducible assumption) | assumption)
              obtain ⟨go9, co9, eo9, gb9, gl9, cl9, HG9⟩ := Kd.R_form HO_5.out (by omega)
              (first | cases eo9 | (injection eo9 with ea_ en_ ec_; (first | subst ea_ | (injection ea_ with ea_; subst ea_)); subst ec_; clear en_))
              have GB9 := Aside0.mk gb9
              have GG9 := Aside0.mk HG9
              clear gb9 gl9 HG9
              (first | simp only [add_plain] at hx241_0 | skip)
              obtain ⟨hx9_0, hf9_0⟩ := Kd.R_celln 0 HO_5.out (x12_1 : Int) p9 q9
              replace p9 := eq_true p9
              replace q9 := eq_true q9
              have HP11 := Kd.R_putg HO_5.out (x12_1 : Int) (wrap64 ((rd x5_1 x12_1) - (rd l1 x12_1)))
              go_wp2_with (first | ((with_reducible refine gate_store (t := 3) (p := 23) rfl ?_); refine store_event (t := 3) (p := 23) (v := ?vo_w12) (w1 := (wr.setCell ⟨go9, (x12_1 : Int).toNat, none⟩ (.int .i64 (wrap64 ((rd x5_1 x12_1) - (rd l1 x12_1)))))) ?hg ?ho ?hn ?hr ?_; (case ho => rfl); (case hg => rfl); (case hn => rfl); (case hr => first | (go_simp; done) | (go_simp; rfl)); intro w12 hw; have hg : wr.grownBy w12 (some go9) := (by rw [hw]; exact HP11.2); have hp_ : Kd.R (Kd.int .i64) 3 w12 w.heap.size (fun _ => True) (.slice (some ⟨go9, 0, none⟩) x5_1.length co10) y242 := (by rw [hw, Ny242.out]; exact HP11.1); clear HP11; have n0_ := Aside0.mk (hp_); have n1_ := Aside0.mk ((by rw [hw]; exact below_set (HB.out) GB9.out : Below w.heap.size w w12)); clear HO_5; clear HB; have HO_5 := n0_; have HB := n1_; clear n0_ n1_; clear hg hw hp_))
              go_roundg k1
              case measure => have := HK1.out; omega
              case rel => exact ⟨(y242), (wrap64 (x12_1 + 1)), (by first | rfl | (simp; done) | (simp [*]; done)), H', ⟨by have := HK1.out; omega⟩, ⟨by (with_reducible repeat (first | apply Kd.R_alloc | apply Kd.R_drewN | apply Kd.R_drew)); exact HO_5.out⟩, ⟨by repeat (first | (with_reducible first | exact HB.out | apply below_alloc | apply pw_below_drewN | apply below_drew1) | exact HB.out)⟩⟩
            · rw [if_neg c8] at H
              exact absurd H (by simp)
          · rw [if_neg c7] at H
            exact absurd H (by simp)
        · rw [if_neg c6] at H
          exact absurd H (by simp)
      · rw [if_neg c5] at H
        have c5b0 : decide (x12_1 < (l1.length : Int)) = false := decide_eq_false c5
        clear c5
        obtain rfl := Option.some.inj H
        go_wp2
        go_ret
        exact ⟨_, by first | rfl | (simp [errW_none, errW_some] <;> rfl) | (simp [*, errW_none, errW_some] <;> rfl), by (with_reducible repeat (first | apply Kd.R_alloc | apply Kd.R_drewN | apply Kd.R_drew)); exact HO_5.out, by repeat (first | (with_reducible first | exact HB.out | apply below_alloc | apply pw_below_drewN | apply below_drew1) | exact HB.out)⟩

end Go.Proofs.Ytfhaclkjiolmjaa.Q

namespace Go.Proofs.Ytfhaclkjiolmjaa.Q
open Go.RowKit Go.Proofs.YtfhaclkjiolmjaaW.PrintWords Go.Proofs.YtfhaclkjiolmjaaW.PrintLast Go.Proofs.YtfhaclkjiolmjaaW.PrintMore
attribute [local go_sem] max2_int min2_int max_two min_two max_three min_three max_four min_four   -- for this text's walks alone
set_option linter.unusedVariables false
set_option linter.unusedSimpArgs false

/-! ### impl_LeftOver: function 24 -/
mutual
def impl_LeftOver.j0 : Nat → List Int → List (List Int) → Bool → Option (List Int × Bool)
  | 0, _, _, _ => none
  | k + 1, x0, x1, x16 => if x16 = true then (some (([] : List Int), false)) else ((slices_Clone_int.f x0).bind fun t244 => (impl_LeftOver.l0 k x0 t244 x1 (x1.length : Int) 0))
def impl_LeftOver.l0 : Nat → List Int → List Int → List (List Int) → Int → Int → Option (List Int × Bool)
  | 0, _, _, _, _, _ => none
  | k + 1, x0, x6, x19, x20, x21 => if x21 < x20 then (if 0 ≤ x21 then (if x21 < (x19.length : Int) then (if ((rd_L1 x19 x21).length : Int) = (x0.length : Int) then ((impl_areCounts.f (rd_L1 x19 x21)).bind fun t249 => (if t249 = true then ((impl_minus.f k x6 (rd_L1 x19 x21)).bind fun t250 => (impl_LeftOver.l0 k x0 t250 x19 x20 (wrap64 (x21 + 1)))) else (some (([] : List Int), false)))) else (some (([] : List Int), false))) else (none)) else (none)) else ((impl_areWithin.f x6 0 6).bind fun t247 => (if t247 = true then (some (x6, true)) else (some (([] : List Int), false))))
end
def impl_LeftOver.f (k : Nat) (l0 : List Int) (l1 : List (List Int)) : Option (List Int × Bool) := (impl_areCounts.f l0).bind fun t243 => (if t243 = true then (impl_LeftOver.j0 k l0 l1 (decide ((l1.length : Int) > 20))) else (impl_LeftOver.j0 k l0 l1 true))
theorem impl_LeftOver.mono_l : ∀ k, (∀ y0 y1 y2, LeO (impl_LeftOver.j0 k y0 y1 y2) (impl_LeftOver.j0 (k + 1) y0 y1 y2)) ∧ (∀ y0 y1 y2 y3 y4, LeO (impl_LeftOver.l0 k y0 y1 y2 y3 y4) (impl_LeftOver.l0 (k + 1) y0 y1 y2 y3 y4))
  | 0 => ⟨fun _ _ _ r h => by simp [impl_LeftOver.j0] at h, fun _ _ _ _ _ r h => by simp [impl_LeftOver.l0] at h⟩
  | k + 1 => by
    obtain ⟨ih0, ih1⟩ := impl_LeftOver.mono_l k
    refine ⟨?_, ?_⟩
    · intro y0 y1 y2
      unfold impl_LeftOver.j0
      repeat' first
      | (with_reducible exact ih0 _ _ _)
      | (with_reducible exact ih1 _ _ _ _ _)
      | (with_reducible exact impl_minus.mono _ _ _)
      | (with_reducible exact LeO.refl _)
      | (with_reducible exact LeO.none _)
      | (with_reducible refine LeO.ite ?_ ?_)
      | (with_reducible refine LeO.bind ?_ (fun _ => ?_))
      | exact ih0 _ _ _
      | exact ih1 _ _ _ _ _
      | exact impl_minus.mono _ _ _
      | exact LeO.none _
      | refine LeO.ite ?_ ?_
      | refine LeO.bind ?_ (fun _ => ?_)
    · intro y0 y1 y2 y3 y4
      unfold impl_LeftOver.l0
      repeat' first
      | (with_reducible exact ih0 _ _ _)
      | (with_reducible exact ih1 _ _ _ _ _)
      | (with_reducible exact impl_minus.mono _ _ _)
      | (with_reducible exact LeO.refl _)
      | (with_reducible exact LeO.none _)
      | (with_reducible refine LeO.ite ?_ ?_)
      | (with_reducible refine LeO.bind ?_ (fun _ => ?_))
      | exact ih0 _ _ _
      | exact ih1 _ _ _ _ _
      | exact impl_minus.mono _ _ _
      | exact LeO.none _
      | refine LeO.ite ?_ ?_
      | refine LeO.bind ?_ (fun _ => ?_)
theorem impl_LeftOver.mono : ∀ a0 a1 k, LeO (impl_LeftOver.f k a0 a1) (impl_LeftOver.f (k + 1) a0 a1) := by
  intro a0 a1 k
  obtain ⟨ih0, ih1⟩ := impl_LeftOver.mono_l k
  unfold impl_LeftOver.f
  repeat' first
      | (with_reducible exact ih0 _ _ _)
      | (with_reducible exact ih1 _ _ _ _ _)
      | (with_reducible exact impl_minus.mono _ _ _)
      | (with_reducible exact LeO.refl _)
      | (with_reducible exact LeO.none _)
      | (with_reducible refine LeO.ite ?_ ?_)
      | (with_reducible refine LeO.bind ?_ (fun _ => ?_))
      | exact ih0 _ _ _
      | exact ih1 _ _ _ _ _
      | exact impl_minus.mono _ _ _
      | exact LeO.none _
      | refine LeO.ite ?_ ?_
      | refine LeO.bind ?_ (fun _ => ?_)
set_option maxHeartbeats 8000000 in
set_option maxRecDepth 100000 in
theorem impl_LeftOver.calls (k : Nat) (A0 : Option Addr) (c0 : Nat) (l0 : List Int) (A1 : Option Addr) (c1 : Nat) (l1 : List (List Int)) (r1 : List Int) (r2 : Bool) (w : World) (hr0 : Kd.C (Kd.int .i64) w A0 l0.length l0) (hc0 : l0.length ≤ c0) (hr1 : Kd.C (Kd.slice 3 (Kd.int .i64)) w A1 l1.length l1) (hc1 : l1.length ≤ c1) (h : impl_LeftOver.f k l0 l1 = some (r1, r2)) :
    Calls Try.prog 24 #[.slice A0 l0.length c0, .slice A1 l1.length c1] w fun e w' => ∃ v0_ : Value, e = .returned (.tuple #[v0_, .bool r2]) ∧ Kd.R (Kd.int .i64) 3 w' w.heap.size (fun _ => True) v0_ r1 ∧ Below w.heap.size w w' := by
  have HR0 := Aside0.mk hr0
  have HC0 := Aside0.mk hc0
  clear hr0 hc0
  have HR1 := Aside0.mk hr1
  have HC1 := Aside0.mk hc1
  clear hr1 hc1
  have HB := Aside0.mk (Below.refl w.heap.size w)
  have H : ((impl_areCounts.f l0).bind fun t243 => (if t243 = true then (impl_LeftOver.j0 k l0 l1 (decide ((l1.length : Int) > 20))) else (impl_LeftOver.j0 k l0 l1 true))) = some (r1, r2) := h
  clear h
  have HC3 := Aside0.mk H
  clear H
  go_enter Try.func24, Try.ntmps24
  go_upto_region 1 with (fail)
  go_cut [16] (fun v16 wc => ∃ (kq : Nat) (x16_2 : Bool), v16 = .bool x16_2 ∧ Aside0 (impl_LeftOver.j0 kq l0 l1 x16_2 = some (r1, r2)) ∧ Aside0 (kq ≤ k) ∧ Aside0 (Below w.heap.size w wc))
  case first =>
    have H := HC3.out
    clear HC3
    replace H := Option.bind_eq_some_iff.mp H
    obtain ⟨t243, A40, H⟩ := H
    replace H : (if t243 = true then (impl_LeftOver.j0 k l0 l1 (decide ((l1.length : Int) > 20))) else (impl_LeftOver.j0 k l0 l1 true)) = some (r1, r2) := H
    have A4 := Aside0.mk A40
    clear A40
    by_cases c5 : t243 = true
    · subst c5
      have H1 : (impl_LeftOver.j0 k l0 l1 (decide ((l1.length : Int) > 20))) = some (r1, r2) := by rw [if_pos rfl] at H; exact H
      clear H
      have H := H1
      clear H1
      have H' := Aside0.mk H
      clear H
      go_wp2_with (first | ((with_reducible refine gate_callee (f := 65) rfl ?_); refine goesL_ (some 10) rfl rfl Try.func65 (by kernel_rfl) rfl #[.slice A0 l0.length c0] rfl (by (try simp only [List.map_toArray, List.map_cons, List.map_nil]); first | done | rfl | (simp only [List.length_drop, List.length_take]; rfl)) ?_; (with_reducible refine (impl_areCounts.calls _ _ l0 true _ ?side1 ?side2 A4.out).mono ?_); (case side1 => repeat (first | exact (Kd.C_below HR0.out HB.out) | (with_reducible refine Kd.C_alloc ?_ _) | (with_reducible refine Kd.C_drewN ?_ _) | (with_reducible refine Kd.C_drew ?_))); (case side2 => exact HC0.out); rintro e w6 ⟨rfl, hb⟩; refine ⟨_, rfl, ?_⟩; have n0_ := Aside0.mk (below_step (by repeat (first | (with_reducible first | exact HB.out | apply below_alloc | apply pw_below_drewN | apply below_drew1) | exact HB.out)) hb); clear HB; have HB := n0_; clear n0_; (try clear hb); (try clear hb2); (try clear hk); (try clear hi)))
      go_meet
      case rel => exact ⟨_, (decide ((l1.length : Int) > 20)), (by first | rfl | (simp; done) | (simp [*]; done)), H', ⟨by first | omega | exact Nat.le_refl _⟩, ⟨by repeat (first | (with_reducible first | exact HB.out | apply below_alloc | apply pw_below_drewN | apply below_drew1) | exact HB.out)⟩⟩
    · replace c5 := Bool.eq_false_iff.mpr c5
      subst c5
      have H1 : (impl_LeftOver.j0 k l0 l1 true) = some (r1, r2) := by rw [if_neg (show ¬ (false = true) by decide)] at H; exact H
      clear H
      have H := H1
      clear H1
      have H' := Aside0.mk H
      clear H
      go_wp2_with (first | ((with_reducible refine gate_callee (f := 65) rfl ?_); refine goesL_ (some 10) rfl rfl Try.func65 (by kernel_rfl) rfl #[.slice A0 l0.length c0] rfl (by (try simp only [List.map_toArray, List.map_cons, List.map_nil]); first | done | rfl | (simp only [List.length_drop, List.length_take]; rfl)) ?_; (with_reducible refine (impl_areCounts.calls _ _ l0 false _ ?side1 ?side2 A4.out).mono ?_); (case side1 => repeat (first | exact (Kd.C_below HR0.out HB.out) | (with_reducible refine Kd.C_alloc ?_ _) | (with_reducible refine Kd.C_drewN ?_ _) | (with_reducible refine Kd.C_drew ?_))); (case side2 => exact HC0.out); rintro e w7 ⟨rfl, hb⟩; refine ⟨_, rfl, ?_⟩; have n0_ := Aside0.mk (below_step (by repeat (first | (with_reducible first | exact HB.out | apply below_alloc | apply pw_below_drewN | apply below_drew1) | exact HB.out)) hb); clear HB; have HB := n0_; clear n0_; (try clear hb); (try clear hb2); (try clear hk); (try clear hi)))
      go_meet
      case rel => exact ⟨_, (true), (by first | rfl | (simp; done) | (simp [*]; done)), H', ⟨by first | omega | exact Nat.le_refl _⟩, ⟨by repeat (first | (with_reducible first | exact HB.out | apply below_alloc | apply pw_below_drewN | apply below_drew1) | exact HB.out)⟩⟩
  case rest =>
    clear HC3
    try clear c1
    try clear c2
    try clear p2
    try clear c5
    try clear c6
    obtain ⟨kq, x16_2, rfl, HA, HJ2, HB⟩ := hcut
    cases kq with
    | zero => exact absurd HA.out (by simp [impl_LeftOver.j0])
    | succ kj2 =>
      have H := HA.out
      clear HA
      simp only [impl_LeftOver.j0] at H
      by_cases c8 : x16_2 = true
      · subst c8
        have H1 : (some (([] : List Int), false)) = some (r1, r2) := by rw [if_pos rfl] at H; exact H
        clear H
        have H := H1
        clear H1
        simp only [Option.some.injEq, Prod.mk.injEq] at H
        obtain ⟨rfl, rfl⟩ := H
        go_wp2
        go_ret2
        exact ⟨_, by first | rfl | (simp [errW_none, errW_some] <;> rfl) | (simp [*, errW_none, errW_some] <;> rfl), by first | exact Kd.R_nil _ _ _ _ _ | exact Kd.N_nil _ _ _ _ _ | exact Kd.V_nil _ _ _ _ _ | exact Kd.Q_nil _ _ _ _ _ | exact Kd.S_nil _ _ _ _ _, by repeat (first | (with_reducible first | exact HB.out | apply below_alloc | apply pw_below_drewN | apply below_drew1) | exact HB.out)⟩
      · replace c8 := Bool.eq_false_iff.mpr c8
        subst c8
        have H1 : ((slices_Clone_int.f l0).bind fun t244 => (impl_LeftOver.l0 kj2 l0 t244 l1 (l1.length : Int) 0)) = some (r1, r2) := by rw [if_neg (show ¬ (false = true) by decide)] at H; exact H
        clear H
        have H := H1
        clear H1
        replace H := Option.bind_eq_some_iff.mp H
        obtain ⟨t244, A90, H⟩ := H
        replace H : (impl_LeftOver.l0 kj2 l0 t244 l1 (l1.length : Int) 0) = some (r1, r2) := H
        have A9 := Aside0.mk A90
        clear A90
        have H' := Aside0.mk H
        clear H
        go_wp2_with (first | ((with_reducible refine gate_callee (f := 66) rfl ?_); refine goesL_ (some 18) rfl rfl Try.func66 (by kernel_rfl) rfl #[.slice A0 l0.length c0] rfl (by (try simp only [List.map_toArray, List.map_cons, List.map_nil]); first | done | rfl | (simp only [List.length_drop, List.length_take]; rfl)) ?_; (with_reducible refine (slices_Clone_int.calls _ _ l0 t244 _ ?side1 ?side2 A9.out).mono ?_); (case side1 => repeat (first | exact (Kd.C_below HR0.out HB.out) | (with_reducible refine Kd.C_alloc ?_ _) | (with_reducible refine Kd.C_drewN ?_ _) | (with_reducible refine Kd.C_drew ?_))); (case side2 => exact HC0.out); rintro e w10 ⟨v245, rfl, ho0, hb⟩; refine ⟨_, rfl, ?_⟩; have n0_ := Aside0.mk (Kd.R_lower ho0 (below_size (by repeat (first | (with_reducible first | exact HB.out | apply below_alloc | apply pw_below_drewN | apply below_drew1) | exact HB.out)))); have n1_ := Aside0.mk (below_step (by repeat (first | (with_reducible first | exact HB.out | apply below_alloc | apply pw_below_drewN | apply below_drew1) | exact HB.out)) hb); clear HB; have HO246 := n0_; have HB := n1_; clear n0_ n1_; (try clear hb); (try clear hb2); (try clear hk); (try clear hi); (try clear ho0)))
        go_loopg [6, 21] kj2 (fun kq v6 v21 w' => ∃ (x6_2 : List Int) (x21_2 : Int), v21 = .int .i64 x21_2 ∧ Aside0 (impl_LeftOver.l0 kq l0 x6_2 l1 (l1.length : Int) x21_2 = some (r1, r2)) ∧ Aside0 (kq ≤ kj2) ∧ Aside0 (Kd.R (Kd.int .i64) 3 w' w.heap.size (fun _ => True) v6 x6_2) ∧ Aside0 (Below w.heap.size w w'))
        case atStart => exact ⟨(t244), (0), (by first | rfl | (simp; done) | (simp [*]; done)), H', ⟨Nat.le_refl _⟩, ⟨by (with_reducible repeat (first | apply Kd.R_alloc | apply Kd.R_drewN | apply Kd.R_drew)); exact HO246.out⟩, ⟨by repeat (first | (with_reducible first | exact HB.out | apply below_alloc | apply pw_below_drewN | apply below_drew1) | exact HB.out)⟩⟩
        case round =>
          clear H'
          try clear c1
          try clear c2
          try clear p2
          try clear c5
          try clear c6
          try clear c8
          try clear p2
          obtain ⟨x6_2, x21_2, rfl, HA, HK2, HO_6, HB⟩ := hrel
          cases gk with
          | zero => exact absurd HA.out (by simp [impl_LeftOver.l0])
          | succ k2 =>
            have H := HA.out
            clear HA
            simp only [impl_LeftOver.l0] at H
            by_cases c11 : x21_2 < (l1.length : Int)
            · rw [if_pos c11] at H
              have c11b0 : decide (x21_2 < (l1.length : Int)) = true := decide_eq_true c11
              clear c11
              by_cases c12 : 0 ≤ x21_2
              · rw [if_pos c12] at H
                have c12b0 : decide (0 ≤ x21_2) = true := decide_eq_true c12
                clear c12
                by_cases c13 : x21_2 < (l1.length : Int)
                · rw [if_pos c13] at H
                  have c13b0 : decide (x21_2 < (l1.length : Int)) = true := decide_eq_true c13
                  clear c13
                  by_cases c14 : ((rd_L1 l1 x21_2).length : Int) = (l0.length : Int)
                  · rw [if_pos c14] at H
                    have c14b0 : (((rd_L1 l1 x21_2).length : Int) == (l0.length : Int)) = true := beq_iff_eq.mpr c14
                    have c14b1 : (((rd_L1 l1 x21_2).length : Int) != (l0.length : Int)) = false := bne_eq_false_iff_eq.mpr c14
                    have c14b2 : ((rd_L1 l1 x21_2).length == l0.length) = true := by first | simpa using c14 | (simp at c14 ⊢; omega)
                    clear c14
                    replace H := Option.bind_eq_some_iff.mp H
                    obtain ⟨t249, A150, H⟩ := H
                    replace H : (if t249 = true then ((impl_minus.f k2 x6_2 (rd_L1 l1 x21_2)).bind fun t250 => (impl_LeftOver.l0 k2 l0 t250 l1 (l1.length : Int) (wrap64 (x21_2 + 1)))) else (some (([] : List Int), false))) = some (r1, r2) := H
                    have A15 := Aside0.mk A150
                    clear A150
                    by_cases c16 : t249 = true
                    · subst c16
                      have H1 : ((impl_minus.f k2 x6_2 (rd_L1 l1 x21_2)).bind fun t250 => (impl_LeftOver.l0 k2 l0 t250 l1 (l1.length : Int) (wrap64 (x21_2 + 1)))) = some (r1, r2) := by rw [if_pos rfl] at H; exact H
                      clear H
                      have H := H1
                      clear H1
                      replace H := Option.bind_eq_some_iff.mp H
                      obtain ⟨t250, A170, H⟩ := H
                      replace H : (impl_LeftOver.l0 k2 l0 t250 l1 (l1.length : Int) (wrap64 (x21_2 + 1))) = some (r1, r2) := H
                      have A17 := Aside0.mk A170
                      clear A170
                      have H' := Aside0.mk H
                      clear H
                      have p248 : 0 ≤ (x21_2 : Int) := of_decide_eq_true (by first | (with_reducible assumption) | assumption)
                      have q248 : x21_2 < (l1.length : Int) := of_decide_eq_true (by first | (with_reducible assumption) | assumption)
                      obtain ⟨ad248, A248_0, c248_0, e248, hx248_0, hl248_0, hi248_0⟩ := at_L1 HR1.out x21_2 p248 q248
                      cases e248
                      replace hx248_0 := (HB.out.cell (World.block_lt_of_cell? w _ hx248_0)).trans hx248_0
                      have HR248_0 := Aside0.mk hi248_0
                      have HC248_0 := Aside0.mk hl248_0
                      clear hi248_0 hl248_0
                      replace p248 := eq_true p248
                      replace q248 := eq_true q248
                      go_wp2_with (first | (go_at_call 65; (with_reducible refine (impl_areCounts.calls _ _ (rd_L1 l1 x21_2) true _ ?side1 ?side2 A15.out).mono ?_); (case side1 => repeat (first | exact (Kd.C_below HR248_0.out HB.out) | (with_reducible refine Kd.C_alloc ?_ _) | (with_reducible refine Kd.C_drewN ?_ _) | (with_reducible refine Kd.C_drew ?_))); (case side2 => exact HC248_0.out); rintro e w18 ⟨rfl, hb⟩; have n0_ := Aside0.mk (Kd.R_below (by (with_reducible repeat (first | apply Kd.R_alloc | apply Kd.R_drewN | apply Kd.R_drew)); exact HO_6.out) hb); have n1_ := Aside0.mk (below_step (by repeat (first | (with_reducible first | exact HB.out | apply below_alloc | apply pw_below_drewN | apply below_drew1) | exact HB.out)) hb); clear HO_6; clear HB; have HO_6 := n0_; have HB := n1_; clear n0_ n1_; (try clear hb); (try clear hb2); (try clear hk); (try clear hi); obtain ⟨Ao19, co19, eo19⟩ := Kd.R_slice HO_6.out; subst eo19) | ((with_reducible refine gate_callee (f := 67) rfl ?_); refine goesL_ (some 37) rfl rfl Try.func67 (by kernel_rfl) rfl #[.slice Ao19 x6_2.length co19, .slice A248_0 (rd_L1 l1 x21_2).length c248_0] rfl (by (try simp only [List.map_toArray, List.map_cons, List.map_nil]); first | done | rfl | (simp only [List.length_drop, List.length_take]; rfl)) ?_; (with_reducible refine (impl_minus.calls k2 _ _ x6_2 _ _ (rd_L1 l1 x21_2) t250 _ ?side1 ?side2 ?side3 ?side4 A17.out).mono ?_); (case side1 => repeat (first | exact (Kd.R_reads' HO_6.out).2.2 | (with_reducible refine Kd.C_alloc ?_ _) | (with_reducible refine Kd.C_drewN ?_ _) | (with_reducible refine Kd.C_drew ?_))); (case side2 => exact (Kd.R_reads' HO_6.out).2.1); (case side3 => repeat (first | exact (Kd.C_below HR248_0.out HB.out) | (with_reducible refine Kd.C_alloc ?_ _) | (with_reducible refine Kd.C_drewN ?_ _) | (with_reducible refine Kd.C_drew ?_))); (case side4 => exact HC248_0.out); rintro e w20 ⟨v251, rfl, ho0, hb⟩; refine ⟨_, rfl, ?_⟩; have n0_ := Aside0.mk (Kd.R_elder' (by (with_reducible repeat (first | apply Kd.R_alloc | apply Kd.R_drewN | apply Kd.R_drew)); exact HO_6.out) (Kd.R_base ho0) hb); have n1_ := Aside0.mk (Kd.R_lower (Kd.R_new' ho0 (Kd.R_lt (by (with_reducible repeat (first | apply Kd.R_alloc | apply Kd.R_drewN | apply Kd.R_drew)); exact HO_6.out))) (below_size (by repeat (first | (with_reducible first | exact HB.out | apply below_alloc | apply pw_below_drewN | apply below_drew1) | exact HB.out)))); have n2_ := Aside0.mk (below_step (by repeat (first | (with_reducible first | exact HB.out | apply below_alloc | apply pw_below_drewN | apply below_drew1) | exact HB.out)) hb); clear HO_6; clear HB; have HO_6 := n0_; have HO252 := n1_; have HB := n2_; clear n0_ n1_ n2_; (try clear hb); (try clear hb2); (try clear hk); (try clear hi); (try clear ho0)))
                      go_roundg k2
                      case measure => have := HJ2.out; have := HK2.out; omega
                      case rel => exact ⟨(t250), (wrap64 (x21_2 + 1)), (by first | rfl | (simp; done) | (simp [*]; done)), H', ⟨by have := HJ2.out; have := HK2.out; omega⟩, ⟨by (with_reducible repeat (first | apply Kd.R_alloc | apply Kd.R_drewN | apply Kd.R_drew)); exact Kd.R_mono HO252.out (fun _ hk => trivial)⟩, ⟨by repeat (first | (with_reducible first | exact HB.out | apply below_alloc | apply pw_below_drewN | apply below_drew1) | exact HB.out)⟩⟩
                    · replace c16 := Bool.eq_false_iff.mpr c16
                      subst c16
                      have H1 : (some (([] : List Int), false)) = some (r1, r2) := by rw [if_neg (show ¬ (false = true) by decide)] at H; exact H
                      clear H
                      have H := H1
                      clear H1
                      simp only [Option.some.injEq, Prod.mk.injEq] at H
                      obtain ⟨rfl, rfl⟩ := H
                      have p248 : 0 ≤ (x21_2 : Int) := of_decide_eq_true (by first | (with_reducible assumption) | assumption)
                      have q248 : x21_2 < (l1.length : Int) := of_decide_eq_true (by first | (with_reducible assumption) | assumption)
                      obtain ⟨ad248, A248_0, c248_0, e248, hx248_0, hl248_0, hi248_0⟩ := at_L1 HR1.out x21_2 p248 q248
                      cases e248
                      replace hx248_0 := (HB.out.cell (World.block_lt_of_cell? w _ hx248_0)).trans hx248_0
                      have HR248_0 := Aside0.mk hi248_0
                      have HC248_0 := Aside0.mk hl248_0
                      clear hi248_0 hl248_0
                      replace p248 := eq_true p248
                      replace q248 := eq_true q248
                      go_wp2_with (first | (go_at_call 65; (with_reducible refine (impl_areCounts.calls _ _ (rd_L1 l1 x21_2) false _ ?side1 ?side2 A15.out).mono ?_); (case side1 => repeat (first | exact (Kd.C_below HR248_0.out HB.out) | (with_reducible refine Kd.C_alloc ?_ _) | (with_reducible refine Kd.C_drewN ?_ _) | (with_reducible refine Kd.C_drew ?_))); (case side2 => exact HC248_0.out); rintro e w21 ⟨rfl, hb⟩; have n0_ := Aside0.mk (Kd.R_below (by (with_reducible repeat (first | apply Kd.R_alloc | apply Kd.R_drewN | apply Kd.R_drew)); exact HO_6.out) hb); have n1_ := Aside0.mk (below_step (by repeat (first | (with_reducible first | exact HB.out | apply below_alloc | apply pw_below_drewN | apply below_drew1) | exact HB.out)) hb); clear HO_6; clear HB; have HO_6 := n0_; have HB := n1_; clear n0_ n1_; (try clear hb); (try clear hb2); (try clear hk); (try clear hi)))
                      go_ret2
                      exact ⟨_, by first | rfl | (simp [errW_none, errW_some] <;> rfl) | (simp [*, errW_none, errW_some] <;> rfl), by first | exact Kd.R_nil _ _ _ _ _ | exact Kd.N_nil _ _ _ _ _ | exact Kd.V_nil _ _ _ _ _ | exact Kd.Q_nil _ _ _ _ _ | exact Kd.S_nil _ _ _ _ _, by repeat (first | (with_reducible first | exact HB.out | apply below_alloc | apply pw_below_drewN | apply below_drew1) | exact HB.out)⟩
                  · rw [if_neg c14] at H
                    have c14b0 : (((rd_L1 l1 x21_2).length : Int) == (l0.length : Int)) = false := beq_eq_false_iff_ne.mpr c14
                    have c14b1 : (((rd_L1 l1 x21_2).length : Int) != (l0.length : Int)) = true := bne_iff_ne.mpr c14
                    have c14b2 : ((rd_L1 l1 x21_2).length == l0.length) = false := by first | simpa using c14 | (simp at c14 ⊢; omega)
                    simp only [Option.some.injEq, Prod.mk.injEq] at H
                    obtain ⟨rfl, rfl⟩ := H
                    have p248 : 0 ≤ (x21_2 : Int) := of_decide_eq_true (by first | (with_reducible assumption) | assumption)
                    have q248 : x21_2 < (l1.length : Int) := of_decide_eq_true (by first | (with_reducible assumption) | assumption)
                    obtain ⟨ad248, A248_0, c248_0, e248, hx248_0, hl248_0, hi248_0⟩ := at_L1 HR1.out x21_2 p248 q248
                    cases e248
                    replace hx248_0 := (HB.out.cell (World.block_lt_of_cell? w _ hx248_0)).trans hx248_0
                    have HR248_0 := Aside0.mk hi248_0
                    have HC248_0 := Aside0.mk hl248_0
                    clear hi248_0 hl248_0
                    replace p248 := eq_true p248
                    replace q248 := eq_true q248
                    go_wp2
                    go_ret2
                    exact ⟨_, by first | rfl | (simp [errW_none, errW_some] <;> rfl) | (simp [*, errW_none, errW_some] <;> rfl), by first | exact Kd.R_nil _ _ _ _ _ | exact Kd.N_nil _ _ _ _ _ | exact Kd.V_nil _ _ _ _ _ | exact Kd.Q_nil _ _ _ _ _ | exact Kd.S_nil _ _ _ _ _, by repeat (first | (with_reducible first | exact HB.out | apply below_alloc | apply pw_below_drewN | apply below_drew1) | exact HB.out)⟩
                · rw [if_neg c13] at H
                  exact absurd H (by simp)
              · rw [if_neg c12] at H
                exact absurd H (by simp)
            · rw [if_neg c11] at H
              have c11b0 : decide (x21_2 < (l1.length : Int)) = false := decide_eq_false c11
              clear c11
              replace H := Option.bind_eq_some_iff.mp H
              obtain ⟨t247, A220, H⟩ := H
              replace H : (if t247 = true then (some (x6_2, true)) else (some (([] : List Int), false))) = some (r1, r2) := H
              have A22 := Aside0.mk A220
              clear A220
              by_cases c23 : t247 = true
              · subst c23
                have H1 : (some (x6_2, true)) = some (r1, r2) := by rw [if_pos rfl] at H; exact H
                clear H
                have H := H1
                clear H1
                simp only [Option.some.injEq, Prod.mk.injEq] at H
                obtain ⟨rfl, rfl⟩ := H
                obtain ⟨Ao24, co24, eo24⟩ := Kd.R_slice HO_6.out
                subst eo24
                go_wp2_with (first | ((with_reducible refine gate_callee (f := 68) rfl ?_); refine goesL_ (some 40) rfl rfl Try.func68 (by kernel_rfl) rfl #[.slice Ao24 x6_2.length co24, .int .i64 0, .int .i64 6] rfl (by (try simp only [List.map_toArray, List.map_cons, List.map_nil]); first | done | rfl | (simp only [List.length_drop, List.length_take]; rfl)) ?_; (with_reducible refine (impl_areWithin.calls _ _ x6_2 0 6 true _ ?side1 ?side2 A22.out).mono ?_); (case side1 => repeat (first | exact (Kd.R_reads' HO_6.out).2.2 | (with_reducible refine Kd.C_alloc ?_ _) | (with_reducible refine Kd.C_drewN ?_ _) | (with_reducible refine Kd.C_drew ?_))); (case side2 => exact (Kd.R_reads' HO_6.out).2.1); rintro e w25 ⟨rfl, hb⟩; refine ⟨_, rfl, ?_⟩; have n0_ := Aside0.mk (Kd.R_below (by (with_reducible repeat (first | apply Kd.R_alloc | apply Kd.R_drewN | apply Kd.R_drew)); exact HO_6.out) hb); have n1_ := Aside0.mk (below_step (by repeat (first | (with_reducible first | exact HB.out | apply below_alloc | apply pw_below_drewN | apply below_drew1) | exact HB.out)) hb); clear HO_6; clear HB; have HO_6 := n0_; have HB := n1_; clear n0_ n1_; (try clear hb); (try clear hb2); (try clear hk); (try clear hi)))
                go_ret2
                exact ⟨_, by first | rfl | (simp [errW_none, errW_some] <;> rfl) | (simp [*, errW_none, errW_some] <;> rfl), by (with_reducible repeat (first | apply Kd.R_alloc | apply Kd.R_drewN | apply Kd.R_drew)); exact HO_6.out, by repeat (first | (with_reducible first | exact HB.out | apply below_alloc | apply pw_below_drewN | apply below_drew1) | exact HB.out)⟩
              · replace c23 := Bool.eq_false_iff.mpr c23
                subst c23
                have H1 : (some (([] : List Int), false)) = some (r1, r2) := by rw [if_neg (show ¬ (false = true) by decide)] at H; exact H
                clear H
                have H := H1
                clear H1
                simp only [Option.some.injEq, Prod.mk.injEq] at H
                obtain ⟨rfl, rfl⟩ := H
                obtain ⟨Ao26, co26, eo26⟩ := Kd.R_slice HO_6.out
                subst eo26
                go_wp2_with (first | ((with_reducible refine gate_callee (f := 68) rfl ?_); refine goesL_ (some 40) rfl rfl Try.func68 (by kernel_rfl) rfl #[.slice Ao26 x6_2.length co26, .int .i64 0, .int .i64 6] rfl (by (try simp only [List.map_toArray, List.map_cons, List.map_nil]); first | done | rfl | (simp only [List.length_drop, List.length_take]; rfl)) ?_; (with_reducible refine (impl_areWithin.calls _ _ x6_2 0 6 false _ ?side1 ?side2 A22.out).mono ?_); (case side1 => repeat (first | exact (Kd.R_reads' HO_6.out).2.2 | (with_reducible refine Kd.C_alloc ?_ _) | (with_reducible refine Kd.C_drewN ?_ _) | (with_reducible refine Kd.C_drew ?_))); (case side2 => exact (Kd.R_reads' HO_6.out).2.1); rintro e w27 ⟨rfl, hb⟩; refine ⟨_, rfl, ?_⟩; have n0_ := Aside0.mk (Kd.R_below (by (with_reducible repeat (first | apply Kd.R_alloc | apply Kd.R_drewN | apply Kd.R_drew)); exact HO_6.out) hb); have n1_ := Aside0.mk (below_step (by repeat (first | (with_reducible first | exact HB.out | apply below_alloc | apply pw_below_drewN | apply below_drew1) | exact HB.out)) hb); clear HO_6; clear HB; have HO_6 := n0_; have HB := n1_; clear n0_ n1_; (try clear hb); (try clear hb2); (try clear hk); (try clear hi)))
                go_ret2
                exact ⟨_, by first | rfl | (simp [errW_none, errW_some] <;> rfl) | (simp [*, errW_none, errW_some] <;> rfl), by first | exact Kd.R_nil _ _ _ _ _ | exact Kd.N_nil _ _ _ _ _ | exact Kd.V_nil _ _ _ _ _ | exact Kd.Q_nil _ _ _ _ _ | exact Kd.S_nil _ _ _ _ _, by repeat (first | (with_reducible first | exact HB.out | apply below_alloc | apply pw_below_drewN | apply below_drew1) | exact HB.out)⟩

end Go.Proofs.Ytfhaclkjiolmjaa.Q

namespace Go.Proofs.Ytfhaclkjiolmjaa.Q
open Go.RowKit Go.Proofs.YtfhaclkjiolmjaaW.PrintWords Go.Proofs.YtfhaclkjiolmjaaW.PrintLast Go.Proofs.YtfhaclkjiolmjaaW.PrintMore
attribute [local go_sem] max2_int min2_int max_two min_two max_three min_three max_four min_four   -- for this text's walks alone
set_option linter.unusedVariables false
set_option linter.unusedSimpArgs false

/-! ### laws_szIntS: function 61 -/
def laws_szIntS.f (l0 : List Int) (a1 : Int) : Option (Int) := if (wrap64 (a1 - (l0.length : Int))) < 0 then (some (-1)) else (some (wrap64 (a1 - (l0.length : Int))))
set_option maxHeartbeats 8000000 in
set_option maxRecDepth 100000 in
theorem laws_szIntS.calls (A0 : Option Addr) (c0 : Nat) (l0 : List Int) (a1 : Int) (r : Int) (w : World) (hr0 : Kd.C (Kd.int .i64) w A0 l0.length l0) (hc0 : l0.length ≤ c0) (h : laws_szIntS.f l0 a1 = some r) :
    Calls Try.prog 61 #[.slice A0 l0.length c0, .int .i64 a1] w fun e w' => e = .returned (.int .i64 r) ∧ Drawn0 w w' := by
  have HR0 := Aside0.mk hr0
  have HC0 := Aside0.mk hc0
  clear hr0 hc0
  have H : (if (wrap64 (a1 - (l0.length : Int))) < 0 then (some (-1)) else (some (wrap64 (a1 - (l0.length : Int))))) = some r := h
  clear h
  by_cases c3 : (wrap64 (a1 - (l0.length : Int))) < 0
  · rw [if_pos c3] at H
    have c3b0 : decide ((wrap64 (a1 - (l0.length : Int))) < 0) = true := decide_eq_true c3
    clear c3
    obtain rfl := Option.some.inj H
    go_enter Try.func61, Try.ntmps61
    go_wp2
    go_ret
    exact ⟨by first | rfl | (simp; done) | (simp [*]; done), by repeat (first | exact Drawn0.refl _ | apply Drawn0.step)⟩
  · rw [if_neg c3] at H
    have c3b0 : decide ((wrap64 (a1 - (l0.length : Int))) < 0) = false := decide_eq_false c3
    clear c3
    obtain rfl := Option.some.inj H
    go_enter Try.func61, Try.ntmps61
    go_wp2
    go_ret
    exact ⟨by first | rfl | (simp; done) | (simp [*]; done), by repeat (first | exact Drawn0.refl _ | apply Drawn0.step)⟩

end Go.Proofs.Ytfhaclkjiolmjaa.Q

namespace Go.Proofs.Ytfhaclkjiolmjaa.Q
open Go.RowKit Go.Proofs.YtfhaclkjiolmjaaW.PrintWords Go.Proofs.YtfhaclkjiolmjaaW.PrintLast Go.Proofs.YtfhaclkjiolmjaaW.PrintMore
attribute [local go_sem] max2_int min2_int max_two min_two max_three min_three max_four min_four   -- for this text's walks alone
set_option linter.unusedVariables false
set_option linter.unusedSimpArgs false

/-! ### laws_szIntSS: function 21 -/
def laws_szIntSS.l0 : Nat → List (List Int) → Int → Int → Option (Int)
  | 0, _, _, _ => none
  | k + 1, x0, x1, x5 => if x5 < (x0.length : Int) then (if 0 ≤ x5 then ((laws_szIntS.f (rd_L1 x0 x5) x1).bind fun t206 => (if t206 < 0 then (some (-1)) else (laws_szIntSS.l0 k x0 t206 (wrap64 (x5 + 1))))) else (none)) else (some x1)
def laws_szIntSS.f (k : Nat) (l0 : List (List Int)) (a1 : Int) : Option (Int) := if (wrap64 (a1 - (l0.length : Int))) < 0 then (some (-1)) else (laws_szIntSS.l0 k l0 (wrap64 (a1 - (l0.length : Int))) 0)
theorem laws_szIntSS.mono_l : ∀ k, (∀ y0 y1 y2, LeO (laws_szIntSS.l0 k y0 y1 y2) (laws_szIntSS.l0 (k + 1) y0 y1 y2))
  | 0 => fun _ _ _ r h => by simp [laws_szIntSS.l0] at h
  | k + 1 => by
    have ih0 := laws_szIntSS.mono_l k
    · intro y0 y1 y2
      unfold laws_szIntSS.l0
      repeat' first
      | (with_reducible exact ih0 _ _ _)
      | (with_reducible exact LeO.refl _)
      | (with_reducible exact LeO.none _)
      | (with_reducible refine LeO.ite ?_ ?_)
      | (with_reducible refine LeO.bind ?_ (fun _ => ?_))
      | exact ih0 _ _ _
      | exact LeO.none _
      | refine LeO.ite ?_ ?_
      | refine LeO.bind ?_ (fun _ => ?_)
theorem laws_szIntSS.mono : ∀ a0 a1 k, LeO (laws_szIntSS.f k a0 a1) (laws_szIntSS.f (k + 1) a0 a1) := by
  intro a0 a1 k
  have ih0 := laws_szIntSS.mono_l k
  unfold laws_szIntSS.f
  repeat' first
      | (with_reducible exact ih0 _ _ _)
      | (with_reducible exact LeO.refl _)
      | (with_reducible exact LeO.none _)
      | (with_reducible refine LeO.ite ?_ ?_)
      | (with_reducible refine LeO.bind ?_ (fun _ => ?_))
      | exact ih0 _ _ _
      | exact LeO.none _
      | refine LeO.ite ?_ ?_
      | refine LeO.bind ?_ (fun _ => ?_)
set_option maxHeartbeats 8000000 in
set_option maxRecDepth 100000 in
theorem laws_szIntSS.calls (k : Nat) (A0 : Option Addr) (c0 : Nat) (l0 : List (List Int)) (a1 : Int) (r : Int) (w : World) (hr0 : Kd.C (Kd.slice 3 (Kd.int .i64)) w A0 l0.length l0) (hc0 : l0.length ≤ c0) (h : laws_szIntSS.f k l0 a1 = some r) :
    Calls Try.prog 21 #[.slice A0 l0.length c0, .int .i64 a1] w fun e w' => e = .returned (.int .i64 r) ∧ Drawn0 w w' := by
  have HR0 := Aside0.mk hr0
  have HC0 := Aside0.mk hc0
  clear hr0 hc0
  have H : (if (wrap64 (a1 - (l0.length : Int))) < 0 then (some (-1)) else (laws_szIntSS.l0 k l0 (wrap64 (a1 - (l0.length : Int))) 0)) = some r := h
  clear h
  by_cases c3 : (wrap64 (a1 - (l0.length : Int))) < 0
  · rw [if_pos c3] at H
    have c3b0 : decide ((wrap64 (a1 - (l0.length : Int))) < 0) = true := decide_eq_true c3
    clear c3
    obtain rfl := Option.some.inj H
    go_enter Try.func21, Try.ntmps21
    go_wp2
    go_ret
    exact ⟨by first | rfl | (simp; done) | (simp [*]; done), by repeat (first | exact Drawn0.refl _ | apply Drawn0.step)⟩
  · rw [if_neg c3] at H
    have c3b0 : decide ((wrap64 (a1 - (l0.length : Int))) < 0) = false := decide_eq_false c3
    clear c3
    have H' := Aside0.mk H
    clear H
    go_enter Try.func21, Try.ntmps21
    go_wp2
    go_loopg [1, 5] k (fun kq v1 v5 w' => ∃ (x1_1 : Int) (x5_1 : Int), v1 = .int .i64 x1_1 ∧ v5 = .int .i64 x5_1 ∧ Aside0 (laws_szIntSS.l0 kq l0 x1_1 x5_1 = some r) ∧ Aside0 (kq ≤ k) ∧ Drawn0 w w')
    case atStart => exact ⟨(wrap64 (a1 - (l0.length : Int))), (0), (by first | rfl | (simp; done) | (simp [*]; done)), (by first | rfl | (simp; done) | (simp [*]; done)), H', ⟨Nat.le_refl _⟩, by repeat (first | exact Drawn0.refl _ | apply Drawn0.step)⟩
    case round =>
      clear H'
      try clear c2
      try clear p2
      try clear c3
      try clear c3b0
      obtain ⟨x1_1, x5_1, rfl, rfl, HA, HK1, ⟨m1, rfl⟩⟩ := hrel
      cases gk with
      | zero => exact absurd HA.out (by simp [laws_szIntSS.l0])
      | succ k1 =>
        have H := HA.out
        clear HA
        simp only [laws_szIntSS.l0] at H
        by_cases c4 : x5_1 < (l0.length : Int)
        · rw [if_pos c4] at H
          have c4b0 : decide (x5_1 < (l0.length : Int)) = true := decide_eq_true c4
          clear c4
          by_cases c5 : 0 ≤ x5_1
          · rw [if_pos c5] at H
            have c5b0 : decide (0 ≤ x5_1) = true := decide_eq_true c5
            clear c5
            replace H := Option.bind_eq_some_iff.mp H
            obtain ⟨t206, A60, H⟩ := H
            replace H : (if t206 < 0 then (some (-1)) else (laws_szIntSS.l0 k1 l0 t206 (wrap64 (x5_1 + 1)))) = some r := H
            have A6 := Aside0.mk A60
            clear A60
            by_cases c7 : t206 < 0
            · rw [if_pos c7] at H
              have c7b0 : decide (t206 < 0) = true := decide_eq_true c7
              clear c7
              obtain rfl := Option.some.inj H
              have p205 : 0 ≤ (x5_1 : Int) := of_decide_eq_true (by first | (with_reducible assumption) | assumption)
              have q205 : x5_1 < (l0.length : Int) := of_decide_eq_true (by first | (with_reducible assumption) | assumption)
              obtain ⟨ad205, A205_0, c205_0, e205, hx205_0, hl205_0, hi205_0⟩ := at_L1 HR0.out x5_1 p205 q205
              cases e205
              have HR205_0 := Aside0.mk hi205_0
              have HC205_0 := Aside0.mk hl205_0
              clear hi205_0 hl205_0
              replace p205 := eq_true p205
              replace q205 := eq_true q205
              go_wp2_with (first | ((with_reducible refine gate_callee (f := 61) rfl ?_); refine goesL_ (some 23) rfl rfl Try.func61 (by kernel_rfl) rfl #[.slice A205_0 (rd_L1 l0 x5_1).length c205_0, .int .i64 x1_1] rfl (by (try simp only [List.map_toArray, List.map_cons, List.map_nil]); first | done | rfl | (simp only [List.length_drop, List.length_take]; rfl)) ?_; (with_reducible refine (laws_szIntS.calls _ _ (rd_L1 l0 x5_1) x1_1 t206 _ ?side1 ?side2 A6.out).mono ?_); (case side1 => repeat (first | exact HR205_0.out | (with_reducible refine Kd.C_alloc ?_ _) | (with_reducible refine Kd.C_drewN ?_ _) | (with_reducible refine Kd.C_drew ?_))); (case side2 => exact HC205_0.out); rintro e w' ⟨rfl, ⟨nd, rfl⟩⟩; refine ⟨_, rfl, ?_⟩))
              go_ret
              exact ⟨by first | rfl | (simp; done) | (simp [*]; done), by repeat (first | exact Drawn0.refl _ | apply Drawn0.step)⟩
            · rw [if_neg c7] at H
              have c7b0 : decide (t206 < 0) = false := decide_eq_false c7
              clear c7
              have H' := Aside0.mk H
              clear H
              have p205 : 0 ≤ (x5_1 : Int) := of_decide_eq_true (by first | (with_reducible assumption) | assumption)
              have q205 : x5_1 < (l0.length : Int) := of_decide_eq_true (by first | (with_reducible assumption) | assumption)
              obtain ⟨ad205, A205_0, c205_0, e205, hx205_0, hl205_0, hi205_0⟩ := at_L1 HR0.out x5_1 p205 q205
              cases e205
              have HR205_0 := Aside0.mk hi205_0
              have HC205_0 := Aside0.mk hl205_0
              clear hi205_0 hl205_0
              replace p205 := eq_true p205
              replace q205 := eq_true q205
              go_wp2_with (first | ((with_reducible refine gate_callee (f := 61) rfl ?_); refine goesL_ (some 23) rfl rfl Try.func61 (by kernel_rfl) rfl #[.slice A205_0 (rd_L1 l0 x5_1).length c205_0, .int .i64 x1_1] rfl (by (try simp only [List.map_toArray, List.map_cons, List.map_nil]); first | done | rfl | (simp only [List.length_drop, List.length_take]; rfl)) ?_; (with_reducible refine (laws_szIntS.calls _ _ (rd_L1 l0 x5_1) x1_1 t206 _ ?side1 ?side2 A6.out).mono ?_); (case side1 => repeat (first | exact HR205_0.out | (with_reducible refine Kd.C_alloc ?_ _) | (with_reducible refine Kd.C_drewN ?_ _) | (with_reducible refine Kd.C_drew ?_))); (case side2 => exact HC205_0.out); rintro e w' ⟨rfl, ⟨nd, rfl⟩⟩; refine ⟨_, rfl, ?_⟩))
              go_roundg k1
              case measure => have := HK1.out; omega
              case rel => exact ⟨(t206), (wrap64 (x5_1 + 1)), (by first | rfl | (simp; done) | (simp [*]; done)), (by first | rfl | (simp; done) | (simp [*]; done)), H', ⟨by have := HK1.out; omega⟩, by repeat (first | exact Drawn0.refl _ | apply Drawn0.step)⟩
          · rw [if_neg c5] at H
            exact absurd H (by simp)
        · rw [if_neg c4] at H
          have c4b0 : decide (x5_1 < (l0.length : Int)) = false := decide_eq_false c4
          clear c4
          obtain rfl := Option.some.inj H
          go_wp2
          go_ret
          exact ⟨by first | rfl | (simp; done) | (simp [*]; done), by repeat (first | exact Drawn0.refl _ | apply Drawn0.step)⟩

end Go.Proofs.Ytfhaclkjiolmjaa.Q

namespace Go.Proofs.Ytfhaclkjiolmjaa.Q
open Go.RowKit Go.Proofs.YtfhaclkjiolmjaaW.PrintWords Go.Proofs.YtfhaclkjiolmjaaW.PrintLast Go.Proofs.YtfhaclkjiolmjaaW.PrintMore
attribute [local go_sem] max2_int min2_int max_two min_two max_three min_three max_four min_four   -- for this text's walks alone
set_option linter.unusedVariables false
set_option linter.unusedSimpArgs false

/-! ### laws_toIntSS: function 23 -/
def laws_toIntSS.l0 : Nat → List (List Int) → List (List Int) → Int → Option ((List (List Int)))
  | 0, _, _, _ => none
  | k + 1, x0, x3, x4 => if x4 < (x0.length : Int) then (if 0 ≤ x4 then ((laws_toIntS.f k (rd_L1 x0 x4)).bind fun t231 => (if x4 < (x3.length : Int) then (laws_toIntSS.l0 k x0 (x3.set (x4 : Int).toNat t231) (wrap64 (x4 + 1))) else (none))) else (none)) else (some x3)
def laws_toIntSS.f (k : Nat) (l0 : List (List Int)) : Option ((List (List Int))) := if 0 ≤ (l0.length : Int) then (if ((l0.length : Int) : Int).toNat ≤ 11728124029610 then (laws_toIntSS.l0 k l0 (List.replicate ((l0.length : Int) : Int).toNat []) 0) else (none)) else (none)
theorem laws_toIntSS.mono_l : ∀ k, (∀ y0 y1 y2, LeO (laws_toIntSS.l0 k y0 y1 y2) (laws_toIntSS.l0 (k + 1) y0 y1 y2))
  | 0 => fun _ _ _ r h => by simp [laws_toIntSS.l0] at h
  | k + 1 => by
    have ih0 := laws_toIntSS.mono_l k
    · intro y0 y1 y2
      unfold laws_toIntSS.l0
      repeat' first
      | (with_reducible exact ih0 _ _ _)
      | (with_reducible exact laws_toIntS.mono _ _)
      | (with_reducible exact LeO.refl _)
      | (with_reducible exact LeO.none _)
      | (with_reducible refine LeO.ite ?_ ?_)
      | (with_reducible refine LeO.bind ?_ (fun _ => ?_))
      | exact ih0 _ _ _
      | exact laws_toIntS.mono _ _
      | exact LeO.none _
      | refine LeO.ite ?_ ?_
      | refine LeO.bind ?_ (fun _ => ?_)
theorem laws_toIntSS.mono : ∀ a0 k, LeO (laws_toIntSS.f k a0) (laws_toIntSS.f (k + 1) a0) := by
  intro a0 k
  have ih0 := laws_toIntSS.mono_l k
  unfold laws_toIntSS.f
  repeat' first
      | (with_reducible exact ih0 _ _ _)
      | (with_reducible exact laws_toIntS.mono _ _)
      | (with_reducible exact LeO.refl _)
      | (with_reducible exact LeO.none _)
      | (with_reducible refine LeO.ite ?_ ?_)
      | (with_reducible refine LeO.bind ?_ (fun _ => ?_))
      | exact ih0 _ _ _
      | exact laws_toIntS.mono _ _
      | exact LeO.none _
      | refine LeO.ite ?_ ?_
      | refine LeO.bind ?_ (fun _ => ?_)
set_option maxHeartbeats 8000000 in
set_option maxRecDepth 100000 in
theorem laws_toIntSS.calls (k : Nat) (A0 : Option Addr) (c0 : Nat) (l0 : List (List Int)) (r : List (List Int)) (w : World) (hr0 : Kd.C (Kd.slice 3 (Kd.int .i64)) w A0 l0.length l0) (hc0 : l0.length ≤ c0) (h : laws_toIntSS.f k l0 = some r) :
    Calls Try.prog 23 #[.slice A0 l0.length c0] w fun e w' => ∃ v0_ : Value, e = .returned (v0_) ∧ Kd.S (Kd.slice 3 (Kd.int .i64)) 22 w' w.heap.size (fun _ => True) v0_ r ∧ Below w.heap.size w w' := by
  have HR0 := Aside0.mk hr0
  have HC0 := Aside0.mk hc0
  clear hr0 hc0
  have HB := Aside0.mk (Below.refl w.heap.size w)
  have H : (if 0 ≤ (l0.length : Int) then (if ((l0.length : Int) : Int).toNat ≤ 11728124029610 then (laws_toIntSS.l0 k l0 (List.replicate ((l0.length : Int) : Int).toNat []) 0) else (none)) else (none)) = some r := h
  clear h
  by_cases c2 : 0 ≤ (l0.length : Int)
  · rw [if_pos c2] at H
    have c2b0 := eq_true c2
    have c2b1 : decide (0 ≤ (l0.length : Int)) = true := decide_eq_true c2
    clear c2
    by_cases c3 : ((l0.length : Int) : Int).toNat ≤ 11728124029610
    · rw [if_pos c3] at H
      have c3b0 := eq_true c3
      have c3b1 : decide (((l0.length : Int) : Int).toNat ≤ 11728124029610) = true := decide_eq_true c3
      clear c3
      obtain ⟨y227, hy227⟩ : ∃ y_ : List (List Int), y_ = (List.replicate ((l0.length : Int) : Int).toNat []) := ⟨_, rfl⟩
      replace H : (laws_toIntSS.l0 k l0 y227 0) = some r := by first | (rw [hy227]; with_reducible exact H) | (have H2_ := (Option.bind_some _ _).symm.trans H; rw [hy227]; with_reducible exact H2_) | (have H2_ := (Option.bind_some _ _).symm.trans H; with_reducible exact H2_) | with_reducible exact H | (rw [hy227]; exact H) | exact H
      have Ny227 := Aside0.mk hy227
      clear hy227
      have H' := Aside0.mk H
      clear H
      go_enter Try.func23, Try.ntmps23
      go_wp2_with (first | ((with_reducible refine gate_dst (N := 7) rfl ?_); refine Kd.S_make (Kd.slice 3 (Kd.int .i64)) _ 22 rfl (N := 7) rfl 29 _ _ rfl (l0.length : Int) rfl rfl Try.underlying29 (.slice none 0 0) 24 info22 rfl (by decide) (by omega) [] (ok := fun _ => True) (okp := fun _ => True) ⟨_, rfl, Kd.R_nil _ _ _ _ _⟩ (fun _ hk => hk) trivial (of_decide_eq_true (by first | (with_reducible assumption) | assumption)) (Nat.le_trans (Nat.mul_le_mul_right _ (of_decide_eq_true (by first | (with_reducible assumption) | assumption) : (l0.length : Int).toNat ≤ 11728124029610)) (by omega)) (Below.refl _ _) (Nat.le_refl _) ?_; intro v228 w4 ho5 hb hg_ hnew_; clear hg_ hnew_; (first | rw [← Ny227.out] at ho5 | (simp only [Int.reduceToNat] at ho5; rw [← Ny227.out] at ho5)); have n0_ := Aside0.mk (Kd.S_lower ho5 (below_size (by repeat (first | (with_reducible first | exact HB.out | apply below_alloc | apply pw_below_drewN | apply below_drew1) | exact HB.out)))); have n1_ := Aside0.mk (below_step (by repeat (first | (with_reducible first | exact HB.out | apply below_alloc | apply pw_below_drewN | apply below_drew1) | exact HB.out)) hb); clear HB; have HO229 := n0_; have HB := n1_; clear n0_ n1_; clear hb ho5))
      go_loopg [4] k (fun kq v4 w' => ∃ (x3_1 : List (List Int)) (x4_1 : Int), v4 = .int .i64 x4_1 ∧ Aside0 (laws_toIntSS.l0 kq l0 x3_1 x4_1 = some r) ∧ Aside0 (kq ≤ k) ∧ Aside0 (Kd.S (Kd.slice 3 (Kd.int .i64)) 22 w' w.heap.size (fun _ => True) v228 x3_1) ∧ Aside0 (Below w.heap.size w w'))
      case atStart => exact ⟨(y227), (0), (by first | rfl | (simp; done) | (simp [*]; done)), H', ⟨Nat.le_refl _⟩, ⟨by (with_reducible repeat (first | apply Kd.S_alloc | apply Kd.S_drewN | apply Kd.S_drew)); exact HO229.out⟩, ⟨by repeat (first | (with_reducible first | exact HB.out | apply below_alloc | apply pw_below_drewN | apply below_drew1) | exact HB.out)⟩⟩
      case round =>
        clear H'
        try clear c2
        try clear c2b0
        try clear c2b1
        try clear p2
        try clear c3
        try clear c3b0
        try clear c3b1
        obtain ⟨x3_1, x4_1, rfl, HA, HK1, HO_3, HB⟩ := hrel
        cases gk with
        | zero => exact absurd HA.out (by simp [laws_toIntSS.l0])
        | succ k1 =>
          have H := HA.out
          clear HA
          simp only [laws_toIntSS.l0] at H
          by_cases c6 : x4_1 < (l0.length : Int)
          · rw [if_pos c6] at H
            have c6b0 : decide (x4_1 < (l0.length : Int)) = true := decide_eq_true c6
            clear c6
            by_cases c7 : 0 ≤ x4_1
            · rw [if_pos c7] at H
              have c7b0 : decide (0 ≤ x4_1) = true := decide_eq_true c7
              clear c7
              replace H := Option.bind_eq_some_iff.mp H
              obtain ⟨t231, A80, H⟩ := H
              replace H : (if x4_1 < (x3_1.length : Int) then (laws_toIntSS.l0 k1 l0 (x3_1.set (x4_1 : Int).toNat t231) (wrap64 (x4_1 + 1))) else (none)) = some r := H
              have A8 := Aside0.mk A80
              clear A80
              by_cases c9 : x4_1 < (x3_1.length : Int)
              · rw [if_pos c9] at H
                have c9b0 : decide (x4_1 < (x3_1.length : Int)) = true := decide_eq_true c9
                clear c9
                obtain ⟨y234, hy234⟩ : ∃ y_ : List (List Int), y_ = (x3_1.set (x4_1 : Int).toNat t231) := ⟨_, rfl⟩
                replace H : (laws_toIntSS.l0 k1 l0 y234 (wrap64 (x4_1 + 1))) = some r := by first | (rw [hy234]; with_reducible exact H) | (have H2_ := (Option.bind_some _ _).symm.trans H; rw [hy234]; with_reducible exact H2_) | (have H2_ := (Option.bind_some _ _).symm.trans H; with_reducible exact H2_) | with_reducible exact H | (rw [hy234]; exact H) | exact H
                have Ny234 := Aside0.mk hy234
                clear hy234
                have H' := Aside0.mk H
                clear H
                have p230 : 0 ≤ (x4_1 : Int) := of_decide_eq_true (by first | (with_reducible assumption) | assumption)
                have q230 : x4_1 < (l0.length : Int) := of_decide_eq_true (by first | (with_reducible assumption) | assumption)
                obtain ⟨ad230, A230_0, c230_0, e230, hx230_0, hl230_0, hi230_0⟩ := at_L1 HR0.out x4_1 p230 q230
                cases e230
                replace hx230_0 := (HB.out.cell (World.block_lt_of_cell? w _ hx230_0)).trans hx230_0
                have HR230_0 := Aside0.mk hi230_0
                have HC230_0 := Aside0.mk hl230_0
                clear hi230_0 hl230_0
                replace p230 := eq_true p230
                replace q230 := eq_true q230
                go_wp2_with (first | ((with_reducible refine gate_callee (f := 11) rfl ?_); refine goesL_ (some 20) rfl rfl Try.func11 (by kernel_rfl) rfl #[.slice A230_0 (rd_L1 l0 x4_1).length c230_0] rfl (by (try simp only [List.map_toArray, List.map_cons, List.map_nil]); first | done | rfl | (simp only [List.length_drop, List.length_take]; rfl)) ?_; (with_reducible refine (laws_toIntS.calls k1 _ _ (rd_L1 l0 x4_1) t231 _ ?side1 ?side2 A8.out).mono ?_); (case side1 => repeat (first | exact (Kd.C_below HR230_0.out HB.out) | (with_reducible refine Kd.C_alloc ?_ _) | (with_reducible refine Kd.C_drewN ?_ _) | (with_reducible refine Kd.C_drew ?_))); (case side2 => exact HC230_0.out); rintro e w11 ⟨v232, rfl, ho0, hb⟩; refine ⟨_, rfl, ?_⟩; obtain ⟨A232, c232, rfl⟩ := Kd.R_slice ho0; have n0_ := Aside0.mk (Kd.S_elder' (by (with_reducible repeat (first | apply Kd.S_alloc | apply Kd.S_drewN | apply Kd.S_drew)); exact HO_3.out) (Kd.R_base ho0) hb); have n1_ := Aside0.mk (Kd.R_lower ho0 (below_size (by repeat (first | (with_reducible first | exact HB.out | apply below_alloc | apply pw_below_drewN | apply below_drew1) | exact HB.out)))); have n2_ := Aside0.mk (below_step (by repeat (first | (with_reducible first | exact HB.out | apply below_alloc | apply pw_below_drewN | apply below_drew1) | exact HB.out)) hb); clear HO_3; clear HB; have HO_3 := n0_; have HO233 := n1_; have HB := n2_; clear n0_ n1_ n2_; (try clear hb); (try clear hb2); (try clear hk); (try clear hi); (try clear ho0); have p10 : 0 ≤ (x4_1 : Int) := of_decide_eq_true (by first | (with_reducible assumption) | assumption); have q10 : (x4_1 : Int) < ((x3_1.length : Int) : Int) := of_decide_eq_true (by first | (with_reducible assumption) | assumption); obtain ⟨go10, co10, eo10, gb10, gl10, cl10, HG10⟩ := Kd.S_form HO_3.out (by omega); (first | cases eo10 | (injection eo10 with ea_ en_ ec_; (first | subst ea_ | (injection ea_ with ea_; subst ea_)); subst ec_; clear en_)); have GB10 := Aside0.mk gb10; have GG10 := Aside0.mk HG10; clear gb10 gl10 HG10; obtain ⟨_, ce10, hcl10, hM10, hcc10, hfr10, _, _⟩ := Kd.S_elem HO_3.out [] (x4_1 : Int) p10 q10; obtain ⟨ve10_0, rfl, ge10_0⟩ := hM10; have hx10_0 := hcc10 0 _ rfl; have hf10_0 := hfr10 0; (try simp only [show ((Kd.slice 3 (Kd.int .i64))).sz = 1 from rfl, Nat.mul_one, Nat.add_zero] at hx10_0); (try simp only [show ((Kd.slice 3 (Kd.int .i64))).sz = 1 from rfl, Nat.mul_one, Nat.add_zero] at hf10_0); (try clear hcl10); (try clear hcc10); (try clear hfr10); (try clear hM10); replace p10 := eq_true p10; replace q10 := eq_true q10; have n_ := Aside0.mk (Kd.S_mono (ok' := (fun k_ => some k_ ≠ (Value.slice A232 t231.length c232).ownBlock)) HO_3.out (fun k_ hk => hk.2)); clear HO_3; have HO_3 := n_; clear n_; have HX12 := Aside0.mk (show Kd.S (Kd.slice 3 (Kd.int .i64)) 22 w11 w.heap.size (fun k_ => ((fun _ => True)) k_ ∧ ¬ ((fun k_ => some k_ = (Value.slice A232 t231.length c232).ownBlock)) k_) (.slice (some ⟨go10, 0, none⟩) x3_1.length co10) x3_1 from (by (with_reducible repeat (first | apply Kd.S_alloc | apply Kd.S_drewN | apply Kd.S_drew)); exact Kd.S_mono HO_3.out (fun k_ hk => ⟨trivial, fun e_ => hk e_⟩))); obtain ⟨oki12, ce12, hcl12, hM12, hcc12, hfr12, hoki12, hH12⟩ := Kd.S_elem HX12.out [] (x4_1 : Int) (of_decide_eq_true (by first | (with_reducible assumption) | assumption)) (by have h_ : (x4_1 : Int) < ((x3_1.length : Int) : Int) := of_decide_eq_true (by first | (with_reducible assumption) | assumption); first | exact h_ | (have e_ := (Kd.S_reads' HO_3.out).1; omega) | simpa using h_); obtain ⟨ve12_0, rfl, ge12_0⟩ := hM12; have HP12 := Kd.S_seg hH12 (of_decide_eq_true (by first | (with_reducible assumption) | assumption)) (by have h_ : (x4_1 : Int) < ((x3_1.length : Int) : Int) := of_decide_eq_true (by first | (with_reducible assumption) | assumption); first | exact h_ | (have e_ := (Kd.S_reads' HO_3.out).1; omega) | simpa using h_) (seg := [(Value.slice A232 t231.length c232)]) (j := 0) (show 1 ≤ 1 from by decide) (x' := t231) (Kd.M_row (Kd.R_mono (Kd.R_tight rfl (Kd.R_mono (ok' := fun k_ => ((fun _ => True)) k_ ∧ k_ ≠ go10) (Kd.R_apart' (HO233.out) (Kd.S_typed HO_3.out) (by decide)) (fun k_ hk => ⟨trivial, fun e_ => (hk.2) (by rw [e_]; rfl)⟩))) (fun _ h_ => Or.inr (h_)))) (fun _ hk => hk) (fun k_ hk_ => ((Kd.R_mono (ok' := fun k_ => ((fun _ => True)) k_ ∧ k_ ≠ go10) (Kd.R_apart' (HO233.out) (Kd.S_typed HO_3.out) (by decide)) (fun k_ hk => ⟨trivial, fun e_ => (hk.2) (by rw [e_]; rfl)⟩))).1 k_ hk_.symm); have hx12_0 := hcc12 0 _ rfl; (try simp only [show ((Kd.slice 3 (Kd.int .i64))).sz = 1 from rfl, Nat.mul_one, Nat.add_zero] at hx12_0); have hf12_0 := hfr12 0; (try simp only [show ((Kd.slice 3 (Kd.int .i64))).sz = 1 from rfl, Nat.mul_one, Nat.add_zero] at hf12_0); (try clear hcl12); (try clear hcc12); (try clear hfr12); (try clear hM12); (try clear hoki12); (try clear hH12); (try simp only [show ((Kd.slice 3 (Kd.int .i64))).sz = 1 from rfl, Nat.mul_one, Nat.add_zero] at HP12)) | ((with_reducible refine gate_store (t := 22) (p := 21) rfl ?_); refine store_event (t := 22) (p := 21) (v := ?vo_w13) (w1 := (w11.setCell ⟨go10, (x4_1 : Int).toNat, none⟩ (Value.slice A232 t231.length c232))) ?hg ?ho ?hn ?hr ?_; (case ho => rfl); (case hg => rfl); (case hn => rfl); (case hr => first | (go_simp; done) | (go_simp; rfl)); intro w13 hw; have hg : w11.grownBy w13 (some go10) := (by rw [hw]; exact HP12.2); have hp_ : Kd.S (Kd.slice 3 (Kd.int .i64)) 22 w13 w.heap.size (fun _ => True) (.slice (some ⟨go10, 0, none⟩) x3_1.length co10) y234 := (by rw [hw, Ny234.out]; exact HP12.1); clear HP12; have n0_ := Aside0.mk (hp_); have n1_ := Aside0.mk ((by rw [hw]; exact below_set (HB.out) GB10.out : Below w.heap.size w w13)); clear HO_3; clear HB; clear HO233; have HO_3 := n0_; have HB := n1_; clear n0_ n1_; clear hg hw hp_))
                go_roundg k1
                case measure => have := HK1.out; omega
                case rel => exact ⟨(y234), (wrap64 (x4_1 + 1)), (by first | rfl | (simp; done) | (simp [*]; done)), H', ⟨by have := HK1.out; omega⟩, ⟨by (with_reducible repeat (first | apply Kd.S_alloc | apply Kd.S_drewN | apply Kd.S_drew)); exact HO_3.out⟩, ⟨by repeat (first | (with_reducible first | exact HB.out | apply below_alloc | apply pw_below_drewN | apply below_drew1) | exact HB.out)⟩⟩
              · rw [if_neg c9] at H
                exact absurd H (by simp)
            · rw [if_neg c7] at H
              exact absurd H (by simp)
          · rw [if_neg c6] at H
            have c6b0 : decide (x4_1 < (l0.length : Int)) = false := decide_eq_false c6
            clear c6
            obtain rfl := Option.some.inj H
            go_wp2
            go_ret
            exact ⟨_, by first | rfl | (simp [errW_none, errW_some] <;> rfl) | (simp [*, errW_none, errW_some] <;> rfl), by (with_reducible repeat (first | apply Kd.S_alloc | apply Kd.S_drewN | apply Kd.S_drew)); exact HO_3.out, by repeat (first | (with_reducible first | exact HB.out | apply below_alloc | apply pw_below_drewN | apply below_drew1) | exact HB.out)⟩
    · rw [if_neg c3] at H
      exact absurd H (by simp)
  · rw [if_neg c2] at H
    exact absurd H (by simp)

end Go.Proofs.Ytfhaclkjiolmjaa.Q

namespace Go.Proofs.Ytfhaclkjiolmjaa.Q
open Go.RowKit Go.Proofs.YtfhaclkjiolmjaaW.PrintWords Go.Proofs.YtfhaclkjiolmjaaW.PrintLast Go.Proofs.YtfhaclkjiolmjaaW.PrintMore
set_option linter.unusedVariables false
set_option linter.unusedSimpArgs false

def okC (zs : List Int) : Bool := zs.all fun n => decide (0 ≤ n) && decide (n ≤ 6)
theorem in_eq (n lo hi : Int) : spec_l1In.f n lo hi = some (decide (lo ≤ n) && decide (n ≤ hi)) := by
  unfold spec_l1In.f
  by_cases h : lo ≤ n <;> simp [h]
theorem all_l0 (zs : List Int) (hn : zs.length ≤ 1000000000) : ∀ d k i, i + d = zs.length → d < k → spec_l1All.l0 k 0 6 zs (zs.length : Int) (i : Int) = some (okC (zs.drop i)) := by
  intro d
  induction d with
  | zero =>
    intro k i hi hk
    obtain ⟨k, rfl⟩ : ∃ m, k = m + 1 := ⟨k - 1, by omega⟩
    rw [spec_l1All.l0, if_neg (by omega), List.drop_of_length_le (by omega)]; rfl
  | succ d ih =>
    intro k i hi hk
    obtain ⟨k, rfl⟩ : ∃ m, k = m + 1 := ⟨k - 1, by omega⟩
    have hlt : i < zs.length := by omega
    rw [spec_l1All.l0, if_pos (by omega), if_pos (by omega), if_pos (by omega), rd_nat zs i hlt, in_eq, Option.bind_some, w64 (i := (i : Int) + 1) (by omega) (by omega), show (i : Int) + 1 = ((i + 1 : Nat) : Int) by omega, ih k (i + 1) (by omega) (by omega), List.drop_eq_getElem_cons hlt]
    unfold okC
    rw [List.all_cons]
    cases (decide (0 ≤ zs[i]) && decide (zs[i] ≤ 6)) <;> rfl
theorem all_eq (zs : List Int) (hn : zs.length ≤ 1000000000) (k : Nat) (hk : zs.length < k) : spec_l1All.f k zs 0 6 = some (okC zs) := by
  unfold spec_l1All.f
  have := all_l0 zs hn zs.length k 0 (by omega) hk
  simpa using this
def countsB (zs : List Int) : Bool := (decide (1 ≤ (zs.length : Int)) && decide ((zs.length : Int) ≤ 4)) && okC zs
theorem rdCounts_eq (zs : List Int) (hn : zs.length ≤ 1000000000) (k : Nat) (hk : zs.length < k) : spec_rdCounts.f k zs = some (countsB zs) := by
  unfold spec_rdCounts.f countsB
  rw [in_eq, Option.bind_some, all_eq zs hn k hk]
  cases (decide (1 ≤ (zs.length : Int)) && decide ((zs.length : Int) ≤ 4)) <;> rfl
theorem areCounts_eq (zs : List Int) : impl_areCounts.f zs = some (countsB zs) := by
  unfold impl_areCounts.f countsB impl_within.f impl_areWithin.f okC
  by_cases h : (1 : Int) ≤ (zs.length : Int)
  · rw [if_pos h, Option.bind_some, decide_eq_true h, Bool.true_and]
    cases decide ((zs.length : Int) ≤ 4) <;> rfl
  · rw [if_neg h, Option.bind_some, decide_eq_false h]; rfl
/-- x less p, from place i on, d places. -/
def subF (p : List Int) : Nat → Nat → List Int → List Int
  | 0, _, x => x
  | d + 1, i, x => subF p d (i + 1) (x.set i (wrap64 (rd x (i : Int) - rd p (i : Int))))
theorem subF_length (p : List Int) : ∀ d i x, (subF p d i x).length = x.length
  | 0, _, _ => rfl
  | d + 1, i, x => by rw [subF, subF_length p d]; simp
theorem minus_l0 (p : List Int) (hn : p.length ≤ 1000) : ∀ d k i (x : List Int), i + d = p.length → p.length ≤ x.length → d < k → impl_minus.l0 k x p (p.length : Int) (i : Int) = some (subF p d i x) := by
  intro d
  induction d with
  | zero =>
    intro k i x hi hx hk
    obtain ⟨k, rfl⟩ : ∃ m, k = m + 1 := ⟨k - 1, by omega⟩
    rw [impl_minus.l0, if_neg (by omega)]; rfl
  | succ d ih =>
    intro k i x hi hx hk
    obtain ⟨k, rfl⟩ : ∃ m, k = m + 1 := ⟨k - 1, by omega⟩
    rw [impl_minus.l0, if_pos (by omega), if_pos (by omega), if_pos (by omega), if_pos (by omega), w64 (i := (i : Int) + 1) (by omega) (by omega), show (i : Int) + 1 = ((i + 1 : Nat) : Int) by omega, Int.toNat_natCast, ih k (i + 1) _ (by omega) (by simp; omega) (by omega)]
    rfl
theorem minus_eq (x p : List Int) (hn : p.length ≤ 1000) (hx : p.length ≤ x.length) (hx2 : x.length ≤ 1000) (k : Nat) (hk : p.length < k) : impl_minus.f k x p = some (subF p p.length 0 x) := by
  unfold impl_minus.f slices_Clone_int.f
  rw [if_pos (by omega), Option.bind_some]
  have := minus_l0 p hn p.length k 0 x (by omega) hx hk
  simpa using this
theorem left_l1 (x0 : List Int) (ps : List (List Int)) (a b : Int) (p : List Int) (hn : p.length ≤ 1000) (R : Option (List Int × Bool)) (K : Nat) (y : List Int) (hR : ∀ k, K ≤ k → spec_LeftOver.l0 k x0 y ps a (wrap64 (b + 1)) = R) : ∀ d k i (x : List Int), i + d = p.length → p.length ≤ x.length → subF p d i x = y → K + d + 1 ≤ k → spec_LeftOver.l1 k x0 x ps a b p (p.length : Int) (i : Int) = R := by
  intro d
  induction d with
  | zero =>
    intro k i x hi hx hy hk
    obtain ⟨k, rfl⟩ : ∃ m, k = m + 1 := ⟨k - 1, by omega⟩
    rw [spec_LeftOver.l1, if_neg (by omega), ← hR k (by omega), ← hy]; rfl
  | succ d ih =>
    intro k i x hi hx hy hk
    obtain ⟨k, rfl⟩ : ∃ m, k = m + 1 := ⟨k - 1, by omega⟩
    rw [spec_LeftOver.l1, if_pos (by omega), if_pos (by omega), if_pos (by omega), if_pos (by omega), w64 (i := (i : Int) + 1) (by omega) (by omega), show (i : Int) + 1 = ((i + 1 : Nat) : Int) by omega, Int.toNat_natCast]
    exact ih k (i + 1) _ (by omega) (by simp; omega) hy (by omega)
def leftR (n : Nat) : List (List Int) → List Int → List Int × Bool
  | [], x => if okC x = true then (x, true) else ([], false)
  | p :: ps, x => if p.length = n ∧ okC p = true then leftR n ps (subF p n 0 x) else ([], false)
theorem left_spec (x0 : List Int) (ps : List (List Int)) (h1 : 1 ≤ x0.length) (h4 : x0.length ≤ 4) (hps : ps.length ≤ 20) : ∀ d k i (x : List Int), i + d = ps.length → x.length = x0.length → 100 * d + 100 ≤ k → spec_LeftOver.l0 k x0 x ps (ps.length : Int) (i : Int) = some (leftR x0.length (ps.drop i) x) := by
  intro d
  induction d with
  | zero =>
    intro k i x hi hx hk
    obtain ⟨k, rfl⟩ : ∃ m, k = m + 1 := ⟨k - 1, by omega⟩
    rw [spec_LeftOver.l0, if_neg (by omega), List.drop_of_length_le (by omega), all_eq x (by omega) k (by omega), Option.bind_some, leftR]
    split <;> rfl
  | succ d ih =>
    intro k i x hi hx hk
    obtain ⟨k, rfl⟩ : ∃ m, k = m + 1 + 1 := ⟨k - 2, by omega⟩
    have hlt : i < ps.length := by omega
    rw [spec_LeftOver.l0, if_pos (by omega), if_pos (by omega), if_pos (by omega), rdL_get ps i hlt, List.drop_eq_getElem_cons hlt, leftR]
    by_cases hl : ps[i].length = x0.length
    · rw [if_pos (by omega), all_eq ps[i] (by omega) (k + 1) (by omega), Option.bind_some, spec_LeftOver.j2]
      cases hc : okC ps[i] with
      | false => rw [if_pos (by decide), if_neg (by simp)]
      | true =>
        rw [if_neg (by decide), if_pos ⟨hl, rfl⟩]
        refine left_l1 x0 ps (ps.length : Int) (i : Int) ps[i] (by omega) _ (100 * d + 100 - 1 + 1) (subF ps[i] ps[i].length 0 x) (fun k hk => ?_) ps[i].length k 0 x (by omega) (by omega) rfl (by omega)
        rw [w64 (i := (i : Int) + 1) (by omega) (by omega), show (i : Int) + 1 = ((i + 1 : Nat) : Int) by omega, ih k (i + 1) _ (by omega) (by rw [subF_length]; exact hx) (by omega), hl]
    · rw [if_neg (by omega), spec_LeftOver.j2, if_pos rfl, if_neg (fun h => hl h.1)]
theorem left_impl (x0 : List Int) (ps : List (List Int)) (h1 : 1 ≤ x0.length) (h4 : x0.length ≤ 4) (hps : ps.length ≤ 20) : ∀ d k i (x : List Int), i + d = ps.length → x.length = x0.length → 100 * d + 100 ≤ k → impl_LeftOver.l0 k x0 x ps (ps.length : Int) (i : Int) = some (leftR x0.length (ps.drop i) x) := by
  intro d
  induction d with
  | zero =>
    intro k i x hi hx hk
    obtain ⟨k, rfl⟩ : ∃ m, k = m + 1 := ⟨k - 1, by omega⟩
    rw [impl_LeftOver.l0, if_neg (by omega), List.drop_of_length_le (by omega), leftR]
    show (some (okC x)).bind _ = _
    rw [Option.bind_some]
    split <;> rfl
  | succ d ih =>
    intro k i x hi hx hk
    obtain ⟨k, rfl⟩ : ∃ m, k = m + 1 := ⟨k - 1, by omega⟩
    have hlt : i < ps.length := by omega
    rw [impl_LeftOver.l0, if_pos (by omega), if_pos (by omega), if_pos (by omega), rdL_get ps i hlt, List.drop_eq_getElem_cons hlt, leftR]
    by_cases hl : ps[i].length = x0.length
    · rw [if_pos (by omega), areCounts_eq, Option.bind_some]
      have hcb : countsB ps[i] = okC ps[i] := by
        unfold countsB
        rw [decide_eq_true (show (1 : Int) ≤ (ps[i].length : Int) by omega), decide_eq_true (show (ps[i].length : Int) ≤ 4 by omega)]
        rfl
      rw [hcb]
      cases hc : okC ps[i] with
      | false => rw [if_neg (by decide), if_neg (by simp)]
      | true =>
        rw [if_pos rfl, if_pos ⟨hl, rfl⟩, minus_eq x ps[i] (by omega) (by omega) (by omega) k (by omega), Option.bind_some, w64 (i := (i : Int) + 1) (by omega) (by omega), show (i : Int) + 1 = ((i + 1 : Nat) : Int) by omega, ih k (i + 1) _ (by omega) (by rw [subF_length]; exact hx) (by omega), hl]
    · rw [if_neg (by omega), if_neg (fun h => hl h.1)]
theorem ownL (l : List Int) (h : l.length < 1000000) : spec_l1Own.f l = some l := by
  unfold spec_l1Own.f
  simp only [Option.bind_some, List.length_nil, List.nil_append]
  rw [if_pos (by omega)]
theorem leftR_len (n : Nat) : ∀ (ps : List (List Int)) (x : List Int), (leftR n ps x).1.length ≤ x.length
  | [], x => by rw [leftR]; split <;> simp
  | p :: ps, x => by
    rw [leftR]
    split
    · have := leftR_len n ps (subF p n 0 x); rw [subF_length] at this; exact this
    · simp
theorem leftOver_both (x0 : List Int) (ps : List (List Int)) (hm : x0.length ≤ 10000000) : ∃ r : List Int × Bool, Ev (fun k => spec_LeftOver.f k x0 ps) r ∧ Ev (fun k => impl_LeftOver.f k x0 ps) r ∧ r.1.length ≤ 10000000 := by
  unfold spec_LeftOver.f impl_LeftOver.f
  rw [areCounts_eq]
  have hrd := fun k (hk : x0.length < k) => rdCounts_eq x0 (by omega) k hk
  cases hc : countsB x0 with
  | false =>
    rw [hc] at hrd
    refine ⟨([], false), Ev_from 20000000 fun k hk => ?_, Ev_from 20000000 fun k hk => ?_, by simp⟩
    · obtain ⟨k, rfl⟩ : ∃ m, k = m + 1 := ⟨k - 1, by omega⟩
      rw [hrd (k + 1) (by omega), Option.bind_some, if_neg (by decide), spec_LeftOver.j0, if_pos rfl]
    · obtain ⟨k, rfl⟩ : ∃ m, k = m + 1 := ⟨k - 1, by omega⟩
      rw [Option.bind_some, if_neg (by decide), impl_LeftOver.j0, if_pos rfl]
  | true =>
    rw [hc] at hrd
    have hb : 1 ≤ x0.length ∧ x0.length ≤ 4 := by
      unfold countsB at hc
      simp only [Bool.and_eq_true, decide_eq_true_eq] at hc
      omega
    by_cases hp : (ps.length : Int) > 20
    · refine ⟨([], false), Ev_from 20000000 fun k hk => ?_, Ev_from 20000000 fun k hk => ?_, by simp⟩
      · obtain ⟨k, rfl⟩ : ∃ m, k = m + 1 := ⟨k - 1, by omega⟩
        rw [hrd (k + 1) (by omega), Option.bind_some, if_pos rfl, decide_eq_true hp, spec_LeftOver.j0, if_pos rfl]
      · obtain ⟨k, rfl⟩ : ∃ m, k = m + 1 := ⟨k - 1, by omega⟩
        rw [Option.bind_some, if_pos rfl, decide_eq_true hp, impl_LeftOver.j0, if_pos rfl]
    · have hlen := leftR_len x0.length ps x0
      refine ⟨leftR x0.length ps x0, Ev_from 20000000 fun k hk => ?_, Ev_from 20000000 fun k hk => ?_, by omega⟩
      · obtain ⟨k, rfl⟩ : ∃ m, k = m + 1 := ⟨k - 1, by omega⟩
        have := left_spec x0 ps hb.1 hb.2 (by omega) ps.length k 0 x0 (by omega) rfl (by omega)
        rw [hrd (k + 1) (by omega), Option.bind_some, if_pos rfl, decide_eq_false hp, spec_LeftOver.j0, if_neg (by decide), ownL x0 (by omega), Option.bind_some]
        simpa using this
      · obtain ⟨k, rfl⟩ : ∃ m, k = m + 1 := ⟨k - 1, by omega⟩
        have := left_impl x0 ps hb.1 hb.2 (by omega) ps.length k 0 x0 (by omega) rfl (by omega)
        rw [Option.bind_some, if_pos rfl, decide_eq_false hp, impl_LeftOver.j0, if_neg (by decide)]
        unfold slices_Clone_int.f
        rw [if_pos (by omega), Option.bind_some]
        simpa using this

/-! sizes and copies of rows -/
theorem szSS_l0 (l : List (List Int)) (hy : ∀ y ∈ l, y.length ≤ maxLen) : ∀ d k i (left : Int), i + d = l.length → d < k → l.length ≤ 1048576 → 0 ≤ left → left + ((allLen (l.take i) : Nat) : Int) + (l.length : Int) = 1048576 →
    ∃ r, laws_szIntSS.l0 k l left (i : Int) = some r ∧ (r < 0 ∨ 0 ≤ r ∧ l.length + allLen l ≤ 1048576) := by
  intro d
  induction d with
  | zero =>
    intro k i left hi hk hn h0 hs
    obtain ⟨k, rfl⟩ : ∃ m, k = m + 1 := ⟨k - 1, by omega⟩
    rw [laws_szIntSS.l0, if_neg (by omega)]
    rw [List.take_of_length_le (by omega)] at hs
    exact ⟨left, rfl, .inr ⟨h0, by omega⟩⟩
  | succ d ih =>
    intro k i left hi hk hn h0 hs
    obtain ⟨k, rfl⟩ : ∃ m, k = m + 1 := ⟨k - 1, by omega⟩
    have hlt : i < l.length := by omega
    have hyl := hy _ (List.getElem_mem hlt)
    unfold maxLen at hyl
    have htk := allLen_take l i hlt
    rw [laws_szIntSS.l0, if_pos (by omega), if_pos (by omega), rdL_get l i hlt]
    unfold laws_szIntS.f
    rw [show wrap64 (left - (l[i].length : Int)) = left - (l[i].length : Int) by unfold wrap64; omega]
    by_cases hc : left - (l[i].length : Int) < 0
    · rw [if_pos hc, Option.bind_some, if_pos (by omega)]
      exact ⟨_, rfl, .inl (by omega)⟩
    · rw [if_neg hc, Option.bind_some, if_neg hc, w64 (i := (i : Int) + 1) (by omega) (by omega), show (i : Int) + 1 = ((i + 1 : Nat) : Int) by omega]
      exact ih k (i + 1) _ (by omega) (by omega) hn (by omega) (by omega)
theorem szSS (l : List (List Int)) (hn : l.length * 24 ≤ 140737488351232) (hy : ∀ y ∈ l, y.length ≤ maxLen) : ∃ k r, laws_szIntSS.f k l 1048576 = some r ∧ (r < 0 ∨ 0 ≤ r ∧ l.length + allLen l ≤ 1048576) := by
  refine ⟨l.length + 1, ?_⟩
  unfold laws_szIntSS.f
  rw [show wrap64 ((1048576 : Int) - (l.length : Int)) = (1048576 : Int) - (l.length : Int) by unfold wrap64; omega]
  by_cases hc : (1048576 : Int) - (l.length : Int) < 0
  · rw [if_pos hc]; exact ⟨_, rfl, .inl (by omega)⟩
  · rw [if_neg hc]
    exact szSS_l0 l hy l.length (l.length + 1) 0 _ (by omega) (by omega) (by omega) (by omega) (by simp [allLen])
theorem toSS_l0 (l : List (List Int)) (hn : l.length + allLen l ≤ 1048576) : ∀ d k i (x : List (List Int)), i + d = l.length → d + allLen l + 2 ≤ k → x = l.take i ++ List.replicate d [] → laws_toIntSS.l0 k l x (i : Int) = some l := by
  intro d
  induction d with
  | zero =>
    intro k i x hi hk hx
    obtain ⟨k, rfl⟩ : ∃ m, k = m + 1 := ⟨k - 1, by omega⟩
    rw [laws_toIntSS.l0, if_neg (by omega), hx, List.take_of_length_le (by omega)]
    simp
  | succ d ih =>
    intro k i x hi hk hx
    obtain ⟨k, rfl⟩ : ∃ m, k = m + 1 := ⟨k - 1, by omega⟩
    have hlt : i < l.length := by omega
    have hr := allLen_le l l[i] (List.getElem_mem hlt)
    have hxl : x.length = l.length := by rw [hx]; simp; omega
    rw [laws_toIntSS.l0, if_pos (by omega), if_pos (by omega), rdL_get l i hlt, toIntS_eq l[i] (by omega) k (by omega), Option.bind_some, if_pos (by omega), w64 (i := (i : Int) + 1) (by omega) (by omega), show (i : Int) + 1 = ((i + 1 : Nat) : Int) by omega, Int.toNat_natCast]
    refine ih k (i + 1) _ (by omega) (by omega) ?_
    have htl : (l.take i).length = i := by rw [List.length_take]; omega
    rw [hx, List.set_append_right _ _ (by omega), htl, Nat.sub_self, List.replicate_succ, List.set_cons_zero, List.take_add_one, List.getElem?_eq_getElem hlt, List.append_assoc]
    rfl
theorem toSS (l : List (List Int)) (hn : l.length + allLen l ≤ 1048576) : ∃ k, laws_toIntSS.f k l = some l := by
  refine ⟨l.length + allLen l + 2, ?_⟩
  unfold laws_toIntSS.f
  rw [if_pos (by omega), if_pos (by omega), Int.toNat_natCast]
  have := toSS_l0 l hn l.length (l.length + allLen l + 2) 0 (List.replicate l.length []) (by omega) (Nat.le_refl _) (by simp)
  simpa using this
end Go.Proofs.Ytfhaclkjiolmjaa.Q

namespace Go.Proofs.Ytfhaclkjiolmjaa.Q
open Go.RowKit Go.Shelf Go.Proofs.YtfhaclkjiolmjaaW.PrintWords Go.Proofs.YtfhaclkjiolmjaaW.PrintLast Go.Proofs.YtfhaclkjiolmjaaW.PrintMore
set_option linter.unusedVariables false
set_option linter.unusedSimpArgs false

abbrev kI : Kd Int := Kd.int .i64
set_option maxRecDepth 100000 in
set_option maxHeartbeats 8000000 in
/-- The law itself, walked. -/
theorem law_calls (A0 : Option Addr) (c0 : Nat) (l0 : List Int) (A1 : Option Addr) (c1 : Nat) (l1 : List (List Int)) (W : World) (hr0 : Kd.C kI W A0 l0.length l0) (hc0 : l0.length ≤ c0) (hr1 : Kd.C kRow W A1 l1.length l1) (hc1 : l1.length ≤ c1) (hm : l1.length * 24 ≤ 140737488351232) (hy : ∀ y ∈ l1, y.length ≤ maxLen) :
    Calls Try.prog 5 #[.slice A0 l0.length c0, .slice A1 l1.length c1] W fun e W' => e = .returned (.bool true) ∧ Below W.heap.size W W' := by
  by_cases hl : l0.length ≤ 1048576
  case neg =>
    have hlz : (1048576 : Int) < (l0.length : Int) := by omega
    clear hr0 hr1
    go_enter Try.func5, Try.ntmps5
    go_wp2
    go_ret
    exact ⟨rfl, Below.refl _ _⟩
  have hlz : ¬ (1048576 : Int) < (l0.length : Int) := by omega
  obtain ⟨kz, z, hz, hz2⟩ := szSS l1 hm hy
  have hsz := laws_szIntSS.calls kz A1 c1 l1 1048576 z W hr1 hc1 hz
  rcases hz2 with hneg | ⟨hpos, hsum⟩
  · have HSZ := Aside0.mk hsz
    clear hsz hr0 hr1
    go_enter Try.func5, Try.ntmps5
    go_wp2_with (go_at_call 21; refine HSZ.out.mono ?_; rintro e w1 ⟨rfl, hd⟩)
    go_ret
    exact ⟨rfl, hd.below⟩
  have hz0 : ¬ z < 0 := by omega
  obtain ⟨⟨rs, rb⟩, hs, hi, hb⟩ := leftOver_both l0 l1 (by omega)
  simp only at hb
  obtain ⟨k1, hs⟩ := hs
  obtain ⟨k2, hi⟩ := hi
  obtain ⟨k3, hts⟩ := toSS l1 (by omega)
  have hs := hs k1 (Nat.le_refl _)
  have hi := hi k2 (Nat.le_refl _)
  simp only at hs hi
  have hto := fun W' (hb : Below W.heap.size W W') => laws_toIntS.calls (l0.length + 1) A0 c0 l0 l0 W' (Kd.C_below hr0 hb) hc0 (toIntS_eq l0 (by omega) _ (by omega))
  have htos := fun W' (hb : Below W.heap.size W W') => laws_toIntSS.calls k3 A1 c1 l1 l1 W' (Kd.C_below hr1 hb) hc1 hts
  have hspec := fun (A : Option Addr) (c : Nat) (A' : Option Addr) (c' : Nat) (W' : World) (hC : Kd.C kI W' A l0.length l0) (hc : l0.length ≤ c) (hC' : Kd.C kRow W' A' l1.length l1) (hc' : l1.length ≤ c') => spec_LeftOver.calls k1 A c l0 A' c' l1 rs rb W' hC hc hC' hc' hs
  have himpl := fun (A : Option Addr) (c : Nat) (A' : Option Addr) (c' : Nat) (W' : World) (hC : Kd.C kI W' A l0.length l0) (hc : l0.length ≤ c) (hC' : Kd.C kRow W' A' l1.length l1) (hc' : l1.length ≤ c') => impl_LeftOver.calls k2 A c l0 A' c' l1 rs rb W' hC hc hC' hc' hi
  have heq := fun (l : List Int) (hl : l.length ≤ 100000000) (A : Option Addr) (c : Nat) (A' : Option Addr) (c' : Nat) (W' : World) (hC : Kd.C kI W' A l.length l) (hc : l.length ≤ c) (hC' : Kd.C kI W' A' l.length l) (hc' : l.length ≤ c') => laws_eqIntS.calls (l.length + 1) A c l A' c' l true W' hC hc hC' hc' (eqIntS_self l (by omega) _ (by omega))
  have heqs := fun (A : Option Addr) (c : Nat) (A' : Option Addr) (c' : Nat) (W' : World) (hC : Kd.C kRow W' A l1.length l1) (hc : l1.length ≤ c) (hC' : Kd.C kRow W' A' l1.length l1) (hc' : l1.length ≤ c') => laws_eqIntSS.calls (l1.length + allLen l1 + 2) A c l1 A' c' l1 true W' hC hc hC' hc' (eqSS_self l1 (by omega) _ (Nat.le_refl _))
  have hmk := fun (l : List Int) (hl : l.length ≤ 100000000) (P : Nat → Prop) (v : Value) (w0 W' : World) (hB : Below w0.heap.size w0 W') (hR : Kd.R kI 3 W' w0.heap.size P v l) => laws_markIntS.calls (l.length + 1) P v l 1 _ _ w0 W' hB hR (markIntS_eq l 1 (by omega) (by omega) _ (by omega))
  have hheld := fun (A : Option Addr) (c : Nat) (W' : World) (hC : Kd.C kI W' A (marks 1 rs.length).length (marks 1 rs.length)) (hc : (marks 1 rs.length).length ≤ c) => laws_heldIntS.calls (rs.length + 1) A c (marks 1 rs.length) 1 _ W' hC hc (heldIntS_eq rs.length 1 (by omega) (by omega) _ (by omega))
  simp only [marks_length] at hheld
  have hmss := fun (w0 W' : World) (P0 : Nat → Prop) (v : Value) (hB : Below w0.heap.size w0 W') (hS : Kd.S kRow 22 W' w0.heap.size P0 v l1) => markSSA_calls ((1 : Int) + (l0.length : Int)) (by omega) w0 W' P0 v l1 hB hS (by omega)
  have hmkx := hmk l0 (by omega)
  have hmkg := hmk rs (by omega)
  have heqx := heq l0 (by omega)
  have heqg := heq rs (by omega)
  clear hmk heq
  obtain ⟨q, hq⟩ : ∃ q : Int, (1 : Int) + (l0.length : Int) = q := ⟨_, rfl⟩
  rw [hq] at hmkx hmss
  obtain ⟨q2, hq2⟩ : ∃ q2 : Int, q + ((allLen l1 : Nat) : Int) = q2 := ⟨_, rfl⟩
  have hq0 : ¬ q2 < 0 := by omega
  rw [hq2] at hmss
  obtain ⟨m, hme⟩ : ∃ m : Int, (1 : Int) + (rs.length : Int) = m := ⟨_, rfl⟩
  have hm0 : ¬ m < 0 := by omega
  rw [hme] at hmkg hheld
  have hrb : (rb != rb) = false := by cases rb <;> rfl
  have HSZ := Aside0.mk hsz
  have HTO := Aside0.mk hto
  have HTS := Aside0.mk htos
  have HSP := Aside0.mk hspec
  have HIM := Aside0.mk himpl
  have HEX := Aside0.mk heqx
  have HEG := Aside0.mk heqg
  have HES := Aside0.mk heqs
  have HMX := Aside0.mk hmkx
  have HMG := Aside0.mk hmkg
  have HHE := Aside0.mk hheld
  have HMS := Aside0.mk hmss
  clear hsz hto htos hspec himpl heqx heqg heqs hmkx hmkg hheld hmss hs hi hts hq hq2 hme hz hr0 hr1 hb hsum hpos hy hm
  go_enter Try.func5, Try.ntmps5
  go_wp2_with (go_at_call 21; refine HSZ.out.mono ?_; rintro e w1 ⟨rfl, hd⟩; have B1 := Aside0.mk hd.below; clear hd)
  go_wp2_with (go_at_call 11; refine (HTO.out w1 B1.out).mono ?_; rintro e w2 ⟨v2, rfl, hR2, hb2⟩; obtain ⟨A2, c2, hv2, hc2, hC2⟩ := Kd.R_reads hR2; subst hv2; have B2 := Aside0.mk (B1.out.trans (hb2.mono B1.out.size)); have C2 := Aside0.mk hC2; clear hR2 hb2 hC2)
  go_wp2_with (go_at_call 23; refine (HTS.out w2 B2.out).mono ?_; rintro e w3 ⟨v3, rfl, hS3, hb3⟩; obtain ⟨A3, c3, hv3, hc3, hC3⟩ := Kd.S_reads hS3; subst hv3; have B3 := Aside0.mk (B2.out.trans (hb3.mono B2.out.size)); have C3 := Aside0.mk hC3; have D2 := Aside0.mk (Kd.C_below C2.out hb3); clear hS3 hb3 hC3)
  go_wp2_with (go_at_call 22; refine (HSP.out A2 c2 A3 c3 w3 D2.out hc2 C3.out hc3).mono ?_; rintro e w4 ⟨v4, rfl, hR4, hb4⟩; obtain ⟨A4, c4, hv4, hc4, hC4⟩ := Kd.R_reads hR4; subst hv4; have B4 := Aside0.mk (B3.out.trans (hb4.mono B3.out.size)); have C4 := Aside0.mk hC4; clear hR4 hb4 hC4)
  go_wp2_with (go_at_call 11; refine (HTO.out w4 B4.out).mono ?_; rintro e w5 ⟨v5, rfl, hR5, hb5⟩; obtain ⟨A5, c5, hv5, hc5, hC5⟩ := Kd.R_reads hR5; subst hv5; have B5 := Aside0.mk hb5; have R5 := Aside0.mk hR5; have C5 := Aside0.mk hC5; clear hR5 hb5 hC5)
  go_wp2_with (go_at_call 23; refine (HTS.out w5 (B4.out.trans (B5.out.mono B4.out.size))).mono ?_; rintro e w6 ⟨v6, rfl, hS6, hb6⟩; obtain ⟨A6, c6, hv6, hc6, hC6⟩ := Kd.S_reads hS6; subst hv6; have B6 := Aside0.mk hb6; have S6 := Aside0.mk hS6; have C6 := Aside0.mk hC6; have D5 := Aside0.mk (Kd.C_below C5.out hb6); clear hS6 hb6 hC6)
  go_wp2_with (go_at_call 24; refine (HIM.out A5 c5 A6 c6 w6 D5.out hc5 C6.out hc6).mono ?_; rintro e w7 ⟨v7, rfl, hR7, hb7⟩; obtain ⟨A7, c7, hv7, hc7, hC7⟩ := Kd.R_reads hR7; subst hv7; have B7 := Aside0.mk hb7; have R7 := Aside0.mk hR7; have C7 := Aside0.mk hC7; clear hR7 hb7 hC7)
  have F47 : Aside0 (Below w4.heap.size w4 w7) := ⟨(B5.out.trans (B6.out.mono B5.out.size)).trans (B7.out.mono (Nat.le_trans B5.out.size B6.out.size))⟩
  have X4 : Aside0 (∀ W', Below w4.heap.size w4 W' → Kd.C kI W' A4 rs.length rs) := ⟨fun W' hb => Kd.C_below C4.out hb⟩
  go_wp2_with (go_at_call 13; refine (HEG.out A7 c7 A4 c4 w7 C7.out hc7 (X4.out w7 F47.out) hc4).mono ?_; rintro e w8 ⟨rfl, hd⟩; have E8 := Aside0.mk hd.below; clear hd)
  have F48 : Aside0 (Below w4.heap.size w4 w8) := ⟨F47.out.trans (E8.out.mono F47.out.size)⟩
  go_wp2_with (go_at_call 11; refine (HTO.out w8 (B4.out.trans (F48.out.mono B4.out.size))).mono ?_; rintro e w9 ⟨v9, rfl, hR9, hb9⟩; obtain ⟨A9, c9, hv9, hc9, hC9⟩ := Kd.R_reads hR9; subst hv9; have E9 := Aside0.mk (E8.out.trans (hb9.mono E8.out.size)); have C9 := Aside0.mk hC9; clear hR9 hb9 hC9)
  have D9 : Aside0 (Kd.C kI w9 A5 l0.length l0) := ⟨Kd.C_below C5.out (B6.out.trans ((B7.out.trans (E9.out.mono B7.out.size)).mono B6.out.size))⟩
  go_wp2_with (go_at_call 13; refine (HEX.out A5 c5 A9 c9 w9 D9.out hc5 C9.out hc9).mono ?_; rintro e w10 ⟨rfl, hd⟩; have E10 := Aside0.mk (E9.out.trans (hd.below.mono E9.out.size)); clear hd)
  have F410 : Aside0 (Below w4.heap.size w4 w10) := ⟨F47.out.trans (E10.out.mono F47.out.size)⟩
  go_wp2_with (go_at_call 23; refine (HTS.out w10 (B4.out.trans (F410.out.mono B4.out.size))).mono ?_; rintro e w11 ⟨v11, rfl, hS11, hb11⟩; obtain ⟨A11, c11, hv11, hc11, hC11⟩ := Kd.S_reads hS11; subst hv11; have E11 := Aside0.mk (E10.out.trans (hb11.mono E10.out.size)); have C11 := Aside0.mk hC11; clear hS11 hb11 hC11)
  have D11 : Aside0 (Kd.C kRow w11 A6 l1.length l1) := ⟨Kd.C_below C6.out (B7.out.trans (E11.out.mono B7.out.size))⟩
  go_wp2_with (go_at_call 18; refine (HES.out A6 c6 A11 c11 w11 D11.out hc6 C11.out hc11).mono ?_; rintro e w12 ⟨rfl, hd⟩; have E12 := Aside0.mk (E11.out.trans (hd.below.mono E11.out.size)); clear hd)
  have F412 : Aside0 (Below w4.heap.size w4 w12) := ⟨F47.out.trans (E12.out.mono F47.out.size)⟩
  have R12 : Aside0 (Kd.R kI 3 w12 w4.heap.size (fun k => k < w5.heap.size) (.slice A5 l0.length c5) l0) := ⟨Kd.R_below (Kd.R_mono (Kd.R_bound R5.out) (fun k hk => hk.2.2.1)) (B6.out.trans ((B7.out.trans (E12.out.mono B7.out.size)).mono B6.out.size))⟩
  have S12 : Aside0 (Kd.S kRow 22 w12 w5.heap.size (fun k => w5.heap.size ≤ k ∧ k < w6.heap.size) (.slice A6 l1.length c6) l1) := ⟨Kd.S_below (Kd.S_mono (Kd.S_bound S6.out) (fun k hk => ⟨hk.2.1, hk.2.2.1⟩)) (B7.out.trans (E12.out.mono B7.out.size))⟩
  have G12 : Aside0 (Kd.R kI 3 w12 w6.heap.size (fun k => w6.heap.size ≤ k) (.slice A7 rs.length c7) rs) := ⟨Kd.R_below (Kd.R_mono (Kd.R_bound R7.out) (fun k hk => hk.2.1)) E12.out⟩
  go_wp2_with (go_at_call 14; refine (HMX.out _ _ w4 w12 F412.out R12.out).mono ?_; rintro e w13 ⟨rfl, _, hb13, hk13⟩; have F413 := Aside0.mk hb13; have S13 := Aside0.mk (Kd.S_kept S12.out hk13 (fun k h1 h2 => Nat.lt_irrefl _ (Nat.lt_of_lt_of_le h2 h1.1))); have G13 := Aside0.mk (Kd.R_kept G12.out hk13 (fun k h1 h2 => Nat.lt_irrefl _ (Nat.lt_of_lt_of_le h2 (Nat.le_trans B6.out.size h1)))); clear hb13 hk13)
  have T13 := Aside0.mk (Kd.S_lower S13.out B5.out.size)
  go_wp2_with (go_at_call 19; refine (HMS.out w4 w13 _ _ F413.out T13.out).mono ?_; rintro e w14 ⟨rfl, _, hb14, hk14⟩; have F414 := Aside0.mk hb14; have G14 := Aside0.mk (Kd.R_kept G13.out hk14 (fun k h1 h2 => Nat.lt_irrefl _ (Nat.lt_of_lt_of_le h2.2 h1))); clear hb14 hk14)
  go_wp2_with (go_at_call 13; refine (HEG.out A7 c7 A4 c4 w14 (Kd.R_reads' G14.out).2.2 hc7 (X4.out w14 F414.out) hc4).mono ?_; rintro e w15 ⟨rfl, hd⟩; have E15 := Aside0.mk hd.below; clear hd)
  have F415 : Aside0 (Below w4.heap.size w4 w15) := ⟨F414.out.trans (E15.out.mono F414.out.size)⟩
  have G15 : Aside0 (Kd.R kI 3 w15 w4.heap.size (fun k => w6.heap.size ≤ k) (.slice A7 rs.length c7) rs) := ⟨Kd.R_lower (Kd.R_below G14.out E15.out) (Nat.le_trans B5.out.size B6.out.size)⟩
  go_wp2_with (go_at_call 14; refine (HMG.out _ _ w4 w15 F415.out G15.out).mono ?_; rintro e w16 ⟨rfl, hR16, hb16, _⟩; have F416 := Aside0.mk hb16; have R16 := Aside0.mk hR16; clear hR16 hb16)
  have Y16 : Aside0 (∀ W', Below w16.heap.size w16 W' → Kd.C kI W' A7 rs.length (marks 1 rs.length)) := ⟨fun W' hb => by have h := (Kd.R_reads' (Kd.R_below R16.out hb)).2.2; rwa [marks_length] at h⟩
  go_wp2_with (go_at_call 15; refine (HHE.out A7 c7 w16 (Y16.out w16 (Below.refl _ _)) hc7).mono ?_; rintro e w17 ⟨rfl, hd⟩; have E17 := Aside0.mk hd.below; clear hd)
  have F417 : Aside0 (Below w4.heap.size w4 w17) := ⟨F416.out.trans (E17.out.mono F416.out.size)⟩
  go_wp2_with (go_at_call 11; refine (HTO.out w17 (B4.out.trans (F417.out.mono B4.out.size))).mono ?_; rintro e w18 ⟨v18, rfl, hR18, hb18⟩; obtain ⟨A18, c18, hv18, hc18, hC18⟩ := Kd.R_reads hR18; subst hv18; have E18 := Aside0.mk (E17.out.trans (hb18.mono E17.out.size)); have C18 := Aside0.mk hC18; clear hR18 hb18 hC18)
  have F418 : Aside0 (Below w4.heap.size w4 w18) := ⟨F416.out.trans (E18.out.mono F416.out.size)⟩
  go_wp2_with (go_at_call 23; refine (HTS.out w18 (B4.out.trans (F418.out.mono B4.out.size))).mono ?_; rintro e w19 ⟨v19, rfl, hS19, hb19⟩; obtain ⟨A19, c19, hv19, hc19, hC19⟩ := Kd.S_reads hS19; subst hv19; have E19 := Aside0.mk (E18.out.trans (hb19.mono E18.out.size)); have C19 := Aside0.mk hC19; have D18 := Aside0.mk (Kd.C_below C18.out hb19); clear hS19 hb19 hC19)
  go_wp2_with (go_at_call 24; refine (HIM.out A18 c18 A19 c19 w19 D18.out hc18 C19.out hc19).mono ?_; rintro e w20 ⟨v20, rfl, hR20, hb20⟩; obtain ⟨A20, c20, hv20, hc20, hC20⟩ := Kd.R_reads hR20; subst hv20; have E20 := Aside0.mk (E19.out.trans (hb20.mono E19.out.size)); have C20 := Aside0.mk hC20; clear hR20 hb20 hC20)
  have F420 : Aside0 (Below w4.heap.size w4 w20) := ⟨F416.out.trans (E20.out.mono F416.out.size)⟩
  go_wp2_with (go_at_call 13; refine (HEG.out A20 c20 A4 c4 w20 C20.out hc20 (X4.out w20 F420.out) hc4).mono ?_; rintro e w21 ⟨rfl, hd⟩; have E21 := Aside0.mk (E20.out.trans (hd.below.mono E20.out.size)); clear hd)
  go_wp2_with (go_at_call 15; refine (HHE.out A7 c7 w21 (Y16.out w21 E21.out) hc7).mono ?_; rintro e w22 ⟨rfl, hd⟩; have E22 := Aside0.mk (E21.out.trans (hd.below.mono E21.out.size)); clear hd)
  go_ret
  exact ⟨rfl, B4.out.trans ((F416.out.trans (E22.out.mono F416.out.size)).mono B4.out.size)⟩
end Go.Proofs.Ytfhaclkjiolmjaa.Q

namespace Go.Proofs.Ytfhaclkjiolmjaa.HO
open Go.ChangeShapes Go.WideShapes Go.Deep Go.RowKit Go.Proofs.YtfhaclkjiolmjaaW.PrintWords
set_option linter.unusedVariables false
section
variable {H : Type} {enc : TypeId × Value → H} {P : Program} {w : World} {base : Nat} {spare : Nat → Bool} {held : Bool}

/-- A slice of structs of n whole numbers each, opened: F i j is field j of element i. -/
theorem open_ints_struct {t e : TypeId} {fs : Array Field} {fuel : Nat} {cs : List Value} {x : DataW H × List MemPlace} (ht : P.underlying t = some (.slice e)) (he : P.underlying e = some (.struct fs))
    (hone : oneCellFields P fs = true) (hC : P.cellsOf e = fs.size) (hk : ∀ (j : Nat) (f : Field), fs[j]? = some f → P.underlying f.type = some (.int .i64)) (h : DataW.trod enc P w base spare held fuel t cs = some x) :
    (cs = [.slice none 0 0] ∧ x = (.nil, [])) ∨
    ∃ (a : Addr) (len cap : Nat) (F : Nat → Nat → Int) (el sp : List (DataW H)) (ps : List MemPlace), cs = [.slice (some a) len cap] ∧ len ≤ cap ∧ cap ≤ maxLen ∧ x = (.slice el sp, ps) ∧ el.length = len ∧
      ∀ i, i < len → ∀ j, j < fs.size → w.cell? (a.add (i * fs.size + j)) = some (.int .i64 (F i j)) ∧ (Lit.int .i64 (F i j)).wf = true := by
  rcases open_slice ht h with h0 | ⟨a, len, cap, m, n, D, Pl, hcs, hb, hl, hm, hmm, hx, hi⟩
  · exact .inl h0
  · have hlm : len ≤ m := by rw [hmm]; split <;> omega
    have key : ∀ i, i < len → ∃ G : Nat → Int, ∀ j, j < fs.size → w.cell? (a.add (i * fs.size + j)) = some (.int .i64 (G j)) ∧ (Lit.int .i64 (G j)).wf = true := fun i hil => by
      obtain ⟨cs', hc, ht'⟩ := hi i (by omega)
      rw [hC] at hc
      obtain ⟨ys, n', hn', hy, hlen, hyl, hf⟩ := DataW.trod_struct he ht'
      obtain ⟨_, hcl, hat⟩ := World.cells?_some hc
      refine choose_lt (α := Int) (p := fun j v => w.cell? (a.add (i * fs.size + j)) = some (.int .i64 v) ∧ (Lit.int .i64 v).wf = true) (fun j hj => ?_)
      have hfj : fs[j]? = some fs[j] := Array.getElem?_eq_getElem hj
      obtain ⟨ho, hk1⟩ := hone_of hone j _ hfj
      have hcell := hat j hj
      have hv : cs'[j]? = some (cs'[j]'(by omega)) := List.getElem?_eq_getElem (by omega)
      have h1 := hf j _ hfj
      rw [ho, hk1] at h1
      have hone' : (cs'.drop j).take 1 = [cs'[j]'(by omega)] := by
        rw [List.drop_eq_getElem_cons (by omega)]
        rfl
      rw [hone'] at h1
      have hys : ys[j]? = some (ys[j]'(by omega)) := List.getElem?_eq_getElem (by omega)
      obtain ⟨v, e0, _, wv⟩ := DataW.trod_int (hk j _ hfj) (h1.trans hys)
      refine ⟨v, ?_, wv⟩
      rw [← Go.Deep.add_add, hcell, hv]
      simp only [List.cons.injEq, and_true] at e0
      rw [e0]
    obtain ⟨F, hF⟩ := choose_lt (α := Nat → Int) (p := fun i G => ∀ j, j < fs.size → w.cell? (a.add (i * fs.size + j)) = some (.int .i64 (G j)) ∧ (Lit.int .i64 (G j)).wf = true) key
    exact .inr ⟨a, len, cap, F, _, _, _, hcs, hl, hm, hx, by simp, hF⟩

/-- The same of an argument: the numbers, and how many at most. -/
theorem open_structs {t e : TypeId} {fs : Array Field} {a : Option Addr} {len cap : Nat} {d : DataW H} {ps : List MemPlace} {ts : List TypeId} {ds : List (DataW H)} {j : Nat}
    (hsz : (DataW.weightsEach P ts ds).all (· ≤ reachBytes) = true) (htj : ts[j]? = some t) (hdj : ds[j]? = some d) (ht : P.underlying t = some (.slice e)) (he : P.underlying e = some (.struct fs))
    (hone : oneCellFields P fs = true) (hC : P.cellsOf e = fs.size) (hk : ∀ (j : Nat) (f : Field), fs[j]? = some f → P.underlying f.type = some (.int .i64)) {B : Nat} (hB : P.bytesOf e = B)
    (h : DataW.Trod enc P w base spare held t (.slice a len cap) d ps) :
    ∃ F : Nat → Nat → Int, len ≤ cap ∧ len ≤ maxLen ∧ len * B ≤ 140737488351232 ∧ (0 < len → ∃ ad, a = some ad ∧ ∀ i, i < len → ∀ j, j < fs.size → w.cell? (ad.add (i * fs.size + j)) = some (.int .i64 (F i j))) ∧ ∀ i, i < len → ∀ j, j < fs.size → (Lit.int .i64 (F i j)).wf = true := by
  obtain ⟨fuel, hf⟩ := h
  rcases open_ints_struct ht he hone hC hk hf with ⟨hcs, _⟩ | ⟨x, l, c, F, el, sp, ps', hcs, hl, hm, hx, hel, hF⟩
  · simp [Value.cells] at hcs
    obtain ⟨rfl, rfl, rfl⟩ := hcs
    exact ⟨fun _ _ => 0, by omega, by omega, by omega, fun h => absurd h (by omega), fun i hi => absurd hi (by omega)⟩
  · simp [Value.cells] at hcs
    obtain ⟨rfl, rfl, rfl⟩ := hcs
    obtain ⟨hx, _⟩ := Prod.mk.inj hx
    subst hx
    have z := sized_slice hsz htj hdj ht
    rw [hB, hel] at z
    refine ⟨F, hl, by omega, ?_, fun _ => ⟨x, rfl, fun i hi j hj => (hF i hi j hj).1⟩, fun i hi j hj => (hF i hi j hj).2⟩
    have : reachBytes = 140737488351232 := by decide
    rw [this] at z
    exact Nat.le_trans (Nat.mul_le_mul_right _ (by omega)) z

/-- A struct of two whole numbers, by value. -/
theorem open_pair {r : Reach} {b0 : Nat} {t : TypeId} {f0 f1 : Field} {v : Value} {d : DataW H} {p : List MemPlace} (hs : P.underlying t = some (.struct #[f0, f1])) (hone : oneCellFields P #[f0, f1] = true) (hC : P.cellsOf t = 2)
    (h0 : P.underlying f0.type = some (.int .i64)) (h1 : P.underlying f1.type = some (.int .i64)) (hv : Value.okWide P w r b0 t v) (h : DataW.Trod enc P w base spare held t v d p) :
    ∃ x y : Int, v = .agg #[.int .i64 x, .int .i64 y] ∧ p = [] ∧ (Lit.int .i64 x).wf = true ∧ (Lit.int .i64 y).wf = true := by
  obtain ⟨v0, v1, y0, y1, n, rfl, rfl, rfl, g0, g1⟩ := Go.Joins.open_agg2 hs hone hC hv h
  obtain ⟨x, e0, rfl, w0⟩ := DataW.trod_int h0 g0
  obtain ⟨y, e1, rfl, w1⟩ := DataW.trod_int h1 g1
  simp only [List.cons.injEq, and_true] at e0 e1
  subst e0 e1
  exact ⟨x, y, rfl, rfl, w0, w1⟩
end
end Go.Proofs.Ytfhaclkjiolmjaa.HO

namespace Go.Proofs.Ytfhaclkjiolmjaa.HO
open Go.ChangeShapes Go.WideShapes Go.Deep Go.RowKit Go.Proofs.YtfhaclkjiolmjaaW.PrintWords Go.Proofs.YtfhaclkjiolmjaaW.PrintLast
set_option linter.unusedVariables false
section
variable {H : Type} {enc : TypeId × Value → H} {P : Program} {w : World} {base : Nat} {held : Bool}
/-- A slice of slices of whole numbers, of an argument, opened: the rows. -/
theorem open_rows {t e q : TypeId} {a : Option Addr} {len cap : Nat} {d : DataW H} {ps : List MemPlace} {ts : List TypeId} {ds : List (DataW H)} {j : Nat}
    (hsz : (DataW.weightsEach P ts ds).all (· ≤ reachBytes) = true) (htj : ts[j]? = some t) (hdj : ds[j]? = some d) (ht : P.underlying t = some (.slice e)) (he : P.underlying e = some (.slice q)) (hq : P.underlying q = some (.int .i64))
    (ce : P.cellsOf e = 1) (cq : P.cellsOf q = 1) (hB : P.bytesOf e = 24)
    (h : DataW.Trod enc P w base (fun _ => true) held t (.slice a len cap) d ps) :
    ∃ l : List (List Int), l.length = len ∧ len ≤ cap ∧ len * 24 ≤ 140737488351232 ∧ Kd.C (Kd.slice q (Kd.int .i64)) w a l.length l ∧ ∀ y ∈ l, y.length ≤ maxLen := by
  obtain ⟨fuel, hf⟩ := h
  rcases open_int_rows ht he hq ce cq hf with ⟨hcs, _⟩ | ⟨x, n, c, A, L, C, Z, hcs, _, hl, hm, hx, hr⟩
  · simp [Value.cells] at hcs
    obtain ⟨rfl, rfl, rfl⟩ := hcs
    exact ⟨[], rfl, Nat.le_refl _, by omega, Kd.C_nil _ _, by simp⟩
  · simp [Value.cells] at hcs
    obtain ⟨rfl, rfl, rfl⟩ := hcs
    obtain ⟨hx, _⟩ := Prod.mk.inj hx
    subst hx
    have z := sized_slice hsz htj hdj ht
    rw [hB, List.length_map, List.length_range, List.length_map, List.length_range] at z
    have hreach : reachBytes = 140737488351232 := by decide
    rw [hreach] at z
    refine ⟨(List.range len).map fun r => (Z r).take (L r), by simp, hl, Nat.le_trans (Nat.mul_le_mul_right _ (by omega)) z, ⟨rfl, by unfold maxLen at hm; simp; omega, fun _ => ⟨x, rfl, fun i p hp => ?_⟩⟩, fun y hy => ?_⟩
    · rw [List.getElem?_map] at hp
      obtain ⟨i', hi', rfl⟩ := Option.map_eq_some_iff.1 hp
      have hil : i < len := by have := (List.getElem?_eq_some_iff.1 hi').1; simpa using this
      have hii : i = i' := by rw [List.getElem?_range hil] at hi'; injection hi'
      subst hii
      obtain ⟨h1, h2, h3, h4, h5, h6, h7⟩ := hr i (by omega)
      have hlen : ((Z i).take (L i)).length = L i := by rw [List.length_take]; omega
      refine ⟨[.slice (A i) (L i) (C i)], rfl, ⟨A i, C i, by rw [hlen], by rw [hlen]; exact h2, ⟨rfl, by rw [hlen]; unfold maxLen at h3; omega, fun hp0 => ?_⟩⟩, fun u v hu => ?_⟩
      · rw [hlen] at hp0
        cases hA : A i with
        | none => have := h6 hA; omega
        | some a' =>
          obtain ⟨_, h8⟩ := h7 a' hA
          refine ⟨a', rfl, fun k p hk => ?_⟩
          have hkl : k < L i := by have := (List.getElem?_eq_some_iff.1 hk).1; rw [hlen] at this; exact this
          have hc := h8 k (by omega)
          have hpv : (Z i).getD k 0 = p := by
            rw [List.getElem?_take_of_lt hkl] at hk
            rw [List.getD_eq_getElem?_getD, hk]; rfl
          rw [hpv] at hc
          refine ⟨[.int .i64 p], rfl, rfl, fun u v hu => ?_⟩
          match u, hu with
          | 0, hu => injection hu with hu; subst hu; show w.cell? (a'.add (k * 1 + 0)) = _; rw [Nat.mul_one, Nat.add_zero]; exact hc
          | u + 1, hu => simp at hu
      · match u, hu with
        | 0, hu => injection hu with hu; subst hu; simpa [Kd.slice] using h1
        | u + 1, hu => simp at hu
    · obtain ⟨r, hr', rfl⟩ := List.mem_map.1 hy
      rw [List.mem_range] at hr'
      obtain ⟨_, h2, h3, h4, _⟩ := hr r (by omega)
      rw [List.length_take]; omega
end
end Go.Proofs.Ytfhaclkjiolmjaa.HO
