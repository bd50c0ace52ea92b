/-
  Part 2 of the proof of FnExactFullPatterns: what Go functions that it reaches compute, each shown by a walk of its code, and plain laws on numbers and lists.
  CONDITIONS: each theorem's own, as stated.
-/
import Derived.Test.YtfhaclkjiolmjaaZFnExactFullPatterns1
import Derived.Deep.RegionHeld3
import Derived.IntWalk
import Derived.Laws.EntriesVeiled
namespace Go.Proofs.Ytfhaclkjiolmjaa.Q
open Go.RowKit Go.Proofs.YtfhaclkjiolmjaaW.PrintWords Go.Proofs.YtfhaclkjiolmjaaW.PrintLast Go.Proofs.YtfhaclkjiolmjaaW.PrintMore
attribute [local go_sem] max2_int min2_int max_two min_two max_three min_three max_four min_four   -- for this text's walks alone
set_option linter.unusedVariables false
set_option linter.unusedSimpArgs false

/-! ### spec_LeftOver: function 22 -/
mutual
def spec_LeftOver.j0 : Nat → List Int → List (List Int) → Bool → Option (List Int × Bool)
  | 0, _, _, _ => none
  | k + 1, x0, x1, x18 => if x18 = true then (some (([] : List Int), false)) else ((spec_l1Own.f x0).bind fun t218 => (spec_LeftOver.l0 k x0 t218 x1 (x1.length : Int) 0))
def spec_LeftOver.l0 : Nat → List Int → List Int → List (List Int) → Int → Int → Option (List Int × Bool)
  | 0, _, _, _, _, _ => none
  | k + 1, x0, x6, x21, x22, x23 => if x23 < x22 then (if 0 ≤ x23 then (if x23 < (x21.length : Int) then (if ((rd_L1 x21 x23).length : Int) = (x0.length : Int) then ((spec_l1All.f k (rd_L1 x21 x23) 0 6).bind fun t223 => (spec_LeftOver.j2 k x0 x6 (rd_L1 x21 x23) x21 x22 x23 (!t223))) else (spec_LeftOver.j2 k x0 x6 (rd_L1 x21 x23) x21 x22 x23 true)) else (none)) else (none)) else ((spec_l1All.f k x6 0 6).bind fun t221 => (if t221 = true then (some (x6, true)) else (some (([] : List Int), false))))
def spec_LeftOver.j2 : Nat → List Int → List Int → List Int → List (List Int) → Int → Int → Bool → Option (List Int × Bool)
  | 0, _, _, _, _, _, _, _ => none
  | k + 1, x0, x6, x8, x21, x22, x23, x36 => if x36 = true then (some (([] : List Int), false)) else (spec_LeftOver.l1 k x0 x6 x21 x22 x23 x8 (x8.length : Int) 0)
def spec_LeftOver.l1 : Nat → List Int → List Int → List (List Int) → Int → Int → List Int → Int → Int → Option (List Int × Bool)
  | 0, _, _, _, _, _, _, _, _ => none
  | k + 1, x0, x6, x21, x22, x23, x37, x38, x39 => if x39 < x38 then (if 0 ≤ x39 then (if x39 < (x37.length : Int) then (if x39 < (x6.length : Int) then (spec_LeftOver.l1 k x0 (x6.set (x39 : Int).toNat (wrap64 ((rd x6 x39) - (rd x37 x39)))) x21 x22 x23 x37 x38 (wrap64 (x39 + 1))) else (none)) else (none)) else (none)) else (spec_LeftOver.l0 k x0 x6 x21 x22 (wrap64 (x23 + 1)))
end
def spec_LeftOver.f (k : Nat) (l0 : List Int) (l1 : List (List Int)) : Option (List Int × Bool) := (spec_rdCounts.f k l0).bind fun t217 => (if t217 = true then (spec_LeftOver.j0 k l0 l1 (decide ((l1.length : Int) > 20))) else (spec_LeftOver.j0 k l0 l1 true))
theorem spec_LeftOver.mono_l : ∀ k, (∀ y0 y1 y2, LeO (spec_LeftOver.j0 k y0 y1 y2) (spec_LeftOver.j0 (k + 1) y0 y1 y2)) ∧ (∀ y0 y1 y2 y3 y4, LeO (spec_LeftOver.l0 k y0 y1 y2 y3 y4) (spec_LeftOver.l0 (k + 1) y0 y1 y2 y3 y4)) ∧ (∀ y0 y1 y2 y3 y4 y5 y6, LeO (spec_LeftOver.j2 k y0 y1 y2 y3 y4 y5 y6) (spec_LeftOver.j2 (k + 1) y0 y1 y2 y3 y4 y5 y6)) ∧ (∀ y0 y1 y2 y3 y4 y5 y6 y7, LeO (spec_LeftOver.l1 k y0 y1 y2 y3 y4 y5 y6 y7) (spec_LeftOver.l1 (k + 1) y0 y1 y2 y3 y4 y5 y6 y7))
  | 0 => ⟨fun _ _ _ r h => by simp [spec_LeftOver.j0] at h, fun _ _ _ _ _ r h => by simp [spec_LeftOver.l0] at h, fun _ _ _ _ _ _ _ r h => by simp [spec_LeftOver.j2] at h, fun _ _ _ _ _ _ _ _ r h => by simp [spec_LeftOver.l1] at h⟩
  | k + 1 => by
    obtain ⟨ih0, ih1, ih2, ih3⟩ := spec_LeftOver.mono_l k
    refine ⟨?_, ?_, ?_, ?_⟩
    · intro y0 y1 y2
      unfold spec_LeftOver.j0
      repeat' first
      | (with_reducible exact ih0 _ _ _)
      | (with_reducible exact ih1 _ _ _ _ _)
      | (with_reducible exact ih2 _ _ _ _ _ _ _)
      | (with_reducible exact ih3 _ _ _ _ _ _ _ _)
      | (with_reducible exact spec_l1All.mono _ _ _ _)
      | (with_reducible exact spec_rdCounts.mono _ _)
      | (with_reducible exact LeO.refl _)
      | (with_reducible exact LeO.none _)
      | (with_reducible refine LeO.ite ?_ ?_)
      | (with_reducible refine LeO.bind ?_ (fun _ => ?_))
      | exact ih0 _ _ _
      | exact ih1 _ _ _ _ _
      | exact ih2 _ _ _ _ _ _ _
      | exact ih3 _ _ _ _ _ _ _ _
      | exact spec_l1All.mono _ _ _ _
      | exact spec_rdCounts.mono _ _
      | exact LeO.none _
      | refine LeO.ite ?_ ?_
      | refine LeO.bind ?_ (fun _ => ?_)
    · intro y0 y1 y2 y3 y4
      unfold spec_LeftOver.l0
      repeat' first
      | (with_reducible exact ih0 _ _ _)
      | (with_reducible exact ih1 _ _ _ _ _)
      | (with_reducible exact ih2 _ _ _ _ _ _ _)
      | (with_reducible exact ih3 _ _ _ _ _ _ _ _)
      | (with_reducible exact spec_l1All.mono _ _ _ _)
      | (with_reducible exact spec_rdCounts.mono _ _)
      | (with_reducible exact LeO.refl _)
      | (with_reducible exact LeO.none _)
      | (with_reducible refine LeO.ite ?_ ?_)
      | (with_reducible refine LeO.bind ?_ (fun _ => ?_))
      | exact ih0 _ _ _
      | exact ih1 _ _ _ _ _
      | exact ih2 _ _ _ _ _ _ _
      | exact ih3 _ _ _ _ _ _ _ _
      | exact spec_l1All.mono _ _ _ _
      | exact spec_rdCounts.mono _ _
      | exact LeO.none _
      | refine LeO.ite ?_ ?_
      | refine LeO.bind ?_ (fun _ => ?_)
    · intro y0 y1 y2 y3 y4 y5 y6
      unfold spec_LeftOver.j2
      repeat' first
      | (with_reducible exact ih0 _ _ _)
      | (with_reducible exact ih1 _ _ _ _ _)
      | (with_reducible exact ih2 _ _ _ _ _ _ _)
      | (with_reducible exact ih3 _ _ _ _ _ _ _ _)
      | (with_reducible exact spec_l1All.mono _ _ _ _)
      | (with_reducible exact spec_rdCounts.mono _ _)
      | (with_reducible exact LeO.refl _)
      | (with_reducible exact LeO.none _)
      | (with_reducible refine LeO.ite ?_ ?_)
      | (with_reducible refine LeO.bind ?_ (fun _ => ?_))
      | exact ih0 _ _ _
      | exact ih1 _ _ _ _ _
      | exact ih2 _ _ _ _ _ _ _
      | exact ih3 _ _ _ _ _ _ _ _
      | exact spec_l1All.mono _ _ _ _
      | exact spec_rdCounts.mono _ _
      | exact LeO.none _
      | refine LeO.ite ?_ ?_
      | refine LeO.bind ?_ (fun _ => ?_)
    · intro y0 y1 y2 y3 y4 y5 y6 y7
      unfold spec_LeftOver.l1
      repeat' first
      | (with_reducible exact ih0 _ _ _)
      | (with_reducible exact ih1 _ _ _ _ _)
      | (with_reducible exact ih2 _ _ _ _ _ _ _)
      | (with_reducible exact ih3 _ _ _ _ _ _ _ _)
      | (with_reducible exact spec_l1All.mono _ _ _ _)
      | (with_reducible exact spec_rdCounts.mono _ _)
      | (with_reducible exact LeO.refl _)
      | (with_reducible exact LeO.none _)
      | (with_reducible refine LeO.ite ?_ ?_)
      | (with_reducible refine LeO.bind ?_ (fun _ => ?_))
      | exact ih0 _ _ _
      | exact ih1 _ _ _ _ _
      | exact ih2 _ _ _ _ _ _ _
      | exact ih3 _ _ _ _ _ _ _ _
      | exact spec_l1All.mono _ _ _ _
      | exact spec_rdCounts.mono _ _
      | exact LeO.none _
      | refine LeO.ite ?_ ?_
      | refine LeO.bind ?_ (fun _ => ?_)
theorem spec_LeftOver.mono : ∀ a0 a1 k, LeO (spec_LeftOver.f k a0 a1) (spec_LeftOver.f (k + 1) a0 a1) := by
  intro a0 a1 k
  obtain ⟨ih0, ih1, ih2, ih3⟩ := spec_LeftOver.mono_l k
  unfold spec_LeftOver.f
  repeat' first
      | (with_reducible exact ih0 _ _ _)
      | (with_reducible exact ih1 _ _ _ _ _)
      | (with_reducible exact ih2 _ _ _ _ _ _ _)
      | (with_reducible exact ih3 _ _ _ _ _ _ _ _)
      | (with_reducible exact spec_l1All.mono _ _ _ _)
      | (with_reducible exact spec_rdCounts.mono _ _)
      | (with_reducible exact LeO.refl _)
      | (with_reducible exact LeO.none _)
      | (with_reducible refine LeO.ite ?_ ?_)
      | (with_reducible refine LeO.bind ?_ (fun _ => ?_))
      | exact ih0 _ _ _
      | exact ih1 _ _ _ _ _
      | exact ih2 _ _ _ _ _ _ _
      | exact ih3 _ _ _ _ _ _ _ _
      | exact spec_l1All.mono _ _ _ _
      | exact spec_rdCounts.mono _ _
      | exact LeO.none _
      | refine LeO.ite ?_ ?_
      | refine LeO.bind ?_ (fun _ => ?_)
set_option maxHeartbeats 8000000 in
set_option maxRecDepth 100000 in
theorem spec_LeftOver.calls (k : Nat) (A0 : Option Addr) (c0 : Nat) (l0 : List Int) (A1 : Option Addr) (c1 : Nat) (l1 : List (List Int)) (r1 : List Int) (r2 : Bool) (w : World) (hr0 : Kd.C (Kd.int .i64) w A0 l0.length l0) (hc0 : l0.length ≤ c0) (hr1 : Kd.C (Kd.slice 3 (Kd.int .i64)) w A1 l1.length l1) (hc1 : l1.length ≤ c1) (h : spec_LeftOver.f k l0 l1 = some (r1, r2)) :
    Calls Try.prog 22 #[.slice A0 l0.length c0, .slice A1 l1.length c1] w fun e w' => ∃ v0_ : Value, e = .returned (.tuple #[v0_, .bool r2]) ∧ Kd.R (Kd.int .i64) 3 w' w.heap.size (fun _ => True) v0_ r1 ∧ Below w.heap.size w w' := by
  have HR0 := Aside0.mk hr0
  have HC0 := Aside0.mk hc0
  clear hr0 hc0
  have HR1 := Aside0.mk hr1
  have HC1 := Aside0.mk hc1
  clear hr1 hc1
  have HB := Aside0.mk (Below.refl w.heap.size w)
  have H : ((spec_rdCounts.f k l0).bind fun t217 => (if t217 = true then (spec_LeftOver.j0 k l0 l1 (decide ((l1.length : Int) > 20))) else (spec_LeftOver.j0 k l0 l1 true))) = some (r1, r2) := h
  clear h
  have HC3 := Aside0.mk H
  clear H
  go_enter Try.func22, Try.ntmps22
  go_upto_region 1 with (fail)
  go_cut [18] (fun v18 wc => ∃ (kq : Nat) (x18_2 : Bool), v18 = .bool x18_2 ∧ Aside0 (spec_LeftOver.j0 kq l0 l1 x18_2 = some (r1, r2)) ∧ Aside0 (kq ≤ k) ∧ Aside0 (Below w.heap.size w wc))
  case first =>
    have H := HC3.out
    clear HC3
    replace H := Option.bind_eq_some_iff.mp H
    obtain ⟨t217, A40, H⟩ := H
    replace H : (if t217 = true then (spec_LeftOver.j0 k l0 l1 (decide ((l1.length : Int) > 20))) else (spec_LeftOver.j0 k l0 l1 true)) = some (r1, r2) := H
    have A4 := Aside0.mk A40
    clear A40
    by_cases c5 : t217 = true
    · subst c5
      have H1 : (spec_LeftOver.j0 k l0 l1 (decide ((l1.length : Int) > 20))) = some (r1, r2) := by rw [if_pos rfl] at H; exact H
      clear H
      have H := H1
      clear H1
      have H' := Aside0.mk H
      clear H
      go_wp2_with (first | ((with_reducible refine gate_callee (f := 62) rfl ?_); refine goesL_ (some 12) rfl rfl Try.func62 (by kernel_rfl) rfl #[.slice A0 l0.length c0] rfl (by (try simp only [List.map_toArray, List.map_cons, List.map_nil]); first | done | rfl | (simp only [List.length_drop, List.length_take]; rfl)) ?_; (with_reducible refine (spec_rdCounts.calls k _ _ l0 true _ ?side1 ?side2 A4.out).mono ?_); (case side1 => repeat (first | exact (Kd.C_below HR0.out HB.out) | (with_reducible refine Kd.C_alloc ?_ _) | (with_reducible refine Kd.C_drewN ?_ _) | (with_reducible refine Kd.C_drew ?_))); (case side2 => exact HC0.out); rintro e w' ⟨rfl, ⟨nd, rfl⟩⟩; refine ⟨_, rfl, ?_⟩))
      go_meet
      case rel => exact ⟨_, (decide ((l1.length : Int) > 20)), (by first | rfl | (simp; done) | (simp [*]; done)), H', ⟨by first | omega | exact Nat.le_refl _⟩, ⟨by repeat (first | (with_reducible first | exact HB.out | apply below_alloc | apply pw_below_drewN | apply below_drew1) | exact HB.out)⟩⟩
    · replace c5 := Bool.eq_false_iff.mpr c5
      subst c5
      have H1 : (spec_LeftOver.j0 k l0 l1 true) = some (r1, r2) := by rw [if_neg (show ¬ (false = true) by decide)] at H; exact H
      clear H
      have H := H1
      clear H1
      have H' := Aside0.mk H
      clear H
      go_wp2_with (first | ((with_reducible refine gate_callee (f := 62) rfl ?_); refine goesL_ (some 12) rfl rfl Try.func62 (by kernel_rfl) rfl #[.slice A0 l0.length c0] rfl (by (try simp only [List.map_toArray, List.map_cons, List.map_nil]); first | done | rfl | (simp only [List.length_drop, List.length_take]; rfl)) ?_; (with_reducible refine (spec_rdCounts.calls k _ _ l0 false _ ?side1 ?side2 A4.out).mono ?_); (case side1 => repeat (first | exact (Kd.C_below HR0.out HB.out) | (with_reducible refine Kd.C_alloc ?_ _) | (with_reducible refine Kd.C_drewN ?_ _) | (with_reducible refine Kd.C_drew ?_))); (case side2 => exact HC0.out); rintro e w' ⟨rfl, ⟨nd, rfl⟩⟩; refine ⟨_, rfl, ?_⟩))
      go_meet
      case rel => exact ⟨_, (true), (by first | rfl | (simp; done) | (simp [*]; done)), H', ⟨by first | omega | exact Nat.le_refl _⟩, ⟨by repeat (first | (with_reducible first | exact HB.out | apply below_alloc | apply pw_below_drewN | apply below_drew1) | exact HB.out)⟩⟩
  case rest =>
    clear HC3
    try clear c1
    try clear c2
    try clear p2
    try clear c5
    obtain ⟨kq, x18_2, rfl, HA, HJ2, HB⟩ := hcut
    cases kq with
    | zero => exact absurd HA.out (by simp [spec_LeftOver.j0])
    | succ kj2 =>
      have H := HA.out
      clear HA
      simp only [spec_LeftOver.j0] at H
      by_cases c6 : x18_2 = true
      · subst c6
        have H1 : (some (([] : List Int), false)) = some (r1, r2) := by rw [if_pos rfl] at H; exact H
        clear H
        have H := H1
        clear H1
        simp only [Option.some.injEq, Prod.mk.injEq] at H
        obtain ⟨rfl, rfl⟩ := H
        go_wp2
        go_ret2
        exact ⟨_, by first | rfl | (simp [errW_none, errW_some] <;> rfl) | (simp [*, errW_none, errW_some] <;> rfl), by first | exact Kd.R_nil _ _ _ _ _ | exact Kd.N_nil _ _ _ _ _ | exact Kd.V_nil _ _ _ _ _ | exact Kd.Q_nil _ _ _ _ _ | exact Kd.S_nil _ _ _ _ _, by repeat (first | (with_reducible first | exact HB.out | apply below_alloc | apply pw_below_drewN | apply below_drew1) | exact HB.out)⟩
      · replace c6 := Bool.eq_false_iff.mpr c6
        subst c6
        have H1 : ((spec_l1Own.f l0).bind fun t218 => (spec_LeftOver.l0 kj2 l0 t218 l1 (l1.length : Int) 0)) = some (r1, r2) := by rw [if_neg (show ¬ (false = true) by decide)] at H; exact H
        clear H
        have H := H1
        clear H1
        replace H := Option.bind_eq_some_iff.mp H
        obtain ⟨t218, A70, H⟩ := H
        replace H : (spec_LeftOver.l0 kj2 l0 t218 l1 (l1.length : Int) 0) = some (r1, r2) := H
        have A7 := Aside0.mk A70
        clear A70
        have H' := Aside0.mk H
        clear H
        go_wp2_with (first | ((with_reducible refine gate_callee (f := 63) rfl ?_); refine goesL_ (some 20) rfl rfl Try.func63 (by kernel_rfl) rfl #[.slice A0 l0.length c0] rfl (by (try simp only [List.map_toArray, List.map_cons, List.map_nil]); first | done | rfl | (simp only [List.length_drop, List.length_take]; rfl)) ?_; (with_reducible refine (spec_l1Own.calls _ _ l0 t218 _ ?side1 ?side2 A7.out).mono ?_); (case side1 => repeat (first | exact (Kd.C_below HR0.out HB.out) | (with_reducible refine Kd.C_alloc ?_ _) | (with_reducible refine Kd.C_drewN ?_ _) | (with_reducible refine Kd.C_drew ?_))); (case side2 => exact HC0.out); rintro e w8 ⟨v219, rfl, ho0, hb⟩; refine ⟨_, rfl, ?_⟩; have n0_ := Aside0.mk (Kd.R_lower ho0 (below_size (by repeat (first | (with_reducible first | exact HB.out | apply below_alloc | apply pw_below_drewN | apply below_drew1) | exact HB.out)))); have n1_ := Aside0.mk (below_step (by repeat (first | (with_reducible first | exact HB.out | apply below_alloc | apply pw_below_drewN | apply below_drew1) | exact HB.out)) hb); clear HB; have HO220 := n0_; have HB := n1_; clear n0_ n1_; (try clear hb); (try clear hb2); (try clear hk); (try clear hi); (try clear ho0)))
        go_loopg [23] kj2 (fun kq v23 w' => ∃ (x6_2 : List Int) (x23_2 : Int), v23 = .int .i64 x23_2 ∧ Aside0 (spec_LeftOver.l0 kq l0 x6_2 l1 (l1.length : Int) x23_2 = some (r1, r2)) ∧ Aside0 (kq ≤ kj2) ∧ Aside0 (Kd.R (Kd.int .i64) 3 w' w.heap.size (fun _ => True) v219 x6_2) ∧ Aside0 (Below w.heap.size w w'))
        case atStart => exact ⟨(t218), (0), (by first | rfl | (simp; done) | (simp [*]; done)), H', ⟨Nat.le_refl _⟩, ⟨by (with_reducible repeat (first | apply Kd.R_alloc | apply Kd.R_drewN | apply Kd.R_drew)); exact HO220.out⟩, ⟨by repeat (first | (with_reducible first | exact HB.out | apply below_alloc | apply pw_below_drewN | apply below_drew1) | exact HB.out)⟩⟩
        case round =>
          clear H'
          try clear c1
          try clear c2
          try clear p2
          try clear c5
          try clear c6
          try clear p2
          obtain ⟨x6_2, x23_2, rfl, HA, HK2, HO_6, HB⟩ := hrel
          cases gk with
          | zero => exact absurd HA.out (by simp [spec_LeftOver.l0])
          | succ k2 =>
            have H := HA.out
            clear HA
            simp only [spec_LeftOver.l0] at H
            by_cases c9 : x23_2 < (l1.length : Int)
            · rw [if_pos c9] at H
              have c9b0 : decide (x23_2 < (l1.length : Int)) = true := decide_eq_true c9
              clear c9
              by_cases c10 : 0 ≤ x23_2
              · rw [if_pos c10] at H
                have c10b0 : decide (0 ≤ x23_2) = true := decide_eq_true c10
                clear c10
                by_cases c11 : x23_2 < (l1.length : Int)
                · rw [if_pos c11] at H
                  have c11b0 : decide (x23_2 < (l1.length : Int)) = true := decide_eq_true c11
                  clear c11
                  have HC12 := Aside0.mk H
                  clear H
                  have p222 : 0 ≤ (x23_2 : Int) := of_decide_eq_true (by first | (with_reducible assumption) | assumption)
                  have q222 : x23_2 < (l1.length : Int) := of_decide_eq_true (by first | (with_reducible assumption) | assumption)
                  obtain ⟨ad222, A222_0, c222_0, e222, hx222_0, hl222_0, hi222_0⟩ := at_L1 HR1.out x23_2 p222 q222
                  cases e222
                  replace hx222_0 := (HB.out.cell (World.block_lt_of_cell? w _ hx222_0)).trans hx222_0
                  have HR222_0 := Aside0.mk hi222_0
                  have HC222_0 := Aside0.mk hl222_0
                  clear hi222_0 hl222_0
                  replace p222 := eq_true p222
                  replace q222 := eq_true q222
                  go_upto_region 7 with (fail)
                  go_cut [36] (fun v36 wc => ∃ (kq : Nat) (x36_11 : Bool), v36 = .bool x36_11 ∧ Aside0 (spec_LeftOver.j2 kq l0 x6_2 (rd_L1 l1 x23_2) l1 (l1.length : Int) x23_2 x36_11 = some (r1, r2)) ∧ Aside0 (kq ≤ k2) ∧ Aside0 (Kd.R (Kd.int .i64) 3 wc w.heap.size (fun _ => True) v219 x6_2) ∧ Aside0 (Below w.heap.size w wc))
                  case first =>
                    have H := HC12.out
                    clear HC12
                    by_cases c13 : ((rd_L1 l1 x23_2).length : Int) = (l0.length : Int)
                    · rw [if_pos c13] at H
                      have c13b0 : (((rd_L1 l1 x23_2).length : Int) == (l0.length : Int)) = true := beq_iff_eq.mpr c13
                      have c13b1 : (((rd_L1 l1 x23_2).length : Int) != (l0.length : Int)) = false := bne_eq_false_iff_eq.mpr c13
                      have c13b2 : ((rd_L1 l1 x23_2).length == l0.length) = true := by first | simpa using c13 | (simp at c13 ⊢; omega)
                      clear c13
                      (first | rw [c13b0] | (simp only [i64_w, i32_w]; rw [c13b0]) | skip)
                      replace H := Option.bind_eq_some_iff.mp H
                      obtain ⟨t223, A140, H⟩ := H
                      replace H : (spec_LeftOver.j2 k2 l0 x6_2 (rd_L1 l1 x23_2) l1 (l1.length : Int) x23_2 (!t223)) = some (r1, r2) := H
                      have A14 := Aside0.mk A140
                      clear A140
                      have H' := Aside0.mk H
                      clear H
                      go_wp2_with (first | (go_at_call 64; (with_reducible refine (spec_l1All.calls k2 _ _ (rd_L1 l1 x23_2) 0 6 t223 _ ?side1 ?side2 A14.out).mono ?_); (case side1 => repeat (first | exact (Kd.C_below HR222_0.out HB.out) | (with_reducible refine Kd.C_alloc ?_ _) | (with_reducible refine Kd.C_drewN ?_ _) | (with_reducible refine Kd.C_drew ?_))); (case side2 => exact HC222_0.out); rintro e w' ⟨rfl, ⟨nd, rfl⟩⟩))
                      go_meet
                      case rel => exact ⟨_, (!t223), (by first | rfl | (simp; done) | (simp [*]; done)), H', ⟨by have := HJ2.out; have := HK2.out; first | omega | exact Nat.le_refl _⟩, ⟨by (with_reducible repeat (first | apply Kd.R_alloc | apply Kd.R_drewN | apply Kd.R_drew)); exact HO_6.out⟩, ⟨by repeat (first | (with_reducible first | exact HB.out | apply below_alloc | apply pw_below_drewN | apply below_drew1) | exact HB.out)⟩⟩
                    · rw [if_neg c13] at H
                      have c13b0 : (((rd_L1 l1 x23_2).length : Int) == (l0.length : Int)) = false := beq_eq_false_iff_ne.mpr c13
                      have c13b1 : (((rd_L1 l1 x23_2).length : Int) != (l0.length : Int)) = true := bne_iff_ne.mpr c13
                      have c13b2 : ((rd_L1 l1 x23_2).length == l0.length) = false := by first | simpa using c13 | (simp at c13 ⊢; omega)
                      (first | rw [c13b0] | (simp only [i64_w, i32_w]; rw [c13b0]) | skip)
                      have H' := Aside0.mk H
                      clear H
                      go_wp2
                      go_meet
                      case rel => exact ⟨_, (true), (by first | rfl | (simp; done) | (simp [*]; done)), H', ⟨by have := HJ2.out; have := HK2.out; first | omega | exact Nat.le_refl _⟩, ⟨by (with_reducible repeat (first | apply Kd.R_alloc | apply Kd.R_drewN | apply Kd.R_drew)); exact HO_6.out⟩, ⟨by repeat (first | (with_reducible first | exact HB.out | apply below_alloc | apply pw_below_drewN | apply below_drew1) | exact HB.out)⟩⟩
                  case rest =>
                    clear HC12
                    try clear c1
                    try clear c2
                    try clear p2
                    try clear q2
                    try clear hx2
                    try clear c5
                    try clear c6
                    try clear c9
                    try clear c9b0
                    try clear c10
                    try clear c10b0
                    try clear c11
                    try clear c11b0
                    try clear c13
                    try clear c13b0
                    try clear c13b1
                    try clear c13b2
                    try clear hx222_0
                    try clear p2
                    try clear p222
                    try clear q222
                    obtain ⟨kq, x36_11, rfl, HA, HJ11, HO_6, HB⟩ := hcut
                    cases kq with
                    | zero => exact absurd HA.out (by simp [spec_LeftOver.j2])
                    | succ kj11 =>
                      have H := HA.out
                      clear HA
                      simp only [spec_LeftOver.j2] at H
                      by_cases c15 : x36_11 = true
                      · subst c15
                        have H1 : (some (([] : List Int), false)) = some (r1, r2) := by rw [if_pos rfl] at H; exact H
                        clear H
                        have H := H1
                        clear H1
                        simp only [Option.some.injEq, Prod.mk.injEq] at H
                        obtain ⟨rfl, rfl⟩ := H
                        go_wp2
                        go_ret2
                        exact ⟨_, by first | rfl | (simp [errW_none, errW_some] <;> rfl) | (simp [*, errW_none, errW_some] <;> rfl), by first | exact Kd.R_nil _ _ _ _ _ | exact Kd.N_nil _ _ _ _ _ | exact Kd.V_nil _ _ _ _ _ | exact Kd.Q_nil _ _ _ _ _ | exact Kd.S_nil _ _ _ _ _, by repeat (first | (with_reducible first | exact HB.out | apply below_alloc | apply pw_below_drewN | apply below_drew1) | exact HB.out)⟩
                      · replace c15 := Bool.eq_false_iff.mpr c15
                        subst c15
                        have H1 : (spec_LeftOver.l1 kj11 l0 x6_2 l1 (l1.length : Int) x23_2 (rd_L1 l1 x23_2) ((rd_L1 l1 x23_2).length : Int) 0) = some (r1, r2) := by rw [if_neg (show ¬ (false = true) by decide)] at H; exact H
                        clear H
                        have H := H1
                        clear H1
                        have H' := Aside0.mk H
                        clear H
                        go_wp2
                        go_loopg [39] kj11 (fun kq v39 w' => ∃ (x6_4 : List Int) (x39_4 : Int), v39 = .int .i64 x39_4 ∧ Aside0 (spec_LeftOver.l1 kq l0 x6_4 l1 (l1.length : Int) x23_2 (rd_L1 l1 x23_2) ((rd_L1 l1 x23_2).length : Int) x39_4 = some (r1, r2)) ∧ Aside0 (kq ≤ kj11) ∧ Aside0 (Kd.R (Kd.int .i64) 3 w' w.heap.size (fun _ => True) v219 x6_4) ∧ Aside0 (Below w.heap.size w w'))
                        case atStart => exact ⟨(x6_2), (0), (by first | rfl | (simp; done) | (simp [*]; done)), H', ⟨Nat.le_refl _⟩, ⟨by (with_reducible repeat (first | apply Kd.R_alloc | apply Kd.R_drewN | apply Kd.R_drew)); exact HO_6.out⟩, ⟨by repeat (first | (with_reducible first | exact HB.out | apply below_alloc | apply pw_below_drewN | apply below_drew1) | exact HB.out)⟩⟩
                        case round =>
                          clear H'
                          try clear c1
                          try clear c2
                          try clear p2
                          try clear q2
                          try clear hx2
                          try clear c5
                          try clear c6
                          try clear c9
                          try clear c9b0
                          try clear c10
                          try clear c10b0
                          try clear c11
                          try clear c11b0
                          try clear c13
                          try clear c13b0
                          try clear c13b1
                          try clear c13b2
                          try clear c15
                          try clear hx222_0
                          try clear p2
                          try clear p222
                          try clear q2
                          try clear q222
                          obtain ⟨x6_4, x39_4, rfl, HA, HK4, HO_6, HB⟩ := hrel
                          cases gk with
                          | zero => exact absurd HA.out (by simp [spec_LeftOver.l1])
                          | succ k4 =>
                            have H := HA.out
                            clear HA
                            simp only [spec_LeftOver.l1] at H
                            by_cases c16 : x39_4 < ((rd_L1 l1 x23_2).length : Int)
                            · rw [if_pos c16] at H
                              have c16b0 : decide (x39_4 < ((rd_L1 l1 x23_2).length : Int)) = true := decide_eq_true c16
                              clear c16
                              by_cases c17 : 0 ≤ x39_4
                              · rw [if_pos c17] at H
                                have c17b0 : decide (0 ≤ x39_4) = true := decide_eq_true c17
                                clear c17
                                by_cases c18 : x39_4 < ((rd_L1 l1 x23_2).length : Int)
                                · rw [if_pos c18] at H
                                  have c18b0 : decide (x39_4 < ((rd_L1 l1 x23_2).length : Int)) = true := decide_eq_true c18
                                  clear c18
                                  by_cases c19 : x39_4 < (x6_4.length : Int)
                                  · rw [if_pos c19] at H
                                    have c19b0 : decide (x39_4 < (x6_4.length : Int)) = true := decide_eq_true c19
                                    clear c19
                                    obtain ⟨y226, hy226⟩ : ∃ y_ : List Int, y_ = (x6_4.set (x39_4 : Int).toNat (wrap64 ((rd x6_4 x39_4) - (rd (rd_L1 l1 x23_2) x39_4)))) := ⟨_, rfl⟩
                                    replace H : (spec_LeftOver.l1 k4 l0 y226 l1 (l1.length : Int) x23_2 (rd_L1 l1 x23_2) ((rd_L1 l1 x23_2).length : Int) (wrap64 (x39_4 + 1))) = some (r1, r2) := by first | (rw [hy226]; with_reducible exact H) | (have H2_ := (Option.bind_some _ _).symm.trans H; rw [hy226]; with_reducible exact H2_) | (have H2_ := (Option.bind_some _ _).symm.trans H; with_reducible exact H2_) | with_reducible exact H | (rw [hy226]; exact H) | exact H
                                    have Ny226 := Aside0.mk hy226
                                    clear hy226
                                    have H' := Aside0.mk H
                                    clear H
                                    have p224 : 0 ≤ (x39_4 : Int) := of_decide_eq_true (by first | (with_reducible assumption) | assumption)
                                    have q224 : x39_4 < ((rd_L1 l1 x23_2).length : Int) := of_decide_eq_true (by first | (with_reducible assumption) | assumption)
                                    obtain ⟨ad224, e224, hx224_0⟩ := Kd.at_int HR222_0.out x39_4 p224 q224
                                    cases e224
                                    replace hx224_0 := (HB.out.cell (World.block_lt_of_cell? w _ hx224_0)).trans hx224_0
                                    replace p224 := eq_true p224
                                    replace q224 := eq_true q224
                                    obtain ⟨Ao21, co21, eo21⟩ := Kd.R_slice HO_6.out
                                    subst eo21
                                    have p225 : 0 ≤ (x39_4 : Int) := of_decide_eq_true (by first | (with_reducible assumption) | assumption)
                                    have q225 : x39_4 < (x6_4.length : Int) := of_decide_eq_true (by first | (with_reducible assumption) | assumption)
                                    obtain ⟨ad225, e225, hx225_0⟩ := Kd.at_int (Kd.R_reads' HO_6.out).2.2 x39_4 p225 q225
                                    cases e225
                                    replace p225 := eq_true p225
                                    replace q225 := eq_true q225
                                    have p20 : 0 ≤ (x39_4 : Int) := of_decide_eq_true (by first | (with_reducible assumption) | assumption)
                                    have q20 : (x39_4 : Int) < ((x6_4.length : Int) : Int) := of_decide_eq_true (by first | (with_reducible assumption) | assumption)
                                    obtain ⟨go20, co20, eo20, gb20, gl20, cl20, HG20⟩ := Kd.R_form HO_6.out (by omega)
                                    (first | cases eo20 | (injection eo20 with ea_ en_ ec_; (first | subst ea_ | (injection ea_ with ea_; subst ea_)); subst ec_; clear en_))
                                    have GB20 := Aside0.mk gb20
                                    have GG20 := Aside0.mk HG20
                                    clear gb20 gl20 HG20
                                    (first | simp only [add_plain] at hx225_0 | skip)
                                    obtain ⟨hx20_0, hf20_0⟩ := Kd.R_celln 0 HO_6.out (x39_4 : Int) p20 q20
                                    replace p20 := eq_true p20
                                    replace q20 := eq_true q20
                                    have HP22 := Kd.R_putg HO_6.out (x39_4 : Int) (wrap64 ((rd x6_4 x39_4) - (rd (rd_L1 l1 x23_2) x39_4)))
                                    go_wp2_with (first | ((with_reducible refine gate_store (t := 3) (p := 50) rfl ?_); refine store_event (t := 3) (p := 50) (v := ?vo_w23) (w1 := (wr.setCell ⟨go20, (x39_4 : Int).toNat, none⟩ (.int .i64 (wrap64 ((rd x6_4 x39_4) - (rd (rd_L1 l1 x23_2) x39_4)))))) ?hg ?ho ?hn ?hr ?_; (case ho => rfl); (case hg => rfl); (case hn => rfl); (case hr => first | (go_simp; done) | (go_simp; rfl)); intro w23 hw; have hg : wr.grownBy w23 (some go20) := (by rw [hw]; exact HP22.2); have hp_ : Kd.R (Kd.int .i64) 3 w23 w.heap.size (fun _ => True) (.slice (some ⟨go20, 0, none⟩) x6_4.length co21) y226 := (by rw [hw, Ny226.out]; exact HP22.1); clear HP22; have n0_ := Aside0.mk (hp_); have n1_ := Aside0.mk ((by rw [hw]; exact below_set (HB.out) GB20.out : Below w.heap.size w w23)); clear HO_6; clear HB; have HO_6 := n0_; have HB := n1_; clear n0_ n1_; clear hg hw hp_))
                                    go_roundg k4
                                    case measure => have := HJ2.out; have := HK2.out; have := HJ11.out; have := HK4.out; omega
                                    case rel => exact ⟨(y226), (wrap64 (x39_4 + 1)), (by first | rfl | (simp; done) | (simp [*]; done)), H', ⟨by have := HJ2.out; have := HK2.out; have := HJ11.out; have := HK4.out; omega⟩, ⟨by (with_reducible repeat (first | apply Kd.R_alloc | apply Kd.R_drewN | apply Kd.R_drew)); exact HO_6.out⟩, ⟨by repeat (first | (with_reducible first | exact HB.out | apply below_alloc | apply pw_below_drewN | apply below_drew1) | exact HB.out)⟩⟩
                                  · rw [if_neg c19] at H
                                    exact absurd H (by simp)
                                · rw [if_neg c18] at H
                                  exact absurd H (by simp)
                              · rw [if_neg c17] at H
                                exact absurd H (by simp)
                            · rw [if_neg c16] at H
                              have c16b0 : decide (x39_4 < ((rd_L1 l1 x23_2).length : Int)) = false := decide_eq_false c16
                              clear c16
                              have H' := Aside0.mk H
                              clear H
                              go_wp2
                              go_roundg k4
                              case measure => have := HJ2.out; have := HK2.out; have := HJ11.out; have := HK4.out; omega
                              case rel => exact ⟨(x6_4), (wrap64 (x23_2 + 1)), (by first | rfl | (simp; done) | (simp [*]; done)), H', ⟨by have := HJ2.out; have := HK2.out; have := HJ11.out; have := HK4.out; omega⟩, ⟨by (with_reducible repeat (first | apply Kd.R_alloc | apply Kd.R_drewN | apply Kd.R_drew)); exact HO_6.out⟩, ⟨by repeat (first | (with_reducible first | exact HB.out | apply below_alloc | apply pw_below_drewN | apply below_drew1) | exact HB.out)⟩⟩
                · rw [if_neg c11] at H
                  exact absurd H (by simp)
              · rw [if_neg c10] at H
                exact absurd H (by simp)
            · rw [if_neg c9] at H
              have c9b0 : decide (x23_2 < (l1.length : Int)) = false := decide_eq_false c9
              clear c9
              replace H := Option.bind_eq_some_iff.mp H
              obtain ⟨t221, A240, H⟩ := H
              replace H : (if t221 = true then (some (x6_2, true)) else (some (([] : List Int), false))) = some (r1, r2) := H
              have A24 := Aside0.mk A240
              clear A240
              by_cases c25 : t221 = true
              · subst c25
                have H1 : (some (x6_2, true)) = some (r1, r2) := by rw [if_pos rfl] at H; exact H
                clear H
                have H := H1
                clear H1
                simp only [Option.some.injEq, Prod.mk.injEq] at H
                obtain ⟨rfl, rfl⟩ := H
                obtain ⟨Ao26, co26, eo26⟩ := Kd.R_slice HO_6.out
                subst eo26
                go_wp2_with (first | ((with_reducible refine gate_callee (f := 64) rfl ?_); refine goesL_ (some 54) rfl rfl Try.func64 (by kernel_rfl) rfl #[.slice Ao26 x6_2.length co26, .int .i64 0, .int .i64 6] rfl (by (try simp only [List.map_toArray, List.map_cons, List.map_nil]); first | done | rfl | (simp only [List.length_drop, List.length_take]; rfl)) ?_; (with_reducible refine (spec_l1All.calls k2 _ _ x6_2 0 6 true _ ?side1 ?side2 A24.out).mono ?_); (case side1 => repeat (first | exact (Kd.R_reads' HO_6.out).2.2 | (with_reducible refine Kd.C_alloc ?_ _) | (with_reducible refine Kd.C_drewN ?_ _) | (with_reducible refine Kd.C_drew ?_))); (case side2 => exact (Kd.R_reads' HO_6.out).2.1); rintro e w' ⟨rfl, ⟨nd, rfl⟩⟩; refine ⟨_, rfl, ?_⟩))
                go_ret2
                exact ⟨_, by first | rfl | (simp [errW_none, errW_some] <;> rfl) | (simp [*, errW_none, errW_some] <;> rfl), by (with_reducible repeat (first | apply Kd.R_alloc | apply Kd.R_drewN | apply Kd.R_drew)); exact HO_6.out, by repeat (first | (with_reducible first | exact HB.out | apply below_alloc | apply pw_below_drewN | apply below_drew1) | exact HB.out)⟩
              · replace c25 := Bool.eq_false_iff.mpr c25
                subst c25
                have H1 : (some (([] : List Int), false)) = some (r1, r2) := by rw [if_neg (show ¬ (false = true) by decide)] at H; exact H
                clear H
                have H := H1
                clear H1
                simp only [Option.some.injEq, Prod.mk.injEq] at H
                obtain ⟨rfl, rfl⟩ := H
                obtain ⟨Ao27, co27, eo27⟩ := Kd.R_slice HO_6.out
                subst eo27
                go_wp2_with (first | ((with_reducible refine gate_callee (f := 64) rfl ?_); refine goesL_ (some 54) rfl rfl Try.func64 (by kernel_rfl) rfl #[.slice Ao27 x6_2.length co27, .int .i64 0, .int .i64 6] rfl (by (try simp only [List.map_toArray, List.map_cons, List.map_nil]); first | done | rfl | (simp only [List.length_drop, List.length_take]; rfl)) ?_; (with_reducible refine (spec_l1All.calls k2 _ _ x6_2 0 6 false _ ?side1 ?side2 A24.out).mono ?_); (case side1 => repeat (first | exact (Kd.R_reads' HO_6.out).2.2 | (with_reducible refine Kd.C_alloc ?_ _) | (with_reducible refine Kd.C_drewN ?_ _) | (with_reducible refine Kd.C_drew ?_))); (case side2 => exact (Kd.R_reads' HO_6.out).2.1); rintro e w' ⟨rfl, ⟨nd, rfl⟩⟩; refine ⟨_, rfl, ?_⟩))
                go_ret2
                exact ⟨_, by first | rfl | (simp [errW_none, errW_some] <;> rfl) | (simp [*, errW_none, errW_some] <;> rfl), by first | exact Kd.R_nil _ _ _ _ _ | exact Kd.N_nil _ _ _ _ _ | exact Kd.V_nil _ _ _ _ _ | exact Kd.Q_nil _ _ _ _ _ | exact Kd.S_nil _ _ _ _ _, by repeat (first | (with_reducible first | exact HB.out | apply below_alloc | apply pw_below_drewN | apply below_drew1) | exact HB.out)⟩

end Go.Proofs.Ytfhaclkjiolmjaa.Q

namespace Go.Proofs.Ytfhaclkjiolmjaa.Q
open Go.RowKit Go.Proofs.YtfhaclkjiolmjaaW.PrintWords Go.Proofs.YtfhaclkjiolmjaaW.PrintLast Go.Proofs.YtfhaclkjiolmjaaW.PrintMore
attribute [local go_sem] max2_int min2_int max_two min_two max_three min_three max_four min_four   -- for this text's walks alone
set_option linter.unusedVariables false
set_option linter.unusedSimpArgs false

/-! ### impl_within: function 85 -/
def impl_within.f (a0 : Int) (a1 : Int) (a2 : Int) : Option (Bool) := if a1 ≤ a0 then (some (decide (a0 ≤ a2))) else (some false)
set_option maxHeartbeats 8000000 in
set_option maxRecDepth 100000 in
theorem impl_within.calls (a0 : Int) (a1 : Int) (a2 : Int) (r : Bool) (w : World) (h : impl_within.f a0 a1 a2 = some r) :
    Calls Try.prog 85 #[.int .i64 a0, .int .i64 a1, .int .i64 a2] w fun e w' => e = .returned (.bool r) ∧ Drawn0 w w' := by
  have H : (if a1 ≤ a0 then (some (decide (a0 ≤ a2))) else (some false)) = some r := h
  clear h
  by_cases c4 : a1 ≤ a0
  · rw [if_pos c4] at H
    have c4b0 : decide (a1 ≤ a0) = true := decide_eq_true c4
    clear c4
    obtain rfl := Option.some.inj H
    go_enter Try.func85, Try.ntmps85
    go_wp2
    go_ret
    exact ⟨by first | rfl | (simp; done) | (simp [*]; done), by repeat (first | exact Drawn0.refl _ | apply Drawn0.step)⟩
  · rw [if_neg c4] at H
    have c4b0 : decide (a1 ≤ a0) = false := decide_eq_false c4
    clear c4
    obtain rfl := Option.some.inj H
    go_enter Try.func85, Try.ntmps85
    go_wp2
    go_ret
    exact ⟨by first | rfl | (simp; done) | (simp [*]; done), by repeat (first | exact Drawn0.refl _ | apply Drawn0.step)⟩

end Go.Proofs.Ytfhaclkjiolmjaa.Q

namespace Go.Proofs.Ytfhaclkjiolmjaa.Q
open Go.RowKit Go.Proofs.YtfhaclkjiolmjaaW.PrintWords Go.Proofs.YtfhaclkjiolmjaaW.PrintLast Go.Proofs.YtfhaclkjiolmjaaW.PrintMore
attribute [local go_sem] max2_int min2_int max_two min_two max_three min_three max_four min_four   -- for this text's walks alone
set_option linter.unusedVariables false
set_option linter.unusedSimpArgs false

/-! ### impl_areCounts: function 65 -/
def impl_areCounts.f (l0 : List Int) : Option (Bool) := (impl_within.f (l0.length : Int) 1 4).bind fun t235 => (if t235 = true then ((impl_areWithin.f l0 0 6).bind fun t236 => (some t236)) else (some false))
set_option maxHeartbeats 8000000 in
set_option maxRecDepth 100000 in
theorem impl_areCounts.calls (A0 : Option Addr) (c0 : Nat) (l0 : List Int) (r : Bool) (w : World) (hr0 : Kd.C (Kd.int .i64) w A0 l0.length l0) (hc0 : l0.length ≤ c0) (h : impl_areCounts.f l0 = some r) :
    Calls Try.prog 65 #[.slice A0 l0.length c0] w fun e w' => e = .returned (.bool r) ∧ Below w.heap.size w w' := by
  have HR0 := Aside0.mk hr0
  have HC0 := Aside0.mk hc0
  clear hr0 hc0
  have HB := Aside0.mk (Below.refl w.heap.size w)
  have H : ((impl_within.f (l0.length : Int) 1 4).bind fun t235 => (if t235 = true then ((impl_areWithin.f l0 0 6).bind fun t236 => (some t236)) else (some false))) = some r := h
  clear h
  replace H := Option.bind_eq_some_iff.mp H
  obtain ⟨t235, A20, H⟩ := H
  replace H : (if t235 = true then ((impl_areWithin.f l0 0 6).bind fun t236 => (some t236)) else (some false)) = some r := H
  have A2 := Aside0.mk A20
  clear A20
  by_cases c3 : t235 = true
  · subst c3
    have H1 : ((impl_areWithin.f l0 0 6).bind fun t236 => (some t236)) = some r := by rw [if_pos rfl] at H; exact H
    clear H
    have H := H1
    clear H1
    replace H := Option.bind_eq_some_iff.mp H
    obtain ⟨t236, A40, H⟩ := H
    replace H : (some t236) = some r := H
    have A4 := Aside0.mk A40
    clear A40
    obtain rfl := Option.some.inj H
    go_enter Try.func65, Try.ntmps65
    go_wp2_with (first | ((with_reducible refine gate_callee (f := 85) rfl ?_); refine goesL_ (some 5) rfl rfl Try.func85 (by kernel_rfl) rfl #[.int .i64 (l0.length : Int), .int .i64 1, .int .i64 4] rfl (by (try simp only [List.map_toArray, List.map_cons, List.map_nil]); first | done | rfl | (simp only [List.length_drop, List.length_take]; rfl)) ?_; (with_reducible refine (impl_within.calls (l0.length : Int) 1 4 true _ A2.out).mono ?_); rintro e w' ⟨rfl, ⟨nd, rfl⟩⟩; refine ⟨_, rfl, ?_⟩) | (go_at_call 68; (with_reducible refine (impl_areWithin.calls _ _ l0 0 6 t236 _ ?side1 ?side2 A4.out).mono ?_); (case side1 => repeat (first | exact HR0.out | (with_reducible refine Kd.C_alloc ?_ _) | (with_reducible refine Kd.C_drewN ?_ _) | (with_reducible refine Kd.C_drew ?_))); (case side2 => exact HC0.out); rintro e w5 ⟨rfl, hb⟩; have n0_ := Aside0.mk (below_step (by repeat (first | (with_reducible first | exact HB.out | apply below_alloc | apply pw_below_drewN | apply below_drew1) | exact HB.out)) hb); clear HB; have HB := n0_; clear n0_; (try clear hb); (try clear hb2); (try clear hk); (try clear hi)))
    go_ret
    exact ⟨by first | rfl | (simp [errW_none, errW_some] <;> rfl) | (simp [*, errW_none, errW_some] <;> rfl), by repeat (first | (with_reducible first | exact HB.out | apply below_alloc | apply pw_below_drewN | apply below_drew1) | exact HB.out)⟩
  · replace c3 := Bool.eq_false_iff.mpr c3
    subst c3
    have H1 : (some false) = some r := by rw [if_neg (show ¬ (false = true) by decide)] at H; exact H
    clear H
    have H := H1
    clear H1
    obtain rfl := Option.some.inj H
    go_enter Try.func65, Try.ntmps65
    go_wp2_with (first | ((with_reducible refine gate_callee (f := 85) rfl ?_); refine goesL_ (some 5) rfl rfl Try.func85 (by kernel_rfl) rfl #[.int .i64 (l0.length : Int), .int .i64 1, .int .i64 4] rfl (by (try simp only [List.map_toArray, List.map_cons, List.map_nil]); first | done | rfl | (simp only [List.length_drop, List.length_take]; rfl)) ?_; (with_reducible refine (impl_within.calls (l0.length : Int) 1 4 false _ A2.out).mono ?_); rintro e w' ⟨rfl, ⟨nd, rfl⟩⟩; refine ⟨_, rfl, ?_⟩))
    go_ret
    exact ⟨by first | rfl | (simp [errW_none, errW_some] <;> rfl) | (simp [*, errW_none, errW_some] <;> rfl), by repeat (first | (with_reducible first | exact HB.out | apply below_alloc | apply pw_below_drewN | apply below_drew1) | exact HB.out)⟩

end Go.Proofs.Ytfhaclkjiolmjaa.Q

namespace Go.Proofs.Ytfhaclkjiolmjaa.Q
open Go.RowKit Go.Proofs.YtfhaclkjiolmjaaW.PrintWords Go.Proofs.YtfhaclkjiolmjaaW.PrintLast Go.Proofs.YtfhaclkjiolmjaaW.PrintMore
attribute [local go_sem] max2_int min2_int max_two min_two max_three min_three max_four min_four   -- for this text's walks alone
set_option linter.unusedVariables false
set_option linter.unusedSimpArgs false

/-! ### impl_minus: function 67 -/
def impl_minus.l0 : Nat → List Int → List Int → Int → Int → Option (List Int)
  | 0, _, _, _, _ => none
  | k + 1, x5, x10, x11, x12 => if x12 < x11 then (if 0 ≤ x12 then (if x12 < (x10.length : Int) then (if x12 < (x5.length : Int) then (impl_minus.l0 k (x5.set (x12 : Int).toNat (wrap64 ((rd x5 x12) - (rd x10 x12)))) x10 x11 (wrap64 (x12 + 1))) else (none)) else (none)) else (none)) else (some x5)
def impl_minus.f (k : Nat) (l0 : List Int) (l1 : List Int) : Option (List Int) := (slices_Clone_int.f l0).bind fun t237 => (impl_minus.l0 k t237 l1 (l1.length : Int) 0)
theorem impl_minus.mono_l : ∀ k, (∀ y0 y1 y2 y3, LeO (impl_minus.l0 k y0 y1 y2 y3) (impl_minus.l0 (k + 1) y0 y1 y2 y3))
  | 0 => fun _ _ _ _ r h => by simp [impl_minus.l0] at h
  | k + 1 => by
    have ih0 := impl_minus.mono_l k
    · intro y0 y1 y2 y3
      unfold impl_minus.l0
      repeat' first
      | (with_reducible exact ih0 _ _ _ _)
      | (with_reducible exact LeO.refl _)
      | (with_reducible exact LeO.none _)
      | (with_reducible refine LeO.ite ?_ ?_)
      | (with_reducible refine LeO.bind ?_ (fun _ => ?_))
      | exact ih0 _ _ _ _
      | exact LeO.none _
      | refine LeO.ite ?_ ?_
      | refine LeO.bind ?_ (fun _ => ?_)
theorem impl_minus.mono : ∀ a0 a1 k, LeO (impl_minus.f k a0 a1) (impl_minus.f (k + 1) a0 a1) := by
  intro a0 a1 k
  have ih0 := impl_minus.mono_l k
  unfold impl_minus.f
  repeat' first
      | (with_reducible exact ih0 _ _ _ _)
      | (with_reducible exact LeO.refl _)
      | (with_reducible exact LeO.none _)
      | (with_reducible refine LeO.ite ?_ ?_)
      | (with_reducible refine LeO.bind ?_ (fun _ => ?_))
      | exact ih0 _ _ _ _
      | exact LeO.none _
      | refine LeO.ite ?_ ?_
      | refine LeO.bind ?_ (fun _ => ?_)
set_option maxHeartbeats 8000000 in
set_option maxRecDepth 100000 in
theorem impl_minus.calls (k : Nat) (A0 : Option Addr) (c0 : Nat) (l0 : List Int) (A1 : Option Addr) (c1 : Nat) (l1 : List Int) (r : List Int) (w : World) (hr0 : Kd.C (Kd.int .i64) w A0 l0.length l0) (hc0 : l0.length ≤ c0) (hr1 : Kd.C (Kd.int .i64) w A1 l1.length l1) (hc1 : l1.length ≤ c1) (h : impl_minus.f k l0 l1 = some r) :
    Calls Try.prog 67 #[.slice A0 l0.length c0, .slice A1 l1.length c1] w fun e w' => ∃ v0_ : Value, e = .returned (v0_) ∧ Kd.R (Kd.int .i64) 3 w' w.heap.size (fun _ => True) v0_ r ∧ Below w.heap.size w w' := by
  have HR0 := Aside0.mk hr0
  have HC0 := Aside0.mk hc0
  clear hr0 hc0
  have HR1 := Aside0.mk hr1
  have HC1 := Aside0.mk hc1
  clear hr1 hc1
  have HB := Aside0.mk (Below.refl w.heap.size w)
  have H : ((slices_Clone_int.f l0).bind fun t237 => (impl_minus.l0 k t237 l1 (l1.length : Int) 0)) = some r := h
  clear h
  replace H := Option.bind_eq_some_iff.mp H
  obtain ⟨t237, A30, H⟩ := H
  replace H : (impl_minus.l0 k t237 l1 (l1.length : Int) 0) = some r := H
  have A3 := Aside0.mk A30
  clear A30
  have H' := Aside0.mk H
  clear H
  go_enter Try.func67, Try.ntmps67
  go_wp2_with (first | ((with_reducible refine gate_callee (f := 66) rfl ?_); refine goesL_ (some 9) rfl rfl Try.func66 (by kernel_rfl) rfl #[.slice A0 l0.length c0] rfl (by (try simp only [List.map_toArray, List.map_cons, List.map_nil]); first | done | rfl | (simp only [List.length_drop, List.length_take]; rfl)) ?_; (with_reducible refine (slices_Clone_int.calls _ _ l0 t237 _ ?side1 ?side2 A3.out).mono ?_); (case side1 => repeat (first | exact HR0.out | (with_reducible refine Kd.C_alloc ?_ _) | (with_reducible refine Kd.C_drewN ?_ _) | (with_reducible refine Kd.C_drew ?_))); (case side2 => exact HC0.out); rintro e w4 ⟨v238, rfl, ho0, hb⟩; refine ⟨_, rfl, ?_⟩; have n0_ := Aside0.mk (Kd.R_lower ho0 (below_size (by repeat (first | (with_reducible first | exact HB.out | apply below_alloc | apply pw_below_drewN | apply below_drew1) | exact HB.out)))); have n1_ := Aside0.mk (below_step (by repeat (first | (with_reducible first | exact HB.out | apply below_alloc | apply pw_below_drewN | apply below_drew1) | exact HB.out)) hb); clear HB; have HO239 := n0_; have HB := n1_; clear n0_ n1_; (try clear hb); (try clear hb2); (try clear hk); (try clear hi); (try clear ho0)))
  go_loopg [12] k (fun kq v12 w' => ∃ (x5_1 : List Int) (x12_1 : Int), v12 = .int .i64 x12_1 ∧ Aside0 (impl_minus.l0 kq x5_1 l1 (l1.length : Int) x12_1 = some r) ∧ Aside0 (kq ≤ k) ∧ Aside0 (Kd.R (Kd.int .i64) 3 w' w.heap.size (fun _ => True) v238 x5_1) ∧ Aside0 (Below w.heap.size w w'))
  case atStart => exact ⟨(t237), (0), (by first | rfl | (simp; done) | (simp [*]; done)), H', ⟨Nat.le_refl _⟩, ⟨by (with_reducible repeat (first | apply Kd.R_alloc | apply Kd.R_drewN | apply Kd.R_drew)); exact HO239.out⟩, ⟨by repeat (first | (with_reducible first | exact HB.out | apply below_alloc | apply pw_below_drewN | apply below_drew1) | exact HB.out)⟩⟩
  case round =>
    clear H'
    try clear c1
    try clear p2
    obtain ⟨x5_1, x12_1, rfl, HA, HK1, HO_5, HB⟩ := hrel
    cases gk with
    | zero => exact absurd HA.out (by simp [impl_minus.l0])
    | succ k1 =>
      have H := HA.out
      clear HA
      simp only [impl_minus.l0] at H
      by_cases c5 : x12_1 < (l1.length : Int)
      · rw [if_pos c5] at H
        have c5b0 : decide (x12_1 < (l1.length : Int)) = true := decide_eq_true c5
        clear c5
        by_cases c6 : 0 ≤ x12_1
        · rw [if_pos c6] at H
          have c6b0 : decide (0 ≤ x12_1) = true := decide_eq_true c6
          clear c6
          by_cases c7 : x12_1 < (l1.length : Int)
          · rw [if_pos c7] at H
            have c7b0 : decide (x12_1 < (l1.length : Int)) = true := decide_eq_true c7
            clear c7
            by_cases c8 : x12_1 < (x5_1.length : Int)
            · rw [if_pos c8] at H
              have c8b0 : decide (x12_1 < (x5_1.length : Int)) = true := decide_eq_true c8
              clear c8
              obtain ⟨y242, hy242⟩ : ∃ y_ : List Int, y_ = (x5_1.set (x12_1 : Int).toNat (wrap64 ((rd x5_1 x12_1) - (rd l1 x12_1)))) := ⟨_, rfl⟩
              replace H : (impl_minus.l0 k1 y242 l1 (l1.length : Int) (wrap64 (x12_1 + 1))) = some r := by first | (rw [hy242]; with_reducible exact H) | (have H2_ := (Option.bind_some _ _).symm.trans H; rw [hy242]; with_reducible exact H2_) | (have H2_ := (Option.bind_some _ _).symm.trans H; with_reducible exact H2_) | with_reducible exact H | (rw [hy242]; exact H) | exact H
              have Ny242 := Aside0.mk hy242
              clear hy242
              have H' := Aside0.mk H
              clear H
              have p240 : 0 ≤ (x12_1 : Int) := of_decide_eq_true (by first | (with_reducible assumption) | assumption)
              have q240 : x12_1 < (l1.length : Int) := of_decide_eq_true (by first | (with_reducible assumption) | assumption)
              obtain ⟨ad240, e240, hx240_0⟩ := Kd.at_int HR1.out x12_1 p240 q240
              cases e240
              replace hx240_0 := (HB.out.cell (World.block_lt_of_cell? w _ hx240_0)).trans hx240_0
              replace p240 := eq_true p240
              replace q240 := eq_true q240
              obtain ⟨Ao10, co10, eo10⟩ := Kd.R_slice HO_5.out
              subst eo10
              have p241 : 0 ≤ (x12_1 : Int) := of_decide_eq_true (by first | (with_reducible assumption) | assumption)
              have q241 : x12_1 < (x5_1.length : Int) := of_decide_eq_true (by first | (with_reducible assumption) | assumption)
              obtain ⟨ad241, e241, hx241_0⟩ := Kd.at_int (Kd.R_reads' HO_5.out).2.2 x12_1 p241 q241
              cases e241
              replace p241 := eq_true p241
              replace q241 := eq_true q241
              have p9 : 0 ≤ (x12_1 : Int) := of_decide_eq_true (by first | (with_reducible assumption) | assumption)
              have q9 : (x12_1 : Int) < ((x5_1.length : Int) : Int) := of_decide_eq_true (by first | (with_reducible assumption) | assumption)
              obtain ⟨go9, co9, eo9, gb9, gl9, cl9, HG9⟩ := Kd.R_form HO_5.out (by omega)
              (first | cases eo9 | (injection eo9 with ea_ en_ ec_; (first | subst ea_ | (injection ea_ with ea_; subst ea_)); subst ec_; clear en_))
              have GB9 := Aside0.mk gb9
              have GG9 := Aside0.mk HG9
              clear gb9 gl9 HG9
              (first | simp only [add_plain] at hx241_0 | skip)
              obtain ⟨hx9_0, hf9_0⟩ := Kd.R_celln 0 HO_5.out (x12_1 : Int) p9 q9
              replace p9 := eq_true p9
              replace q9 := eq_true q9
              have HP11 := Kd.R_putg HO_5.out (x12_1 : Int) (wrap64 ((rd x5_1 x12_1) - (rd l1 x12_1)))
              go_wp2_with (first | ((with_reducible refine gate_store (t := 3) (p := 23) rfl ?_); refine store_event (t := 3) (p := 23) (v := ?vo_w12) (w1 := (wr.setCell ⟨go9, (x12_1 : Int).toNat, none⟩ (.int .i64 (wrap64 ((rd x5_1 x12_1) - (rd l1 x12_1)))))) ?hg ?ho ?hn ?hr ?_; (case ho => rfl); (case hg => rfl); (case hn => rfl); (case hr => first | (go_simp; done) | (go_simp; rfl)); intro w12 hw; have hg : wr.grownBy w12 (some go9) := (by rw [hw]; exact HP11.2); have hp_ : Kd.R (Kd.int .i64) 3 w12 w.heap.size (fun _ => True) (.slice (some ⟨go9, 0, none⟩) x5_1.length co10) y242 := (by rw [hw, Ny242.out]; exact HP11.1); clear HP11; have n0_ := Aside0.mk (hp_); have n1_ := Aside0.mk ((by rw [hw]; exact below_set (HB.out) GB9.out : Below w.heap.size w w12)); clear HO_5; clear HB; have HO_5 := n0_; have HB := n1_; clear n0_ n1_; clear hg hw hp_))
              go_roundg k1
              case measure => have := HK1.out; omega
              case rel => exact ⟨(y242), (wrap64 (x12_1 + 1)), (by first | rfl | (simp; done) | (simp [*]; done)), H', ⟨by have := HK1.out; omega⟩, ⟨by (with_reducible repeat (first | apply Kd.R_alloc | apply Kd.R_drewN | apply Kd.R_drew)); exact HO_5.out⟩, ⟨by repeat (first | (with_reducible first | exact HB.out | apply below_alloc | apply pw_below_drewN | apply below_drew1) | exact HB.out)⟩⟩
            · rw [if_neg c8] at H
              exact absurd H (by simp)
          · rw [if_neg c7] at H
            exact absurd H (by simp)
        · rw [if_neg c6] at H
          exact absurd H (by simp)
      · rw [if_neg c5] at H
        have c5b0 : decide (x12_1 < (l1.length : Int)) = false := decide_eq_false c5
        clear c5
        obtain rfl := Option.some.inj H
        go_wp2
        go_ret
        exact ⟨_, by first | rfl | (simp [errW_none, errW_some] <;> rfl) | (simp [*, errW_none, errW_some] <;> rfl), by (with_reducible repeat (first | apply Kd.R_alloc | apply Kd.R_drewN | apply Kd.R_drew)); exact HO_5.out, by repeat (first | (with_reducible first | exact HB.out | apply below_alloc | apply pw_below_drewN | apply below_drew1) | exact HB.out)⟩

end Go.Proofs.Ytfhaclkjiolmjaa.Q

namespace Go.Proofs.Ytfhaclkjiolmjaa.Q
open Go.RowKit Go.Proofs.YtfhaclkjiolmjaaW.PrintWords Go.Proofs.YtfhaclkjiolmjaaW.PrintLast Go.Proofs.YtfhaclkjiolmjaaW.PrintMore
attribute [local go_sem] max2_int min2_int max_two min_two max_three min_three max_four min_four   -- for this text's walks alone
set_option linter.unusedVariables false
set_option linter.unusedSimpArgs false

/-! ### impl_LeftOver: function 24 -/
mutual
def impl_LeftOver.j0 : Nat → List Int → List (List Int) → Bool → Option (List Int × Bool)
  | 0, _, _, _ => none
  | k + 1, x0, x1, x16 => if x16 = true then (some (([] : List Int), false)) else ((slices_Clone_int.f x0).bind fun t244 => (impl_LeftOver.l0 k x0 t244 x1 (x1.length : Int) 0))
def impl_LeftOver.l0 : Nat → List Int → List Int → List (List Int) → Int → Int → Option (List Int × Bool)
  | 0, _, _, _, _, _ => none
  | k + 1, x0, x6, x19, x20, x21 => if x21 < x20 then (if 0 ≤ x21 then (if x21 < (x19.length : Int) then (if ((rd_L1 x19 x21).length : Int) = (x0.length : Int) then ((impl_areCounts.f (rd_L1 x19 x21)).bind fun t249 => (if t249 = true then ((impl_minus.f k x6 (rd_L1 x19 x21)).bind fun t250 => (impl_LeftOver.l0 k x0 t250 x19 x20 (wrap64 (x21 + 1)))) else (some (([] : List Int), false)))) else (some (([] : List Int), false))) else (none)) else (none)) else ((impl_areWithin.f x6 0 6).bind fun t247 => (if t247 = true then (some (x6, true)) else (some (([] : List Int), false))))
end
def impl_LeftOver.f (k : Nat) (l0 : List Int) (l1 : List (List Int)) : Option (List Int × Bool) := (impl_areCounts.f l0).bind fun t243 => (if t243 = true then (impl_LeftOver.j0 k l0 l1 (decide ((l1.length : Int) > 20))) else (impl_LeftOver.j0 k l0 l1 true))
theorem impl_LeftOver.mono_l : ∀ k, (∀ y0 y1 y2, LeO (impl_LeftOver.j0 k y0 y1 y2) (impl_LeftOver.j0 (k + 1) y0 y1 y2)) ∧ (∀ y0 y1 y2 y3 y4, LeO (impl_LeftOver.l0 k y0 y1 y2 y3 y4) (impl_LeftOver.l0 (k + 1) y0 y1 y2 y3 y4))
  | 0 => ⟨fun _ _ _ r h => by simp [impl_LeftOver.j0] at h, fun _ _ _ _ _ r h => by simp [impl_LeftOver.l0] at h⟩
  | k + 1 => by
    obtain ⟨ih0, ih1⟩ := impl_LeftOver.mono_l k
    refine ⟨?_, ?_⟩
    · intro y0 y1 y2
      unfold impl_LeftOver.j0
      repeat' first
      | (with_reducible exact ih0 _ _ _)
      | (with_reducible exact ih1 _ _ _ _ _)
      | (with_reducible exact impl_minus.mono _ _ _)
      | (with_reducible exact LeO.refl _)
      | (with_reducible exact LeO.none _)
      | (with_reducible refine LeO.ite ?_ ?_)
      | (with_reducible refine LeO.bind ?_ (fun _ => ?_))
      | exact ih0 _ _ _
      | exact ih1 _ _ _ _ _
      | exact impl_minus.mono _ _ _
      | exact LeO.none _
      | refine LeO.ite ?_ ?_
      | refine LeO.bind ?_ (fun _ => ?_)
    · intro y0 y1 y2 y3 y4
      unfold impl_LeftOver.l0
      repeat' first
      | (with_reducible exact ih0 _ _ _)
      | (with_reducible exact ih1 _ _ _ _ _)
      | (with_reducible exact impl_minus.mono _ _ _)
      | (with_reducible exact LeO.refl _)
      | (with_reducible exact LeO.none _)
      | (with_reducible refine LeO.ite ?_ ?_)
      | (with_reducible refine LeO.bind ?_ (fun _ => ?_))
      | exact ih0 _ _ _
      | exact ih1 _ _ _ _ _
      | exact impl_minus.mono _ _ _
      | exact LeO.none _
      | refine LeO.ite ?_ ?_
      | refine LeO.bind ?_ (fun _ => ?_)
theorem impl_LeftOver.mono : ∀ a0 a1 k, LeO (impl_LeftOver.f k a0 a1) (impl_LeftOver.f (k + 1) a0 a1) := by
  intro a0 a1 k
  obtain ⟨ih0, ih1⟩ := impl_LeftOver.mono_l k
  unfold impl_LeftOver.f
  repeat' first
      | (with_reducible exact ih0 _ _ _)
      | (with_reducible exact ih1 _ _ _ _ _)
      | (with_reducible exact impl_minus.mono _ _ _)
      | (with_reducible exact LeO.refl _)
      | (with_reducible exact LeO.none _)
      | (with_reducible refine LeO.ite ?_ ?_)
      | (with_reducible refine LeO.bind ?_ (fun _ => ?_))
      | exact ih0 _ _ _
      | exact ih1 _ _ _ _ _
      | exact impl_minus.mono _ _ _
      | exact LeO.none _
      | refine LeO.ite ?_ ?_
      | refine LeO.bind ?_ (fun _ => ?_)
set_option maxHeartbeats 8000000 in
set_option maxRecDepth 100000 in
theorem impl_LeftOver.calls (k : Nat) (A0 : Option Addr) (c0 : Nat) (l0 : List Int) (A1 : Option Addr) (c1 : Nat) (l1 : List (List Int)) (r1 : List Int) (r2 : Bool) (w : World) (hr0 : Kd.C (Kd.int .i64) w A0 l0.length l0) (hc0 : l0.length ≤ c0) (hr1 : Kd.C (Kd.slice 3 (Kd.int .i64)) w A1 l1.length l1) (hc1 : l1.length ≤ c1) (h : impl_LeftOver.f k l0 l1 = some (r1, r2)) :
    Calls Try.prog 24 #[.slice A0 l0.length c0, .slice A1 l1.length c1] w fun e w' => ∃ v0_ : Value, e = .returned (.tuple #[v0_, .bool r2]) ∧ Kd.R (Kd.int .i64) 3 w' w.heap.size (fun _ => True) v0_ r1 ∧ Below w.heap.size w w' := by
  have HR0 := Aside0.mk hr0
  have HC0 := Aside0.mk hc0
  clear hr0 hc0
  have HR1 := Aside0.mk hr1
  have HC1 := Aside0.mk hc1
  clear hr1 hc1
  have HB := Aside0.mk (Below.refl w.heap.size w)
  have H : ((impl_areCounts.f l0).bind fun t243 => (if t243 = true then (impl_LeftOver.j0 k l0 l1 (decide ((l1.length : Int) > 20))) else (impl_LeftOver.j0 k l0 l1 true))) = some (r1, r2) := h
  clear h
  have HC3 := Aside0.mk H
  clear H
  go_enter Try.func24, Try.ntmps24
  go_upto_region 1 with (fail)
  go_cut [16] (fun v16 wc => ∃ (kq : Nat) (x16_2 : Bool), v16 = .bool x16_2 ∧ Aside0 (impl_LeftOver.j0 kq l0 l1 x16_2 = some (r1, r2)) ∧ Aside0 (kq ≤ k) ∧ Aside0 (Below w.heap.size w wc))
  case first =>
    have H := HC3.out
    clear HC3
    replace H := Option.bind_eq_some_iff.mp H
    obtain ⟨t243, A40, H⟩ := H
    replace H : (if t243 = true then (impl_LeftOver.j0 k l0 l1 (decide ((l1.length : Int) > 20))) else (impl_LeftOver.j0 k l0 l1 true)) = some (r1, r2) := H
    have A4 := Aside0.mk A40
    clear A40
    by_cases c5 : t243 = true
    · subst c5
      have H1 : (impl_LeftOver.j0 k l0 l1 (decide ((l1.length : Int) > 20))) = some (r1, r2) := by rw [if_pos rfl] at H; exact H
      clear H
      have H := H1
      clear H1
      have H' := Aside0.mk H
      clear H
      go_wp2_with (first | ((with_reducible refine gate_callee (f := 65) rfl ?_); refine goesL_ (some 10) rfl rfl Try.func65 (by kernel_rfl) rfl #[.slice A0 l0.length c0] rfl (by (try simp only [List.map_toArray, List.map_cons, List.map_nil]); first | done | rfl | (simp only [List.length_drop, List.length_take]; rfl)) ?_; (with_reducible refine (impl_areCounts.calls _ _ l0 true _ ?side1 ?side2 A4.out).mono ?_); (case side1 => repeat (first | exact (Kd.C_below HR0.out HB.out) | (with_reducible refine Kd.C_alloc ?_ _) | (with_reducible refine Kd.C_drewN ?_ _) | (with_reducible refine Kd.C_drew ?_))); (case side2 => exact HC0.out); rintro e w6 ⟨rfl, hb⟩; refine ⟨_, rfl, ?_⟩; have n0_ := Aside0.mk (below_step (by repeat (first | (with_reducible first | exact HB.out | apply below_alloc | apply pw_below_drewN | apply below_drew1) | exact HB.out)) hb); clear HB; have HB := n0_; clear n0_; (try clear hb); (try clear hb2); (try clear hk); (try clear hi)))
      go_meet
      case rel => exact ⟨_, (decide ((l1.length : Int) > 20)), (by first | rfl | (simp; done) | (simp [*]; done)), H', ⟨by first | omega | exact Nat.le_refl _⟩, ⟨by repeat (first | (with_reducible first | exact HB.out | apply below_alloc | apply pw_below_drewN | apply below_drew1) | exact HB.out)⟩⟩
    · replace c5 := Bool.eq_false_iff.mpr c5
      subst c5
      have H1 : (impl_LeftOver.j0 k l0 l1 true) = some (r1, r2) := by rw [if_neg (show ¬ (false = true) by decide)] at H; exact H
      clear H
      have H := H1
      clear H1
      have H' := Aside0.mk H
      clear H
      go_wp2_with (first | ((with_reducible refine gate_callee (f := 65) rfl ?_); refine goesL_ (some 10) rfl rfl Try.func65 (by kernel_rfl) rfl #[.slice A0 l0.length c0] rfl (by (try simp only [List.map_toArray, List.map_cons, List.map_nil]); first | done | rfl | (simp only [List.length_drop, List.length_take]; rfl)) ?_; (with_reducible refine (impl_areCounts.calls _ _ l0 false _ ?side1 ?side2 A4.out).mono ?_); (case side1 => repeat (first | exact (Kd.C_below HR0.out HB.out) | (with_reducible refine Kd.C_alloc ?_ _) | (with_reducible refine Kd.C_drewN ?_ _) | (with_reducible refine Kd.C_drew ?_))); (case side2 => exact HC0.out); rintro e w7 ⟨rfl, hb⟩; refine ⟨_, rfl, ?_⟩; have n0_ := Aside0.mk (below_step (by repeat (first | (with_reducible first | exact HB.out | apply below_alloc | apply pw_below_drewN | apply below_drew1) | exact HB.out)) hb); clear HB; have HB := n0_; clear n0_; (try clear hb); (try clear hb2); (try clear hk); (try clear hi)))
      go_meet
      case rel => exact ⟨_, (true), (by first | rfl | (simp; done) | (simp [*]; done)), H', ⟨by first | omega | exact Nat.le_refl _⟩, ⟨by repeat (first | (with_reducible first | exact HB.out | apply below_alloc | apply pw_below_drewN | apply below_drew1) | exact HB.out)⟩⟩
  case rest =>
    clear HC3
    try clear c1
    try clear c2
    try clear p2
    try clear c5
    try clear c6
    obtain ⟨kq, x16_2, rfl, HA, HJ2, HB⟩ := hcut
    cases kq with
    | zero => exact absurd HA.out (by simp [impl_LeftOver.j0])
    | succ kj2 =>
      have H := HA.out
      clear HA
      simp only [impl_LeftOver.j0] at H
      by_cases c8 : x16_2 = true
      · subst c8
        have H1 : (some (([] : List Int), false)) = some (r1, r2) := by rw [if_pos rfl] at H; exact H
        clear H
        have H := H1
        clear H1
        simp only [Option.some.injEq, Prod.mk.injEq] at H
        obtain ⟨rfl, rfl⟩ := H
        go_wp2
        go_ret2
        exact ⟨_, by first | rfl | (simp [errW_none, errW_some] <;> rfl) | (simp [*, errW_none, errW_some] <;> rfl), by first | exact Kd.R_nil _ _ _ _ _ | exact Kd.N_nil _ _ _ _ _ | exact Kd.V_nil _ _ _ _ _ | exact Kd.Q_nil _ _ _ _ _ | exact Kd.S_nil _ _ _ _ _, by repeat (first | (with_reducible first | exact HB.out | apply below_alloc | apply pw_below_drewN | apply below_drew1) | exact HB.out)⟩
      · replace c8 := Bool.eq_false_iff.mpr c8
        subst c8
        have H1 : ((slices_Clone_int.f l0).bind fun t244 => (impl_LeftOver.l0 kj2 l0 t244 l1 (l1.length : Int) 0)) = some (r1, r2) := by rw [if_neg (show ¬ (false = true) by decide)] at H; exact H
        clear H
        have H := H1
        clear H1
        replace H := Option.bind_eq_some_iff.mp H
        obtain ⟨t244, A90, H⟩ := H
        replace H : (impl_LeftOver.l0 kj2 l0 t244 l1 (l1.length : Int) 0) = some (r1, r2) := H
        have A9 := Aside0.mk A90
        clear A90
        have H' := Aside0.mk H
        clear H
        go_wp2_with (first | ((with_reducible refine gate_callee (f := 66) rfl ?_); refine goesL_ (some 18) rfl rfl Try.func66 (by kernel_rfl) rfl #[.slice A0 l0.length c0] rfl (by (try simp only [List.map_toArray, List.map_cons, List.map_nil]); first | done | rfl | (simp only [List.length_drop, List.length_take]; rfl)) ?_; (with_reducible refine (slices_Clone_int.calls _ _ l0 t244 _ ?side1 ?side2 A9.out).mono ?_); (case side1 => repeat (first | exact (Kd.C_below HR0.out HB.out) | (with_reducible refine Kd.C_alloc ?_ _) | (with_reducible refine Kd.C_drewN ?_ _) | (with_reducible refine Kd.C_drew ?_))); (case side2 => exact HC0.out); rintro e w10 ⟨v245, rfl, ho0, hb⟩; refine ⟨_, rfl, ?_⟩; have n0_ := Aside0.mk (Kd.R_lower ho0 (below_size (by repeat (first | (with_reducible first | exact HB.out | apply below_alloc | apply pw_below_drewN | apply below_drew1) | exact HB.out)))); have n1_ := Aside0.mk (below_step (by repeat (first | (with_reducible first | exact HB.out | apply below_alloc | apply pw_below_drewN | apply below_drew1) | exact HB.out)) hb); clear HB; have HO246 := n0_; have HB := n1_; clear n0_ n1_; (try clear hb); (try clear hb2); (try clear hk); (try clear hi); (try clear ho0)))
        go_loopg [6, 21] kj2 (fun kq v6 v21 w' => ∃ (x6_2 : List Int) (x21_2 : Int), v21 = .int .i64 x21_2 ∧ Aside0 (impl_LeftOver.l0 kq l0 x6_2 l1 (l1.length : Int) x21_2 = some (r1, r2)) ∧ Aside0 (kq ≤ kj2) ∧ Aside0 (Kd.R (Kd.int .i64) 3 w' w.heap.size (fun _ => True) v6 x6_2) ∧ Aside0 (Below w.heap.size w w'))
        case atStart => exact ⟨(t244), (0), (by first | rfl | (simp; done) | (simp [*]; done)), H', ⟨Nat.le_refl _⟩, ⟨by (with_reducible repeat (first | apply Kd.R_alloc | apply Kd.R_drewN | apply Kd.R_drew)); exact HO246.out⟩, ⟨by repeat (first | (with_reducible first | exact HB.out | apply below_alloc | apply pw_below_drewN | apply below_drew1) | exact HB.out)⟩⟩
        case round =>
          clear H'
          try clear c1
          try clear c2
          try clear p2
          try clear c5
          try clear c6
          try clear c8
          try clear p2
          obtain ⟨x6_2, x21_2, rfl, HA, HK2, HO_6, HB⟩ := hrel
          cases gk with
          | zero => exact absurd HA.out (by simp [impl_LeftOver.l0])
          | succ k2 =>
            have H := HA.out
            clear HA
            simp only [impl_LeftOver.l0] at H
            by_cases c11 : x21_2 < (l1.length : Int)
            · rw [if_pos c11] at H
              have c11b0 : decide (x21_2 < (l1.length : Int)) = true := decide_eq_true c11
              clear c11
              by_cases c12 : 0 ≤ x21_2
              · rw [if_pos c12] at H
                have c12b0 : decide (0 ≤ x21_2) = true := decide_eq_true c12
                clear c12
                by_cases c13 : x21_2 < (l1.length : Int)
                · rw [if_pos c13] at H
                  have c13b0 : decide (x21_2 < (l1.length : Int)) = true := decide_eq_true c13
                  clear c13
                  by_cases c14 : ((rd_L1 l1 x21_2).length : Int) = (l0.length : Int)
                  · rw [if_pos c14] at H
                    have c14b0 : (((rd_L1 l1 x21_2).length : Int) == (l0.length : Int)) = true := beq_iff_eq.mpr c14
                    have c14b1 : (((rd_L1 l1 x21_2).length : Int) != (l0.length : Int)) = false := bne_eq_false_iff_eq.mpr c14
                    have c14b2 : ((rd_L1 l1 x21_2).length == l0.length) = true := by first | simpa using c14 | (simp at c14 ⊢; omega)
                    clear c14
                    replace H := Option.bind_eq_some_iff.mp H
                    obtain ⟨t249, A150, H⟩ := H
                    replace H : (if t249 = true then ((impl_minus.f k2 x6_2 (rd_L1 l1 x21_2)).bind fun t250 => (impl_LeftOver.l0 k2 l0 t250 l1 (l1.length : Int) (wrap64 (x21_2 + 1)))) else (some (([] : List Int), false))) = some (r1, r2) := H
                    have A15 := Aside0.mk A150
                    clear A150
                    by_cases c16 : t249 = true
                    · subst c16
                      have H1 : ((impl_minus.f k2 x6_2 (rd_L1 l1 x21_2)).bind fun t250 => (impl_LeftOver.l0 k2 l0 t250 l1 (l1.length : Int) (wrap64 (x21_2 + 1)))) = some (r1, r2) := by rw [if_pos rfl] at H; exact H
                      clear H
                      have H := H1
                      clear H1
                      replace H := Option.bind_eq_some_iff.mp H
                      obtain ⟨t250, A170, H⟩ := H
                      replace H : (impl_LeftOver.l0 k2 l0 t250 l1 (l1.length : Int) (wrap64 (x21_2 + 1))) = some (r1, r2) := H
                      have A17 := Aside0.mk A170
                      clear A170
                      have H' := Aside0.mk H
                      clear H
                      have p248 : 0 ≤ (x21_2 : Int) := of_decide_eq_true (by first | (with_reducible assumption) | assumption)
                      have q248 : x21_2 < (l1.length : Int) := of_decide_eq_true (by first | (with_reducible assumption) | assumption)
                      obtain ⟨ad248, A248_0, c248_0, e248, hx248_0, hl248_0, hi248_0⟩ := at_L1 HR1.out x21_2 p248 q248
                      cases e248
                      replace hx248_0 := (HB.out.cell (World.block_lt_of_cell? w _ hx248_0)).trans hx248_0
                      have HR248_0 := Aside0.mk hi248_0
                      have HC248_0 := Aside0.mk hl248_0
                      clear hi248_0 hl248_0
                      replace p248 := eq_true p248
                      replace q248 := eq_true q248
                      go_wp2_with (first | (go_at_call 65; (with_reducible refine (impl_areCounts.calls _ _ (rd_L1 l1 x21_2) true _ ?side1 ?side2 A15.out).mono ?_); (case side1 => repeat (first | exact (Kd.C_below HR248_0.out HB.out) | (with_reducible refine Kd.C_alloc ?_ _) | (with_reducible refine Kd.C_drewN ?_ _) | (with_reducible refine Kd.C_drew ?_))); (case side2 => exact HC248_0.out); rintro e w18 ⟨rfl, hb⟩; have n0_ := Aside0.mk (Kd.R_below (by (with_reducible repeat (first | apply Kd.R_alloc | apply Kd.R_drewN | apply Kd.R_drew)); exact HO_6.out) hb); have n1_ := Aside0.mk (below_step (by repeat (first | (with_reducible first | exact HB.out | apply below_alloc | apply pw_below_drewN | apply below_drew1) | exact HB.out)) hb); clear HO_6; clear HB; have HO_6 := n0_; have HB := n1_; clear n0_ n1_; (try clear hb); (try clear hb2); (try clear hk); (try clear hi); obtain ⟨Ao19, co19, eo19⟩ := Kd.R_slice HO_6.out; subst eo19) | ((with_reducible refine gate_callee (f := 67) rfl ?_); refine goesL_ (some 37) rfl rfl Try.func67 (by kernel_rfl) rfl #[.slice Ao19 x6_2.length co19, .slice A248_0 (rd_L1 l1 x21_2).length c248_0] rfl (by (try simp only [List.map_toArray, List.map_cons, List.map_nil]); first | done | rfl | (simp only [List.length_drop, List.length_take]; rfl)) ?_; (with_reducible refine (impl_minus.calls k2 _ _ x6_2 _ _ (rd_L1 l1 x21_2) t250 _ ?side1 ?side2 ?side3 ?side4 A17.out).mono ?_); (case side1 => repeat (first | exact (Kd.R_reads' HO_6.out).2.2 | (with_reducible refine Kd.C_alloc ?_ _) | (with_reducible refine Kd.C_drewN ?_ _) | (with_reducible refine Kd.C_drew ?_))); (case side2 => exact (Kd.R_reads' HO_6.out).2.1); (case side3 => repeat (first | exact (Kd.C_below HR248_0.out HB.out) | (with_reducible refine Kd.C_alloc ?_ _) | (with_reducible refine Kd.C_drewN ?_ _) | (with_reducible refine Kd.C_drew ?_))); (case side4 => exact HC248_0.out); rintro e w20 ⟨v251, rfl, ho0, hb⟩; refine ⟨_, rfl, ?_⟩; have n0_ := Aside0.mk (Kd.R_elder' (by (with_reducible repeat (first | apply Kd.R_alloc | apply Kd.R_drewN | apply Kd.R_drew)); exact HO_6.out) (Kd.R_base ho0) hb); have n1_ := Aside0.mk (Kd.R_lower (Kd.R_new' ho0 (Kd.R_lt (by (with_reducible repeat (first | apply Kd.R_alloc | apply Kd.R_drewN | apply Kd.R_drew)); exact HO_6.out))) (below_size (by repeat (first | (with_reducible first | exact HB.out | apply below_alloc | apply pw_below_drewN | apply below_drew1) | exact HB.out)))); have n2_ := Aside0.mk (below_step (by repeat (first | (with_reducible first | exact HB.out | apply below_alloc | apply pw_below_drewN | apply below_drew1) | exact HB.out)) hb); clear HO_6; clear HB; have HO_6 := n0_; have HO252 := n1_; have HB := n2_; clear n0_ n1_ n2_; (try clear hb); (try clear hb2); (try clear hk); (try clear hi); (try clear ho0)))
                      go_roundg k2
                      case measure => have := HJ2.out; have := HK2.out; omega
                      case rel => exact ⟨(t250), (wrap64 (x21_2 + 1)), (by first | rfl | (simp; done) | (simp [*]; done)), H', ⟨by have := HJ2.out; have := HK2.out; omega⟩, ⟨by (with_reducible repeat (first | apply Kd.R_alloc | apply Kd.R_drewN | apply Kd.R_drew)); exact Kd.R_mono HO252.out (fun _ hk => trivial)⟩, ⟨by repeat (first | (with_reducible first | exact HB.out | apply below_alloc | apply pw_below_drewN | apply below_drew1) | exact HB.out)⟩⟩
                    · replace c16 := Bool.eq_false_iff.mpr c16
                      subst c16
                      have H1 : (some (([] : List Int), false)) = some (r1, r2) := by rw [if_neg (show ¬ (false = true) by decide)] at H; exact H
                      clear H
                      have H := H1
                      clear H1
                      simp only [Option.some.injEq, Prod.mk.injEq] at H
                      obtain ⟨rfl, rfl⟩ := H
                      have p248 : 0 ≤ (x21_2 : Int) := of_decide_eq_true (by first | (with_reducible assumption) | assumption)
                      have q248 : x21_2 < (l1.length : Int) := of_decide_eq_true (by first | (with_reducible assumption) | assumption)
                      obtain ⟨ad248, A248_0, c248_0, e248, hx248_0, hl248_0, hi248_0⟩ := at_L1 HR1.out x21_2 p248 q248
                      cases e248
                      replace hx248_0 := (HB.out.cell (World.block_lt_of_cell? w _ hx248_0)).trans hx248_0
                      have HR248_0 := Aside0.mk hi248_0
                      have HC248_0 := Aside0.mk hl248_0
                      clear hi248_0 hl248_0
                      replace p248 := eq_true p248
                      replace q248 := eq_true q248
                      go_wp2_with (first | (go_at_call 65; (with_reducible refine (impl_areCounts.calls _ _ (rd_L1 l1 x21_2) false _ ?side1 ?side2 A15.out).mono ?_); (case side1 => repeat (first | exact (Kd.C_below HR248_0.out HB.out) | (with_reducible refine Kd.C_alloc ?_ _) | (with_reducible refine Kd.C_drewN ?_ _) | (with_reducible refine Kd.C_drew ?_))); (case side2 => exact HC248_0.out); rintro e w21 ⟨rfl, hb⟩; have n0_ := Aside0.mk (Kd.R_below (by (with_reducible repeat (first | apply Kd.R_alloc | apply Kd.R_drewN | apply Kd.R_drew)); exact HO_6.out) hb); have n1_ := Aside0.mk (below_step (by repeat (first | (with_reducible first | exact HB.out | apply below_alloc | apply pw_below_drewN | apply below_drew1) | exact HB.out)) hb); clear HO_6; clear HB; have HO_6 := n0_; have HB := n1_; clear n0_ n1_; (try clear hb); (try clear hb2); (try clear hk); (try clear hi)))
                      go_ret2
                      exact ⟨_, by first | rfl | (simp [errW_none, errW_some] <;> rfl) | (simp [*, errW_none, errW_some] <;> rfl), by first | exact Kd.R_nil _ _ _ _ _ | exact Kd.N_nil _ _ _ _ _ | exact Kd.V_nil _ _ _ _ _ | exact Kd.Q_nil _ _ _ _ _ | exact Kd.S_nil _ _ _ _ _, by repeat (first | (with_reducible first | exact HB.out | apply below_alloc | apply pw_below_drewN | apply below_drew1) | exact HB.out)⟩
                  · rw [if_neg c14] at H
                    have c14b0 : (((rd_L1 l1 x21_2).length : Int) == (l0.length : Int)) = false := beq_eq_false_iff_ne.mpr c14
                    have c14b1 : (((rd_L1 l1 x21_2).length : Int) != (l0.length : Int)) = true := bne_iff_ne.mpr c14
                    have c14b2 : ((rd_L1 l1 x21_2).length == l0.length) = false := by first | simpa using c14 | (simp at c14 ⊢; omega)
                    simp only [Option.some.injEq, Prod.mk.injEq] at H
                    obtain ⟨rfl, rfl⟩ := H
                    have p248 : 0 ≤ (x21_2 : Int) := of_decide_eq_true (by first | (with_reducible assumption) | assumption)
                    have q248 : x21_2 < (l1.length : Int) := of_decide_eq_true (by first | (with_reducible assumption) | assumption)
                    obtain ⟨ad248, A248_0, c248_0, e248, hx248_0, hl248_0, hi248_0⟩ := at_L1 HR1.out x21_2 p248 q248
                    cases e248
                    replace hx248_0 := (HB.out.cell (World.block_lt_of_cell? w _ hx248_0)).trans hx248_0
                    have HR248_0 := Aside0.mk hi248_0
                    have HC248_0 := Aside0.mk hl248_0
                    clear hi248_0 hl248_0
                    replace p248 := eq_true p248
                    replace q248 := eq_true q248
                    go_wp2
                    go_ret2
                    exact ⟨_, by first | rfl | (simp [errW_none, errW_some] <;> rfl) | (simp [*, errW_none, errW_some] <;> rfl), by first | exact Kd.R_nil _ _ _ _ _ | exact Kd.N_nil _ _ _ _ _ | exact Kd.V_nil _ _ _ _ _ | exact Kd.Q_nil _ _ _ _ _ | exact Kd.S_nil _ _ _ _ _, by repeat (first | (with_reducible first | exact HB.out | apply below_alloc | apply pw_below_drewN | apply below_drew1) | exact HB.out)⟩
                · rw [if_neg c13] at H
                  exact absurd H (by simp)
              · rw [if_neg c12] at H
                exact absurd H (by simp)
            · rw [if_neg c11] at H
              have c11b0 : decide (x21_2 < (l1.length : Int)) = false := decide_eq_false c11
              clear c11
              replace H := Option.bind_eq_some_iff.mp H
              obtain ⟨t247, A220, H⟩ := H
              replace H : (if t247 = true then (some (x6_2, true)) else (some (([] : List Int), false))) = some (r1, r2) := H
              have A22 := Aside0.mk A220
              clear A220
              by_cases c23 : t247 = true
              · subst c23
                have H1 : (some (x6_2, true)) = some (r1, r2) := by rw [if_pos rfl] at H; exact H
                clear H
                have H := H1
                clear H1
                simp only [Option.some.injEq, Prod.mk.injEq] at H
                obtain ⟨rfl, rfl⟩ := H
                obtain ⟨Ao24, co24, eo24⟩ := Kd.R_slice HO_6.out
                subst eo24
                go_wp2_with (first | ((with_reducible refine gate_callee (f := 68) rfl ?_); refine goesL_ (some 40) rfl rfl Try.func68 (by kernel_rfl) rfl #[.slice Ao24 x6_2.length co24, .int .i64 0, .int .i64 6] rfl (by (try simp only [List.map_toArray, List.map_cons, List.map_nil]); first | done | rfl | (simp only [List.length_drop, List.length_take]; rfl)) ?_; (with_reducible refine (impl_areWithin.calls _ _ x6_2 0 6 true _ ?side1 ?side2 A22.out).mono ?_); (case side1 => repeat (first | exact (Kd.R_reads' HO_6.out).2.2 | (with_reducible refine Kd.C_alloc ?_ _) | (with_reducible refine Kd.C_drewN ?_ _) | (with_reducible refine Kd.C_drew ?_))); (case side2 => exact (Kd.R_reads' HO_6.out).2.1); rintro e w25 ⟨rfl, hb⟩; refine ⟨_, rfl, ?_⟩; have n0_ := Aside0.mk (Kd.R_below (by (with_reducible repeat (first | apply Kd.R_alloc | apply Kd.R_drewN | apply Kd.R_drew)); exact HO_6.out) hb); have n1_ := Aside0.mk (below_step (by repeat (first | (with_reducible first | exact HB.out | apply below_alloc | apply pw_below_drewN | apply below_drew1) | exact HB.out)) hb); clear HO_6; clear HB; have HO_6 := n0_; have HB := n1_; clear n0_ n1_; (try clear hb); (try clear hb2); (try clear hk); (try clear hi)))
                go_ret2
                exact ⟨_, by first | rfl | (simp [errW_none, errW_some] <;> rfl) | (simp [*, errW_none, errW_some] <;> rfl), by (with_reducible repeat (first | apply Kd.R_alloc | apply Kd.R_drewN | apply Kd.R_drew)); exact HO_6.out, by repeat (first | (with_reducible first | exact HB.out | apply below_alloc | apply pw_below_drewN | apply below_drew1) | exact HB.out)⟩
              · replace c23 := Bool.eq_false_iff.mpr c23
                subst c23
                have H1 : (some (([] : List Int), false)) = some (r1, r2) := by rw [if_neg (show ¬ (false = true) by decide)] at H; exact H
                clear H
                have H := H1
                clear H1
                simp only [Option.some.injEq, Prod.mk.injEq] at H
                obtain ⟨rfl, rfl⟩ := H
                obtain ⟨Ao26, co26, eo26⟩ := Kd.R_slice HO_6.out
                subst eo26
                go_wp2_with (first | ((with_reducible refine gate_callee (f := 68) rfl ?_); refine goesL_ (some 40) rfl rfl Try.func68 (by kernel_rfl) rfl #[.slice Ao26 x6_2.length co26, .int .i64 0, .int .i64 6] rfl (by (try simp only [List.map_toArray, List.map_cons, List.map_nil]); first | done | rfl | (simp only [List.length_drop, List.length_take]; rfl)) ?_; (with_reducible refine (impl_areWithin.calls _ _ x6_2 0 6 false _ ?side1 ?side2 A22.out).mono ?_); (case side1 => repeat (first | exact (Kd.R_reads' HO_6.out).2.2 | (with_reducible refine Kd.C_alloc ?_ _) | (with_reducible refine Kd.C_drewN ?_ _) | (with_reducible refine Kd.C_drew ?_))); (case side2 => exact (Kd.R_reads' HO_6.out).2.1); rintro e w27 ⟨rfl, hb⟩; refine ⟨_, rfl, ?_⟩; have n0_ := Aside0.mk (Kd.R_below (by (with_reducible repeat (first | apply Kd.R_alloc | apply Kd.R_drewN | apply Kd.R_drew)); exact HO_6.out) hb); have n1_ := Aside0.mk (below_step (by repeat (first | (with_reducible first | exact HB.out | apply below_alloc | apply pw_below_drewN | apply below_drew1) | exact HB.out)) hb); clear HO_6; clear HB; have HO_6 := n0_; have HB := n1_; clear n0_ n1_; (try clear hb); (try clear hb2); (try clear hk); (try clear hi)))
                go_ret2
                exact ⟨_, by first | rfl | (simp [errW_none, errW_some] <;> rfl) | (simp [*, errW_none, errW_some] <;> rfl), by first | exact Kd.R_nil _ _ _ _ _ | exact Kd.N_nil _ _ _ _ _ | exact Kd.V_nil _ _ _ _ _ | exact Kd.Q_nil _ _ _ _ _ | exact Kd.S_nil _ _ _ _ _, by repeat (first | (with_reducible first | exact HB.out | apply below_alloc | apply pw_below_drewN | apply below_drew1) | exact HB.out)⟩

end Go.Proofs.Ytfhaclkjiolmjaa.Q

namespace Go.Proofs.Ytfhaclkjiolmjaa.Q
open Go.RowKit Go.Proofs.YtfhaclkjiolmjaaW.PrintWords Go.Proofs.YtfhaclkjiolmjaaW.PrintLast Go.Proofs.YtfhaclkjiolmjaaW.PrintMore
attribute [local go_sem] max2_int min2_int max_two min_two max_three min_three max_four min_four   -- for this text's walks alone
set_option linter.unusedVariables false
set_option linter.unusedSimpArgs false

/-! ### laws_szIntS: function 61 -/
def laws_szIntS.f (l0 : List Int) (a1 : Int) : Option (Int) := if (wrap64 (a1 - (l0.length : Int))) < 0 then (some (-1)) else (some (wrap64 (a1 - (l0.length : Int))))
set_option maxHeartbeats 8000000 in
set_option maxRecDepth 100000 in
theorem laws_szIntS.calls (A0 : Option Addr) (c0 : Nat) (l0 : List Int) (a1 : Int) (r : Int) (w : World) (hr0 : Kd.C (Kd.int .i64) w A0 l0.length l0) (hc0 : l0.length ≤ c0) (h : laws_szIntS.f l0 a1 = some r) :
    Calls Try.prog 61 #[.slice A0 l0.length c0, .int .i64 a1] w fun e w' => e = .returned (.int .i64 r) ∧ Drawn0 w w' := by
  have HR0 := Aside0.mk hr0
  have HC0 := Aside0.mk hc0
  clear hr0 hc0
  have H : (if (wrap64 (a1 - (l0.length : Int))) < 0 then (some (-1)) else (some (wrap64 (a1 - (l0.length : Int))))) = some r := h
  clear h
  by_cases c3 : (wrap64 (a1 - (l0.length : Int))) < 0
  · rw [if_pos c3] at H
    have c3b0 : decide ((wrap64 (a1 - (l0.length : Int))) < 0) = true := decide_eq_true c3
    clear c3
    obtain rfl := Option.some.inj H
    go_enter Try.func61, Try.ntmps61
    go_wp2
    go_ret
    exact ⟨by first | rfl | (simp; done) | (simp [*]; done), by repeat (first | exact Drawn0.refl _ | apply Drawn0.step)⟩
  · rw [if_neg c3] at H
    have c3b0 : decide ((wrap64 (a1 - (l0.length : Int))) < 0) = false := decide_eq_false c3
    clear c3
    obtain rfl := Option.some.inj H
    go_enter Try.func61, Try.ntmps61
    go_wp2
    go_ret
    exact ⟨by first | rfl | (simp; done) | (simp [*]; done), by repeat (first | exact Drawn0.refl _ | apply Drawn0.step)⟩

end Go.Proofs.Ytfhaclkjiolmjaa.Q

namespace Go.Proofs.Ytfhaclkjiolmjaa.Q
open Go.RowKit Go.Proofs.YtfhaclkjiolmjaaW.PrintWords Go.Proofs.YtfhaclkjiolmjaaW.PrintLast Go.Proofs.YtfhaclkjiolmjaaW.PrintMore
attribute [local go_sem] max2_int min2_int max_two min_two max_three min_three max_four min_four   -- for this text's walks alone
set_option linter.unusedVariables false
set_option linter.unusedSimpArgs false

/-! ### laws_szIntSS: function 21 -/
def laws_szIntSS.l0 : Nat → List (List Int) → Int → Int → Option (Int)
  | 0, _, _, _ => none
  | k + 1, x0, x1, x5 => if x5 < (x0.length : Int) then (if 0 ≤ x5 then ((laws_szIntS.f (rd_L1 x0 x5) x1).bind fun t206 => (if t206 < 0 then (some (-1)) else (laws_szIntSS.l0 k x0 t206 (wrap64 (x5 + 1))))) else (none)) else (some x1)
def laws_szIntSS.f (k : Nat) (l0 : List (List Int)) (a1 : Int) : Option (Int) := if (wrap64 (a1 - (l0.length : Int))) < 0 then (some (-1)) else (laws_szIntSS.l0 k l0 (wrap64 (a1 - (l0.length : Int))) 0)
theorem laws_szIntSS.mono_l : ∀ k, (∀ y0 y1 y2, LeO (laws_szIntSS.l0 k y0 y1 y2) (laws_szIntSS.l0 (k + 1) y0 y1 y2))
  | 0 => fun _ _ _ r h => by simp [laws_szIntSS.l0] at h
  | k + 1 => by
    have ih0 := laws_szIntSS.mono_l k
    · intro y0 y1 y2
      unfold laws_szIntSS.l0
      repeat' first
      | (with_reducible exact ih0 _ _ _)
      | (with_reducible exact LeO.refl _)
      | (with_reducible exact LeO.none _)
      | (with_reducible refine LeO.ite ?_ ?_)
      | (with_reducible refine LeO.bind ?_ (fun _ => ?_))
      | exact ih0 _ _ _
      | exact LeO.none _
      | refine LeO.ite ?_ ?_
      | refine LeO.bind ?_ (fun _ => ?_)
theorem laws_szIntSS.mono : ∀ a0 a1 k, LeO (laws_szIntSS.f k a0 a1) (laws_szIntSS.f (k + 1) a0 a1) := by
  intro a0 a1 k
  have ih0 := laws_szIntSS.mono_l k
  unfold laws_szIntSS.f
  repeat' first
      | (with_reducible exact ih0 _ _ _)
      | (with_reducible exact LeO.refl _)
      | (with_reducible exact LeO.none _)
      | (with_reducible refine LeO.ite ?_ ?_)
      | (with_reducible refine LeO.bind ?_ (fun _ => ?_))
      | exact ih0 _ _ _
      | exact LeO.none _
      | refine LeO.ite ?_ ?_
      | refine LeO.bind ?_ (fun _ => ?_)
set_option maxHeartbeats 8000000 in
set_option maxRecDepth 100000 in
theorem laws_szIntSS.calls (k : Nat) (A0 : Option Addr) (c0 : Nat) (l0 : List (List Int)) (a1 : Int) (r : Int) (w : World) (hr0 : Kd.C (Kd.slice 3 (Kd.int .i64)) w A0 l0.length l0) (hc0 : l0.length ≤ c0) (h : laws_szIntSS.f k l0 a1 = some r) :
    Calls Try.prog 21 #[.slice A0 l0.length c0, .int .i64 a1] w fun e w' => e = .returned (.int .i64 r) ∧ Drawn0 w w' := by
  have HR0 := Aside0.mk hr0
  have HC0 := Aside0.mk hc0
  clear hr0 hc0
  have H : (if (wrap64 (a1 - (l0.length : Int))) < 0 then (some (-1)) else (laws_szIntSS.l0 k l0 (wrap64 (a1 - (l0.length : Int))) 0)) = some r := h
  clear h
  by_cases c3 : (wrap64 (a1 - (l0.length : Int))) < 0
  · rw [if_pos c3] at H
    have c3b0 : decide ((wrap64 (a1 - (l0.length : Int))) < 0) = true := decide_eq_true c3
    clear c3
    obtain rfl := Option.some.inj H
    go_enter Try.func21, Try.ntmps21
    go_wp2
    go_ret
    exact ⟨by first | rfl | (simp; done) | (simp [*]; done), by repeat (first | exact Drawn0.refl _ | apply Drawn0.step)⟩
  · rw [if_neg c3] at H
    have c3b0 : decide ((wrap64 (a1 - (l0.length : Int))) < 0) = false := decide_eq_false c3
    clear c3
    have H' := Aside0.mk H
    clear H
    go_enter Try.func21, Try.ntmps21
    go_wp2
    go_loopg [1, 5] k (fun kq v1 v5 w' => ∃ (x1_1 : Int) (x5_1 : Int), v1 = .int .i64 x1_1 ∧ v5 = .int .i64 x5_1 ∧ Aside0 (laws_szIntSS.l0 kq l0 x1_1 x5_1 = some r) ∧ Aside0 (kq ≤ k) ∧ Drawn0 w w')
    case atStart => exact ⟨(wrap64 (a1 - (l0.length : Int))), (0), (by first | rfl | (simp; done) | (simp [*]; done)), (by first | rfl | (simp; done) | (simp [*]; done)), H', ⟨Nat.le_refl _⟩, by repeat (first | exact Drawn0.refl _ | apply Drawn0.step)⟩
    case round =>
      clear H'
      try clear c2
      try clear p2
      try clear c3
      try clear c3b0
      obtain ⟨x1_1, x5_1, rfl, rfl, HA, HK1, ⟨m1, rfl⟩⟩ := hrel
      cases gk with
      | zero => exact absurd HA.out (by simp [laws_szIntSS.l0])
      | succ k1 =>
        have H := HA.out
        clear HA
        simp only [laws_szIntSS.l0] at H
        by_cases c4 : x5_1 < (l0.length : Int)
        · rw [if_pos c4] at H
          have c4b0 : decide (x5_1 < (l0.length : Int)) = true := decide_eq_true c4
          clear c4
          by_cases c5 : 0 ≤ x5_1
          · rw [if_pos c5] at H
            have c5b0 : decide (0 ≤ x5_1) = true := decide_eq_true c5
            clear c5
            replace H := Option.bind_eq_some_iff.mp H
            obtain ⟨t206, A60, H⟩ := H
            replace H : (if t206 < 0 then (some (-1)) else (laws_szIntSS.l0 k1 l0 t206 (wrap64 (x5_1 + 1)))) = some r := H
            have A6 := Aside0.mk A60
            clear A60
            by_cases c7 : t206 < 0
            · rw [if_pos c7] at H
              have c7b0 : decide (t206 < 0) = true := decide_eq_true c7
              clear c7
              obtain rfl := Option.some.inj H
              have p205 : 0 ≤ (x5_1 : Int) := of_decide_eq_true (by first | (with_reducible assumption) | assumption)
              have q205 : x5_1 < (l0.length : Int) := of_decide_eq_true (by first | (with_reducible assumption) | assumption)
              obtain ⟨ad205, A205_0, c205_0, e205, hx205_0, hl205_0, hi205_0⟩ := at_L1 HR0.out x5_1 p205 q205
              cases e205
              have HR205_0 := Aside0.mk hi205_0
              have HC205_0 := Aside0.mk hl205_0
              clear hi205_0 hl205_0
              replace p205 := eq_true p205
              replace q205 := eq_true q205
              go_wp2_with (first | ((with_reducible refine gate_callee (f := 61) rfl ?_); refine goesL_ (some 23) rfl rfl Try.func61 (by kernel_rfl) rfl #[.slice A205_0 (rd_L1 l0 x5_1).length c205_0, .int .i64 x1_1] rfl (by (try simp only [List.map_toArray, List.map_cons, List.map_nil]); first | done | rfl | (simp only [List.length_drop, List.length_take]; rfl)) ?_; (with_reducible refine (laws_szIntS.calls _ _ (rd_L1 l0 x5_1) x1_1 t206 _ ?side1 ?side2 A6.out).mono ?_); (case side1 => repeat (first | exact HR205_0.out | (with_reducible refine Kd.C_alloc ?_ _) | (with_reducible refine Kd.C_drewN ?_ _) | (with_reducible refine Kd.C_drew ?_))); (case side2 => exact HC205_0.out); rintro e w' ⟨rfl, ⟨nd, rfl⟩⟩; refine ⟨_, rfl, ?_⟩))
              go_ret
              exact ⟨by first | rfl | (simp; done) | (simp [*]; done), by repeat (first | exact Drawn0.refl _ | apply Drawn0.step)⟩
            · rw [if_neg c7] at H
              have c7b0 : decide (t206 < 0) = false := decide_eq_false c7
              clear c7
              have H' := Aside0.mk H
              clear H
              have p205 : 0 ≤ (x5_1 : Int) := of_decide_eq_true (by first | (with_reducible assumption) | assumption)
              have q205 : x5_1 < (l0.length : Int) := of_decide_eq_true (by first | (with_reducible assumption) | assumption)
              obtain ⟨ad205, A205_0, c205_0, e205, hx205_0, hl205_0, hi205_0⟩ := at_L1 HR0.out x5_1 p205 q205
              cases e205
              have HR205_0 := Aside0.mk hi205_0
              have HC205_0 := Aside0.mk hl205_0
              clear hi205_0 hl205_0
              replace p205 := eq_true p205
              replace q205 := eq_true q205
              go_wp2_with (first | ((with_reducible refine gate_callee (f := 61) rfl ?_); refine goesL_ (some 23) rfl rfl Try.func61 (by kernel_rfl) rfl #[.slice A205_0 (rd_L1 l0 x5_1).length c205_0, .int .i64 x1_1] rfl (by (try simp only [List.map_toArray, List.map_cons, List.map_nil]); first | done | rfl | (simp only [List.length_drop, List.length_take]; rfl)) ?_; (with_reducible refine (laws_szIntS.calls _ _ (rd_L1 l0 x5_1) x1_1 t206 _ ?side1 ?side2 A6.out).mono ?_); (case side1 => repeat (first | exact HR205_0.out | (with_reducible refine Kd.C_alloc ?_ _) | (with_reducible refine Kd.C_drewN ?_ _) | (with_reducible refine Kd.C_drew ?_))); (case side2 => exact HC205_0.out); rintro e w' ⟨rfl, ⟨nd, rfl⟩⟩; refine ⟨_, rfl, ?_⟩))
              go_roundg k1
              case measure => have := HK1.out; omega
              case rel => exact ⟨(t206), (wrap64 (x5_1 + 1)), (by first | rfl | (simp; done) | (simp [*]; done)), (by first | rfl | (simp; done) | (simp [*]; done)), H', ⟨by have := HK1.out; omega⟩, by repeat (first | exact Drawn0.refl _ | apply Drawn0.step)⟩
          · rw [if_neg c5] at H
            exact absurd H (by simp)
        · rw [if_neg c4] at H
          have c4b0 : decide (x5_1 < (l0.length : Int)) = false := decide_eq_false c4
          clear c4
          obtain rfl := Option.some.inj H
          go_wp2
          go_ret
          exact ⟨by first | rfl | (simp; done) | (simp [*]; done), by repeat (first | exact Drawn0.refl _ | apply Drawn0.step)⟩

end Go.Proofs.Ytfhaclkjiolmjaa.Q

namespace Go.Proofs.Ytfhaclkjiolmjaa.Q
open Go.RowKit Go.Proofs.YtfhaclkjiolmjaaW.PrintWords Go.Proofs.YtfhaclkjiolmjaaW.PrintLast Go.Proofs.YtfhaclkjiolmjaaW.PrintMore
attribute [local go_sem] max2_int min2_int max_two min_two max_three min_three max_four min_four   -- for this text's walks alone
set_option linter.unusedVariables false
set_option linter.unusedSimpArgs false

/-! ### laws_toIntSS: function 23 -/
def laws_toIntSS.l0 : Nat → List (List Int) → List (List Int) → Int → Option ((List (List Int)))
  | 0, _, _, _ => none
  | k + 1, x0, x3, x4 => if x4 < (x0.length : Int) then (if 0 ≤ x4 then ((laws_toIntS.f k (rd_L1 x0 x4)).bind fun t231 => (if x4 < (x3.length : Int) then (laws_toIntSS.l0 k x0 (x3.set (x4 : Int).toNat t231) (wrap64 (x4 + 1))) else (none))) else (none)) else (some x3)
def laws_toIntSS.f (k : Nat) (l0 : List (List Int)) : Option ((List (List Int))) := if 0 ≤ (l0.length : Int) then (if ((l0.length : Int) : Int).toNat ≤ 11728124029610 then (laws_toIntSS.l0 k l0 (List.replicate ((l0.length : Int) : Int).toNat []) 0) else (none)) else (none)
theorem laws_toIntSS.mono_l : ∀ k, (∀ y0 y1 y2, LeO (laws_toIntSS.l0 k y0 y1 y2) (laws_toIntSS.l0 (k + 1) y0 y1 y2))
  | 0 => fun _ _ _ r h => by simp [laws_toIntSS.l0] at h
  | k + 1 => by
    have ih0 := laws_toIntSS.mono_l k
    · intro y0 y1 y2
      unfold laws_toIntSS.l0
      repeat' first
      | (with_reducible exact ih0 _ _ _)
      | (with_reducible exact laws_toIntS.mono _ _)
      | (with_reducible exact LeO.refl _)
      | (with_reducible exact LeO.none _)
      | (with_reducible refine LeO.ite ?_ ?_)
      | (with_reducible refine LeO.bind ?_ (fun _ => ?_))
      | exact ih0 _ _ _
      | exact laws_toIntS.mono _ _
      | exact LeO.none _
      | refine LeO.ite ?_ ?_
      | refine LeO.bind ?_ (fun _ => ?_)
theorem laws_toIntSS.mono : ∀ a0 k, LeO (laws_toIntSS.f k a0) (laws_toIntSS.f (k + 1) a0) := by
  intro a0 k
  have ih0 := laws_toIntSS.mono_l k
  unfold laws_toIntSS.f
  repeat' first
      | (with_reducible exact ih0 _ _ _)
      | (with_reducible exact laws_toIntS.mono _ _)
      | (with_reducible exact LeO.refl _)
      | (with_reducible exact LeO.none _)
      | (with_reducible refine LeO.ite ?_ ?_)
      | (with_reducible refine LeO.bind ?_ (fun _ => ?_))
      | exact ih0 _ _ _
      | exact laws_toIntS.mono _ _
      | exact LeO.none _
      | refine LeO.ite ?_ ?_
      | refine LeO.bind ?_ (fun _ => ?_)
set_option maxHeartbeats 8000000 in
set_option maxRecDepth 100000 in
theorem laws_toIntSS.calls (k : Nat) (A0 : Option Addr) (c0 : Nat) (l0 : List (List Int)) (r : List (List Int)) (w : World) (hr0 : Kd.C (Kd.slice 3 (Kd.int .i64)) w A0 l0.length l0) (hc0 : l0.length ≤ c0) (h : laws_toIntSS.f k l0 = some r) :
    Calls Try.prog 23 #[.slice A0 l0.length c0] w fun e w' => ∃ v0_ : Value, e = .returned (v0_) ∧ Kd.S (Kd.slice 3 (Kd.int .i64)) 22 w' w.heap.size (fun _ => True) v0_ r ∧ Below w.heap.size w w' := by
  have HR0 := Aside0.mk hr0
  have HC0 := Aside0.mk hc0
  clear hr0 hc0
  have HB := Aside0.mk (Below.refl w.heap.size w)
  have H : (if 0 ≤ (l0.length : Int) then (if ((l0.length : Int) : Int).toNat ≤ 11728124029610 then (laws_toIntSS.l0 k l0 (List.replicate ((l0.length : Int) : Int).toNat []) 0) else (none)) else (none)) = some r := h
  clear h
  by_cases c2 : 0 ≤ (l0.length : Int)
  · rw [if_pos c2] at H
    have c2b0 := eq_true c2
    have c2b1 : decide (0 ≤ (l0.length : Int)) = true := decide_eq_true c2
    clear c2
    by_cases c3 : ((l0.length : Int) : Int).toNat ≤ 11728124029610
    · rw [if_pos c3] at H
      have c3b0 := eq_true c3
      have c3b1 : decide (((l0.length : Int) : Int).toNat ≤ 11728124029610) = true := decide_eq_true c3
      clear c3
      obtain ⟨y227, hy227⟩ : ∃ y_ : List (List Int), y_ = (List.replicate ((l0.length : Int) : Int).toNat []) := ⟨_, rfl⟩
      replace H : (laws_toIntSS.l0 k l0 y227 0) = some r := by first | (rw [hy227]; with_reducible exact H) | (have H2_ := (Option.bind_some _ _).symm.trans H; rw [hy227]; with_reducible exact H2_) | (have H2_ := (Option.bind_some _ _).symm.trans H; with_reducible exact H2_) | with_reducible exact H | (rw [hy227]; exact H) | exact H
      have Ny227 := Aside0.mk hy227
      clear hy227
      have H' := Aside0.mk H
      clear H
      go_enter Try.func23, Try.ntmps23
      go_wp2_with (first | ((with_reducible refine gate_dst (N := 7) rfl ?_); refine Kd.S_make (Kd.slice 3 (Kd.int .i64)) _ 22 rfl (N := 7) rfl 29 _ _ rfl (l0.length : Int) rfl rfl Try.underlying29 (.slice none 0 0) 24 info22 rfl (by decide) (by omega) [] (ok := fun _ => True) (okp := fun _ => True) ⟨_, rfl, Kd.R_nil _ _ _ _ _⟩ (fun _ hk => hk) trivial (of_decide_eq_true (by first | (with_reducible assumption) | assumption)) (Nat.le_trans (Nat.mul_le_mul_right _ (of_decide_eq_true (by first | (with_reducible assumption) | assumption) : (l0.length : Int).toNat ≤ 11728124029610)) (by omega)) (Below.refl _ _) (Nat.le_refl _) ?_; intro v228 w4 ho5 hb hg_ hnew_; clear hg_ hnew_; (first | rw [← Ny227.out] at ho5 | (simp only [Int.reduceToNat] at ho5; rw [← Ny227.out] at ho5)); have n0_ := Aside0.mk (Kd.S_lower ho5 (below_size (by repeat (first | (with_reducible first | exact HB.out | apply below_alloc | apply pw_below_drewN | apply below_drew1) | exact HB.out)))); have n1_ := Aside0.mk (below_step (by repeat (first | (with_reducible first | exact HB.out | apply below_alloc | apply pw_below_drewN | apply below_drew1) | exact HB.out)) hb); clear HB; have HO229 := n0_; have HB := n1_; clear n0_ n1_; clear hb ho5))
      go_loopg [4] k (fun kq v4 w' => ∃ (x3_1 : List (List Int)) (x4_1 : Int), v4 = .int .i64 x4_1 ∧ Aside0 (laws_toIntSS.l0 kq l0 x3_1 x4_1 = some r) ∧ Aside0 (kq ≤ k) ∧ Aside0 (Kd.S (Kd.slice 3 (Kd.int .i64)) 22 w' w.heap.size (fun _ => True) v228 x3_1) ∧ Aside0 (Below w.heap.size w w'))
      case atStart => exact ⟨(y227), (0), (by first | rfl | (simp; done) | (simp [*]; done)), H', ⟨Nat.le_refl _⟩, ⟨by (with_reducible repeat (first | apply Kd.S_alloc | apply Kd.S_drewN | apply Kd.S_drew)); exact HO229.out⟩, ⟨by repeat (first | (with_reducible first | exact HB.out | apply below_alloc | apply pw_below_drewN | apply below_drew1) | exact HB.out)⟩⟩
      case round =>
        clear H'
        try clear c2
        try clear c2b0
        try clear c2b1
        try clear p2
        try clear c3
        try clear c3b0
        try clear c3b1
        obtain ⟨x3_1, x4_1, rfl, HA, HK1, HO_3, HB⟩ := hrel
        cases gk with
        | zero => exact absurd HA.out (by simp [laws_toIntSS.l0])
        | succ k1 =>
          have H := HA.out
          clear HA
          simp only [laws_toIntSS.l0] at H
          by_cases c6 : x4_1 < (l0.length : Int)
          · rw [if_pos c6] at H
            have c6b0 : decide (x4_1 < (l0.length : Int)) = true := decide_eq_true c6
            clear c6
            by_cases c7 : 0 ≤ x4_1
            · rw [if_pos c7] at H
              have c7b0 : decide (0 ≤ x4_1) = true := decide_eq_true c7
              clear c7
              replace H := Option.bind_eq_some_iff.mp H
              obtain ⟨t231, A80, H⟩ := H
              replace H : (if x4_1 < (x3_1.length : Int) then (laws_toIntSS.l0 k1 l0 (x3_1.set (x4_1 : Int).toNat t231) (wrap64 (x4_1 + 1))) else (none)) = some r := H
              have A8 := Aside0.mk A80
              clear A80
              by_cases c9 : x4_1 < (x3_1.length : Int)
              · rw [if_pos c9] at H
                have c9b0 : decide (x4_1 < (x3_1.length : Int)) = true := decide_eq_true c9
                clear c9
                obtain ⟨y234, hy234⟩ : ∃ y_ : List (List Int), y_ = (x3_1.set (x4_1 : Int).toNat t231) := ⟨_, rfl⟩
                replace H : (laws_toIntSS.l0 k1 l0 y234 (wrap64 (x4_1 + 1))) = some r := by first | (rw [hy234]; with_reducible exact H) | (have H2_ := (Option.bind_some _ _).symm.trans H; rw [hy234]; with_reducible exact H2_) | (have H2_ := (Option.bind_some _ _).symm.trans H; with_reducible exact H2_) | with_reducible exact H | (rw [hy234]; exact H) | exact H
                have Ny234 := Aside0.mk hy234
                clear hy234
                have H' := Aside0.mk H
                clear H
                have p230 : 0 ≤ (x4_1 : Int) := of_decide_eq_true (by first | (with_reducible assumption) | assumption)
                have q230 : x4_1 < (l0.length : Int) := of_decide_eq_true (by first | (with_reducible assumption) | assumption)
                obtain ⟨ad230, A230_0, c230_0, e230, hx230_0, hl230_0, hi230_0⟩ := at_L1 HR0.out x4_1 p230 q230
                cases e230
                replace hx230_0 := (HB.out.cell (World.block_lt_of_cell? w _ hx230_0)).trans hx230_0
                have HR230_0 := Aside0.mk hi230_0
                have HC230_0 := Aside0.mk hl230_0
                clear hi230_0 hl230_0
                replace p230 := eq_true p230
                replace q230 := eq_true q230
                go_wp2_with (first | ((with_reducible refine gate_callee (f := 11) rfl ?_); refine goesL_ (some 20) rfl rfl Try.func11 (by kernel_rfl) rfl #[.slice A230_0 (rd_L1 l0 x4_1).length c230_0] rfl (by (try simp only [List.map_toArray, List.map_cons, List.map_nil]); first | done | rfl | (simp only [List.length_drop, List.length_take]; rfl)) ?_; (with_reducible refine (laws_toIntS.calls k1 _ _ (rd_L1 l0 x4_1) t231 _ ?side1 ?side2 A8.out).mono ?_); (case side1 => repeat (first | exact (Kd.C_below HR230_0.out HB.out) | (with_reducible refine Kd.C_alloc ?_ _) | (with_reducible refine Kd.C_drewN ?_ _) | (with_reducible refine Kd.C_drew ?_))); (case side2 => exact HC230_0.out); rintro e w11 ⟨v232, rfl, ho0, hb⟩; refine ⟨_, rfl, ?_⟩; obtain ⟨A232, c232, rfl⟩ := Kd.R_slice ho0; have n0_ := Aside0.mk (Kd.S_elder' (by (with_reducible repeat (first | apply Kd.S_alloc | apply Kd.S_drewN | apply Kd.S_drew)); exact HO_3.out) (Kd.R_base ho0) hb); have n1_ := Aside0.mk (Kd.R_lower ho0 (below_size (by repeat (first | (with_reducible first | exact HB.out | apply below_alloc | apply pw_below_drewN | apply below_drew1) | exact HB.out)))); have n2_ := Aside0.mk (below_step (by repeat (first | (with_reducible first | exact HB.out | apply below_alloc | apply pw_below_drewN | apply below_drew1) | exact HB.out)) hb); clear HO_3; clear HB; have HO_3 := n0_; have HO233 := n1_; have HB := n2_; clear n0_ n1_ n2_; (try clear hb); (try clear hb2); (try clear hk); (try clear hi); (try clear ho0); have p10 : 0 ≤ (x4_1 : Int) := of_decide_eq_true (by first | (with_reducible assumption) | assumption); have q10 : (x4_1 : Int) < ((x3_1.length : Int) : Int) := of_decide_eq_true (by first | (with_reducible assumption) | assumption); obtain ⟨go10, co10, eo10, gb10, gl10, cl10, HG10⟩ := Kd.S_form HO_3.out (by omega); (first | cases eo10 | (injection eo10 with ea_ en_ ec_; (first | subst ea_ | (injection ea_ with ea_; subst ea_)); subst ec_; clear en_)); have GB10 := Aside0.mk gb10; have GG10 := Aside0.mk HG10; clear gb10 gl10 HG10; obtain ⟨_, ce10, hcl10, hM10, hcc10, hfr10, _, _⟩ := Kd.S_elem HO_3.out [] (x4_1 : Int) p10 q10; obtain ⟨ve10_0, rfl, ge10_0⟩ := hM10; have hx10_0 := hcc10 0 _ rfl; have hf10_0 := hfr10 0; (try simp only [show ((Kd.slice 3 (Kd.int .i64))).sz = 1 from rfl, Nat.mul_one, Nat.add_zero] at hx10_0); (try simp only [show ((Kd.slice 3 (Kd.int .i64))).sz = 1 from rfl, Nat.mul_one, Nat.add_zero] at hf10_0); (try clear hcl10); (try clear hcc10); (try clear hfr10); (try clear hM10); replace p10 := eq_true p10; replace q10 := eq_true q10; have n_ := Aside0.mk (Kd.S_mono (ok' := (fun k_ => some k_ ≠ (Value.slice A232 t231.length c232).ownBlock)) HO_3.out (fun k_ hk => hk.2)); clear HO_3; have HO_3 := n_; clear n_; have HX12 := Aside0.mk (show Kd.S (Kd.slice 3 (Kd.int .i64)) 22 w11 w.heap.size (fun k_ => ((fun _ => True)) k_ ∧ ¬ ((fun k_ => some k_ = (Value.slice A232 t231.length c232).ownBlock)) k_) (.slice (some ⟨go10, 0, none⟩) x3_1.length co10) x3_1 from (by (with_reducible repeat (first | apply Kd.S_alloc | apply Kd.S_drewN | apply Kd.S_drew)); exact Kd.S_mono HO_3.out (fun k_ hk => ⟨trivial, fun e_ => hk e_⟩))); obtain ⟨oki12, ce12, hcl12, hM12, hcc12, hfr12, hoki12, hH12⟩ := Kd.S_elem HX12.out [] (x4_1 : Int) (of_decide_eq_true (by first | (with_reducible assumption) | assumption)) (by have h_ : (x4_1 : Int) < ((x3_1.length : Int) : Int) := of_decide_eq_true (by first | (with_reducible assumption) | assumption); first | exact h_ | (have e_ := (Kd.S_reads' HO_3.out).1; omega) | simpa using h_); obtain ⟨ve12_0, rfl, ge12_0⟩ := hM12; have HP12 := Kd.S_seg hH12 (of_decide_eq_true (by first | (with_reducible assumption) | assumption)) (by have h_ : (x4_1 : Int) < ((x3_1.length : Int) : Int) := of_decide_eq_true (by first | (with_reducible assumption) | assumption); first | exact h_ | (have e_ := (Kd.S_reads' HO_3.out).1; omega) | simpa using h_) (seg := [(Value.slice A232 t231.length c232)]) (j := 0) (show 1 ≤ 1 from by decide) (x' := t231) (Kd.M_row (Kd.R_mono (Kd.R_tight rfl (Kd.R_mono (ok' := fun k_ => ((fun _ => True)) k_ ∧ k_ ≠ go10) (Kd.R_apart' (HO233.out) (Kd.S_typed HO_3.out) (by decide)) (fun k_ hk => ⟨trivial, fun e_ => (hk.2) (by rw [e_]; rfl)⟩))) (fun _ h_ => Or.inr (h_)))) (fun _ hk => hk) (fun k_ hk_ => ((Kd.R_mono (ok' := fun k_ => ((fun _ => True)) k_ ∧ k_ ≠ go10) (Kd.R_apart' (HO233.out) (Kd.S_typed HO_3.out) (by decide)) (fun k_ hk => ⟨trivial, fun e_ => (hk.2) (by rw [e_]; rfl)⟩))).1 k_ hk_.symm); have hx12_0 := hcc12 0 _ rfl; (try simp only [show ((Kd.slice 3 (Kd.int .i64))).sz = 1 from rfl, Nat.mul_one, Nat.add_zero] at hx12_0); have hf12_0 := hfr12 0; (try simp only [show ((Kd.slice 3 (Kd.int .i64))).sz = 1 from rfl, Nat.mul_one, Nat.add_zero] at hf12_0); (try clear hcl12); (try clear hcc12); (try clear hfr12); (try clear hM12); (try clear hoki12); (try clear hH12); (try simp only [show ((Kd.slice 3 (Kd.int .i64))).sz = 1 from rfl, Nat.mul_one, Nat.add_zero] at HP12)) | ((with_reducible refine gate_store (t := 22) (p := 21) rfl ?_); refine store_event (t := 22) (p := 21) (v := ?vo_w13) (w1 := (w11.setCell ⟨go10, (x4_1 : Int).toNat, none⟩ (Value.slice A232 t231.length c232))) ?hg ?ho ?hn ?hr ?_; (case ho => rfl); (case hg => rfl); (case hn => rfl); (case hr => first | (go_simp; done) | (go_simp; rfl)); intro w13 hw; have hg : w11.grownBy w13 (some go10) := (by rw [hw]; exact HP12.2); have hp_ : Kd.S (Kd.slice 3 (Kd.int .i64)) 22 w13 w.heap.size (fun _ => True) (.slice (some ⟨go10, 0, none⟩) x3_1.length co10) y234 := (by rw [hw, Ny234.out]; exact HP12.1); clear HP12; have n0_ := Aside0.mk (hp_); have n1_ := Aside0.mk ((by rw [hw]; exact below_set (HB.out) GB10.out : Below w.heap.size w w13)); clear HO_3; clear HB; clear HO233; have HO_3 := n0_; have HB := n1_; clear n0_ n1_; clear hg hw hp_))
                go_roundg k1
                case measure => have := HK1.out; omega
                case rel => exact ⟨(y234), (wrap64 (x4_1 + 1)), (by first | rfl | (simp; done) | (simp [*]; done)), H', ⟨by have := HK1.out; omega⟩, ⟨by (with_reducible repeat (first | apply Kd.S_alloc | apply Kd.S_drewN | apply Kd.S_drew)); exact HO_3.out⟩, ⟨by repeat (first | (with_reducible first | exact HB.out | apply below_alloc | apply pw_below_drewN | apply below_drew1) | exact HB.out)⟩⟩
              · rw [if_neg c9] at H
                exact absurd H (by simp)
            · rw [if_neg c7] at H
              exact absurd H (by simp)
          · rw [if_neg c6] at H
            have c6b0 : decide (x4_1 < (l0.length : Int)) = false := decide_eq_false c6
            clear c6
            obtain rfl := Option.some.inj H
            go_wp2
            go_ret
            exact ⟨_, by first | rfl | (simp [errW_none, errW_some] <;> rfl) | (simp [*, errW_none, errW_some] <;> rfl), by (with_reducible repeat (first | apply Kd.S_alloc | apply Kd.S_drewN | apply Kd.S_drew)); exact HO_3.out, by repeat (first | (with_reducible first | exact HB.out | apply below_alloc | apply pw_below_drewN | apply below_drew1) | exact HB.out)⟩
    · rw [if_neg c3] at H
      exact absurd H (by simp)
  · rw [if_neg c2] at H
    exact absurd H (by simp)

end Go.Proofs.Ytfhaclkjiolmjaa.Q

namespace Go.Proofs.Ytfhaclkjiolmjaa.Q
open Go.RowKit Go.Proofs.YtfhaclkjiolmjaaW.PrintWords Go.Proofs.YtfhaclkjiolmjaaW.PrintLast Go.Proofs.YtfhaclkjiolmjaaW.PrintMore
set_option linter.unusedVariables false
set_option linter.unusedSimpArgs false

def okC (zs : List Int) : Bool := zs.all fun n => decide (0 ≤ n) && decide (n ≤ 6)
theorem in_eq (n lo hi : Int) : spec_l1In.f n lo hi = some (decide (lo ≤ n) && decide (n ≤ hi)) := by
  unfold spec_l1In.f
  by_cases h : lo ≤ n <;> simp [h]
theorem all_l0 (zs : List Int) (hn : zs.length ≤ 1000000000) : ∀ d k i, i + d = zs.length → d < k → spec_l1All.l0 k 0 6 zs (zs.length : Int) (i : Int) = some (okC (zs.drop i)) := by
  intro d
  induction d with
  | zero =>
    intro k i hi hk
    obtain ⟨k, rfl⟩ : ∃ m, k = m + 1 := ⟨k - 1, by omega⟩
    rw [spec_l1All.l0, if_neg (by omega), List.drop_of_length_le (by omega)]; rfl
  | succ d ih =>
    intro k i hi hk
    obtain ⟨k, rfl⟩ : ∃ m, k = m + 1 := ⟨k - 1, by omega⟩
    have hlt : i < zs.length := by omega
    rw [spec_l1All.l0, if_pos (by omega), if_pos (by omega), if_pos (by omega), rd_nat zs i hlt, in_eq, Option.bind_some, w64 (i := (i : Int) + 1) (by omega) (by omega), show (i : Int) + 1 = ((i + 1 : Nat) : Int) by omega, ih k (i + 1) (by omega) (by omega), List.drop_eq_getElem_cons hlt]
    unfold okC
    rw [List.all_cons]
    cases (decide (0 ≤ zs[i]) && decide (zs[i] ≤ 6)) <;> rfl
theorem all_eq (zs : List Int) (hn : zs.length ≤ 1000000000) (k : Nat) (hk : zs.length < k) : spec_l1All.f k zs 0 6 = some (okC zs) := by
  unfold spec_l1All.f
  have := all_l0 zs hn zs.length k 0 (by omega) hk
  simpa using this
def countsB (zs : List Int) : Bool := (decide (1 ≤ (zs.length : Int)) && decide ((zs.length : Int) ≤ 4)) && okC zs
theorem rdCounts_eq (zs : List Int) (hn : zs.length ≤ 1000000000) (k : Nat) (hk : zs.length < k) : spec_rdCounts.f k zs = some (countsB zs) := by
  unfold spec_rdCounts.f countsB
  rw [in_eq, Option.bind_some, all_eq zs hn k hk]
  cases (decide (1 ≤ (zs.length : Int)) && decide ((zs.length : Int) ≤ 4)) <;> rfl
theorem areCounts_eq (zs : List Int) : impl_areCounts.f zs = some (countsB zs) := by
  unfold impl_areCounts.f countsB impl_within.f impl_areWithin.f okC
  by_cases h : (1 : Int) ≤ (zs.length : Int)
  · rw [if_pos h, Option.bind_some, decide_eq_true h, Bool.true_and]
    cases decide ((zs.length : Int) ≤ 4) <;> rfl
  · rw [if_neg h, Option.bind_some, decide_eq_false h]; rfl
/-- x less p, from place i on, d places. -/
def subF (p : List Int) : Nat → Nat → List Int → List Int
  | 0, _, x => x
  | d + 1, i, x => subF p d (i + 1) (x.set i (wrap64 (rd x (i : Int) - rd p (i : Int))))
theorem subF_length (p : List Int) : ∀ d i x, (subF p d i x).length = x.length
  | 0, _, _ => rfl
  | d + 1, i, x => by rw [subF, subF_length p d]; simp
theorem minus_l0 (p : List Int) (hn : p.length ≤ 1000) : ∀ d k i (x : List Int), i + d = p.length → p.length ≤ x.length → d < k → impl_minus.l0 k x p (p.length : Int) (i : Int) = some (subF p d i x) := by
  intro d
  induction d with
  | zero =>
    intro k i x hi hx hk
    obtain ⟨k, rfl⟩ : ∃ m, k = m + 1 := ⟨k - 1, by omega⟩
    rw [impl_minus.l0, if_neg (by omega)]; rfl
  | succ d ih =>
    intro k i x hi hx hk
    obtain ⟨k, rfl⟩ : ∃ m, k = m + 1 := ⟨k - 1, by omega⟩
    rw [impl_minus.l0, if_pos (by omega), if_pos (by omega), if_pos (by omega), if_pos (by omega), w64 (i := (i : Int) + 1) (by omega) (by omega), show (i : Int) + 1 = ((i + 1 : Nat) : Int) by omega, Int.toNat_natCast, ih k (i + 1) _ (by omega) (by simp; omega) (by omega)]
    rfl
theorem minus_eq (x p : List Int) (hn : p.length ≤ 1000) (hx : p.length ≤ x.length) (hx2 : x.length ≤ 1000) (k : Nat) (hk : p.length < k) : impl_minus.f k x p = some (subF p p.length 0 x) := by
  unfold impl_minus.f slices_Clone_int.f
  rw [if_pos (by omega), Option.bind_some]
  have := minus_l0 p hn p.length k 0 x (by omega) hx hk
  simpa using this
theorem left_l1 (x0 : List Int) (ps : List (List Int)) (a b : Int) (p : List Int) (hn : p.length ≤ 1000) (R : Option (List Int × Bool)) (K : Nat) (y : List Int) (hR : ∀ k, K ≤ k → spec_LeftOver.l0 k x0 y ps a (wrap64 (b + 1)) = R) : ∀ d k i (x : List Int), i + d = p.length → p.length ≤ x.length → subF p d i x = y → K + d + 1 ≤ k → spec_LeftOver.l1 k x0 x ps a b p (p.length : Int) (i : Int) = R := by
  intro d
  induction d with
  | zero =>
    intro k i x hi hx hy hk
    obtain ⟨k, rfl⟩ : ∃ m, k = m + 1 := ⟨k - 1, by omega⟩
    rw [spec_LeftOver.l1, if_neg (by omega), ← hR k (by omega), ← hy]; rfl
  | succ d ih =>
    intro k i x hi hx hy hk
    obtain ⟨k, rfl⟩ : ∃ m, k = m + 1 := ⟨k - 1, by omega⟩
    rw [spec_LeftOver.l1, if_pos (by omega), if_pos (by omega), if_pos (by omega), if_pos (by omega), w64 (i := (i : Int) + 1) (by omega) (by omega), show (i : Int) + 1 = ((i + 1 : Nat) : Int) by omega, Int.toNat_natCast]
    exact ih k (i + 1) _ (by omega) (by simp; omega) hy (by omega)
def leftR (n : Nat) : List (List Int) → List Int → List Int × Bool
  | [], x => if okC x = true then (x, true) else ([], false)
  | p :: ps, x => if p.length = n ∧ okC p = true then leftR n ps (subF p n 0 x) else ([], false)
theorem left_spec (x0 : List Int) (ps : List (List Int)) (h1 : 1 ≤ x0.length) (h4 : x0.length ≤ 4) (hps : ps.length ≤ 20) : ∀ d k i (x : List Int), i + d = ps.length → x.length = x0.length → 100 * d + 100 ≤ k → spec_LeftOver.l0 k x0 x ps (ps.length : Int) (i : Int) = some (leftR x0.length (ps.drop i) x) := by
  intro d
  induction d with
  | zero =>
    intro k i x hi hx hk
    obtain ⟨k, rfl⟩ : ∃ m, k = m + 1 := ⟨k - 1, by omega⟩
    rw [spec_LeftOver.l0, if_neg (by omega), List.drop_of_length_le (by omega), all_eq x (by omega) k (by omega), Option.bind_some, leftR]
    split <;> rfl
  | succ d ih =>
    intro k i x hi hx hk
    obtain ⟨k, rfl⟩ : ∃ m, k = m + 1 + 1 := ⟨k - 2, by omega⟩
    have hlt : i < ps.length := by omega
    rw [spec_LeftOver.l0, if_pos (by omega), if_pos (by omega), if_pos (by omega), rdL_get ps i hlt, List.drop_eq_getElem_cons hlt, leftR]
    by_cases hl : ps[i].length = x0.length
    · rw [if_pos (by omega), all_eq ps[i] (by omega) (k + 1) (by omega), Option.bind_some, spec_LeftOver.j2]
      cases hc : okC ps[i] with
      | false => rw [if_pos (by decide), if_neg (by simp)]
      | true =>
        rw [if_neg (by decide), if_pos ⟨hl, rfl⟩]
        refine left_l1 x0 ps (ps.length : Int) (i : Int) ps[i] (by omega) _ (100 * d + 100 - 1 + 1) (subF ps[i] ps[i].length 0 x) (fun k hk => ?_) ps[i].length k 0 x (by omega) (by omega) rfl (by omega)
        rw [w64 (i := (i : Int) + 1) (by omega) (by omega), show (i : Int) + 1 = ((i + 1 : Nat) : Int) by omega, ih k (i + 1) _ (by omega) (by rw [subF_length]; exact hx) (by omega), hl]
    · rw [if_neg (by omega), spec_LeftOver.j2, if_pos rfl, if_neg (fun h => hl h.1)]
theorem left_impl (x0 : List Int) (ps : List (List Int)) (h1 : 1 ≤ x0.length) (h4 : x0.length ≤ 4) (hps : ps.length ≤ 20) : ∀ d k i (x : List Int), i + d = ps.length → x.length = x0.length → 100 * d + 100 ≤ k → impl_LeftOver.l0 k x0 x ps (ps.length : Int) (i : Int) = some (leftR x0.length (ps.drop i) x) := by
  intro d
  induction d with
  | zero =>
    intro k i x hi hx hk
    obtain ⟨k, rfl⟩ : ∃ m, k = m + 1 := ⟨k - 1, by omega⟩
    rw [impl_LeftOver.l0, if_neg (by omega), List.drop_of_length_le (by omega), leftR]
    show (some (okC x)).bind _ = _
    rw [Option.bind_some]
    split <;> rfl
  | succ d ih =>
    intro k i x hi hx hk
    obtain ⟨k, rfl⟩ : ∃ m, k = m + 1 := ⟨k - 1, by omega⟩
    have hlt : i < ps.length := by omega
    rw [impl_LeftOver.l0, if_pos (by omega), if_pos (by omega), if_pos (by omega), rdL_get ps i hlt, List.drop_eq_getElem_cons hlt, leftR]
    by_cases hl : ps[i].length = x0.length
    · rw [if_pos (by omega), areCounts_eq, Option.bind_some]
      have hcb : countsB ps[i] = okC ps[i] := by
        unfold countsB
        rw [decide_eq_true (show (1 : Int) ≤ (ps[i].length : Int) by omega), decide_eq_true (show (ps[i].length : Int) ≤ 4 by omega)]
        rfl
      rw [hcb]
      cases hc : okC ps[i] with
      | false => rw [if_neg (by decide), if_neg (by simp)]
      | true =>
        rw [if_pos rfl, if_pos ⟨hl, rfl⟩, minus_eq x ps[i] (by omega) (by omega) (by omega) k (by omega), Option.bind_some, w64 (i := (i : Int) + 1) (by omega) (by omega), show (i : Int) + 1 = ((i + 1 : Nat) : Int) by omega, ih k (i + 1) _ (by omega) (by rw [subF_length]; exact hx) (by omega), hl]
    · rw [if_neg (by omega), if_neg (fun h => hl h.1)]
theorem ownL (l : List Int) (h : l.length < 1000000) : spec_l1Own.f l = some l := by
  unfold spec_l1Own.f
  simp only [Option.bind_some, List.length_nil, List.nil_append]
  rw [if_pos (by omega)]
theorem leftR_len (n : Nat) : ∀ (ps : List (List Int)) (x : List Int), (leftR n ps x).1.length ≤ x.length
  | [], x => by rw [leftR]; split <;> simp
  | p :: ps, x => by
    rw [leftR]
    split
    · have := leftR_len n ps (subF p n 0 x); rw [subF_length] at this; exact this
    · simp
theorem leftOver_both (x0 : List Int) (ps : List (List Int)) (hm : x0.length ≤ 10000000) : ∃ r : List Int × Bool, Ev (fun k => spec_LeftOver.f k x0 ps) r ∧ Ev (fun k => impl_LeftOver.f k x0 ps) r ∧ r.1.length ≤ 10000000 := by
  unfold spec_LeftOver.f impl_LeftOver.f
  rw [areCounts_eq]
  have hrd := fun k (hk : x0.length < k) => rdCounts_eq x0 (by omega) k hk
  cases hc : countsB x0 with
  | false =>
    rw [hc] at hrd
    refine ⟨([], false), Ev_from 20000000 fun k hk => ?_, Ev_from 20000000 fun k hk => ?_, by simp⟩
    · obtain ⟨k, rfl⟩ : ∃ m, k = m + 1 := ⟨k - 1, by omega⟩
      rw [hrd (k + 1) (by omega), Option.bind_some, if_neg (by decide), spec_LeftOver.j0, if_pos rfl]
    · obtain ⟨k, rfl⟩ : ∃ m, k = m + 1 := ⟨k - 1, by omega⟩
      rw [Option.bind_some, if_neg (by decide), impl_LeftOver.j0, if_pos rfl]
  | true =>
    rw [hc] at hrd
    have hb : 1 ≤ x0.length ∧ x0.length ≤ 4 := by
      unfold countsB at hc
      simp only [Bool.and_eq_true, decide_eq_true_eq] at hc
      omega
    by_cases hp : (ps.length : Int) > 20
    · refine ⟨([], false), Ev_from 20000000 fun k hk => ?_, Ev_from 20000000 fun k hk => ?_, by simp⟩
      · obtain ⟨k, rfl⟩ : ∃ m, k = m + 1 := ⟨k - 1, by omega⟩
        rw [hrd (k + 1) (by omega), Option.bind_some, if_pos rfl, decide_eq_true hp, spec_LeftOver.j0, if_pos rfl]
      · obtain ⟨k, rfl⟩ : ∃ m, k = m + 1 := ⟨k - 1, by omega⟩
        rw [Option.bind_some, if_pos rfl, decide_eq_true hp, impl_LeftOver.j0, if_pos rfl]
    · have hlen := leftR_len x0.length ps x0
      refine ⟨leftR x0.length ps x0, Ev_from 20000000 fun k hk => ?_, Ev_from 20000000 fun k hk => ?_, by omega⟩
      · obtain ⟨k, rfl⟩ : ∃ m, k = m + 1 := ⟨k - 1, by omega⟩
        have := left_spec x0 ps hb.1 hb.2 (by omega) ps.length k 0 x0 (by omega) rfl (by omega)
        rw [hrd (k + 1) (by omega), Option.bind_some, if_pos rfl, decide_eq_false hp, spec_LeftOver.j0, if_neg (by decide), ownL x0 (by omega), Option.bind_some]
        simpa using this
      · obtain ⟨k, rfl⟩ : ∃ m, k = m + 1 := ⟨k - 1, by omega⟩
        have := left_impl x0 ps hb.1 hb.2 (by omega) ps.length k 0 x0 (by omega) rfl (by omega)
        rw [Option.bind_some, if_pos rfl, decide_eq_false hp, impl_LeftOver.j0, if_neg (by decide)]
        unfold slices_Clone_int.f
        rw [if_pos (by omega), Option.bind_some]
        simpa using this

/-! sizes and copies of rows -/
theorem szSS_l0 (l : List (List Int)) (hy : ∀ y ∈ l, y.length ≤ maxLen) : ∀ d k i (left : Int), i + d = l.length → d < k → l.length ≤ 1048576 → 0 ≤ left → left + ((allLen (l.take i) : Nat) : Int) + (l.length : Int) = 1048576 →
    ∃ r, laws_szIntSS.l0 k l left (i : Int) = some r ∧ (r < 0 ∨ 0 ≤ r ∧ l.length + allLen l ≤ 1048576) := by
  intro d
  induction d with
  | zero =>
    intro k i left hi hk hn h0 hs
    obtain ⟨k, rfl⟩ : ∃ m, k = m + 1 := ⟨k - 1, by omega⟩
    rw [laws_szIntSS.l0, if_neg (by omega)]
    rw [List.take_of_length_le (by omega)] at hs
    exact ⟨left, rfl, .inr ⟨h0, by omega⟩⟩
  | succ d ih =>
    intro k i left hi hk hn h0 hs
    obtain ⟨k, rfl⟩ : ∃ m, k = m + 1 := ⟨k - 1, by omega⟩
    have hlt : i < l.length := by omega
    have hyl := hy _ (List.getElem_mem hlt)
    unfold maxLen at hyl
    have htk := allLen_take l i hlt
    rw [laws_szIntSS.l0, if_pos (by omega), if_pos (by omega), rdL_get l i hlt]
    unfold laws_szIntS.f
    rw [show wrap64 (left - (l[i].length : Int)) = left - (l[i].length : Int) by unfold wrap64; omega]
    by_cases hc : left - (l[i].length : Int) < 0
    · rw [if_pos hc, Option.bind_some, if_pos (by omega)]
      exact ⟨_, rfl, .inl (by omega)⟩
    · rw [if_neg hc, Option.bind_some, if_neg hc, w64 (i := (i : Int) + 1) (by omega) (by omega), show (i : Int) + 1 = ((i + 1 : Nat) : Int) by omega]
      exact ih k (i + 1) _ (by omega) (by omega) hn (by omega) (by omega)
theorem szSS (l : List (List Int)) (hn : l.length * 24 ≤ 140737488351232) (hy : ∀ y ∈ l, y.length ≤ maxLen) : ∃ k r, laws_szIntSS.f k l 1048576 = some r ∧ (r < 0 ∨ 0 ≤ r ∧ l.length + allLen l ≤ 1048576) := by
  refine ⟨l.length + 1, ?_⟩
  unfold laws_szIntSS.f
  rw [show wrap64 ((1048576 : Int) - (l.length : Int)) = (1048576 : Int) - (l.length : Int) by unfold wrap64; omega]
  by_cases hc : (1048576 : Int) - (l.length : Int) < 0
  · rw [if_pos hc]; exact ⟨_, rfl, .inl (by omega)⟩
  · rw [if_neg hc]
    exact szSS_l0 l hy l.length (l.length + 1) 0 _ (by omega) (by omega) (by omega) (by omega) (by simp [allLen])
theorem toSS_l0 (l : List (List Int)) (hn : l.length + allLen l ≤ 1048576) : ∀ d k i (x : List (List Int)), i + d = l.length → d + allLen l + 2 ≤ k → x = l.take i ++ List.replicate d [] → laws_toIntSS.l0 k l x (i : Int) = some l := by
  intro d
  induction d with
  | zero =>
    intro k i x hi hk hx
    obtain ⟨k, rfl⟩ : ∃ m, k = m + 1 := ⟨k - 1, by omega⟩
    rw [laws_toIntSS.l0, if_neg (by omega), hx, List.take_of_length_le (by omega)]
    simp
  | succ d ih =>
    intro k i x hi hk hx
    obtain ⟨k, rfl⟩ : ∃ m, k = m + 1 := ⟨k - 1, by omega⟩
    have hlt : i < l.length := by omega
    have hr := allLen_le l l[i] (List.getElem_mem hlt)
    have hxl : x.length = l.length := by rw [hx]; simp; omega
    rw [laws_toIntSS.l0, if_pos (by omega), if_pos (by omega), rdL_get l i hlt, toIntS_eq l[i] (by omega) k (by omega), Option.bind_some, if_pos (by omega), w64 (i := (i : Int) + 1) (by omega) (by omega), show (i : Int) + 1 = ((i + 1 : Nat) : Int) by omega, Int.toNat_natCast]
    refine ih k (i + 1) _ (by omega) (by omega) ?_
    have htl : (l.take i).length = i := by rw [List.length_take]; omega
    rw [hx, List.set_append_right _ _ (by omega), htl, Nat.sub_self, List.replicate_succ, List.set_cons_zero, List.take_add_one, List.getElem?_eq_getElem hlt, List.append_assoc]
    rfl
theorem toSS (l : List (List Int)) (hn : l.length + allLen l ≤ 1048576) : ∃ k, laws_toIntSS.f k l = some l := by
  refine ⟨l.length + allLen l + 2, ?_⟩
  unfold laws_toIntSS.f
  rw [if_pos (by omega), if_pos (by omega), Int.toNat_natCast]
  have := toSS_l0 l hn l.length (l.length + allLen l + 2) 0 (List.replicate l.length []) (by omega) (Nat.le_refl _) (by simp)
  simpa using this
end Go.Proofs.Ytfhaclkjiolmjaa.Q

namespace Go.Proofs.Ytfhaclkjiolmjaa.Q
open Go.RowKit Go.Shelf Go.Proofs.YtfhaclkjiolmjaaW.PrintWords Go.Proofs.YtfhaclkjiolmjaaW.PrintLast Go.Proofs.YtfhaclkjiolmjaaW.PrintMore
set_option linter.unusedVariables false
set_option linter.unusedSimpArgs false

abbrev kInt : Kd Int := Kd.int .i64
/-- f at d numbers from n on, joined. -/
def restW (f : Nat → List (List Int × Int)) : Nat → Nat → List (List Int × Int)
  | 0, _ => []
  | d + 1, n => f n ++ restW f d (n + 1)
/-- All patterns that begin with ch, in order, with what is left. -/
def patV : List Int → List Int → Int → List (List Int × Int)
  | [], ch, left => [(ch, left)]
  | x :: xs, ch, left => restW (fun n => patV xs (ch ++ [(n : Int)]) (left - (n : Int) * x)) (left / x + 1).toNat 0

/-- What the function that patterns is handed does. -/
structure Each {σ : Type} (m : Nat) (S : Nat → Prop) (I : σ → World → Prop) (base : Nat) (w1 : World) (ge : Nat) (bde fre : Array Value) (step : σ → List Int × Int → σ) : Prop where
  ee : ∀ args w, (callFunc ge args).run Try.prog w = .ok (.enter ge args) w
  st : ∀ s W W', I s W → Below W.heap.size W W' → I s W'
  each : ∀ s W v ch left, Fr S w1 W → I s W → Kd.R kInt 3 W base (fun k => ¬ S k) v ch → ch.length = m → (0 ≤ left ∧ left ≤ 60) →
    Calls Try.prog ge (bde ++ (#[v, .int .i64 left] ++ fre)) W fun e w' => e = .returned (.tuple #[]) ∧ I (step s (ch, left)) w' ∧ Fr S W w'
theorem pat_keep {S : Nat → Prop} {wr W' : World} {Bc Bl : Nat} {t1 t2 : TypeId} {v1 v2 v3 : Value} {ad : Addr} (x1 : Boxed wr Bc t1 v1) (h1 : ¬ S Bc) (x2 : Boxed wr Bl t2 v2) (h2 : ¬ S Bl) (hc : ∀ W', Fr S wr W' → W'.cell? ad = some v3) (h : Fr S wr W') :
    W'.cell? ⟨Bc, 0, none⟩ = some v1 ∧ W'.cell? ⟨Bl, 0, none⟩ = some v2 ∧ W'.cell? ad = some v3 ∧ Fr S wr W' := ⟨(box_fr x1 h h1).cell, (box_fr x2 h h2).cell, hc W' h, h⟩
theorem pat_fr {P1 P2 P3 : Prop} {S : Nat → Prop} {w W : World} (h : P1 ∧ P2 ∧ P3 ∧ Fr S w W) : Fr S w W := h.2.2.2

set_option maxRecDepth 100000 in
set_option maxHeartbeats 8000000 in
theorem pchoose_calls {σ : Type} (ls : List Int) (A0 : Option Addr) (c0 : Nat) (S : Nat → Prop) (I : σ → World → Prop) (base : Nat) (w1 : World) (ge : Nat) (bde fre : Array Value) (step : σ → List Int × Int → σ)
    (Bl Be Bc : Nat) (hn : ls.length ≤ 10) (hpos : ∀ x ∈ ls, 1 ≤ x ∧ x ≤ 60) (T : Each ls.length S I base w1 ge bde fre step) (hb1 : base ≤ w1.heap.size) (hSl : ∀ k, S k → k < w1.heap.size)
    (hC : ∀ W, Fr S w1 W → Kd.C kInt W A0 ls.length ls) (hc0 : ls.length ≤ c0)
    (xl : Boxed w1 Bl 22 (.slice A0 ls.length c0)) (xe : Boxed w1 Be 56 (.func (.func ge) bde fre))
    (xc : Boxed w1 Bc 56 (.func (.func 90) #[] #[.pointer (some ⟨Bl, 0, none⟩), .pointer (some ⟨Be, 0, none⟩), .pointer (some ⟨Bc, 0, none⟩)]))
    (nl : ¬ S Bl) (ne : ¬ S Be) (nc : ¬ S Bc) :
    ∀ d s W v ch left, ch.length + d = ls.length → 0 ≤ left → left ≤ 60 → Fr S w1 W → I s W → Kd.R kInt 3 W base (fun k => ¬ S k) v ch →
      Calls Try.prog 90 #[v, .int .i64 left, .pointer (some ⟨Bl, 0, none⟩), .pointer (some ⟨Be, 0, none⟩), .pointer (some ⟨Bc, 0, none⟩)] W fun e w' => e = .returned (.tuple #[]) ∧ I ((patV (ls.drop ch.length) ch left).foldl step s) w' ∧ Fr S W w' := by
  intro d
  induction d with
  | zero =>
    intro s W v ch left hd hl0 hl6 hF hI hv
    have hp : patV (ls.drop ch.length) ch left = [(ch, left)] := by rw [List.drop_of_length_le (by omega)]; rfl
    rw [hp]
    obtain ⟨A1, c1, hv1, hc1, hC1⟩ := Kd.R_reads hv
    subst hv1
    have hz : (ch.length : Int) = (ls.length : Int) := by omega
    have hcall := T.each s W _ ch left hF hI hv (by omega) ⟨hl0, hl6⟩
    have HCALL := Aside0.mk hcall
    have q1 := (box_fr xl hF nl).cell
    have q2 := (box_fr xe hF ne).cell
    have ee := T.ee
    have hzb : ((ch.length : Int) == (ls.length : Int)) = true := by simpa using hz
    clear hcall hd hz hp hv hI hF hC1 xl xe xc T hC
    go_enter Try.func90, Try.ntmps90
    go_wp2_with (go_at_fn ge; refine HCALL.out.mono ?_; rintro e w2 ⟨rfl, hI2, hF2⟩)
    (try simp only [Exit.inBlock, Exit.then])
    refine bodyPost_ret (results_none rfl _ _ _) rfl ?_
    exact ⟨rfl, hI2, hF2⟩
  | succ d ih =>
    intro s W v ch left hd hl0 hl6 hF hI hv
    have hlt : ch.length < ls.length := by omega
    obtain ⟨x, hx⟩ : ∃ x, ls[ch.length] = x := ⟨_, rfl⟩
    have hxr : 1 ≤ x ∧ x ≤ 60 := hx ▸ hpos _ (List.getElem_mem hlt)
    obtain ⟨xs, hxs⟩ : ∃ xs, ls.drop (ch.length + 1) = xs := ⟨_, rfl⟩
    rw [show ls.drop ch.length = x :: xs by rw [List.drop_eq_getElem_cons hlt, hx, hxs], patV]
    obtain ⟨N, hN⟩ : ∃ N, (left / x + 1).toNat = N := ⟨_, rfl⟩
    rw [hN]
    have hNle : ∀ n : Nat, n < N ↔ (n : Int) * x ≤ left := fun n => by
      rw [← Int.le_ediv_iff_mul_le (by omega : 0 < x), ← hN]
      have : 0 ≤ left / x := Int.ediv_nonneg hl0 (by omega)
      omega
    generalize htotal : (restW (fun n => patV xs (ch ++ [(n : Int)]) (left - (n : Int) * x)) N 0).foldl step s = total
    obtain ⟨A1, c1, hv1, hc1, hC1⟩ := Kd.R_reads hv
    subst hv1
    obtain ⟨ad, had, _⟩ := Kd.at_int (hC W hF) (ch.length : Int) (by omega) (by omega)
    subst had
    have hcell : ∀ W', Fr S w1 W' → W'.cell? (ad.add ch.length) = some (.int .i64 x) := fun W' h => by
      obtain ⟨ad', he, h2⟩ := Kd.at_int (hC W' h) (ch.length : Int) (by omega) (by omega)
      injection he with he
      subst he
      rw [Int.toNat_natCast, rd, Int.toNat_natCast, List.getD_eq_getElem?_getD, List.getElem?_eq_getElem hlt] at h2
      rw [h2, ← hx]; rfl
    have hltz : (ch.length : Int) < (ls.length : Int) := by omega
    have h0z : (0 : Int) ≤ (ch.length : Int) := by omega
    have hzb : ((ch.length : Int) == (ls.length : Int)) = false := by simp; omega
    have HI := Aside0.mk hI
    have HV := Aside0.mk hv
    have HF := Aside0.mk hF
    have HC1 := Aside0.mk hC1
    have XL := Aside0.mk xl
    have XC := Aside0.mk xc
    have IH := Aside0.mk ih
    have HD := Aside0.mk hd
    have HNL := Aside0.mk hNle
    have HCELL := Aside0.mk hcell
    have HX := Aside0.mk hx
    have HXS := Aside0.mk hxs
    have HT := Aside0.mk htotal
    have q1 := (box_fr xl hF nl).cell
    clear hI hv hF hC1 xl xe xc ih hd hNle hcell hx hxs htotal hN hpos
    go_enter Try.func90, Try.ntmps90
    go_wp2_with fail
    clear q1
    go_loopg [8] N (fun gg s8 wr => ∃ n : Nat, s8 = .int .i64 (n : Int) ∧ n ≤ N ∧ N - n ≤ gg ∧ Aside0 (∃ st, I st wr ∧ (restW (fun n => patV xs (ch ++ [(n : Int)]) (left - (n : Int) * x)) (N - n) n).foldl step st = total) ∧ Aside0 (Fr S W wr))
    case atStart => exact ⟨0, rfl, by omega, by omega, ⟨s, HI.out, HT.out⟩, ⟨Fr.refl _ _⟩⟩
    case round =>
      obtain ⟨n, rfl, hnN, hgg, II, GG⟩ := hrel
      have FF := Aside0.mk (HF.out.trans GG.out)
      have q1 := (box_fr XL.out FF.out nl).cell
      have q2 := HCELL.out wr FF.out
      by_cases hlt2 : n < N
      · have hple := (HNL.out n).1 hlt2
        obtain ⟨p, hp⟩ : ∃ p, (n : Int) * x = p := ⟨_, rfl⟩
        have hp0 : 0 ≤ p := by rw [← hp]; exact Int.mul_nonneg (by omega) (by omega)
        rw [hp] at hple
        have hw1 : IntKind.i64.wrap ((n : Int) * x) = p := by rw [hp]; exact IntWalk.i64_in _ (by omega)
        obtain ⟨q, hq⟩ : ∃ q, left - p = q := ⟨_, rfl⟩
        have hw2 : IntKind.i64.wrap (left - p) = q := by rw [hq]; exact IntWalk.i64_in _ (by omega)
        have hqr : 0 ≤ q ∧ q ≤ 60 := by omega
        have hnb : n ≤ 60 := by
          have h1 : (n : Int) * 1 ≤ (n : Int) * x := Int.mul_le_mul_of_nonneg_left hxr.1 (by omega)
          omega
        have hwn : IntKind.i64.wrap ((n : Int) + 1) = ((n + 1 : Nat) : Int) := by rw [IntWalk.i64_in _ (by omega)]; omega
        obtain ⟨st, hst, hfold⟩ := II.out
        have HST := Aside0.mk hst
        have HFO := Aside0.mk hfold
        have XCR := Aside0.mk (box_fr XC.out FF.out nc)
        have XLR := Aside0.mk (box_fr XL.out FF.out nl)
        have HSR : Aside0 (∀ k, S k → k < wr.heap.size) := ⟨fun k hk => Nat.lt_of_lt_of_le (hSl k hk) FF.out.size⟩
        have HBR : Aside0 (base ≤ wr.heap.size) := ⟨Nat.le_trans hb1 FF.out.size⟩
        have HVr := Aside0.mk (R_fr HV.out GG.out (fun _ h => h))
        have HCr : Aside0 (∀ W', Fr S wr W' → Kd.C kInt W' A1 ch.length ch) := ⟨fun W' h => by
          obtain ⟨A', c', he, _, hC'⟩ := Kd.R_reads (R_fr HVr.out h (fun _ h => h))
          injection he with he1 he2 he3
          subst he1
          exact hC'⟩
        have HCW : Aside0 (∀ W', Fr S wr W' → W'.cell? (ad.add ch.length) = some (.int .i64 x)) := ⟨fun W' h => HCELL.out W' (FF.out.trans h)⟩
        have HP := Aside0.mk hp
        have HQ := Aside0.mk hq
        have hmix : Try.prog.follows .mixedOrders = true := by kernel_rfl
        clear II hst hfold hp hq
        go_wp2
        go_region_held3 (fun W' => W'.cell? ⟨Bc, 0, none⟩ = some (.func (.func 90) #[] #[.pointer (some ⟨Bl, 0, none⟩), .pointer (some ⟨Be, 0, none⟩), .pointer (some ⟨Bc, 0, none⟩)]) ∧ W'.cell? ⟨Bl, 0, none⟩ = some (.slice (some ad) ls.length c0) ∧ W'.cell? (ad.add ch.length) = some (.int .i64 x) ∧ Fr S wr W')
          (first | exact pat_keep XCR.out nc XLR.out nl HCW.out (Fr.drew (Fr.refl _ _)) | exact pat_keep XCR.out nc XLR.out nl HCW.out (by assumption) | exact pat_keep XCR.out nc XLR.out nl HCW.out (Fr.alloc (pat_fr (by assumption)) _))
          (first
            | (go_at_call 66; refine (clone_int A1 c1 ch _ ?hCl hc1 (by omega)).mono ?_;
                (case hCl => exact HCr.out _ (pat_fr (by assumption)));
                rintro e w6 ⟨v6, rfl, hR6, hb6⟩;
                have hfr6 : Fr S wr w6 := Fr.then (pat_fr (by assumption)) hb6;
                have hbl6 : Below wr.heap.size wr w6 := (by first | exact ((Below.refl _ wr).drew).trans (hb6.mono (Nat.le_refl _)) | exact ((((Below.refl _ wr).drew).alloc (Nat.le_refl _) _)).trans (hb6.mono (by simp)));
                have hRR := own_new (S := S) (wr := wr) (base := base) hR6 (by simp) HSR.out HBR.out)
            | (go_at_call 90; refine (IH.out st w7 v7 (ch ++ [(n : Int)]) q (by have := HD.out; simp; omega) hqr.1 hqr.2 (FF.out.trans hfr7) (T.st _ _ _ HST.out hbl7) (Kd.R_mono hR7 (fun _ h => h.1))).mono ?_; rintro e w8 ⟨rfl, hI8, hF8⟩;
                have hfr8 : Fr S wr w8 := hfr7.trans hF8)
            | (refine app_int (by rfl) _ _ _ base (fun k => ¬ S k ∧ wr.heap.size ≤ k) rfl v6 ch (n : Int) _ rfl rfl ?hcell ?hl ?HO ?hbase ?hfresh ?_;
                (case hcell => first | exact lit_cell _ _ _ | exact lit_cell2 hb6 | exact lit_cell3 hb6);
                (case hl => omega);
                (case HO => first | exact Kd.R_below hRR ((Below.refl _ _).alloc (Nat.le_refl _) _) | exact hRR);
                (case hbase => first | exact Nat.le_trans HBR.out hbl6.size | exact Nat.le_trans HBR.out (hbl6.alloc hbl6.size _).size);
                (case hfresh => first | exact fresh_ok HSR.out hbl6.size | exact fresh_ok HSR.out (hbl6.alloc hbl6.size _).size);
                intro v7 w7 hR7 hg7;
                have hrow : ∀ k, v6.ownBlock = some k → wr.heap.size ≤ k := fun k hk => (hRR.1 k hk).2;
                have hfr7 : Fr S wr w7 := Fr.grown (pat_fr (by assumption)) hg7 hrow;
                have hbl7 : Below wr.heap.size wr w7 := (by first | exact hbl6.grown hg7 hbl6.size hrow | exact (hbl6.alloc hbl6.size _).grown hg7 (hbl6.alloc hbl6.size _).size hrow)))
        all_goals
          go_wp2
          go_roundg (N - (n + 1))
          case measure => omega
          case rel =>
            refine ⟨n + 1, by go_num, by omega, by omega, ⟨_, hI8, ?_⟩, ⟨GG.out.trans hfr8⟩⟩
            rw [← HFO.out, show N - n = (N - (n + 1)) + 1 by omega, restW, List.foldl_append, List.length_append, List.length_singleton, HXS.out, ← HQ.out, ← HP.out]
      · have hple : ¬ (n : Int) * x ≤ left := fun h => hlt2 ((HNL.out n).2 h)
        have hw1 : IntKind.i64.wrap ((n : Int) * x) = (n : Int) * x := by
          have hnN2 : n = N := by omega
          have h1 : 0 ≤ (n : Int) * x := Int.mul_nonneg (by omega) (by omega)
          have h2 : (n : Int) * x ≤ left + x := by
            cases n with
            | zero => simp; omega
            | succ m =>
              have := (HNL.out m).1 (by omega)
              rw [show ((m + 1 : Nat) : Int) * x = (m : Int) * x + x by rw [show ((m + 1 : Nat) : Int) = (m : Int) + 1 by omega, Int.add_mul]; omega]
              omega
          exact IntWalk.i64_in _ (by omega)
        obtain ⟨st, hst, hfold⟩ := II.out
        rw [show N - n = 0 by omega] at hfold
        have HST := Aside0.mk hst
        have HFO := Aside0.mk hfold
        clear hst hfold II
        go_wp2
        go_end0
        refine ⟨rfl, ?_, GG.out⟩
        rw [← HFO.out]
        exact HST.out
end Go.Proofs.Ytfhaclkjiolmjaa.Q

namespace Go.Proofs.Ytfhaclkjiolmjaa.Q
open Go.RowKit Go.Shelf Go.Proofs.YtfhaclkjiolmjaaW.PrintWords Go.Proofs.YtfhaclkjiolmjaaW.PrintLast Go.Proofs.YtfhaclkjiolmjaaW.PrintMore
set_option linter.unusedVariables false
set_option linter.unusedSimpArgs false

theorem Each.later {σ : Type} {m : Nat} {S : Nat → Prop} {I : σ → World → Prop} {base : Nat} {w w1 : World} {ge : Nat} {bde fre : Array Value} {step : σ → List Int × Int → σ}
    (T : Each m S I base w ge bde fre step) (h : Fr S w w1) : Each m S I base w1 ge bde fre step :=
  ⟨T.ee, T.st, fun s W v ch left hF => T.each s W v ch left (h.trans hF)⟩

set_option maxRecDepth 100000 in
set_option maxHeartbeats 4000000 in
theorem patterns_calls {σ : Type} (ls : List Int) (A0 : Option Addr) (c0 : Nat) (rod : Int) (S : Nat → Prop) (I : σ → World → Prop) (base : Nat) (w : World) (ge : Nat) (bde fre : Array Value) (step : σ → List Int × Int → σ) (s : σ)
    (hn : ls.length ≤ 10) (hpos : ∀ x ∈ ls, 1 ≤ x ∧ x ≤ 60) (hrod : 0 ≤ rod ∧ rod ≤ 60) (T : Each ls.length S I base w ge bde fre step) (hb : base ≤ w.heap.size) (hSl : ∀ k, S k → k < w.heap.size)
    (hC : ∀ W, Fr S w W → Kd.C kInt W A0 ls.length ls) (hc0 : ls.length ≤ c0) (hI : I s w) :
    Calls Try.prog 57 #[.int .i64 rod, .slice A0 ls.length c0, .func (.func ge) bde fre] w fun e w' => e = .returned (.tuple #[]) ∧ I ((patV ls [] rod).foldl step s) w' ∧ Fr S w w' := by
  have x1 := Boxed.new w 22 (.slice A0 ls.length c0)
  obtain ⟨w1, e1⟩ : ∃ w1, w.alloc (.cells #[.slice A0 ls.length c0] 22) = w1 := ⟨_, rfl⟩
  have b1 : Below w.heap.size w w1 := by rw [← e1]; exact (Below.refl _ w).alloc (Nat.le_refl _) _
  rw [e1] at x1
  have x2 := Boxed.new w1 56 (.func (.func ge) bde fre)
  have y1 := x1.alloc (.cells #[.func (.func ge) bde fre] 56)
  obtain ⟨w2, e2⟩ : ∃ w2, w1.alloc (.cells #[.func (.func ge) bde fre] 56) = w2 := ⟨_, rfl⟩
  have b2 : Below w.heap.size w w2 := by rw [← e2]; exact b1.alloc b1.size _
  rw [e2] at x2 y1
  obtain ⟨fv, hfv⟩ : ∃ fv : Value, fv = .func (.func 90) #[] #[.pointer (some ⟨w.heap.size, 0, none⟩), .pointer (some ⟨w1.heap.size, 0, none⟩), .pointer (some ⟨w2.heap.size, 0, none⟩)] := ⟨_, rfl⟩
  have x3 := Boxed.new w2 56 fv
  have y2 := x2.alloc (.cells #[fv] 56)
  have u1 := y1.alloc (.cells #[fv] 56)
  obtain ⟨w3, e3⟩ : ∃ w3, w2.alloc (.cells #[fv] 56) = w3 := ⟨_, rfl⟩
  have b3 : Below w.heap.size w w3 := by rw [← e3]; exact b2.alloc b2.size _
  rw [e3] at x3 y2 u1
  have F3 : Fr S w w3 := Fr.of b3
  have nS : ∀ k, w.heap.size ≤ k → ¬ S k := fun k hk hs => by have := hSl k hs; omega
  have hcall := pchoose_calls ls A0 c0 S I base w3 ge bde fre step w.heap.size w1.heap.size w2.heap.size hn hpos (T.later F3) (Nat.le_trans hb b3.size) (fun k hk => Nat.lt_of_lt_of_le (hSl k hk) b3.size) (fun W h => hC W (F3.trans h)) hc0 u1 y2 (hfv ▸ x3) (nS _ (Nat.le_refl _)) (nS _ b1.size) (nS _ b2.size)
    ls.length s w3 (.slice none 0 0) [] rod (by simp) hrod.1 hrod.2 (Fr.refl _ _) (T.st _ _ _ hI b3) (Kd.R_nil _ _ _ _ _)
  simp only [List.length_nil, List.drop_zero] at hcall
  have HCALL := Aside0.mk hcall
  have q3 := x3.cell
  have HF3 := Aside0.mk F3
  clear hcall x1 x2 x3 y1 y2 u1 b1 b2 b3 T hC hI F3
  subst hfv
  go_enter Try.func57, Try.ntmps57
  go_wp2_with (go_at_call 90; refine HCALL.out.mono ?_; rintro e w5 ⟨rfl, hI5, hF5⟩)

  go_end0
  exact ⟨rfl, hI5, HF3.out.trans hF5⟩
end Go.Proofs.Ytfhaclkjiolmjaa.Q
