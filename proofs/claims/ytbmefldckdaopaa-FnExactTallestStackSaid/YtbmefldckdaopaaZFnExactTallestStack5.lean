/-
  PROVED: for all arguments, the program's TallestStack returns what the reference's returns; the arguments read behind the call as before.
  CONDITIONS: none beyond the statement's own.
-/
import Derived.Test.YtbmefldckdaopaaZFnExactTallestStack1
import Derived.Test.YtbmefldckdaopaaZFnExactTallestStack2
import Derived.Test.YtbmefldckdaopaaZFnExactTallestStack4
import Derived.Test.YtbmefldckdaopaaZFnExactTallestStack3
import Derived.Deep.Slices
import Derived.Deep.Fields
import Derived.ChangeSame
import Derived.SizedLaws
import Derived.ChangeSlices
import Derived.Lib.SmallJoins
import Derived.Test.YtbmefldckdaopaaWWords
import Derived.Test.YtbmefldckdaopaaRows
import Derived.WalkKit
import Derived.ProofKit
import Derived.OpenShut
import Derived.ShutString
import Derived.ChangeOld
import Derived.Below
import Derived.Test.YtbmefldckdaopaaWSized
namespace Go.Proofs.Ytbmefldckdaopaa.Q
open Go.RowKit Go.Proofs.YtbmefldckdaopaaW.PrintWords Go.Proofs.YtbmefldckdaopaaW.PrintLast Go.Proofs.YtbmefldckdaopaaW.PrintMore
attribute [local go_sem] max2_int min2_int max_two min_two max_three min_three max_four min_four   -- for this text's walks alone
set_option linter.unusedVariables false
set_option linter.unusedSimpArgs false

/-! ### spec_scOrders: function 50 -/
def spec_scOrders.l0 : Nat → List (S49) → List (List Int) → List (List Int) → Int → Int → Option ((List (List Int)))
  | 0, _, _, _, _, _ => none
  | k + 1, x0, x3, x7, x8, x9 => if x9 < x8 then (if 0 ≤ x9 then (if x9 < (x7.length : Int) then (if ((rd_L5 x7 x9).length : Int) = (x0.length : Int) then (if x3.length < 5864062014805 then (spec_scOrders.l0 k x0 (x3 ++ [rd_L5 x7 x9]) x7 x8 (wrap64 (x9 + 1))) else (none)) else (spec_scOrders.l0 k x0 x3 x7 x8 (wrap64 (x9 + 1)))) else (none)) else (none)) else (some x3)
def spec_scOrders.f (k : Nat) (l0 : List (S49)) : Option ((List (List Int))) := (spec_scAll.f k l0 ([] : List Int)).bind fun t275 => (spec_scOrders.l0 k l0 ([] : List (List Int)) t275 (t275.length : Int) 0)
theorem spec_scOrders.mono_l : ∀ k, (∀ y0 y1 y2 y3 y4, LeO (spec_scOrders.l0 k y0 y1 y2 y3 y4) (spec_scOrders.l0 (k + 1) y0 y1 y2 y3 y4))
  | 0 => fun _ _ _ _ _ r h => by simp [spec_scOrders.l0] at h
  | k + 1 => by
    have ih0 := spec_scOrders.mono_l k
    · intro y0 y1 y2 y3 y4
      unfold spec_scOrders.l0
      repeat' first
      | (with_reducible exact ih0 _ _ _ _ _)
      | (with_reducible exact spec_scAll.mono _ _ _)
      | (with_reducible exact LeO.refl _)
      | (with_reducible exact LeO.none _)
      | (with_reducible refine LeO.ite ?_ ?_)
      | (with_reducible refine LeO.bind ?_ (fun _ => ?_))
      | exact ih0 _ _ _ _ _
      | exact spec_scAll.mono _ _ _
      | exact LeO.none _
      | refine LeO.ite ?_ ?_
      | refine LeO.bind ?_ (fun _ => ?_)
theorem spec_scOrders.mono : ∀ a0 k, LeO (spec_scOrders.f k a0) (spec_scOrders.f (k + 1) a0) := by
  intro a0 k
  have ih0 := spec_scOrders.mono_l k
  unfold spec_scOrders.f
  repeat' first
      | (with_reducible exact ih0 _ _ _ _ _)
      | (with_reducible exact spec_scAll.mono _ _ _)
      | (with_reducible exact LeO.refl _)
      | (with_reducible exact LeO.none _)
      | (with_reducible refine LeO.ite ?_ ?_)
      | (with_reducible refine LeO.bind ?_ (fun _ => ?_))
      | exact ih0 _ _ _ _ _
      | exact spec_scAll.mono _ _ _
      | exact LeO.none _
      | refine LeO.ite ?_ ?_
      | refine LeO.bind ?_ (fun _ => ?_)
set_option maxHeartbeats 8000000 in
set_option maxRecDepth 100000 in
theorem spec_scOrders.calls (k : Nat) (A0 : Option Addr) (c0 : Nat) (l0 : List (S49)) (r : List (List Int)) (w : World) (hr0 : Kd.C k49 w A0 l0.length l0) (hc0 : l0.length ≤ c0) (h : spec_scOrders.f k l0 = some r) :
    Calls Try.prog 50 #[.slice A0 l0.length c0] w fun e w' => ∃ v0_ : Value, e = .returned (v0_) ∧ Kd.N (Kd.slice 3 (Kd.int .i64)) 41 w' w.heap.size (fun k_ => (w.heap.size ≤ k_)) v0_ r ∧ Below w.heap.size w w' := by
  have HR0 := Aside0.mk hr0
  have HC0 := Aside0.mk hc0
  clear hr0 hc0
  have HB := Aside0.mk (Below.refl w.heap.size w)
  have H : ((spec_scAll.f k l0 ([] : List Int)).bind fun t275 => (spec_scOrders.l0 k l0 ([] : List (List Int)) t275 (t275.length : Int) 0)) = some r := h
  clear h
  replace H := Option.bind_eq_some_iff.mp H
  obtain ⟨t275, A20, H⟩ := H
  replace H : (spec_scOrders.l0 k l0 ([] : List (List Int)) t275 (t275.length : Int) 0) = some r := H
  have A2 := Aside0.mk A20
  clear A20
  have H' := Aside0.mk H
  clear H
  go_enter Try.func50, Try.ntmps50
  go_wp2_with (first | ((with_reducible refine gate_callee (f := 48) rfl ?_); refine goesL_ (some 7) rfl rfl Try.func48 (by kernel_rfl) rfl #[.slice A0 l0.length c0, .slice none 0 0] rfl (by (try simp only [List.map_toArray, List.map_cons, List.map_nil]); first | done | rfl | (simp only [List.length_drop, List.length_take]; rfl)) ?_; (refine (spec_scAll.calls k _ _ l0 _ _ ([] : List Int) t275 _ ?side1 ?side2 ?side3 ?side4 A2.out).mono ?_); (case side1 => repeat (first | exact HR0.out | (with_reducible refine Kd.C_alloc ?_ _) | (with_reducible refine Kd.C_drewN ?_ _) | (with_reducible refine Kd.C_drew ?_))); (case side2 => exact HC0.out); (case side3 => exact Kd.C_nil _ _); (case side4 => exact Nat.le_refl _); rintro e w3 ⟨v276, rfl, ho0, hb⟩; refine ⟨_, rfl, ?_⟩; have n0_ := Aside0.mk (Kd.N_lower (Kd.N_mono (ok' := fun k_ => (w.heap.size ≤ k_)) ho0 (fun k_ hk_ => (Nat.le_trans (below_size (by repeat (first | (with_reducible first | exact HB.out | apply below_alloc | apply pw_below_drewN | apply below_drew1) | exact HB.out))) hk_))) (below_size (by repeat (first | (with_reducible first | exact HB.out | apply below_alloc | apply pw_below_drewN | apply below_drew1) | exact HB.out)))); have n1_ := Aside0.mk (below_step (by repeat (first | (with_reducible first | exact HB.out | apply below_alloc | apply pw_below_drewN | apply below_drew1) | exact HB.out)) hb); clear HB; have HO277 := n0_; have HB := n1_; clear n0_ n1_; (try clear hb); (try clear hb2); (try clear hk); (try clear hi); (try clear ho0); obtain ⟨Ao4, co4, eo4⟩ := Kd.N_slice HO277.out; subst eo4))
  go_loopg [3, 9] k (fun kq v3 v9 w' => ∃ (x3_1 : List (List Int)) (x9_1 : Int), v9 = .int .i64 x9_1 ∧ Aside0 (spec_scOrders.l0 kq l0 x3_1 t275 (t275.length : Int) x9_1 = some r) ∧ Aside0 (kq ≤ k) ∧ Aside0 (Kd.N (Kd.slice 3 (Kd.int .i64)) 41 w' w.heap.size (fun k_ => (w.heap.size ≤ k_) ∧ some k_ ≠ ((.slice Ao4 t275.length co4) : Value).ownBlock) v3 x3_1) ∧ Aside0 (Kd.N (Kd.slice 3 (Kd.int .i64)) 41 w' w.heap.size (fun k_ => (w.heap.size ≤ k_) ∧ some k_ ≠ (v3 : Value).ownBlock) (.slice Ao4 t275.length co4) t275) ∧ Aside0 (Below w.heap.size w w'))
  case atStart => exact ⟨(([] : List (List Int))), (0), (by first | rfl | (simp; done) | (simp [*]; done)), H', ⟨Nat.le_refl _⟩, ⟨by first | exact Kd.S_nil _ _ _ _ _ | exact Kd.N_nil _ _ _ _ _ | exact Kd.V_nil _ _ _ _ _ | exact Kd.Q_nil _ _ _ _ _ | exact Kd.R_nil _ _ _ _ _⟩, ⟨by (with_reducible repeat (first | apply Kd.N_alloc | apply Kd.N_drewN | apply Kd.N_drew)); exact Kd.N_mono HO277.out (fun _ hk => ⟨hk, (by simp [Value.ownBlock])⟩)⟩, ⟨by repeat (first | (with_reducible first | exact HB.out | apply below_alloc | apply pw_below_drewN | apply below_drew1) | exact HB.out)⟩⟩
  case round =>
    clear H'
    try clear p2
    try clear c4
    obtain ⟨x3_1, x9_1, rfl, HA, HK1, HO_3, HO_7, HB⟩ := hrel
    cases gk with
    | zero => exact absurd HA.out (by simp [spec_scOrders.l0])
    | succ k1 =>
      have H := HA.out
      clear HA
      simp only [spec_scOrders.l0] at H
      by_cases c5 : x9_1 < (t275.length : Int)
      · rw [if_pos c5] at H
        have c5b0 : decide (x9_1 < (t275.length : Int)) = true := decide_eq_true c5
        clear c5
        by_cases c6 : 0 ≤ x9_1
        · rw [if_pos c6] at H
          have c6b0 : decide (0 ≤ x9_1) = true := decide_eq_true c6
          clear c6
          by_cases c7 : x9_1 < (t275.length : Int)
          · rw [if_pos c7] at H
            have c7b0 : decide (x9_1 < (t275.length : Int)) = true := decide_eq_true c7
            clear c7
            by_cases c8 : ((rd_L5 t275 x9_1).length : Int) = (l0.length : Int)
            · rw [if_pos c8] at H
              have c8b0 : (((rd_L5 t275 x9_1).length : Int) == (l0.length : Int)) = true := beq_iff_eq.mpr c8
              have c8b1 : (((rd_L5 t275 x9_1).length : Int) != (l0.length : Int)) = false := bne_eq_false_iff_eq.mpr c8
              have c8b2 : ((rd_L5 t275 x9_1).length == l0.length) = true := by first | simpa using c8 | (simp at c8 ⊢; omega)
              clear c8
              by_cases c9 : x3_1.length < 5864062014805
              · rw [if_pos c9] at H
                have LMc9 := Aside0.mk c9
                clear c9
                obtain ⟨y279, hy279⟩ : ∃ y_ : List (List Int), y_ = (x3_1 ++ [rd_L5 t275 x9_1]) := ⟨_, rfl⟩
                replace H : (spec_scOrders.l0 k1 l0 y279 t275 (t275.length : Int) (wrap64 (x9_1 + 1))) = some r := by first | (rw [hy279]; with_reducible exact H) | (have H2_ := (Option.bind_some _ _).symm.trans H; rw [hy279]; with_reducible exact H2_) | (have H2_ := (Option.bind_some _ _).symm.trans H; with_reducible exact H2_) | with_reducible exact H | (rw [hy279]; exact H) | exact H
                have Ny279 := Aside0.mk hy279
                clear hy279
                have H' := Aside0.mk H
                clear H
                have p278 : 0 ≤ (x9_1 : Int) := of_decide_eq_true (by first | (with_reducible assumption) | assumption)
                have q278 : x9_1 < (t275.length : Int) := of_decide_eq_true (by first | (with_reducible assumption) | assumption)
                obtain ⟨ad278, A278_0, c278_0, e278, hx278_0, hl278_0, hi278_0⟩ := at_L5 (Kd.N_reads' HO_7.out).2.2 x9_1 p278 q278
                cases e278
                obtain ⟨ce278, hce278, hMe278, hcc278⟩ := Kd.N_get HO_7.out [] x9_1 p278 (by first | exact q278 | exact of_decide_eq_true (by first | (with_reducible assumption) | assumption) | (have e_ := (Kd.N_reads' HO_7.out).1; omega))
                obtain ⟨ua278_0, uc278_0, rfl, ul278_0, ge278_0⟩ := Kd.FK_slice_open hMe278
                have hv278_0 := hcc278 0 _ rfl
                rw [Nat.add_zero, show ((Kd.slice 3 (Kd.int .i64))).sz = 1 from rfl, Nat.mul_one] at hv278_0
                replace hv278_0 := Option.some.inj (hv278_0.symm.trans hx278_0)
                injection hv278_0 with hva_ hvn_ hvc_
                rw [hva_] at ge278_0
                rw [hvc_] at ul278_0
                have HL278_0 := Aside0.mk (show Kd.V (Kd.int .i64) 3 _ w.heap.size _ _ (rd_L5 t275 x9_1) from Kd.V_mk ul278_0 ge278_0)
                clear hva_ hvn_ hvc_ ge278_0 ul278_0
                clear hcc278 hce278
                have HR278_0 := Aside0.mk hi278_0
                have HC278_0 := Aside0.mk hl278_0
                clear hi278_0 hl278_0
                replace p278 := eq_true p278
                replace q278 := eq_true q278
                go_wp2_with (first | ((with_reducible refine gate_builtin (b := .append) (xs := #[.tmp 18, .tmp 20]) rfl ?_); at_builtin; refine Kd.N_append (Kd.slice 3 (Kd.int .i64)) (w0 := w) w.heap.size rfl (.tmp 18) (.tmp 20) 29 41 (.slice none 0 0) 24 rfl Try.underlying29 info41 rfl (by decide) (by omega) u3 x3_1 (rd_L5 t275 x9_1) [.slice A278_0 (rd_L5 t275 x9_1).length c278_0] (fun k_ => (w.heap.size ≤ k_) ∧ some k_ ≠ (.slice (some ad278) t275.length co4 : Value).ownBlock) (fun k_ => ((fun k_ => (w.heap.size ≤ k_) ∧ some k_ ≠ (.slice (some ad278) t275.length co4 : Value).ownBlock)) k_ ∧ some k_ ≠ (u3 : Value).ownBlock) rfl rfl ?aP (fun _ hk => hk) ?aF ?aO ?aB ?aS ?aL ?_; (case aP => exact (Kd.FK_slice_mk (Kd.V_reads' (Kd.V_mono (ok' := (fun k_ => ((fun k_ => (w.heap.size ≤ k_) ∧ some k_ ≠ (.slice (some ad278) t275.length co4 : Value).ownBlock)) k_ ∧ some k_ ≠ (u3 : Value).ownBlock)) (HL278_0.out) (fun k_ hk => ⟨⟨hk.1.1, hk.2⟩, hk.1.2⟩))).2.1 (Kd.V_F (Kd.V_mono (ok' := (fun k_ => ((fun k_ => (w.heap.size ≤ k_) ∧ some k_ ≠ (.slice (some ad278) t275.length co4 : Value).ownBlock)) k_ ∧ some k_ ≠ (u3 : Value).ownBlock)) (HL278_0.out) (fun k_ hk => ⟨⟨hk.1.1, hk.2⟩, hk.1.2⟩))))); (case aB => exact (by repeat (first | (with_reducible first | exact HB.out | apply below_alloc | apply pw_below_drewN | apply below_drew1) | exact HB.out))); (case aF => exact (fun k_ hk => ⟨(Nat.le_trans (below_size (by repeat (first | (with_reducible first | exact HB.out | apply below_alloc | apply pw_below_drewN | apply below_drew1) | exact HB.out))) hk), Kd.fresh' (Kd.N_lt (by (with_reducible repeat (first | apply Kd.N_alloc | apply Kd.N_drewN | apply Kd.N_drew)); exact HO_7.out)) k_ hk⟩)); (case aO => exact (by (with_reducible repeat (first | apply Kd.N_alloc | apply Kd.N_drewN | apply Kd.N_drew)); exact HO_3.out)); (case aS => exact (below_size (by repeat (first | (with_reducible first | exact HB.out | apply below_alloc | apply pw_below_drewN | apply below_drew1) | exact HB.out)))); (case aL => have := LMc9.out; omega); intro v280 w10 ho hb hg hat; rw [← Ny279.out] at ho; have n0_ := Aside0.mk (Kd.N_afterv (ok := (fun k_ => (w.heap.size ≤ k_))) (by (with_reducible repeat (first | apply Kd.N_alloc | apply Kd.N_drewN | apply Kd.N_drew)); exact HO_7.out) hg hat); have n1_ := Aside0.mk (Kd.V_afterv (ok := (fun k_ => (w.heap.size ≤ k_) ∧ some k_ ≠ (.slice (some ad278) t275.length co4 : Value).ownBlock)) (by (with_reducible repeat (first | apply Kd.V_alloc | apply Kd.V_drewN | apply Kd.V_drew)); exact Kd.V_mono HL278_0.out (fun _ hk => ⟨⟨hk.1.1, hk.2⟩, hk.1.2⟩)) hg hat); have n2_ := Aside0.mk (hb); have n3_ := Aside0.mk (ho); clear HO_7; clear HL278_0; clear HB; clear HO_3; have HO_7 := n0_; have HL278_0 := n1_; have HB := n2_; have HO281 := n3_; clear n0_ n1_ n2_ n3_; clear ho hb hg hat))
                go_roundg k1
                case measure => have := HK1.out; omega
                case rel => exact ⟨(y279), (wrap64 (x9_1 + 1)), (by first | rfl | (simp; done) | (simp [*]; done)), H', ⟨by have := HK1.out; omega⟩, ⟨by (with_reducible repeat (first | apply Kd.N_alloc | apply Kd.N_drewN | apply Kd.N_drew)); exact HO281.out⟩, ⟨by (with_reducible repeat (first | apply Kd.N_alloc | apply Kd.N_drewN | apply Kd.N_drew)); exact HO_7.out⟩, ⟨by repeat (first | (with_reducible first | exact HB.out | apply below_alloc | apply pw_below_drewN | apply below_drew1) | exact HB.out)⟩⟩
              · rw [if_neg c9] at H
                exact absurd H (by simp)
            · rw [if_neg c8] at H
              have c8b0 : (((rd_L5 t275 x9_1).length : Int) == (l0.length : Int)) = false := beq_eq_false_iff_ne.mpr c8
              have c8b1 : (((rd_L5 t275 x9_1).length : Int) != (l0.length : Int)) = true := bne_iff_ne.mpr c8
              have c8b2 : ((rd_L5 t275 x9_1).length == l0.length) = false := by first | simpa using c8 | (simp at c8 ⊢; omega)
              have H' := Aside0.mk H
              clear H
              have p278 : 0 ≤ (x9_1 : Int) := of_decide_eq_true (by first | (with_reducible assumption) | assumption)
              have q278 : x9_1 < (t275.length : Int) := of_decide_eq_true (by first | (with_reducible assumption) | assumption)
              obtain ⟨ad278, A278_0, c278_0, e278, hx278_0, hl278_0, hi278_0⟩ := at_L5 (Kd.N_reads' HO_7.out).2.2 x9_1 p278 q278
              cases e278
              obtain ⟨ce278, hce278, hMe278, hcc278⟩ := Kd.N_get HO_7.out [] x9_1 p278 (by first | exact q278 | exact of_decide_eq_true (by first | (with_reducible assumption) | assumption) | (have e_ := (Kd.N_reads' HO_7.out).1; omega))
              obtain ⟨ua278_0, uc278_0, rfl, ul278_0, ge278_0⟩ := Kd.FK_slice_open hMe278
              have hv278_0 := hcc278 0 _ rfl
              rw [Nat.add_zero, show ((Kd.slice 3 (Kd.int .i64))).sz = 1 from rfl, Nat.mul_one] at hv278_0
              replace hv278_0 := Option.some.inj (hv278_0.symm.trans hx278_0)
              injection hv278_0 with hva_ hvn_ hvc_
              rw [hva_] at ge278_0
              rw [hvc_] at ul278_0
              have HL278_0 := Aside0.mk (show Kd.V (Kd.int .i64) 3 _ w.heap.size _ _ (rd_L5 t275 x9_1) from Kd.V_mk ul278_0 ge278_0)
              clear hva_ hvn_ hvc_ ge278_0 ul278_0
              clear hcc278 hce278
              have HR278_0 := Aside0.mk hi278_0
              have HC278_0 := Aside0.mk hl278_0
              clear hi278_0 hl278_0
              replace p278 := eq_true p278
              replace q278 := eq_true q278
              go_wp2
              go_roundg k1
              case measure => have := HK1.out; omega
              case rel => exact ⟨(x3_1), (wrap64 (x9_1 + 1)), (by first | rfl | (simp; done) | (simp [*]; done)), H', ⟨by have := HK1.out; omega⟩, ⟨by (with_reducible repeat (first | apply Kd.N_alloc | apply Kd.N_drewN | apply Kd.N_drew)); exact HO_3.out⟩, ⟨by (with_reducible repeat (first | apply Kd.N_alloc | apply Kd.N_drewN | apply Kd.N_drew)); exact HO_7.out⟩, ⟨by repeat (first | (with_reducible first | exact HB.out | apply below_alloc | apply pw_below_drewN | apply below_drew1) | exact HB.out)⟩⟩
          · rw [if_neg c7] at H
            exact absurd H (by simp)
        · rw [if_neg c6] at H
          exact absurd H (by simp)
      · rw [if_neg c5] at H
        have c5b0 : decide (x9_1 < (t275.length : Int)) = false := decide_eq_false c5
        clear c5
        obtain rfl := Option.some.inj H
        go_wp2
        go_ret
        exact ⟨_, by first | rfl | (simp [errW_none, errW_some] <;> rfl) | (simp [*, errW_none, errW_some] <;> rfl), by (with_reducible repeat (first | apply Kd.N_alloc | apply Kd.N_drewN | apply Kd.N_drew)); exact Kd.N_mono HO_3.out (fun _ hk => hk.1), by repeat (first | (with_reducible first | exact HB.out | apply below_alloc | apply pw_below_drewN | apply below_drew1) | exact HB.out)⟩

end Go.Proofs.Ytbmefldckdaopaa.Q

namespace Go.Proofs.Ytbmefldckdaopaa.Q
open Go.RowKit Go.Proofs.YtbmefldckdaopaaW.PrintWords Go.Proofs.YtbmefldckdaopaaW.PrintLast Go.Proofs.YtbmefldckdaopaaW.PrintMore
attribute [local go_sem] max2_int min2_int max_two min_two max_three min_three max_four min_four   -- for this text's walks alone
set_option linter.unusedVariables false
set_option linter.unusedSimpArgs false

/-! ### spec_CountSafeOrders: function 27 -/
def spec_CountSafeOrders.f (k : Nat) (l0 : List (S49)) : Option (Int × Bool) := (spec_scGood.f k l0).bind fun t303 => (if t303 = true then ((spec_scOrders.f k l0).bind fun t304 => (some ((t304.length : Int), true))) else (some (0, false)))
theorem spec_CountSafeOrders.mono : ∀ a0 k, LeO (spec_CountSafeOrders.f k a0) (spec_CountSafeOrders.f (k + 1) a0) := by
  intro a0 k
  unfold spec_CountSafeOrders.f
  repeat' first
      | (with_reducible exact spec_scGood.mono _ _)
      | (with_reducible exact spec_scOrders.mono _ _)
      | (with_reducible exact LeO.refl _)
      | (with_reducible exact LeO.none _)
      | (with_reducible refine LeO.ite ?_ ?_)
      | (with_reducible refine LeO.bind ?_ (fun _ => ?_))
      | exact spec_scGood.mono _ _
      | exact spec_scOrders.mono _ _
      | exact LeO.none _
      | refine LeO.ite ?_ ?_
      | refine LeO.bind ?_ (fun _ => ?_)
set_option maxHeartbeats 8000000 in
set_option maxRecDepth 100000 in
theorem spec_CountSafeOrders.calls (k : Nat) (A0 : Option Addr) (c0 : Nat) (l0 : List (S49)) (r1 : Int) (r2 : Bool) (w : World) (hr0 : Kd.C k49 w A0 l0.length l0) (hc0 : l0.length ≤ c0) (h : spec_CountSafeOrders.f k l0 = some (r1, r2)) :
    Calls Try.prog 27 #[.slice A0 l0.length c0] w fun e w' => e = .returned (.tuple #[.int .i64 r1, .bool r2]) ∧ Below w.heap.size w w' := by
  have HR0 := Aside0.mk hr0
  have HC0 := Aside0.mk hc0
  clear hr0 hc0
  have HB := Aside0.mk (Below.refl w.heap.size w)
  have H : ((spec_scGood.f k l0).bind fun t303 => (if t303 = true then ((spec_scOrders.f k l0).bind fun t304 => (some ((t304.length : Int), true))) else (some (0, false)))) = some (r1, r2) := h
  clear h
  replace H := Option.bind_eq_some_iff.mp H
  obtain ⟨t303, A20, H⟩ := H
  replace H : (if t303 = true then ((spec_scOrders.f k l0).bind fun t304 => (some ((t304.length : Int), true))) else (some (0, false))) = some (r1, r2) := H
  have A2 := Aside0.mk A20
  clear A20
  by_cases c3 : t303 = true
  · subst c3
    have H1 : ((spec_scOrders.f k l0).bind fun t304 => (some ((t304.length : Int), true))) = some (r1, r2) := by rw [if_pos rfl] at H; exact H
    clear H
    have H := H1
    clear H1
    replace H := Option.bind_eq_some_iff.mp H
    obtain ⟨t304, A40, H⟩ := H
    replace H : (some ((t304.length : Int), true)) = some (r1, r2) := H
    have A4 := Aside0.mk A40
    clear A40
    simp only [Option.some.injEq, Prod.mk.injEq] at H
    obtain ⟨rfl, rfl⟩ := H
    go_enter Try.func27, Try.ntmps27
    go_wp2_with (first | ((with_reducible refine gate_callee (f := 40) rfl ?_); refine goesL_ (some 5) rfl rfl Try.func40 (by kernel_rfl) rfl #[.slice A0 l0.length c0] rfl (by (try simp only [List.map_toArray, List.map_cons, List.map_nil]); first | done | rfl | (simp only [List.length_drop, List.length_take]; rfl)) ?_; (with_reducible refine (spec_scGood.calls k _ _ l0 true _ ?side1 ?side2 A2.out).mono ?_); (case side1 => repeat (first | exact HR0.out | (with_reducible refine Kd.C_alloc ?_ _) | (with_reducible refine Kd.C_drewN ?_ _) | (with_reducible refine Kd.C_drew ?_))); (case side2 => exact HC0.out); rintro e w5 ⟨rfl, hb⟩; refine ⟨_, rfl, ?_⟩; have n0_ := Aside0.mk (below_step (by repeat (first | (with_reducible first | exact HB.out | apply below_alloc | apply pw_below_drewN | apply below_drew1) | exact HB.out)) hb); clear HB; have HB := n0_; clear n0_; (try clear hb); (try clear hb2); (try clear hk); (try clear hi)) | ((with_reducible refine gate_callee (f := 50) rfl ?_); refine goesL_ (some 8) rfl rfl Try.func50 (by kernel_rfl) rfl #[.slice A0 l0.length c0] rfl (by (try simp only [List.map_toArray, List.map_cons, List.map_nil]); first | done | rfl | (simp only [List.length_drop, List.length_take]; rfl)) ?_; (with_reducible refine (spec_scOrders.calls k _ _ l0 t304 _ ?side1 ?side2 A4.out).mono ?_); (case side1 => repeat (first | exact (Kd.C_below HR0.out HB.out) | (with_reducible refine Kd.C_alloc ?_ _) | (with_reducible refine Kd.C_drewN ?_ _) | (with_reducible refine Kd.C_drew ?_))); (case side2 => exact HC0.out); rintro e w6 ⟨v305, rfl, ho0, hb⟩; refine ⟨_, rfl, ?_⟩; have n0_ := Aside0.mk (Kd.N_lower (Kd.N_mono (ok' := fun k_ => True) ho0 (fun k_ hk_ => trivial)) (below_size (by repeat (first | (with_reducible first | exact HB.out | apply below_alloc | apply pw_below_drewN | apply below_drew1) | exact HB.out)))); have n1_ := Aside0.mk (below_step (by repeat (first | (with_reducible first | exact HB.out | apply below_alloc | apply pw_below_drewN | apply below_drew1) | exact HB.out)) hb); clear HB; have HO306 := n0_; have HB := n1_; clear n0_ n1_; (try clear hb); (try clear hb2); (try clear hk); (try clear hi); (try clear ho0); obtain ⟨Ao7, co7, eo7⟩ := Kd.N_slice HO306.out; subst eo7))
    go_ret2
    exact ⟨by first | rfl | (simp [errW_none, errW_some] <;> rfl) | (simp [*, errW_none, errW_some] <;> rfl), by repeat (first | (with_reducible first | exact HB.out | apply below_alloc | apply pw_below_drewN | apply below_drew1) | exact HB.out)⟩
  · replace c3 := Bool.eq_false_iff.mpr c3
    subst c3
    have H1 : (some (0, false)) = some (r1, r2) := by rw [if_neg (show ¬ (false = true) by decide)] at H; exact H
    clear H
    have H := H1
    clear H1
    simp only [Option.some.injEq, Prod.mk.injEq] at H
    obtain ⟨rfl, rfl⟩ := H
    go_enter Try.func27, Try.ntmps27
    go_wp2_with (first | ((with_reducible refine gate_callee (f := 40) rfl ?_); refine goesL_ (some 5) rfl rfl Try.func40 (by kernel_rfl) rfl #[.slice A0 l0.length c0] rfl (by (try simp only [List.map_toArray, List.map_cons, List.map_nil]); first | done | rfl | (simp only [List.length_drop, List.length_take]; rfl)) ?_; (with_reducible refine (spec_scGood.calls k _ _ l0 false _ ?side1 ?side2 A2.out).mono ?_); (case side1 => repeat (first | exact HR0.out | (with_reducible refine Kd.C_alloc ?_ _) | (with_reducible refine Kd.C_drewN ?_ _) | (with_reducible refine Kd.C_drew ?_))); (case side2 => exact HC0.out); rintro e w8 ⟨rfl, hb⟩; refine ⟨_, rfl, ?_⟩; have n0_ := Aside0.mk (below_step (by repeat (first | (with_reducible first | exact HB.out | apply below_alloc | apply pw_below_drewN | apply below_drew1) | exact HB.out)) hb); clear HB; have HB := n0_; clear n0_; (try clear hb); (try clear hb2); (try clear hk); (try clear hi)))
    go_ret2
    exact ⟨by first | rfl | (simp [errW_none, errW_some] <;> rfl) | (simp [*, errW_none, errW_some] <;> rfl), by repeat (first | (with_reducible first | exact HB.out | apply below_alloc | apply pw_below_drewN | apply below_drew1) | exact HB.out)⟩

end Go.Proofs.Ytbmefldckdaopaa.Q

namespace Go.Proofs.Ytbmefldckdaopaa.Q
open Go.RowKit Go.Proofs.YtbmefldckdaopaaW.PrintWords Go.Proofs.YtbmefldckdaopaaW.PrintLast Go.Proofs.YtbmefldckdaopaaW.PrintMore
attribute [local go_sem] max2_int min2_int max_two min_two max_three min_three max_four min_four   -- for this text's walks alone
set_option linter.unusedVariables false
set_option linter.unusedSimpArgs false

/-! ### impl_CountSafeOrders: function 28 -/
def impl_CountSafeOrders.f (l0 : List (S49)) : Option (Int × Bool) := (impl_CountSafe.f l0 (l0.length : Int)).bind fun bt307 => (some (bt307.1, bt307.2))
set_option maxHeartbeats 8000000 in
set_option maxRecDepth 100000 in
theorem impl_CountSafeOrders.calls (A0 : Option Addr) (c0 : Nat) (l0 : List (S49)) (r1 : Int) (r2 : Bool) (w : World) (hr0 : Kd.C k49 w A0 l0.length l0) (hc0 : l0.length ≤ c0) (h : impl_CountSafeOrders.f l0 = some (r1, r2)) :
    Calls Try.prog 28 #[.slice A0 l0.length c0] w fun e w' => e = .returned (.tuple #[.int .i64 r1, .bool r2]) ∧ Below w.heap.size w w' := by
  have HR0 := Aside0.mk hr0
  have HC0 := Aside0.mk hc0
  clear hr0 hc0
  have HB := Aside0.mk (Below.refl w.heap.size w)
  have H : ((impl_CountSafe.f l0 (l0.length : Int)).bind fun bt307 => (some (bt307.1, bt307.2))) = some (r1, r2) := h
  clear h
  replace H := Option.bind_eq_some_iff.mp H
  obtain ⟨⟨t307, t308⟩, A20, H⟩ := H
  replace H : (some (t307, t308)) = some (r1, r2) := H
  have A2 := Aside0.mk A20
  clear A20
  simp only [Option.some.injEq, Prod.mk.injEq] at H
  obtain ⟨rfl, rfl⟩ := H
  go_enter Try.func28, Try.ntmps28
  go_wp2_with (first | ((with_reducible refine gate_callee (f := 24) rfl ?_); refine goesL_ (some 7) rfl rfl Try.func24 (by kernel_rfl) rfl #[.slice A0 l0.length c0, .int .i64 (l0.length : Int)] rfl (by (try simp only [List.map_toArray, List.map_cons, List.map_nil]); first | done | rfl | (simp only [List.length_drop, List.length_take]; rfl)) ?_; (with_reducible refine (impl_CountSafe.calls _ _ l0 (l0.length : Int) t307 t308 _ ?side1 ?side2 A2.out).mono ?_); (case side1 => repeat (first | exact HR0.out | (with_reducible refine Kd.C_alloc ?_ _) | (with_reducible refine Kd.C_drewN ?_ _) | (with_reducible refine Kd.C_drew ?_))); (case side2 => exact HC0.out); rintro e w3 ⟨rfl, hb⟩; refine ⟨_, rfl, ?_⟩; have n0_ := Aside0.mk (below_step (by repeat (first | (with_reducible first | exact HB.out | apply below_alloc | apply pw_below_drewN | apply below_drew1) | exact HB.out)) hb); clear HB; have HB := n0_; clear n0_; (try clear hb); (try clear hb2); (try clear hk); (try clear hi)))
  go_ret2
  exact ⟨by first | rfl | (simp [errW_none, errW_some] <;> rfl) | (simp [*, errW_none, errW_some] <;> rfl), by repeat (first | (with_reducible first | exact HB.out | apply below_alloc | apply pw_below_drewN | apply below_drew1) | exact HB.out)⟩

end Go.Proofs.Ytbmefldckdaopaa.Q

namespace Go.Proofs.Ytbmefldckdaopaa.Q
open Go.RowKit Go.Proofs.YtbmefldckdaopaaW.PrintWords Go.Proofs.YtbmefldckdaopaaW.PrintLast Go.Proofs.YtbmefldckdaopaaW.PrintMore
attribute [local go_sem] max2_int min2_int max_two min_two max_three min_three max_four min_four   -- for this text's walks alone
set_option linter.unusedVariables false
set_option linter.unusedSimpArgs false

/-! ### spec_CanStackAll: function 25 -/
def spec_CanStackAll.f (k : Nat) (l0 : List (S49)) : Option (Bool × Bool) := (spec_scGood.f k l0).bind fun t282 => (if t282 = true then ((spec_scOrders.f k l0).bind fun t283 => (some (decide ((t283.length : Int) > 0), true))) else (some (false, false)))
theorem spec_CanStackAll.mono : ∀ a0 k, LeO (spec_CanStackAll.f k a0) (spec_CanStackAll.f (k + 1) a0) := by
  intro a0 k
  unfold spec_CanStackAll.f
  repeat' first
      | (with_reducible exact spec_scGood.mono _ _)
      | (with_reducible exact spec_scOrders.mono _ _)
      | (with_reducible exact LeO.refl _)
      | (with_reducible exact LeO.none _)
      | (with_reducible refine LeO.ite ?_ ?_)
      | (with_reducible refine LeO.bind ?_ (fun _ => ?_))
      | exact spec_scGood.mono _ _
      | exact spec_scOrders.mono _ _
      | exact LeO.none _
      | refine LeO.ite ?_ ?_
      | refine LeO.bind ?_ (fun _ => ?_)
set_option maxHeartbeats 8000000 in
set_option maxRecDepth 100000 in
theorem spec_CanStackAll.calls (k : Nat) (A0 : Option Addr) (c0 : Nat) (l0 : List (S49)) (r1 : Bool) (r2 : Bool) (w : World) (hr0 : Kd.C k49 w A0 l0.length l0) (hc0 : l0.length ≤ c0) (h : spec_CanStackAll.f k l0 = some (r1, r2)) :
    Calls Try.prog 25 #[.slice A0 l0.length c0] w fun e w' => e = .returned (.tuple #[.bool r1, .bool r2]) ∧ Below w.heap.size w w' := by
  have HR0 := Aside0.mk hr0
  have HC0 := Aside0.mk hc0
  clear hr0 hc0
  have HB := Aside0.mk (Below.refl w.heap.size w)
  have H : ((spec_scGood.f k l0).bind fun t282 => (if t282 = true then ((spec_scOrders.f k l0).bind fun t283 => (some (decide ((t283.length : Int) > 0), true))) else (some (false, false)))) = some (r1, r2) := h
  clear h
  replace H := Option.bind_eq_some_iff.mp H
  obtain ⟨t282, A20, H⟩ := H
  replace H : (if t282 = true then ((spec_scOrders.f k l0).bind fun t283 => (some (decide ((t283.length : Int) > 0), true))) else (some (false, false))) = some (r1, r2) := H
  have A2 := Aside0.mk A20
  clear A20
  by_cases c3 : t282 = true
  · subst c3
    have H1 : ((spec_scOrders.f k l0).bind fun t283 => (some (decide ((t283.length : Int) > 0), true))) = some (r1, r2) := by rw [if_pos rfl] at H; exact H
    clear H
    have H := H1
    clear H1
    replace H := Option.bind_eq_some_iff.mp H
    obtain ⟨t283, A40, H⟩ := H
    replace H : (some (decide ((t283.length : Int) > 0), true)) = some (r1, r2) := H
    have A4 := Aside0.mk A40
    clear A40
    simp only [Option.some.injEq, Prod.mk.injEq] at H
    obtain ⟨rfl, rfl⟩ := H
    go_enter Try.func25, Try.ntmps25
    go_wp2_with (first | ((with_reducible refine gate_callee (f := 40) rfl ?_); refine goesL_ (some 5) rfl rfl Try.func40 (by kernel_rfl) rfl #[.slice A0 l0.length c0] rfl (by (try simp only [List.map_toArray, List.map_cons, List.map_nil]); first | done | rfl | (simp only [List.length_drop, List.length_take]; rfl)) ?_; (with_reducible refine (spec_scGood.calls k _ _ l0 true _ ?side1 ?side2 A2.out).mono ?_); (case side1 => repeat (first | exact HR0.out | (with_reducible refine Kd.C_alloc ?_ _) | (with_reducible refine Kd.C_drewN ?_ _) | (with_reducible refine Kd.C_drew ?_))); (case side2 => exact HC0.out); rintro e w5 ⟨rfl, hb⟩; refine ⟨_, rfl, ?_⟩; have n0_ := Aside0.mk (below_step (by repeat (first | (with_reducible first | exact HB.out | apply below_alloc | apply pw_below_drewN | apply below_drew1) | exact HB.out)) hb); clear HB; have HB := n0_; clear n0_; (try clear hb); (try clear hb2); (try clear hk); (try clear hi)) | ((with_reducible refine gate_callee (f := 50) rfl ?_); refine goesL_ (some 8) rfl rfl Try.func50 (by kernel_rfl) rfl #[.slice A0 l0.length c0] rfl (by (try simp only [List.map_toArray, List.map_cons, List.map_nil]); first | done | rfl | (simp only [List.length_drop, List.length_take]; rfl)) ?_; (with_reducible refine (spec_scOrders.calls k _ _ l0 t283 _ ?side1 ?side2 A4.out).mono ?_); (case side1 => repeat (first | exact (Kd.C_below HR0.out HB.out) | (with_reducible refine Kd.C_alloc ?_ _) | (with_reducible refine Kd.C_drewN ?_ _) | (with_reducible refine Kd.C_drew ?_))); (case side2 => exact HC0.out); rintro e w6 ⟨v284, rfl, ho0, hb⟩; refine ⟨_, rfl, ?_⟩; have n0_ := Aside0.mk (Kd.N_lower (Kd.N_mono (ok' := fun k_ => True) ho0 (fun k_ hk_ => trivial)) (below_size (by repeat (first | (with_reducible first | exact HB.out | apply below_alloc | apply pw_below_drewN | apply below_drew1) | exact HB.out)))); have n1_ := Aside0.mk (below_step (by repeat (first | (with_reducible first | exact HB.out | apply below_alloc | apply pw_below_drewN | apply below_drew1) | exact HB.out)) hb); clear HB; have HO285 := n0_; have HB := n1_; clear n0_ n1_; (try clear hb); (try clear hb2); (try clear hk); (try clear hi); (try clear ho0); obtain ⟨Ao7, co7, eo7⟩ := Kd.N_slice HO285.out; subst eo7))
    go_ret2
    exact ⟨by first | rfl | (simp [errW_none, errW_some] <;> rfl) | (simp [*, errW_none, errW_some] <;> rfl), by repeat (first | (with_reducible first | exact HB.out | apply below_alloc | apply pw_below_drewN | apply below_drew1) | exact HB.out)⟩
  · replace c3 := Bool.eq_false_iff.mpr c3
    subst c3
    have H1 : (some (false, false)) = some (r1, r2) := by rw [if_neg (show ¬ (false = true) by decide)] at H; exact H
    clear H
    have H := H1
    clear H1
    simp only [Option.some.injEq, Prod.mk.injEq] at H
    obtain ⟨rfl, rfl⟩ := H
    go_enter Try.func25, Try.ntmps25
    go_wp2_with (first | ((with_reducible refine gate_callee (f := 40) rfl ?_); refine goesL_ (some 5) rfl rfl Try.func40 (by kernel_rfl) rfl #[.slice A0 l0.length c0] rfl (by (try simp only [List.map_toArray, List.map_cons, List.map_nil]); first | done | rfl | (simp only [List.length_drop, List.length_take]; rfl)) ?_; (with_reducible refine (spec_scGood.calls k _ _ l0 false _ ?side1 ?side2 A2.out).mono ?_); (case side1 => repeat (first | exact HR0.out | (with_reducible refine Kd.C_alloc ?_ _) | (with_reducible refine Kd.C_drewN ?_ _) | (with_reducible refine Kd.C_drew ?_))); (case side2 => exact HC0.out); rintro e w8 ⟨rfl, hb⟩; refine ⟨_, rfl, ?_⟩; have n0_ := Aside0.mk (below_step (by repeat (first | (with_reducible first | exact HB.out | apply below_alloc | apply pw_below_drewN | apply below_drew1) | exact HB.out)) hb); clear HB; have HB := n0_; clear n0_; (try clear hb); (try clear hb2); (try clear hk); (try clear hi)))
    go_ret2
    exact ⟨by first | rfl | (simp [errW_none, errW_some] <;> rfl) | (simp [*, errW_none, errW_some] <;> rfl), by repeat (first | (with_reducible first | exact HB.out | apply below_alloc | apply pw_below_drewN | apply below_drew1) | exact HB.out)⟩

end Go.Proofs.Ytbmefldckdaopaa.Q

namespace Go.Proofs.Ytbmefldckdaopaa.Q
open Go.RowKit Go.Proofs.YtbmefldckdaopaaW.PrintWords Go.Proofs.YtbmefldckdaopaaW.PrintLast Go.Proofs.YtbmefldckdaopaaW.PrintMore
attribute [local go_sem] max2_int min2_int max_two min_two max_three min_three max_four min_four   -- for this text's walks alone
set_option linter.unusedVariables false
set_option linter.unusedSimpArgs false

/-! ### impl_CanStackAll: function 26 -/
def impl_CanStackAll.f (l0 : List (S49)) : Option (Bool × Bool) := (impl_AreStackable.f l0).bind fun t286 => (if t286 = true then ((impl_countSafe.f l0 (l0.length : Int)).bind fun t287 => (some (decide (t287 > 0), true))) else (some (false, false)))
set_option maxHeartbeats 8000000 in
set_option maxRecDepth 100000 in
theorem impl_CanStackAll.calls (A0 : Option Addr) (c0 : Nat) (l0 : List (S49)) (r1 : Bool) (r2 : Bool) (w : World) (hr0 : Kd.C k49 w A0 l0.length l0) (hc0 : l0.length ≤ c0) (h : impl_CanStackAll.f l0 = some (r1, r2)) :
    Calls Try.prog 26 #[.slice A0 l0.length c0] w fun e w' => e = .returned (.tuple #[.bool r1, .bool r2]) ∧ Below w.heap.size w w' := by
  have HR0 := Aside0.mk hr0
  have HC0 := Aside0.mk hc0
  clear hr0 hc0
  have HB := Aside0.mk (Below.refl w.heap.size w)
  have H : ((impl_AreStackable.f l0).bind fun t286 => (if t286 = true then ((impl_countSafe.f l0 (l0.length : Int)).bind fun t287 => (some (decide (t287 > 0), true))) else (some (false, false)))) = some (r1, r2) := h
  clear h
  replace H := Option.bind_eq_some_iff.mp H
  obtain ⟨t286, A20, H⟩ := H
  replace H : (if t286 = true then ((impl_countSafe.f l0 (l0.length : Int)).bind fun t287 => (some (decide (t287 > 0), true))) else (some (false, false))) = some (r1, r2) := H
  have A2 := Aside0.mk A20
  clear A20
  by_cases c3 : t286 = true
  · subst c3
    have H1 : ((impl_countSafe.f l0 (l0.length : Int)).bind fun t287 => (some (decide (t287 > 0), true))) = some (r1, r2) := by rw [if_pos rfl] at H; exact H
    clear H
    have H := H1
    clear H1
    replace H := Option.bind_eq_some_iff.mp H
    obtain ⟨t287, A40, H⟩ := H
    replace H : (some (decide (t287 > 0), true)) = some (r1, r2) := H
    have A4 := Aside0.mk A40
    clear A40
    simp only [Option.some.injEq, Prod.mk.injEq] at H
    obtain ⟨rfl, rfl⟩ := H
    go_enter Try.func26, Try.ntmps26
    go_wp2_with (first | ((with_reducible refine gate_callee (f := 15) rfl ?_); refine goesL_ (some 5) rfl rfl Try.func15 (by kernel_rfl) rfl #[.slice A0 l0.length c0] rfl (by (try simp only [List.map_toArray, List.map_cons, List.map_nil]); first | done | rfl | (simp only [List.length_drop, List.length_take]; rfl)) ?_; (with_reducible refine (impl_AreStackable.calls _ _ l0 true _ ?side1 ?side2 A2.out).mono ?_); (case side1 => repeat (first | exact HR0.out | (with_reducible refine Kd.C_alloc ?_ _) | (with_reducible refine Kd.C_drewN ?_ _) | (with_reducible refine Kd.C_drew ?_))); (case side2 => exact HC0.out); rintro e w5 ⟨rfl, hb⟩; refine ⟨_, rfl, ?_⟩; have n0_ := Aside0.mk (below_step (by repeat (first | (with_reducible first | exact HB.out | apply below_alloc | apply pw_below_drewN | apply below_drew1) | exact HB.out)) hb); clear HB; have HB := n0_; clear n0_; (try clear hb); (try clear hb2); (try clear hk); (try clear hi)) | ((with_reducible refine gate_callee (f := 49) rfl ?_); refine goesL_ (some 10) rfl rfl Try.func49 (by kernel_rfl) rfl #[.slice A0 l0.length c0, .int .i64 (l0.length : Int)] rfl (by (try simp only [List.map_toArray, List.map_cons, List.map_nil]); first | done | rfl | (simp only [List.length_drop, List.length_take]; rfl)) ?_; (with_reducible refine (impl_countSafe.calls _ _ l0 (l0.length : Int) t287 _ ?side1 ?side2 A4.out).mono ?_); (case side1 => repeat (first | exact (Kd.C_below HR0.out HB.out) | (with_reducible refine Kd.C_alloc ?_ _) | (with_reducible refine Kd.C_drewN ?_ _) | (with_reducible refine Kd.C_drew ?_))); (case side2 => exact HC0.out); rintro e w6 ⟨rfl, hb⟩; refine ⟨_, rfl, ?_⟩; have n0_ := Aside0.mk (below_step (by repeat (first | (with_reducible first | exact HB.out | apply below_alloc | apply pw_below_drewN | apply below_drew1) | exact HB.out)) hb); clear HB; have HB := n0_; clear n0_; (try clear hb); (try clear hb2); (try clear hk); (try clear hi)))
    go_ret2
    exact ⟨by first | rfl | (simp [errW_none, errW_some] <;> rfl) | (simp [*, errW_none, errW_some] <;> rfl), by repeat (first | (with_reducible first | exact HB.out | apply below_alloc | apply pw_below_drewN | apply below_drew1) | exact HB.out)⟩
  · replace c3 := Bool.eq_false_iff.mpr c3
    subst c3
    have H1 : (some (false, false)) = some (r1, r2) := by rw [if_neg (show ¬ (false = true) by decide)] at H; exact H
    clear H
    have H := H1
    clear H1
    simp only [Option.some.injEq, Prod.mk.injEq] at H
    obtain ⟨rfl, rfl⟩ := H
    go_enter Try.func26, Try.ntmps26
    go_wp2_with (first | ((with_reducible refine gate_callee (f := 15) rfl ?_); refine goesL_ (some 5) rfl rfl Try.func15 (by kernel_rfl) rfl #[.slice A0 l0.length c0] rfl (by (try simp only [List.map_toArray, List.map_cons, List.map_nil]); first | done | rfl | (simp only [List.length_drop, List.length_take]; rfl)) ?_; (with_reducible refine (impl_AreStackable.calls _ _ l0 false _ ?side1 ?side2 A2.out).mono ?_); (case side1 => repeat (first | exact HR0.out | (with_reducible refine Kd.C_alloc ?_ _) | (with_reducible refine Kd.C_drewN ?_ _) | (with_reducible refine Kd.C_drew ?_))); (case side2 => exact HC0.out); rintro e w7 ⟨rfl, hb⟩; refine ⟨_, rfl, ?_⟩; have n0_ := Aside0.mk (below_step (by repeat (first | (with_reducible first | exact HB.out | apply below_alloc | apply pw_below_drewN | apply below_drew1) | exact HB.out)) hb); clear HB; have HB := n0_; clear n0_; (try clear hb); (try clear hb2); (try clear hk); (try clear hi)))
    go_ret2
    exact ⟨by first | rfl | (simp [errW_none, errW_some] <;> rfl) | (simp [*, errW_none, errW_some] <;> rfl), by repeat (first | (with_reducible first | exact HB.out | apply below_alloc | apply pw_below_drewN | apply below_drew1) | exact HB.out)⟩

end Go.Proofs.Ytbmefldckdaopaa.Q

namespace Go.Proofs.Ytbmefldckdaopaa.Q
open Go.RowKit Go.Proofs.YtbmefldckdaopaaW.PrintWords Go.Proofs.YtbmefldckdaopaaW.PrintLast Go.Proofs.YtbmefldckdaopaaW.PrintMore
attribute [local go_sem] max2_int min2_int max_two min_two max_three min_three max_four min_four   -- for this text's walks alone
set_option linter.unusedVariables false
set_option linter.unusedSimpArgs false

/-! ### spec_MostStacked: function 29 -/
def spec_MostStacked.l0 : Nat → List Int → List (List Int) → Int → Int → Option (List Int × Bool)
  | 0, _, _, _, _ => none
  | k + 1, x4, x11, x12, x13 => if x13 < x12 then (if 0 ≤ x13 then (if x13 < (x11.length : Int) then (if ((rd_L5 x11 x13).length : Int) > (x4.length : Int) then (spec_MostStacked.l0 k (rd_L5 x11 x13) x11 x12 (wrap64 (x13 + 1))) else (spec_MostStacked.l0 k x4 x11 x12 (wrap64 (x13 + 1)))) else (none)) else (none)) else (some (x4, true))
def spec_MostStacked.f (k : Nat) (l0 : List (S49)) : Option (List Int × Bool) := (spec_scGood.f k l0).bind fun t324 => (if t324 = true then ((spec_scAll.f k l0 ([] : List Int)).bind fun t325 => (spec_MostStacked.l0 k ([] : List Int) t325 (t325.length : Int) 0)) else (some (([] : List Int), false)))
theorem spec_MostStacked.mono_l : ∀ k, (∀ y0 y1 y2 y3, LeO (spec_MostStacked.l0 k y0 y1 y2 y3) (spec_MostStacked.l0 (k + 1) y0 y1 y2 y3))
  | 0 => fun _ _ _ _ r h => by simp [spec_MostStacked.l0] at h
  | k + 1 => by
    have ih0 := spec_MostStacked.mono_l k
    · intro y0 y1 y2 y3
      unfold spec_MostStacked.l0
      repeat' first
      | (with_reducible exact ih0 _ _ _ _)
      | (with_reducible exact spec_scAll.mono _ _ _)
      | (with_reducible exact spec_scGood.mono _ _)
      | (with_reducible exact LeO.refl _)
      | (with_reducible exact LeO.none _)
      | (with_reducible refine LeO.ite ?_ ?_)
      | (with_reducible refine LeO.bind ?_ (fun _ => ?_))
      | exact ih0 _ _ _ _
      | exact spec_scAll.mono _ _ _
      | exact spec_scGood.mono _ _
      | exact LeO.none _
      | refine LeO.ite ?_ ?_
      | refine LeO.bind ?_ (fun _ => ?_)
theorem spec_MostStacked.mono : ∀ a0 k, LeO (spec_MostStacked.f k a0) (spec_MostStacked.f (k + 1) a0) := by
  intro a0 k
  have ih0 := spec_MostStacked.mono_l k
  unfold spec_MostStacked.f
  repeat' first
      | (with_reducible exact ih0 _ _ _ _)
      | (with_reducible exact spec_scAll.mono _ _ _)
      | (with_reducible exact spec_scGood.mono _ _)
      | (with_reducible exact LeO.refl _)
      | (with_reducible exact LeO.none _)
      | (with_reducible refine LeO.ite ?_ ?_)
      | (with_reducible refine LeO.bind ?_ (fun _ => ?_))
      | exact ih0 _ _ _ _
      | exact spec_scAll.mono _ _ _
      | exact spec_scGood.mono _ _
      | exact LeO.none _
      | refine LeO.ite ?_ ?_
      | refine LeO.bind ?_ (fun _ => ?_)
set_option maxHeartbeats 8000000 in
set_option maxRecDepth 100000 in
theorem spec_MostStacked.calls (k : Nat) (A0 : Option Addr) (c0 : Nat) (l0 : List (S49)) (r1 : List Int) (r2 : Bool) (w : World) (hr0 : Kd.C k49 w A0 l0.length l0) (hc0 : l0.length ≤ c0) (h : spec_MostStacked.f k l0 = some (r1, r2)) :
    Calls Try.prog 29 #[.slice A0 l0.length c0] w fun e w' => ∃ v0_ : Value, e = .returned (.tuple #[v0_, .bool r2]) ∧ Kd.V (Kd.int .i64) 3 w' w.heap.size (fun k_ => (w.heap.size ≤ k_)) v0_ r1 ∧ Below w.heap.size w w' := by
  have HR0 := Aside0.mk hr0
  have HC0 := Aside0.mk hc0
  clear hr0 hc0
  have HB := Aside0.mk (Below.refl w.heap.size w)
  have H : ((spec_scGood.f k l0).bind fun t324 => (if t324 = true then ((spec_scAll.f k l0 ([] : List Int)).bind fun t325 => (spec_MostStacked.l0 k ([] : List Int) t325 (t325.length : Int) 0)) else (some (([] : List Int), false)))) = some (r1, r2) := h
  clear h
  replace H := Option.bind_eq_some_iff.mp H
  obtain ⟨t324, A20, H⟩ := H
  replace H : (if t324 = true then ((spec_scAll.f k l0 ([] : List Int)).bind fun t325 => (spec_MostStacked.l0 k ([] : List Int) t325 (t325.length : Int) 0)) else (some (([] : List Int), false))) = some (r1, r2) := H
  have A2 := Aside0.mk A20
  clear A20
  by_cases c3 : t324 = true
  · subst c3
    have H1 : ((spec_scAll.f k l0 ([] : List Int)).bind fun t325 => (spec_MostStacked.l0 k ([] : List Int) t325 (t325.length : Int) 0)) = some (r1, r2) := by rw [if_pos rfl] at H; exact H
    clear H
    have H := H1
    clear H1
    replace H := Option.bind_eq_some_iff.mp H
    obtain ⟨t325, A40, H⟩ := H
    replace H : (spec_MostStacked.l0 k ([] : List Int) t325 (t325.length : Int) 0) = some (r1, r2) := H
    have A4 := Aside0.mk A40
    clear A40
    have H' := Aside0.mk H
    clear H
    go_enter Try.func29, Try.ntmps29
    go_wp2_with (first | ((with_reducible refine gate_callee (f := 40) rfl ?_); refine goesL_ (some 8) rfl rfl Try.func40 (by kernel_rfl) rfl #[.slice A0 l0.length c0] rfl (by (try simp only [List.map_toArray, List.map_cons, List.map_nil]); first | done | rfl | (simp only [List.length_drop, List.length_take]; rfl)) ?_; (with_reducible refine (spec_scGood.calls k _ _ l0 true _ ?side1 ?side2 A2.out).mono ?_); (case side1 => repeat (first | exact HR0.out | (with_reducible refine Kd.C_alloc ?_ _) | (with_reducible refine Kd.C_drewN ?_ _) | (with_reducible refine Kd.C_drew ?_))); (case side2 => exact HC0.out); rintro e w5 ⟨rfl, hb⟩; refine ⟨_, rfl, ?_⟩; have n0_ := Aside0.mk (below_step (by repeat (first | (with_reducible first | exact HB.out | apply below_alloc | apply pw_below_drewN | apply below_drew1) | exact HB.out)) hb); clear HB; have HB := n0_; clear n0_; (try clear hb); (try clear hb2); (try clear hk); (try clear hi)) | ((with_reducible refine gate_callee (f := 48) rfl ?_); refine goesL_ (some 11) rfl rfl Try.func48 (by kernel_rfl) rfl #[.slice A0 l0.length c0, .slice none 0 0] rfl (by (try simp only [List.map_toArray, List.map_cons, List.map_nil]); first | done | rfl | (simp only [List.length_drop, List.length_take]; rfl)) ?_; (refine (spec_scAll.calls k _ _ l0 _ _ ([] : List Int) t325 _ ?side1 ?side2 ?side3 ?side4 A4.out).mono ?_); (case side1 => repeat (first | exact (Kd.C_below HR0.out HB.out) | (with_reducible refine Kd.C_alloc ?_ _) | (with_reducible refine Kd.C_drewN ?_ _) | (with_reducible refine Kd.C_drew ?_))); (case side2 => exact HC0.out); (case side3 => exact Kd.C_nil _ _); (case side4 => exact Nat.le_refl _); rintro e w6 ⟨v326, rfl, ho0, hb⟩; refine ⟨_, rfl, ?_⟩; have n0_ := Aside0.mk (Kd.N_lower (Kd.N_mono (ok' := fun k_ => (w.heap.size ≤ k_)) ho0 (fun k_ hk_ => (Nat.le_trans (below_size (by repeat (first | (with_reducible first | exact HB.out | apply below_alloc | apply pw_below_drewN | apply below_drew1) | exact HB.out))) hk_))) (below_size (by repeat (first | (with_reducible first | exact HB.out | apply below_alloc | apply pw_below_drewN | apply below_drew1) | exact HB.out)))); have n1_ := Aside0.mk (below_step (by repeat (first | (with_reducible first | exact HB.out | apply below_alloc | apply pw_below_drewN | apply below_drew1) | exact HB.out)) hb); clear HB; have HO327 := n0_; have HB := n1_; clear n0_ n1_; (try clear hb); (try clear hb2); (try clear hk); (try clear hi); (try clear ho0); obtain ⟨Ao7, co7, eo7⟩ := Kd.N_slice HO327.out; subst eo7))
    go_loopg [4, 13] k (fun kq v4 v13 w' => ∃ (x4_1 : List Int) (x13_1 : Int), v13 = .int .i64 x13_1 ∧ Aside0 (spec_MostStacked.l0 kq x4_1 t325 (t325.length : Int) x13_1 = some (r1, r2)) ∧ Aside0 (kq ≤ k) ∧ Aside0 (Kd.V (Kd.int .i64) 3 w' w.heap.size (fun k_ => (w.heap.size ≤ k_) ∧ some k_ ≠ ((.slice Ao7 t325.length co7) : Value).ownBlock) v4 x4_1) ∧ Aside0 (Kd.N (Kd.slice 3 (Kd.int .i64)) 41 w' w.heap.size (fun k_ => (w.heap.size ≤ k_)) (.slice Ao7 t325.length co7) t325) ∧ Aside0 (Below w.heap.size w w'))
    case atStart => exact ⟨(([] : List Int)), (0), (by first | rfl | (simp; done) | (simp [*]; done)), H', ⟨Nat.le_refl _⟩, ⟨(Kd.V_nil _ _ _ _ _)⟩, ⟨by (with_reducible repeat (first | apply Kd.N_alloc | apply Kd.N_drewN | apply Kd.N_drew)); exact HO327.out⟩, ⟨by repeat (first | (with_reducible first | exact HB.out | apply below_alloc | apply pw_below_drewN | apply below_drew1) | exact HB.out)⟩⟩
    case round =>
      clear H'
      try clear c2
      try clear p2
      try clear c3
      try clear c4
      obtain ⟨x4_1, x13_1, rfl, HA, HK1, HO_4, HO_11, HB⟩ := hrel
      cases gk with
      | zero => exact absurd HA.out (by simp [spec_MostStacked.l0])
      | succ k1 =>
        have H := HA.out
        clear HA
        simp only [spec_MostStacked.l0] at H
        by_cases c8 : x13_1 < (t325.length : Int)
        · rw [if_pos c8] at H
          have c8b0 : decide (x13_1 < (t325.length : Int)) = true := decide_eq_true c8
          clear c8
          by_cases c9 : 0 ≤ x13_1
          · rw [if_pos c9] at H
            have c9b0 : decide (0 ≤ x13_1) = true := decide_eq_true c9
            clear c9
            by_cases c10 : x13_1 < (t325.length : Int)
            · rw [if_pos c10] at H
              have c10b0 : decide (x13_1 < (t325.length : Int)) = true := decide_eq_true c10
              clear c10
              by_cases c11 : ((rd_L5 t325 x13_1).length : Int) > (x4_1.length : Int)
              · rw [if_pos c11] at H
                have c11b0 : decide ((x4_1.length : Int) < ((rd_L5 t325 x13_1).length : Int)) = true := decide_eq_true c11
                have c11b1 : decide (x4_1.length < (rd_L5 t325 x13_1).length) = true := decide_eq_true (Int.ofNat_lt.mp c11)
                clear c11
                have H' := Aside0.mk H
                clear H
                have p328 : 0 ≤ (x13_1 : Int) := of_decide_eq_true (by first | (with_reducible assumption) | assumption)
                have q328 : x13_1 < (t325.length : Int) := of_decide_eq_true (by first | (with_reducible assumption) | assumption)
                obtain ⟨ad328, A328_0, c328_0, e328, hx328_0, hl328_0, hi328_0⟩ := at_L5 (Kd.N_reads' HO_11.out).2.2 x13_1 p328 q328
                cases e328
                obtain ⟨ce328, hce328, hMe328, hcc328⟩ := Kd.N_get HO_11.out [] x13_1 p328 (by first | exact q328 | exact of_decide_eq_true (by first | (with_reducible assumption) | assumption) | (have e_ := (Kd.N_reads' HO_11.out).1; omega))
                obtain ⟨ua328_0, uc328_0, rfl, ul328_0, ge328_0⟩ := Kd.FK_slice_open hMe328
                have hv328_0 := hcc328 0 _ rfl
                rw [Nat.add_zero, show ((Kd.slice 3 (Kd.int .i64))).sz = 1 from rfl, Nat.mul_one] at hv328_0
                replace hv328_0 := Option.some.inj (hv328_0.symm.trans hx328_0)
                injection hv328_0 with hva_ hvn_ hvc_
                rw [hva_] at ge328_0
                rw [hvc_] at ul328_0
                have HL328_0 := Aside0.mk (show Kd.V (Kd.int .i64) 3 _ w.heap.size _ _ (rd_L5 t325 x13_1) from Kd.V_mk ul328_0 ge328_0)
                clear hva_ hvn_ hvc_ ge328_0 ul328_0
                clear hcc328 hce328
                have HR328_0 := Aside0.mk hi328_0
                have HC328_0 := Aside0.mk hl328_0
                clear hi328_0 hl328_0
                replace p328 := eq_true p328
                replace q328 := eq_true q328
                obtain ⟨Ao12, co12, eo12⟩ := Kd.V_slice HO_4.out
                subst eo12
                go_wp2
                go_roundg k1
                case measure => have := HK1.out; omega
                case rel => exact ⟨(rd_L5 t325 x13_1), (wrap64 (x13_1 + 1)), (by first | rfl | (simp; done) | (simp [*]; done)), H', ⟨by have := HK1.out; omega⟩, ⟨by (with_reducible repeat (first | apply Kd.V_alloc | apply Kd.V_drewN | apply Kd.V_drew)); exact HL328_0.out⟩, ⟨by (with_reducible repeat (first | apply Kd.N_alloc | apply Kd.N_drewN | apply Kd.N_drew)); exact HO_11.out⟩, ⟨by repeat (first | (with_reducible first | exact HB.out | apply below_alloc | apply pw_below_drewN | apply below_drew1) | exact HB.out)⟩⟩
              · rw [if_neg c11] at H
                have c11b0 : decide ((x4_1.length : Int) < ((rd_L5 t325 x13_1).length : Int)) = false := decide_eq_false c11
                have c11b1 : decide (x4_1.length < (rd_L5 t325 x13_1).length) = false := decide_eq_false (fun h => c11 (Int.ofNat_lt.mpr h))
                clear c11
                have H' := Aside0.mk H
                clear H
                have p328 : 0 ≤ (x13_1 : Int) := of_decide_eq_true (by first | (with_reducible assumption) | assumption)
                have q328 : x13_1 < (t325.length : Int) := of_decide_eq_true (by first | (with_reducible assumption) | assumption)
                obtain ⟨ad328, A328_0, c328_0, e328, hx328_0, hl328_0, hi328_0⟩ := at_L5 (Kd.N_reads' HO_11.out).2.2 x13_1 p328 q328
                cases e328
                obtain ⟨ce328, hce328, hMe328, hcc328⟩ := Kd.N_get HO_11.out [] x13_1 p328 (by first | exact q328 | exact of_decide_eq_true (by first | (with_reducible assumption) | assumption) | (have e_ := (Kd.N_reads' HO_11.out).1; omega))
                obtain ⟨ua328_0, uc328_0, rfl, ul328_0, ge328_0⟩ := Kd.FK_slice_open hMe328
                have hv328_0 := hcc328 0 _ rfl
                rw [Nat.add_zero, show ((Kd.slice 3 (Kd.int .i64))).sz = 1 from rfl, Nat.mul_one] at hv328_0
                replace hv328_0 := Option.some.inj (hv328_0.symm.trans hx328_0)
                injection hv328_0 with hva_ hvn_ hvc_
                rw [hva_] at ge328_0
                rw [hvc_] at ul328_0
                have HL328_0 := Aside0.mk (show Kd.V (Kd.int .i64) 3 _ w.heap.size _ _ (rd_L5 t325 x13_1) from Kd.V_mk ul328_0 ge328_0)
                clear hva_ hvn_ hvc_ ge328_0 ul328_0
                clear hcc328 hce328
                have HR328_0 := Aside0.mk hi328_0
                have HC328_0 := Aside0.mk hl328_0
                clear hi328_0 hl328_0
                replace p328 := eq_true p328
                replace q328 := eq_true q328
                obtain ⟨Ao13, co13, eo13⟩ := Kd.V_slice HO_4.out
                subst eo13
                go_wp2
                go_roundg k1
                case measure => have := HK1.out; omega
                case rel => exact ⟨(x4_1), (wrap64 (x13_1 + 1)), (by first | rfl | (simp; done) | (simp [*]; done)), H', ⟨by have := HK1.out; omega⟩, ⟨by (with_reducible repeat (first | apply Kd.V_alloc | apply Kd.V_drewN | apply Kd.V_drew)); exact HO_4.out⟩, ⟨by (with_reducible repeat (first | apply Kd.N_alloc | apply Kd.N_drewN | apply Kd.N_drew)); exact HO_11.out⟩, ⟨by repeat (first | (with_reducible first | exact HB.out | apply below_alloc | apply pw_below_drewN | apply below_drew1) | exact HB.out)⟩⟩
            · rw [if_neg c10] at H
              exact absurd H (by simp)
          · rw [if_neg c9] at H
            exact absurd H (by simp)
        · rw [if_neg c8] at H
          have c8b0 : decide (x13_1 < (t325.length : Int)) = false := decide_eq_false c8
          clear c8
          simp only [Option.some.injEq, Prod.mk.injEq] at H
          obtain ⟨rfl, rfl⟩ := H
          go_wp2
          go_ret2
          exact ⟨_, by first | rfl | (simp [errW_none, errW_some] <;> rfl) | (simp [*, errW_none, errW_some] <;> rfl), by (with_reducible repeat (first | apply Kd.V_alloc | apply Kd.V_drewN | apply Kd.V_drew)); exact Kd.V_mono HO_4.out (fun _ hk => hk.1), by repeat (first | (with_reducible first | exact HB.out | apply below_alloc | apply pw_below_drewN | apply below_drew1) | exact HB.out)⟩
  · replace c3 := Bool.eq_false_iff.mpr c3
    subst c3
    have H1 : (some (([] : List Int), false)) = some (r1, r2) := by rw [if_neg (show ¬ (false = true) by decide)] at H; exact H
    clear H
    have H := H1
    clear H1
    simp only [Option.some.injEq, Prod.mk.injEq] at H
    obtain ⟨rfl, rfl⟩ := H
    go_enter Try.func29, Try.ntmps29
    go_wp2_with (first | ((with_reducible refine gate_callee (f := 40) rfl ?_); refine goesL_ (some 8) rfl rfl Try.func40 (by kernel_rfl) rfl #[.slice A0 l0.length c0] rfl (by (try simp only [List.map_toArray, List.map_cons, List.map_nil]); first | done | rfl | (simp only [List.length_drop, List.length_take]; rfl)) ?_; (with_reducible refine (spec_scGood.calls k _ _ l0 false _ ?side1 ?side2 A2.out).mono ?_); (case side1 => repeat (first | exact HR0.out | (with_reducible refine Kd.C_alloc ?_ _) | (with_reducible refine Kd.C_drewN ?_ _) | (with_reducible refine Kd.C_drew ?_))); (case side2 => exact HC0.out); rintro e w14 ⟨rfl, hb⟩; refine ⟨_, rfl, ?_⟩; have n0_ := Aside0.mk (below_step (by repeat (first | (with_reducible first | exact HB.out | apply below_alloc | apply pw_below_drewN | apply below_drew1) | exact HB.out)) hb); clear HB; have HB := n0_; clear n0_; (try clear hb); (try clear hb2); (try clear hk); (try clear hi)))
    go_ret2
    exact ⟨_, by first | rfl | (simp [errW_none, errW_some] <;> rfl) | (simp [*, errW_none, errW_some] <;> rfl), (Kd.V_nil _ _ _ _ _), by repeat (first | (with_reducible first | exact HB.out | apply below_alloc | apply pw_below_drewN | apply below_drew1) | exact HB.out)⟩

end Go.Proofs.Ytbmefldckdaopaa.Q

namespace Go.Proofs.Ytbmefldckdaopaa.Q
open Go.RowKit Go.Proofs.YtbmefldckdaopaaW.PrintWords Go.Proofs.YtbmefldckdaopaaW.PrintLast Go.Proofs.YtbmefldckdaopaaW.PrintMore
attribute [local go_sem] max2_int min2_int max_two min_two max_three min_three max_four min_four   -- for this text's walks alone
set_option linter.unusedVariables false
set_option linter.unusedSimpArgs false

/-! ### spec_SafeOrder: function 34 -/
def spec_SafeOrder.f (k : Nat) (l0 : List (S49)) : Option (List Int × Bool) := (spec_scGood.f k l0).bind fun t364 => (if t364 = true then ((spec_scOrders.f k l0).bind fun t365 => (if (t365.length : Int) = 0 then (some (([] : List Int), false)) else (if 0 < (t365.length : Int) then (some (rd_L5 t365 0, true)) else (none)))) else (some (([] : List Int), false)))
theorem spec_SafeOrder.mono : ∀ a0 k, LeO (spec_SafeOrder.f k a0) (spec_SafeOrder.f (k + 1) a0) := by
  intro a0 k
  unfold spec_SafeOrder.f
  repeat' first
      | (with_reducible exact spec_scGood.mono _ _)
      | (with_reducible exact spec_scOrders.mono _ _)
      | (with_reducible exact LeO.refl _)
      | (with_reducible exact LeO.none _)
      | (with_reducible refine LeO.ite ?_ ?_)
      | (with_reducible refine LeO.bind ?_ (fun _ => ?_))
      | exact spec_scGood.mono _ _
      | exact spec_scOrders.mono _ _
      | exact LeO.none _
      | refine LeO.ite ?_ ?_
      | refine LeO.bind ?_ (fun _ => ?_)
set_option maxHeartbeats 8000000 in
set_option maxRecDepth 100000 in
theorem spec_SafeOrder.calls (k : Nat) (A0 : Option Addr) (c0 : Nat) (l0 : List (S49)) (r1 : List Int) (r2 : Bool) (w : World) (hr0 : Kd.C k49 w A0 l0.length l0) (hc0 : l0.length ≤ c0) (h : spec_SafeOrder.f k l0 = some (r1, r2)) :
    Calls Try.prog 34 #[.slice A0 l0.length c0] w fun e w' => ∃ v0_ : Value, e = .returned (.tuple #[v0_, .bool r2]) ∧ Kd.V (Kd.int .i64) 3 w' w.heap.size (fun k_ => (w.heap.size ≤ k_)) v0_ r1 ∧ Below w.heap.size w w' := by
  have HR0 := Aside0.mk hr0
  have HC0 := Aside0.mk hc0
  clear hr0 hc0
  have HB := Aside0.mk (Below.refl w.heap.size w)
  have H : ((spec_scGood.f k l0).bind fun t364 => (if t364 = true then ((spec_scOrders.f k l0).bind fun t365 => (if (t365.length : Int) = 0 then (some (([] : List Int), false)) else (if 0 < (t365.length : Int) then (some (rd_L5 t365 0, true)) else (none)))) else (some (([] : List Int), false)))) = some (r1, r2) := h
  clear h
  replace H := Option.bind_eq_some_iff.mp H
  obtain ⟨t364, A20, H⟩ := H
  replace H : (if t364 = true then ((spec_scOrders.f k l0).bind fun t365 => (if (t365.length : Int) = 0 then (some (([] : List Int), false)) else (if 0 < (t365.length : Int) then (some (rd_L5 t365 0, true)) else (none)))) else (some (([] : List Int), false))) = some (r1, r2) := H
  have A2 := Aside0.mk A20
  clear A20
  by_cases c3 : t364 = true
  · subst c3
    have H1 : ((spec_scOrders.f k l0).bind fun t365 => (if (t365.length : Int) = 0 then (some (([] : List Int), false)) else (if 0 < (t365.length : Int) then (some (rd_L5 t365 0, true)) else (none)))) = some (r1, r2) := by rw [if_pos rfl] at H; exact H
    clear H
    have H := H1
    clear H1
    replace H := Option.bind_eq_some_iff.mp H
    obtain ⟨t365, A40, H⟩ := H
    replace H : (if (t365.length : Int) = 0 then (some (([] : List Int), false)) else (if 0 < (t365.length : Int) then (some (rd_L5 t365 0, true)) else (none))) = some (r1, r2) := H
    have A4 := Aside0.mk A40
    clear A40
    by_cases c5 : (t365.length : Int) = 0
    · rw [if_pos c5] at H
      have c5b0 : ((t365.length : Int) == 0) = true := beq_iff_eq.mpr c5
      have c5b1 : ((t365.length : Int) != 0) = false := bne_eq_false_iff_eq.mpr c5
      clear c5
      simp only [Option.some.injEq, Prod.mk.injEq] at H
      obtain ⟨rfl, rfl⟩ := H
      go_enter Try.func34, Try.ntmps34
      go_wp2_with (first | ((with_reducible refine gate_callee (f := 40) rfl ?_); refine goesL_ (some 6) rfl rfl Try.func40 (by kernel_rfl) rfl #[.slice A0 l0.length c0] rfl (by (try simp only [List.map_toArray, List.map_cons, List.map_nil]); first | done | rfl | (simp only [List.length_drop, List.length_take]; rfl)) ?_; (with_reducible refine (spec_scGood.calls k _ _ l0 true _ ?side1 ?side2 A2.out).mono ?_); (case side1 => repeat (first | exact HR0.out | (with_reducible refine Kd.C_alloc ?_ _) | (with_reducible refine Kd.C_drewN ?_ _) | (with_reducible refine Kd.C_drew ?_))); (case side2 => exact HC0.out); rintro e w6 ⟨rfl, hb⟩; refine ⟨_, rfl, ?_⟩; have n0_ := Aside0.mk (below_step (by repeat (first | (with_reducible first | exact HB.out | apply below_alloc | apply pw_below_drewN | apply below_drew1) | exact HB.out)) hb); clear HB; have HB := n0_; clear n0_; (try clear hb); (try clear hb2); (try clear hk); (try clear hi)) | ((with_reducible refine gate_callee (f := 50) rfl ?_); refine goesL_ (some 9) rfl rfl Try.func50 (by kernel_rfl) rfl #[.slice A0 l0.length c0] rfl (by (try simp only [List.map_toArray, List.map_cons, List.map_nil]); first | done | rfl | (simp only [List.length_drop, List.length_take]; rfl)) ?_; (with_reducible refine (spec_scOrders.calls k _ _ l0 t365 _ ?side1 ?side2 A4.out).mono ?_); (case side1 => repeat (first | exact (Kd.C_below HR0.out HB.out) | (with_reducible refine Kd.C_alloc ?_ _) | (with_reducible refine Kd.C_drewN ?_ _) | (with_reducible refine Kd.C_drew ?_))); (case side2 => exact HC0.out); rintro e w7 ⟨v366, rfl, ho0, hb⟩; refine ⟨_, rfl, ?_⟩; have n0_ := Aside0.mk (Kd.N_lower (Kd.N_mono (ok' := fun k_ => (w.heap.size ≤ k_)) ho0 (fun k_ hk_ => (Nat.le_trans (below_size (by repeat (first | (with_reducible first | exact HB.out | apply below_alloc | apply pw_below_drewN | apply below_drew1) | exact HB.out))) hk_))) (below_size (by repeat (first | (with_reducible first | exact HB.out | apply below_alloc | apply pw_below_drewN | apply below_drew1) | exact HB.out)))); have n1_ := Aside0.mk (below_step (by repeat (first | (with_reducible first | exact HB.out | apply below_alloc | apply pw_below_drewN | apply below_drew1) | exact HB.out)) hb); clear HB; have HO367 := n0_; have HB := n1_; clear n0_ n1_; (try clear hb); (try clear hb2); (try clear hk); (try clear hi); (try clear ho0); obtain ⟨Ao8, co8, eo8⟩ := Kd.N_slice HO367.out; subst eo8))
      go_ret2
      exact ⟨_, by first | rfl | (simp [errW_none, errW_some] <;> rfl) | (simp [*, errW_none, errW_some] <;> rfl), (Kd.V_nil _ _ _ _ _), by repeat (first | (with_reducible first | exact HB.out | apply below_alloc | apply pw_below_drewN | apply below_drew1) | exact HB.out)⟩
    · rw [if_neg c5] at H
      have c5b0 : ((t365.length : Int) == 0) = false := beq_eq_false_iff_ne.mpr c5
      have c5b1 : ((t365.length : Int) != 0) = true := bne_iff_ne.mpr c5
      have c5b2 : ¬ (t365 = []) := fun h_ => c5 (by rw [h_]; rfl)
      by_cases c9 : 0 < (t365.length : Int)
      · rw [if_pos c9] at H
        have c9b0 : decide (0 < (t365.length : Int)) = true := decide_eq_true c9
        have c9b1 : decide (0 < t365.length) = true := decide_eq_true (by omega)
        clear c9
        simp only [Option.some.injEq, Prod.mk.injEq] at H
        obtain ⟨rfl, rfl⟩ := H
        go_enter Try.func34, Try.ntmps34
        go_wp2_with (first | ((with_reducible refine gate_callee (f := 40) rfl ?_); refine goesL_ (some 6) rfl rfl Try.func40 (by kernel_rfl) rfl #[.slice A0 l0.length c0] rfl (by (try simp only [List.map_toArray, List.map_cons, List.map_nil]); first | done | rfl | (simp only [List.length_drop, List.length_take]; rfl)) ?_; (with_reducible refine (spec_scGood.calls k _ _ l0 true _ ?side1 ?side2 A2.out).mono ?_); (case side1 => repeat (first | exact HR0.out | (with_reducible refine Kd.C_alloc ?_ _) | (with_reducible refine Kd.C_drewN ?_ _) | (with_reducible refine Kd.C_drew ?_))); (case side2 => exact HC0.out); rintro e w10 ⟨rfl, hb⟩; refine ⟨_, rfl, ?_⟩; have n0_ := Aside0.mk (below_step (by repeat (first | (with_reducible first | exact HB.out | apply below_alloc | apply pw_below_drewN | apply below_drew1) | exact HB.out)) hb); clear HB; have HB := n0_; clear n0_; (try clear hb); (try clear hb2); (try clear hk); (try clear hi)) | ((with_reducible refine gate_callee (f := 50) rfl ?_); refine goesL_ (some 9) rfl rfl Try.func50 (by kernel_rfl) rfl #[.slice A0 l0.length c0] rfl (by (try simp only [List.map_toArray, List.map_cons, List.map_nil]); first | done | rfl | (simp only [List.length_drop, List.length_take]; rfl)) ?_; (with_reducible refine (spec_scOrders.calls k _ _ l0 t365 _ ?side1 ?side2 A4.out).mono ?_); (case side1 => repeat (first | exact (Kd.C_below HR0.out HB.out) | (with_reducible refine Kd.C_alloc ?_ _) | (with_reducible refine Kd.C_drewN ?_ _) | (with_reducible refine Kd.C_drew ?_))); (case side2 => exact HC0.out); rintro e w11 ⟨v366, rfl, ho0, hb⟩; refine ⟨_, rfl, ?_⟩; have n0_ := Aside0.mk (Kd.N_lower (Kd.N_mono (ok' := fun k_ => (w.heap.size ≤ k_)) ho0 (fun k_ hk_ => (Nat.le_trans (below_size (by repeat (first | (with_reducible first | exact HB.out | apply below_alloc | apply pw_below_drewN | apply below_drew1) | exact HB.out))) hk_))) (below_size (by repeat (first | (with_reducible first | exact HB.out | apply below_alloc | apply pw_below_drewN | apply below_drew1) | exact HB.out)))); have n1_ := Aside0.mk (below_step (by repeat (first | (with_reducible first | exact HB.out | apply below_alloc | apply pw_below_drewN | apply below_drew1) | exact HB.out)) hb); clear HB; have HO367 := n0_; have HB := n1_; clear n0_ n1_; (try clear hb); (try clear hb2); (try clear hk); (try clear hi); (try clear ho0); obtain ⟨Ao12, co12, eo12⟩ := Kd.N_slice HO367.out; subst eo12; have p368 : 0 ≤ (0 : Int) := (by omega); have q368 : 0 < (t365.length : Int) := of_decide_eq_true (by first | (with_reducible assumption) | assumption); obtain ⟨ad368, A368_0, c368_0, e368, hx368_0, hl368_0, hi368_0⟩ := at_L5 (Kd.N_reads' HO367.out).2.2 0 p368 q368; cases e368; obtain ⟨ce368, hce368, hMe368, hcc368⟩ := Kd.N_get HO367.out [] 0 p368 (by first | exact q368 | exact of_decide_eq_true (by first | (with_reducible assumption) | assumption) | (have e_ := (Kd.N_reads' HO367.out).1; omega)); obtain ⟨ua368_0, uc368_0, rfl, ul368_0, ge368_0⟩ := Kd.FK_slice_open hMe368; have hv368_0 := hcc368 0 _ rfl; rw [Nat.add_zero, show ((Kd.slice 3 (Kd.int .i64))).sz = 1 from rfl, Nat.mul_one] at hv368_0; replace hv368_0 := Option.some.inj (hv368_0.symm.trans hx368_0); injection hv368_0 with hva_ hvn_ hvc_; rw [hva_] at ge368_0; rw [hvc_] at ul368_0; have HL368_0 := Aside0.mk (show Kd.V (Kd.int .i64) 3 _ w.heap.size _ _ (rd_L5 t365 0) from Kd.V_mk ul368_0 ge368_0); clear hva_ hvn_ hvc_ ge368_0 ul368_0; clear hcc368 hce368; have qi368 : (0 < t365.length) = True := eq_true (by omega); (try rw [show ((0 : Int)).toNat = 0 from rfl] at hx368_0); (try rw [Addr.add_zero'] at hx368_0); have HR368_0 := Aside0.mk hi368_0; have HC368_0 := Aside0.mk hl368_0; clear hi368_0 hl368_0; replace p368 := eq_true p368; replace q368 := eq_true q368))
        go_ret2
        exact ⟨_, by first | rfl | (simp [errW_none, errW_some] <;> rfl) | (simp [*, errW_none, errW_some] <;> rfl), by (with_reducible repeat (first | apply Kd.V_alloc | apply Kd.V_drewN | apply Kd.V_drew)); exact Kd.V_mono HL368_0.out (fun _ hk => hk.1), by repeat (first | (with_reducible first | exact HB.out | apply below_alloc | apply pw_below_drewN | apply below_drew1) | exact HB.out)⟩
      · rw [if_neg c9] at H
        exact absurd H (by simp)
  · replace c3 := Bool.eq_false_iff.mpr c3
    subst c3
    have H1 : (some (([] : List Int), false)) = some (r1, r2) := by rw [if_neg (show ¬ (false = true) by decide)] at H; exact H
    clear H
    have H := H1
    clear H1
    simp only [Option.some.injEq, Prod.mk.injEq] at H
    obtain ⟨rfl, rfl⟩ := H
    go_enter Try.func34, Try.ntmps34
    go_wp2_with (first | ((with_reducible refine gate_callee (f := 40) rfl ?_); refine goesL_ (some 6) rfl rfl Try.func40 (by kernel_rfl) rfl #[.slice A0 l0.length c0] rfl (by (try simp only [List.map_toArray, List.map_cons, List.map_nil]); first | done | rfl | (simp only [List.length_drop, List.length_take]; rfl)) ?_; (with_reducible refine (spec_scGood.calls k _ _ l0 false _ ?side1 ?side2 A2.out).mono ?_); (case side1 => repeat (first | exact HR0.out | (with_reducible refine Kd.C_alloc ?_ _) | (with_reducible refine Kd.C_drewN ?_ _) | (with_reducible refine Kd.C_drew ?_))); (case side2 => exact HC0.out); rintro e w13 ⟨rfl, hb⟩; refine ⟨_, rfl, ?_⟩; have n0_ := Aside0.mk (below_step (by repeat (first | (with_reducible first | exact HB.out | apply below_alloc | apply pw_below_drewN | apply below_drew1) | exact HB.out)) hb); clear HB; have HB := n0_; clear n0_; (try clear hb); (try clear hb2); (try clear hk); (try clear hi)))
    go_ret2
    exact ⟨_, by first | rfl | (simp [errW_none, errW_some] <;> rfl) | (simp [*, errW_none, errW_some] <;> rfl), (Kd.V_nil _ _ _ _ _), by repeat (first | (with_reducible first | exact HB.out | apply below_alloc | apply pw_below_drewN | apply below_drew1) | exact HB.out)⟩

end Go.Proofs.Ytbmefldckdaopaa.Q

namespace Go.Proofs.Ytbmefldckdaopaa.Q
open Go.RowKit Go.Proofs.YtbmefldckdaopaaW.PrintWords Go.Proofs.YtbmefldckdaopaaW.PrintLast Go.Proofs.YtbmefldckdaopaaW.PrintMore
attribute [local go_sem] max2_int min2_int max_two min_two max_three min_three max_four min_four   -- for this text's walks alone
set_option linter.unusedVariables false
set_option linter.unusedSimpArgs false

/-! ### impl_SafeOrder: function 35 -/
def impl_SafeOrder.f (l0 : List (S49)) : Option (List Int × Bool) := (impl_MostStacked.f l0).bind fun bt369 => (if bt369.2 = true then (if (bt369.1.length : Int) < (l0.length : Int) then (some (([] : List Int), false)) else (some (bt369.1, true))) else (some (([] : List Int), false)))
set_option maxHeartbeats 8000000 in
set_option maxRecDepth 100000 in
theorem impl_SafeOrder.calls (A0 : Option Addr) (c0 : Nat) (l0 : List (S49)) (r1 : List Int) (r2 : Bool) (w : World) (hr0 : Kd.C k49 w A0 l0.length l0) (hc0 : l0.length ≤ c0) (h : impl_SafeOrder.f l0 = some (r1, r2)) :
    Calls Try.prog 35 #[.slice A0 l0.length c0] w fun e w' => ∃ v0_ : Value, e = .returned (.tuple #[v0_, .bool r2]) ∧ Kd.R (Kd.int .i64) 3 w' w.heap.size (fun _ => True) v0_ r1 ∧ Below w.heap.size w w' := by
  have HR0 := Aside0.mk hr0
  have HC0 := Aside0.mk hc0
  clear hr0 hc0
  have HB := Aside0.mk (Below.refl w.heap.size w)
  have H : ((impl_MostStacked.f l0).bind fun bt369 => (if bt369.2 = true then (if (bt369.1.length : Int) < (l0.length : Int) then (some (([] : List Int), false)) else (some (bt369.1, true))) else (some (([] : List Int), false)))) = some (r1, r2) := h
  clear h
  replace H := Option.bind_eq_some_iff.mp H
  obtain ⟨⟨t369, t370⟩, A20, H⟩ := H
  replace H : (if t370 = true then (if (t369.length : Int) < (l0.length : Int) then (some (([] : List Int), false)) else (some (t369, true))) else (some (([] : List Int), false))) = some (r1, r2) := H
  have A2 := Aside0.mk A20
  clear A20
  by_cases c3 : t370 = true
  · subst c3
    have H1 : (if (t369.length : Int) < (l0.length : Int) then (some (([] : List Int), false)) else (some (t369, true))) = some (r1, r2) := by rw [if_pos rfl] at H; exact H
    clear H
    have H := H1
    clear H1
    by_cases c4 : (t369.length : Int) < (l0.length : Int)
    · rw [if_pos c4] at H
      have c4b0 : decide ((t369.length : Int) < (l0.length : Int)) = true := decide_eq_true c4
      have c4b1 : decide (t369.length < l0.length) = true := decide_eq_true (Int.ofNat_lt.mp c4)
      clear c4
      simp only [Option.some.injEq, Prod.mk.injEq] at H
      obtain ⟨rfl, rfl⟩ := H
      go_enter Try.func35, Try.ntmps35
      go_wp2_with (first | ((with_reducible refine gate_callee (f := 30) rfl ?_); refine goesL_ (some 8) rfl rfl Try.func30 (by kernel_rfl) rfl #[.slice A0 l0.length c0] rfl (by (try simp only [List.map_toArray, List.map_cons, List.map_nil]); first | done | rfl | (simp only [List.length_drop, List.length_take]; rfl)) ?_; (with_reducible refine (impl_MostStacked.calls _ _ l0 t369 true _ ?side1 ?side2 A2.out).mono ?_); (case side1 => repeat (first | exact HR0.out | (with_reducible refine Kd.C_alloc ?_ _) | (with_reducible refine Kd.C_drewN ?_ _) | (with_reducible refine Kd.C_drew ?_))); (case side2 => exact HC0.out); rintro e w5 ⟨v371, rfl, ho0, hb⟩; refine ⟨_, rfl, ?_⟩; have n0_ := Aside0.mk (Kd.R_lower ho0 (below_size (by repeat (first | (with_reducible first | exact HB.out | apply below_alloc | apply pw_below_drewN | apply below_drew1) | exact HB.out)))); have n1_ := Aside0.mk (below_step (by repeat (first | (with_reducible first | exact HB.out | apply below_alloc | apply pw_below_drewN | apply below_drew1) | exact HB.out)) hb); clear HB; have HO372 := n0_; have HB := n1_; clear n0_ n1_; (try clear hb); (try clear hb2); (try clear hk); (try clear hi); (try clear ho0); obtain ⟨Ao6, co6, eo6⟩ := Kd.R_slice HO372.out; subst eo6))
      go_ret2
      exact ⟨_, by first | rfl | (simp [errW_none, errW_some] <;> rfl) | (simp [*, errW_none, errW_some] <;> rfl), by first | exact Kd.R_nil _ _ _ _ _ | exact Kd.N_nil _ _ _ _ _ | exact Kd.V_nil _ _ _ _ _ | exact Kd.Q_nil _ _ _ _ _ | exact Kd.S_nil _ _ _ _ _, by repeat (first | (with_reducible first | exact HB.out | apply below_alloc | apply pw_below_drewN | apply below_drew1) | exact HB.out)⟩
    · rw [if_neg c4] at H
      have c4b0 : decide ((t369.length : Int) < (l0.length : Int)) = false := decide_eq_false c4
      have c4b1 : decide (t369.length < l0.length) = false := decide_eq_false (fun h => c4 (Int.ofNat_lt.mpr h))
      clear c4
      simp only [Option.some.injEq, Prod.mk.injEq] at H
      obtain ⟨rfl, rfl⟩ := H
      go_enter Try.func35, Try.ntmps35
      go_wp2_with (first | ((with_reducible refine gate_callee (f := 30) rfl ?_); refine goesL_ (some 8) rfl rfl Try.func30 (by kernel_rfl) rfl #[.slice A0 l0.length c0] rfl (by (try simp only [List.map_toArray, List.map_cons, List.map_nil]); first | done | rfl | (simp only [List.length_drop, List.length_take]; rfl)) ?_; (with_reducible refine (impl_MostStacked.calls _ _ l0 t369 true _ ?side1 ?side2 A2.out).mono ?_); (case side1 => repeat (first | exact HR0.out | (with_reducible refine Kd.C_alloc ?_ _) | (with_reducible refine Kd.C_drewN ?_ _) | (with_reducible refine Kd.C_drew ?_))); (case side2 => exact HC0.out); rintro e w7 ⟨v371, rfl, ho0, hb⟩; refine ⟨_, rfl, ?_⟩; have n0_ := Aside0.mk (Kd.R_lower ho0 (below_size (by repeat (first | (with_reducible first | exact HB.out | apply below_alloc | apply pw_below_drewN | apply below_drew1) | exact HB.out)))); have n1_ := Aside0.mk (below_step (by repeat (first | (with_reducible first | exact HB.out | apply below_alloc | apply pw_below_drewN | apply below_drew1) | exact HB.out)) hb); clear HB; have HO372 := n0_; have HB := n1_; clear n0_ n1_; (try clear hb); (try clear hb2); (try clear hk); (try clear hi); (try clear ho0); obtain ⟨Ao8, co8, eo8⟩ := Kd.R_slice HO372.out; subst eo8))
      go_ret2
      exact ⟨_, by first | rfl | (simp [errW_none, errW_some] <;> rfl) | (simp [*, errW_none, errW_some] <;> rfl), by (with_reducible repeat (first | apply Kd.R_alloc | apply Kd.R_drewN | apply Kd.R_drew)); exact HO372.out, by repeat (first | (with_reducible first | exact HB.out | apply below_alloc | apply pw_below_drewN | apply below_drew1) | exact HB.out)⟩
  · replace c3 := Bool.eq_false_iff.mpr c3
    subst c3
    have H1 : (some (([] : List Int), false)) = some (r1, r2) := by rw [if_neg (show ¬ (false = true) by decide)] at H; exact H
    clear H
    have H := H1
    clear H1
    simp only [Option.some.injEq, Prod.mk.injEq] at H
    obtain ⟨rfl, rfl⟩ := H
    go_enter Try.func35, Try.ntmps35
    go_wp2_with (first | ((with_reducible refine gate_callee (f := 30) rfl ?_); refine goesL_ (some 8) rfl rfl Try.func30 (by kernel_rfl) rfl #[.slice A0 l0.length c0] rfl (by (try simp only [List.map_toArray, List.map_cons, List.map_nil]); first | done | rfl | (simp only [List.length_drop, List.length_take]; rfl)) ?_; (with_reducible refine (impl_MostStacked.calls _ _ l0 t369 false _ ?side1 ?side2 A2.out).mono ?_); (case side1 => repeat (first | exact HR0.out | (with_reducible refine Kd.C_alloc ?_ _) | (with_reducible refine Kd.C_drewN ?_ _) | (with_reducible refine Kd.C_drew ?_))); (case side2 => exact HC0.out); rintro e w9 ⟨v371, rfl, ho0, hb⟩; refine ⟨_, rfl, ?_⟩; have n0_ := Aside0.mk (Kd.R_lower ho0 (below_size (by repeat (first | (with_reducible first | exact HB.out | apply below_alloc | apply pw_below_drewN | apply below_drew1) | exact HB.out)))); have n1_ := Aside0.mk (below_step (by repeat (first | (with_reducible first | exact HB.out | apply below_alloc | apply pw_below_drewN | apply below_drew1) | exact HB.out)) hb); clear HB; have HO372 := n0_; have HB := n1_; clear n0_ n1_; (try clear hb); (try clear hb2); (try clear hk); (try clear hi); (try clear ho0)))
    go_ret2
    exact ⟨_, by first | rfl | (simp [errW_none, errW_some] <;> rfl) | (simp [*, errW_none, errW_some] <;> rfl), by first | exact Kd.R_nil _ _ _ _ _ | exact Kd.N_nil _ _ _ _ _ | exact Kd.V_nil _ _ _ _ _ | exact Kd.Q_nil _ _ _ _ _ | exact Kd.S_nil _ _ _ _ _, by repeat (first | (with_reducible first | exact HB.out | apply below_alloc | apply pw_below_drewN | apply below_drew1) | exact HB.out)⟩

end Go.Proofs.Ytbmefldckdaopaa.Q

namespace Go.Proofs.Ytbmefldckdaopaa.Q
open Go.RowKit Go.Proofs.YtbmefldckdaopaaW.PrintWords Go.Proofs.YtbmefldckdaopaaW.PrintLast Go.Proofs.YtbmefldckdaopaaW.PrintMore
set_option linter.unusedVariables false
set_option linter.unusedSimpArgs false

theorem allS_cons (list : List Thing) : allS list = [] :: restV list list.length [] 0 := treeV_eq _ _ _
theorem allS_length {list : List Thing} (h : list.length ≤ 7) : (allS list).length ≤ 16777216 :=
  Nat.le_trans (treeV_length list (list.length + 1) []) (Nat.le_trans (Nat.le_trans (Nat.pow_le_pow_left (show list.length + 1 ≤ 8 by omega) _) (Nat.pow_le_pow_right (by decide) (show list.length + 1 ≤ 8 by omega))) (by decide))
theorem treeV_inside (list : List Thing) : ∀ d st, Inside list st → st.length + freeV list st ≤ list.length → ∀ x ∈ treeV list d st, Inside list x ∧ x.length ≤ list.length := by
  intro d
  induction d with
  | zero =>
    intro st h hl x hx
    rw [List.mem_singleton.1 hx]
    exact ⟨h, by omega⟩
  | succ d ih =>
    intro st h hl x hx
    rw [treeV_eq] at hx
    rcases List.mem_cons.1 hx with rfl | hx
    · exact ⟨h, by omega⟩
    · unfold restV at hx
      obtain ⟨i, hi, hx⟩ := List.mem_flatMap.1 hx
      have hi2 : i < list.length := by have := List.mem_range'_1.1 hi; omega
      split at hx
      · rename_i hm
        have hf := may_free list st i hi2 hm
        refine ih (st ++ [(i : Int)]) (fun y hy => ?_) (by simp; omega) x hx
        rcases List.mem_append.1 hy with hy | hy
        · exact h y hy
        · have := List.mem_singleton.1 hy; omega
      · cases hx
theorem allS_inside (list : List Thing) : ∀ x ∈ allS list, Inside list x ∧ x.length ≤ list.length := treeV_inside list _ [] (fun x hx => by cases hx) (by rw [free_nil]; simp)

/-- How many have that length. -/
def cnt (L : List (List Int)) (many : Int) : Int := ((L.filter (fun st : List Int => (st.length : Int) == many)).length : Int)
theorem cnt_le (L : List (List Int)) (many : Int) : 0 ≤ cnt L many ∧ cnt L many ≤ (L.length : Int) := by
  unfold cnt
  have := List.length_filter_le (fun st : List Int => (st.length : Int) == many) L
  omega
theorem cnt_cons (st : List Int) (L : List (List Int)) (many : Int) : cnt (st :: L) many = bitI ((st.length : Int) == many) + cnt L many := by
  unfold cnt bitI
  rw [List.filter_cons]
  split
  · simp only [List.length_cons]; omega
  · omega
theorem count_fold (many : Int) : ∀ (L : List (List Int)) (c : Int), 0 ≤ c → c + (L.length : Int) ≤ 1000000000 → L.foldl (countStep many) c = c + cnt L many := by
  intro L
  induction L with
  | nil => intro c _ _; simp [cnt]
  | cons st L ih =>
    intro c h0 hl
    simp only [List.length_cons] at hl
    have hb : 0 ≤ bitI ((st.length : Int) == many) ∧ bitI ((st.length : Int) == many) ≤ 1 := by unfold bitI; split <;> omega
    rw [List.foldl_cons, cnt_cons, show countStep many c st = c + bitI ((st.length : Int) == many) from w64 (by omega) (by omega), ih _ (by omega) (by omega)]
    omega
theorem countAll_eq {list : List Thing} (h : list.length ≤ 7) (many : Int) : countAll list many = cnt (allS list) many := by
  have := allS_length h
  unfold countAll
  rw [count_fold many _ 0 (by omega) (by omega)]
  omega
theorem countSafe_l0 (L : List (List Int)) (many : Int) (hn : L.length ≤ 1000000000) : ∀ d k i c, i + d = L.length → d < k → 0 ≤ c → c ≤ (i : Int) →
    spec_CountSafe.l0 k many c L (L.length : Int) (i : Int) = some (c + cnt (L.drop i) many, true) := by
  intro d
  induction d with
  | zero =>
    intro k i c hi hk h0 hc
    obtain ⟨k, rfl⟩ : ∃ m, k = m + 1 := ⟨k - 1, by omega⟩
    simp only [spec_CountSafe.l0]; rw [if_neg (by omega), List.drop_of_length_le (by omega)]; simp [cnt]
  | succ d ih =>
    intro k i c hi hk h0 hc
    obtain ⟨k, rfl⟩ : ∃ m, k = m + 1 := ⟨k - 1, by omega⟩
    have hlt : i < L.length := by omega
    have hrd : rd_L5 L (i : Int) = L[i] := by simp [rd_L5, List.getD_eq_getElem?_getD, hlt]
    simp only [spec_CountSafe.l0]
    rw [if_pos (by omega), if_pos (by omega), if_pos (by omega), hrd, w64 (i := (i : Int) + 1) (by omega) (by omega), w64 (i := c + 1) (by omega) (by omega), List.drop_eq_getElem_cons hlt, cnt_cons, show (i : Int) + 1 = ((i + 1 : Nat) : Int) by omega]
    by_cases h : (L[i].length : Int) = many
    · rw [if_pos h, ih k (i + 1) (c + 1) (by omega) (by omega) (by omega) (by omega), beq_iff_eq.mpr h]
      simp only [bitI, if_true, Option.some.injEq, Prod.mk.injEq, and_true]
      omega
    · rw [if_neg h, ih k (i + 1) c (by omega) (by omega) (by omega) (by omega), beq_eq_false_iff_ne.mpr h]
      simp only [bitI, Bool.false_eq_true, if_false, Option.some.injEq, Prod.mk.injEq, and_true]
      omega
theorem orders_l0 (list : List Thing) (L : List (List Int)) (hn : L.length ≤ 1000000000) : ∀ d k i out, i + d = L.length → d < k → out.length ≤ i →
    spec_scOrders.l0 k list out L (L.length : Int) (i : Int) = some (out ++ (L.drop i).filter (fun st : List Int => (st.length : Int) == (list.length : Int))) := by
  intro d
  induction d with
  | zero =>
    intro k i out hi hk ho
    obtain ⟨k, rfl⟩ : ∃ m, k = m + 1 := ⟨k - 1, by omega⟩
    simp only [spec_scOrders.l0]; rw [if_neg (by omega), List.drop_of_length_le (by omega)]; simp
  | succ d ih =>
    intro k i out hi hk ho
    obtain ⟨k, rfl⟩ : ∃ m, k = m + 1 := ⟨k - 1, by omega⟩
    have hlt : i < L.length := by omega
    have hrd : rd_L5 L (i : Int) = L[i] := by simp [rd_L5, List.getD_eq_getElem?_getD, hlt]
    simp only [spec_scOrders.l0]
    rw [if_pos (by omega), if_pos (by omega), if_pos (by omega), hrd, w64 (i := (i : Int) + 1) (by omega) (by omega), List.drop_eq_getElem_cons hlt, List.filter_cons, show (i : Int) + 1 = ((i + 1 : Nat) : Int) by omega]
    by_cases h : (L[i].length : Int) = (list.length : Int)
    · rw [if_pos h, if_pos (by omega), ih k (i + 1) _ (by omega) (by omega) (by simp; omega), if_pos (beq_iff_eq.mpr h), List.append_assoc]
      rfl
    · rw [if_neg h, ih k (i + 1) out (by omega) (by omega) (by omega), if_neg (by rw [beq_eq_false_iff_ne.mpr h]; decide)]
/-- All safe orders. -/
def ordersL (list : List Thing) : List (List Int) := (allS list).filter (fun st : List Int => (st.length : Int) == (list.length : Int))
theorem scOrders_eq {list : List Thing} (hS : Sound list) (k : Nat) (hk : 100000000 ≤ k) : spec_scOrders.f k list = some (ordersL list) := by
  have hl := allS_length hS.1
  unfold spec_scOrders.f
  rw [scAll_all hS k (by omega)]
  have := orders_l0 list (allS list) (by omega) (allS list).length k 0 [] (by omega) (by omega) (by simp)
  simpa [ordersL] using this

theorem good_cases (list : List Thing) (hm : list.length ≤ 10000000) : ∃ t : Bool, impl_AreStackable.f list = some t ∧ (∀ k, list.length < k → spec_scGood.f k list = some t) ∧ (t = true → Sound list) := by
  obtain ⟨t, ht⟩ : ∃ t, impl_AreStackable.f list = some t := ⟨_, rfl⟩
  exact ⟨t, ht, fun k hk => (scGood_eq list (by omega) k hk).trans ht, fun h => sound_of (h ▸ ht)⟩

theorem within_eq (a lo hi : Int) : impl_within.f a lo hi = some (decide (lo ≤ a) && decide (a ≤ hi)) := by
  unfold impl_within.f
  by_cases h : lo ≤ a
  · rw [if_pos h]; simp [h]
  · rw [if_neg h]; simp [h]
theorem countSafe_both (list : List Thing) (many : Int) (hm : list.length ≤ 10000000) : ∃ r : Int × Bool, Ev (fun k => spec_CountSafe.f k list many) r ∧ Ev (fun _ => impl_CountSafe.f list many) r := by
  obtain ⟨t, h1, h2, h3⟩ := good_cases list hm
  unfold spec_CountSafe.f impl_CountSafe.f
  cases t with
  | false =>
    refine ⟨(0, false), Ev_from (list.length + 1) fun k hk => ?_, Ev_from 0 fun k _ => by rw [h1]; rfl⟩
    obtain ⟨k, rfl⟩ : ∃ m, k = m + 1 := ⟨k - 1, by omega⟩
    rw [h2 _ (by omega)]; simp [spec_CountSafe.j0]
  | true =>
    have hS := h3 rfl
    have hl := allS_length hS.1
    cases hin : (decide (0 ≤ many) && decide (many ≤ (list.length : Int))) with
    | false =>
      refine ⟨(0, false), Ev_from (list.length + 1) fun k hk => ?_, Ev_from 0 fun k _ => ?_⟩
      · obtain ⟨k, rfl⟩ : ∃ m, k = m + 1 := ⟨k - 1, by omega⟩
        rw [h2 _ (by omega)]; simp only [Option.bind_some, if_true]; rw [inThing, hin]; simp [spec_CountSafe.j0]
      · rw [h1]; simp only [Option.bind_some, if_true]; rw [within_eq, hin]; rfl
    | true =>
      refine ⟨(cnt (allS list) many, true), Ev_from 100000000 fun k hk => ?_, Ev_from 0 fun k _ => ?_⟩
      · obtain ⟨k, rfl⟩ : ∃ m, k = m + 1 := ⟨k - 1, by omega⟩
        rw [h2 _ (by have := hS.1; omega)]; simp only [Option.bind_some, if_true]; rw [inThing, hin]
        simp only [Option.bind_some, Bool.not_true, spec_CountSafe.j0]
        rw [if_neg (by decide), scAll_all hS k (by omega)]
        have := countSafe_l0 (allS list) many (by omega) (allS list).length k 0 0 (by omega) (by omega) (by omega) (by omega)
        simpa using this
      · rw [h1]; simp only [Option.bind_some, if_true]; rw [within_eq, hin]; simp only [Option.bind_some, if_true]
        unfold impl_countSafe.f
        rw [if_pos (by have := hS.1; omega), countAll_eq hS.1]
        rfl
theorem canStackAll_both (list : List Thing) (hm : list.length ≤ 10000000) : ∃ r : Bool × Bool, Ev (fun k => spec_CanStackAll.f k list) r ∧ Ev (fun _ => impl_CanStackAll.f list) r := by
  obtain ⟨t, h1, h2, h3⟩ := good_cases list hm
  unfold spec_CanStackAll.f impl_CanStackAll.f
  cases t with
  | false => exact ⟨(false, false), Ev_from list.length fun k hk => by rw [h2 k hk]; rfl, Ev_from 0 fun k _ => by rw [h1]; rfl⟩
  | true =>
    have hS := h3 rfl
    refine ⟨(decide (((ordersL list).length : Int) > 0), true), Ev_from 100000000 fun k hk => ?_, Ev_from 0 fun k _ => ?_⟩
    · rw [h2 k (by have := hS.1; omega)]; simp only [Option.bind_some, if_true]; rw [scOrders_eq hS k (by omega)]; rfl
    · rw [h1]; simp only [Option.bind_some, if_true]
      unfold impl_countSafe.f
      rw [if_pos (by have := hS.1; omega), countAll_eq hS.1]
      rfl
theorem countSafeOrders_both (list : List Thing) (hm : list.length ≤ 10000000) : ∃ r : Int × Bool, Ev (fun k => spec_CountSafeOrders.f k list) r ∧ Ev (fun _ => impl_CountSafeOrders.f list) r := by
  obtain ⟨t, h1, h2, h3⟩ := good_cases list hm
  unfold spec_CountSafeOrders.f impl_CountSafeOrders.f impl_CountSafe.f
  cases t with
  | false => exact ⟨(0, false), Ev_from list.length fun k hk => by rw [h2 k hk]; rfl, Ev_from 0 fun k _ => by rw [h1]; rfl⟩
  | true =>
    have hS := h3 rfl
    refine ⟨(((ordersL list).length : Int), true), Ev_from 100000000 fun k hk => ?_, Ev_from 0 fun k _ => ?_⟩
    · rw [h2 k (by have := hS.1; omega)]; simp only [Option.bind_some, if_true]; rw [scOrders_eq hS k (by omega)]; rfl
    · rw [h1]; simp only [Option.bind_some, if_true]
      rw [within_eq]
      simp only [Option.bind_some]
      rw [if_pos (by simp)]
      unfold impl_countSafe.f
      rw [if_pos (by have := hS.1; omega), countAll_eq hS.1]
      rfl

/-! the longest and the highest -/
def longer (b st : List Int) : List Int := if b.length < st.length then st else b
theorem len_fold : ∀ (L : List (List Int)) (b : List Int), L.foldl (bestStepS (fun st => (st.length : Int))) (b, (b.length : Int)) = (L.foldl longer b, ((L.foldl longer b).length : Int)) := by
  intro L
  induction L with
  | nil => intro b; rfl
  | cons st L ih =>
    intro b
    rw [List.foldl_cons, List.foldl_cons]
    unfold bestStepS longer
    by_cases h : b.length < st.length
    · rw [if_pos (by simp only; omega), if_pos h]; exact ih st
    · rw [if_neg (by simp only; omega), if_neg h]; exact ih b
theorem bestLen_eq (list : List Thing) : (bestAllS list (fun st => (st.length : Int))).1 = (allS list).foldl longer [] := by
  unfold bestAllS
  rw [allS_cons, List.foldl_cons, List.foldl_cons, show bestStepS (fun st : List Int => (st.length : Int)) ([], -1) [] = ([], (([] : List Int).length : Int)) by simp [bestStepS], len_fold]
  rfl
theorem most_l0 (L : List (List Int)) (hn : L.length ≤ 1000000000) : ∀ d k i b, i + d = L.length → d < k → spec_MostStacked.l0 k b L (L.length : Int) (i : Int) = some ((L.drop i).foldl longer b, true) := by
  intro d
  induction d with
  | zero =>
    intro k i b hi hk
    obtain ⟨k, rfl⟩ : ∃ m, k = m + 1 := ⟨k - 1, by omega⟩
    simp only [spec_MostStacked.l0]; rw [if_neg (by omega), List.drop_of_length_le (by omega)]; rfl
  | succ d ih =>
    intro k i b hi hk
    obtain ⟨k, rfl⟩ : ∃ m, k = m + 1 := ⟨k - 1, by omega⟩
    have hlt : i < L.length := by omega
    have hrd : rd_L5 L (i : Int) = L[i] := by simp [rd_L5, List.getD_eq_getElem?_getD, hlt]
    simp only [spec_MostStacked.l0]
    rw [if_pos (by omega), if_pos (by omega), if_pos (by omega), hrd, w64 (i := (i : Int) + 1) (by omega) (by omega), List.drop_eq_getElem_cons hlt, List.foldl_cons, show (i : Int) + 1 = ((i + 1 : Nat) : Int) by omega]
    unfold longer
    by_cases h : b.length < L[i].length
    · rw [if_pos (by omega), if_pos h]; exact ih k (i + 1) L[i] (by omega) (by omega)
    · rw [if_neg (by omega), if_neg h]; exact ih k (i + 1) b (by omega) (by omega)
theorem longer_len : ∀ (L : List (List Int)) (b : List Int) (n : Nat), b.length ≤ n → (∀ st ∈ L, st.length ≤ n) → (L.foldl longer b).length ≤ n := by
  intro L
  induction L with
  | nil => intro b n h _; exact h
  | cons st L ih =>
    intro b n h hL
    rw [List.foldl_cons]
    refine ih _ n ?_ (fun x hx => hL x (List.mem_cons_of_mem _ hx))
    unfold longer
    split
    · exact hL st List.mem_cons_self
    · exact h
theorem mostStacked_both (list : List Thing) (hm : list.length ≤ 10000000) : ∃ r : List Int × Bool, Ev (fun k => spec_MostStacked.f k list) r ∧ Ev (fun _ => impl_MostStacked.f list) r ∧ r.1.length ≤ 10000000 := by
  obtain ⟨t, h1, h2, h3⟩ := good_cases list hm
  unfold spec_MostStacked.f impl_MostStacked.f
  cases t with
  | false => exact ⟨([], false), Ev_from list.length fun k hk => by rw [h2 k hk]; rfl, Ev_from 0 fun k _ => by rw [h1]; rfl, by simp⟩
  | true =>
    have hS := h3 rfl
    have hl := allS_length hS.1
    refine ⟨((allS list).foldl longer [], true), Ev_from 100000000 fun k hk => ?_, Ev_from 0 fun k _ => ?_, ?_⟩
    · rw [h2 k (by have := hS.1; omega)]; simp only [Option.bind_some, if_true]; rw [scAll_all hS k (by omega)]
      have := most_l0 (allS list) (by omega) (allS list).length k 0 [] (by omega) (by omega)
      simpa using this
    · rw [h1]; simp only [Option.bind_some, if_true]; rw [if_pos (by have := hS.1; omega), bestLen_eq]
    · have := longer_len (allS list) [] 7 (by simp) (fun st hst => by have := (allS_inside list st hst).2; have := hS.1; omega)
      simp only; omega
theorem first_full (n : Nat) : ∀ (L : List (List Int)) (b : List Int), b.length ≤ n → (∀ st ∈ L, st.length ≤ n) → (b.length = n → L.foldl longer b = b) ∧
    (b.length < n → (L.filter (fun st : List Int => (st.length : Int) == (n : Int)) = [] → (L.foldl longer b).length < n) ∧ ∀ x xs, L.filter (fun st : List Int => (st.length : Int) == (n : Int)) = x :: xs → L.foldl longer b = x) := by
  intro L
  induction L with
  | nil => intro b _ _; exact ⟨fun _ => rfl, fun h => ⟨fun _ => h, fun x xs e => by cases e⟩⟩
  | cons st L ih =>
    intro b hb hL
    have hst := hL st List.mem_cons_self
    have hL' := fun x hx => hL x (List.mem_cons_of_mem st hx)
    rw [List.foldl_cons, List.filter_cons]
    refine ⟨fun h => ?_, fun h => ?_⟩
    · rw [show longer b st = b by unfold longer; rw [if_neg (by omega)]]
      exact (ih b hb hL').1 h
    · by_cases he : st.length = n
      · rw [if_pos (beq_iff_eq.mpr (by omega)), show longer b st = st by unfold longer; rw [if_pos (by omega)], (ih st hst hL').1 he]
        exact ⟨fun e => (by cases e), fun x xs e => (by injection e)⟩
      · rw [if_neg (by rw [beq_eq_false_iff_ne.mpr (by omega)]; decide)]
        have hlt : (longer b st).length < n := by unfold longer; split <;> omega
        exact (ih (longer b st) (by omega) hL').2 hlt
theorem safeOrder_both (list : List Thing) (hm : list.length ≤ 10000000) : ∃ r : List Int × Bool, Ev (fun k => spec_SafeOrder.f k list) r ∧ Ev (fun _ => impl_SafeOrder.f list) r ∧ r.1.length ≤ 10000000 := by
  obtain ⟨t, h1, h2, h3⟩ := good_cases list hm
  unfold spec_SafeOrder.f impl_SafeOrder.f impl_MostStacked.f
  cases t with
  | false => exact ⟨([], false), Ev_from list.length fun k hk => by rw [h2 k hk]; rfl, Ev_from 0 fun k _ => by rw [h1]; rfl, by simp⟩
  | true =>
    have hS := h3 rfl
    have h1len : 1 ≤ list.length := by
      unfold impl_AreStackable.f at h1
      injection h1 with h1
      simp only [Bool.and_eq_true, decide_eq_true_eq] at h1
      exact h1.1.1
    have hin := fun st hst => (allS_inside list st hst).2
    have hff := (first_full list.length (allS list) [] (by simp) hin).2 (by simp only [List.length_nil]; omega)
    have h7 := hS.1
    cases ho : ordersL list with
    | nil =>
      refine ⟨([], false), Ev_from 100000000 fun k hk => ?_, Ev_from 0 fun k _ => ?_, by simp⟩
      · rw [h2 k (by omega)]; simp only [Option.bind_some, if_true]; rw [scOrders_eq hS k (by omega), ho]; rfl
      · have := hff.1 ho
        rw [h1]; simp only [Option.bind_some, if_true]; rw [if_pos (by omega), bestLen_eq]
        simp only [Option.bind_some, if_true]
        rw [if_pos (by omega)]
    | cons x xs =>
      have hx := hff.2 x xs ho
      have hxl : x.length = list.length := by
        have hmem : x ∈ ordersL list := by rw [ho]; exact List.mem_cons_self
        unfold ordersL at hmem
        have := (List.mem_filter.1 hmem).2
        have := beq_iff_eq.1 this
        omega
      refine ⟨(x, true), Ev_from 100000000 fun k hk => ?_, Ev_from 0 fun k _ => ?_, by simp only; omega⟩
      · rw [h2 k (by omega)]; simp only [Option.bind_some, if_true]; rw [scOrders_eq hS k (by omega), ho]
        simp only [Option.bind_some, List.length_cons]
        rw [if_neg (by omega), if_pos (by omega)]
        rfl
      · rw [h1]; simp only [Option.bind_some, if_true]; rw [if_pos (by omega), bestLen_eq, hx]
        simp only [Option.bind_some, if_true]
        rw [if_neg (by omega)]
theorem scHigh_l0 (list : List Thing) (st : List Int) (hw : Inside list st) (hn : st.length ≤ 1000000000) : ∀ d k i s, i + d = st.length → d < k →
    spec_scHigh.l0 k list s st (st.length : Int) (i : Int) = some ((st.drop i).foldl (fun s i => wrap64 (s + (rd_T49 list i).f2)) s) := by
  intro d
  induction d with
  | zero =>
    intro k i s hi hk
    obtain ⟨k, rfl⟩ : ∃ q, k = q + 1 := ⟨k - 1, by omega⟩
    simp only [spec_scHigh.l0]; rw [if_neg (by omega), List.drop_of_length_le (by omega)]; rfl
  | succ d ih =>
    intro k i s hi hk
    obtain ⟨k, rfl⟩ : ∃ q, k = q + 1 := ⟨k - 1, by omega⟩
    have hlt : i < st.length := by omega
    have hin := hw st[i] (List.getElem_mem hlt)
    simp only [spec_scHigh.l0]
    rw [if_pos (by omega), if_pos (by omega), if_pos (by omega), rd_nat st i hlt, if_pos hin.1, if_pos hin.2, w64 (i := (i : Int) + 1) (by omega) (by omega), List.drop_eq_getElem_cons hlt, List.foldl_cons]
    have := ih k (i + 1) (wrap64 (s + (rd_T49 list st[i]).f2)) (by omega) (by omega)
    rw [show ((i + 1 : Nat) : Int) = (i : Int) + 1 by omega] at this
    exact this
theorem scHigh_eq (list : List Thing) (st : List Int) (hw : Inside list st) (hn : st.length ≤ 1000000000) (k : Nat) (hk : st.length < k) : spec_scHigh.f k list st = some (highV list st) := by
  unfold spec_scHigh.f
  have := scHigh_l0 list st hw hn st.length k 0 0 (by omega) hk
  simpa [highV] using this
theorem tallest_l0 (list : List Thing) (L : List (List Int)) (hn : L.length ≤ 1000000000) (hin : ∀ x ∈ L, Inside list x ∧ x.length ≤ 1000) : ∀ d k i (s : BestS), i + d = L.length → d + 2000 < k →
    spec_TallestStack.l0 k list s.1 s.2 L (L.length : Int) (i : Int) = some (((L.drop i).foldl (bestStepS (highV list)) s).1, ((L.drop i).foldl (bestStepS (highV list)) s).2, true) := by
  intro d
  induction d with
  | zero =>
    intro k i s hi hk
    obtain ⟨k, rfl⟩ : ∃ m, k = m + 1 := ⟨k - 1, by omega⟩
    simp only [spec_TallestStack.l0]; rw [if_neg (by omega), List.drop_of_length_le (by omega)]; rfl
  | succ d ih =>
    intro k i s hi hk
    obtain ⟨k, rfl⟩ : ∃ m, k = m + 1 := ⟨k - 1, by omega⟩
    have hlt : i < L.length := by omega
    have hx := hin _ (List.getElem_mem hlt)
    have hrd : rd_L5 L (i : Int) = L[i] := by simp [rd_L5, List.getD_eq_getElem?_getD, hlt]
    simp only [spec_TallestStack.l0]
    rw [if_pos (by omega), if_pos (by omega), if_pos (by omega), hrd, scHigh_eq list L[i] hx.1 (by omega) k (by omega), w64 (i := (i : Int) + 1) (by omega) (by omega), List.drop_eq_getElem_cons hlt, List.foldl_cons, show (i : Int) + 1 = ((i + 1 : Nat) : Int) by omega]
    simp only [Option.bind_some]
    by_cases h : s.2 < highV list L[i]
    · rw [if_pos h, show bestStepS (highV list) s L[i] = (L[i], highV list L[i]) by unfold bestStepS; rw [if_pos h]]
      exact ih k (i + 1) (L[i], highV list L[i]) (by omega) (by omega)
    · rw [if_neg h, show bestStepS (highV list) s L[i] = s by unfold bestStepS; rw [if_neg h]]
      exact ih k (i + 1) s (by omega) (by omega)
theorem best_mem (sc : List Int → Int) : ∀ (L : List (List Int)) (s : BestS) (n : Nat), s.1.length ≤ n → (∀ x ∈ L, x.length ≤ n) → (L.foldl (bestStepS sc) s).1.length ≤ n := by
  intro L
  induction L with
  | nil => intro s n h _; exact h
  | cons st L ih =>
    intro s n h hL
    rw [List.foldl_cons]
    refine ih _ n ?_ (fun x hx => hL x (List.mem_cons_of_mem _ hx))
    unfold bestStepS
    split
    · exact hL st List.mem_cons_self
    · exact h
theorem tallest_both (list : List Thing) (hm : list.length ≤ 10000000) : ∃ r : List Int × Int × Bool, Ev (fun k => spec_TallestStack.f k list) r ∧ Ev (fun _ => impl_TallestStack.f list) r ∧ r.1.length ≤ 10000000 := by
  obtain ⟨t, h1, h2, h3⟩ := good_cases list hm
  unfold spec_TallestStack.f impl_TallestStack.f
  cases t with
  | false => exact ⟨([], 0, false), Ev_from list.length fun k hk => by rw [h2 k hk]; rfl, Ev_from 0 fun k _ => by rw [h1]; rfl, by simp⟩
  | true =>
    have hS := h3 rfl
    have hl := allS_length hS.1
    have h7 := hS.1
    have hstart : bestAllS list (highV list) = (allS list).foldl (bestStepS (highV list)) ([], 0) := by
      unfold bestAllS
      rw [allS_cons, List.foldl_cons, List.foldl_cons]
      rfl
    refine ⟨(((allS list).foldl (bestStepS (highV list)) ([], 0)).1, ((allS list).foldl (bestStepS (highV list)) ([], 0)).2, true), Ev_from 100000000 fun k hk => ?_, Ev_from 0 fun k _ => ?_, ?_⟩
    · rw [h2 k (by omega)]; simp only [Option.bind_some, if_true]; rw [scAll_all hS k (by omega)]
      have := tallest_l0 list (allS list) (by omega) (fun x hx => by have := allS_inside list x hx; exact ⟨this.1, by omega⟩) (allS list).length k 0 ([], 0) (by omega) (by omega)
      simpa using this
    · rw [h1]; simp only [Option.bind_some, if_true]; rw [if_pos (by omega), hstart]
    · have := best_mem (highV list) (allS list) ([], 0) 7 (by simp) (fun x hx => by have := (allS_inside list x hx).2; omega)
      simp only; omega
end Go.Proofs.Ytbmefldckdaopaa.Q

namespace Go.Proofs.Ytbmefldckdaopaa.Q
open Go.RowKit Go.Proofs.YtbmefldckdaopaaW.PrintWords Go.Proofs.YtbmefldckdaopaaW.PrintLast Go.Proofs.YtbmefldckdaopaaW.PrintMore
set_option linter.unusedVariables false
set_option linter.unusedSimpArgs false

def marksThing (a : Int) (n : Nat) : List S49 := (List.range n).map fun (j : Nat) => ⟨a + 3 * (j : Int), a + 3 * (j : Int) + 1, a + 3 * (j : Int) + 2⟩
theorem marksThing_length (a : Int) (n : Nat) : (marksThing a n).length = n := by simp [marksThing]

theorem markThingS_l0 (a : Int) (n : Nat) (h0 : 0 ≤ a) (hn : a + 3 * n ≤ 100000000000000) : ∀ d k i (x : List S49), i + d = n → d < k → x.length = n →
    ∃ y, laws_markThingS.l0 k x (a + 3 * (i : Int)) (i : Int) = some (a + 3 * (n : Int), y) ∧ y.length = n := by
  intro d
  induction d with
  | zero =>
    intro k i x hi hk hx
    obtain ⟨k, rfl⟩ : ∃ m, k = m + 1 := ⟨k - 1, by omega⟩
    simp only [laws_markThingS.l0]; rw [if_neg (by omega)]
    have : i = n := by omega
    subst this
    exact ⟨x, rfl, hx⟩
  | succ d ih =>
    intro k i x hi hk hx
    obtain ⟨k, rfl⟩ : ∃ m, k = m + 1 := ⟨k - 1, by omega⟩
    simp only [laws_markThingS.l0]
    rw [if_pos (by omega), if_pos (by omega)]
    simp only [Option.bind_some]
    rw [w64Thing (i := a + 3 * (i : Int) + 1) (by omega) (by omega), w64Thing (i := a + 3 * (i : Int) + 1 + 1) (by omega) (by omega), w64Thing (i := a + 3 * (i : Int) + 1 + 1 + 1) (by omega) (by omega), w64Thing (i := (i : Int) + 1) (by omega) (by omega)]
    rw [show a + 3 * (i : Int) + 1 + 1 + 1 = a + 3 * ((i + 1 : Nat) : Int) by omega, show (i : Int) + 1 = ((i + 1 : Nat) : Int) by omega]
    exact ih k (i + 1) _ (by omega) (by omega) (by simp [hx])
/-- Marking counts on, whatever it writes. -/
theorem markThingS_eq (x : List S49) (a : Int) (h0 : 0 ≤ a) (hn : a + 3 * x.length ≤ 100000000000000) (k : Nat) (hk : x.length < k) : ∃ y, laws_markThingS.f k x a = some (a + 3 * (x.length : Int), y) := by
  unfold laws_markThingS.f
  obtain ⟨y, h, _⟩ := markThingS_l0 a x.length h0 hn x.length k 0 x (by omega) hk rfl
  exact ⟨y, by simpa using h⟩
theorem markThingS_ev (x : List S49) (h : x.length ≤ 10000000) (a : Int) (h0 : 0 ≤ a) (hn : a ≤ 10000000000) : ∃ y, Ev (fun k => laws_markThingS.f k x a) (a + 3 * (x.length : Int), y) := by
  obtain ⟨y, hy⟩ := markThingS_eq x a h0 (by omega) (x.length + 1) (by omega)
  exact ⟨y, Ev.of (fun k => laws_markThingS.mono x a k) hy⟩
end Go.Proofs.Ytbmefldckdaopaa.Q

namespace Go.Proofs.Ytbmefldckdaopaa.Pure
open Go.RowKit Go.Proofs.Ytbmefldckdaopaa.Q Go.Proofs.YtbmefldckdaopaaW.PrintWords Go.Proofs.YtbmefldckdaopaaW.PrintLast
set_option linter.unusedVariables false
set_option linter.unusedSimpArgs false

set_option maxHeartbeats 2000000 in
set_option maxRecDepth 10000 in
theorem FnExactTallestStack : ∀ (l0 : List S51), l0.length ≤ maxLen → l0.length * 24 ≤ 140737488351232 → (∀ x ∈ l0, (Lit.int .i64 x.f0).wf = true ∧ (Lit.int .i64 x.f1).wf = true ∧ (Lit.int .i64 x.f2).wf = true) → ∃ k, laws_FnExactTallestStack.f k l0 = some true := by
  intro l0 _ h0 g0
  refine Ev.rounds (g := fun k => laws_FnExactTallestStack.f k l0) ?_
  by_cases hl0 : l0.length ≤ 1048576
  · skip
    have hm0 : (l0.map cvThing).length ≤ 1048576 := by simpa using hl0
    obtain ⟨r, hs, hi, hb0⟩ := tallest_both (l0.map cvThing) (by omega)
    obtain ⟨y0, hy0⟩ := markThingS_ev (l0.map cvThing) (by omega) 1 (by omega) (by omega)
    simp only [laws_FnExactTallestStack.f, szThingS_small l0 hl0, Option.bind_some]
    repeat' (first
      | exact Ev_some _
      | (simp (disch := omega) only [Option.bind_some, if_neg, if_pos, bne_self_eq_false, Bool.false_eq_true, if_false, if_true, eq_self])
      | refine Ev.bind (toThingS_ev l0 (by omega)) ?_
      | refine Ev.bind (eqThingS_ev (l0.map cvThing) (by omega)) ?_
      | refine Ev.bind hy0 ?_
      | refine Ev.bind hs ?_
      | refine Ev.bind hi ?_
      | refine Ev.bind (eqIntS_ev r.1 hb0) ?_
      | refine Ev.bind (markIntS_ev r.1 hb0 1 (by omega) (by omega)) ?_
      | refine Ev.bind (heldIntS_ev r.1.length hb0 1 (by omega) (by omega)) ?_
      | refine Ev.step (fun k => by rw [laws_FnExactTallestStack.j0]) ?_
      | refine Ev.step (fun k => by rw [laws_FnExactTallestStack.j1]) ?_
      | refine Ev.step (fun k => by rw [laws_FnExactTallestStack.j2]) ?_)
  · simp only [laws_FnExactTallestStack.f, szThingS_great l0 (by omega) (by omega)]
    simp (disch := omega) only [Option.bind_some, if_neg, if_pos]
    exact Ev_some _
end Go.Proofs.Ytbmefldckdaopaa.Pure

namespace Go.Proofs.Ytbmefldckdaopaa.HO
open Go.ChangeShapes Go.WideShapes Go.Deep Go.RowKit Go.Proofs.YtbmefldckdaopaaW.PrintWords
set_option linter.unusedVariables false
section
variable {H : Type} {enc : TypeId × Value → H} {P : Program} {w : World} {base : Nat} {spare : Nat → Bool} {held : Bool}

/-- A slice of structs of n whole numbers each, opened: F i j is field j of element i. -/
theorem open_ints_struct {t e : TypeId} {fs : Array Field} {fuel : Nat} {cs : List Value} {x : DataW H × List MemPlace} (ht : P.underlying t = some (.slice e)) (he : P.underlying e = some (.struct fs))
    (hone : oneCellFields P fs = true) (hC : P.cellsOf e = fs.size) (hk : ∀ (j : Nat) (f : Field), fs[j]? = some f → P.underlying f.type = some (.int .i64)) (h : DataW.trod enc P w base spare held fuel t cs = some x) :
    (cs = [.slice none 0 0] ∧ x = (.nil, [])) ∨
    ∃ (a : Addr) (len cap : Nat) (F : Nat → Nat → Int) (el sp : List (DataW H)) (ps : List MemPlace), cs = [.slice (some a) len cap] ∧ len ≤ cap ∧ cap ≤ maxLen ∧ x = (.slice el sp, ps) ∧ el.length = len ∧
      ∀ i, i < len → ∀ j, j < fs.size → w.cell? (a.add (i * fs.size + j)) = some (.int .i64 (F i j)) ∧ (Lit.int .i64 (F i j)).wf = true := by
  rcases open_slice ht h with h0 | ⟨a, len, cap, m, n, D, Pl, hcs, hb, hl, hm, hmm, hx, hi⟩
  · exact .inl h0
  · have hlm : len ≤ m := by rw [hmm]; split <;> omega
    have key : ∀ i, i < len → ∃ G : Nat → Int, ∀ j, j < fs.size → w.cell? (a.add (i * fs.size + j)) = some (.int .i64 (G j)) ∧ (Lit.int .i64 (G j)).wf = true := fun i hil => by
      obtain ⟨cs', hc, ht'⟩ := hi i (by omega)
      rw [hC] at hc
      obtain ⟨ys, n', hn', hy, hlen, hyl, hf⟩ := DataW.trod_struct he ht'
      obtain ⟨_, hcl, hat⟩ := World.cells?_some hc
      refine choose_lt (α := Int) (p := fun j v => w.cell? (a.add (i * fs.size + j)) = some (.int .i64 v) ∧ (Lit.int .i64 v).wf = true) (fun j hj => ?_)
      have hfj : fs[j]? = some fs[j] := Array.getElem?_eq_getElem hj
      obtain ⟨ho, hk1⟩ := hone_of hone j _ hfj
      have hcell := hat j hj
      have hv : cs'[j]? = some (cs'[j]'(by omega)) := List.getElem?_eq_getElem (by omega)
      have h1 := hf j _ hfj
      rw [ho, hk1] at h1
      have hone' : (cs'.drop j).take 1 = [cs'[j]'(by omega)] := by
        rw [List.drop_eq_getElem_cons (by omega)]
        rfl
      rw [hone'] at h1
      have hys : ys[j]? = some (ys[j]'(by omega)) := List.getElem?_eq_getElem (by omega)
      obtain ⟨v, e0, _, wv⟩ := DataW.trod_int (hk j _ hfj) (h1.trans hys)
      refine ⟨v, ?_, wv⟩
      rw [← Go.Deep.add_add, hcell, hv]
      simp only [List.cons.injEq, and_true] at e0
      rw [e0]
    obtain ⟨F, hF⟩ := choose_lt (α := Nat → Int) (p := fun i G => ∀ j, j < fs.size → w.cell? (a.add (i * fs.size + j)) = some (.int .i64 (G j)) ∧ (Lit.int .i64 (G j)).wf = true) key
    exact .inr ⟨a, len, cap, F, _, _, _, hcs, hl, hm, hx, by simp, hF⟩

/-- The same of an argument: the numbers, and how many at most. -/
theorem open_structs {t e : TypeId} {fs : Array Field} {a : Option Addr} {len cap : Nat} {d : DataW H} {ps : List MemPlace} {ts : List TypeId} {ds : List (DataW H)} {j : Nat}
    (hsz : (DataW.weightsEach P ts ds).all (· ≤ reachBytes) = true) (htj : ts[j]? = some t) (hdj : ds[j]? = some d) (ht : P.underlying t = some (.slice e)) (he : P.underlying e = some (.struct fs))
    (hone : oneCellFields P fs = true) (hC : P.cellsOf e = fs.size) (hk : ∀ (j : Nat) (f : Field), fs[j]? = some f → P.underlying f.type = some (.int .i64)) {B : Nat} (hB : P.bytesOf e = B)
    (h : DataW.Trod enc P w base spare held t (.slice a len cap) d ps) :
    ∃ F : Nat → Nat → Int, len ≤ cap ∧ len ≤ maxLen ∧ len * B ≤ 140737488351232 ∧ (0 < len → ∃ ad, a = some ad ∧ ∀ i, i < len → ∀ j, j < fs.size → w.cell? (ad.add (i * fs.size + j)) = some (.int .i64 (F i j))) ∧ ∀ i, i < len → ∀ j, j < fs.size → (Lit.int .i64 (F i j)).wf = true := by
  obtain ⟨fuel, hf⟩ := h
  rcases open_ints_struct ht he hone hC hk hf with ⟨hcs, _⟩ | ⟨x, l, c, F, el, sp, ps', hcs, hl, hm, hx, hel, hF⟩
  · simp [Value.cells] at hcs
    obtain ⟨rfl, rfl, rfl⟩ := hcs
    exact ⟨fun _ _ => 0, by omega, by omega, by omega, fun h => absurd h (by omega), fun i hi => absurd hi (by omega)⟩
  · simp [Value.cells] at hcs
    obtain ⟨rfl, rfl, rfl⟩ := hcs
    obtain ⟨hx, _⟩ := Prod.mk.inj hx
    subst hx
    have z := sized_slice hsz htj hdj ht
    rw [hB, hel] at z
    refine ⟨F, hl, by omega, ?_, fun _ => ⟨x, rfl, fun i hi j hj => (hF i hi j hj).1⟩, fun i hi j hj => (hF i hi j hj).2⟩
    have : reachBytes = 140737488351232 := by decide
    rw [this] at z
    exact Nat.le_trans (Nat.mul_le_mul_right _ (by omega)) z

/-- A struct of two whole numbers, by value. -/
theorem open_pair {r : Reach} {b0 : Nat} {t : TypeId} {f0 f1 : Field} {v : Value} {d : DataW H} {p : List MemPlace} (hs : P.underlying t = some (.struct #[f0, f1])) (hone : oneCellFields P #[f0, f1] = true) (hC : P.cellsOf t = 2)
    (h0 : P.underlying f0.type = some (.int .i64)) (h1 : P.underlying f1.type = some (.int .i64)) (hv : Value.okWide P w r b0 t v) (h : DataW.Trod enc P w base spare held t v d p) :
    ∃ x y : Int, v = .agg #[.int .i64 x, .int .i64 y] ∧ p = [] ∧ (Lit.int .i64 x).wf = true ∧ (Lit.int .i64 y).wf = true := by
  obtain ⟨v0, v1, y0, y1, n, rfl, rfl, rfl, g0, g1⟩ := Go.Joins.open_agg2 hs hone hC hv h
  obtain ⟨x, e0, rfl, w0⟩ := DataW.trod_int h0 g0
  obtain ⟨y, e1, rfl, w1⟩ := DataW.trod_int h1 g1
  simp only [List.cons.injEq, and_true] at e0 e1
  subst e0 e1
  exact ⟨x, y, rfl, rfl, w0, w1⟩
end
end Go.Proofs.Ytbmefldckdaopaa.HO

namespace Go.Proofs.Ytbmefldckdaopaa.fnExactTallestStack
open Go.ChangeShapes Go.WideShapes Go.ChangeAt Go.RowKit Go.Proofs.YtbmefldckdaopaaW Go.Proofs.YtbmefldckdaopaaW.PrintWords
open Go.ChangeMaps (open_string shut_string)
set_option linter.unusedVariables false
theorem own : ownKnob Try.prog.godebug = none := by kernel_rfl
theorem laidOut : laidOutB Try.prog = true := by kernel_rfl
theorem mk_C51 {w : World} {A : Option Addr} {n : Nat} {F : Nat → Nat → Int} (hn : n ≤ maxLen) (h : 0 < n → ∃ ad, A = some ad ∧ ∀ i, i < n → ∀ j, j < 3 → w.cell? (ad.add (i * 3 + j)) = some (.int .i64 (F i j))) (hw : ∀ i, i < n → ∀ j, j < 3 → (Lit.int .i64 (F i j)).wf = true) :
    ∃ l : List Q.S51, l.length = n ∧ Kd.C Q.k51 w A l.length l ∧ ∀ x ∈ l, (Lit.int .i64 x.f0).wf = true ∧ (Lit.int .i64 x.f1).wf = true ∧ (Lit.int .i64 x.f2).wf = true := by
  refine ⟨(List.range n).map fun i => ⟨F i 0, F i 1, F i 2⟩, by simp, ⟨rfl, by unfold maxLen at hn; simp; omega, fun h0 => ?_⟩, fun x hx => ?_⟩
  · rw [List.length_map, List.length_range] at h0
    obtain ⟨ad, ha, hc⟩ := h h0
    refine ⟨ad, ha, fun j p hj => ?_⟩
    rw [List.getElem?_map] at hj
    obtain ⟨i, hi, rfl⟩ := Option.map_eq_some_iff.1 hj
    have hji : j < n := by have := (List.getElem?_eq_some_iff.1 hi).1; simpa using this
    have hij : i = j := by rw [List.getElem?_range hji] at hi; injection hi with hi; exact hi.symm
    subst hij
    refine ⟨[.int .i64 (F i 0), .int .i64 (F i 1), .int .i64 (F i 2)], rfl, Q.k51_mk w _, fun q u hq => ?_⟩
    match q, hq with
    | 0, hq => injection hq with hq; subst hq; exact hc i hji 0 (by omega)
    | 1, hq => injection hq with hq; subst hq; exact hc i hji 1 (by omega)
    | 2, hq => injection hq with hq; subst hq; exact hc i hji 2 (by omega)
    | q + 3, hq => simp at hq
  · rw [List.mem_map] at hx
    obtain ⟨i, hi, rfl⟩ := hx
    rw [List.mem_range] at hi
    exact ⟨hw i hi 0 (by omega), hw i hi 1 (by omega), hw i hi 2 (by omega)⟩
set_option maxRecDepth 100000 in
theorem lifted (os : Os) (started : os.Started) (H : Type) (enc : TypeId × Value → H) :
    ReturnsInHanded {} Try.checked os 10 .any (Rows.fnExactTallestStackSpec.pre6 enc Try.prog Try.f10 Rows.fnExactTallestStackRow.domain false) (Rows.fnExactTallestStackSpec.post enc Try.prog Try.f10 false true false false) := by
  refine returnsInHanded_of_change_sized (C := Try.checked) own started (by kernel_rfl) Try.func10
    (ChangeSpec.witness6 (enc := enc) (C := Try.checked) false ⟨#[], #[.slice none 0 0], []⟩ 8 (by kernel_rfl) (by kernel_rfl) (by kernel_rfl) (by kernel_rfl)) ?_
  intro W base args ds gs before hval0 hW hcnd hsz0 _
  have hsz : (DataW.weightsEach Try.prog (Try.f10.params.toList ++ Rows.fnExactTallestStackSpec.plain.varTypes Try.prog) (ds ++ gs)).all (· ≤ reachBytes) = true := hsz0
  have hval : ∀ (j : Nat) t v, Try.f10.params[j]? = some t → args[j]? = some v → Value.okWide Try.prog W .any base t v := hval0
  have hW' := hW
  obtain ⟨p, q, hA0, hV, rfl, hfz, hnd⟩ := hW
  have hA : DataW.TrodAll enc Try.prog W 0 (fun _ => true) true Try.f10.params.toList args.toList ds p := hA0
  rw [Try.params10] at hA hval hsz
  obtain ⟨v0, vs0, d0, ds0, p0, q0, hargs, rfl, rfl, h0, r0⟩ := trodAll_cons hA
  obtain ⟨rfl, rfl, rfl⟩ := trodAll_nil r0
  obtain rfl : args = #[v0] := by cases args; simp_all
  obtain ⟨rfl, rfl⟩ := trodVars_none hV
  obtain ⟨a0, len0, cap0, rfl⟩ := okWide_slice Try.underlying22 (hval 0 22 v0 rfl rfl)
  have k0 := h0
  have lt0 : ∀ x ∈ p0, x.block < W.heap.size := by obtain ⟨m, hm⟩ := k0; exact DataW.trod_lt m _ _ _ hm
  obtain ⟨F0, hc0, hm0, y0, hcell0, hw0⟩ := HO.open_structs (j := 0) (t := 22) (B := 24) hsz rfl rfl Try.underlying22 Try.underlying51 (by kernel_rfl) (by kernel_rfl) (fun j f hj => by
    have hj3 : j < 3 := (Array.getElem?_eq_some_iff.1 hj).1
    match j, hj3 with
    | 0, _ => injection hj with hj; subst hj; exact Try.underlying3
    | 1, _ => injection hj with hj; subst hj; exact Try.underlying3
    | 2, _ => injection hj with hj; subst hj; exact Try.underlying3
    ) (by kernel_rfl) h0
  obtain ⟨l0, hl0, hr0, hz0⟩ := mk_C51 hm0 hcell0 hw0
  subst hl0
  clear hA0 hval0 hsz0 hsz
  obtain ⟨k, hh⟩ := Pure.FnExactTallestStack l0 hm0 y0 hz0
  refine (Q.laws_FnExactTallestStack.calls k _ _ l0 true W hr0 hc0 hh).mono fun e W' ⟨he, bel⟩ => ?_
  subst he
  exact ⟨_, rfl, _, _, _, [], _, [], hW', trodAll_mk1 (shut_bool Try.underlying4 _), (trodAll_cons_mk (Below.trod laidOut (by kernel_rfl) (of_decide_eq_true (by kernel_rfl)) k0 bel lt0) trodAll_mk0), rfl, bel.frame _, fun h => by cases h⟩
theorem over : Rows.fnExactTallestStackRow.holds Try.pinned (OpenSpec.ofChange Rows.fnExactTallestStackSpec) :=
  OpenClaim.holds_of_wide 10 Try.f10 rfl rfl rfl rfl rfl rfl rfl ⟨rfl, rfl, rfl, rfl, rfl⟩ rfl rfl rfl rfl rfl (by kernel_rfl) Try.func10 (by kernel_rfl)
    (of_decide_eq_true (by kernel_rfl)) (by unfold Func.isWrapper; first | (rw [if_pos (by decide +kernel)]; kernel_rfl) | (rw [if_neg (by decide +kernel)]; exact ⟨rfl, rfl⟩))
    (fun os started H enc _ => lifted os started H enc)
theorem proved : Rows.FnExactTallestStackSaid := over
#print axioms proved
end Go.Proofs.Ytbmefldckdaopaa.fnExactTallestStack
namespace Go.Proofs.Ytbmefldckdaopaa
/-- The row, under a short name, for the claim. -/
theorem fnExactTallestStack_holds : Rows.FnExactTallestStackSaid := fnExactTallestStack.proved
end Go.Proofs.Ytbmefldckdaopaa
