/-
  PROVED: for all arguments, the program's CountChoices returns what the reference's returns; the arguments read behind the call as before.
  CONDITIONS: none beyond the statement's own.
-/
import Derived.Test.YtgghcngfleicnaaZFnExactCountChoices1
import Derived.Test.YtgghcngfleicnaaZFnExactCountChoices2
import Derived.Test.YtgghcngfleicnaaZFnExactCountChoices4
import Derived.Test.YtgghcngfleicnaaZFnExactCountChoices3
import Derived.Deep.Slices
import Derived.Deep.Fields
import Derived.ChangeSame
import Derived.SizedLaws
import Derived.ChangeSlices
import Derived.Lib.SmallJoins
import Derived.Test.YtgghcngfleicnaaWWords
import Derived.Test.YtgghcngfleicnaaRows
import Derived.WalkKit
import Derived.ProofKit
import Derived.OpenShut
import Derived.ShutString
import Derived.ChangeOld
import Derived.Below
import Derived.Test.YtgghcngfleicnaaWSized
namespace Go.Proofs.Ytgghcngfleicnaa.Q
open Go.RowKit Go.Proofs.YtgghcngfleicnaaW.PrintWords Go.Proofs.YtgghcngfleicnaaW.PrintLast Go.Proofs.YtgghcngfleicnaaW.PrintMore
attribute [local go_sem] max2_int min2_int max_two min_two max_three min_three max_four min_four   -- for this text's walks alone
set_option linter.unusedVariables false
set_option linter.unusedSimpArgs false

/-! ### impl_CountPacked: function 36 -/
def impl_CountPacked.f (l0 : List (S54)) (a1_0 : Int) (a1_1 : Int) : Option (Int × Bool) := (impl_arePacked.f l0 (([(⟨a1_0, a1_1⟩ : S39)] : List (S39)))).bind fun t480 => (if t480 = true then ((impl_byValue.f l0 a1_0 a1_1).bind fun bt481 => (some (bt481.2.2, true))) else (some (0, false)))
set_option maxHeartbeats 8000000 in
set_option maxRecDepth 100000 in
theorem impl_CountPacked.calls (A0 : Option Addr) (c0 : Nat) (l0 : List (S54)) (a1_0 : Int) (a1_1 : Int) (r1 : Int) (r2 : Bool) (w : World) (hr0 : Kd.C k54 w A0 l0.length l0) (hc0 : l0.length ≤ c0) (h : impl_CountPacked.f l0 a1_0 a1_1 = some (r1, r2)) :
    Calls Try.prog 36 #[.slice A0 l0.length c0, .agg #[.int .i64 a1_0, .int .i64 a1_1]] w fun e w' => e = .returned (.tuple #[.int .i64 r1, .bool r2]) ∧ Below w.heap.size w w' := by
  have hu39 := Try.underlying39
  have HR0 := Aside0.mk hr0
  have HC0 := Aside0.mk hc0
  clear hr0 hc0
  have HB := Aside0.mk (Below.refl w.heap.size w)
  have H : ((impl_arePacked.f l0 (([(⟨a1_0, a1_1⟩ : S39)] : List (S39)))).bind fun t480 => (if t480 = true then ((impl_byValue.f l0 a1_0 a1_1).bind fun bt481 => (some (bt481.2.2, true))) else (some (0, false)))) = some (r1, r2) := h
  clear h
  obtain ⟨y477, hy477⟩ : ∃ y_ : List (S39), y_ = (([(⟨a1_0, a1_1⟩ : S39)] : List (S39))) := ⟨_, rfl⟩
  replace H : ((impl_arePacked.f l0 y477).bind fun t480 => (if t480 = true then ((impl_byValue.f l0 a1_0 a1_1).bind fun bt481 => (some (bt481.2.2, true))) else (some (0, false)))) = some (r1, r2) := by first | (rw [hy477]; with_reducible exact H) | (have H2_ := (Option.bind_some _ _).symm.trans H; rw [hy477]; with_reducible exact H2_) | (have H2_ := (Option.bind_some _ _).symm.trans H; with_reducible exact H2_) | with_reducible exact H | (rw [hy477]; exact H) | exact H
  have Ny477 := Aside0.mk hy477
  clear hy477
  replace H := Option.bind_eq_some_iff.mp H
  obtain ⟨t480, A30, H⟩ := H
  replace H : (if t480 = true then ((impl_byValue.f l0 a1_0 a1_1).bind fun bt481 => (some (bt481.2.2, true))) else (some (0, false))) = some (r1, r2) := H
  have A3 := Aside0.mk A30
  clear A30
  by_cases c4 : t480 = true
  · subst c4
    have H1 : ((impl_byValue.f l0 a1_0 a1_1).bind fun bt481 => (some (bt481.2.2, true))) = some (r1, r2) := by rw [if_pos rfl] at H; exact H
    clear H
    have H := H1
    clear H1
    replace H := Option.bind_eq_some_iff.mp H
    obtain ⟨⟨t481, t484, t485⟩, A50, H⟩ := H
    replace H : (some (t485, true)) = some (r1, r2) := H
    have A5 := Aside0.mk A50
    clear A50
    simp only [Option.some.injEq, Prod.mk.injEq] at H
    obtain ⟨rfl, rfl⟩ := H
    go_enter Try.func36, Try.ntmps36
    go_wp2_with (first | ((with_reducible refine gate_dst (N := 3) rfl ?_); refine box_event ?hg (N := 3) ?hd (cs := #[.int .i64 a1_0, .int .i64 a1_1]) (t := 39) ?hr ?_; (case hd => rfl); (case hg => rfl); (case hr => first | (go_simp; done) | (go_simp; rfl)); intro gb476 hg w6 hbox hb; have n0_ := Aside0.mk (below_step (by repeat (first | (with_reducible first | exact HB.out | apply below_alloc | apply pw_below_drewN | apply below_drew1) | exact HB.out)) hb); have n1_ := Aside0.mk (hbox); have n2_ := Aside0.mk ((by rw [hg]; exact (below_size (by repeat (first | (with_reducible first | exact HB.out | apply below_alloc | apply pw_below_drewN | apply below_drew1) | exact HB.out))) : w.heap.size ≤ gb476)); have n3_ := Aside0.mk ((by rw [hg]; exact (below_size (by repeat (first | (with_reducible first | exact HB.out | apply below_alloc | apply pw_below_drewN | apply below_drew1) | exact HB.out))) : w.heap.size ≤ gb476)); clear HB; have HB := n0_; have BK476 := n1_; have GW476 := n2_; have GE476 := n3_; clear n0_ n1_ n2_ n3_; clear hb hbox hg; have hcz7_0 : w6.cell? ⟨gb476, 0, none⟩ = some (.int .i64 a1_0) := (blk_cell BK476.out 0).trans rfl; have hcz7_1 : w6.cell? ⟨gb476, 1, none⟩ = some (.int .i64 a1_1) := (blk_cell BK476.out 1).trans rfl; have hfz7_0 := blk_frozen BK476.out 0; have hfz7_1 := blk_frozen BK476.out 1) | ((with_reducible refine gate_dst (N := 11) rfl ?_); refine Kd.R_lit k39 _ 39 ?hg (N := 11) ?hd (xs := ([(⟨a1_0, a1_1⟩ : S39)] : List (S39))) (inner := [.int .i64 a1_0, .int .i64 a1_1]) (ok := fun _ => True) (okp := fun _ => True) ?hr ?hp (fun _ hk => hk) trivial (Below.refl _ _) (Nat.le_refl _) (by simp) ?_; (case hd => rfl); (case hg => rfl); (case hr => first | (go_simp; done) | (go_simp; rfl)); (case hp => exact (Reps.c2 (show Kd.M k39 _ _ _ (⟨a1_0, a1_1⟩ : S39) [.int .i64 a1_0, .int .i64 a1_1] from (k39_mkM _ _ _ (⟨a1_0, a1_1⟩ : S39) )) (Reps.none _ _))); intro v478 w8 ho9 hb hg_ hnew_; clear hg_ hnew_; (first | rw [← Ny477.out] at ho9 | (simp only [Int.reduceToNat] at ho9; rw [← Ny477.out] at ho9)); have n0_ := Aside0.mk (Kd.R_lower (Kd.R_newB ho9 (g := gb476) (o := .cells #[.int .i64 a1_0, .int .i64 a1_1] 39 (0, 0)) (by (with_reducible repeat (first | refine blk_drewN ?_ _ | refine blk_drew ?_ | refine blk_alloc ?_ _)); exact BK476.out)) (below_size (by repeat (first | (with_reducible first | exact HB.out | apply below_alloc | apply pw_below_drewN | apply below_drew1 | refine below_set ?_ GE476.out) | exact HB.out)))); have n1_ := Aside0.mk (blk_below (g := gb476) (o := .cells #[.int .i64 a1_0, .int .i64 a1_1] 39 (0, 0)) (by (with_reducible repeat (first | refine blk_drewN ?_ _ | refine blk_drew ?_ | refine blk_alloc ?_ _)); exact BK476.out) hb); have n2_ := Aside0.mk (below_step (by repeat (first | (with_reducible first | exact HB.out | apply below_alloc | apply pw_below_drewN | apply below_drew1 | refine below_set ?_ GE476.out) | exact HB.out)) hb); clear BK476; clear HB; have HO479 := n0_; have BK476 := n1_; have HB := n2_; clear n0_ n1_ n2_; clear hb ho9; obtain ⟨Ao10, co10, eo10⟩ := Kd.R_slice HO479.out; subst eo10) | ((with_reducible refine gate_callee (f := 48) rfl ?_); refine goesL_ (some 12) rfl rfl Try.func48 (by kernel_rfl) rfl #[.slice A0 l0.length c0, .slice Ao10 y477.length co10] rfl (by (try simp only [List.map_toArray, List.map_cons, List.map_nil]); first | done | rfl | (simp only [List.length_drop, List.length_take]; rfl)) ?_; (with_reducible refine (impl_arePacked.calls _ _ l0 _ _ y477 true _ ?side1 ?side2 ?side3 ?side4 A3.out).mono ?_); (case side1 => repeat (first | exact (Kd.C_below HR0.out HB.out) | (with_reducible refine Kd.C_alloc ?_ _) | (with_reducible refine Kd.C_drewN ?_ _) | (with_reducible refine Kd.C_drew ?_))); (case side2 => exact HC0.out); (case side3 => repeat (first | exact (Kd.R_reads' HO479.out).2.2 | (with_reducible refine Kd.C_alloc ?_ _) | (with_reducible refine Kd.C_drewN ?_ _) | (with_reducible refine Kd.C_drew ?_))); (case side4 => exact (Kd.R_reads' HO479.out).2.1); rintro e w11 ⟨rfl, hb⟩; refine ⟨_, rfl, ?_⟩; have n0_ := Aside0.mk (Kd.R_below (by (with_reducible repeat (first | apply Kd.R_alloc | apply Kd.R_drewN | apply Kd.R_drew)); exact HO479.out) hb); have n1_ := Aside0.mk (blk_below (g := gb476) (o := .cells #[.int .i64 a1_0, .int .i64 a1_1] 39 (0, 0)) (by (with_reducible repeat (first | refine blk_drewN ?_ _ | refine blk_drew ?_ | refine blk_alloc ?_ _)); exact BK476.out) hb); have n2_ := Aside0.mk (below_step (by repeat (first | (with_reducible first | exact HB.out | apply below_alloc | apply pw_below_drewN | apply below_drew1 | refine below_set ?_ GE476.out) | exact HB.out)) hb); clear HO479; clear BK476; clear HB; have HO479 := n0_; have BK476 := n1_; have HB := n2_; clear n0_ n1_ n2_; (try clear hb); (try clear hb2); (try clear hk); (try clear hi); have hcz12_0 : w11.cell? ⟨gb476, 0, none⟩ = some (.int .i64 a1_0) := (blk_cell BK476.out 0).trans rfl; have hcz12_1 : w11.cell? ⟨gb476, 1, none⟩ = some (.int .i64 a1_1) := (blk_cell BK476.out 1).trans rfl; have hfz12_0 := blk_frozen BK476.out 0; have hfz12_1 := blk_frozen BK476.out 1) | ((with_reducible refine gate_callee (f := 62) rfl ?_); refine goesL_ (some 17) rfl rfl Try.func62 (by kernel_rfl) rfl #[.slice A0 l0.length c0, .agg #[.int .i64 a1_0, .int .i64 a1_1]] rfl (by (try simp only [List.map_toArray, List.map_cons, List.map_nil]); first | done | rfl | (simp only [List.length_drop, List.length_take]; rfl)) ?_; (with_reducible refine (impl_byValue.calls _ _ l0 a1_0 a1_1 t481 t484 t485 _ ?side1 ?side2 A5.out).mono ?_); (case side1 => repeat (first | exact (Kd.C_below HR0.out HB.out) | (with_reducible refine Kd.C_alloc ?_ _) | (with_reducible refine Kd.C_drewN ?_ _) | (with_reducible refine Kd.C_drew ?_))); (case side2 => exact HC0.out); rintro e w13 ⟨v482, rfl, ho0, hb⟩; refine ⟨_, rfl, ?_⟩; have n0_ := Aside0.mk (Kd.R_below (by (with_reducible repeat (first | apply Kd.R_alloc | apply Kd.R_drewN | apply Kd.R_drew)); exact HO479.out) hb); have n1_ := Aside0.mk (Kd.R_lower ho0 (below_size (by repeat (first | (with_reducible first | exact HB.out | apply below_alloc | apply pw_below_drewN | apply below_drew1 | refine below_set ?_ GE476.out) | exact HB.out)))); have n2_ := Aside0.mk (blk_below (g := gb476) (o := .cells #[.int .i64 a1_0, .int .i64 a1_1] 39 (0, 0)) (by (with_reducible repeat (first | refine blk_drewN ?_ _ | refine blk_drew ?_ | refine blk_alloc ?_ _)); exact BK476.out) hb); have n3_ := Aside0.mk (below_step (by repeat (first | (with_reducible first | exact HB.out | apply below_alloc | apply pw_below_drewN | apply below_drew1 | refine below_set ?_ GE476.out) | exact HB.out)) hb); clear HO479; clear BK476; clear HB; have HO479 := n0_; have HO483 := n1_; have BK476 := n2_; have HB := n3_; clear n0_ n1_ n2_ n3_; (try clear hb); (try clear hb2); (try clear hk); (try clear hi); (try clear ho0)))
    go_ret2
    exact ⟨by first | rfl | (simp [errW_none, errW_some] <;> rfl) | (simp [*, errW_none, errW_some] <;> rfl), by repeat (first | (with_reducible first | exact HB.out | apply below_alloc | apply pw_below_drewN | apply below_drew1 | refine below_set ?_ GE476.out) | exact HB.out)⟩
  · replace c4 := Bool.eq_false_iff.mpr c4
    subst c4
    have H1 : (some (0, false)) = some (r1, r2) := by rw [if_neg (show ¬ (false = true) by decide)] at H; exact H
    clear H
    have H := H1
    clear H1
    simp only [Option.some.injEq, Prod.mk.injEq] at H
    obtain ⟨rfl, rfl⟩ := H
    go_enter Try.func36, Try.ntmps36
    go_wp2_with (first | ((with_reducible refine gate_dst (N := 3) rfl ?_); refine box_event ?hg (N := 3) ?hd (cs := #[.int .i64 a1_0, .int .i64 a1_1]) (t := 39) ?hr ?_; (case hd => rfl); (case hg => rfl); (case hr => first | (go_simp; done) | (go_simp; rfl)); intro gb476 hg w14 hbox hb; have n0_ := Aside0.mk (below_step (by repeat (first | (with_reducible first | exact HB.out | apply below_alloc | apply pw_below_drewN | apply below_drew1) | exact HB.out)) hb); have n1_ := Aside0.mk (hbox); have n2_ := Aside0.mk ((by rw [hg]; exact (below_size (by repeat (first | (with_reducible first | exact HB.out | apply below_alloc | apply pw_below_drewN | apply below_drew1) | exact HB.out))) : w.heap.size ≤ gb476)); have n3_ := Aside0.mk ((by rw [hg]; exact (below_size (by repeat (first | (with_reducible first | exact HB.out | apply below_alloc | apply pw_below_drewN | apply below_drew1) | exact HB.out))) : w.heap.size ≤ gb476)); clear HB; have HB := n0_; have BK476 := n1_; have GW476 := n2_; have GE476 := n3_; clear n0_ n1_ n2_ n3_; clear hb hbox hg; have hcz15_0 : w14.cell? ⟨gb476, 0, none⟩ = some (.int .i64 a1_0) := (blk_cell BK476.out 0).trans rfl; have hcz15_1 : w14.cell? ⟨gb476, 1, none⟩ = some (.int .i64 a1_1) := (blk_cell BK476.out 1).trans rfl; have hfz15_0 := blk_frozen BK476.out 0; have hfz15_1 := blk_frozen BK476.out 1) | ((with_reducible refine gate_dst (N := 11) rfl ?_); refine Kd.R_lit k39 _ 39 ?hg (N := 11) ?hd (xs := ([(⟨a1_0, a1_1⟩ : S39)] : List (S39))) (inner := [.int .i64 a1_0, .int .i64 a1_1]) (ok := fun _ => True) (okp := fun _ => True) ?hr ?hp (fun _ hk => hk) trivial (Below.refl _ _) (Nat.le_refl _) (by simp) ?_; (case hd => rfl); (case hg => rfl); (case hr => first | (go_simp; done) | (go_simp; rfl)); (case hp => exact (Reps.c2 (show Kd.M k39 _ _ _ (⟨a1_0, a1_1⟩ : S39) [.int .i64 a1_0, .int .i64 a1_1] from (k39_mkM _ _ _ (⟨a1_0, a1_1⟩ : S39) )) (Reps.none _ _))); intro v478 w16 ho17 hb hg_ hnew_; clear hg_ hnew_; (first | rw [← Ny477.out] at ho17 | (simp only [Int.reduceToNat] at ho17; rw [← Ny477.out] at ho17)); have n0_ := Aside0.mk (Kd.R_lower (Kd.R_newB ho17 (g := gb476) (o := .cells #[.int .i64 a1_0, .int .i64 a1_1] 39 (0, 0)) (by (with_reducible repeat (first | refine blk_drewN ?_ _ | refine blk_drew ?_ | refine blk_alloc ?_ _)); exact BK476.out)) (below_size (by repeat (first | (with_reducible first | exact HB.out | apply below_alloc | apply pw_below_drewN | apply below_drew1 | refine below_set ?_ GE476.out) | exact HB.out)))); have n1_ := Aside0.mk (blk_below (g := gb476) (o := .cells #[.int .i64 a1_0, .int .i64 a1_1] 39 (0, 0)) (by (with_reducible repeat (first | refine blk_drewN ?_ _ | refine blk_drew ?_ | refine blk_alloc ?_ _)); exact BK476.out) hb); have n2_ := Aside0.mk (below_step (by repeat (first | (with_reducible first | exact HB.out | apply below_alloc | apply pw_below_drewN | apply below_drew1 | refine below_set ?_ GE476.out) | exact HB.out)) hb); clear BK476; clear HB; have HO479 := n0_; have BK476 := n1_; have HB := n2_; clear n0_ n1_ n2_; clear hb ho17; obtain ⟨Ao18, co18, eo18⟩ := Kd.R_slice HO479.out; subst eo18) | ((with_reducible refine gate_callee (f := 48) rfl ?_); refine goesL_ (some 12) rfl rfl Try.func48 (by kernel_rfl) rfl #[.slice A0 l0.length c0, .slice Ao18 y477.length co18] rfl (by (try simp only [List.map_toArray, List.map_cons, List.map_nil]); first | done | rfl | (simp only [List.length_drop, List.length_take]; rfl)) ?_; (with_reducible refine (impl_arePacked.calls _ _ l0 _ _ y477 false _ ?side1 ?side2 ?side3 ?side4 A3.out).mono ?_); (case side1 => repeat (first | exact (Kd.C_below HR0.out HB.out) | (with_reducible refine Kd.C_alloc ?_ _) | (with_reducible refine Kd.C_drewN ?_ _) | (with_reducible refine Kd.C_drew ?_))); (case side2 => exact HC0.out); (case side3 => repeat (first | exact (Kd.R_reads' HO479.out).2.2 | (with_reducible refine Kd.C_alloc ?_ _) | (with_reducible refine Kd.C_drewN ?_ _) | (with_reducible refine Kd.C_drew ?_))); (case side4 => exact (Kd.R_reads' HO479.out).2.1); rintro e w19 ⟨rfl, hb⟩; refine ⟨_, rfl, ?_⟩; have n0_ := Aside0.mk (Kd.R_below (by (with_reducible repeat (first | apply Kd.R_alloc | apply Kd.R_drewN | apply Kd.R_drew)); exact HO479.out) hb); have n1_ := Aside0.mk (blk_below (g := gb476) (o := .cells #[.int .i64 a1_0, .int .i64 a1_1] 39 (0, 0)) (by (with_reducible repeat (first | refine blk_drewN ?_ _ | refine blk_drew ?_ | refine blk_alloc ?_ _)); exact BK476.out) hb); have n2_ := Aside0.mk (below_step (by repeat (first | (with_reducible first | exact HB.out | apply below_alloc | apply pw_below_drewN | apply below_drew1 | refine below_set ?_ GE476.out) | exact HB.out)) hb); clear HO479; clear BK476; clear HB; have HO479 := n0_; have BK476 := n1_; have HB := n2_; clear n0_ n1_ n2_; (try clear hb); (try clear hb2); (try clear hk); (try clear hi)))
    go_ret2
    exact ⟨by first | rfl | (simp [errW_none, errW_some] <;> rfl) | (simp [*, errW_none, errW_some] <;> rfl), by repeat (first | (with_reducible first | exact HB.out | apply below_alloc | apply pw_below_drewN | apply below_drew1 | refine below_set ?_ GE476.out) | exact HB.out)⟩

end Go.Proofs.Ytgghcngfleicnaa.Q

namespace Go.Proofs.Ytgghcngfleicnaa.Q
open Go.RowKit Go.Proofs.YtgghcngfleicnaaW.PrintWords Go.Proofs.YtgghcngfleicnaaW.PrintLast Go.Proofs.YtgghcngfleicnaaW.PrintMore
set_option linter.unusedVariables false
set_option linter.unusedSimpArgs false

theorem asked_cases (items : List Item) (a b : Int) (hm : items.length ≤ 10000000) : ∃ t : Bool, impl_arePacked.f items [⟨a, b⟩] = some t ∧ (∀ k, items.length < k → spec_suAsked.f k items a b = some t) ∧ (t = true → Light items ∧ 0 ≤ a ∧ 0 ≤ b ∧ items.length ≤ 10) := by
  obtain ⟨t, ht⟩ : ∃ t, impl_arePacked.f items [⟨a, b⟩] = some t := ⟨_, rfl⟩
  refine ⟨t, ht, fun k hk => (suAsked_eq items a b hm k hk).trans ht, fun h => ?_⟩
  subst h
  obtain ⟨h1, _, h2, h3, h4⟩ := packed_good ht
  exact ⟨light_of h1 h2, h3.1, h4.1, h1⟩

theorem bestPacked_both (items : List Item) (a b : Int) (hm : items.length ≤ 10000000) : ∃ r : Int × Bool, Ev (fun k => spec_BestPacked.f k items a b) r ∧ Ev (fun _ => impl_BestPacked.f items a b) r := by
  obtain ⟨t, h1, h2, h3⟩ := asked_cases items a b hm
  unfold spec_BestPacked.f impl_BestPacked.f
  cases t with
  | false => exact ⟨(0, false), Ev_from items.length fun k hk => by rw [h2 k hk]; rfl, Ev_from 0 fun k _ => by rw [h1]; rfl⟩
  | true =>
    obtain ⟨hL, ha, hb, hn⟩ := h3 rfl
    obtain ⟨x, xs, _, hbest⟩ := best_same hL a b ha hb
    refine ⟨((bestL items a b).2, true), Ev_from 100000000 fun k hk => ?_, Ev_from 0 fun k _ => ?_⟩
    · rw [h2 k (by omega)]; simp only [Option.bind_some, if_true]; rw [suBest_eq items a b hn k (by omega)]; rfl
    · rw [h1]; simp only [Option.bind_some, if_true]; unfold impl_byValue.f; rw [if_pos (by omega), hbest]; rfl
theorem countPacked_both (items : List Item) (a b : Int) (hm : items.length ≤ 10000000) : ∃ r : Int × Bool, Ev (fun k => spec_CountPacked.f k items a b) r ∧ Ev (fun _ => impl_CountPacked.f items a b) r := by
  obtain ⟨t, h1, h2, h3⟩ := asked_cases items a b hm
  unfold spec_CountPacked.f impl_CountPacked.f
  cases t with
  | false => exact ⟨(0, false), Ev_from items.length fun k hk => by rw [h2 k hk]; rfl, Ev_from 0 fun k _ => by rw [h1]; rfl⟩
  | true =>
    obtain ⟨hL, ha, hb, hn⟩ := h3 rfl
    obtain ⟨x, xs, _, hbest⟩ := best_same hL a b ha hb
    refine ⟨(((bestL items a b).1.length : Int), true), Ev_from 100000000 fun k hk => ?_, Ev_from 0 fun k _ => ?_⟩
    · rw [h2 k (by omega)]; simp only [Option.bind_some, if_true]; rw [suBest_eq items a b hn k (by omega)]; rfl
    · rw [h1]; simp only [Option.bind_some, if_true]; unfold impl_byValue.f; rw [if_pos (by omega), hbest]; rfl
theorem count_rel (items : List Item) : ∀ (L : List (List Int)) (t : Best), t.2.1 = 0 → 0 ≤ t.2.2 → t.2.2 + (L.length : Int) ≤ 1000000 → (L.foldl (bestStep items (fun _ _ => 0)) t) = (t.1, 0, t.2.2 + (L.length : Int)) := by
  intro L
  induction L with
  | nil => rintro ⟨t1, t2, t3⟩ h _ _; simp only at h; simp [h]
  | cons ch L ih =>
    rintro ⟨t1, t2, t3⟩ h h0 hl
    simp only [List.length_cons] at h h0 hl ⊢
    subst h
    rw [List.foldl_cons, show bestStep items (fun _ _ => 0) (t1, 0, t3) ch = (t1, 0, t3 + 1) by unfold bestStep; simp only; rw [if_neg (by omega), if_pos trivial, w64 (by omega) (by omega)]]
    rw [ih _ rfl (by simp only; omega) (by simp only; omega)]
    simp only [Prod.mk.injEq, true_and]
    omega
theorem countChoices_both (items : List Item) (a b : Int) (hm : items.length ≤ 10000000) : ∃ r : Int × Bool, Ev (fun k => spec_CountChoices.f k items a b) r ∧ Ev (fun _ => impl_CountChoices.f items a b) r := by
  obtain ⟨t, h1, h2, h3⟩ := asked_cases items a b hm
  unfold spec_CountChoices.f impl_CountChoices.f
  cases t with
  | false => exact ⟨(0, false), Ev_from items.length fun k hk => by rw [h2 k hk]; rfl, Ev_from 0 fun k _ => by rw [h1]; rfl⟩
  | true =>
    obtain ⟨hL, ha, hb, hn⟩ := h3 rfl
    have hl := choicesL_length hn a b
    refine ⟨(((choicesL items a b).length : Int), true), Ev_from 100000000 fun k hk => ?_, Ev_from 0 fun k _ => ?_⟩
    · rw [h2 k (by omega)]; simp only [Option.bind_some, if_true]; unfold spec_suAll.f; rw [if_pos (by omega)]; rfl
    · rw [h1]; simp only [Option.bind_some, if_true]; rw [if_pos (by omega)]
      unfold bestAll
      rw [visit_choices hL a b ha hb]
      unfold choicesL at hl ⊢
      simp only [List.length_cons] at hl ⊢
      rw [List.foldl_cons, show bestStep items (fun _ _ => 0) ([], -1, 0) [] = ([], 0, 1) by simp [bestStep], count_rel items _ _ rfl (by simp only; omega) (by simp only; omega)]
      simp only [Option.some.injEq, Prod.mk.injEq, and_true]
      omega
end Go.Proofs.Ytgghcngfleicnaa.Q

namespace Go.Proofs.Ytgghcngfleicnaa.Pure
open Go.RowKit Go.Proofs.Ytgghcngfleicnaa.Q Go.Proofs.YtgghcngfleicnaaW.PrintWords Go.Proofs.YtgghcngfleicnaaW.PrintLast
set_option linter.unusedVariables false
set_option linter.unusedSimpArgs false

set_option maxHeartbeats 2000000 in
set_option maxRecDepth 10000 in
theorem FnExactCountChoices : ∀ (l0 : List S56) (a1_0 a1_1 : Int), l0.length ≤ maxLen → l0.length * 24 ≤ 140737488351232 → (∀ x ∈ l0, (Lit.int .i64 x.f0).wf = true ∧ (Lit.int .i64 x.f1).wf = true ∧ (Lit.int .i64 x.f2).wf = true) → (Lit.int .i64 a1_0).wf = true → (Lit.int .i64 a1_1).wf = true → ∃ k, laws_FnExactCountChoices.f k l0 a1_0 a1_1 = some true := by
  intro l0 a1_0 a1_1 _ h0 g0 w1_0 w1_1
  refine Ev.rounds (g := fun k => laws_FnExactCountChoices.f k l0 a1_0 a1_1) ?_
  by_cases hl0 : l0.length ≤ 1048576
  · skip
    have hm0 : (l0.map cvItem).length ≤ 1048576 := by simpa using hl0
    obtain ⟨r, hs, hi⟩ := countChoices_both (l0.map cvItem) a1_0 a1_1 (by omega)
    simp only [laws_FnExactCountChoices.f, laws_toCase.f, szItemS_small l0 hl0, Option.bind_some]
    repeat' (first
      | exact Ev_some _
      | (simp (disch := omega) only [laws_toCase.f, Option.bind_some, if_neg, if_pos, bne_self_eq_false, Bool.false_eq_true, if_false, if_true, eq_self])
      | refine Ev.bind (toItemS_ev l0 (by omega)) ?_
      | refine Ev.bind (eqItemS_ev (l0.map cvItem) (by omega)) ?_
      | refine Ev.bind hy0 ?_
      | refine Ev.bind hs ?_
      | refine Ev.bind hi ?_
      | refine Ev.step (fun k => by rw [laws_FnExactCountChoices.j0]) ?_)
  · simp only [laws_FnExactCountChoices.f, szItemS_great l0 (by omega) (by omega)]
    simp (disch := omega) only [Option.bind_some, if_neg, if_pos]
    exact Ev_some _
end Go.Proofs.Ytgghcngfleicnaa.Pure

namespace Go.Proofs.Ytgghcngfleicnaa.HO
open Go.ChangeShapes Go.WideShapes Go.Deep Go.RowKit Go.Proofs.YtgghcngfleicnaaW.PrintWords
set_option linter.unusedVariables false
section
variable {H : Type} {enc : TypeId × Value → H} {P : Program} {w : World} {base : Nat} {spare : Nat → Bool} {held : Bool}

/-- A slice of structs of n whole numbers each, opened: F i j is field j of element i. -/
theorem open_ints_struct {t e : TypeId} {fs : Array Field} {fuel : Nat} {cs : List Value} {x : DataW H × List MemPlace} (ht : P.underlying t = some (.slice e)) (he : P.underlying e = some (.struct fs))
    (hone : oneCellFields P fs = true) (hC : P.cellsOf e = fs.size) (hk : ∀ (j : Nat) (f : Field), fs[j]? = some f → P.underlying f.type = some (.int .i64)) (h : DataW.trod enc P w base spare held fuel t cs = some x) :
    (cs = [.slice none 0 0] ∧ x = (.nil, [])) ∨
    ∃ (a : Addr) (len cap : Nat) (F : Nat → Nat → Int) (el sp : List (DataW H)) (ps : List MemPlace), cs = [.slice (some a) len cap] ∧ len ≤ cap ∧ cap ≤ maxLen ∧ x = (.slice el sp, ps) ∧ el.length = len ∧
      ∀ i, i < len → ∀ j, j < fs.size → w.cell? (a.add (i * fs.size + j)) = some (.int .i64 (F i j)) ∧ (Lit.int .i64 (F i j)).wf = true := by
  rcases open_slice ht h with h0 | ⟨a, len, cap, m, n, D, Pl, hcs, hb, hl, hm, hmm, hx, hi⟩
  · exact .inl h0
  · have hlm : len ≤ m := by rw [hmm]; split <;> omega
    have key : ∀ i, i < len → ∃ G : Nat → Int, ∀ j, j < fs.size → w.cell? (a.add (i * fs.size + j)) = some (.int .i64 (G j)) ∧ (Lit.int .i64 (G j)).wf = true := fun i hil => by
      obtain ⟨cs', hc, ht'⟩ := hi i (by omega)
      rw [hC] at hc
      obtain ⟨ys, n', hn', hy, hlen, hyl, hf⟩ := DataW.trod_struct he ht'
      obtain ⟨_, hcl, hat⟩ := World.cells?_some hc
      refine choose_lt (α := Int) (p := fun j v => w.cell? (a.add (i * fs.size + j)) = some (.int .i64 v) ∧ (Lit.int .i64 v).wf = true) (fun j hj => ?_)
      have hfj : fs[j]? = some fs[j] := Array.getElem?_eq_getElem hj
      obtain ⟨ho, hk1⟩ := hone_of hone j _ hfj
      have hcell := hat j hj
      have hv : cs'[j]? = some (cs'[j]'(by omega)) := List.getElem?_eq_getElem (by omega)
      have h1 := hf j _ hfj
      rw [ho, hk1] at h1
      have hone' : (cs'.drop j).take 1 = [cs'[j]'(by omega)] := by
        rw [List.drop_eq_getElem_cons (by omega)]
        rfl
      rw [hone'] at h1
      have hys : ys[j]? = some (ys[j]'(by omega)) := List.getElem?_eq_getElem (by omega)
      obtain ⟨v, e0, _, wv⟩ := DataW.trod_int (hk j _ hfj) (h1.trans hys)
      refine ⟨v, ?_, wv⟩
      rw [← Go.Deep.add_add, hcell, hv]
      simp only [List.cons.injEq, and_true] at e0
      rw [e0]
    obtain ⟨F, hF⟩ := choose_lt (α := Nat → Int) (p := fun i G => ∀ j, j < fs.size → w.cell? (a.add (i * fs.size + j)) = some (.int .i64 (G j)) ∧ (Lit.int .i64 (G j)).wf = true) key
    exact .inr ⟨a, len, cap, F, _, _, _, hcs, hl, hm, hx, by simp, hF⟩

/-- The same of an argument: the numbers, and how many at most. -/
theorem open_structs {t e : TypeId} {fs : Array Field} {a : Option Addr} {len cap : Nat} {d : DataW H} {ps : List MemPlace} {ts : List TypeId} {ds : List (DataW H)} {j : Nat}
    (hsz : (DataW.weightsEach P ts ds).all (· ≤ reachBytes) = true) (htj : ts[j]? = some t) (hdj : ds[j]? = some d) (ht : P.underlying t = some (.slice e)) (he : P.underlying e = some (.struct fs))
    (hone : oneCellFields P fs = true) (hC : P.cellsOf e = fs.size) (hk : ∀ (j : Nat) (f : Field), fs[j]? = some f → P.underlying f.type = some (.int .i64)) {B : Nat} (hB : P.bytesOf e = B)
    (h : DataW.Trod enc P w base spare held t (.slice a len cap) d ps) :
    ∃ F : Nat → Nat → Int, len ≤ cap ∧ len ≤ maxLen ∧ len * B ≤ 140737488351232 ∧ (0 < len → ∃ ad, a = some ad ∧ ∀ i, i < len → ∀ j, j < fs.size → w.cell? (ad.add (i * fs.size + j)) = some (.int .i64 (F i j))) ∧ ∀ i, i < len → ∀ j, j < fs.size → (Lit.int .i64 (F i j)).wf = true := by
  obtain ⟨fuel, hf⟩ := h
  rcases open_ints_struct ht he hone hC hk hf with ⟨hcs, _⟩ | ⟨x, l, c, F, el, sp, ps', hcs, hl, hm, hx, hel, hF⟩
  · simp [Value.cells] at hcs
    obtain ⟨rfl, rfl, rfl⟩ := hcs
    exact ⟨fun _ _ => 0, by omega, by omega, by omega, fun h => absurd h (by omega), fun i hi => absurd hi (by omega)⟩
  · simp [Value.cells] at hcs
    obtain ⟨rfl, rfl, rfl⟩ := hcs
    obtain ⟨hx, _⟩ := Prod.mk.inj hx
    subst hx
    have z := sized_slice hsz htj hdj ht
    rw [hB, hel] at z
    refine ⟨F, hl, by omega, ?_, fun _ => ⟨x, rfl, fun i hi j hj => (hF i hi j hj).1⟩, fun i hi j hj => (hF i hi j hj).2⟩
    have : reachBytes = 140737488351232 := by decide
    rw [this] at z
    exact Nat.le_trans (Nat.mul_le_mul_right _ (by omega)) z

/-- A struct of two whole numbers, by value. -/
theorem open_pair {r : Reach} {b0 : Nat} {t : TypeId} {f0 f1 : Field} {v : Value} {d : DataW H} {p : List MemPlace} (hs : P.underlying t = some (.struct #[f0, f1])) (hone : oneCellFields P #[f0, f1] = true) (hC : P.cellsOf t = 2)
    (h0 : P.underlying f0.type = some (.int .i64)) (h1 : P.underlying f1.type = some (.int .i64)) (hv : Value.okWide P w r b0 t v) (h : DataW.Trod enc P w base spare held t v d p) :
    ∃ x y : Int, v = .agg #[.int .i64 x, .int .i64 y] ∧ p = [] ∧ (Lit.int .i64 x).wf = true ∧ (Lit.int .i64 y).wf = true := by
  obtain ⟨v0, v1, y0, y1, n, rfl, rfl, rfl, g0, g1⟩ := Go.Joins.open_agg2 hs hone hC hv h
  obtain ⟨x, e0, rfl, w0⟩ := DataW.trod_int h0 g0
  obtain ⟨y, e1, rfl, w1⟩ := DataW.trod_int h1 g1
  simp only [List.cons.injEq, and_true] at e0 e1
  subst e0 e1
  exact ⟨x, y, rfl, rfl, w0, w1⟩
end
end Go.Proofs.Ytgghcngfleicnaa.HO

namespace Go.Proofs.Ytgghcngfleicnaa.fnExactCountChoices
open Go.ChangeShapes Go.WideShapes Go.ChangeAt Go.RowKit Go.Proofs.YtgghcngfleicnaaW Go.Proofs.YtgghcngfleicnaaW.PrintWords
open Go.ChangeMaps (open_string shut_string)
set_option linter.unusedVariables false
theorem own : ownKnob Try.prog.godebug = none := by kernel_rfl
theorem laidOut : laidOutB Try.prog = true := by kernel_rfl
theorem mk_C56 {w : World} {A : Option Addr} {n : Nat} {F : Nat → Nat → Int} (hn : n ≤ maxLen) (h : 0 < n → ∃ ad, A = some ad ∧ ∀ i, i < n → ∀ j, j < 3 → w.cell? (ad.add (i * 3 + j)) = some (.int .i64 (F i j))) (hw : ∀ i, i < n → ∀ j, j < 3 → (Lit.int .i64 (F i j)).wf = true) :
    ∃ l : List Q.S56, l.length = n ∧ Kd.C Q.k56 w A l.length l ∧ ∀ x ∈ l, (Lit.int .i64 x.f0).wf = true ∧ (Lit.int .i64 x.f1).wf = true ∧ (Lit.int .i64 x.f2).wf = true := by
  refine ⟨(List.range n).map fun i => ⟨F i 0, F i 1, F i 2⟩, by simp, ⟨rfl, by unfold maxLen at hn; simp; omega, fun h0 => ?_⟩, fun x hx => ?_⟩
  · rw [List.length_map, List.length_range] at h0
    obtain ⟨ad, ha, hc⟩ := h h0
    refine ⟨ad, ha, fun j p hj => ?_⟩
    rw [List.getElem?_map] at hj
    obtain ⟨i, hi, rfl⟩ := Option.map_eq_some_iff.1 hj
    have hji : j < n := by have := (List.getElem?_eq_some_iff.1 hi).1; simpa using this
    have hij : i = j := by rw [List.getElem?_range hji] at hi; injection hi with hi; exact hi.symm
    subst hij
    refine ⟨[.int .i64 (F i 0), .int .i64 (F i 1), .int .i64 (F i 2)], rfl, Q.k56_mk w _, fun q u hq => ?_⟩
    match q, hq with
    | 0, hq => injection hq with hq; subst hq; exact hc i hji 0 (by omega)
    | 1, hq => injection hq with hq; subst hq; exact hc i hji 1 (by omega)
    | 2, hq => injection hq with hq; subst hq; exact hc i hji 2 (by omega)
    | q + 3, hq => simp at hq
  · rw [List.mem_map] at hx
    obtain ⟨i, hi, rfl⟩ := hx
    rw [List.mem_range] at hi
    exact ⟨hw i hi 0 (by omega), hw i hi 1 (by omega), hw i hi 2 (by omega)⟩
set_option maxRecDepth 100000 in
theorem lifted (os : Os) (started : os.Started) (H : Type) (enc : TypeId × Value → H) :
    ReturnsInHanded {} Try.checked os 6 .any (Rows.fnExactCountChoicesSpec.pre6 enc Try.prog Try.f6 Rows.fnExactCountChoicesRow.domain false) (Rows.fnExactCountChoicesSpec.post enc Try.prog Try.f6 false true false false) := by
  refine returnsInHanded_of_change_sized (C := Try.checked) own started (by kernel_rfl) Try.func6
    (ChangeSpec.witness6 (enc := enc) (C := Try.checked) false ⟨#[], #[.slice none 0 0, .agg #[.int .i64 0, .int .i64 0]], []⟩ 8 (by kernel_rfl) (by kernel_rfl) (by kernel_rfl) (by kernel_rfl)) ?_
  intro W base args ds gs before hval0 hW hcnd hsz0 _
  have hsz : (DataW.weightsEach Try.prog (Try.f6.params.toList ++ Rows.fnExactCountChoicesSpec.plain.varTypes Try.prog) (ds ++ gs)).all (· ≤ reachBytes) = true := hsz0
  have hval : ∀ (j : Nat) t v, Try.f6.params[j]? = some t → args[j]? = some v → Value.okWide Try.prog W .any base t v := hval0
  have hW' := hW
  obtain ⟨p, q, hA0, hV, rfl, hfz, hnd⟩ := hW
  have hA : DataW.TrodAll enc Try.prog W 0 (fun _ => true) true Try.f6.params.toList args.toList ds p := hA0
  rw [Try.params6] at hA hval hsz
  obtain ⟨v0, vs0, d0, ds0, p0, q0, hargs, rfl, rfl, h0, r0⟩ := trodAll_cons hA
  obtain ⟨v1, vs1, d1, ds1, p1, q1, rfl, rfl, rfl, h1, r1⟩ := trodAll_cons r0
  obtain ⟨rfl, rfl, rfl⟩ := trodAll_nil r1
  obtain rfl : args = #[v0, v1] := by cases args; simp_all
  obtain ⟨rfl, rfl⟩ := trodVars_none hV
  obtain ⟨a0, len0, cap0, rfl⟩ := okWide_slice Try.underlying22 (hval 0 22 v0 rfl rfl)
  have k0 := h0
  have lt0 : ∀ x ∈ p0, x.block < W.heap.size := by obtain ⟨m, hm⟩ := k0; exact DataW.trod_lt m _ _ _ hm
  obtain ⟨F0, hc0, hm0, y0, hcell0, hw0⟩ := HO.open_structs (j := 0) (t := 22) (B := 24) hsz rfl rfl Try.underlying22 Try.underlying56 (by kernel_rfl) (by kernel_rfl) (fun j f hj => by
    have hj3 : j < 3 := (Array.getElem?_eq_some_iff.1 hj).1
    match j, hj3 with
    | 0, _ => injection hj with hj; subst hj; exact Try.underlying3
    | 1, _ => injection hj with hj; subst hj; exact Try.underlying3
    | 2, _ => injection hj with hj; subst hj; exact Try.underlying3
    ) (by kernel_rfl) h0
  obtain ⟨l0, hl0, hr0, hz0⟩ := mk_C56 hm0 hcell0 hw0
  subst hl0
  have k1 := h1
  obtain ⟨a1_0, a1_1, rfl, rfl, w1_0, w1_1⟩ := HO.open_pair Try.underlying36 (by kernel_rfl) (by kernel_rfl) Try.underlying3 Try.underlying3 (hval 1 36 v1 rfl rfl) h1
  clear hA0 hval0 hsz0 hsz
  obtain ⟨k, hh⟩ := Pure.FnExactCountChoices l0 a1_0 a1_1 hm0 y0 hz0 w1_0 w1_1
  refine (Q.laws_FnExactCountChoices.calls k _ _ l0 a1_0 a1_1 true W hr0 hc0 hh).mono fun e W' ⟨he, bel⟩ => ?_
  subst he
  exact ⟨_, rfl, _, _, _, [], _, [], hW', trodAll_mk1 (shut_bool Try.underlying4 _), (trodAll_cons_mk (Below.trod laidOut (by kernel_rfl) (of_decide_eq_true (by kernel_rfl)) k0 bel lt0) (trodAll_cons_mk (Below.trod laidOut (by kernel_rfl) (of_decide_eq_true (by kernel_rfl)) k1 bel (fun x hx => by cases hx)) trodAll_mk0)), rfl, bel.frame _, fun h => by cases h⟩
theorem over : Rows.fnExactCountChoicesRow.holds Try.pinned (OpenSpec.ofChange Rows.fnExactCountChoicesSpec) :=
  OpenClaim.holds_of_wide 6 Try.f6 rfl rfl rfl rfl rfl rfl rfl ⟨rfl, rfl, rfl, rfl, rfl⟩ rfl rfl rfl rfl rfl (by kernel_rfl) Try.func6 (by kernel_rfl)
    (of_decide_eq_true (by kernel_rfl)) (by unfold Func.isWrapper; first | (rw [if_pos (by decide +kernel)]; kernel_rfl) | (rw [if_neg (by decide +kernel)]; exact ⟨rfl, rfl⟩))
    (fun os started H enc _ => lifted os started H enc)
theorem proved : Rows.FnExactCountChoicesSaid := over
#print axioms proved
end Go.Proofs.Ytgghcngfleicnaa.fnExactCountChoices
namespace Go.Proofs.Ytgghcngfleicnaa
/-- The row, under a short name, for the claim. -/
theorem fnExactCountChoices_holds : Rows.FnExactCountChoicesSaid := fnExactCountChoices.proved
end Go.Proofs.Ytgghcngfleicnaa
