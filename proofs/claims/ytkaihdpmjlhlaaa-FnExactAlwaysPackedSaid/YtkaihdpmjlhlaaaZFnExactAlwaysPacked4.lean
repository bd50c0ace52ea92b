/-
  Part 4 of the proof of FnExactAlwaysPacked: what Go functions that it reaches compute, each shown by a walk of its code, and plain laws on numbers and lists.
  CONDITIONS: each theorem's own, as stated.
-/
import Derived.Test.YtkaihdpmjlhlaaaZFnExactAlwaysPacked1
import Derived.Test.YtkaihdpmjlhlaaaZFnExactAlwaysPacked2
import Derived.Test.YtkaihdpmjlhlaaaZFnExactAlwaysPacked3
import Derived.Laws.EntriesVeiled
import Derived.Sort.Grow
import Derived.Shelf.Small.Bits
import Derived.Shelf.Strconv.Itoa0
import Derived.Shelf.Sort.Plain
import Derived.Ground.Names2Prog
import Derived.Shelf.Slices.Clone
import Derived.Shelf.Slices.SearchI
import Derived.Shelf.Slices.Delete
import Derived.Shelf.Slices.Cells
import Derived.Shelf.Slices.In.SortNone
import Derived.Shelf.Slices.Empties
import Derived.Ground.SlgnProg
import Derived.Shelf.SlicesE.Clone
import Derived.Ground.SlgfProg
import Derived.Shelf.SlicesE.IndexFunc
import Derived.Shelf.SlicesE.DeleteFunc
import Derived.Ground.SlsfProg
import Derived.Shelf.SlSortCmp.Insertion
import Derived.Shelf.SlSortCmp.Insertion1
import Derived.Test.YtkaihdpmjlhlaaaProg
namespace Go.Proofs.Ytkaihdpmjlhlaaa.Q
open Go.RowKit Go.Proofs.YtkaihdpmjlhlaaaW.PrintWords Go.Proofs.YtkaihdpmjlhlaaaW.PrintLast Go.Proofs.YtkaihdpmjlhlaaaW.PrintMore
attribute [local go_sem] max2_int min2_int max_two min_two max_three min_three max_four min_four   -- for this text's walks alone
set_option linter.unusedVariables false
set_option linter.unusedSimpArgs false

/-! ### spec_AlwaysPacked: function 30 -/
mutual
def spec_AlwaysPacked.l0 : Nat → List (List Int) → List Int → Int → Int → Option (List Int × Bool)
  | 0, _, _, _, _ => none
  | k + 1, x6, x8, x24, x25 => if x25 < x24 then (spec_AlwaysPacked.l1 k x6 x8 x25 true x24 x25 x6 (x6.length : Int) 0) else (some (x8, true))
def spec_AlwaysPacked.l1 : Nat → List (List Int) → List Int → Int → Bool → Int → Int → List (List Int) → Int → Int → Option (List Int × Bool)
  | 0, _, _, _, _, _, _, _, _, _ => none
  | k + 1, x6, x8, x9, x10, x24, x25, x28, x29, x30 => if x30 < x29 then (if 0 ≤ x30 then (if x30 < (x28.length : Int) then (if x10 = true then ((spec_l1Has.f k (rd_L5 x28 x30) x9).bind fun t497 => (spec_AlwaysPacked.l1 k x6 x8 x9 t497 x24 x25 x28 x29 (wrap64 (x30 + 1)))) else (spec_AlwaysPacked.l1 k x6 x8 x9 false x24 x25 x28 x29 (wrap64 (x30 + 1)))) else (none)) else (none)) else (if x10 = true then (if x8.length < 17592186044416 then (spec_AlwaysPacked.l0 k x6 (x8 ++ [x9]) x24 (wrap64 (x25 + 1))) else (none)) else (spec_AlwaysPacked.l0 k x6 x8 x24 (wrap64 (x25 + 1))))
end
def spec_AlwaysPacked.f (k : Nat) (l0 : List (S49)) (a1_0 : Int) (a1_1 : Int) : Option (List Int × Bool) := (spec_suAsked.f k l0 a1_0 a1_1).bind fun t491 => (if t491 = true then ((spec_suBest.f k l0 a1_0 a1_1).bind fun bt492 => (spec_AlwaysPacked.l0 k bt492.1 ([] : List Int) (l0.length : Int) 0)) else (some (([] : List Int), false)))
theorem spec_AlwaysPacked.mono_l : ∀ k, (∀ y0 y1 y2 y3, LeO (spec_AlwaysPacked.l0 k y0 y1 y2 y3) (spec_AlwaysPacked.l0 (k + 1) y0 y1 y2 y3)) ∧ (∀ y0 y1 y2 y3 y4 y5 y6 y7 y8, LeO (spec_AlwaysPacked.l1 k y0 y1 y2 y3 y4 y5 y6 y7 y8) (spec_AlwaysPacked.l1 (k + 1) y0 y1 y2 y3 y4 y5 y6 y7 y8))
  | 0 => ⟨fun _ _ _ _ r h => by simp [spec_AlwaysPacked.l0] at h, fun _ _ _ _ _ _ _ _ _ r h => by simp [spec_AlwaysPacked.l1] at h⟩
  | k + 1 => by
    obtain ⟨ih0, ih1⟩ := spec_AlwaysPacked.mono_l k
    refine ⟨?_, ?_⟩
    · intro y0 y1 y2 y3
      unfold spec_AlwaysPacked.l0
      repeat' first
      | (with_reducible exact ih0 _ _ _ _)
      | (with_reducible exact ih1 _ _ _ _ _ _ _ _ _)
      | (with_reducible exact spec_l1Has.mono _ _ _)
      | (with_reducible exact spec_suAsked.mono _ _ _ _)
      | (with_reducible exact spec_suBest.mono _ _ _ _)
      | (with_reducible exact LeO.refl _)
      | (with_reducible exact LeO.none _)
      | (with_reducible refine LeO.ite ?_ ?_)
      | (with_reducible refine LeO.bind ?_ (fun _ => ?_))
      | exact ih0 _ _ _ _
      | exact ih1 _ _ _ _ _ _ _ _ _
      | exact spec_l1Has.mono _ _ _
      | exact spec_suAsked.mono _ _ _ _
      | exact spec_suBest.mono _ _ _ _
      | exact LeO.none _
      | refine LeO.ite ?_ ?_
      | refine LeO.bind ?_ (fun _ => ?_)
    · intro y0 y1 y2 y3 y4 y5 y6 y7 y8
      unfold spec_AlwaysPacked.l1
      repeat' first
      | (with_reducible exact ih0 _ _ _ _)
      | (with_reducible exact ih1 _ _ _ _ _ _ _ _ _)
      | (with_reducible exact spec_l1Has.mono _ _ _)
      | (with_reducible exact spec_suAsked.mono _ _ _ _)
      | (with_reducible exact spec_suBest.mono _ _ _ _)
      | (with_reducible exact LeO.refl _)
      | (with_reducible exact LeO.none _)
      | (with_reducible refine LeO.ite ?_ ?_)
      | (with_reducible refine LeO.bind ?_ (fun _ => ?_))
      | exact ih0 _ _ _ _
      | exact ih1 _ _ _ _ _ _ _ _ _
      | exact spec_l1Has.mono _ _ _
      | exact spec_suAsked.mono _ _ _ _
      | exact spec_suBest.mono _ _ _ _
      | exact LeO.none _
      | refine LeO.ite ?_ ?_
      | refine LeO.bind ?_ (fun _ => ?_)
theorem spec_AlwaysPacked.mono : ∀ a0 a1 a2 k, LeO (spec_AlwaysPacked.f k a0 a1 a2) (spec_AlwaysPacked.f (k + 1) a0 a1 a2) := by
  intro a0 a1 a2 k
  obtain ⟨ih0, ih1⟩ := spec_AlwaysPacked.mono_l k
  unfold spec_AlwaysPacked.f
  repeat' first
      | (with_reducible exact ih0 _ _ _ _)
      | (with_reducible exact ih1 _ _ _ _ _ _ _ _ _)
      | (with_reducible exact spec_l1Has.mono _ _ _)
      | (with_reducible exact spec_suAsked.mono _ _ _ _)
      | (with_reducible exact spec_suBest.mono _ _ _ _)
      | (with_reducible exact LeO.refl _)
      | (with_reducible exact LeO.none _)
      | (with_reducible refine LeO.ite ?_ ?_)
      | (with_reducible refine LeO.bind ?_ (fun _ => ?_))
      | exact ih0 _ _ _ _
      | exact ih1 _ _ _ _ _ _ _ _ _
      | exact spec_l1Has.mono _ _ _
      | exact spec_suAsked.mono _ _ _ _
      | exact spec_suBest.mono _ _ _ _
      | exact LeO.none _
      | refine LeO.ite ?_ ?_
      | refine LeO.bind ?_ (fun _ => ?_)
set_option maxHeartbeats 8000000 in
set_option maxRecDepth 100000 in
theorem spec_AlwaysPacked.calls (k : Nat) (A0 : Option Addr) (c0 : Nat) (l0 : List (S49)) (a1_0 : Int) (a1_1 : Int) (r1 : List Int) (r2 : Bool) (w : World) (hr0 : Kd.C k49 w A0 l0.length l0) (hc0 : l0.length ≤ c0) (h : spec_AlwaysPacked.f k l0 a1_0 a1_1 = some (r1, r2)) :
    Calls Try.prog 30 #[.slice A0 l0.length c0, .agg #[.int .i64 a1_0, .int .i64 a1_1]] w fun e w' => ∃ v0_ : Value, e = .returned (.tuple #[v0_, .bool r2]) ∧ Kd.R (Kd.int .i64) 3 w' w.heap.size (fun _ => True) v0_ r1 ∧ Below w.heap.size w w' := by
  have hu30 := Try.underlying30
  have HR0 := Aside0.mk hr0
  have HC0 := Aside0.mk hc0
  clear hr0 hc0
  have HB := Aside0.mk (Below.refl w.heap.size w)
  have H : ((spec_suAsked.f k l0 a1_0 a1_1).bind fun t491 => (if t491 = true then ((spec_suBest.f k l0 a1_0 a1_1).bind fun bt492 => (spec_AlwaysPacked.l0 k bt492.1 ([] : List Int) (l0.length : Int) 0)) else (some (([] : List Int), false)))) = some (r1, r2) := h
  clear h
  replace H := Option.bind_eq_some_iff.mp H
  obtain ⟨t491, A30, H⟩ := H
  replace H : (if t491 = true then ((spec_suBest.f k l0 a1_0 a1_1).bind fun bt492 => (spec_AlwaysPacked.l0 k bt492.1 ([] : List Int) (l0.length : Int) 0)) else (some (([] : List Int), false))) = some (r1, r2) := H
  have A3 := Aside0.mk A30
  clear A30
  by_cases c4 : t491 = true
  · subst c4
    have H1 : ((spec_suBest.f k l0 a1_0 a1_1).bind fun bt492 => (spec_AlwaysPacked.l0 k bt492.1 ([] : List Int) (l0.length : Int) 0)) = some (r1, r2) := by rw [if_pos rfl] at H; exact H
    clear H
    have H := H1
    clear H1
    replace H := Option.bind_eq_some_iff.mp H
    obtain ⟨⟨t492, t495⟩, A50, H⟩ := H
    replace H : (spec_AlwaysPacked.l0 k t492 ([] : List Int) (l0.length : Int) 0) = some (r1, r2) := H
    have A5 := Aside0.mk A50
    clear A50
    have H' := Aside0.mk H
    clear H
    go_enter Try.func30, Try.ntmps30
    go_wp2_with (first | ((with_reducible refine gate_dst (N := 3) rfl ?_); refine box_event ?hg (N := 3) ?hd (cs := #[.int .i64 a1_0, .int .i64 a1_1]) (t := 30) ?hr ?_; (case hd => rfl); (case hg => rfl); (case hr => first | (go_simp; done) | (go_simp; rfl)); intro gb490 hg w6 hbox hb; have n0_ := Aside0.mk (below_step (by repeat (first | (with_reducible first | exact HB.out | apply below_alloc | apply pw_below_drewN | apply below_drew1) | exact HB.out)) hb); have n1_ := Aside0.mk (hbox); have n2_ := Aside0.mk ((by rw [hg]; exact (below_size (by repeat (first | (with_reducible first | exact HB.out | apply below_alloc | apply pw_below_drewN | apply below_drew1) | exact HB.out))) : w.heap.size ≤ gb490)); have n3_ := Aside0.mk ((by rw [hg]; exact (below_size (by repeat (first | (with_reducible first | exact HB.out | apply below_alloc | apply pw_below_drewN | apply below_drew1) | exact HB.out))) : w.heap.size ≤ gb490)); clear HB; have HB := n0_; have BK490 := n1_; have GW490 := n2_; have GE490 := n3_; clear n0_ n1_ n2_ n3_; clear hb hbox hg; have hcz7_0 : w6.cell? ⟨gb490, 0, none⟩ = some (.int .i64 a1_0) := (blk_cell BK490.out 0).trans rfl; have hcz7_1 : w6.cell? ⟨gb490, 1, none⟩ = some (.int .i64 a1_1) := (blk_cell BK490.out 1).trans rfl; have hfz7_0 := blk_frozen BK490.out 0; have hfz7_1 := blk_frozen BK490.out 1) | ((with_reducible refine gate_callee (f := 36) rfl ?_); refine goesL_ (some 15) rfl rfl Try.func36 (by kernel_rfl) rfl #[.slice A0 l0.length c0, .agg #[.int .i64 a1_0, .int .i64 a1_1]] rfl (by (try simp only [List.map_toArray, List.map_cons, List.map_nil]); first | done | rfl | (simp only [List.length_drop, List.length_take]; rfl)) ?_; (with_reducible refine (spec_suAsked.calls k _ _ l0 a1_0 a1_1 true _ ?side1 ?side2 A3.out).mono ?_); (case side1 => repeat (first | exact (Kd.C_below HR0.out HB.out) | (with_reducible refine Kd.C_alloc ?_ _) | (with_reducible refine Kd.C_drewN ?_ _) | (with_reducible refine Kd.C_drew ?_))); (case side2 => exact HC0.out); rintro e w8 ⟨rfl, hb⟩; refine ⟨_, rfl, ?_⟩; have n0_ := Aside0.mk (blk_below (g := gb490) (o := .cells #[.int .i64 a1_0, .int .i64 a1_1] 30 (0, 0)) (by (with_reducible repeat (first | refine blk_drewN ?_ _ | refine blk_drew ?_ | refine blk_alloc ?_ _)); exact BK490.out) hb); have n1_ := Aside0.mk (below_step (by repeat (first | (with_reducible first | exact HB.out | apply below_alloc | apply pw_below_drewN | apply below_drew1 | refine below_set ?_ GE490.out) | exact HB.out)) hb); clear BK490; clear HB; have BK490 := n0_; have HB := n1_; clear n0_ n1_; (try clear hb); (try clear hb2); (try clear hk); (try clear hi); have hcz9_0 : w8.cell? ⟨gb490, 0, none⟩ = some (.int .i64 a1_0) := (blk_cell BK490.out 0).trans rfl; have hcz9_1 : w8.cell? ⟨gb490, 1, none⟩ = some (.int .i64 a1_1) := (blk_cell BK490.out 1).trans rfl; have hfz9_0 := blk_frozen BK490.out 0; have hfz9_1 := blk_frozen BK490.out 1) | ((with_reducible refine gate_callee (f := 47) rfl ?_); refine goesL_ (some 20) rfl rfl Try.func47 (by kernel_rfl) rfl #[.slice A0 l0.length c0, .agg #[.int .i64 a1_0, .int .i64 a1_1]] rfl (by (try simp only [List.map_toArray, List.map_cons, List.map_nil]); first | done | rfl | (simp only [List.length_drop, List.length_take]; rfl)) ?_; (with_reducible refine (spec_suBest.calls k _ _ l0 a1_0 a1_1 t492 t495 _ ?side1 ?side2 A5.out).mono ?_); (case side1 => repeat (first | exact (Kd.C_below HR0.out HB.out) | (with_reducible refine Kd.C_alloc ?_ _) | (with_reducible refine Kd.C_drewN ?_ _) | (with_reducible refine Kd.C_drew ?_))); (case side2 => exact HC0.out); rintro e w10 ⟨v493, rfl, ho0, hb⟩; refine ⟨_, rfl, ?_⟩; have n0_ := Aside0.mk (Kd.N_lower (Kd.N_mono (ok' := fun k_ => k_ ≠ gb490) ho0 (fun k_ hk_ => (Kd.freshB (g := gb490) (o := .cells #[.int .i64 a1_0, .int .i64 a1_1] 30 (0, 0)) (by (with_reducible repeat (first | refine blk_drewN ?_ _ | refine blk_drew ?_ | refine blk_alloc ?_ _)); exact BK490.out) k_ hk_))) (below_size (by repeat (first | (with_reducible first | exact HB.out | apply below_alloc | apply pw_below_drewN | apply below_drew1 | refine below_set ?_ GE490.out) | exact HB.out)))); have n1_ := Aside0.mk (blk_below (g := gb490) (o := .cells #[.int .i64 a1_0, .int .i64 a1_1] 30 (0, 0)) (by (with_reducible repeat (first | refine blk_drewN ?_ _ | refine blk_drew ?_ | refine blk_alloc ?_ _)); exact BK490.out) hb); have n2_ := Aside0.mk (below_step (by repeat (first | (with_reducible first | exact HB.out | apply below_alloc | apply pw_below_drewN | apply below_drew1 | refine below_set ?_ GE490.out) | exact HB.out)) hb); clear BK490; clear HB; have HO494 := n0_; have BK490 := n1_; have HB := n2_; clear n0_ n1_ n2_; (try clear hb); (try clear hb2); (try clear hk); (try clear hi); (try clear ho0)))
    go_loopg [8, 25] k (fun kq v8 v25 w' => ∃ (x8_1 : List Int) (x25_1 : Int), v25 = .int .i64 x25_1 ∧ Aside0 (spec_AlwaysPacked.l0 kq t492 x8_1 (l0.length : Int) x25_1 = some (r1, r2)) ∧ Aside0 (kq ≤ k) ∧ Aside0 (Kd.N (Kd.slice 3 (Kd.int .i64)) 34 w' w.heap.size (fun k_ => some k_ ≠ (v8 : Value).ownBlock ∧ k_ ≠ gb490) v493 t492) ∧ Aside0 (Kd.R (Kd.int .i64) 3 w' w.heap.size (fun _ => True) v8 x8_1) ∧ Aside0 (w'.heap[gb490]? = some (.cells #[.int .i64 a1_0, .int .i64 a1_1] 30 (0, 0))) ∧ Aside0 (Below w.heap.size w w'))
    case atStart => exact ⟨(([] : List Int)), (0), (by first | rfl | (simp; done) | (simp [*]; done)), H', ⟨Nat.le_refl _⟩, ⟨by (with_reducible repeat (first | apply Kd.N_alloc | apply Kd.N_drewN | apply Kd.N_drew)); exact Kd.N_mono HO494.out (fun _ hk => ⟨(by simp [Value.ownBlock]), hk⟩)⟩, ⟨by first | exact Kd.R_nil _ _ _ _ _ | exact Kd.N_nil _ _ _ _ _ | exact Kd.V_nil _ _ _ _ _ | exact Kd.Q_nil _ _ _ _ _ | exact Kd.S_nil _ _ _ _ _⟩, ⟨by (with_reducible repeat (first | refine blk_drewN ?_ _ | refine blk_drew ?_ | refine blk_alloc ?_ _)); exact BK490.out⟩, ⟨by repeat (first | (with_reducible first | exact HB.out | apply below_alloc | apply pw_below_drewN | apply below_drew1 | refine below_set ?_ GE490.out) | exact HB.out)⟩⟩
    case round =>
      clear H'
      try clear p2
      try clear c3
      try clear c4
      try clear hcz7_0
      try clear hcz7_1
      try clear hcz9_0
      try clear hcz9_1
      try clear hfz7_0
      try clear hfz7_1
      try clear hfz9_0
      try clear hfz9_1
      obtain ⟨x8_1, x25_1, rfl, HA, HK1, HO_6, HO_8, BK490, HB⟩ := hrel
      cases gk with
      | zero => exact absurd HA.out (by simp [spec_AlwaysPacked.l0])
      | succ k1 =>
        have H := HA.out
        clear HA
        simp only [spec_AlwaysPacked.l0] at H
        by_cases c11 : x25_1 < (l0.length : Int)
        · rw [if_pos c11] at H
          have c11b0 : decide (x25_1 < (l0.length : Int)) = true := decide_eq_true c11
          clear c11
          have H' := Aside0.mk H
          clear H
          obtain ⟨Ao12, co12, eo12⟩ := Kd.N_slice HO_6.out
          subst eo12
          go_wp2
          go_loopg [10, 30] k1 (fun kq v10 v30 w' => ∃ (x10_2 : Bool) (x30_2 : Int), v10 = .bool x10_2 ∧ v30 = .int .i64 x30_2 ∧ Aside0 (spec_AlwaysPacked.l1 kq t492 x8_1 x25_1 x10_2 (l0.length : Int) x25_1 t492 (t492.length : Int) x30_2 = some (r1, r2)) ∧ Aside0 (kq ≤ k1) ∧ Aside0 (Kd.N (Kd.slice 3 (Kd.int .i64)) 34 w' w.heap.size (fun k_ => some k_ ≠ (u8 : Value).ownBlock ∧ k_ ≠ gb490) (.slice Ao12 t492.length co12) t492) ∧ Aside0 (Kd.R (Kd.int .i64) 3 w' w.heap.size (fun _ => True) u8 x8_1) ∧ Aside0 (Kd.N (Kd.slice 3 (Kd.int .i64)) 34 w' w.heap.size (fun k_ => some k_ ≠ (u8 : Value).ownBlock ∧ k_ ≠ gb490) (.slice Ao12 t492.length co12) t492) ∧ Aside0 (w'.heap[gb490]? = some (.cells #[.int .i64 a1_0, .int .i64 a1_1] 30 (0, 0))) ∧ Aside0 (Below w.heap.size w w'))
          case atStart => exact ⟨(true), (0), (by first | rfl | (simp; done) | (simp [*]; done)), (by first | rfl | (simp; done) | (simp [*]; done)), H', ⟨Nat.le_refl _⟩, ⟨by (with_reducible repeat (first | apply Kd.N_alloc | apply Kd.N_drewN | apply Kd.N_drew)); exact HO_6.out⟩, ⟨by (with_reducible repeat (first | apply Kd.R_alloc | apply Kd.R_drewN | apply Kd.R_drew)); exact HO_8.out⟩, ⟨by (with_reducible repeat (first | apply Kd.N_alloc | apply Kd.N_drewN | apply Kd.N_drew)); exact HO_6.out⟩, ⟨by (with_reducible repeat (first | refine blk_drewN ?_ _ | refine blk_drew ?_ | refine blk_alloc ?_ _)); exact BK490.out⟩, ⟨by repeat (first | (with_reducible first | exact HB.out | apply below_alloc | apply pw_below_drewN | apply below_drew1 | refine below_set ?_ GE490.out) | exact HB.out)⟩⟩
          case round =>
            clear H'
            try clear c1
            try clear p2
            try clear c3
            try clear c4
            try clear c11
            try clear c11b0
            try clear hcz7_0
            try clear hcz7_1
            try clear hcz9_0
            try clear hcz9_1
            try clear hfz7_0
            try clear hfz7_1
            try clear hfz9_0
            try clear hfz9_1
            try clear p2
            obtain ⟨x10_2, x30_2, rfl, rfl, HA, HK2, HO_6, HO_8, HO_28, BK490, HB⟩ := hrel
            cases gk with
            | zero => exact absurd HA.out (by simp [spec_AlwaysPacked.l1])
            | succ k2 =>
              have H := HA.out
              clear HA
              simp only [spec_AlwaysPacked.l1] at H
              by_cases c13 : x30_2 < (t492.length : Int)
              · rw [if_pos c13] at H
                have c13b0 : decide (x30_2 < (t492.length : Int)) = true := decide_eq_true c13
                clear c13
                by_cases c14 : 0 ≤ x30_2
                · rw [if_pos c14] at H
                  have c14b0 : decide (0 ≤ x30_2) = true := decide_eq_true c14
                  clear c14
                  by_cases c15 : x30_2 < (t492.length : Int)
                  · rw [if_pos c15] at H
                    have c15b0 : decide (x30_2 < (t492.length : Int)) = true := decide_eq_true c15
                    clear c15
                    by_cases c16 : x10_2 = true
                    · subst c16
                      have H1 : ((spec_l1Has.f k2 (rd_L5 t492 x30_2) x25_1).bind fun t497 => (spec_AlwaysPacked.l1 k2 t492 x8_1 x25_1 t497 (l0.length : Int) x25_1 t492 (t492.length : Int) (wrap64 (x30_2 + 1)))) = some (r1, r2) := by rw [if_pos rfl] at H; exact H
                      clear H
                      have H := H1
                      clear H1
                      replace H := Option.bind_eq_some_iff.mp H
                      obtain ⟨t497, A170, H⟩ := H
                      replace H : (spec_AlwaysPacked.l1 k2 t492 x8_1 x25_1 t497 (l0.length : Int) x25_1 t492 (t492.length : Int) (wrap64 (x30_2 + 1))) = some (r1, r2) := H
                      have A17 := Aside0.mk A170
                      clear A170
                      have H' := Aside0.mk H
                      clear H
                      have p496 : 0 ≤ (x30_2 : Int) := of_decide_eq_true (by first | (with_reducible assumption) | assumption)
                      have q496 : x30_2 < (t492.length : Int) := of_decide_eq_true (by first | (with_reducible assumption) | assumption)
                      obtain ⟨ad496, A496_0, c496_0, e496, hx496_0, hl496_0, hi496_0⟩ := at_L5 (Kd.N_reads' HO_28.out).2.2 x30_2 p496 q496
                      cases e496
                      obtain ⟨ce496, hce496, hMe496, hcc496⟩ := Kd.N_get HO_28.out [] x30_2 p496 (by first | exact q496 | exact of_decide_eq_true (by first | (with_reducible assumption) | assumption) | (have e_ := (Kd.N_reads' HO_28.out).1; omega))
                      obtain ⟨ua496_0, uc496_0, rfl, ul496_0, ge496_0⟩ := Kd.FK_slice_open hMe496
                      have hv496_0 := hcc496 0 _ rfl
                      rw [Nat.add_zero, show ((Kd.slice 3 (Kd.int .i64))).sz = 1 from rfl, Nat.mul_one] at hv496_0
                      replace hv496_0 := Option.some.inj (hv496_0.symm.trans hx496_0)
                      injection hv496_0 with hva_ hvn_ hvc_
                      rw [hva_] at ge496_0
                      rw [hvc_] at ul496_0
                      have HL496_0 := Aside0.mk (show Kd.V (Kd.int .i64) 3 _ w.heap.size _ _ (rd_L5 t492 x30_2) from Kd.V_mk ul496_0 ge496_0)
                      clear hva_ hvn_ hvc_ ge496_0 ul496_0
                      clear hcc496 hce496
                      have HR496_0 := Aside0.mk hi496_0
                      have HC496_0 := Aside0.mk hl496_0
                      clear hi496_0 hl496_0
                      replace p496 := eq_true p496
                      replace q496 := eq_true q496
                      go_wp2_with (first | (go_at_call 52; (with_reducible refine (spec_l1Has.calls k2 _ _ (rd_L5 t492 x30_2) x25_1 t497 _ ?side1 ?side2 A17.out).mono ?_); (case side1 => repeat (first | exact (by repeat (first | (with_reducible exact HR496_0.out) | (with_reducible refine Kd.C_alloc ?_ _) | (with_reducible refine Kd.C_drewN ?_ _) | (with_reducible refine Kd.C_drew ?_) | exact HR496_0.out)) | (with_reducible refine Kd.C_alloc ?_ _) | (with_reducible refine Kd.C_drewN ?_ _) | (with_reducible refine Kd.C_drew ?_))); (case side2 => exact HC496_0.out); rintro e w' ⟨rfl, ⟨nd, rfl⟩⟩))
                      go_roundg k2
                      case measure => have := HK1.out; have := HK2.out; omega
                      case rel => exact ⟨(t497), (wrap64 (x30_2 + 1)), (by first | rfl | (simp; done) | (simp [*]; done)), (by first | rfl | (simp; done) | (simp [*]; done)), H', ⟨by have := HK1.out; have := HK2.out; omega⟩, ⟨by (with_reducible repeat (first | apply Kd.N_alloc | apply Kd.N_drewN | apply Kd.N_drew)); exact HO_6.out⟩, ⟨by (with_reducible repeat (first | apply Kd.R_alloc | apply Kd.R_drewN | apply Kd.R_drew)); exact HO_8.out⟩, ⟨by (with_reducible repeat (first | apply Kd.N_alloc | apply Kd.N_drewN | apply Kd.N_drew)); exact HO_28.out⟩, ⟨by (with_reducible repeat (first | refine blk_drewN ?_ _ | refine blk_drew ?_ | refine blk_alloc ?_ _)); exact BK490.out⟩, ⟨by repeat (first | (with_reducible first | exact HB.out | apply below_alloc | apply pw_below_drewN | apply below_drew1 | refine below_set ?_ GE490.out) | exact HB.out)⟩⟩
                    · replace c16 := Bool.eq_false_iff.mpr c16
                      subst c16
                      have H1 : (spec_AlwaysPacked.l1 k2 t492 x8_1 x25_1 false (l0.length : Int) x25_1 t492 (t492.length : Int) (wrap64 (x30_2 + 1))) = some (r1, r2) := by rw [if_neg (show ¬ (false = true) by decide)] at H; exact H
                      clear H
                      have H := H1
                      clear H1
                      have H' := Aside0.mk H
                      clear H
                      have p496 : 0 ≤ (x30_2 : Int) := of_decide_eq_true (by first | (with_reducible assumption) | assumption)
                      have q496 : x30_2 < (t492.length : Int) := of_decide_eq_true (by first | (with_reducible assumption) | assumption)
                      obtain ⟨ad496, A496_0, c496_0, e496, hx496_0, hl496_0, hi496_0⟩ := at_L5 (Kd.N_reads' HO_28.out).2.2 x30_2 p496 q496
                      cases e496
                      obtain ⟨ce496, hce496, hMe496, hcc496⟩ := Kd.N_get HO_28.out [] x30_2 p496 (by first | exact q496 | exact of_decide_eq_true (by first | (with_reducible assumption) | assumption) | (have e_ := (Kd.N_reads' HO_28.out).1; omega))
                      obtain ⟨ua496_0, uc496_0, rfl, ul496_0, ge496_0⟩ := Kd.FK_slice_open hMe496
                      have hv496_0 := hcc496 0 _ rfl
                      rw [Nat.add_zero, show ((Kd.slice 3 (Kd.int .i64))).sz = 1 from rfl, Nat.mul_one] at hv496_0
                      replace hv496_0 := Option.some.inj (hv496_0.symm.trans hx496_0)
                      injection hv496_0 with hva_ hvn_ hvc_
                      rw [hva_] at ge496_0
                      rw [hvc_] at ul496_0
                      have HL496_0 := Aside0.mk (show Kd.V (Kd.int .i64) 3 _ w.heap.size _ _ (rd_L5 t492 x30_2) from Kd.V_mk ul496_0 ge496_0)
                      clear hva_ hvn_ hvc_ ge496_0 ul496_0
                      clear hcc496 hce496
                      have HR496_0 := Aside0.mk hi496_0
                      have HC496_0 := Aside0.mk hl496_0
                      clear hi496_0 hl496_0
                      replace p496 := eq_true p496
                      replace q496 := eq_true q496
                      go_wp2
                      go_roundg k2
                      case measure => have := HK1.out; have := HK2.out; omega
                      case rel => exact ⟨(false), (wrap64 (x30_2 + 1)), (by first | rfl | (simp; done) | (simp [*]; done)), (by first | rfl | (simp; done) | (simp [*]; done)), H', ⟨by have := HK1.out; have := HK2.out; omega⟩, ⟨by (with_reducible repeat (first | apply Kd.N_alloc | apply Kd.N_drewN | apply Kd.N_drew)); exact HO_6.out⟩, ⟨by (with_reducible repeat (first | apply Kd.R_alloc | apply Kd.R_drewN | apply Kd.R_drew)); exact HO_8.out⟩, ⟨by (with_reducible repeat (first | apply Kd.N_alloc | apply Kd.N_drewN | apply Kd.N_drew)); exact HO_28.out⟩, ⟨by (with_reducible repeat (first | refine blk_drewN ?_ _ | refine blk_drew ?_ | refine blk_alloc ?_ _)); exact BK490.out⟩, ⟨by repeat (first | (with_reducible first | exact HB.out | apply below_alloc | apply pw_below_drewN | apply below_drew1 | refine below_set ?_ GE490.out) | exact HB.out)⟩⟩
                  · rw [if_neg c15] at H
                    exact absurd H (by simp)
                · rw [if_neg c14] at H
                  exact absurd H (by simp)
              · rw [if_neg c13] at H
                have c13b0 : decide (x30_2 < (t492.length : Int)) = false := decide_eq_false c13
                clear c13
                by_cases c18 : x10_2 = true
                · subst c18
                  have H1 : (if x8_1.length < 17592186044416 then (spec_AlwaysPacked.l0 k2 t492 (x8_1 ++ [x25_1]) (l0.length : Int) (wrap64 (x25_1 + 1))) else (none)) = some (r1, r2) := by rw [if_pos rfl] at H; exact H
                  clear H
                  have H := H1
                  clear H1
                  by_cases c19 : x8_1.length < 17592186044416
                  · rw [if_pos c19] at H
                    have LMc19 := Aside0.mk c19
                    clear c19
                    obtain ⟨y498, hy498⟩ : ∃ y_ : List Int, y_ = (x8_1 ++ [x25_1]) := ⟨_, rfl⟩
                    replace H : (spec_AlwaysPacked.l0 k2 t492 y498 (l0.length : Int) (wrap64 (x25_1 + 1))) = some (r1, r2) := by first | (rw [hy498]; with_reducible exact H) | (have H2_ := (Option.bind_some _ _).symm.trans H; rw [hy498]; with_reducible exact H2_) | (have H2_ := (Option.bind_some _ _).symm.trans H; with_reducible exact H2_) | with_reducible exact H | (rw [hy498]; exact H) | exact H
                    have Ny498 := Aside0.mk hy498
                    clear hy498
                    have H' := Aside0.mk H
                    clear H
                    go_wp2_with (first | ((with_reducible refine gate_builtin (b := .append) (xs := #[.tmp 42, .tmp 44]) rfl ?_); at_builtin; refine Kd.R_append (Kd.int .i64) (w0 := w) w.heap.size rfl (.tmp 42) (.tmp 44) 34 3 (.int .i64 0) 8 rfl Try.underlying34 info3 rfl (by decide) (by omega) u8 x8_1 x25_1 [.int .i64 x25_1] (fun _ => True) (fun _ => False) rfl rfl ?aP (fun _ hk => hk.elim) ?aF ?aO ?aB ?aS ?aL ?_; (case aP => exact rfl); (case aB => exact (by repeat (first | (with_reducible first | exact HB.out | apply below_alloc | apply pw_below_drewN | apply below_drew1 | refine below_set ?_ GE490.out) | exact HB.out))); (case aF => exact (fun _ _ => trivial)); (case aO => exact (by (with_reducible repeat (first | apply Kd.R_alloc | apply Kd.R_drewN | apply Kd.R_drew)); exact HO_8.out)); (case aS => exact (below_size (by repeat (first | (with_reducible first | exact HB.out | apply below_alloc | apply pw_below_drewN | apply below_drew1 | refine below_set ?_ GE490.out) | exact HB.out)))); (case aL => have := LMc19.out; omega); intro v499 w20 ho hb hg hat; rw [← Ny498.out] at ho; have n0_ := Aside0.mk (Kd.N_afterv (ok := (fun k_ => k_ ≠ gb490)) (by (with_reducible repeat (first | apply Kd.N_alloc | apply Kd.N_drewN | apply Kd.N_drew)); exact Kd.N_mono HO_6.out (fun _ hk => ⟨hk.2, hk.1⟩)) hg hat); have n1_ := Aside0.mk (Kd.N_afterv (ok := (fun k_ => k_ ≠ gb490)) (by (with_reducible repeat (first | apply Kd.N_alloc | apply Kd.N_drewN | apply Kd.N_drew)); exact Kd.N_mono HO_28.out (fun _ hk => ⟨hk.2, hk.1⟩)) hg hat); have n2_ := Aside0.mk (blk_grown (g := gb490) (o := .cells #[.int .i64 a1_0, .int .i64 a1_1] 30 (0, 0)) (by (with_reducible repeat (first | refine blk_drewN ?_ _ | refine blk_drew ?_ | refine blk_alloc ?_ _)); exact BK490.out) hg (Kd.R_ne HO_8.out BK490.out (by decide))); have n3_ := Aside0.mk (hb); have n4_ := Aside0.mk (ho); clear HO_6; clear HO_28; clear BK490; clear HB; clear HO_8; have HO_6 := n0_; have HO_28 := n1_; have BK490 := n2_; have HB := n3_; have HO500 := n4_; clear n0_ n1_ n2_ n3_ n4_; clear ho hb hg hat))
                    go_roundg k2
                    case measure => have := HK1.out; have := HK2.out; omega
                    case rel => exact ⟨(y498), (wrap64 (x25_1 + 1)), (by first | rfl | (simp; done) | (simp [*]; done)), H', ⟨by have := HK1.out; have := HK2.out; omega⟩, ⟨by (with_reducible repeat (first | apply Kd.N_alloc | apply Kd.N_drewN | apply Kd.N_drew)); exact Kd.N_mono HO_6.out (fun _ hk => ⟨hk.2, hk.1⟩)⟩, ⟨by (with_reducible repeat (first | apply Kd.R_alloc | apply Kd.R_drewN | apply Kd.R_drew)); exact HO500.out⟩, ⟨by (with_reducible repeat (first | refine blk_drewN ?_ _ | refine blk_drew ?_ | refine blk_alloc ?_ _)); exact BK490.out⟩, ⟨by repeat (first | (with_reducible first | exact HB.out | apply below_alloc | apply pw_below_drewN | apply below_drew1 | refine below_set ?_ GE490.out) | exact HB.out)⟩⟩
                  · rw [if_neg c19] at H
                    exact absurd H (by simp)
                · replace c18 := Bool.eq_false_iff.mpr c18
                  subst c18
                  have H1 : (spec_AlwaysPacked.l0 k2 t492 x8_1 (l0.length : Int) (wrap64 (x25_1 + 1))) = some (r1, r2) := by rw [if_neg (show ¬ (false = true) by decide)] at H; exact H
                  clear H
                  have H := H1
                  clear H1
                  have H' := Aside0.mk H
                  clear H
                  go_wp2
                  go_roundg k2
                  case measure => have := HK1.out; have := HK2.out; omega
                  case rel => exact ⟨(x8_1), (wrap64 (x25_1 + 1)), (by first | rfl | (simp; done) | (simp [*]; done)), H', ⟨by have := HK1.out; have := HK2.out; omega⟩, ⟨by (with_reducible repeat (first | apply Kd.N_alloc | apply Kd.N_drewN | apply Kd.N_drew)); exact HO_6.out⟩, ⟨by (with_reducible repeat (first | apply Kd.R_alloc | apply Kd.R_drewN | apply Kd.R_drew)); exact HO_8.out⟩, ⟨by (with_reducible repeat (first | refine blk_drewN ?_ _ | refine blk_drew ?_ | refine blk_alloc ?_ _)); exact BK490.out⟩, ⟨by repeat (first | (with_reducible first | exact HB.out | apply below_alloc | apply pw_below_drewN | apply below_drew1 | refine below_set ?_ GE490.out) | exact HB.out)⟩⟩
        · rw [if_neg c11] at H
          have c11b0 : decide (x25_1 < (l0.length : Int)) = false := decide_eq_false c11
          clear c11
          simp only [Option.some.injEq, Prod.mk.injEq] at H
          obtain ⟨rfl, rfl⟩ := H
          go_wp2
          go_ret2
          exact ⟨_, by first | rfl | (simp [errW_none, errW_some] <;> rfl) | (simp [*, errW_none, errW_some] <;> rfl), by (with_reducible repeat (first | apply Kd.R_alloc | apply Kd.R_drewN | apply Kd.R_drew)); exact HO_8.out, by repeat (first | (with_reducible first | exact HB.out | apply below_alloc | apply pw_below_drewN | apply below_drew1 | refine below_set ?_ GE490.out) | exact HB.out)⟩
  · replace c4 := Bool.eq_false_iff.mpr c4
    subst c4
    have H1 : (some (([] : List Int), false)) = some (r1, r2) := by rw [if_neg (show ¬ (false = true) by decide)] at H; exact H
    clear H
    have H := H1
    clear H1
    simp only [Option.some.injEq, Prod.mk.injEq] at H
    obtain ⟨rfl, rfl⟩ := H
    go_enter Try.func30, Try.ntmps30
    go_wp2_with (first | ((with_reducible refine gate_dst (N := 3) rfl ?_); refine box_event ?hg (N := 3) ?hd (cs := #[.int .i64 a1_0, .int .i64 a1_1]) (t := 30) ?hr ?_; (case hd => rfl); (case hg => rfl); (case hr => first | (go_simp; done) | (go_simp; rfl)); intro gb490 hg w21 hbox hb; have n0_ := Aside0.mk (below_step (by repeat (first | (with_reducible first | exact HB.out | apply below_alloc | apply pw_below_drewN | apply below_drew1) | exact HB.out)) hb); have n1_ := Aside0.mk (hbox); have n2_ := Aside0.mk ((by rw [hg]; exact (below_size (by repeat (first | (with_reducible first | exact HB.out | apply below_alloc | apply pw_below_drewN | apply below_drew1) | exact HB.out))) : w.heap.size ≤ gb490)); have n3_ := Aside0.mk ((by rw [hg]; exact (below_size (by repeat (first | (with_reducible first | exact HB.out | apply below_alloc | apply pw_below_drewN | apply below_drew1) | exact HB.out))) : w.heap.size ≤ gb490)); clear HB; have HB := n0_; have BK490 := n1_; have GW490 := n2_; have GE490 := n3_; clear n0_ n1_ n2_ n3_; clear hb hbox hg; have hcz22_0 : w21.cell? ⟨gb490, 0, none⟩ = some (.int .i64 a1_0) := (blk_cell BK490.out 0).trans rfl; have hcz22_1 : w21.cell? ⟨gb490, 1, none⟩ = some (.int .i64 a1_1) := (blk_cell BK490.out 1).trans rfl; have hfz22_0 := blk_frozen BK490.out 0; have hfz22_1 := blk_frozen BK490.out 1) | ((with_reducible refine gate_callee (f := 36) rfl ?_); refine goesL_ (some 15) rfl rfl Try.func36 (by kernel_rfl) rfl #[.slice A0 l0.length c0, .agg #[.int .i64 a1_0, .int .i64 a1_1]] rfl (by (try simp only [List.map_toArray, List.map_cons, List.map_nil]); first | done | rfl | (simp only [List.length_drop, List.length_take]; rfl)) ?_; (with_reducible refine (spec_suAsked.calls k _ _ l0 a1_0 a1_1 false _ ?side1 ?side2 A3.out).mono ?_); (case side1 => repeat (first | exact (Kd.C_below HR0.out HB.out) | (with_reducible refine Kd.C_alloc ?_ _) | (with_reducible refine Kd.C_drewN ?_ _) | (with_reducible refine Kd.C_drew ?_))); (case side2 => exact HC0.out); rintro e w23 ⟨rfl, hb⟩; refine ⟨_, rfl, ?_⟩; have n0_ := Aside0.mk (blk_below (g := gb490) (o := .cells #[.int .i64 a1_0, .int .i64 a1_1] 30 (0, 0)) (by (with_reducible repeat (first | refine blk_drewN ?_ _ | refine blk_drew ?_ | refine blk_alloc ?_ _)); exact BK490.out) hb); have n1_ := Aside0.mk (below_step (by repeat (first | (with_reducible first | exact HB.out | apply below_alloc | apply pw_below_drewN | apply below_drew1 | refine below_set ?_ GE490.out) | exact HB.out)) hb); clear BK490; clear HB; have BK490 := n0_; have HB := n1_; clear n0_ n1_; (try clear hb); (try clear hb2); (try clear hk); (try clear hi)))
    go_ret2
    exact ⟨_, by first | rfl | (simp [errW_none, errW_some] <;> rfl) | (simp [*, errW_none, errW_some] <;> rfl), by first | exact Kd.R_nil _ _ _ _ _ | exact Kd.N_nil _ _ _ _ _ | exact Kd.V_nil _ _ _ _ _ | exact Kd.Q_nil _ _ _ _ _ | exact Kd.S_nil _ _ _ _ _, by repeat (first | (with_reducible first | exact HB.out | apply below_alloc | apply pw_below_drewN | apply below_drew1 | refine below_set ?_ GE490.out) | exact HB.out)⟩

end Go.Proofs.Ytkaihdpmjlhlaaa.Q

namespace Go.Proofs.Ytkaihdpmjlhlaaa.Q
open Go.RowKit Go.Shelf Go.Proofs.YtkaihdpmjlhlaaaW.PrintWords Go.Proofs.YtkaihdpmjlhlaaaW.PrintLast Go.Proofs.YtkaihdpmjlhlaaaW.PrintMore
set_option linter.unusedVariables false
set_option linter.unusedSimpArgs false

theorem Two.later {σ : Type} {items : List Item} {S : Nat → Prop} {I : σ → World → Prop} {base : Nat} {w w1 : World} {ga : Nat} {bda fra : Array Value} {ge : Nat} {bde fre : Array Value} {accept : Int × Int × Int → Bool} {step : σ → List Int → σ}
    (T : Two items S I base w ga bda fra ge bde fre accept step) (h : Fr S w w1) : Two items S I base w1 ga bda fra ge bde fre accept step :=
  ⟨T.ea, T.ee, T.st, fun W x hF => T.acc W x (h.trans hF), fun s W v ch hF => T.each s W v ch (h.trans hF)⟩

/-- All lists of items, in order. -/
def allV (n : Nat) : List (List Int) := [] :: loopV n [] 0

set_option maxRecDepth 100000 in
set_option maxHeartbeats 4000000 in
theorem choices_calls {σ : Type} (items : List Item) (A0 : Option Addr) (c0 : Nat) (S : Nat → Prop) (I : σ → World → Prop) (base : Nat) (w : World) (ga : Nat) (bda fra : Array Value) (ge : Nat) (bde fre : Array Value) (accept : Int × Int × Int → Bool) (step : σ → List Int → σ) (s : σ)
    (hn : items.length ≤ 1000) (T : Two items S I base w ga bda fra ge bde fre accept step) (hb : base ≤ w.heap.size) (hSl : ∀ k, S k → k < w.heap.size)
    (hC : ∀ W, Fr S w W → Kd.C k49 W A0 items.length items) (hc0 : items.length ≤ c0) (hI : I s w) :
    Calls Try.prog 63 #[.slice A0 items.length c0, .func (.func ga) bda fra, .func (.func ge) bde fre] w fun e w' => e = .returned (.tuple #[]) ∧ I ((allV items.length).foldl (visit items accept step) s) w' ∧ Fr S w w' := by
  have x1 := Boxed.new w 28 (.slice A0 items.length c0)
  obtain ⟨w1, e1⟩ : ∃ w1, w.alloc (.cells #[.slice A0 items.length c0] 28) = w1 := ⟨_, rfl⟩
  have b1 : Below w.heap.size w w1 := by rw [← e1]; exact (Below.refl _ w).alloc (Nat.le_refl _) _
  rw [e1] at x1
  have x2 := Boxed.new w1 69 (.func (.func ga) bda fra)
  have y1 := x1.alloc (.cells #[.func (.func ga) bda fra] 69)
  obtain ⟨w2, e2⟩ : ∃ w2, w1.alloc (.cells #[.func (.func ga) bda fra] 69) = w2 := ⟨_, rfl⟩
  have b2 : Below w.heap.size w w2 := by rw [← e2]; exact b1.alloc b1.size _
  rw [e2] at x2 y1
  have x3 := Boxed.new w2 75 (.func (.func ge) bde fre)
  have y2 := x2.alloc (.cells #[.func (.func ge) bde fre] 75)
  have u1 := y1.alloc (.cells #[.func (.func ge) bde fre] 75)
  obtain ⟨w3, e3⟩ : ∃ w3, w2.alloc (.cells #[.func (.func ge) bde fre] 75) = w3 := ⟨_, rfl⟩
  have b3 : Below w.heap.size w w3 := by rw [← e3]; exact b2.alloc b2.size _
  rw [e3] at x3 y2 u1
  obtain ⟨fv, hfv⟩ : ∃ fv : Value, fv = .func (.func 83) #[] #[.pointer (some ⟨w.heap.size, 0, none⟩), .pointer (some ⟨w1.heap.size, 0, none⟩), .pointer (some ⟨w2.heap.size, 0, none⟩), .pointer (some ⟨w3.heap.size, 0, none⟩)] := ⟨_, rfl⟩
  have x4 := Boxed.new w3 88 fv
  have y3 := x3.alloc (.cells #[fv] 88)
  have u2 := y2.alloc (.cells #[fv] 88)
  have v1 := u1.alloc (.cells #[fv] 88)
  obtain ⟨w4, e4⟩ : ∃ w4, w3.alloc (.cells #[fv] 88) = w4 := ⟨_, rfl⟩
  have b4 : Below w.heap.size w w4 := by rw [← e4]; exact b3.alloc b3.size _
  rw [e4] at x4 y3 u2 v1
  have F4 : Fr S w w4 := Fr.of b4
  have nS : ∀ k, w.heap.size ≤ k → ¬ S k := fun k hk hs => by have := hSl k hs; omega
  have hcall := choose_calls items A0 c0 S I base w4 ga bda fra ge bde fre accept step w.heap.size w1.heap.size (w2.heap.size) (w3.heap.size) hn (T.later F4) (Nat.le_trans hb b4.size) (fun k hk => Nat.lt_of_lt_of_le (hSl k hk) b4.size) (fun W h => hC W (F4.trans h)) hc0 v1 u2 y3 (hfv ▸ x4) (nS _ (Nat.le_refl _)) (nS _ b1.size) (nS _ b2.size) (nS _ b3.size)
    items.length s w4 (.slice none 0 0) [] 0 (by omega) (Fr.refl _ _) (T.st _ _ _ hI b4) (Kd.R_nil _ _ _ _ _) (fun x hx => by cases hx) (by simp)
  have HCALL := Aside0.mk hcall
  have q4 := x4.cell
  have HF4 := Aside0.mk F4
  clear hcall x1 x2 x3 x4 y1 y2 y3 u1 u2 v1 b1 b2 b3 b4 T hC hI F4
  subst hfv
  go_enter Try.func63, Try.ntmps63
  go_wp2_with (go_at_call 83; refine HCALL.out.mono ?_; rintro e w5 ⟨rfl, hI5, hF5⟩)
  go_end0
  exact ⟨rfl, hI5, HF4.out.trans hF5⟩

/-! bestOf -/
abbrev Best := List Int × Int × Int
def bestStep (items : List Item) (sc : List Int → Int × Int × Int → Int) (s : Best) (ch : List Int) : Best :=
  if s.2.1 < sc ch (tot items ch) then (ch, sc ch (tot items ch), 1) else if sc ch (tot items ch) = s.2.1 then (s.1, s.2.1, wrap64 (s.2.2 + 1)) else s
/-- What the score is. -/
def ScoreOk (g : Nat) (sc : List Int → Int × Int × Int → Int) : Prop :=
  ∀ (W : World) (A : Option Addr) (c : Nat) (ch : List Int) (x : Int × Int × Int), Kd.C kInt W A ch.length ch → ch.length ≤ c →
    Calls Try.prog g #[.slice A ch.length c, valTot x] W fun e w' => e = .returned (.int .i64 (sc ch x)) ∧ Below W.heap.size W w'
/-- The three variables of bestOf. -/
def Three (base Bb Bm Bk : Nat) (s : Best) (W : World) : Prop :=
  (∃ v, Boxed W Bb 34 v ∧ Kd.R kInt 3 W base (fun k => ¬ (k = Bb ∨ k = Bm ∨ k = Bk)) v s.1) ∧ Boxed W Bm 3 (.int .i64 s.2.1) ∧ Boxed W Bk 3 (.int .i64 s.2.2)
theorem Three.later {base Bb Bm Bk : Nat} {s : Best} {W W' : World} (h : Three base Bb Bm Bk s W) (hb : Below W.heap.size W W') : Three base Bb Bm Bk s W' := by
  obtain ⟨⟨v, h1, h2⟩, h3, h4⟩ := h
  exact ⟨⟨v, box_below h1 hb, Kd.R_below h2 hb⟩, box_below h3 hb, box_below h4 hb⟩

set_option maxRecDepth 100000 in
set_option maxHeartbeats 4000000 in
theorem bestOf1_calls (items : List Item) (g : Nat) (sc : List Int → Int × Int × Int → Int) (eg : ∀ args w, (callFunc g args).run Try.prog w = .ok (.enter g args) w) (hsc : ScoreOk g sc) (base Bs Bb Bm Bk : Nat) (hbm : Bb ≠ Bm) (hbk : Bb ≠ Bk) (hmk : Bm ≠ Bk)
    (s : Best) (W : World) (v : Value) (ch : List Int) (hs : Boxed W Bs 58 (.func (.func g) #[] #[])) (hI : Three base Bb Bm Bk s W) (hv : Kd.R kInt 3 W base (fun k => ¬ (k = Bb ∨ k = Bm ∨ k = Bk)) v ch) :
    Calls Try.prog 78 #[v, valTot (tot items ch), .pointer (some ⟨Bs, 0, none⟩), .pointer (some ⟨Bm, 0, none⟩), .pointer (some ⟨Bb, 0, none⟩), .pointer (some ⟨Bk, 0, none⟩)] W
      fun e w' => e = .returned (.tuple #[]) ∧ Three base Bb Bm Bk (bestStep items sc s ch) w' ∧ Fr (fun k => k = Bb ∨ k = Bm ∨ k = Bk) W w' := by
  obtain ⟨A1, c1, rfl, hc1, hC1⟩ := Kd.R_reads hv
  have HI := Aside0.mk hI
  have HV := Aside0.mk hv
  have HC1 := Aside0.mk hC1
  have XS := Aside0.mk hs
  clear hI hv hC1 hs
  have q1 := (XS.out.alloc (.cells #[.int .i64 (tot items ch).1, .int .i64 (tot items ch).2.1, .int .i64 (tot items ch).2.2] 49)).cell
  go_enter Try.func78, Try.ntmps78
  have hcall := hsc (W.alloc (.cells #[.int .i64 (tot items ch).1, .int .i64 (tot items ch).2.1, .int .i64 (tot items ch).2.2] 49)) A1 c1 ch (tot items ch) (Kd.C_below HC1.out ((Below.refl _ W).alloc (Nat.le_refl _) _)) hc1
  have B1 := Aside0.mk ((Below.refl _ W).alloc (Nat.le_refl _) (.cells #[.int .i64 (tot items ch).1, .int .i64 (tot items ch).2.1, .int .i64 (tot items ch).2.2] 49))
  generalize hn : sc ch (tot items ch) = n at hcall
  have HN := Aside0.mk hn
  clear hn
  have hbm2 := Ne.symm hbm
  have hbk2 := Ne.symm hbk
  have hmk2 := Ne.symm hmk
  obtain ⟨b, m, k⟩ := s
  by_cases h1 : m < n
  · go_wp2_with (go_at_fn g; refine hcall.mono ?_; rintro e w2 ⟨rfl, hb2⟩; have B2 := Aside0.mk (B1.out.trans (hb2.mono B1.out.size)); obtain ⟨⟨vb, xb, xr⟩, xm, xk⟩ := HI.out.later B2.out; have qm := xm.cell; have fm := xm.frozen; have fb := xb.frozen; have fk := xk.frozen; have qb := xb.cell; have qk := xk.cell)
    go_end0
    have hF : Fr (fun k => k = Bb ∨ k = Bm ∨ k = Bk) W (((w2.setCell ⟨Bb, 0, none⟩ (.slice A1 ch.length c1)).setCell ⟨Bm, 0, none⟩ (.int .i64 n)).setCell ⟨Bk, 0, none⟩ (.int .i64 1)) :=
      (((Fr.of B2.out).set _ _ (.inl (.inl rfl))).set _ _ (.inl (.inr (.inl rfl)))).set _ _ (.inl (.inr (.inr rfl)))
    refine ⟨rfl, ?_, hF⟩
    unfold bestStep
    rw [HN.out, if_pos h1]
    exact ⟨⟨_, ((xb.set _).other hbm _).other hbk _, R_fr HV.out hF (fun _ h => h)⟩, ((xm.other hbm2 _).set _).other hmk _, ((xk.other hbk2 _).other hmk2 _).set _⟩
  · by_cases h2 : n = m
    · go_wp2_with (go_at_fn g; refine hcall.mono ?_; rintro e w2 ⟨rfl, hb2⟩; have B2 := Aside0.mk (B1.out.trans (hb2.mono B1.out.size)); obtain ⟨⟨vb, xb, xr⟩, xm, xk⟩ := HI.out.later B2.out; have qm := xm.cell; have fm := xm.frozen; have fb := xb.frozen; have fk := xk.frozen; have qb := xb.cell; have qk := xk.cell)
      go_end0
      have hF : Fr (fun k => k = Bb ∨ k = Bm ∨ k = Bk) W (w2.setCell ⟨Bk, 0, none⟩ (.int .i64 (wrap64 (k + 1)))) := (Fr.of B2.out).set _ _ (.inl (.inr (.inr rfl)))
      refine ⟨rfl, ?_, hF⟩
      unfold bestStep
      rw [HN.out, if_neg (by simp only; omega), if_pos h2]
      exact ⟨⟨_, xb.other hbk _, R_fr xr (Fr.set (Fr.refl _ w2) _ _ (.inl (.inr (.inr rfl)))) (fun _ h => h)⟩, xm.other hmk _, xk.set _⟩
    · go_wp2_with (go_at_fn g; refine hcall.mono ?_; rintro e w2 ⟨rfl, hb2⟩; have B2 := Aside0.mk (B1.out.trans (hb2.mono B1.out.size)); obtain ⟨⟨vb, xb, xr⟩, xm, xk⟩ := HI.out.later B2.out; have qm := xm.cell; have fm := xm.frozen; have fb := xb.frozen; have fk := xk.frozen; have qb := xb.cell; have qk := xk.cell)
      go_end0
      refine ⟨rfl, ?_, Fr.of B2.out⟩
      unfold bestStep
      rw [HN.out, if_neg (by simp only; omega), if_neg (by simp only; omega)]
      exact ⟨⟨_, xb, xr⟩, xm, xk⟩
end Go.Proofs.Ytkaihdpmjlhlaaa.Q

namespace Go.Proofs.Ytkaihdpmjlhlaaa.Q
open Go.RowKit Go.Shelf Go.Proofs.YtkaihdpmjlhlaaaW.PrintWords Go.Proofs.YtkaihdpmjlhlaaaW.PrintLast Go.Proofs.YtkaihdpmjlhlaaaW.PrintMore
set_option linter.unusedVariables false
set_option linter.unusedSimpArgs false

/-- Does a suitcase hold so much? -/
def holdsC (a b : Int) (x : Int × Int × Int) : Bool := decide (x.1 ≤ a) && decide (x.2.1 ≤ b)
theorem holds_f (a b : Int) (x : Int × Int × Int) : impl_Case_holds.f a b x.1 x.2.1 x.2.2 = some (holdsC a b x) := by
  unfold impl_Case_holds.f holdsC
  by_cases h : x.1 ≤ a <;> simp [h]
/-- The first choice with the greatest score, this, and how many have it. -/
def bestAll (items : List Item) (a b : Int) (sc : List Int → Int × Int × Int → Int) : Best := (allV items.length).foldl (visit items (holdsC a b) (bestStep items sc)) ([], -1, 0)

set_option maxRecDepth 100000 in
set_option maxHeartbeats 4000000 in
theorem bestOf_calls (items : List Item) (A0 : Option Addr) (c0 : Nat) (a b : Int) (g : Nat) (sc : List Int → Int × Int × Int → Int) (w : World) (eg : ∀ args w, (callFunc g args).run Try.prog w = .ok (.enter g args) w) (hsc : ScoreOk g sc)
    (hn : items.length ≤ 1000) (hr0 : Kd.C k49 w A0 items.length items) (hc0 : items.length ≤ c0) (r : Best) (hr : bestAll items a b sc = r) :
    Calls Try.prog 45 #[.slice A0 items.length c0, .agg #[.int .i64 a, .int .i64 b], .func (.func g) #[] #[]] w fun e w' => ∃ v0_ : Value, e = .returned (.tuple #[v0_, .int .i64 r.2.1, .int .i64 r.2.2]) ∧ Kd.R kInt 3 w' w.heap.size (fun _ => True) v0_ r.1 ∧ Below w.heap.size w w' := by
  have HR0 := Aside0.mk hr0
  have HSC := Aside0.mk hsc
  have HRR := Aside0.mk hr
  clear hr0 hsc hr
  go_enter Try.func45, Try.ntmps45
  go_wp2_with fail
  have x1 := (((Boxed.new (w.alloc (.cells #[.int .i64 a, .int .i64 b] 30)) 58 (.func (.func g) #[] #[])).alloc (.cells #[.slice none 0 0] 34)).alloc (.cells #[.int .i64 (-1)] 3)).alloc (.cells #[.int .i64 0] 3)
  have x2 := ((Boxed.new ((w.alloc (.cells #[.int .i64 a, .int .i64 b] 30)).alloc (.cells #[.func (.func g) #[] #[]] 58)) 34 (.slice none 0 0)).alloc (.cells #[.int .i64 (-1)] 3)).alloc (.cells #[.int .i64 0] 3)
  have x3 := (Boxed.new (((w.alloc (.cells #[.int .i64 a, .int .i64 b] 30)).alloc (.cells #[.func (.func g) #[] #[]] 58)).alloc (.cells #[.slice none 0 0] 34)) 3 (.int .i64 (-1))).alloc (.cells #[.int .i64 0] 3)
  have x4 := Boxed.new ((((w.alloc (.cells #[.int .i64 a, .int .i64 b] 30)).alloc (.cells #[.func (.func g) #[] #[]] 58)).alloc (.cells #[.slice none 0 0] 34)).alloc (.cells #[.int .i64 (-1)] 3)) 3 (.int .i64 0)
  have b5 : Below w.heap.size w (((((w.alloc (.cells #[.int .i64 a, .int .i64 b] 30)).alloc (.cells #[.func (.func g) #[] #[]] 58)).alloc (.cells #[.slice none 0 0] 34)).alloc (.cells #[.int .i64 (-1)] 3)).alloc (.cells #[.int .i64 0] 3)) :=
    (((((Below.refl _ w).alloc (by simp) _).alloc (by simp) _).alloc (by simp <;> omega) _).alloc (by simp <;> omega) _).alloc (by simp <;> omega) _
  have z5 : (((((w.alloc (.cells #[.int .i64 a, .int .i64 b] 30)).alloc (.cells #[.func (.func g) #[] #[]] 58)).alloc (.cells #[.slice none 0 0] 34)).alloc (.cells #[.int .i64 (-1)] 3)).alloc (.cells #[.int .i64 0] 3)).heap.size = w.heap.size + 5 := by simp
  generalize (((((w.alloc (.cells #[.int .i64 a, .int .i64 b] 30)).alloc (.cells #[.func (.func g) #[] #[]] 58)).alloc (.cells #[.slice none 0 0] 34)).alloc (.cells #[.int .i64 (-1)] 3)).alloc (.cells #[.int .i64 0] 3)) = W5 at x1 x2 x3 x4 b5 z5 ⊢
  simp only [show ∀ (W : World) (o : Obj), (W.alloc o).heap.size = W.heap.size + 1 from fun W o => by simp] at x1 x2 x3 x4
  have h3 : Three w.heap.size (w.heap.size + 1 + 1) (w.heap.size + 1 + 1 + 1) (w.heap.size + 1 + 1 + 1 + 1) ([], -1, 0) W5 := ⟨⟨_, x2, Kd.R_nil _ _ _ _ _⟩, x3, x4⟩
  have hT : Two items (fun k => k = w.heap.size + 1 + 1 ∨ k = w.heap.size + 1 + 1 + 1 ∨ k = w.heap.size + 1 + 1 + 1 + 1) (Three w.heap.size (w.heap.size + 1 + 1) (w.heap.size + 1 + 1 + 1) (w.heap.size + 1 + 1 + 1 + 1)) w.heap.size W5
      60 #[.agg #[.int .i64 a, .int .i64 b]] #[] 78 #[] #[.pointer (some ⟨w.heap.size + 1, 0, none⟩), .pointer (some ⟨w.heap.size + 1 + 1 + 1, 0, none⟩), .pointer (some ⟨w.heap.size + 1 + 1, 0, none⟩), .pointer (some ⟨w.heap.size + 1 + 1 + 1 + 1, 0, none⟩)] (holdsC a b) (bestStep items sc) := by
    refine ⟨enters_of Try.func60 (by kernel_rfl) rfl, enters_of Try.func78 (by kernel_rfl) rfl, fun s W W' h hb => h.later hb, fun W x _ => ?_, fun s W v ch hF hI hv _ _ _ => ?_⟩
    · exact impl_Case_holds.calls a b x.1 x.2.1 x.2.2 _ W (holds_f a b x)
    · exact bestOf1_calls items g sc eg HSC.out w.heap.size (w.heap.size + 1) (w.heap.size + 1 + 1) (w.heap.size + 1 + 1 + 1) (w.heap.size + 1 + 1 + 1 + 1) (by omega) (by omega) (by omega) s W v ch (box_fr x1 hF (by omega)) hI hv
  have hcall := choices_calls items A0 c0 _ _ w.heap.size W5 _ _ _ _ _ _ _ _ ([], -1, 0) hn hT b5.size (fun k hk => by rw [z5]; omega)
    (fun W h => Kd.C_below HR0.out (b5.trans (h.below (fun k hk => by omega) b5.size))) hc0 h3
  rw [show (allV items.length).foldl (visit items (holdsC a b) (bestStep items sc)) ([], -1, 0) = r from HRR.out] at hcall
  have B5 := Aside0.mk b5
  clear x1 x2 x3 x4 h3 hT b5 z5
  go_wp2_with (go_at_call 63; refine hcall.mono ?_; rintro e w6 ⟨rfl, ⟨⟨v, xb, xr⟩, xm, xk⟩, hF6⟩)
  obtain ⟨A1, c1, rfl⟩ := Kd.R_slice xr
  have q1 := xb.cell
  have q2 := xm.cell
  have q3 := xk.cell
  have HX := Aside0.mk xr
  clear xr
  go_region
  all_goals
    go_wp2
    go_ret3
    exact ⟨_, rfl, Kd.R_mono HX.out (fun _ _ => trivial), (B5.out.trans (hF6.below (fun k hk => by omega) B5.out.size)).drew⟩

/-- The totals' value. -/
theorem scoreValue_ok : ScoreOk 79 (fun _ x => x.2.2) := by
  intro W A c ch x hC hc
  go_enter Try.func79, Try.ntmps79
  go_wp2
  go_ret
  exact ⟨rfl, (Below.refl _ W).alloc (Nat.le_refl _) _⟩

def impl_byValue.f (l0 : List Item) (a1_0 a1_1 : Int) : Option (List Int × Int × Int) := if l0.length ≤ 1000 then some (bestAll l0 a1_0 a1_1 (fun _ x => x.2.2)) else none
set_option maxHeartbeats 2000000 in
theorem impl_byValue.calls (A0 : Option Addr) (c0 : Nat) (l0 : List Item) (a1_0 a1_1 : Int) (r1 : List Int) (r2 r3 : Int) (w : World) (hr0 : Kd.C k49 w A0 l0.length l0) (hc0 : l0.length ≤ c0) (h : impl_byValue.f l0 a1_0 a1_1 = some (r1, r2, r3)) :
    Calls Try.prog 48 #[.slice A0 l0.length c0, .agg #[.int .i64 a1_0, .int .i64 a1_1]] w fun e w' => ∃ v0_ : Value, e = .returned (.tuple #[v0_, .int .i64 r2, .int .i64 r3]) ∧ Kd.R (Kd.int .i64) 3 w' w.heap.size (fun _ => True) v0_ r1 ∧ Below w.heap.size w w' := by
  have hn : l0.length ≤ 1000 := by
    unfold impl_byValue.f at h
    split at h
    · assumption
    · cases h
  have hr : bestAll l0 a1_0 a1_1 (fun _ x => x.2.2) = (r1, r2, r3) := by
    unfold impl_byValue.f at h
    rw [if_pos hn] at h
    injection h
  have hcall := bestOf_calls l0 A0 c0 a1_0 a1_1 79 (fun _ x => x.2.2) (w.alloc (.cells #[.int .i64 a1_0, .int .i64 a1_1] 30)) (enters_of Try.func79 (by kernel_rfl) rfl) scoreValue_ok hn (Kd.C_below hr0 ((Below.refl _ w).alloc (Nat.le_refl _) _)) hc0 _ hr
  clear hr0 h hr
  go_enter Try.func48, Try.ntmps48
  go_wp2_with (go_at_call 45; refine hcall.mono ?_; rintro e w' ⟨v, rfl, hR, hb⟩; obtain ⟨A1, c1, rfl⟩ := Kd.R_slice hR)
  go_ret3
  exact ⟨_, rfl, Kd.R_lower hR (by simp), ((Below.refl _ w).alloc (Nat.le_refl _) _).trans (hb.mono (by simp))⟩
end Go.Proofs.Ytkaihdpmjlhlaaa.Q

namespace Go.Proofs.Ytkaihdpmjlhlaaa.Q
open Go.RowKit Go.Shelf Go.Sort Go.Proofs.YtkaihdpmjlhlaaaW.PrintWords Go.Proofs.YtkaihdpmjlhlaaaW.PrintLast Go.Proofs.YtkaihdpmjlhlaaaW.PrintMore
set_option linter.unusedVariables false
set_option linter.unusedSimpArgs false

abbrev encZ : Int → Value := Value.int .i64
/-- A row of whole numbers of one's own is nil, or it begins a block. -/
theorem R_block {e : Nat} {w : World} {base : Nat} {ok : Nat → Prop} {v : Value} {xs : List Int} (h : Kd.R (Kd.int .i64) e w base ok v xs) :
    (v = .slice none 0 0 ∧ xs = []) ∨ ∃ g c cur, v = .slice (some ⟨g, 0, none⟩) xs.length c ∧ base ≤ g ∧ ok g ∧ w.heap[g]? = some (.cells cur e (0, 0)) ∧ xs.length ≤ c ∧ c ≤ maxLen ∧ cur.size = c ∧ cur.toList.take xs.length = encs encZ xs := by
  have ho := Kd.own_of_R h
  rcases ho.2 with ⟨hv, hn⟩ | ⟨g, c, cur, hv, hb, hg, hnc, hcm, hs, ht⟩
  · exact .inl ⟨hv, List.eq_nil_of_length_eq_zero hn⟩
  · exact .inr ⟨g, c, cur, hv, hb, h.1 g (by rw [hv]; rfl), hg, hnc, hcm, by omega, by rw [Nat.mul_one] at ht; exact ht⟩
theorem block_R {e : Nat} {w : World} {base : Nat} {ok : Nat → Prop} {xs : List Int} {g c : Nat} {cur : Array Value} (hb : base ≤ g) (hok : ok g) (hg : w.heap[g]? = some (.cells cur e (0, 0))) (hnc : xs.length ≤ c) (hcm : c ≤ maxLen) (hs : cur.size = c) (ht : cur.toList.take xs.length = encs encZ xs) :
    Kd.R (Kd.int .i64) e w base ok (.slice (some ⟨g, 0, none⟩) xs.length c) xs :=
  Kd.R_of_own ⟨by simp [encs], .inr ⟨g, c, cur, rfl, hb, hg, hnc, hcm, by omega, by rw [Nat.mul_one]; exact ht⟩⟩ (fun k hk => by
    have : g = k := by simpa [Value.ownBlock] using hk
    subst this; exact hok)
theorem block_cell {e : Nat} {w : World} {xs : List Int} {g : Nat} {cur : Array Value} (hg : w.heap[g]? = some (.cells cur e (0, 0))) (ht : cur.toList.take xs.length = encs encZ xs) (j : Nat) (hj : j < xs.length) : w.cell? ⟨g, j, none⟩ = some (.int .i64 xs[j]) := by
  have h1 : (cur.toList.take xs.length)[j]? = (encs encZ xs)[j]? := by rw [ht]
  rw [List.getElem?_take_of_lt hj] at h1
  simp only [World.cell?, hg]
  rw [← Array.getElem?_toList, h1]
  simp [encs, List.getElem?_eq_getElem hj]
theorem block_frozen {e : Nat} {w : World} {g : Nat} {cur : Array Value} (hg : w.heap[g]? = some (.cells cur e (0, 0))) (j : Nat) : w.frozen? ⟨g, j, none⟩ = false := by simp [World.frozen?, hg]
theorem block_holds {e : Nat} {w : World} {xs : List Int} {g : Nat} {cur : Array Value} (hg : w.heap[g]? = some (.cells cur e (0, 0))) (ht : cur.toList.take xs.length = encs encZ xs) : Holds encZ w g 0 xs.toArray := fun j hj => by
  have hj' : j < xs.length := by simpa using hj
  refine ⟨?_, ?_⟩
  · rw [Nat.zero_add, block_cell hg ht j hj']; simp [hj']
  · rw [Nat.zero_add]; exact block_frozen hg j
theorem putCells_size (d : Array Int) (cur : Array Value) : (putCells encZ 0 d cur).size = cur.size := by simp [putCells]
theorem putCells_take (d : Array Int) (cur : Array Value) (m : Nat) (hm : m ≤ d.size) (hd : d.size ≤ cur.size) : (putCells encZ 0 d cur).toList.take m = encs encZ (d.toList.take m) := by
  apply List.ext_getElem?
  intro k
  by_cases hk : k < m
  · rw [List.getElem?_take_of_lt hk, Array.getElem?_toList]
    simp only [putCells, Array.getElem?_mapIdx]
    rw [Array.getElem?_eq_getElem (by omega), Option.map_some, if_pos ⟨by omega, by omega⟩]
    rw [show (encs encZ (d.toList.take m))[k]? = (d.toList.take m)[k]?.map encZ by unfold encs; rw [List.getElem?_map], List.getElem?_take_of_lt hk, Array.getElem?_toList, Array.getElem?_eq_getElem (by omega)]
    simp [show k < d.size by omega]
  · rw [List.getElem?_eq_none (by simp; omega), List.getElem?_eq_none (by simp [encs]; omega)]
theorem put_heap {e : Nat} {w : World} {g : Nat} {cur : Array Value} (hg : w.heap[g]? = some (.cells cur e (0, 0))) (q : Nat) (d : Array Int) : (putRow encZ (Sort.ahead w q) g 0 d).heap[g]? = some (.cells (putCells encZ 0 d cur) e (0, 0)) := by
  simp only [putRow, mapBlock, Array.getElem?_modify, if_pos]
  show Option.map _ (w.heap[g]?) = _
  rw [hg]; rfl
theorem put_fr (w : World) (g q : Nat) (d : Array Int) : Fr (fun k => k = g) w (putRow encZ (Sort.ahead w q) g 0 d) :=
  ⟨rfl, rfl, rfl, by simp [Sort.ahead], fun k _ hs => by
    simp only [putRow, mapBlock, Array.getElem?_modify]
    rw [if_neg (fun e => hs e.symm)]; rfl⟩
/-- The row behind a call that writes it anew, cut to m. -/
theorem put_R {e : Nat} {w : World} {base : Nat} {ok : Nat → Prop} {g c : Nat} {cur : Array Value} (hb : base ≤ g) (hok : ok g) (hg : w.heap[g]? = some (.cells cur e (0, 0))) (hcm : c ≤ maxLen) (hs : cur.size = c) (q m : Nat) (d : Array Int) (hm : m ≤ d.size) (hd : d.size ≤ c) :
    Kd.R (Kd.int .i64) e (putRow encZ (Sort.ahead w q) g 0 d) base ok (.slice (some ⟨g, 0, none⟩) m c) (d.toList.take m) := by
  have hl : (d.toList.take m).length = m := by simp; omega
  have := block_R (xs := d.toList.take m) hb hok (put_heap hg q d) (by omega) hcm (by rw [putCells_size]; exact hs) (by rw [hl]; exact putCells_take d cur m hm (by omega))
  rw [hl] at this
  exact this
end Go.Proofs.Ytkaihdpmjlhlaaa.Q

namespace Go.Proofs
open Go.Shelf
def Try.laysSlH10_f65_ren : Go.Shelf.Ren := ⟨fun | 10 => 65 | 6 => 84 | n => n, fun | 22 => 34 | 23 => 3 | 25 => 74 | 3 => 3 | 4 => 4 | 0 => 0 | n => n, fun | n => n⟩
theorem Try.laysSlH10_f65 : Go.Proofs.SlLaysH.n10 Try.prog Try.laysSlH10_f65_ren := {
  mixed := by kernel_rfl
  f6 := ⟨Try.f84.name, by decide, Try.func84.trans (congrArg some (by kernel_rfl))⟩
  f10 := ⟨Try.f65.name, by decide, Try.func65.trans (congrArg some (by kernel_rfl))⟩
  t0 := Try.underlying0
  a0 := Try.isAgg0
  z0 := Try.sizeOf0
  v0 := Try.zeroValue0
  t3 := Try.underlying3
  a3 := Try.isAgg3
  z3 := Try.sizeOf3
  v3 := Try.zeroValue3
  t4 := Try.underlying4
  a4 := Try.isAgg4
  z4 := Try.sizeOf4
  v4 := Try.zeroValue4
  t22 := Try.underlying34
  a22 := Try.isAgg34
  z22 := Try.sizeOf34
  v22 := Try.zeroValue34
  a23 := Try.isAgg3
  z23 := Try.sizeOf3
  t25 := Try.underlying74
  a25 := Try.isAgg74
  z25 := Try.sizeOf74
  v25 := Try.zeroValue74 }
open Go.RowKit Go.Lib Go.Sort in
theorem Try.slices_DeleteFunc {α : Type} [Inhabited α] (enc : α → Value) (hO : OneCell enc) (p : α → Bool) (g : Nat) (lb : Array Value) (eg : ∀ args w, (callFunc g args).run Try.prog w = .ok (.enter g args) w) (zr : α) (v23 : ∀ w, (zeroValue 3).run Try.prog w = .ok (enc zr) w) (blk off cap : Nat) (d : Array α) (w : World) (hp : PredAt Try.prog g lb enc p w) (hpo : PredOver Try.prog g lb enc p blk off d.size w) (hH : Holds enc w blk off d) (hsz : d.size ≤ 9223372036854775807) (hcap : d.size ≤ cap) :
    Calls Try.prog 65 #[.slice (some ⟨blk, off, none⟩) d.size cap, .func (.func g) #[] lb] w fun e w' => e = .returned (.slice (some ⟨blk, off, none⟩) (d.toList.filter fun x => !p x).length cap) ∧ ∃ q, w' = putRow enc (Sort.ahead w q) blk off ((d.toList.filter fun x => !p x) ++ List.replicate (d.size - (d.toList.filter fun x => !p x).length) zr).toArray := AnyE.slices_DeleteFunc Try.laysSlH10_f65 enc hO p g lb eg zr v23 blk off cap d w hp hpo hH hsz hcap
end Go.Proofs

namespace Go.Proofs.Ytkaihdpmjlhlaaa.Q
open Go.RowKit Go.Proofs.YtkaihdpmjlhlaaaW.PrintWords Go.Proofs.YtkaihdpmjlhlaaaW.PrintLast Go.Proofs.YtkaihdpmjlhlaaaW.PrintMore
attribute [local go_sem] max2_int min2_int max_two min_two max_three min_three max_four min_four   -- for this text's walks alone
set_option linter.unusedVariables false
set_option linter.unusedSimpArgs false

/-! ### impl_BestPacked: function 61 -/
def impl_BestPacked.f (l0 : List (S49)) (a1_0 : Int) (a1_1 : Int) : Option (Int × Bool) := (impl_arePacked.f l0 (([(⟨a1_0, a1_1⟩ : S30)] : List (S30)))).bind fun t505 => (if t505 = true then ((impl_byValue.f l0 a1_0 a1_1).bind fun bt506 => (some (bt506.2.1, true))) else (some (0, false)))
set_option maxHeartbeats 8000000 in
set_option maxRecDepth 100000 in
theorem impl_BestPacked.calls (A0 : Option Addr) (c0 : Nat) (l0 : List (S49)) (a1_0 : Int) (a1_1 : Int) (r1 : Int) (r2 : Bool) (w : World) (hr0 : Kd.C k49 w A0 l0.length l0) (hc0 : l0.length ≤ c0) (h : impl_BestPacked.f l0 a1_0 a1_1 = some (r1, r2)) :
    Calls Try.prog 61 #[.slice A0 l0.length c0, .agg #[.int .i64 a1_0, .int .i64 a1_1]] w fun e w' => e = .returned (.tuple #[.int .i64 r1, .bool r2]) ∧ Below w.heap.size w w' := by
  have hu30 := Try.underlying30
  have HR0 := Aside0.mk hr0
  have HC0 := Aside0.mk hc0
  clear hr0 hc0
  have HB := Aside0.mk (Below.refl w.heap.size w)
  have H : ((impl_arePacked.f l0 (([(⟨a1_0, a1_1⟩ : S30)] : List (S30)))).bind fun t505 => (if t505 = true then ((impl_byValue.f l0 a1_0 a1_1).bind fun bt506 => (some (bt506.2.1, true))) else (some (0, false)))) = some (r1, r2) := h
  clear h
  obtain ⟨y502, hy502⟩ : ∃ y_ : List (S30), y_ = (([(⟨a1_0, a1_1⟩ : S30)] : List (S30))) := ⟨_, rfl⟩
  replace H : ((impl_arePacked.f l0 y502).bind fun t505 => (if t505 = true then ((impl_byValue.f l0 a1_0 a1_1).bind fun bt506 => (some (bt506.2.1, true))) else (some (0, false)))) = some (r1, r2) := by first | (rw [hy502]; with_reducible exact H) | (have H2_ := (Option.bind_some _ _).symm.trans H; rw [hy502]; with_reducible exact H2_) | (have H2_ := (Option.bind_some _ _).symm.trans H; with_reducible exact H2_) | with_reducible exact H | (rw [hy502]; exact H) | exact H
  have Ny502 := Aside0.mk hy502
  clear hy502
  replace H := Option.bind_eq_some_iff.mp H
  obtain ⟨t505, A30, H⟩ := H
  replace H : (if t505 = true then ((impl_byValue.f l0 a1_0 a1_1).bind fun bt506 => (some (bt506.2.1, true))) else (some (0, false))) = some (r1, r2) := H
  have A3 := Aside0.mk A30
  clear A30
  by_cases c4 : t505 = true
  · subst c4
    have H1 : ((impl_byValue.f l0 a1_0 a1_1).bind fun bt506 => (some (bt506.2.1, true))) = some (r1, r2) := by rw [if_pos rfl] at H; exact H
    clear H
    have H := H1
    clear H1
    replace H := Option.bind_eq_some_iff.mp H
    obtain ⟨⟨t506, t509, t510⟩, A50, H⟩ := H
    replace H : (some (t509, true)) = some (r1, r2) := H
    have A5 := Aside0.mk A50
    clear A50
    simp only [Option.some.injEq, Prod.mk.injEq] at H
    obtain ⟨rfl, rfl⟩ := H
    go_enter Try.func61, Try.ntmps61
    go_wp2_with (first | ((with_reducible refine gate_dst (N := 3) rfl ?_); refine box_event ?hg (N := 3) ?hd (cs := #[.int .i64 a1_0, .int .i64 a1_1]) (t := 30) ?hr ?_; (case hd => rfl); (case hg => rfl); (case hr => first | (go_simp; done) | (go_simp; rfl)); intro gb501 hg w6 hbox hb; have n0_ := Aside0.mk (below_step (by repeat (first | (with_reducible first | exact HB.out | apply below_alloc | apply pw_below_drewN | apply below_drew1) | exact HB.out)) hb); have n1_ := Aside0.mk (hbox); have n2_ := Aside0.mk ((by rw [hg]; exact (below_size (by repeat (first | (with_reducible first | exact HB.out | apply below_alloc | apply pw_below_drewN | apply below_drew1) | exact HB.out))) : w.heap.size ≤ gb501)); have n3_ := Aside0.mk ((by rw [hg]; exact (below_size (by repeat (first | (with_reducible first | exact HB.out | apply below_alloc | apply pw_below_drewN | apply below_drew1) | exact HB.out))) : w.heap.size ≤ gb501)); clear HB; have HB := n0_; have BK501 := n1_; have GW501 := n2_; have GE501 := n3_; clear n0_ n1_ n2_ n3_; clear hb hbox hg; have hcz7_0 : w6.cell? ⟨gb501, 0, none⟩ = some (.int .i64 a1_0) := (blk_cell BK501.out 0).trans rfl; have hcz7_1 : w6.cell? ⟨gb501, 1, none⟩ = some (.int .i64 a1_1) := (blk_cell BK501.out 1).trans rfl; have hfz7_0 := blk_frozen BK501.out 0; have hfz7_1 := blk_frozen BK501.out 1) | ((with_reducible refine gate_dst (N := 11) rfl ?_); refine Kd.R_lit k30 _ 30 ?hg (N := 11) ?hd (xs := ([(⟨a1_0, a1_1⟩ : S30)] : List (S30))) (inner := [.int .i64 a1_0, .int .i64 a1_1]) (ok := fun _ => True) (okp := fun _ => True) ?hr ?hp (fun _ hk => hk) trivial (Below.refl _ _) (Nat.le_refl _) (by simp) ?_; (case hd => rfl); (case hg => rfl); (case hr => first | (go_simp; done) | (go_simp; rfl)); (case hp => exact (Reps.c2 (show Kd.M k30 _ _ _ (⟨a1_0, a1_1⟩ : S30) [.int .i64 a1_0, .int .i64 a1_1] from (k30_mkM _ _ _ (⟨a1_0, a1_1⟩ : S30) )) (Reps.none _ _))); intro v503 w8 ho9 hb hg_ hnew_; clear hg_ hnew_; (first | rw [← Ny502.out] at ho9 | (simp only [Int.reduceToNat] at ho9; rw [← Ny502.out] at ho9)); have n0_ := Aside0.mk (Kd.R_lower (Kd.R_newB ho9 (g := gb501) (o := .cells #[.int .i64 a1_0, .int .i64 a1_1] 30 (0, 0)) (by (with_reducible repeat (first | refine blk_drewN ?_ _ | refine blk_drew ?_ | refine blk_alloc ?_ _)); exact BK501.out)) (below_size (by repeat (first | (with_reducible first | exact HB.out | apply below_alloc | apply pw_below_drewN | apply below_drew1 | refine below_set ?_ GE501.out) | exact HB.out)))); have n1_ := Aside0.mk (blk_below (g := gb501) (o := .cells #[.int .i64 a1_0, .int .i64 a1_1] 30 (0, 0)) (by (with_reducible repeat (first | refine blk_drewN ?_ _ | refine blk_drew ?_ | refine blk_alloc ?_ _)); exact BK501.out) hb); have n2_ := Aside0.mk (below_step (by repeat (first | (with_reducible first | exact HB.out | apply below_alloc | apply pw_below_drewN | apply below_drew1 | refine below_set ?_ GE501.out) | exact HB.out)) hb); clear BK501; clear HB; have HO504 := n0_; have BK501 := n1_; have HB := n2_; clear n0_ n1_ n2_; clear hb ho9; obtain ⟨Ao10, co10, eo10⟩ := Kd.R_slice HO504.out; subst eo10) | ((with_reducible refine gate_callee (f := 40) rfl ?_); refine goesL_ (some 12) rfl rfl Try.func40 (by kernel_rfl) rfl #[.slice A0 l0.length c0, .slice Ao10 y502.length co10] rfl (by (try simp only [List.map_toArray, List.map_cons, List.map_nil]); first | done | rfl | (simp only [List.length_drop, List.length_take]; rfl)) ?_; (with_reducible refine (impl_arePacked.calls _ _ l0 _ _ y502 true _ ?side1 ?side2 ?side3 ?side4 A3.out).mono ?_); (case side1 => repeat (first | exact (Kd.C_below HR0.out HB.out) | (with_reducible refine Kd.C_alloc ?_ _) | (with_reducible refine Kd.C_drewN ?_ _) | (with_reducible refine Kd.C_drew ?_))); (case side2 => exact HC0.out); (case side3 => repeat (first | exact (Kd.R_reads' HO504.out).2.2 | (with_reducible refine Kd.C_alloc ?_ _) | (with_reducible refine Kd.C_drewN ?_ _) | (with_reducible refine Kd.C_drew ?_))); (case side4 => exact (Kd.R_reads' HO504.out).2.1); rintro e w11 ⟨rfl, hb⟩; refine ⟨_, rfl, ?_⟩; have n0_ := Aside0.mk (Kd.R_below (by (with_reducible repeat (first | apply Kd.R_alloc | apply Kd.R_drewN | apply Kd.R_drew)); exact HO504.out) hb); have n1_ := Aside0.mk (blk_below (g := gb501) (o := .cells #[.int .i64 a1_0, .int .i64 a1_1] 30 (0, 0)) (by (with_reducible repeat (first | refine blk_drewN ?_ _ | refine blk_drew ?_ | refine blk_alloc ?_ _)); exact BK501.out) hb); have n2_ := Aside0.mk (below_step (by repeat (first | (with_reducible first | exact HB.out | apply below_alloc | apply pw_below_drewN | apply below_drew1 | refine below_set ?_ GE501.out) | exact HB.out)) hb); clear HO504; clear BK501; clear HB; have HO504 := n0_; have BK501 := n1_; have HB := n2_; clear n0_ n1_ n2_; (try clear hb); (try clear hb2); (try clear hk); (try clear hi); have hcz12_0 : w11.cell? ⟨gb501, 0, none⟩ = some (.int .i64 a1_0) := (blk_cell BK501.out 0).trans rfl; have hcz12_1 : w11.cell? ⟨gb501, 1, none⟩ = some (.int .i64 a1_1) := (blk_cell BK501.out 1).trans rfl; have hfz12_0 := blk_frozen BK501.out 0; have hfz12_1 := blk_frozen BK501.out 1) | ((with_reducible refine gate_callee (f := 48) rfl ?_); refine goesL_ (some 17) rfl rfl Try.func48 (by kernel_rfl) rfl #[.slice A0 l0.length c0, .agg #[.int .i64 a1_0, .int .i64 a1_1]] rfl (by (try simp only [List.map_toArray, List.map_cons, List.map_nil]); first | done | rfl | (simp only [List.length_drop, List.length_take]; rfl)) ?_; (with_reducible refine (impl_byValue.calls _ _ l0 a1_0 a1_1 t506 t509 t510 _ ?side1 ?side2 A5.out).mono ?_); (case side1 => repeat (first | exact (Kd.C_below HR0.out HB.out) | (with_reducible refine Kd.C_alloc ?_ _) | (with_reducible refine Kd.C_drewN ?_ _) | (with_reducible refine Kd.C_drew ?_))); (case side2 => exact HC0.out); rintro e w13 ⟨v507, rfl, ho0, hb⟩; refine ⟨_, rfl, ?_⟩; have n0_ := Aside0.mk (Kd.R_below (by (with_reducible repeat (first | apply Kd.R_alloc | apply Kd.R_drewN | apply Kd.R_drew)); exact HO504.out) hb); have n1_ := Aside0.mk (Kd.R_lower ho0 (below_size (by repeat (first | (with_reducible first | exact HB.out | apply below_alloc | apply pw_below_drewN | apply below_drew1 | refine below_set ?_ GE501.out) | exact HB.out)))); have n2_ := Aside0.mk (blk_below (g := gb501) (o := .cells #[.int .i64 a1_0, .int .i64 a1_1] 30 (0, 0)) (by (with_reducible repeat (first | refine blk_drewN ?_ _ | refine blk_drew ?_ | refine blk_alloc ?_ _)); exact BK501.out) hb); have n3_ := Aside0.mk (below_step (by repeat (first | (with_reducible first | exact HB.out | apply below_alloc | apply pw_below_drewN | apply below_drew1 | refine below_set ?_ GE501.out) | exact HB.out)) hb); clear HO504; clear BK501; clear HB; have HO504 := n0_; have HO508 := n1_; have BK501 := n2_; have HB := n3_; clear n0_ n1_ n2_ n3_; (try clear hb); (try clear hb2); (try clear hk); (try clear hi); (try clear ho0)))
    go_ret2
    exact ⟨by first | rfl | (simp [errW_none, errW_some] <;> rfl) | (simp [*, errW_none, errW_some] <;> rfl), by repeat (first | (with_reducible first | exact HB.out | apply below_alloc | apply pw_below_drewN | apply below_drew1 | refine below_set ?_ GE501.out) | exact HB.out)⟩
  · replace c4 := Bool.eq_false_iff.mpr c4
    subst c4
    have H1 : (some (0, false)) = some (r1, r2) := by rw [if_neg (show ¬ (false = true) by decide)] at H; exact H
    clear H
    have H := H1
    clear H1
    simp only [Option.some.injEq, Prod.mk.injEq] at H
    obtain ⟨rfl, rfl⟩ := H
    go_enter Try.func61, Try.ntmps61
    go_wp2_with (first | ((with_reducible refine gate_dst (N := 3) rfl ?_); refine box_event ?hg (N := 3) ?hd (cs := #[.int .i64 a1_0, .int .i64 a1_1]) (t := 30) ?hr ?_; (case hd => rfl); (case hg => rfl); (case hr => first | (go_simp; done) | (go_simp; rfl)); intro gb501 hg w14 hbox hb; have n0_ := Aside0.mk (below_step (by repeat (first | (with_reducible first | exact HB.out | apply below_alloc | apply pw_below_drewN | apply below_drew1) | exact HB.out)) hb); have n1_ := Aside0.mk (hbox); have n2_ := Aside0.mk ((by rw [hg]; exact (below_size (by repeat (first | (with_reducible first | exact HB.out | apply below_alloc | apply pw_below_drewN | apply below_drew1) | exact HB.out))) : w.heap.size ≤ gb501)); have n3_ := Aside0.mk ((by rw [hg]; exact (below_size (by repeat (first | (with_reducible first | exact HB.out | apply below_alloc | apply pw_below_drewN | apply below_drew1) | exact HB.out))) : w.heap.size ≤ gb501)); clear HB; have HB := n0_; have BK501 := n1_; have GW501 := n2_; have GE501 := n3_; clear n0_ n1_ n2_ n3_; clear hb hbox hg; have hcz15_0 : w14.cell? ⟨gb501, 0, none⟩ = some (.int .i64 a1_0) := (blk_cell BK501.out 0).trans rfl; have hcz15_1 : w14.cell? ⟨gb501, 1, none⟩ = some (.int .i64 a1_1) := (blk_cell BK501.out 1).trans rfl; have hfz15_0 := blk_frozen BK501.out 0; have hfz15_1 := blk_frozen BK501.out 1) | ((with_reducible refine gate_dst (N := 11) rfl ?_); refine Kd.R_lit k30 _ 30 ?hg (N := 11) ?hd (xs := ([(⟨a1_0, a1_1⟩ : S30)] : List (S30))) (inner := [.int .i64 a1_0, .int .i64 a1_1]) (ok := fun _ => True) (okp := fun _ => True) ?hr ?hp (fun _ hk => hk) trivial (Below.refl _ _) (Nat.le_refl _) (by simp) ?_; (case hd => rfl); (case hg => rfl); (case hr => first | (go_simp; done) | (go_simp; rfl)); (case hp => exact (Reps.c2 (show Kd.M k30 _ _ _ (⟨a1_0, a1_1⟩ : S30) [.int .i64 a1_0, .int .i64 a1_1] from (k30_mkM _ _ _ (⟨a1_0, a1_1⟩ : S30) )) (Reps.none _ _))); intro v503 w16 ho17 hb hg_ hnew_; clear hg_ hnew_; (first | rw [← Ny502.out] at ho17 | (simp only [Int.reduceToNat] at ho17; rw [← Ny502.out] at ho17)); have n0_ := Aside0.mk (Kd.R_lower (Kd.R_newB ho17 (g := gb501) (o := .cells #[.int .i64 a1_0, .int .i64 a1_1] 30 (0, 0)) (by (with_reducible repeat (first | refine blk_drewN ?_ _ | refine blk_drew ?_ | refine blk_alloc ?_ _)); exact BK501.out)) (below_size (by repeat (first | (with_reducible first | exact HB.out | apply below_alloc | apply pw_below_drewN | apply below_drew1 | refine below_set ?_ GE501.out) | exact HB.out)))); have n1_ := Aside0.mk (blk_below (g := gb501) (o := .cells #[.int .i64 a1_0, .int .i64 a1_1] 30 (0, 0)) (by (with_reducible repeat (first | refine blk_drewN ?_ _ | refine blk_drew ?_ | refine blk_alloc ?_ _)); exact BK501.out) hb); have n2_ := Aside0.mk (below_step (by repeat (first | (with_reducible first | exact HB.out | apply below_alloc | apply pw_below_drewN | apply below_drew1 | refine below_set ?_ GE501.out) | exact HB.out)) hb); clear BK501; clear HB; have HO504 := n0_; have BK501 := n1_; have HB := n2_; clear n0_ n1_ n2_; clear hb ho17; obtain ⟨Ao18, co18, eo18⟩ := Kd.R_slice HO504.out; subst eo18) | ((with_reducible refine gate_callee (f := 40) rfl ?_); refine goesL_ (some 12) rfl rfl Try.func40 (by kernel_rfl) rfl #[.slice A0 l0.length c0, .slice Ao18 y502.length co18] rfl (by (try simp only [List.map_toArray, List.map_cons, List.map_nil]); first | done | rfl | (simp only [List.length_drop, List.length_take]; rfl)) ?_; (with_reducible refine (impl_arePacked.calls _ _ l0 _ _ y502 false _ ?side1 ?side2 ?side3 ?side4 A3.out).mono ?_); (case side1 => repeat (first | exact (Kd.C_below HR0.out HB.out) | (with_reducible refine Kd.C_alloc ?_ _) | (with_reducible refine Kd.C_drewN ?_ _) | (with_reducible refine Kd.C_drew ?_))); (case side2 => exact HC0.out); (case side3 => repeat (first | exact (Kd.R_reads' HO504.out).2.2 | (with_reducible refine Kd.C_alloc ?_ _) | (with_reducible refine Kd.C_drewN ?_ _) | (with_reducible refine Kd.C_drew ?_))); (case side4 => exact (Kd.R_reads' HO504.out).2.1); rintro e w19 ⟨rfl, hb⟩; refine ⟨_, rfl, ?_⟩; have n0_ := Aside0.mk (Kd.R_below (by (with_reducible repeat (first | apply Kd.R_alloc | apply Kd.R_drewN | apply Kd.R_drew)); exact HO504.out) hb); have n1_ := Aside0.mk (blk_below (g := gb501) (o := .cells #[.int .i64 a1_0, .int .i64 a1_1] 30 (0, 0)) (by (with_reducible repeat (first | refine blk_drewN ?_ _ | refine blk_drew ?_ | refine blk_alloc ?_ _)); exact BK501.out) hb); have n2_ := Aside0.mk (below_step (by repeat (first | (with_reducible first | exact HB.out | apply below_alloc | apply pw_below_drewN | apply below_drew1 | refine below_set ?_ GE501.out) | exact HB.out)) hb); clear HO504; clear BK501; clear HB; have HO504 := n0_; have BK501 := n1_; have HB := n2_; clear n0_ n1_ n2_; (try clear hb); (try clear hb2); (try clear hk); (try clear hi)))
    go_ret2
    exact ⟨by first | rfl | (simp [errW_none, errW_some] <;> rfl) | (simp [*, errW_none, errW_some] <;> rfl), by repeat (first | (with_reducible first | exact HB.out | apply below_alloc | apply pw_below_drewN | apply below_drew1 | refine below_set ?_ GE501.out) | exact HB.out)⟩

end Go.Proofs.Ytkaihdpmjlhlaaa.Q

namespace Go.Proofs.Ytkaihdpmjlhlaaa.Q
open Go.RowKit Go.Proofs.YtkaihdpmjlhlaaaW.PrintWords Go.Proofs.YtkaihdpmjlhlaaaW.PrintLast Go.Proofs.YtkaihdpmjlhlaaaW.PrintMore
attribute [local go_sem] max2_int min2_int max_two min_two max_three min_three max_four min_four   -- for this text's walks alone
set_option linter.unusedVariables false
set_option linter.unusedSimpArgs false

/-! ### impl_upTo: function 62 -/
def impl_upTo.l0 : Nat → List Int → Int → Int → Option (List Int)
  | 0, _, _, _ => none
  | k + 1, x3, x6, x7 => if x7 < x6 then (if x3.length < 17592186044416 then (impl_upTo.l0 k (x3 ++ [x7]) x6 (wrap64 (x7 + 1))) else (none)) else (some x3)
def impl_upTo.f (k : Nat) (a0 : Int) : Option (List Int) := impl_upTo.l0 k (([] : List Int)) a0 0
theorem impl_upTo.mono_l : ∀ k, (∀ y0 y1 y2, LeO (impl_upTo.l0 k y0 y1 y2) (impl_upTo.l0 (k + 1) y0 y1 y2))
  | 0 => fun _ _ _ r h => by simp [impl_upTo.l0] at h
  | k + 1 => by
    have ih0 := impl_upTo.mono_l k
    · intro y0 y1 y2
      unfold impl_upTo.l0
      repeat' first
      | (with_reducible exact ih0 _ _ _)
      | (with_reducible exact LeO.refl _)
      | (with_reducible exact LeO.none _)
      | (with_reducible refine LeO.ite ?_ ?_)
      | (with_reducible refine LeO.bind ?_ (fun _ => ?_))
      | exact ih0 _ _ _
      | exact LeO.none _
      | refine LeO.ite ?_ ?_
      | refine LeO.bind ?_ (fun _ => ?_)
theorem impl_upTo.mono : ∀ a0 k, LeO (impl_upTo.f k a0) (impl_upTo.f (k + 1) a0) := by
  intro a0 k
  have ih0 := impl_upTo.mono_l k
  unfold impl_upTo.f
  repeat' first
      | (with_reducible exact ih0 _ _ _)
      | (with_reducible exact LeO.refl _)
      | (with_reducible exact LeO.none _)
      | (with_reducible refine LeO.ite ?_ ?_)
      | (with_reducible refine LeO.bind ?_ (fun _ => ?_))
      | exact ih0 _ _ _
      | exact LeO.none _
      | refine LeO.ite ?_ ?_
      | refine LeO.bind ?_ (fun _ => ?_)
set_option maxHeartbeats 8000000 in
set_option maxRecDepth 100000 in
theorem impl_upTo.calls (k : Nat) (a0 : Int) (r : List Int) (w : World) (h : impl_upTo.f k a0 = some r) :
    Calls Try.prog 62 #[.int .i64 a0] w fun e w' => ∃ v0_ : Value, e = .returned (v0_) ∧ Kd.R (Kd.int .i64) 3 w' w.heap.size (fun _ => True) v0_ r ∧ Below w.heap.size w w' := by
  have HB := Aside0.mk (Below.refl w.heap.size w)
  have H : (impl_upTo.l0 k (([] : List Int)) a0 0) = some r := h
  clear h
  obtain ⟨y511, hy511⟩ : ∃ y_ : List Int, y_ = (([] : List Int)) := ⟨_, rfl⟩
  replace H : (impl_upTo.l0 k y511 a0 0) = some r := by first | (rw [hy511]; with_reducible exact H) | (have H2_ := (Option.bind_some _ _).symm.trans H; rw [hy511]; with_reducible exact H2_) | (have H2_ := (Option.bind_some _ _).symm.trans H; with_reducible exact H2_) | with_reducible exact H | (rw [hy511]; exact H) | exact H
  have Ny511 := Aside0.mk hy511
  clear hy511
  have H' := Aside0.mk H
  clear H
  go_enter Try.func62, Try.ntmps62
  go_wp2_with (first | ((with_reducible refine gate_dst (N := 5) rfl ?_); refine Kd.R_lit (Kd.int .i64) _ 3 ?hg (N := 5) ?hd (xs := ([] : List Int)) (inner := []) (ok := fun _ => True) (okp := fun _ => True) ?hr ?hp (fun _ hk => hk) trivial (Below.refl _ _) (Nat.le_refl _) (by simp) ?_; (case hd => rfl); (case hg => rfl); (case hr => first | (go_simp; done) | (go_simp; rfl)); (case hp => exact (Reps.none _ _)); intro v512 w2 ho3 hb hg_ hnew_; clear hg_ hnew_; (first | rw [← Ny511.out] at ho3 | (simp only [Int.reduceToNat] at ho3; rw [← Ny511.out] at ho3)); have n0_ := Aside0.mk (Kd.R_lower ho3 (below_size (by repeat (first | (with_reducible first | exact HB.out | apply below_alloc | apply pw_below_drewN | apply below_drew1) | exact HB.out)))); have n1_ := Aside0.mk (below_step (by repeat (first | (with_reducible first | exact HB.out | apply below_alloc | apply pw_below_drewN | apply below_drew1) | exact HB.out)) hb); clear HB; have HO513 := n0_; have HB := n1_; clear n0_ n1_; clear hb ho3))
  go_loopg [3, 7] k (fun kq v3 v7 w' => ∃ (x3_1 : List Int) (x7_1 : Int), v7 = .int .i64 x7_1 ∧ Aside0 (impl_upTo.l0 kq x3_1 a0 x7_1 = some r) ∧ Aside0 (kq ≤ k) ∧ Aside0 (Kd.R (Kd.int .i64) 3 w' w.heap.size (fun _ => True) v3 x3_1) ∧ Aside0 (Below w.heap.size w w'))
  case atStart => exact ⟨(y511), (0), (by first | rfl | (simp; done) | (simp [*]; done)), H', ⟨Nat.le_refl _⟩, ⟨by (with_reducible repeat (first | apply Kd.R_alloc | apply Kd.R_drewN | apply Kd.R_drew)); exact HO513.out⟩, ⟨by repeat (first | (with_reducible first | exact HB.out | apply below_alloc | apply pw_below_drewN | apply below_drew1) | exact HB.out)⟩⟩
  case round =>
    clear H'
    try clear p2
    obtain ⟨x3_1, x7_1, rfl, HA, HK1, HO_3, HB⟩ := hrel
    cases gk with
    | zero => exact absurd HA.out (by simp [impl_upTo.l0])
    | succ k1 =>
      have H := HA.out
      clear HA
      simp only [impl_upTo.l0] at H
      by_cases c4 : x7_1 < a0
      · rw [if_pos c4] at H
        have c4b0 : decide (x7_1 < a0) = true := decide_eq_true c4
        clear c4
        by_cases c5 : x3_1.length < 17592186044416
        · rw [if_pos c5] at H
          have LMc5 := Aside0.mk c5
          clear c5
          obtain ⟨y514, hy514⟩ : ∃ y_ : List Int, y_ = (x3_1 ++ [x7_1]) := ⟨_, rfl⟩
          replace H : (impl_upTo.l0 k1 y514 a0 (wrap64 (x7_1 + 1))) = some r := by first | (rw [hy514]; with_reducible exact H) | (have H2_ := (Option.bind_some _ _).symm.trans H; rw [hy514]; with_reducible exact H2_) | (have H2_ := (Option.bind_some _ _).symm.trans H; with_reducible exact H2_) | with_reducible exact H | (rw [hy514]; exact H) | exact H
          have Ny514 := Aside0.mk hy514
          clear hy514
          have H' := Aside0.mk H
          clear H
          go_wp2_with (first | ((with_reducible refine gate_builtin (b := .append) (xs := #[.tmp 10, .tmp 12]) rfl ?_); at_builtin; refine Kd.R_append (Kd.int .i64) (w0 := w) w.heap.size rfl (.tmp 10) (.tmp 12) 34 3 (.int .i64 0) 8 rfl Try.underlying34 info3 rfl (by decide) (by omega) u3 x3_1 x7_1 [.int .i64 x7_1] (fun _ => True) (fun _ => False) rfl rfl ?aP (fun _ hk => hk.elim) ?aF ?aO ?aB ?aS ?aL ?_; (case aP => exact rfl); (case aB => exact (by repeat (first | (with_reducible first | exact HB.out | apply below_alloc | apply pw_below_drewN | apply below_drew1) | exact HB.out))); (case aF => exact (fun _ _ => trivial)); (case aO => exact (by (with_reducible repeat (first | apply Kd.R_alloc | apply Kd.R_drewN | apply Kd.R_drew)); exact HO_3.out)); (case aS => exact (below_size (by repeat (first | (with_reducible first | exact HB.out | apply below_alloc | apply pw_below_drewN | apply below_drew1) | exact HB.out)))); (case aL => have := LMc5.out; omega); intro v515 w6 ho hb hg hat; rw [← Ny514.out] at ho; have n0_ := Aside0.mk (hb); have n1_ := Aside0.mk (ho); clear HB; clear HO_3; have HB := n0_; have HO516 := n1_; clear n0_ n1_; clear ho hb hg hat))
          go_roundg k1
          case measure => have := HK1.out; omega
          case rel => exact ⟨(y514), (wrap64 (x7_1 + 1)), (by first | rfl | (simp; done) | (simp [*]; done)), H', ⟨by have := HK1.out; omega⟩, ⟨by (with_reducible repeat (first | apply Kd.R_alloc | apply Kd.R_drewN | apply Kd.R_drew)); exact HO516.out⟩, ⟨by repeat (first | (with_reducible first | exact HB.out | apply below_alloc | apply pw_below_drewN | apply below_drew1) | exact HB.out)⟩⟩
        · rw [if_neg c5] at H
          exact absurd H (by simp)
      · rw [if_neg c4] at H
        have c4b0 : decide (x7_1 < a0) = false := decide_eq_false c4
        clear c4
        obtain rfl := Option.some.inj H
        go_wp2
        go_ret
        exact ⟨_, by first | rfl | (simp [errW_none, errW_some] <;> rfl) | (simp [*, errW_none, errW_some] <;> rfl), by (with_reducible repeat (first | apply Kd.R_alloc | apply Kd.R_drewN | apply Kd.R_drew)); exact HO_3.out, by repeat (first | (with_reducible first | exact HB.out | apply below_alloc | apply pw_below_drewN | apply below_drew1) | exact HB.out)⟩

end Go.Proofs.Ytkaihdpmjlhlaaa.Q

namespace Go.Proofs.Ytkaihdpmjlhlaaa.Q
open Go.RowKit Go.Proofs.YtkaihdpmjlhlaaaW.PrintWords Go.Proofs.YtkaihdpmjlhlaaaW.PrintLast Go.Proofs.YtkaihdpmjlhlaaaW.PrintMore
attribute [local go_sem] max2_int min2_int max_two min_two max_three min_three max_four min_four   -- for this text's walks alone
set_option linter.unusedVariables false
set_option linter.unusedSimpArgs false

/-! ### slices_Index_int_int: function 82 -/
def slices_Index_int_int.l0 : Nat → List Int → Int → Int → Int → Option (Int)
  | 0, _, _, _, _ => none
  | k + 1, x0, x1, x7, x8 => if x8 < x7 then (if 0 ≤ x8 then (if x8 < (x0.length : Int) then (if x1 = (rd x0 x8) then (some x8) else (slices_Index_int_int.l0 k x0 x1 x7 (wrap64 (x8 + 1)))) else (none)) else (none)) else (some (-1))
def slices_Index_int_int.f (k : Nat) (l0 : List Int) (a1 : Int) : Option (Int) := slices_Index_int_int.l0 k l0 a1 (l0.length : Int) 0
theorem slices_Index_int_int.mono_l : ∀ k, (∀ y0 y1 y2 y3, LeO (slices_Index_int_int.l0 k y0 y1 y2 y3) (slices_Index_int_int.l0 (k + 1) y0 y1 y2 y3))
  | 0 => fun _ _ _ _ r h => by simp [slices_Index_int_int.l0] at h
  | k + 1 => by
    have ih0 := slices_Index_int_int.mono_l k
    · intro y0 y1 y2 y3
      unfold slices_Index_int_int.l0
      repeat' first
      | (with_reducible exact ih0 _ _ _ _)
      | (with_reducible exact LeO.refl _)
      | (with_reducible exact LeO.none _)
      | (with_reducible refine LeO.ite ?_ ?_)
      | (with_reducible refine LeO.bind ?_ (fun _ => ?_))
      | exact ih0 _ _ _ _
      | exact LeO.none _
      | refine LeO.ite ?_ ?_
      | refine LeO.bind ?_ (fun _ => ?_)
theorem slices_Index_int_int.mono : ∀ a0 a1 k, LeO (slices_Index_int_int.f k a0 a1) (slices_Index_int_int.f (k + 1) a0 a1) := by
  intro a0 a1 k
  have ih0 := slices_Index_int_int.mono_l k
  unfold slices_Index_int_int.f
  repeat' first
      | (with_reducible exact ih0 _ _ _ _)
      | (with_reducible exact LeO.refl _)
      | (with_reducible exact LeO.none _)
      | (with_reducible refine LeO.ite ?_ ?_)
      | (with_reducible refine LeO.bind ?_ (fun _ => ?_))
      | exact ih0 _ _ _ _
      | exact LeO.none _
      | refine LeO.ite ?_ ?_
      | refine LeO.bind ?_ (fun _ => ?_)
set_option maxHeartbeats 8000000 in
set_option maxRecDepth 100000 in
theorem slices_Index_int_int.calls (k : Nat) (A0 : Option Addr) (c0 : Nat) (l0 : List Int) (a1 : Int) (r : Int) (w : World) (hr0 : Kd.C (Kd.int .i64) w A0 l0.length l0) (hc0 : l0.length ≤ c0) (h : slices_Index_int_int.f k l0 a1 = some r) :
    Calls Try.prog 82 #[.slice A0 l0.length c0, .int .i64 a1] w fun e w' => e = .returned (.int .i64 r) ∧ Drawn0 w w' := by
  have HR0 := Aside0.mk hr0
  have HC0 := Aside0.mk hc0
  clear hr0 hc0
  have H : (slices_Index_int_int.l0 k l0 a1 (l0.length : Int) 0) = some r := h
  clear h
  have H' := Aside0.mk H
  clear H
  go_enter Try.func82, Try.ntmps82
  go_wp2
  go_loopg [8] k (fun kq v8 w' => ∃ (x8_1 : Int), v8 = .int .i64 x8_1 ∧ Aside0 (slices_Index_int_int.l0 kq l0 a1 (l0.length : Int) x8_1 = some r) ∧ Aside0 (kq ≤ k) ∧ Drawn0 w w')
  case atStart => exact ⟨(0), (by first | rfl | (simp; done) | (simp [*]; done)), H', ⟨Nat.le_refl _⟩, by repeat (first | exact Drawn0.refl _ | apply Drawn0.step)⟩
  case round =>
    clear H'
    try clear p2
    obtain ⟨x8_1, rfl, HA, HK1, ⟨m1, rfl⟩⟩ := hrel
    cases gk with
    | zero => exact absurd HA.out (by simp [slices_Index_int_int.l0])
    | succ k1 =>
      have H := HA.out
      clear HA
      simp only [slices_Index_int_int.l0] at H
      by_cases c3 : x8_1 < (l0.length : Int)
      · rw [if_pos c3] at H
        have c3b0 : decide (x8_1 < (l0.length : Int)) = true := decide_eq_true c3
        clear c3
        by_cases c4 : 0 ≤ x8_1
        · rw [if_pos c4] at H
          have c4b0 : decide (0 ≤ x8_1) = true := decide_eq_true c4
          clear c4
          by_cases c5 : x8_1 < (l0.length : Int)
          · rw [if_pos c5] at H
            have c5b0 : decide (x8_1 < (l0.length : Int)) = true := decide_eq_true c5
            clear c5
            by_cases c6 : a1 = (rd l0 x8_1)
            · rw [if_pos c6] at H
              have c6b0 : (a1 == (rd l0 x8_1)) = true := beq_iff_eq.mpr c6
              have c6b1 : (a1 != (rd l0 x8_1)) = false := bne_eq_false_iff_eq.mpr c6
              clear c6
              obtain rfl := Option.some.inj H
              have p456 : 0 ≤ (x8_1 : Int) := of_decide_eq_true (by first | (with_reducible assumption) | assumption)
              have q456 : x8_1 < (l0.length : Int) := of_decide_eq_true (by first | (with_reducible assumption) | assumption)
              obtain ⟨ad456, e456, hx456_0⟩ := Kd.at_int HR0.out x8_1 p456 q456
              cases e456
              replace p456 := eq_true p456
              replace q456 := eq_true q456
              go_wp2
              go_ret
              exact ⟨by first | rfl | (simp; done) | (simp [*]; done), by repeat (first | exact Drawn0.refl _ | apply Drawn0.step)⟩
            · rw [if_neg c6] at H
              have c6b0 : (a1 == (rd l0 x8_1)) = false := beq_eq_false_iff_ne.mpr c6
              have c6b1 : (a1 != (rd l0 x8_1)) = true := bne_iff_ne.mpr c6
              have H' := Aside0.mk H
              clear H
              have p456 : 0 ≤ (x8_1 : Int) := of_decide_eq_true (by first | (with_reducible assumption) | assumption)
              have q456 : x8_1 < (l0.length : Int) := of_decide_eq_true (by first | (with_reducible assumption) | assumption)
              obtain ⟨ad456, e456, hx456_0⟩ := Kd.at_int HR0.out x8_1 p456 q456
              cases e456
              replace p456 := eq_true p456
              replace q456 := eq_true q456
              go_wp2
              go_roundg k1
              case measure => have := HK1.out; omega
              case rel => exact ⟨(wrap64 (x8_1 + 1)), (by first | rfl | (simp; done) | (simp [*]; done)), H', ⟨by have := HK1.out; omega⟩, by repeat (first | exact Drawn0.refl _ | apply Drawn0.step)⟩
          · rw [if_neg c5] at H
            exact absurd H (by simp)
        · rw [if_neg c4] at H
          exact absurd H (by simp)
      · rw [if_neg c3] at H
        have c3b0 : decide (x8_1 < (l0.length : Int)) = false := decide_eq_false c3
        clear c3
        obtain rfl := Option.some.inj H
        go_wp2
        go_ret
        exact ⟨by first | rfl | (simp; done) | (simp [*]; done), by repeat (first | exact Drawn0.refl _ | apply Drawn0.step)⟩

end Go.Proofs.Ytkaihdpmjlhlaaa.Q

namespace Go.Proofs.Ytkaihdpmjlhlaaa.Q
open Go.RowKit Go.Proofs.YtkaihdpmjlhlaaaW.PrintWords Go.Proofs.YtkaihdpmjlhlaaaW.PrintLast Go.Proofs.YtkaihdpmjlhlaaaW.PrintMore
attribute [local go_sem] max2_int min2_int max_two min_two max_three min_three max_four min_four   -- for this text's walks alone
set_option linter.unusedVariables false
set_option linter.unusedSimpArgs false

/-! ### slices_Contains_int_int: function 57 -/
def slices_Contains_int_int.f (k : Nat) (l0 : List Int) (a1 : Int) : Option (Bool) := (slices_Index_int_int.f k l0 a1).bind fun t457 => (some (decide (t457 ≥ 0)))
theorem slices_Contains_int_int.mono : ∀ a0 a1 k, LeO (slices_Contains_int_int.f k a0 a1) (slices_Contains_int_int.f (k + 1) a0 a1) := by
  intro a0 a1 k
  unfold slices_Contains_int_int.f
  repeat' first
      | (with_reducible exact slices_Index_int_int.mono _ _ _)
      | (with_reducible exact LeO.refl _)
      | (with_reducible exact LeO.none _)
      | (with_reducible refine LeO.ite ?_ ?_)
      | (with_reducible refine LeO.bind ?_ (fun _ => ?_))
      | exact slices_Index_int_int.mono _ _ _
      | exact LeO.none _
      | refine LeO.ite ?_ ?_
      | refine LeO.bind ?_ (fun _ => ?_)
set_option maxHeartbeats 8000000 in
set_option maxRecDepth 100000 in
theorem slices_Contains_int_int.calls (k : Nat) (A0 : Option Addr) (c0 : Nat) (l0 : List Int) (a1 : Int) (r : Bool) (w : World) (hr0 : Kd.C (Kd.int .i64) w A0 l0.length l0) (hc0 : l0.length ≤ c0) (h : slices_Contains_int_int.f k l0 a1 = some r) :
    Calls Try.prog 57 #[.slice A0 l0.length c0, .int .i64 a1] w fun e w' => e = .returned (.bool r) ∧ Drawn0 w w' := by
  have HR0 := Aside0.mk hr0
  have HC0 := Aside0.mk hc0
  clear hr0 hc0
  have H : ((slices_Index_int_int.f k l0 a1).bind fun t457 => (some (decide (t457 ≥ 0)))) = some r := h
  clear h
  replace H := Option.bind_eq_some_iff.mp H
  obtain ⟨t457, A30, H⟩ := H
  replace H : (some (decide (t457 ≥ 0))) = some r := H
  have A3 := Aside0.mk A30
  clear A30
  obtain rfl := Option.some.inj H
  go_enter Try.func57, Try.ntmps57
  go_wp2_with (first | ((with_reducible refine gate_callee (f := 82) rfl ?_); refine goesL_ (some 7) rfl rfl Try.func82 (by kernel_rfl) rfl #[.slice A0 l0.length c0, .int .i64 a1] rfl (by (try simp only [List.map_toArray, List.map_cons, List.map_nil]); first | done | rfl | (simp only [List.length_drop, List.length_take]; rfl)) ?_; (with_reducible refine (slices_Index_int_int.calls k _ _ l0 a1 t457 _ ?side1 ?side2 A3.out).mono ?_); (case side1 => repeat (first | exact HR0.out | (with_reducible refine Kd.C_alloc ?_ _) | (with_reducible refine Kd.C_drewN ?_ _) | (with_reducible refine Kd.C_drew ?_))); (case side2 => exact HC0.out); rintro e w' ⟨rfl, ⟨nd, rfl⟩⟩; refine ⟨_, rfl, ?_⟩))
  go_ret
  exact ⟨by first | rfl | (simp; done) | (simp [*]; done), by repeat (first | exact Drawn0.refl _ | apply Drawn0.step)⟩

end Go.Proofs.Ytkaihdpmjlhlaaa.Q

namespace Go.Proofs.Ytkaihdpmjlhlaaa.Q
open Go.RowKit Go.Shelf Go.Sort Go.Proofs.YtkaihdpmjlhlaaaW.PrintWords Go.Proofs.YtkaihdpmjlhlaaaW.PrintLast Go.Proofs.YtkaihdpmjlhlaaaW.PrintMore
set_option linter.unusedVariables false
set_option linter.unusedSimpArgs false

theorem grow_below (W : World) (os : Array Obj) : Below W.heap.size W (Sort.grow W os) := ⟨rfl, rfl, rfl, by simp, fun k hk => Sort.heap_grow_old W os hk⟩
theorem sort_fr (w : World) (g m : Nat) (d : Array Int) (os : Array Obj) : Fr (fun k => k = g) w (sortWorld encZ w g 0 m d os) := (put_fr w g m d).then (grow_below _ os)
theorem contains_l0 (st : List Int) (x : Int) (hn : st.length ≤ 1000000000) : ∀ d k i, i + d = st.length → d < k →
    ∃ r, slices_Index_int_int.l0 k st x (st.length : Int) (i : Int) = some r ∧ decide (r ≥ 0) = (st.drop i).contains x := by
  intro d
  induction d with
  | zero =>
    intro k i hi hk
    obtain ⟨k, rfl⟩ : ∃ q, k = q + 1 := ⟨k - 1, by omega⟩
    simp only [slices_Index_int_int.l0]; rw [if_neg (by omega), List.drop_of_length_le (by omega)]
    exact ⟨-1, rfl, by simp⟩
  | succ d ih =>
    intro k i hi hk
    obtain ⟨k, rfl⟩ : ∃ q, k = q + 1 := ⟨k - 1, by omega⟩
    have hlt : i < st.length := by omega
    simp only [slices_Index_int_int.l0]
    rw [if_pos (by omega), if_pos (by omega), if_pos (by omega), rd_nat st i hlt, w64 (i := (i : Int) + 1) (by omega) (by omega), List.drop_eq_getElem_cons hlt]
    by_cases h : x = st[i]
    · rw [if_pos h]
      exact ⟨i, rfl, by rw [List.contains_cons, beq_iff_eq.mpr h, Bool.true_or]; simp⟩
    · rw [if_neg h, show (i : Int) + 1 = ((i + 1 : Nat) : Int) by omega]
      obtain ⟨r, h1, h2⟩ := ih k (i + 1) (by omega) (by omega)
      exact ⟨r, h1, by rw [h2, List.contains_cons, beq_eq_false_iff_ne.mpr h, Bool.false_or]⟩
theorem contains_eq (st : List Int) (x : Int) (hn : st.length ≤ 1000000000) (k : Nat) (hk : st.length < k) : slices_Contains_int_int.f k st x = some (st.contains x) := by
  unfold slices_Contains_int_int.f slices_Index_int_int.f
  obtain ⟨r, h1, h2⟩ := contains_l0 st x hn st.length k 0 (by omega) hk
  simp only [Int.natCast_zero] at h1
  rw [h1]
  simp only [Option.bind_some, h2, List.drop_zero]

set_option maxHeartbeats 1000000 in
/-- 'is it missing from the list?' -/
theorem alw11_calls (Bc : Nat) (A : Option Addr) (c : Nat) (ch : List Int) (x : Int) (W : World) (hb : W.cell? ⟨Bc, 0, none⟩ = some (.slice A ch.length c)) (hC : Kd.C kInt W A ch.length ch) (hc : ch.length ≤ c) (hn : ch.length ≤ 1000000000) :
    Calls Try.prog 66 (#[encZ x] ++ #[.pointer (some ⟨Bc, 0, none⟩)]) W fun e w' => e = .returned (.bool (!ch.contains x)) ∧ ∃ q, w' = W.drewN q := by
  have hct := slices_Contains_int_int.calls (ch.length + 1) A c ch x (ch.contains x) W hC hc (contains_eq ch x hn _ (by omega))
  have HCT := Aside0.mk hct
  clear hct hC
  show Calls Try.prog 66 #[.int .i64 x, .pointer (some ⟨Bc, 0, none⟩)] W _
  generalize ch.contains x = b at HCT ⊢
  go_enter Try.func66, Try.ntmps66
  go_wp2_with (go_at_call 57; refine HCT.out.mono ?_; rintro e w2 ⟨rfl, nd, rfl⟩)
  go_ret
  exact ⟨rfl, nd, rfl⟩

def alwStep (items : List Item) (most : Int) (s : List Int) (ch : List Int) : List Int := if (tot items ch).2.2 = most then s.filter (fun i => ch.contains i) else s
/-- The two variables: the greatest value; the items that are left, in block g. -/
structure AlwI (base Bm Bo g c : Nat) (most : Int) (s : List Int) (W : World) : Prop where
  m : Boxed W Bm 3 (.int .i64 most)
  o : Boxed W Bo 34 (.slice (some ⟨g, 0, none⟩) s.length c)
  r : ∃ cur, W.heap[g]? = some (.cells cur 3 (0, 0)) ∧ s.length ≤ c ∧ cur.size = c ∧ cur.toList.take s.length = encs encZ s
theorem AlwI.later {base Bm Bo g c : Nat} {most : Int} {s : List Int} {W W' : World} (h : AlwI base Bm Bo g c most s W) (hb : Below W.heap.size W W') : AlwI base Bm Bo g c most s W' :=
  ⟨box_below h.m hb, box_below h.o hb, by
    obtain ⟨cur, h1, h2⟩ := h.r
    exact ⟨cur, (hb.block g (Array.getElem?_eq_some_iff.1 h1).1).trans h1, h2⟩⟩

set_option maxRecDepth 100000 in
set_option maxHeartbeats 4000000 in
theorem alw1_calls (items : List Item) (base Bm Bo g c : Nat) (most : Int) (hmo : Bm ≠ Bo) (hmg : Bm ≠ g) (hog : Bo ≠ g) (hcm : c ≤ maxLen) (s : List Int) (W : World) (v : Value) (ch : List Int) (hI : AlwI base Bm Bo g c most s W) (hv : Kd.R kInt 3 W base (fun k => ¬ (k = Bo ∨ k = g)) v ch) (hn : ch.length ≤ 1000) :
    Calls Try.prog 64 #[v, valTot (tot items ch), .pointer (some ⟨Bm, 0, none⟩), .pointer (some ⟨Bo, 0, none⟩)] W
      fun e w' => e = .returned (.tuple #[]) ∧ AlwI base Bm Bo g c most (alwStep items most s ch) w' ∧ Fr (fun k => k = Bo ∨ k = g) W w' := by
  obtain ⟨A1, c1, rfl, hc1, hC1⟩ := Kd.R_reads hv
  have HV := Aside0.mk hv
  unfold alwStep
  generalize htt : tot items ch = tt
  obtain ⟨t1, t2, t3⟩ := tt
  have b1 := ((Below.refl _ W).alloc (Nat.le_refl _) (.cells #[.slice A1 ch.length c1] 34)).alloc (by simp) (.cells #[.int .i64 t1, .int .i64 t2, .int .i64 t3] 49)
  have x1 := (Boxed.new W 34 (.slice A1 ch.length c1)).alloc (.cells #[.int .i64 t1, .int .i64 t2, .int .i64 t3] 49)
  have hnew := heap_alloc_new (W.alloc (.cells #[.slice A1 ch.length c1] 34)) (.cells #[.int .i64 t1, .int .i64 t2, .int .i64 t3] 49)
  have hI1 := hI.later b1
  have hs1 : ((W.alloc (.cells #[.slice A1 ch.length c1] 34)).alloc (.cells #[.int .i64 t1, .int .i64 t2, .int .i64 t3] 49)).heap.size = W.heap.size + 1 + 1 := by simp
  have hg0 : g < W.heap.size := by obtain ⟨cur, h1, _⟩ := hI.r; exact (Array.getElem?_eq_some_iff.1 h1).1
  have ho0 : Bo < W.heap.size := hI.o.lt
  rw [show (W.alloc (.cells #[.slice A1 ch.length c1] 34)).heap.size = W.heap.size + 1 by simp] at hnew
  obtain ⟨W1, e1⟩ : ∃ W1, (W.alloc (.cells #[.slice A1 ch.length c1] 34)).alloc (.cells #[.int .i64 t1, .int .i64 t2, .int .i64 t3] 49) = W1 := ⟨_, rfl⟩
  rw [e1] at b1 x1 hnew hI1 hs1
  have k2 : W1.cell? ⟨W.heap.size + 1, 2, none⟩ = some (.int .i64 t3) := (blk_cell hnew 2).trans rfl
  have q1 := hI1.m.cell
  have q2 := hI1.o.cell
  obtain ⟨cur, hg1, hsc, hcs, hct⟩ := hI1.r
  have B1 := Aside0.mk b1
  have HI1 := Aside0.mk hI1
  simp only
  by_cases hm : t3 = most
  · -- those that are missing go
    subst hm
    have hdel := Try.slices_DeleteFunc encZ (fun _ => rfl) (fun x => !ch.contains x) 66 #[.pointer (some ⟨W.heap.size, 0, none⟩)] (enters_of Try.func66 (by kernel_rfl) rfl) 0 Try.zeroValue3 g 0 c s.toArray W1
      (fun W' x hb => alw11_calls W.heap.size A1 c1 ch x W' (box_below x1 hb).cell (Kd.C_below hC1 (b1.trans (hb.mono b1.size))) hc1 (by omega))
      (fun n os dk x hs => by
        have hf := sort_fr W1 g n dk os
        refine alw11_calls W.heap.size A1 c1 ch x _ (box_fr x1 hf (by omega)).cell ?_ hc1 (by omega)
        obtain ⟨A2, c2, he, _, h2⟩ := Kd.R_reads (R_fr (Kd.R_below HV.out b1) hf (fun k hk e => hk (.inr e)))
        injection he with he1 he2 he3
        subst he1
        exact h2)
      (block_holds hg1 hct) (by rw [List.size_toArray]; unfold maxLen at hcm; omega) (by simpa using hsc)
    rw [show s.toArray.size = s.length by simp, show s.toArray.toList = s by simp] at hdel
    simp only [Bool.not_not] at hdel
    obtain ⟨mo, hmo2⟩ : ∃ mo, s.filter (fun i => ch.contains i) = mo := ⟨_, rfl⟩
    rw [hmo2] at hdel
    rw [if_pos rfl, hmo2]
    have hml : mo.length ≤ s.length := by rw [← hmo2]; exact List.length_filter_le _ _
    clear hmo2
    have HD := Aside0.mk hdel
    have HG := Aside0.mk hg1
    have HS := Aside0.mk hsc
    have f2 := hI1.o.frozen
    clear hdel hI hv hC1 x1 hnew hI1 hg1 hct hsc b1
    go_enter Try.func64, Try.ntmps64
    go_wp2_with (go_at_call 65; refine HD.out.mono ?_; rintro e w2 ⟨rfl, q, hw2⟩; have F2 := Aside0.mk (show Fr (fun k => k = g) W1 w2 by rw [hw2]; exact put_fr _ _ _ _); have HW2 := Aside0.mk hw2; clear hw2; have x2 := box_fr HI1.out.o F2.out hog; have q3 := x2.cell; have f3 := x2.frozen)
    go_end0
    have FF : Fr (fun k => k = Bo ∨ k = g) W (w2.setCell ⟨Bo, 0, none⟩ (.slice (some ⟨g, 0, none⟩) mo.length c)) :=
      ((Fr.of B1.out).thenS F2.out (fun q _ e => .inr e)).set _ _ (.inl (.inl rfl))
    refine ⟨rfl, ⟨?_, x2.set _, ?_⟩, FF⟩
    · exact (box_fr HI1.out.m F2.out hmg).other hmo _
    · refine ⟨putCells encZ 0 (mo ++ List.replicate (s.length - mo.length) 0).toArray cur, ?_, by have := HS.out; omega, by rw [putCells_size]; exact hcs, ?_⟩
      · rw [Below.heap_setCell _ _ _ _ (fun e => hog e.symm), HW2.out]
        exact put_heap HG.out q _
      · rw [putCells_take _ _ _ (by simp) (by simp; have := HS.out; omega)]
        simp
  · rw [if_neg hm]
    clear hI hv hC1 x1 hnew hI1 hg1 hct hsc b1
    go_enter Try.func64, Try.ntmps64
    go_wp2
    go_end0
    exact ⟨rfl, HI1.out, Fr.of B1.out⟩

theorem upTo_l0 (n : Nat) (hn : n ≤ 1000) : ∀ d k (i : Nat) x, i + d = n → d < k → x = (List.range i).map (fun (j : Nat) => (j : Int)) → impl_upTo.l0 k x (n : Int) (i : Int) = some ((List.range n).map (fun (j : Nat) => (j : Int))) := by
  intro d
  induction d with
  | zero =>
    intro k i x hi hk hx
    obtain ⟨k, rfl⟩ : ∃ m, k = m + 1 := ⟨k - 1, by omega⟩
    simp only [impl_upTo.l0]; rw [if_neg (by omega), hx, show i = n by omega]
  | succ d ih =>
    intro k i x hi hk hx
    obtain ⟨k, rfl⟩ : ∃ m, k = m + 1 := ⟨k - 1, by omega⟩
    simp only [impl_upTo.l0]
    rw [if_pos (by omega), if_pos (by rw [hx]; simp; omega), w64 (i := (i : Int) + 1) (by omega) (by omega)]
    have := ih k (i + 1) (x ++ [(i : Int)]) (by omega) (by omega) (by rw [hx, List.range_succ, List.map_append]; rfl)
    rw [show ((i + 1 : Nat) : Int) = (i : Int) + 1 by omega] at this
    exact this
def upToL (n : Nat) : List Int := (List.range n).map (fun (j : Nat) => (j : Int))
theorem upTo_eq (n : Nat) (hn : n ≤ 1000) (k : Nat) (hk : n < k) : impl_upTo.f k (n : Int) = some (upToL n) := by
  unfold impl_upTo.f
  exact upTo_l0 n hn n k 0 [] (by omega) hk rfl
def alwAll (items : List Item) (a b most : Int) : List Int := (allV items.length).foldl (visit items (holdsC a b) (alwStep items most)) (upToL items.length)
def impl_AlwaysPacked.f (l0 : List Item) (a1_0 a1_1 : Int) : Option (List Int × Bool) :=
  (impl_BestPacked.f l0 a1_0 a1_1).bind fun t => if t.2 = true then (if 1 ≤ l0.length ∧ l0.length ≤ 1000 then some (alwAll l0 a1_0 a1_1 t.1, true) else none) else some ([], false)
set_option maxRecDepth 100000 in
set_option maxHeartbeats 4000000 in
theorem impl_AlwaysPacked.calls (A0 : Option Addr) (c0 : Nat) (l0 : List Item) (a1_0 a1_1 : Int) (r1 : List Int) (r2 : Bool) (w : World) (hr0 : Kd.C k49 w A0 l0.length l0) (hc0 : l0.length ≤ c0) (h : impl_AlwaysPacked.f l0 a1_0 a1_1 = some (r1, r2)) :
    Calls Try.prog 31 #[.slice A0 l0.length c0, .agg #[.int .i64 a1_0, .int .i64 a1_1]] w fun e w' => ∃ v0_ : Value, e = .returned (.tuple #[v0_, .bool r2]) ∧ Kd.R (Kd.int .i64) 3 w' w.heap.size (fun _ => True) v0_ r1 ∧ Below w.heap.size w w' := by
  unfold impl_AlwaysPacked.f at h
  obtain ⟨⟨most, ok⟩, ht, h⟩ := Option.bind_eq_some_iff.mp h
  have hbest := impl_BestPacked.calls A0 c0 l0 a1_0 a1_1 most ok (w.alloc (.cells #[.int .i64 a1_0, .int .i64 a1_1] 30)) (Kd.C_below hr0 ((Below.refl _ w).alloc (Nat.le_refl _) _)) hc0 ht
  have HR := Aside0.mk hr0
  have B1 := Aside0.mk ((Below.refl w.heap.size w).alloc (Nat.le_refl _) (.cells #[.int .i64 a1_0, .int .i64 a1_1] 30))
  have BK : Aside0 ((w.alloc (.cells #[.int .i64 a1_0, .int .i64 a1_1] 30)).heap[w.heap.size]? = some (.cells #[.int .i64 a1_0, .int .i64 a1_1] 30 (0, 0))) := ⟨heap_alloc_new w _⟩
  clear ht hr0
  cases ok with
  | false =>
    have hr : [] = r1 ∧ false = r2 := by simpa using h
    obtain ⟨rfl, rfl⟩ := hr
    clear h
    go_enter Try.func31, Try.ntmps31
    go_wp2_with (go_at_call 61; refine hbest.mono ?_; rintro e w2 ⟨rfl, hb⟩; have B2 := Aside0.mk (B1.out.trans (hb.mono B1.out.size)))
    go_ret2
    exact ⟨_, rfl, Kd.R_nil _ _ _ _ _, B2.out.alloc B2.out.size _⟩
  | true =>
    have hn : 1 ≤ l0.length ∧ l0.length ≤ 1000 := by
      by_cases hn : 1 ≤ l0.length ∧ l0.length ≤ 1000
      · exact hn
      · simp [hn] at h
    have hr : alwAll l0 a1_0 a1_1 most = r1 ∧ true = r2 := by simpa [hn] using h
    obtain ⟨hr, rfl⟩ := hr
    have HRR := Aside0.mk hr
    clear h hr
    obtain ⟨hn1, hn2⟩ := hn
    have hup := fun W => impl_upTo.calls (l0.length + 1) (l0.length : Int) (upToL l0.length) W (upTo_eq l0.length hn2 _ (by omega))
    have HUP := Aside0.mk hup
    clear hup
    go_enter Try.func31, Try.ntmps31
    go_wp2_with (first
      | (go_at_call 61; refine hbest.mono ?_; rintro e w2 ⟨rfl, hb⟩; have B2 := Aside0.mk (B1.out.trans (hb.mono B1.out.size)); have K2 := Aside0.mk (blk_below BK.out hb))
      | (go_at_call 62; refine (HUP.out _).mono ?_; rintro e w4 ⟨v4, rfl, hR4, hb4⟩; obtain ⟨A4, c4, rfl⟩ := Kd.R_slice hR4; have K5 := Aside0.mk (blk_below (blk_below (blk_below K2.out ((Below.refl _ w2).alloc (Nat.le_refl _) (.cells #[.int .i64 most] 3))) hb4) ((Below.refl _ w4).alloc (Nat.le_refl _) (.cells #[.slice A4 (upToL l0.length).length c4] 34))); have bk0 := (blk_cell K5.out 0).trans rfl; have bk1 := (blk_cell K5.out 1).trans rfl))
    rcases R_block hR4 with ⟨hv, hz⟩ | ⟨g, c, cur, hv, hbg, _, hg, hnc, hcm, hs, ht⟩
    · have : (upToL l0.length).length = 0 := by rw [hz]; rfl
      rw [upToL, List.length_map, List.length_range] at this
      omega
    injection hv with e1 e2 e3
    subst e1 e3
    have hgl : g < w4.heap.size := (Array.getElem?_eq_some_iff.1 hg).1
    have hbg2 : w2.heap.size + 1 ≤ g := by have := hbg; simp only [World.size_alloc] at this; omega
    have xm := (box_below (Boxed.new w2 3 (.int .i64 most)) hb4).alloc (.cells #[.slice (some ⟨g, 0, none⟩) (upToL l0.length).length c4] 34)
    have xo := Boxed.new w4 34 (.slice (some ⟨g, 0, none⟩) (upToL l0.length).length c4)
    have hg5 := (Below.heap_alloc w4 (.cells #[.slice (some ⟨g, 0, none⟩) (upToL l0.length).length c4] 34) g hgl).trans hg
    have h24 : w2.heap.size < w4.heap.size := by have := hb4.size; simp only [World.size_alloc] at this; omega
    have b5 : Below w.heap.size w (w4.alloc (.cells #[.slice (some ⟨g, 0, none⟩) (upToL l0.length).length c4] 34)) :=
      (((B2.out.alloc B2.out.size _).trans (hb4.mono (by have := B2.out.size; simp; omega)))).alloc (by have := B2.out.size; omega) _
    have z5 : (w4.alloc (.cells #[.slice (some ⟨g, 0, none⟩) (upToL l0.length).length c4] 34)).heap.size = w4.heap.size + 1 := by simp
    have hws := B2.out.size
    generalize w4.alloc (.cells #[.slice (some ⟨g, 0, none⟩) (upToL l0.length).length c4] 34) = W5 at *
    have hI : AlwI w.heap.size w2.heap.size w4.heap.size g c4 most (upToL l0.length) W5 := ⟨xm, xo, cur, hg5, hnc, hs, ht⟩
    have hT : Two l0 (fun k => k = w4.heap.size ∨ k = g) (AlwI w.heap.size w2.heap.size w4.heap.size g c4 most) w.heap.size W5
        60 #[.agg #[.int .i64 a1_0, .int .i64 a1_1]] #[] 64 #[] #[.pointer (some ⟨w2.heap.size, 0, none⟩), .pointer (some ⟨w4.heap.size, 0, none⟩)] (holdsC a1_0 a1_1) (alwStep l0 most) := by
      refine ⟨enters_of Try.func60 (by kernel_rfl) rfl, enters_of Try.func64 (by kernel_rfl) rfl, fun s W W' h hb => h.later hb, fun W x _ => ?_, fun s W v ch hF hI hv _ hl _ => ?_⟩
      · exact impl_Case_holds.calls a1_0 a1_1 x.1 x.2.1 x.2.2 _ W (holds_f a1_0 a1_1 x)
      · exact alw1_calls l0 w.heap.size w2.heap.size w4.heap.size g c4 most (by omega) (by omega) (by omega) hcm s W v ch hI hv (by omega)
    have hcall := choices_calls l0 A0 c0 _ _ w.heap.size W5 _ _ _ _ _ _ _ _ (upToL l0.length) hn2 hT b5.size (fun k hk => by rw [z5]; omega)
      (fun W h => Kd.C_below HR.out (b5.trans (h.below (fun k hk => by omega) b5.size))) hc0 hI
    rw [show (allV l0.length).foldl (visit l0 (holdsC a1_0 a1_1) (alwStep l0 most)) (upToL l0.length) = r1 from HRR.out] at hcall
    have B5 := Aside0.mk b5
    have HC := Aside0.mk hcall
    clear hcall hT hI xm xo hg5 hg ht b5 z5 hR4
    go_wp2_with (go_at_call 63; refine HC.out.mono ?_; rintro e w6 ⟨rfl, hI6, hF6⟩; have q6 := hI6.o.cell; have HI6 := Aside0.mk hI6)
    go_ret2
    obtain ⟨cur6, hg6, hc6, hs6, ht6⟩ := HI6.out.r
    exact ⟨_, rfl, block_R (by omega) trivial hg6 hc6 hcm hs6 ht6, B5.out.trans (hF6.below (fun k hk => by omega) B5.out.size)⟩
end Go.Proofs.Ytkaihdpmjlhlaaa.Q
