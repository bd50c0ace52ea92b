/-
  PROVED: for all arguments, the program's LightestFor returns what the reference's returns; the arguments read behind the call as before.
  CONDITIONS: none beyond the statement's own.
-/
import Derived.Test.YtgghcngfleicnaaZFnExactLightestFor4
import Derived.Test.YtgghcngfleicnaaZFnExactLightestFor1
import Derived.Test.YtgghcngfleicnaaZFnExactLightestFor2
import Derived.Test.YtgghcngfleicnaaZFnExactLightestFor3
import Derived.Deep.Slices
import Derived.Deep.Fields
import Derived.ChangeSame
import Derived.SizedLaws
import Derived.ChangeSlices
import Derived.Lib.SmallJoins
import Derived.Test.YtgghcngfleicnaaWWords
namespace Go.Proofs.Ytgghcngfleicnaa.Q
open Go.RowKit Go.Shelf Go.Proofs.YtgghcngfleicnaaW.PrintWords Go.Proofs.YtgghcngfleicnaaW.PrintLast Go.Proofs.YtgghcngfleicnaaW.PrintMore
set_option linter.unusedVariables false
set_option linter.unusedSimpArgs false

/-- Does a suitcase hold so much? -/
def holdsC (a b : Int) (x : Int × Int × Int) : Bool := decide (x.1 ≤ a) && decide (x.2.1 ≤ b)
theorem holds_f (a b : Int) (x : Int × Int × Int) : impl_Case_holds.f a b x.1 x.2.1 x.2.2 = some (holdsC a b x) := by
  unfold impl_Case_holds.f holdsC
  by_cases h : x.1 ≤ a <;> simp [h]
/-- The first choice with the greatest score, this, and how many have it. -/
def bestAll (items : List Item) (a b : Int) (sc : List Int → Int × Int × Int → Int) : Best := (allV items.length).foldl (visit items (holdsC a b) (bestStep items sc)) ([], -1, 0)

set_option maxRecDepth 100000 in
set_option maxHeartbeats 4000000 in
theorem bestOf_calls (items : List Item) (A0 : Option Addr) (c0 : Nat) (a b : Int) (g : Nat) (sc : List Int → Int × Int × Int → Int) (w : World) (eg : ∀ args w, (callFunc g args).run Try.prog w = .ok (.enter g args) w) (hsc : ScoreOk g sc)
    (hn : items.length ≤ 1000) (hr0 : Kd.C k54 w A0 items.length items) (hc0 : items.length ≤ c0) (r : Best) (hr : bestAll items a b sc = r) :
    Calls Try.prog 51 #[.slice A0 items.length c0, .agg #[.int .i64 a, .int .i64 b], .func (.func g) #[] #[]] w fun e w' => ∃ v0_ : Value, e = .returned (.tuple #[v0_, .int .i64 r.2.1, .int .i64 r.2.2]) ∧ Kd.R kInt 3 w' w.heap.size (fun _ => True) v0_ r.1 ∧ Below w.heap.size w w' := by
  have HR0 := Aside0.mk hr0
  have HSC := Aside0.mk hsc
  have HRR := Aside0.mk hr
  clear hr0 hsc hr
  go_enter Try.func51, Try.ntmps51
  go_wp2_with fail
  have x1 := (((Boxed.new (w.alloc (.cells #[.int .i64 a, .int .i64 b] 39)) 69 (.func (.func g) #[] #[])).alloc (.cells #[.slice none 0 0] 29)).alloc (.cells #[.int .i64 (-1)] 3)).alloc (.cells #[.int .i64 0] 3)
  have x2 := ((Boxed.new ((w.alloc (.cells #[.int .i64 a, .int .i64 b] 39)).alloc (.cells #[.func (.func g) #[] #[]] 69)) 29 (.slice none 0 0)).alloc (.cells #[.int .i64 (-1)] 3)).alloc (.cells #[.int .i64 0] 3)
  have x3 := (Boxed.new (((w.alloc (.cells #[.int .i64 a, .int .i64 b] 39)).alloc (.cells #[.func (.func g) #[] #[]] 69)).alloc (.cells #[.slice none 0 0] 29)) 3 (.int .i64 (-1))).alloc (.cells #[.int .i64 0] 3)
  have x4 := Boxed.new ((((w.alloc (.cells #[.int .i64 a, .int .i64 b] 39)).alloc (.cells #[.func (.func g) #[] #[]] 69)).alloc (.cells #[.slice none 0 0] 29)).alloc (.cells #[.int .i64 (-1)] 3)) 3 (.int .i64 0)
  have b5 : Below w.heap.size w (((((w.alloc (.cells #[.int .i64 a, .int .i64 b] 39)).alloc (.cells #[.func (.func g) #[] #[]] 69)).alloc (.cells #[.slice none 0 0] 29)).alloc (.cells #[.int .i64 (-1)] 3)).alloc (.cells #[.int .i64 0] 3)) :=
    (((((Below.refl _ w).alloc (by simp) _).alloc (by simp) _).alloc (by simp <;> omega) _).alloc (by simp <;> omega) _).alloc (by simp <;> omega) _
  have z5 : (((((w.alloc (.cells #[.int .i64 a, .int .i64 b] 39)).alloc (.cells #[.func (.func g) #[] #[]] 69)).alloc (.cells #[.slice none 0 0] 29)).alloc (.cells #[.int .i64 (-1)] 3)).alloc (.cells #[.int .i64 0] 3)).heap.size = w.heap.size + 5 := by simp
  generalize (((((w.alloc (.cells #[.int .i64 a, .int .i64 b] 39)).alloc (.cells #[.func (.func g) #[] #[]] 69)).alloc (.cells #[.slice none 0 0] 29)).alloc (.cells #[.int .i64 (-1)] 3)).alloc (.cells #[.int .i64 0] 3)) = W5 at x1 x2 x3 x4 b5 z5 ⊢
  simp only [show ∀ (W : World) (o : Obj), (W.alloc o).heap.size = W.heap.size + 1 from fun W o => by simp] at x1 x2 x3 x4
  have h3 : Three w.heap.size (w.heap.size + 1 + 1) (w.heap.size + 1 + 1 + 1) (w.heap.size + 1 + 1 + 1 + 1) ([], -1, 0) W5 := ⟨⟨_, x2, Kd.R_nil _ _ _ _ _⟩, x3, x4⟩
  have hT : Two items (fun k => k = w.heap.size + 1 + 1 ∨ k = w.heap.size + 1 + 1 + 1 ∨ k = w.heap.size + 1 + 1 + 1 + 1) (Three w.heap.size (w.heap.size + 1 + 1) (w.heap.size + 1 + 1 + 1) (w.heap.size + 1 + 1 + 1 + 1)) w.heap.size W5
      61 #[.agg #[.int .i64 a, .int .i64 b]] #[] 75 #[] #[.pointer (some ⟨w.heap.size + 1, 0, none⟩), .pointer (some ⟨w.heap.size + 1 + 1 + 1, 0, none⟩), .pointer (some ⟨w.heap.size + 1 + 1, 0, none⟩), .pointer (some ⟨w.heap.size + 1 + 1 + 1 + 1, 0, none⟩)] (holdsC a b) (bestStep items sc) := by
    refine ⟨enters_of Try.func61 (by kernel_rfl) rfl, enters_of Try.func75 (by kernel_rfl) rfl, fun s W W' h hb => h.later hb, fun W x _ => ?_, fun s W v ch hF hI hv _ _ _ => ?_⟩
    · exact impl_Case_holds.calls a b x.1 x.2.1 x.2.2 _ W (holds_f a b x)
    · exact bestOf1_calls items g sc eg HSC.out w.heap.size (w.heap.size + 1) (w.heap.size + 1 + 1) (w.heap.size + 1 + 1 + 1) (w.heap.size + 1 + 1 + 1 + 1) (by omega) (by omega) (by omega) s W v ch (box_fr x1 hF (by omega)) hI hv
  have hcall := choices_calls items A0 c0 _ _ w.heap.size W5 _ _ _ _ _ _ _ _ ([], -1, 0) hn hT b5.size (fun k hk => by rw [z5]; omega)
    (fun W h => Kd.C_below HR0.out (b5.trans (h.below (fun k hk => by omega) b5.size))) hc0 h3
  rw [show (allV items.length).foldl (visit items (holdsC a b) (bestStep items sc)) ([], -1, 0) = r from HRR.out] at hcall
  have B5 := Aside0.mk b5
  clear x1 x2 x3 x4 h3 hT b5 z5
  go_wp2_with (go_at_call 64; refine hcall.mono ?_; rintro e w6 ⟨rfl, ⟨⟨v, xb, xr⟩, xm, xk⟩, hF6⟩)
  obtain ⟨A1, c1, rfl⟩ := Kd.R_slice xr
  have q1 := xb.cell
  have q2 := xm.cell
  have q3 := xk.cell
  have HX := Aside0.mk xr
  clear xr
  go_region
  all_goals
    go_wp2
    go_ret3
    exact ⟨_, rfl, Kd.R_mono HX.out (fun _ _ => trivial), (B5.out.trans (hF6.below (fun k hk => by omega) B5.out.size)).drew⟩

/-- The totals' value. -/
theorem scoreValue_ok : ScoreOk 77 (fun _ x => x.2.2) := by
  intro W A c ch x hC hc
  go_enter Try.func77, Try.ntmps77
  go_wp2
  go_ret
  exact ⟨rfl, (Below.refl _ W).alloc (Nat.le_refl _) _⟩

def impl_byValue.f (l0 : List Item) (a1_0 a1_1 : Int) : Option (List Int × Int × Int) := if l0.length ≤ 1000 then some (bestAll l0 a1_0 a1_1 (fun _ x => x.2.2)) else none
set_option maxHeartbeats 2000000 in
theorem impl_byValue.calls (A0 : Option Addr) (c0 : Nat) (l0 : List Item) (a1_0 a1_1 : Int) (r1 : List Int) (r2 r3 : Int) (w : World) (hr0 : Kd.C k54 w A0 l0.length l0) (hc0 : l0.length ≤ c0) (h : impl_byValue.f l0 a1_0 a1_1 = some (r1, r2, r3)) :
    Calls Try.prog 62 #[.slice A0 l0.length c0, .agg #[.int .i64 a1_0, .int .i64 a1_1]] w fun e w' => ∃ v0_ : Value, e = .returned (.tuple #[v0_, .int .i64 r2, .int .i64 r3]) ∧ Kd.R (Kd.int .i64) 3 w' w.heap.size (fun _ => True) v0_ r1 ∧ Below w.heap.size w w' := by
  have hn : l0.length ≤ 1000 := by
    unfold impl_byValue.f at h
    split at h
    · assumption
    · cases h
  have hr : bestAll l0 a1_0 a1_1 (fun _ x => x.2.2) = (r1, r2, r3) := by
    unfold impl_byValue.f at h
    rw [if_pos hn] at h
    injection h
  have hcall := bestOf_calls l0 A0 c0 a1_0 a1_1 77 (fun _ x => x.2.2) (w.alloc (.cells #[.int .i64 a1_0, .int .i64 a1_1] 39)) (enters_of Try.func77 (by kernel_rfl) rfl) scoreValue_ok hn (Kd.C_below hr0 ((Below.refl _ w).alloc (Nat.le_refl _) _)) hc0 _ hr
  clear hr0 h hr
  go_enter Try.func62, Try.ntmps62
  go_wp2_with (go_at_call 51; refine hcall.mono ?_; rintro e w' ⟨v, rfl, hR, hb⟩; obtain ⟨A1, c1, rfl⟩ := Kd.R_slice hR)
  go_ret3
  exact ⟨_, rfl, Kd.R_lower hR (by simp), ((Below.refl _ w).alloc (Nat.le_refl _) _).trans (hb.mono (by simp))⟩
end Go.Proofs.Ytgghcngfleicnaa.Q

namespace Go.Proofs.Ytgghcngfleicnaa.Q
open Go.RowKit Go.Proofs.YtgghcngfleicnaaW.PrintWords Go.Proofs.YtgghcngfleicnaaW.PrintLast Go.Proofs.YtgghcngfleicnaaW.PrintMore
attribute [local go_sem] max2_int min2_int max_two min_two max_three min_three max_four min_four   -- for this text's walks alone
set_option linter.unusedVariables false
set_option linter.unusedSimpArgs false

/-! ### spec_suBest: function 58 -/
def spec_suBest.l0 : Nat → List (S54) → List (List Int) → Int → List (List Int) → Int → Int → Option ((List (List Int)) × Int)
  | 0, _, _, _, _, _, _ => none
  | k + 1, x0, x6, x7, x15, x16, x17 => if x17 < x16 then (if 0 ≤ x17 then (if x17 < (x15.length : Int) then ((spec_suTotals.f k x0 (rd_L7 x15 x17)).bind fun bt393 => (if bt393.2.2 > x7 then (if bt393.2.2 = bt393.2.2 then (if ([] : List (List Int)).length < 5864062014805 then (spec_suBest.l0 k x0 (([] : List (List Int)) ++ [rd_L7 x15 x17]) bt393.2.2 x15 x16 (wrap64 (x17 + 1))) else (none)) else (spec_suBest.l0 k x0 ([] : List (List Int)) bt393.2.2 x15 x16 (wrap64 (x17 + 1)))) else (if bt393.2.2 = x7 then (if x6.length < 5864062014805 then (spec_suBest.l0 k x0 (x6 ++ [rd_L7 x15 x17]) x7 x15 x16 (wrap64 (x17 + 1))) else (none)) else (spec_suBest.l0 k x0 x6 x7 x15 x16 (wrap64 (x17 + 1)))))) else (none)) else (none)) else (some (x6, x7))
def spec_suBest.f (k : Nat) (l0 : List (S54)) (a1_0 : Int) (a1_1 : Int) : Option ((List (List Int)) × Int) := (spec_suAll.f l0 a1_0 a1_1).bind fun t389 => (spec_suBest.l0 k l0 ([] : List (List Int)) 0 t389 (t389.length : Int) 0)
theorem spec_suBest.mono_l : ∀ k, (∀ y0 y1 y2 y3 y4 y5, LeO (spec_suBest.l0 k y0 y1 y2 y3 y4 y5) (spec_suBest.l0 (k + 1) y0 y1 y2 y3 y4 y5))
  | 0 => fun _ _ _ _ _ _ r h => by simp [spec_suBest.l0] at h
  | k + 1 => by
    have ih0 := spec_suBest.mono_l k
    · intro y0 y1 y2 y3 y4 y5
      unfold spec_suBest.l0
      repeat' first
      | (with_reducible exact ih0 _ _ _ _ _ _)
      | (with_reducible exact spec_suTotals.mono _ _ _)
      | (with_reducible exact LeO.refl _)
      | (with_reducible exact LeO.none _)
      | (with_reducible refine LeO.ite ?_ ?_)
      | (with_reducible refine LeO.bind ?_ (fun _ => ?_))
      | exact ih0 _ _ _ _ _ _
      | exact spec_suTotals.mono _ _ _
      | exact LeO.none _
      | refine LeO.ite ?_ ?_
      | refine LeO.bind ?_ (fun _ => ?_)
theorem spec_suBest.mono : ∀ a0 a1 a2 k, LeO (spec_suBest.f k a0 a1 a2) (spec_suBest.f (k + 1) a0 a1 a2) := by
  intro a0 a1 a2 k
  have ih0 := spec_suBest.mono_l k
  unfold spec_suBest.f
  repeat' first
      | (with_reducible exact ih0 _ _ _ _ _ _)
      | (with_reducible exact spec_suTotals.mono _ _ _)
      | (with_reducible exact LeO.refl _)
      | (with_reducible exact LeO.none _)
      | (with_reducible refine LeO.ite ?_ ?_)
      | (with_reducible refine LeO.bind ?_ (fun _ => ?_))
      | exact ih0 _ _ _ _ _ _
      | exact spec_suTotals.mono _ _ _
      | exact LeO.none _
      | refine LeO.ite ?_ ?_
      | refine LeO.bind ?_ (fun _ => ?_)
set_option maxHeartbeats 8000000 in
set_option maxRecDepth 100000 in
theorem spec_suBest.calls (k : Nat) (A0 : Option Addr) (c0 : Nat) (l0 : List (S54)) (a1_0 : Int) (a1_1 : Int) (r1 : List (List Int)) (r2 : Int) (w : World) (hr0 : Kd.C k54 w A0 l0.length l0) (hc0 : l0.length ≤ c0) (h : spec_suBest.f k l0 a1_0 a1_1 = some (r1, r2)) :
    Calls Try.prog 58 #[.slice A0 l0.length c0, .agg #[.int .i64 a1_0, .int .i64 a1_1]] w fun e w' => ∃ v0_ : Value, e = .returned (.tuple #[v0_, .int .i64 r2]) ∧ Kd.N (Kd.slice 3 (Kd.int .i64)) 29 w' w.heap.size (fun k_ => (w.heap.size ≤ k_)) v0_ r1 ∧ Below w.heap.size w w' := by
  have hu39 := Try.underlying39
  have HR0 := Aside0.mk hr0
  have HC0 := Aside0.mk hc0
  clear hr0 hc0
  have HB := Aside0.mk (Below.refl w.heap.size w)
  have H : ((spec_suAll.f l0 a1_0 a1_1).bind fun t389 => (spec_suBest.l0 k l0 ([] : List (List Int)) 0 t389 (t389.length : Int) 0)) = some (r1, r2) := h
  clear h
  replace H := Option.bind_eq_some_iff.mp H
  obtain ⟨t389, A30, H⟩ := H
  replace H : (spec_suBest.l0 k l0 ([] : List (List Int)) 0 t389 (t389.length : Int) 0) = some (r1, r2) := H
  have A3 := Aside0.mk A30
  clear A30
  have H' := Aside0.mk H
  clear H
  go_enter Try.func58, Try.ntmps58
  go_wp2_with (first | ((with_reducible refine gate_dst (N := 3) rfl ?_); refine box_event ?hg (N := 3) ?hd (cs := #[.int .i64 a1_0, .int .i64 a1_1]) (t := 39) ?hr ?_; (case hd => rfl); (case hg => rfl); (case hr => first | (go_simp; done) | (go_simp; rfl)); intro gb388 hg w4 hbox hb; have n0_ := Aside0.mk (below_step (by repeat (first | (with_reducible first | exact HB.out | apply below_alloc | apply pw_below_drewN | apply below_drew1) | exact HB.out)) hb); have n1_ := Aside0.mk (hbox); have n2_ := Aside0.mk ((by rw [hg]; exact (below_size (by repeat (first | (with_reducible first | exact HB.out | apply below_alloc | apply pw_below_drewN | apply below_drew1) | exact HB.out))) : w.heap.size ≤ gb388)); have n3_ := Aside0.mk ((by rw [hg]; exact (below_size (by repeat (first | (with_reducible first | exact HB.out | apply below_alloc | apply pw_below_drewN | apply below_drew1) | exact HB.out))) : w.heap.size ≤ gb388)); clear HB; have HB := n0_; have BK388 := n1_; have GW388 := n2_; have GE388 := n3_; clear n0_ n1_ n2_ n3_; clear hb hbox hg; have hcz5_0 : w4.cell? ⟨gb388, 0, none⟩ = some (.int .i64 a1_0) := (blk_cell BK388.out 0).trans rfl; have hcz5_1 : w4.cell? ⟨gb388, 1, none⟩ = some (.int .i64 a1_1) := (blk_cell BK388.out 1).trans rfl; have hfz5_0 := blk_frozen BK388.out 0; have hfz5_1 := blk_frozen BK388.out 1) | ((with_reducible refine gate_callee (f := 50) rfl ?_); refine goesL_ (some 15) rfl rfl Try.func50 (by kernel_rfl) rfl #[.slice A0 l0.length c0, .agg #[.int .i64 a1_0, .int .i64 a1_1]] rfl (by (try simp only [List.map_toArray, List.map_cons, List.map_nil]); first | done | rfl | (simp only [List.length_drop, List.length_take]; rfl)) ?_; (with_reducible refine (spec_suAll.calls _ _ l0 a1_0 a1_1 t389 _ ?side1 ?side2 A3.out).mono ?_); (case side1 => repeat (first | exact (Kd.C_below HR0.out HB.out) | (with_reducible refine Kd.C_alloc ?_ _) | (with_reducible refine Kd.C_drewN ?_ _) | (with_reducible refine Kd.C_drew ?_))); (case side2 => exact HC0.out); rintro e w6 ⟨v390, rfl, ho0, hb⟩; refine ⟨_, rfl, ?_⟩; have n0_ := Aside0.mk (Kd.N_lower (Kd.N_mono (ok' := fun k_ => (w.heap.size ≤ k_) ∧ k_ ≠ gb388) ho0 (fun k_ hk_ => ⟨(Nat.le_trans (below_size (by repeat (first | (with_reducible first | exact HB.out | apply below_alloc | apply pw_below_drewN | apply below_drew1 | refine below_set ?_ GE388.out) | exact HB.out))) hk_), (Kd.freshB (g := gb388) (o := .cells #[.int .i64 a1_0, .int .i64 a1_1] 39 (0, 0)) (by (with_reducible repeat (first | refine blk_drewN ?_ _ | refine blk_drew ?_ | refine blk_alloc ?_ _)); exact BK388.out) k_ hk_)⟩)) (below_size (by repeat (first | (with_reducible first | exact HB.out | apply below_alloc | apply pw_below_drewN | apply below_drew1 | refine below_set ?_ GE388.out) | exact HB.out)))); have n1_ := Aside0.mk (blk_below (g := gb388) (o := .cells #[.int .i64 a1_0, .int .i64 a1_1] 39 (0, 0)) (by (with_reducible repeat (first | refine blk_drewN ?_ _ | refine blk_drew ?_ | refine blk_alloc ?_ _)); exact BK388.out) hb); have n2_ := Aside0.mk (below_step (by repeat (first | (with_reducible first | exact HB.out | apply below_alloc | apply pw_below_drewN | apply below_drew1 | refine below_set ?_ GE388.out) | exact HB.out)) hb); clear BK388; clear HB; have HO391 := n0_; have BK388 := n1_; have HB := n2_; clear n0_ n1_ n2_; (try clear hb); (try clear hb2); (try clear hk); (try clear hi); (try clear ho0); obtain ⟨Ao7, co7, eo7⟩ := Kd.N_slice HO391.out; subst eo7))
  go_loopg [6, 7, 17] k (fun kq v6 v7 v17 w' => ∃ (x6_1 : List (List Int)) (x7_1 : Int) (x17_1 : Int), v7 = .int .i64 x7_1 ∧ v17 = .int .i64 x17_1 ∧ Aside0 (spec_suBest.l0 kq l0 x6_1 x7_1 t389 (t389.length : Int) x17_1 = some (r1, r2)) ∧ Aside0 (kq ≤ k) ∧ Aside0 (Kd.N (Kd.slice 3 (Kd.int .i64)) 29 w' w.heap.size (fun k_ => (w.heap.size ≤ k_) ∧ some k_ ≠ ((.slice Ao7 t389.length co7) : Value).ownBlock ∧ k_ ≠ gb388) v6 x6_1) ∧ Aside0 (Kd.N (Kd.slice 3 (Kd.int .i64)) 29 w' w.heap.size (fun k_ => (w.heap.size ≤ k_) ∧ some k_ ≠ (v6 : Value).ownBlock ∧ k_ ≠ gb388) (.slice Ao7 t389.length co7) t389) ∧ Aside0 (w'.heap[gb388]? = some (.cells #[.int .i64 a1_0, .int .i64 a1_1] 39 (0, 0))) ∧ Aside0 (Below w.heap.size w w'))
  case atStart => exact ⟨(([] : List (List Int))), (0), (0), (by first | rfl | (simp; done) | (simp [*]; done)), (by first | rfl | (simp; done) | (simp [*]; done)), H', ⟨Nat.le_refl _⟩, ⟨by first | exact Kd.S_nil _ _ _ _ _ | exact Kd.N_nil _ _ _ _ _ | exact Kd.V_nil _ _ _ _ _ | exact Kd.Q_nil _ _ _ _ _ | exact Kd.R_nil _ _ _ _ _⟩, ⟨by (with_reducible repeat (first | apply Kd.N_alloc | apply Kd.N_drewN | apply Kd.N_drew)); exact Kd.N_mono HO391.out (fun _ hk => ⟨hk.1, ⟨(by simp [Value.ownBlock]), hk.2⟩⟩)⟩, ⟨by (with_reducible repeat (first | refine blk_drewN ?_ _ | refine blk_drew ?_ | refine blk_alloc ?_ _)); exact BK388.out⟩, ⟨by repeat (first | (with_reducible first | exact HB.out | apply below_alloc | apply pw_below_drewN | apply below_drew1 | refine below_set ?_ GE388.out) | exact HB.out)⟩⟩
  case round =>
    clear H'
    try clear p2
    try clear c5
    try clear hcz5_0
    try clear hcz5_1
    try clear hfz5_0
    try clear hfz5_1
    obtain ⟨x6_1, x7_1, x17_1, rfl, rfl, HA, HK1, HO_6, HO_15, BK388, HB⟩ := hrel
    cases gk with
    | zero => exact absurd HA.out (by simp [spec_suBest.l0])
    | succ k1 =>
      have H := HA.out
      clear HA
      rw [spec_suBest.l0] at H
      by_cases c8 : x17_1 < (t389.length : Int)
      · rw [if_pos c8] at H
        have c8b0 : decide (x17_1 < (t389.length : Int)) = true := decide_eq_true c8
        clear c8
        by_cases c9 : 0 ≤ x17_1
        · rw [if_pos c9] at H
          have c9b0 : decide (0 ≤ x17_1) = true := decide_eq_true c9
          clear c9
          by_cases c10 : x17_1 < (t389.length : Int)
          · rw [if_pos c10] at H
            have c10b0 : decide (x17_1 < (t389.length : Int)) = true := decide_eq_true c10
            clear c10
            replace H := Option.bind_eq_some_iff.mp H
            obtain ⟨⟨t393, t394, t395⟩, A110, H⟩ := H
            replace H : (if t395 > x7_1 then (if t395 = t395 then (if ([] : List (List Int)).length < 5864062014805 then (spec_suBest.l0 k1 l0 (([] : List (List Int)) ++ [rd_L7 t389 x17_1]) t395 t389 (t389.length : Int) (wrap64 (x17_1 + 1))) else (none)) else (spec_suBest.l0 k1 l0 ([] : List (List Int)) t395 t389 (t389.length : Int) (wrap64 (x17_1 + 1)))) else (if t395 = x7_1 then (if x6_1.length < 5864062014805 then (spec_suBest.l0 k1 l0 (x6_1 ++ [rd_L7 t389 x17_1]) x7_1 t389 (t389.length : Int) (wrap64 (x17_1 + 1))) else (none)) else (spec_suBest.l0 k1 l0 x6_1 x7_1 t389 (t389.length : Int) (wrap64 (x17_1 + 1))))) = some (r1, r2) := H
            have A11 := Aside0.mk A110
            clear A110
            by_cases c12 : t395 > x7_1
            · rw [if_pos c12] at H
              have c12b0 : decide (x7_1 < t395) = true := decide_eq_true c12
              clear c12
              by_cases c13 : t395 = t395
              · rw [if_pos c13] at H
                have c13b0 : (t395 == t395) = true := beq_iff_eq.mpr c13
                have c13b1 : (t395 != t395) = false := bne_eq_false_iff_eq.mpr c13
                clear c13
                by_cases c14 : ([] : List (List Int)).length < 5864062014805
                · rw [if_pos c14] at H
                  have LMc14 := Aside0.mk c14
                  clear c14
                  obtain ⟨y396, hy396⟩ : ∃ y_ : List (List Int), y_ = (([] : List (List Int)) ++ [rd_L7 t389 x17_1]) := ⟨_, rfl⟩
                  replace H : (spec_suBest.l0 k1 l0 y396 t395 t389 (t389.length : Int) (wrap64 (x17_1 + 1))) = some (r1, r2) := by first | (rw [hy396]; with_reducible exact H) | (have H2_ := (Option.bind_some _ _).symm.trans H; rw [hy396]; with_reducible exact H2_) | (have H2_ := (Option.bind_some _ _).symm.trans H; with_reducible exact H2_) | with_reducible exact H | (rw [hy396]; exact H) | exact H
                  have Ny396 := Aside0.mk hy396
                  clear hy396
                  have H' := Aside0.mk H
                  clear H
                  have p392 : 0 ≤ (x17_1 : Int) := of_decide_eq_true (by first | (with_reducible assumption) | assumption)
                  have q392 : x17_1 < (t389.length : Int) := of_decide_eq_true (by first | (with_reducible assumption) | assumption)
                  obtain ⟨ad392, A392_0, c392_0, e392, hx392_0, hl392_0, hi392_0⟩ := at_L7 (Kd.N_reads' HO_15.out).2.2 x17_1 p392 q392
                  cases e392
                  obtain ⟨ce392, hce392, hMe392, hcc392⟩ := Kd.N_get HO_15.out [] x17_1 p392 (by first | exact q392 | exact of_decide_eq_true (by first | (with_reducible assumption) | assumption) | (have e_ := (Kd.N_reads' HO_15.out).1; omega))
                  obtain ⟨ua392_0, uc392_0, rfl, ul392_0, ge392_0⟩ := Kd.FK_slice_open hMe392
                  have hv392_0 := hcc392 0 _ rfl
                  rw [Nat.add_zero, show ((Kd.slice 3 (Kd.int .i64))).sz = 1 from rfl, Nat.mul_one] at hv392_0
                  replace hv392_0 := Option.some.inj (hv392_0.symm.trans hx392_0)
                  injection hv392_0 with hva_ hvn_ hvc_
                  rw [hva_] at ge392_0
                  rw [hvc_] at ul392_0
                  have HL392_0 := Aside0.mk (show Kd.V (Kd.int .i64) 3 _ w.heap.size _ _ (rd_L7 t389 x17_1) from Kd.V_mk ul392_0 ge392_0)
                  clear hva_ hvn_ hvc_ ge392_0 ul392_0
                  clear hcc392 hce392
                  have HR392_0 := Aside0.mk hi392_0
                  have HC392_0 := Aside0.mk hl392_0
                  clear hi392_0 hl392_0
                  replace p392 := eq_true p392
                  replace q392 := eq_true q392
                  go_wp2_with (first | ((with_reducible refine gate_callee (f := 54) rfl ?_); refine goesL_ (some 24) rfl rfl Try.func54 (by kernel_rfl) rfl #[.slice A0 l0.length c0, .slice A392_0 (rd_L7 t389 x17_1).length c392_0] rfl (by (try simp only [List.map_toArray, List.map_cons, List.map_nil]); first | done | rfl | (simp only [List.length_drop, List.length_take]; rfl)) ?_; (with_reducible refine (spec_suTotals.calls k1 _ _ l0 _ _ (rd_L7 t389 x17_1) t393 t394 t395 _ ?side1 ?side2 ?side3 ?side4 A11.out).mono ?_); (case side1 => repeat (first | exact (Kd.C_below HR0.out HB.out) | (with_reducible refine Kd.C_alloc ?_ _) | (with_reducible refine Kd.C_drewN ?_ _) | (with_reducible refine Kd.C_drew ?_))); (case side2 => exact HC0.out); (case side3 => repeat (first | exact (by repeat (first | (with_reducible exact HR392_0.out) | (with_reducible refine Kd.C_alloc ?_ _) | (with_reducible refine Kd.C_drewN ?_ _) | (with_reducible refine Kd.C_drew ?_) | exact HR392_0.out)) | (with_reducible refine Kd.C_alloc ?_ _) | (with_reducible refine Kd.C_drewN ?_ _) | (with_reducible refine Kd.C_drew ?_))); (case side4 => exact HC392_0.out); rintro e w' ⟨rfl, ⟨nd, rfl⟩⟩; refine ⟨_, rfl, ?_⟩) | ((with_reducible refine gate_builtin (b := .append) (xs := #[.tmp 35, .tmp 37]) rfl ?_); at_builtin; refine Kd.N_append (Kd.slice 3 (Kd.int .i64)) (w0 := w) w.heap.size rfl (.tmp 35) (.tmp 37) 65 29 (.slice none 0 0) 24 rfl Try.underlying65 info29 rfl (by decide) (by omega) (.slice none 0 0) ([] : List (List Int)) (rd_L7 t389 x17_1) [.slice A392_0 (rd_L7 t389 x17_1).length c392_0] (fun k_ => (w.heap.size ≤ k_) ∧ some k_ ≠ (u6 : Value).ownBlock ∧ some k_ ≠ (.slice (some ad392) t389.length co7 : Value).ownBlock ∧ k_ ≠ gb388) (fun k_ => ((fun k_ => (w.heap.size ≤ k_) ∧ some k_ ≠ (u6 : Value).ownBlock ∧ some k_ ≠ (.slice (some ad392) t389.length co7 : Value).ownBlock ∧ k_ ≠ gb388)) k_ ∧ some k_ ≠ (.slice none 0 0 : Value).ownBlock) rfl rfl ?aP (fun _ hk => hk) ?aF ?aO ?aB ?aS ?aL ?_; (case aP => exact (Kd.FK_slice_mk (Kd.V_reads' (Kd.V_mono (ok' := (fun k_ => ((fun k_ => (w.heap.size ≤ k_) ∧ some k_ ≠ (u6 : Value).ownBlock ∧ some k_ ≠ (.slice (some ad392) t389.length co7 : Value).ownBlock ∧ k_ ≠ gb388)) k_ ∧ some k_ ≠ (.slice none 0 0 : Value).ownBlock)) (HL392_0.out) (fun k_ hk => ⟨⟨hk.1.1, ⟨hk.1.2.1, ⟨hk.2, hk.1.2.2⟩⟩⟩, (by simp [Value.ownBlock])⟩))).2.1 (Kd.V_F (Kd.V_mono (ok' := (fun k_ => ((fun k_ => (w.heap.size ≤ k_) ∧ some k_ ≠ (u6 : Value).ownBlock ∧ some k_ ≠ (.slice (some ad392) t389.length co7 : Value).ownBlock ∧ k_ ≠ gb388)) k_ ∧ some k_ ≠ (.slice none 0 0 : Value).ownBlock)) (Kd.V_drewN HL392_0.out _) (fun k_ hk => ⟨⟨hk.1.1, ⟨hk.1.2.1, ⟨hk.2, hk.1.2.2⟩⟩⟩, (by simp [Value.ownBlock])⟩))))); (case aB => exact (by repeat (first | (with_reducible first | exact HB.out | apply below_alloc | apply pw_below_drewN | apply below_drew1 | refine below_set ?_ GE388.out) | exact HB.out))); (case aF => exact (fun k_ hk => ⟨(Nat.le_trans (below_size (by repeat (first | (with_reducible first | exact HB.out | apply below_alloc | apply pw_below_drewN | apply below_drew1 | refine below_set ?_ GE388.out) | exact HB.out))) hk), Kd.fresh' (Kd.N_lt (by (with_reducible repeat (first | apply Kd.N_alloc | apply Kd.N_drewN | apply Kd.N_drew)); exact HO_6.out)) k_ hk, Kd.fresh' (Kd.N_lt (by (with_reducible repeat (first | apply Kd.N_alloc | apply Kd.N_drewN | apply Kd.N_drew)); exact HO_15.out)) k_ hk, Kd.freshB (g := gb388) (o := .cells #[.int .i64 a1_0, .int .i64 a1_1] 39 (0, 0)) (by (with_reducible repeat (first | refine blk_drewN ?_ _ | refine blk_drew ?_ | refine blk_alloc ?_ _)); exact BK388.out) k_ hk⟩)); (case aO => exact ((Kd.N_nil _ _ _ _ (fun k_ => (w.heap.size ≤ k_) ∧ some k_ ≠ (u6 : Value).ownBlock ∧ some k_ ≠ (.slice (some ad392) t389.length co7 : Value).ownBlock ∧ k_ ≠ gb388)))); (case aS => exact (below_size (by repeat (first | (with_reducible first | exact HB.out | apply below_alloc | apply pw_below_drewN | apply below_drew1 | refine below_set ?_ GE388.out) | exact HB.out)))); (case aL => have := LMc14.out; omega); intro v397 w15 ho hb hg hat; rw [← Ny396.out] at ho; have n0_ := Aside0.mk (Kd.N_afterv (Kd.N_apart_nil (by (with_reducible repeat (first | apply Kd.N_alloc | apply Kd.N_drewN | apply Kd.N_drew)); exact HO_6.out)) hg hat); have n1_ := Aside0.mk (Kd.N_afterv (Kd.N_apart_nil (by (with_reducible repeat (first | apply Kd.N_alloc | apply Kd.N_drewN | apply Kd.N_drew)); exact HO_15.out)) hg hat); have n2_ := Aside0.mk (blk_grown (g := gb388) (o := .cells #[.int .i64 a1_0, .int .i64 a1_1] 39 (0, 0)) (by (with_reducible repeat (first | refine blk_drewN ?_ _ | refine blk_drew ?_ | refine blk_alloc ?_ _)); exact BK388.out) hg (by simp [Value.ownBlock])); have n3_ := Aside0.mk (Kd.V_afterv (Kd.V_apart_nil (by (with_reducible repeat (first | apply Kd.V_alloc | apply Kd.V_drewN | apply Kd.V_drew)); exact HL392_0.out)) hg hat); have n4_ := Aside0.mk (hb); have n5_ := Aside0.mk (ho); clear HO_6; clear HO_15; clear BK388; clear HL392_0; clear HB; have HO_6 := n0_; have HO_15 := n1_; have BK388 := n2_; have HL392_0 := n3_; have HB := n4_; have HO398 := n5_; clear n0_ n1_ n2_ n3_ n4_ n5_; clear ho hb hg hat))
                  go_roundg k1
                  case measure => have := HK1.out; omega
                  case rel => exact ⟨(y396), (t395), (wrap64 (x17_1 + 1)), (by first | rfl | (simp; done) | (simp [*]; done)), (by first | rfl | (simp; done) | (simp [*]; done)), H', ⟨by have := HK1.out; omega⟩, ⟨by (with_reducible repeat (first | apply Kd.N_alloc | apply Kd.N_drewN | apply Kd.N_drew)); exact Kd.N_mono HO398.out (fun _ hk => ⟨hk.1, ⟨hk.2.2.1, hk.2.2.2⟩⟩)⟩, ⟨by (with_reducible repeat (first | apply Kd.N_alloc | apply Kd.N_drewN | apply Kd.N_drew)); exact Kd.N_mono HO_15.out (fun _ hk => ⟨hk.1.1, ⟨hk.2, hk.1.2.2⟩⟩)⟩, ⟨by (with_reducible repeat (first | refine blk_drewN ?_ _ | refine blk_drew ?_ | refine blk_alloc ?_ _)); exact BK388.out⟩, ⟨by repeat (first | (with_reducible first | exact HB.out | apply below_alloc | apply pw_below_drewN | apply below_drew1 | refine below_set ?_ GE388.out) | exact HB.out)⟩⟩
                · rw [if_neg c14] at H
                  exact absurd H (by simp)
              · exact absurd rfl c13
            · rw [if_neg c12] at H
              have c12b0 : decide (x7_1 < t395) = false := decide_eq_false c12
              clear c12
              by_cases c16 : t395 = x7_1
              · rw [if_pos c16] at H
                have c16b0 : (t395 == x7_1) = true := beq_iff_eq.mpr c16
                have c16b1 : (t395 != x7_1) = false := bne_eq_false_iff_eq.mpr c16
                clear c16
                by_cases c17 : x6_1.length < 5864062014805
                · rw [if_pos c17] at H
                  have LMc17 := Aside0.mk c17
                  clear c17
                  obtain ⟨y399, hy399⟩ : ∃ y_ : List (List Int), y_ = (x6_1 ++ [rd_L7 t389 x17_1]) := ⟨_, rfl⟩
                  replace H : (spec_suBest.l0 k1 l0 y399 x7_1 t389 (t389.length : Int) (wrap64 (x17_1 + 1))) = some (r1, r2) := by first | (rw [hy399]; with_reducible exact H) | (have H2_ := (Option.bind_some _ _).symm.trans H; rw [hy399]; with_reducible exact H2_) | (have H2_ := (Option.bind_some _ _).symm.trans H; with_reducible exact H2_) | with_reducible exact H | (rw [hy399]; exact H) | exact H
                  have Ny399 := Aside0.mk hy399
                  clear hy399
                  have H' := Aside0.mk H
                  clear H
                  have p392 : 0 ≤ (x17_1 : Int) := of_decide_eq_true (by first | (with_reducible assumption) | assumption)
                  have q392 : x17_1 < (t389.length : Int) := of_decide_eq_true (by first | (with_reducible assumption) | assumption)
                  obtain ⟨ad392, A392_0, c392_0, e392, hx392_0, hl392_0, hi392_0⟩ := at_L7 (Kd.N_reads' HO_15.out).2.2 x17_1 p392 q392
                  cases e392
                  obtain ⟨ce392, hce392, hMe392, hcc392⟩ := Kd.N_get HO_15.out [] x17_1 p392 (by first | exact q392 | exact of_decide_eq_true (by first | (with_reducible assumption) | assumption) | (have e_ := (Kd.N_reads' HO_15.out).1; omega))
                  obtain ⟨ua392_0, uc392_0, rfl, ul392_0, ge392_0⟩ := Kd.FK_slice_open hMe392
                  have hv392_0 := hcc392 0 _ rfl
                  rw [Nat.add_zero, show ((Kd.slice 3 (Kd.int .i64))).sz = 1 from rfl, Nat.mul_one] at hv392_0
                  replace hv392_0 := Option.some.inj (hv392_0.symm.trans hx392_0)
                  injection hv392_0 with hva_ hvn_ hvc_
                  rw [hva_] at ge392_0
                  rw [hvc_] at ul392_0
                  have HL392_0 := Aside0.mk (show Kd.V (Kd.int .i64) 3 _ w.heap.size _ _ (rd_L7 t389 x17_1) from Kd.V_mk ul392_0 ge392_0)
                  clear hva_ hvn_ hvc_ ge392_0 ul392_0
                  clear hcc392 hce392
                  have HR392_0 := Aside0.mk hi392_0
                  have HC392_0 := Aside0.mk hl392_0
                  clear hi392_0 hl392_0
                  replace p392 := eq_true p392
                  replace q392 := eq_true q392
                  go_wp2_with (first | ((with_reducible refine gate_callee (f := 54) rfl ?_); refine goesL_ (some 24) rfl rfl Try.func54 (by kernel_rfl) rfl #[.slice A0 l0.length c0, .slice A392_0 (rd_L7 t389 x17_1).length c392_0] rfl (by (try simp only [List.map_toArray, List.map_cons, List.map_nil]); first | done | rfl | (simp only [List.length_drop, List.length_take]; rfl)) ?_; (with_reducible refine (spec_suTotals.calls k1 _ _ l0 _ _ (rd_L7 t389 x17_1) t393 t394 t395 _ ?side1 ?side2 ?side3 ?side4 A11.out).mono ?_); (case side1 => repeat (first | exact (Kd.C_below HR0.out HB.out) | (with_reducible refine Kd.C_alloc ?_ _) | (with_reducible refine Kd.C_drewN ?_ _) | (with_reducible refine Kd.C_drew ?_))); (case side2 => exact HC0.out); (case side3 => repeat (first | exact (by repeat (first | (with_reducible exact HR392_0.out) | (with_reducible refine Kd.C_alloc ?_ _) | (with_reducible refine Kd.C_drewN ?_ _) | (with_reducible refine Kd.C_drew ?_) | exact HR392_0.out)) | (with_reducible refine Kd.C_alloc ?_ _) | (with_reducible refine Kd.C_drewN ?_ _) | (with_reducible refine Kd.C_drew ?_))); (case side4 => exact HC392_0.out); rintro e w' ⟨rfl, ⟨nd, rfl⟩⟩; refine ⟨_, rfl, ?_⟩) | ((with_reducible refine gate_builtin (b := .append) (xs := #[.tmp 35, .tmp 37]) rfl ?_); at_builtin; refine Kd.N_append (Kd.slice 3 (Kd.int .i64)) (w0 := w) w.heap.size rfl (.tmp 35) (.tmp 37) 65 29 (.slice none 0 0) 24 rfl Try.underlying65 info29 rfl (by decide) (by omega) u6 x6_1 (rd_L7 t389 x17_1) [.slice A392_0 (rd_L7 t389 x17_1).length c392_0] (fun k_ => (w.heap.size ≤ k_) ∧ some k_ ≠ (.slice (some ad392) t389.length co7 : Value).ownBlock ∧ k_ ≠ gb388) (fun k_ => ((fun k_ => (w.heap.size ≤ k_) ∧ some k_ ≠ (.slice (some ad392) t389.length co7 : Value).ownBlock ∧ k_ ≠ gb388)) k_ ∧ some k_ ≠ (u6 : Value).ownBlock) rfl rfl ?aP (fun _ hk => hk) ?aF ?aO ?aB ?aS ?aL ?_; (case aP => exact (Kd.FK_slice_mk (Kd.V_reads' (Kd.V_mono (ok' := (fun k_ => ((fun k_ => (w.heap.size ≤ k_) ∧ some k_ ≠ (.slice (some ad392) t389.length co7 : Value).ownBlock ∧ k_ ≠ gb388)) k_ ∧ some k_ ≠ (u6 : Value).ownBlock)) (HL392_0.out) (fun k_ hk => ⟨⟨hk.1.1, ⟨hk.2, hk.1.2.2⟩⟩, hk.1.2.1⟩))).2.1 (Kd.V_F (Kd.V_mono (ok' := (fun k_ => ((fun k_ => (w.heap.size ≤ k_) ∧ some k_ ≠ (.slice (some ad392) t389.length co7 : Value).ownBlock ∧ k_ ≠ gb388)) k_ ∧ some k_ ≠ (u6 : Value).ownBlock)) (Kd.V_drewN HL392_0.out _) (fun k_ hk => ⟨⟨hk.1.1, ⟨hk.2, hk.1.2.2⟩⟩, hk.1.2.1⟩))))); (case aB => exact (by repeat (first | (with_reducible first | exact HB.out | apply below_alloc | apply pw_below_drewN | apply below_drew1 | refine below_set ?_ GE388.out) | exact HB.out))); (case aF => exact (fun k_ hk => ⟨(Nat.le_trans (below_size (by repeat (first | (with_reducible first | exact HB.out | apply below_alloc | apply pw_below_drewN | apply below_drew1 | refine below_set ?_ GE388.out) | exact HB.out))) hk), Kd.fresh' (Kd.N_lt (by (with_reducible repeat (first | apply Kd.N_alloc | apply Kd.N_drewN | apply Kd.N_drew)); exact HO_15.out)) k_ hk, Kd.freshB (g := gb388) (o := .cells #[.int .i64 a1_0, .int .i64 a1_1] 39 (0, 0)) (by (with_reducible repeat (first | refine blk_drewN ?_ _ | refine blk_drew ?_ | refine blk_alloc ?_ _)); exact BK388.out) k_ hk⟩)); (case aO => exact (by (with_reducible repeat (first | apply Kd.N_alloc | apply Kd.N_drewN | apply Kd.N_drew)); exact HO_6.out)); (case aS => exact (below_size (by repeat (first | (with_reducible first | exact HB.out | apply below_alloc | apply pw_below_drewN | apply below_drew1 | refine below_set ?_ GE388.out) | exact HB.out)))); (case aL => have := LMc17.out; omega); intro v400 w18 ho hb hg hat; rw [← Ny399.out] at ho; have n0_ := Aside0.mk (Kd.N_afterv (ok := (fun k_ => (w.heap.size ≤ k_) ∧ k_ ≠ gb388)) (by (with_reducible repeat (first | apply Kd.N_alloc | apply Kd.N_drewN | apply Kd.N_drew)); exact Kd.N_mono HO_15.out (fun _ hk => ⟨⟨hk.1, hk.2.2⟩, hk.2.1⟩)) hg hat); have n1_ := Aside0.mk (blk_grown (g := gb388) (o := .cells #[.int .i64 a1_0, .int .i64 a1_1] 39 (0, 0)) (by (with_reducible repeat (first | refine blk_drewN ?_ _ | refine blk_drew ?_ | refine blk_alloc ?_ _)); exact BK388.out) hg (Kd.N_ne HO_6.out BK388.out (by decide))); have n2_ := Aside0.mk (Kd.V_afterv (ok := (fun k_ => (w.heap.size ≤ k_) ∧ some k_ ≠ (.slice (some ad392) t389.length co7 : Value).ownBlock ∧ k_ ≠ gb388)) (by (with_reducible repeat (first | apply Kd.V_alloc | apply Kd.V_drewN | apply Kd.V_drew)); exact Kd.V_mono HL392_0.out (fun _ hk => ⟨⟨hk.1.1, ⟨hk.2, hk.1.2.2⟩⟩, hk.1.2.1⟩)) hg hat); have n3_ := Aside0.mk (hb); have n4_ := Aside0.mk (ho); clear HO_15; clear BK388; clear HL392_0; clear HB; clear HO_6; have HO_15 := n0_; have BK388 := n1_; have HL392_0 := n2_; have HB := n3_; have HO401 := n4_; clear n0_ n1_ n2_ n3_ n4_; clear ho hb hg hat))
                  go_roundg k1
                  case measure => have := HK1.out; omega
                  case rel => exact ⟨(y399), (x7_1), (wrap64 (x17_1 + 1)), (by first | rfl | (simp; done) | (simp [*]; done)), (by first | rfl | (simp; done) | (simp [*]; done)), H', ⟨by have := HK1.out; omega⟩, ⟨by (with_reducible repeat (first | apply Kd.N_alloc | apply Kd.N_drewN | apply Kd.N_drew)); exact HO401.out⟩, ⟨by (with_reducible repeat (first | apply Kd.N_alloc | apply Kd.N_drewN | apply Kd.N_drew)); exact Kd.N_mono HO_15.out (fun _ hk => ⟨hk.1.1, ⟨hk.2, hk.1.2⟩⟩)⟩, ⟨by (with_reducible repeat (first | refine blk_drewN ?_ _ | refine blk_drew ?_ | refine blk_alloc ?_ _)); exact BK388.out⟩, ⟨by repeat (first | (with_reducible first | exact HB.out | apply below_alloc | apply pw_below_drewN | apply below_drew1 | refine below_set ?_ GE388.out) | exact HB.out)⟩⟩
                · rw [if_neg c17] at H
                  exact absurd H (by simp)
              · rw [if_neg c16] at H
                have c16b0 : (t395 == x7_1) = false := beq_eq_false_iff_ne.mpr c16
                have c16b1 : (t395 != x7_1) = true := bne_iff_ne.mpr c16
                have H' := Aside0.mk H
                clear H
                have p392 : 0 ≤ (x17_1 : Int) := of_decide_eq_true (by first | (with_reducible assumption) | assumption)
                have q392 : x17_1 < (t389.length : Int) := of_decide_eq_true (by first | (with_reducible assumption) | assumption)
                obtain ⟨ad392, A392_0, c392_0, e392, hx392_0, hl392_0, hi392_0⟩ := at_L7 (Kd.N_reads' HO_15.out).2.2 x17_1 p392 q392
                cases e392
                obtain ⟨ce392, hce392, hMe392, hcc392⟩ := Kd.N_get HO_15.out [] x17_1 p392 (by first | exact q392 | exact of_decide_eq_true (by first | (with_reducible assumption) | assumption) | (have e_ := (Kd.N_reads' HO_15.out).1; omega))
                obtain ⟨ua392_0, uc392_0, rfl, ul392_0, ge392_0⟩ := Kd.FK_slice_open hMe392
                have hv392_0 := hcc392 0 _ rfl
                rw [Nat.add_zero, show ((Kd.slice 3 (Kd.int .i64))).sz = 1 from rfl, Nat.mul_one] at hv392_0
                replace hv392_0 := Option.some.inj (hv392_0.symm.trans hx392_0)
                injection hv392_0 with hva_ hvn_ hvc_
                rw [hva_] at ge392_0
                rw [hvc_] at ul392_0
                have HL392_0 := Aside0.mk (show Kd.V (Kd.int .i64) 3 _ w.heap.size _ _ (rd_L7 t389 x17_1) from Kd.V_mk ul392_0 ge392_0)
                clear hva_ hvn_ hvc_ ge392_0 ul392_0
                clear hcc392 hce392
                have HR392_0 := Aside0.mk hi392_0
                have HC392_0 := Aside0.mk hl392_0
                clear hi392_0 hl392_0
                replace p392 := eq_true p392
                replace q392 := eq_true q392
                go_wp2_with (first | ((with_reducible refine gate_callee (f := 54) rfl ?_); refine goesL_ (some 24) rfl rfl Try.func54 (by kernel_rfl) rfl #[.slice A0 l0.length c0, .slice A392_0 (rd_L7 t389 x17_1).length c392_0] rfl (by (try simp only [List.map_toArray, List.map_cons, List.map_nil]); first | done | rfl | (simp only [List.length_drop, List.length_take]; rfl)) ?_; (with_reducible refine (spec_suTotals.calls k1 _ _ l0 _ _ (rd_L7 t389 x17_1) t393 t394 t395 _ ?side1 ?side2 ?side3 ?side4 A11.out).mono ?_); (case side1 => repeat (first | exact (Kd.C_below HR0.out HB.out) | (with_reducible refine Kd.C_alloc ?_ _) | (with_reducible refine Kd.C_drewN ?_ _) | (with_reducible refine Kd.C_drew ?_))); (case side2 => exact HC0.out); (case side3 => repeat (first | exact (by repeat (first | (with_reducible exact HR392_0.out) | (with_reducible refine Kd.C_alloc ?_ _) | (with_reducible refine Kd.C_drewN ?_ _) | (with_reducible refine Kd.C_drew ?_) | exact HR392_0.out)) | (with_reducible refine Kd.C_alloc ?_ _) | (with_reducible refine Kd.C_drewN ?_ _) | (with_reducible refine Kd.C_drew ?_))); (case side4 => exact HC392_0.out); rintro e w' ⟨rfl, ⟨nd, rfl⟩⟩; refine ⟨_, rfl, ?_⟩))
                go_roundg k1
                case measure => have := HK1.out; omega
                case rel => exact ⟨(x6_1), (x7_1), (wrap64 (x17_1 + 1)), (by first | rfl | (simp; done) | (simp [*]; done)), (by first | rfl | (simp; done) | (simp [*]; done)), H', ⟨by have := HK1.out; omega⟩, ⟨by (with_reducible repeat (first | apply Kd.N_alloc | apply Kd.N_drewN | apply Kd.N_drew)); exact HO_6.out⟩, ⟨by (with_reducible repeat (first | apply Kd.N_alloc | apply Kd.N_drewN | apply Kd.N_drew)); exact HO_15.out⟩, ⟨by (with_reducible repeat (first | refine blk_drewN ?_ _ | refine blk_drew ?_ | refine blk_alloc ?_ _)); exact BK388.out⟩, ⟨by repeat (first | (with_reducible first | exact HB.out | apply below_alloc | apply pw_below_drewN | apply below_drew1 | refine below_set ?_ GE388.out) | exact HB.out)⟩⟩
          · rw [if_neg c10] at H
            exact absurd H (by simp)
        · rw [if_neg c9] at H
          exact absurd H (by simp)
      · rw [if_neg c8] at H
        have c8b0 : decide (x17_1 < (t389.length : Int)) = false := decide_eq_false c8
        clear c8
        simp only [Option.some.injEq, Prod.mk.injEq] at H
        obtain ⟨rfl, rfl⟩ := H
        go_wp2
        go_ret2
        exact ⟨_, by first | rfl | (simp [errW_none, errW_some] <;> rfl) | (simp [*, errW_none, errW_some] <;> rfl), by (with_reducible repeat (first | apply Kd.N_alloc | apply Kd.N_drewN | apply Kd.N_drew)); exact Kd.N_mono HO_6.out (fun _ hk => hk.1), by repeat (first | (with_reducible first | exact HB.out | apply below_alloc | apply pw_below_drewN | apply below_drew1 | refine below_set ?_ GE388.out) | exact HB.out)⟩

end Go.Proofs.Ytgghcngfleicnaa.Q

namespace Go.Proofs.Ytgghcngfleicnaa.Q
open Go.RowKit Go.Proofs.YtgghcngfleicnaaW.PrintWords Go.Proofs.YtgghcngfleicnaaW.PrintLast Go.Proofs.YtgghcngfleicnaaW.PrintMore
set_option linter.unusedVariables false
set_option linter.unusedSimpArgs false

/-- Items are right: each number from 0 to 200. -/
def Light (items : List Item) : Prop := items.length ≤ 10 ∧ ∀ i : Int, 0 ≤ i → i < (items.length : Int) → (0 ≤ (rd_T54 items i).f0 ∧ (rd_T54 items i).f0 ≤ 200) ∧ (0 ≤ (rd_T54 items i).f1 ∧ (rd_T54 items i).f1 ≤ 200) ∧ 0 ≤ (rd_T54 items i).f2 ∧ (rd_T54 items i).f2 ≤ 200
theorem light_of {items : List Item} (hn : items.length ≤ 10) (h : ∀ x ∈ items, okItem x = true) : Light items := by
  refine ⟨hn, fun i h0 h1 => ?_⟩
  have hm : rd_T54 items i ∈ items := by
    unfold rd_T54
    rw [List.getD_eq_getElem?_getD, List.getElem?_eq_getElem (by omega)]
    exact List.getElem_mem _
  have := h _ hm
  unfold okItem at this
  simp only [Bool.and_eq_true, decide_eq_true_eq] at this
  exact ⟨by omega, by omega, by omega⟩
theorem tot_snoc (items : List Item) (ch : List Int) (i : Int) : tot items (ch ++ [i]) = addTo items (tot items ch) i := by simp [tot]
theorem tot_bound {items : List Item} (hL : Light items) : ∀ n (ch : List Int), ch.length = n → Inside items ch → n ≤ 1000 → (0 ≤ (tot items ch).1 ∧ (tot items ch).1 ≤ 200 * n) ∧ (0 ≤ (tot items ch).2.1 ∧ (tot items ch).2.1 ≤ 200 * n) ∧ 0 ≤ (tot items ch).2.2 ∧ (tot items ch).2.2 ≤ 200 * n := by
  intro n
  induction n with
  | zero => intro ch h _ _; rw [List.eq_nil_of_length_eq_zero h]; simp [tot]
  | succ n ih =>
    intro ch h hin hle
    have hne : ch ≠ [] := by intro e; subst e; simp at h
    rw [← List.dropLast_concat_getLast hne, tot_snoc]
    have hi := hin _ (List.getLast_mem hne)
    have h1 := ih ch.dropLast (by simp [h]) (fun x hx => hin x (List.dropLast_subset _ hx)) (by omega)
    have h2 := hL.2 _ hi.1 hi.2
    unfold addTo
    simp only
    rw [w64 (by omega) (by omega), w64 (by omega) (by omega), w64 (by omega) (by omega)]
    omega
theorem tot_add {items : List Item} (hL : Light items) (ch : List Int) (i : Int) (hin : Inside items ch) (hi : 0 ≤ i ∧ i < (items.length : Int)) (hl : ch.length ≤ 900) :
    (tot items (ch ++ [i])).1 = (tot items ch).1 + (rd_T54 items i).f0 ∧ (tot items (ch ++ [i])).2.1 = (tot items ch).2.1 + (rd_T54 items i).f1 ∧ (tot items (ch ++ [i])).2.2 = (tot items ch).2.2 + (rd_T54 items i).f2 := by
  have h1 := tot_bound hL _ ch rfl hin (by omega)
  have h2 := hL.2 i hi.1 hi.2
  rw [tot_snoc]
  unfold addTo
  exact ⟨w64 (by omega) (by omega), w64 (by omega) (by omega), w64 (by omega) (by omega)⟩
theorem fits_less {items : List Item} (hL : Light items) (a b : Int) (ch : List Int) (i : Int) (hin : Inside items ch) (hi : 0 ≤ i ∧ i < (items.length : Int)) (hl : ch.length ≤ 900) (h : fitsC items a b ch = false) : fitsC items a b (ch ++ [i]) = false := by
  have h1 := tot_add hL ch i hin hi hl
  have h2 := hL.2 i hi.1 hi.2
  unfold fitsC at h ⊢
  rw [h1.1, h1.2.1]
  simp only [Bool.and_eq_false_iff, decide_eq_false_iff_not] at h ⊢
  omega
theorem inside_snoc {items : List Item} {ch : List Int} {i : Nat} (h : ∀ x ∈ ch, 0 ≤ x ∧ x < (i : Int)) : ∀ x ∈ ch ++ [(i : Int)], 0 ≤ x ∧ x < ((i + 1 : Nat) : Int) := fun x hx => by
  rcases List.mem_append.1 hx with hx | hx
  · have := h x hx; omega
  · have := List.mem_singleton.1 hx; omega
theorem inside_of {items : List Item} {ch : List Int} {i : Nat} (h : ∀ x ∈ ch, 0 ≤ x ∧ x < (i : Int)) (hi : i ≤ items.length) : Inside items ch := fun x hx => by have := h x hx; omega
theorem loopV_none {items : List Item} (hL : Light items) (a b : Int) : ∀ d ch i, i + d = items.length → (∀ x ∈ ch, 0 ≤ x ∧ x < (i : Int)) → ch.length ≤ i → fitsC items a b ch = false → (loopV d ch i).filter (fitsC items a b) = [] := by
  intro d
  induction d with
  | zero => intro ch i _ _ _ _; rfl
  | succ d ih =>
    intro ch i hd hin hl hf
    have h10 := hL.1
    have hf2 := fits_less hL a b ch (i : Int) (inside_of hin (by omega)) ⟨by omega, by omega⟩ (by omega) hf
    unfold loopV
    rw [List.filter_append, List.filter_cons, if_neg (by rw [hf2]; decide), ih _ (i + 1) (by omega) (inside_snoc (items := items) hin) (by simp; omega) hf2, ih ch (i + 1) (by omega) (fun x hx => by have := hin x hx; omega) (by omega) hf]
    rfl
theorem loopV_look {items : List Item} (hL : Light items) (a b : Int) : ∀ d ch i, i + d = items.length → (∀ x ∈ ch, 0 ≤ x ∧ x < (i : Int)) → ch.length ≤ i → (loopV d ch i).filter (fitsC items a b) = lookV items a b d ch i := by
  intro d
  induction d with
  | zero => intro ch i _ _ _; rfl
  | succ d ih =>
    intro ch i hd hin hl
    have h10 := hL.1
    unfold loopV lookV
    rw [List.filter_append, List.filter_cons, ih ch (i + 1) (by omega) (fun x hx => by have := hin x hx; omega) (by omega)]
    by_cases hf : fitsC items a b (ch ++ [(i : Int)]) = true
    · rw [if_pos hf, if_pos hf, ih _ (i + 1) (by omega) (inside_snoc (items := items) hin) (by simp; omega)]
    · rw [if_neg hf, if_neg hf, loopV_none hL a b d _ (i + 1) (by omega) (inside_snoc (items := items) hin) (by simp; omega) (by simpa using hf)]
/-- All choices, in order. -/
def choicesL (items : List Item) (a b : Int) : List (List Int) := [] :: lookV items a b items.length [] 0
theorem allV_choices {items : List Item} (hL : Light items) (a b : Int) (ha : 0 ≤ a) (hb : 0 ≤ b) : (allV items.length).filter (fitsC items a b) = choicesL items a b := by
  unfold allV choicesL
  rw [List.filter_cons, if_pos (by simp [fitsC, tot, ha, hb]), loopV_look hL a b items.length [] 0 (by omega) (fun x hx => by cases hx) (by simp)]
theorem foldl_visit {σ : Type} (items : List Item) (accept : Int × Int × Int → Bool) (step : σ → List Int → σ) : ∀ (L : List (List Int)) (s : σ), L.foldl (visit items accept step) s = (L.filter (fun ch => accept (tot items ch))).foldl step s := by
  intro L
  induction L with
  | nil => intro s; rfl
  | cons ch L ih =>
    intro s
    rw [List.foldl_cons, List.filter_cons, ih]
    unfold visit
    split <;> simp
/-- What is done at each choice. -/
theorem visit_choices {σ : Type} {items : List Item} (hL : Light items) (a b : Int) (ha : 0 ≤ a) (hb : 0 ≤ b) (step : σ → List Int → σ) (s : σ) : (allV items.length).foldl (visit items (holdsC a b) step) s = (choicesL items a b).foldl step s := by
  rw [foldl_visit, ← allV_choices hL a b ha hb]
  rfl
theorem lookV_inside (items : List Item) (a b : Int) : ∀ d ch i, i + d = items.length → (∀ x ∈ ch, 0 ≤ x ∧ x < (i : Int)) → ch.length ≤ i → ∀ c ∈ lookV items a b d ch i, Inside items c ∧ c.length ≤ items.length := by
  intro d
  induction d with
  | zero => intro ch i _ _ _ c hc; cases hc
  | succ d ih =>
    intro ch i hd hin hl c hc
    unfold lookV at hc
    rcases List.mem_append.1 hc with hc | hc
    · split at hc
      · rcases List.mem_cons.1 hc with rfl | hc
        · exact ⟨inside_of (inside_snoc (items := items) hin) (by omega), by simp; omega⟩
        · exact ih _ (i + 1) (by omega) (inside_snoc (items := items) hin) (by simp; omega) c hc
      · cases hc
    · exact ih ch (i + 1) (by omega) (fun x hx => by have := hin x hx; omega) (by omega) c hc
theorem choicesL_inside (items : List Item) (a b : Int) : ∀ c ∈ choicesL items a b, Inside items c ∧ c.length ≤ items.length := by
  intro c hc
  rcases List.mem_cons.1 hc with rfl | hc
  · exact ⟨fun x hx => (by cases hx), by simp⟩
  · exact lookV_inside items a b items.length [] 0 (by omega) (fun x hx => by cases hx) (by simp) c hc
theorem choicesL_length {items : List Item} (hn : items.length ≤ 10) (a b : Int) : (choicesL items a b).length ≤ 1024 := by
  have := lookV_length items a b items.length [] 0
  have hp : 2 ^ items.length ≤ 2 ^ 10 := Nat.pow_le_pow_right (by decide) hn
  unfold choicesL
  rw [List.length_cons]
  omega

/-! ### the reference's best -/
def suStep (items : List Item) (s : List (List Int) × Int) (ch : List Int) : List (List Int) × Int :=
  if s.2 < (tot items ch).2.2 then ([ch], (tot items ch).2.2) else if (tot items ch).2.2 = s.2 then (s.1 ++ [ch], s.2) else s
theorem suBest_l0 (items : List Item) (L : List (List Int)) (hw : ∀ c ∈ L, Inside items c ∧ c.length ≤ 1000) (hn : L.length ≤ 1000000) : ∀ d k i (s : List (List Int) × Int), i + d = L.length → d + 1000 < k → s.1.length ≤ i →
    spec_suBest.l0 k items s.1 s.2 L (L.length : Int) (i : Int) = some ((L.drop i).foldl (suStep items) s) := by
  intro d
  induction d with
  | zero =>
    intro k i s hi hk _
    obtain ⟨k, rfl⟩ : ∃ m, k = m + 1 := ⟨k - 1, by omega⟩
    simp only [spec_suBest.l0]; rw [if_neg (by omega), List.drop_of_length_le (by omega)]; rfl
  | succ d ih =>
    intro k i s hi hk hs
    obtain ⟨k, rfl⟩ : ∃ m, k = m + 1 := ⟨k - 1, by omega⟩
    have hlt : i < L.length := by omega
    have hin := hw L[i] (List.getElem_mem hlt)
    have hrd : rd_L7 L (i : Int) = L[i] := by simp [rd_L7, List.getD_eq_getElem?_getD, hlt]
    simp only [spec_suBest.l0]
    rw [if_pos (by omega), if_pos (by omega), if_pos (by omega), hrd, suTotals_eq items L[i] hin.1 (by omega) k (by omega), w64 (i := (i : Int) + 1) (by omega) (by omega), List.drop_eq_getElem_cons hlt, List.foldl_cons]
    simp only [Option.bind_some, gt_iff_lt]
    by_cases h1 : s.2 < (tot items L[i]).2.2
    · rw [if_pos h1, if_pos trivial, if_pos (by simp), show suStep items s L[i] = ([L[i]], (tot items L[i]).2.2) by unfold suStep; rw [if_pos h1]]
      have := ih k (i + 1) ([L[i]], (tot items L[i]).2.2) (by omega) (by omega) (by simp)
      rw [show ((i + 1 : Nat) : Int) = (i : Int) + 1 by omega] at this
      simpa using this
    · rw [if_neg h1]
      by_cases h2 : (tot items L[i]).2.2 = s.2
      · rw [if_pos h2, if_pos (by omega), show suStep items s L[i] = (s.1 ++ [L[i]], s.2) by unfold suStep; rw [if_neg h1, if_pos h2]]
        have := ih k (i + 1) (s.1 ++ [L[i]], s.2) (by omega) (by omega) (by simp; omega)
        rw [show ((i + 1 : Nat) : Int) = (i : Int) + 1 by omega] at this
        exact this
      · rw [if_neg h2, show suStep items s L[i] = s by unfold suStep; rw [if_neg h1, if_neg h2]]
        have := ih k (i + 1) s (by omega) (by omega) (by omega)
        rw [show ((i + 1 : Nat) : Int) = (i : Int) + 1 by omega] at this
        exact this
/-- The choices with the greatest value, and this. -/
def bestL (items : List Item) (a b : Int) : List (List Int) × Int := (choicesL items a b).foldl (suStep items) ([], 0)
theorem suBest_eq (items : List Item) (a b : Int) (hn : items.length ≤ 10) (k : Nat) (hk : 3000 < k) : spec_suBest.f k items a b = some (bestL items a b) := by
  unfold spec_suBest.f spec_suAll.f
  rw [if_pos (by omega)]
  simp only [Option.bind_some]
  have hl := choicesL_length hn a b
  have := suBest_l0 items (choicesL items a b) (fun c hc => by have := choicesL_inside items a b c hc; exact ⟨this.1, by omega⟩) (by omega) (choicesL items a b).length k 0 ([], 0) (by omega) (by omega) (by simp)
  simpa [choicesL, bestL] using this
theorem best_rel {items : List Item} (hL : Light items) : ∀ (L : List (List Int)) (s : List (List Int) × Int) (t : Best), (∀ c ∈ L, Inside items c ∧ c.length ≤ items.length) → (∃ x xs, s.1 = x :: xs ∧ t.1 = x) → t.2.1 = s.2 → t.2.2 = (s.1.length : Int) → s.1.length + L.length ≤ 1000000 →
    ∃ x xs, (L.foldl (suStep items) s).1 = x :: xs ∧ (L.foldl (bestStep items (fun _ y => y.2.2)) t) = (x, (L.foldl (suStep items) s).2, (((L.foldl (suStep items) s).1.length : Nat) : Int)) := by
  intro L
  induction L with
  | nil =>
    rintro ⟨s1, s2⟩ ⟨t1, t2, t3⟩ _ ⟨x, xs, h1, h2⟩ h3 h4 _
    simp only at h1 h2 h3 h4
    exact ⟨x, xs, h1, by simp [h2, h3, h4]⟩
  | cons ch L ih =>
    rintro ⟨s1, s2⟩ ⟨t1, t2, t3⟩ hin ⟨x, xs, h1, h2⟩ h3 h4 hl
    simp only at h1 h2 h3 h4
    subst h1 h2 h3 h4
    rw [List.foldl_cons, List.foldl_cons]
    simp only [List.length_cons] at hl
    unfold suStep bestStep
    simp only
    by_cases c1 : t2 < (tot items ch).2.2
    · rw [if_pos c1, if_pos c1]
      exact ih _ _ (fun c hc => hin c (List.mem_cons_of_mem _ hc)) ⟨ch, [], rfl, rfl⟩ rfl (by simp) (by simp; omega)
    · rw [if_neg c1, if_neg c1]
      by_cases c2 : (tot items ch).2.2 = t2
      · rw [if_pos c2, if_pos c2]
        refine ih _ _ (fun c hc => hin c (List.mem_cons_of_mem _ hc)) ⟨t1, xs ++ [ch], rfl, rfl⟩ rfl ?_ (by simp; omega)
        simp only [List.length_cons, List.cons_append, List.length_append, List.length_nil]
        rw [w64 (by omega) (by omega)]
        omega
      · rw [if_neg c2, if_neg c2]
        exact ih _ _ (fun c hc => hin c (List.mem_cons_of_mem _ hc)) ⟨t1, xs, rfl, rfl⟩ rfl rfl (by simp; omega)
/-- The program's best is the reference's. -/
theorem best_same {items : List Item} (hL : Light items) (a b : Int) (ha : 0 ≤ a) (hb : 0 ≤ b) : ∃ x xs, (bestL items a b).1 = x :: xs ∧ bestAll items a b (fun _ y => y.2.2) = (x, (bestL items a b).2, (((bestL items a b).1.length : Nat) : Int)) := by
  unfold bestAll
  rw [visit_choices hL a b ha hb]
  have hl := choicesL_length hL.1 a b
  have hin := choicesL_inside items a b
  unfold bestL
  unfold choicesL at hl hin ⊢
  rw [List.foldl_cons, List.foldl_cons]
  refine best_rel hL _ _ _ (fun c hc => hin c (List.mem_cons_of_mem _ hc)) ⟨[], [], by simp [suStep, tot], by simp [bestStep, tot]⟩ (by simp [suStep, bestStep, tot]) (by simp [suStep, bestStep, tot]) ?_
  simp only [List.length_cons] at hl
  simp [suStep, tot]; omega
end Go.Proofs.Ytgghcngfleicnaa.Q

namespace Go.Proofs.Ytgghcngfleicnaa.Q
open Go.RowKit Go.Shelf Go.Proofs.YtgghcngfleicnaaW.PrintWords Go.Proofs.YtgghcngfleicnaaW.PrintLast Go.Proofs.YtgghcngfleicnaaW.PrintMore
set_option linter.unusedVariables false
set_option linter.unusedSimpArgs false

theorem caseRow (W : World) (a b : Int) (t : Nat) : Kd.C k39 (W.alloc (.cells #[.int .i64 a, .int .i64 b] t)) (some ⟨W.heap.size, 0, none⟩) [(⟨a, b⟩ : Case)].length [(⟨a, b⟩ : Case)] := by
  have hnew := heap_alloc_new W (.cells #[.int .i64 a, .int .i64 b] t)
  refine ⟨rfl, by simp, fun _ => ⟨_, rfl, fun j p hj => ?_⟩⟩
  have hj0 : j = 0 := by have := (List.getElem?_eq_some_iff.1 hj).1; simp at this; omega
  subst hj0
  have hp : (⟨a, b⟩ : Case) = p := by simpa using hj
  subst hp
  refine ⟨_, rfl, k39_mk _ _, fun i u hu => ?_⟩
  rcases i with _ | _ | i
  · have : Value.int .i64 a = u := by simpa using hu
    subst this
    exact (blk_cell hnew 0).trans rfl
  · have : Value.int .i64 b = u := by simpa using hu
    subst this
    exact (blk_cell hnew 1).trans rfl
  · simp at hu

theorem scoreZero_ok : ScoreOk 52 (fun _ _ => 0) := by
  intro W A c ch x hC hc
  go_enter Try.func52, Try.ntmps52
  go_wp2
  go_ret
  exact ⟨rfl, (Below.refl _ W).alloc (Nat.le_refl _) _⟩

def impl_CountChoices.f (l0 : List Item) (a1_0 a1_1 : Int) : Option (Int × Bool) :=
  (impl_arePacked.f l0 [⟨a1_0, a1_1⟩]).bind fun t => if t = true then (if l0.length ≤ 1000 then some ((bestAll l0 a1_0 a1_1 (fun _ _ => 0)).2.2, true) else none) else some (0, false)
set_option maxHeartbeats 2000000 in
theorem impl_CountChoices.calls (A0 : Option Addr) (c0 : Nat) (l0 : List Item) (a1_0 a1_1 : Int) (r1 : Int) (r2 : Bool) (w : World) (hr0 : Kd.C k54 w A0 l0.length l0) (hc0 : l0.length ≤ c0) (h : impl_CountChoices.f l0 a1_0 a1_1 = some (r1, r2)) :
    Calls Try.prog 28 #[.slice A0 l0.length c0, .agg #[.int .i64 a1_0, .int .i64 a1_1]] w fun e w' => e = .returned (.tuple #[.int .i64 r1, .bool r2]) ∧ Below w.heap.size w w' := by
  unfold impl_CountChoices.f at h
  obtain ⟨t, ht, h⟩ := Option.bind_eq_some_iff.mp h
  have HT := Aside0.mk ht
  have HR := Aside0.mk hr0
  have B2 := Aside0.mk ((((Below.refl w.heap.size w).alloc (Nat.le_refl _) (.cells #[.int .i64 a1_0, .int .i64 a1_1] 39))).alloc (by simp) (.cells #[.int .i64 a1_0, .int .i64 a1_1] 39))
  have BK : Aside0 (((w.alloc (.cells #[.int .i64 a1_0, .int .i64 a1_1] 39)).alloc (.cells #[.int .i64 a1_0, .int .i64 a1_1] 39)).heap[w.heap.size]? = some (.cells #[.int .i64 a1_0, .int .i64 a1_1] 39 (0, 0))) :=
    ⟨(Below.heap_alloc _ _ _ (by simp)).trans (heap_alloc_new w _)⟩
  clear ht hr0
  cases t with
  | false =>
    have hr : r1 = 0 ∧ r2 = false := by simpa [eq_comm] using h
    obtain ⟨rfl, rfl⟩ := hr
    clear h
    go_enter Try.func28, Try.ntmps28
    go_wp2_with (go_at_call 48; refine (impl_arePacked.calls A0 c0 l0 (some ⟨w.heap.size + 1, 0, none⟩) 1 [⟨a1_0, a1_1⟩] _ _ (Kd.C_below HR.out B2.out) hc0 ?hrow (Nat.le_refl _) HT.out).mono ?_; (case hrow => simpa using caseRow (w.alloc (.cells #[.int .i64 a1_0, .int .i64 a1_1] 39)) a1_0 a1_1 39); rintro e w' ⟨rfl, hb⟩)
    go_ret2
    exact ⟨rfl, B2.out.trans (hb.mono B2.out.size)⟩
  | true =>
    have hn : l0.length ≤ 1000 := by
      by_cases hn : l0.length ≤ 1000
      · exact hn
      · simp [hn] at h
    have hr : (bestAll l0 a1_0 a1_1 (fun _ _ => 0)).2.2 = r1 ∧ true = r2 := by simpa [hn] using h
    obtain ⟨hr, rfl⟩ := hr
    have HRR := Aside0.mk hr
    clear h hr
    have eg := enters_of Try.func52 (by kernel_rfl) rfl
    go_enter Try.func28, Try.ntmps28
    go_wp2_with (first
      | (go_at_call 48; refine (impl_arePacked.calls A0 c0 l0 (some ⟨w.heap.size + 1, 0, none⟩) 1 [⟨a1_0, a1_1⟩] _ _ (Kd.C_below HR.out B2.out) hc0 ?hrow (Nat.le_refl _) HT.out).mono ?_; (case hrow => simpa using caseRow (w.alloc (.cells #[.int .i64 a1_0, .int .i64 a1_1] 39)) a1_0 a1_1 39); rintro e w' ⟨rfl, hb⟩; have B3 := Aside0.mk (B2.out.trans (hb.mono B2.out.size)); have bk := blk_cell (blk_below BK.out hb); have bk0 := (bk 0).trans rfl; have bk1 := (bk 1).trans rfl; clear bk)
      | (go_at_call 51; refine (bestOf_calls l0 A0 c0 a1_0 a1_1 _ (fun _ _ => 0) _ eg scoreZero_ok hn (Kd.C_below HR.out B3.out) hc0 _ rfl).mono ?_; rintro e w6 ⟨v, rfl, hR, hb6⟩; rw [HRR.out]; obtain ⟨A1, c1, rfl⟩ := Kd.R_slice hR))
    go_ret2
    exact ⟨rfl, B3.out.trans (hb6.mono B3.out.size)⟩
end Go.Proofs.Ytgghcngfleicnaa.Q

namespace Go.Proofs.Ytgghcngfleicnaa.Q
open Go.RowKit Go.Proofs.YtgghcngfleicnaaW.PrintWords Go.Proofs.YtgghcngfleicnaaW.PrintLast Go.Proofs.YtgghcngfleicnaaW.PrintMore
attribute [local go_sem] max2_int min2_int max_two min_two max_three min_three max_four min_four   -- for this text's walks alone
set_option linter.unusedVariables false
set_option linter.unusedSimpArgs false

/-! ### spec_BestPacked: function 33 -/
def spec_BestPacked.f (k : Nat) (l0 : List (S54)) (a1_0 : Int) (a1_1 : Int) : Option (Int × Bool) := (spec_suAsked.f k l0 a1_0 a1_1).bind fun t435 => (if t435 = true then ((spec_suBest.f k l0 a1_0 a1_1).bind fun bt436 => (some (bt436.2, true))) else (some (0, false)))
theorem spec_BestPacked.mono : ∀ a0 a1 a2 k, LeO (spec_BestPacked.f k a0 a1 a2) (spec_BestPacked.f (k + 1) a0 a1 a2) := by
  intro a0 a1 a2 k
  unfold spec_BestPacked.f
  repeat' first
      | (with_reducible exact spec_suAsked.mono _ _ _ _)
      | (with_reducible exact spec_suBest.mono _ _ _ _)
      | (with_reducible exact LeO.refl _)
      | (with_reducible exact LeO.none _)
      | (with_reducible refine LeO.ite ?_ ?_)
      | (with_reducible refine LeO.bind ?_ (fun _ => ?_))
      | exact spec_suAsked.mono _ _ _ _
      | exact spec_suBest.mono _ _ _ _
      | exact LeO.none _
      | refine LeO.ite ?_ ?_
      | refine LeO.bind ?_ (fun _ => ?_)
set_option maxHeartbeats 8000000 in
set_option maxRecDepth 100000 in
theorem spec_BestPacked.calls (k : Nat) (A0 : Option Addr) (c0 : Nat) (l0 : List (S54)) (a1_0 : Int) (a1_1 : Int) (r1 : Int) (r2 : Bool) (w : World) (hr0 : Kd.C k54 w A0 l0.length l0) (hc0 : l0.length ≤ c0) (h : spec_BestPacked.f k l0 a1_0 a1_1 = some (r1, r2)) :
    Calls Try.prog 33 #[.slice A0 l0.length c0, .agg #[.int .i64 a1_0, .int .i64 a1_1]] w fun e w' => e = .returned (.tuple #[.int .i64 r1, .bool r2]) ∧ Below w.heap.size w w' := by
  have hu39 := Try.underlying39
  have HR0 := Aside0.mk hr0
  have HC0 := Aside0.mk hc0
  clear hr0 hc0
  have HB := Aside0.mk (Below.refl w.heap.size w)
  have H : ((spec_suAsked.f k l0 a1_0 a1_1).bind fun t435 => (if t435 = true then ((spec_suBest.f k l0 a1_0 a1_1).bind fun bt436 => (some (bt436.2, true))) else (some (0, false)))) = some (r1, r2) := h
  clear h
  replace H := Option.bind_eq_some_iff.mp H
  obtain ⟨t435, A30, H⟩ := H
  replace H : (if t435 = true then ((spec_suBest.f k l0 a1_0 a1_1).bind fun bt436 => (some (bt436.2, true))) else (some (0, false))) = some (r1, r2) := H
  have A3 := Aside0.mk A30
  clear A30
  by_cases c4 : t435 = true
  · subst c4
    have H1 : ((spec_suBest.f k l0 a1_0 a1_1).bind fun bt436 => (some (bt436.2, true))) = some (r1, r2) := by rw [if_pos rfl] at H; exact H
    clear H
    have H := H1
    clear H1
    replace H := Option.bind_eq_some_iff.mp H
    obtain ⟨⟨t436, t439⟩, A50, H⟩ := H
    replace H : (some (t439, true)) = some (r1, r2) := H
    have A5 := Aside0.mk A50
    clear A50
    simp only [Option.some.injEq, Prod.mk.injEq] at H
    obtain ⟨rfl, rfl⟩ := H
    go_enter Try.func33, Try.ntmps33
    go_wp2_with (first | ((with_reducible refine gate_dst (N := 3) rfl ?_); refine box_event ?hg (N := 3) ?hd (cs := #[.int .i64 a1_0, .int .i64 a1_1]) (t := 39) ?hr ?_; (case hd => rfl); (case hg => rfl); (case hr => first | (go_simp; done) | (go_simp; rfl)); intro gb434 hg w6 hbox hb; have n0_ := Aside0.mk (below_step (by repeat (first | (with_reducible first | exact HB.out | apply below_alloc | apply pw_below_drewN | apply below_drew1) | exact HB.out)) hb); have n1_ := Aside0.mk (hbox); have n2_ := Aside0.mk ((by rw [hg]; exact (below_size (by repeat (first | (with_reducible first | exact HB.out | apply below_alloc | apply pw_below_drewN | apply below_drew1) | exact HB.out))) : w.heap.size ≤ gb434)); have n3_ := Aside0.mk ((by rw [hg]; exact (below_size (by repeat (first | (with_reducible first | exact HB.out | apply below_alloc | apply pw_below_drewN | apply below_drew1) | exact HB.out))) : w.heap.size ≤ gb434)); clear HB; have HB := n0_; have BK434 := n1_; have GW434 := n2_; have GE434 := n3_; clear n0_ n1_ n2_ n3_; clear hb hbox hg; have hcz7_0 : w6.cell? ⟨gb434, 0, none⟩ = some (.int .i64 a1_0) := (blk_cell BK434.out 0).trans rfl; have hcz7_1 : w6.cell? ⟨gb434, 1, none⟩ = some (.int .i64 a1_1) := (blk_cell BK434.out 1).trans rfl; have hfz7_0 := blk_frozen BK434.out 0; have hfz7_1 := blk_frozen BK434.out 1) | ((with_reducible refine gate_callee (f := 46) rfl ?_); refine goesL_ (some 10) rfl rfl Try.func46 (by kernel_rfl) rfl #[.slice A0 l0.length c0, .agg #[.int .i64 a1_0, .int .i64 a1_1]] rfl (by (try simp only [List.map_toArray, List.map_cons, List.map_nil]); first | done | rfl | (simp only [List.length_drop, List.length_take]; rfl)) ?_; (with_reducible refine (spec_suAsked.calls k _ _ l0 a1_0 a1_1 true _ ?side1 ?side2 A3.out).mono ?_); (case side1 => repeat (first | exact (Kd.C_below HR0.out HB.out) | (with_reducible refine Kd.C_alloc ?_ _) | (with_reducible refine Kd.C_drewN ?_ _) | (with_reducible refine Kd.C_drew ?_))); (case side2 => exact HC0.out); rintro e w8 ⟨rfl, hb⟩; refine ⟨_, rfl, ?_⟩; have n0_ := Aside0.mk (blk_below (g := gb434) (o := .cells #[.int .i64 a1_0, .int .i64 a1_1] 39 (0, 0)) (by (with_reducible repeat (first | refine blk_drewN ?_ _ | refine blk_drew ?_ | refine blk_alloc ?_ _)); exact BK434.out) hb); have n1_ := Aside0.mk (below_step (by repeat (first | (with_reducible first | exact HB.out | apply below_alloc | apply pw_below_drewN | apply below_drew1 | refine below_set ?_ GE434.out) | exact HB.out)) hb); clear BK434; clear HB; have BK434 := n0_; have HB := n1_; clear n0_ n1_; (try clear hb); (try clear hb2); (try clear hk); (try clear hi); have hcz9_0 : w8.cell? ⟨gb434, 0, none⟩ = some (.int .i64 a1_0) := (blk_cell BK434.out 0).trans rfl; have hcz9_1 : w8.cell? ⟨gb434, 1, none⟩ = some (.int .i64 a1_1) := (blk_cell BK434.out 1).trans rfl; have hfz9_0 := blk_frozen BK434.out 0; have hfz9_1 := blk_frozen BK434.out 1) | ((with_reducible refine gate_callee (f := 58) rfl ?_); refine goesL_ (some 15) rfl rfl Try.func58 (by kernel_rfl) rfl #[.slice A0 l0.length c0, .agg #[.int .i64 a1_0, .int .i64 a1_1]] rfl (by (try simp only [List.map_toArray, List.map_cons, List.map_nil]); first | done | rfl | (simp only [List.length_drop, List.length_take]; rfl)) ?_; (with_reducible refine (spec_suBest.calls k _ _ l0 a1_0 a1_1 t436 t439 _ ?side1 ?side2 A5.out).mono ?_); (case side1 => repeat (first | exact (Kd.C_below HR0.out HB.out) | (with_reducible refine Kd.C_alloc ?_ _) | (with_reducible refine Kd.C_drewN ?_ _) | (with_reducible refine Kd.C_drew ?_))); (case side2 => exact HC0.out); rintro e w10 ⟨v437, rfl, ho0, hb⟩; refine ⟨_, rfl, ?_⟩; have n0_ := Aside0.mk (Kd.N_lower (Kd.N_mono (ok' := fun k_ => k_ ≠ gb434) ho0 (fun k_ hk_ => (Kd.freshB (g := gb434) (o := .cells #[.int .i64 a1_0, .int .i64 a1_1] 39 (0, 0)) (by (with_reducible repeat (first | refine blk_drewN ?_ _ | refine blk_drew ?_ | refine blk_alloc ?_ _)); exact BK434.out) k_ hk_))) (below_size (by repeat (first | (with_reducible first | exact HB.out | apply below_alloc | apply pw_below_drewN | apply below_drew1 | refine below_set ?_ GE434.out) | exact HB.out)))); have n1_ := Aside0.mk (blk_below (g := gb434) (o := .cells #[.int .i64 a1_0, .int .i64 a1_1] 39 (0, 0)) (by (with_reducible repeat (first | refine blk_drewN ?_ _ | refine blk_drew ?_ | refine blk_alloc ?_ _)); exact BK434.out) hb); have n2_ := Aside0.mk (below_step (by repeat (first | (with_reducible first | exact HB.out | apply below_alloc | apply pw_below_drewN | apply below_drew1 | refine below_set ?_ GE434.out) | exact HB.out)) hb); clear BK434; clear HB; have HO438 := n0_; have BK434 := n1_; have HB := n2_; clear n0_ n1_ n2_; (try clear hb); (try clear hb2); (try clear hk); (try clear hi); (try clear ho0)))
    go_ret2
    exact ⟨by first | rfl | (simp [errW_none, errW_some] <;> rfl) | (simp [*, errW_none, errW_some] <;> rfl), by repeat (first | (with_reducible first | exact HB.out | apply below_alloc | apply pw_below_drewN | apply below_drew1 | refine below_set ?_ GE434.out) | exact HB.out)⟩
  · replace c4 := Bool.eq_false_iff.mpr c4
    subst c4
    have H1 : (some (0, false)) = some (r1, r2) := by rw [if_neg (show ¬ (false = true) by decide)] at H; exact H
    clear H
    have H := H1
    clear H1
    simp only [Option.some.injEq, Prod.mk.injEq] at H
    obtain ⟨rfl, rfl⟩ := H
    go_enter Try.func33, Try.ntmps33
    go_wp2_with (first | ((with_reducible refine gate_dst (N := 3) rfl ?_); refine box_event ?hg (N := 3) ?hd (cs := #[.int .i64 a1_0, .int .i64 a1_1]) (t := 39) ?hr ?_; (case hd => rfl); (case hg => rfl); (case hr => first | (go_simp; done) | (go_simp; rfl)); intro gb434 hg w11 hbox hb; have n0_ := Aside0.mk (below_step (by repeat (first | (with_reducible first | exact HB.out | apply below_alloc | apply pw_below_drewN | apply below_drew1) | exact HB.out)) hb); have n1_ := Aside0.mk (hbox); have n2_ := Aside0.mk ((by rw [hg]; exact (below_size (by repeat (first | (with_reducible first | exact HB.out | apply below_alloc | apply pw_below_drewN | apply below_drew1) | exact HB.out))) : w.heap.size ≤ gb434)); have n3_ := Aside0.mk ((by rw [hg]; exact (below_size (by repeat (first | (with_reducible first | exact HB.out | apply below_alloc | apply pw_below_drewN | apply below_drew1) | exact HB.out))) : w.heap.size ≤ gb434)); clear HB; have HB := n0_; have BK434 := n1_; have GW434 := n2_; have GE434 := n3_; clear n0_ n1_ n2_ n3_; clear hb hbox hg; have hcz12_0 : w11.cell? ⟨gb434, 0, none⟩ = some (.int .i64 a1_0) := (blk_cell BK434.out 0).trans rfl; have hcz12_1 : w11.cell? ⟨gb434, 1, none⟩ = some (.int .i64 a1_1) := (blk_cell BK434.out 1).trans rfl; have hfz12_0 := blk_frozen BK434.out 0; have hfz12_1 := blk_frozen BK434.out 1) | ((with_reducible refine gate_callee (f := 46) rfl ?_); refine goesL_ (some 10) rfl rfl Try.func46 (by kernel_rfl) rfl #[.slice A0 l0.length c0, .agg #[.int .i64 a1_0, .int .i64 a1_1]] rfl (by (try simp only [List.map_toArray, List.map_cons, List.map_nil]); first | done | rfl | (simp only [List.length_drop, List.length_take]; rfl)) ?_; (with_reducible refine (spec_suAsked.calls k _ _ l0 a1_0 a1_1 false _ ?side1 ?side2 A3.out).mono ?_); (case side1 => repeat (first | exact (Kd.C_below HR0.out HB.out) | (with_reducible refine Kd.C_alloc ?_ _) | (with_reducible refine Kd.C_drewN ?_ _) | (with_reducible refine Kd.C_drew ?_))); (case side2 => exact HC0.out); rintro e w13 ⟨rfl, hb⟩; refine ⟨_, rfl, ?_⟩; have n0_ := Aside0.mk (blk_below (g := gb434) (o := .cells #[.int .i64 a1_0, .int .i64 a1_1] 39 (0, 0)) (by (with_reducible repeat (first | refine blk_drewN ?_ _ | refine blk_drew ?_ | refine blk_alloc ?_ _)); exact BK434.out) hb); have n1_ := Aside0.mk (below_step (by repeat (first | (with_reducible first | exact HB.out | apply below_alloc | apply pw_below_drewN | apply below_drew1 | refine below_set ?_ GE434.out) | exact HB.out)) hb); clear BK434; clear HB; have BK434 := n0_; have HB := n1_; clear n0_ n1_; (try clear hb); (try clear hb2); (try clear hk); (try clear hi)))
    go_ret2
    exact ⟨by first | rfl | (simp [errW_none, errW_some] <;> rfl) | (simp [*, errW_none, errW_some] <;> rfl), by repeat (first | (with_reducible first | exact HB.out | apply below_alloc | apply pw_below_drewN | apply below_drew1 | refine below_set ?_ GE434.out) | exact HB.out)⟩

end Go.Proofs.Ytgghcngfleicnaa.Q

namespace Go.Proofs.Ytgghcngfleicnaa.Q
open Go.RowKit Go.Proofs.YtgghcngfleicnaaW.PrintWords Go.Proofs.YtgghcngfleicnaaW.PrintLast Go.Proofs.YtgghcngfleicnaaW.PrintMore
attribute [local go_sem] max2_int min2_int max_two min_two max_three min_three max_four min_four   -- for this text's walks alone
set_option linter.unusedVariables false
set_option linter.unusedSimpArgs false

/-! ### impl_BestPacked: function 34 -/
def impl_BestPacked.f (l0 : List (S54)) (a1_0 : Int) (a1_1 : Int) : Option (Int × Bool) := (impl_arePacked.f l0 (([(⟨a1_0, a1_1⟩ : S39)] : List (S39)))).bind fun t444 => (if t444 = true then ((impl_byValue.f l0 a1_0 a1_1).bind fun bt445 => (some (bt445.2.1, true))) else (some (0, false)))
set_option maxHeartbeats 8000000 in
set_option maxRecDepth 100000 in
theorem impl_BestPacked.calls (A0 : Option Addr) (c0 : Nat) (l0 : List (S54)) (a1_0 : Int) (a1_1 : Int) (r1 : Int) (r2 : Bool) (w : World) (hr0 : Kd.C k54 w A0 l0.length l0) (hc0 : l0.length ≤ c0) (h : impl_BestPacked.f l0 a1_0 a1_1 = some (r1, r2)) :
    Calls Try.prog 34 #[.slice A0 l0.length c0, .agg #[.int .i64 a1_0, .int .i64 a1_1]] w fun e w' => e = .returned (.tuple #[.int .i64 r1, .bool r2]) ∧ Below w.heap.size w w' := by
  have hu39 := Try.underlying39
  have HR0 := Aside0.mk hr0
  have HC0 := Aside0.mk hc0
  clear hr0 hc0
  have HB := Aside0.mk (Below.refl w.heap.size w)
  have H : ((impl_arePacked.f l0 (([(⟨a1_0, a1_1⟩ : S39)] : List (S39)))).bind fun t444 => (if t444 = true then ((impl_byValue.f l0 a1_0 a1_1).bind fun bt445 => (some (bt445.2.1, true))) else (some (0, false)))) = some (r1, r2) := h
  clear h
  obtain ⟨y441, hy441⟩ : ∃ y_ : List (S39), y_ = (([(⟨a1_0, a1_1⟩ : S39)] : List (S39))) := ⟨_, rfl⟩
  replace H : ((impl_arePacked.f l0 y441).bind fun t444 => (if t444 = true then ((impl_byValue.f l0 a1_0 a1_1).bind fun bt445 => (some (bt445.2.1, true))) else (some (0, false)))) = some (r1, r2) := by first | (rw [hy441]; with_reducible exact H) | (have H2_ := (Option.bind_some _ _).symm.trans H; rw [hy441]; with_reducible exact H2_) | (have H2_ := (Option.bind_some _ _).symm.trans H; with_reducible exact H2_) | with_reducible exact H | (rw [hy441]; exact H) | exact H
  have Ny441 := Aside0.mk hy441
  clear hy441
  replace H := Option.bind_eq_some_iff.mp H
  obtain ⟨t444, A30, H⟩ := H
  replace H : (if t444 = true then ((impl_byValue.f l0 a1_0 a1_1).bind fun bt445 => (some (bt445.2.1, true))) else (some (0, false))) = some (r1, r2) := H
  have A3 := Aside0.mk A30
  clear A30
  by_cases c4 : t444 = true
  · subst c4
    have H1 : ((impl_byValue.f l0 a1_0 a1_1).bind fun bt445 => (some (bt445.2.1, true))) = some (r1, r2) := by rw [if_pos rfl] at H; exact H
    clear H
    have H := H1
    clear H1
    replace H := Option.bind_eq_some_iff.mp H
    obtain ⟨⟨t445, t448, t449⟩, A50, H⟩ := H
    replace H : (some (t448, true)) = some (r1, r2) := H
    have A5 := Aside0.mk A50
    clear A50
    simp only [Option.some.injEq, Prod.mk.injEq] at H
    obtain ⟨rfl, rfl⟩ := H
    go_enter Try.func34, Try.ntmps34
    go_wp2_with (first | ((with_reducible refine gate_dst (N := 3) rfl ?_); refine box_event ?hg (N := 3) ?hd (cs := #[.int .i64 a1_0, .int .i64 a1_1]) (t := 39) ?hr ?_; (case hd => rfl); (case hg => rfl); (case hr => first | (go_simp; done) | (go_simp; rfl)); intro gb440 hg w6 hbox hb; have n0_ := Aside0.mk (below_step (by repeat (first | (with_reducible first | exact HB.out | apply below_alloc | apply pw_below_drewN | apply below_drew1) | exact HB.out)) hb); have n1_ := Aside0.mk (hbox); have n2_ := Aside0.mk ((by rw [hg]; exact (below_size (by repeat (first | (with_reducible first | exact HB.out | apply below_alloc | apply pw_below_drewN | apply below_drew1) | exact HB.out))) : w.heap.size ≤ gb440)); have n3_ := Aside0.mk ((by rw [hg]; exact (below_size (by repeat (first | (with_reducible first | exact HB.out | apply below_alloc | apply pw_below_drewN | apply below_drew1) | exact HB.out))) : w.heap.size ≤ gb440)); clear HB; have HB := n0_; have BK440 := n1_; have GW440 := n2_; have GE440 := n3_; clear n0_ n1_ n2_ n3_; clear hb hbox hg; have hcz7_0 : w6.cell? ⟨gb440, 0, none⟩ = some (.int .i64 a1_0) := (blk_cell BK440.out 0).trans rfl; have hcz7_1 : w6.cell? ⟨gb440, 1, none⟩ = some (.int .i64 a1_1) := (blk_cell BK440.out 1).trans rfl; have hfz7_0 := blk_frozen BK440.out 0; have hfz7_1 := blk_frozen BK440.out 1) | ((with_reducible refine gate_dst (N := 11) rfl ?_); refine Kd.R_lit k39 _ 39 ?hg (N := 11) ?hd (xs := ([(⟨a1_0, a1_1⟩ : S39)] : List (S39))) (inner := [.int .i64 a1_0, .int .i64 a1_1]) (ok := fun _ => True) (okp := fun _ => True) ?hr ?hp (fun _ hk => hk) trivial (Below.refl _ _) (Nat.le_refl _) (by simp) ?_; (case hd => rfl); (case hg => rfl); (case hr => first | (go_simp; done) | (go_simp; rfl)); (case hp => exact (Reps.c2 (show Kd.M k39 _ _ _ (⟨a1_0, a1_1⟩ : S39) [.int .i64 a1_0, .int .i64 a1_1] from (k39_mkM _ _ _ (⟨a1_0, a1_1⟩ : S39) )) (Reps.none _ _))); intro v442 w8 ho9 hb hg_ hnew_; clear hg_ hnew_; (first | rw [← Ny441.out] at ho9 | (simp only [Int.reduceToNat] at ho9; rw [← Ny441.out] at ho9)); have n0_ := Aside0.mk (Kd.R_lower (Kd.R_newB ho9 (g := gb440) (o := .cells #[.int .i64 a1_0, .int .i64 a1_1] 39 (0, 0)) (by (with_reducible repeat (first | refine blk_drewN ?_ _ | refine blk_drew ?_ | refine blk_alloc ?_ _)); exact BK440.out)) (below_size (by repeat (first | (with_reducible first | exact HB.out | apply below_alloc | apply pw_below_drewN | apply below_drew1 | refine below_set ?_ GE440.out) | exact HB.out)))); have n1_ := Aside0.mk (blk_below (g := gb440) (o := .cells #[.int .i64 a1_0, .int .i64 a1_1] 39 (0, 0)) (by (with_reducible repeat (first | refine blk_drewN ?_ _ | refine blk_drew ?_ | refine blk_alloc ?_ _)); exact BK440.out) hb); have n2_ := Aside0.mk (below_step (by repeat (first | (with_reducible first | exact HB.out | apply below_alloc | apply pw_below_drewN | apply below_drew1 | refine below_set ?_ GE440.out) | exact HB.out)) hb); clear BK440; clear HB; have HO443 := n0_; have BK440 := n1_; have HB := n2_; clear n0_ n1_ n2_; clear hb ho9; obtain ⟨Ao10, co10, eo10⟩ := Kd.R_slice HO443.out; subst eo10) | ((with_reducible refine gate_callee (f := 48) rfl ?_); refine goesL_ (some 12) rfl rfl Try.func48 (by kernel_rfl) rfl #[.slice A0 l0.length c0, .slice Ao10 y441.length co10] rfl (by (try simp only [List.map_toArray, List.map_cons, List.map_nil]); first | done | rfl | (simp only [List.length_drop, List.length_take]; rfl)) ?_; (with_reducible refine (impl_arePacked.calls _ _ l0 _ _ y441 true _ ?side1 ?side2 ?side3 ?side4 A3.out).mono ?_); (case side1 => repeat (first | exact (Kd.C_below HR0.out HB.out) | (with_reducible refine Kd.C_alloc ?_ _) | (with_reducible refine Kd.C_drewN ?_ _) | (with_reducible refine Kd.C_drew ?_))); (case side2 => exact HC0.out); (case side3 => repeat (first | exact (Kd.R_reads' HO443.out).2.2 | (with_reducible refine Kd.C_alloc ?_ _) | (with_reducible refine Kd.C_drewN ?_ _) | (with_reducible refine Kd.C_drew ?_))); (case side4 => exact (Kd.R_reads' HO443.out).2.1); rintro e w11 ⟨rfl, hb⟩; refine ⟨_, rfl, ?_⟩; have n0_ := Aside0.mk (Kd.R_below (by (with_reducible repeat (first | apply Kd.R_alloc | apply Kd.R_drewN | apply Kd.R_drew)); exact HO443.out) hb); have n1_ := Aside0.mk (blk_below (g := gb440) (o := .cells #[.int .i64 a1_0, .int .i64 a1_1] 39 (0, 0)) (by (with_reducible repeat (first | refine blk_drewN ?_ _ | refine blk_drew ?_ | refine blk_alloc ?_ _)); exact BK440.out) hb); have n2_ := Aside0.mk (below_step (by repeat (first | (with_reducible first | exact HB.out | apply below_alloc | apply pw_below_drewN | apply below_drew1 | refine below_set ?_ GE440.out) | exact HB.out)) hb); clear HO443; clear BK440; clear HB; have HO443 := n0_; have BK440 := n1_; have HB := n2_; clear n0_ n1_ n2_; (try clear hb); (try clear hb2); (try clear hk); (try clear hi); have hcz12_0 : w11.cell? ⟨gb440, 0, none⟩ = some (.int .i64 a1_0) := (blk_cell BK440.out 0).trans rfl; have hcz12_1 : w11.cell? ⟨gb440, 1, none⟩ = some (.int .i64 a1_1) := (blk_cell BK440.out 1).trans rfl; have hfz12_0 := blk_frozen BK440.out 0; have hfz12_1 := blk_frozen BK440.out 1) | ((with_reducible refine gate_callee (f := 62) rfl ?_); refine goesL_ (some 17) rfl rfl Try.func62 (by kernel_rfl) rfl #[.slice A0 l0.length c0, .agg #[.int .i64 a1_0, .int .i64 a1_1]] rfl (by (try simp only [List.map_toArray, List.map_cons, List.map_nil]); first | done | rfl | (simp only [List.length_drop, List.length_take]; rfl)) ?_; (with_reducible refine (impl_byValue.calls _ _ l0 a1_0 a1_1 t445 t448 t449 _ ?side1 ?side2 A5.out).mono ?_); (case side1 => repeat (first | exact (Kd.C_below HR0.out HB.out) | (with_reducible refine Kd.C_alloc ?_ _) | (with_reducible refine Kd.C_drewN ?_ _) | (with_reducible refine Kd.C_drew ?_))); (case side2 => exact HC0.out); rintro e w13 ⟨v446, rfl, ho0, hb⟩; refine ⟨_, rfl, ?_⟩; have n0_ := Aside0.mk (Kd.R_below (by (with_reducible repeat (first | apply Kd.R_alloc | apply Kd.R_drewN | apply Kd.R_drew)); exact HO443.out) hb); have n1_ := Aside0.mk (Kd.R_lower ho0 (below_size (by repeat (first | (with_reducible first | exact HB.out | apply below_alloc | apply pw_below_drewN | apply below_drew1 | refine below_set ?_ GE440.out) | exact HB.out)))); have n2_ := Aside0.mk (blk_below (g := gb440) (o := .cells #[.int .i64 a1_0, .int .i64 a1_1] 39 (0, 0)) (by (with_reducible repeat (first | refine blk_drewN ?_ _ | refine blk_drew ?_ | refine blk_alloc ?_ _)); exact BK440.out) hb); have n3_ := Aside0.mk (below_step (by repeat (first | (with_reducible first | exact HB.out | apply below_alloc | apply pw_below_drewN | apply below_drew1 | refine below_set ?_ GE440.out) | exact HB.out)) hb); clear HO443; clear BK440; clear HB; have HO443 := n0_; have HO447 := n1_; have BK440 := n2_; have HB := n3_; clear n0_ n1_ n2_ n3_; (try clear hb); (try clear hb2); (try clear hk); (try clear hi); (try clear ho0)))
    go_ret2
    exact ⟨by first | rfl | (simp [errW_none, errW_some] <;> rfl) | (simp [*, errW_none, errW_some] <;> rfl), by repeat (first | (with_reducible first | exact HB.out | apply below_alloc | apply pw_below_drewN | apply below_drew1 | refine below_set ?_ GE440.out) | exact HB.out)⟩
  · replace c4 := Bool.eq_false_iff.mpr c4
    subst c4
    have H1 : (some (0, false)) = some (r1, r2) := by rw [if_neg (show ¬ (false = true) by decide)] at H; exact H
    clear H
    have H := H1
    clear H1
    simp only [Option.some.injEq, Prod.mk.injEq] at H
    obtain ⟨rfl, rfl⟩ := H
    go_enter Try.func34, Try.ntmps34
    go_wp2_with (first | ((with_reducible refine gate_dst (N := 3) rfl ?_); refine box_event ?hg (N := 3) ?hd (cs := #[.int .i64 a1_0, .int .i64 a1_1]) (t := 39) ?hr ?_; (case hd => rfl); (case hg => rfl); (case hr => first | (go_simp; done) | (go_simp; rfl)); intro gb440 hg w14 hbox hb; have n0_ := Aside0.mk (below_step (by repeat (first | (with_reducible first | exact HB.out | apply below_alloc | apply pw_below_drewN | apply below_drew1) | exact HB.out)) hb); have n1_ := Aside0.mk (hbox); have n2_ := Aside0.mk ((by rw [hg]; exact (below_size (by repeat (first | (with_reducible first | exact HB.out | apply below_alloc | apply pw_below_drewN | apply below_drew1) | exact HB.out))) : w.heap.size ≤ gb440)); have n3_ := Aside0.mk ((by rw [hg]; exact (below_size (by repeat (first | (with_reducible first | exact HB.out | apply below_alloc | apply pw_below_drewN | apply below_drew1) | exact HB.out))) : w.heap.size ≤ gb440)); clear HB; have HB := n0_; have BK440 := n1_; have GW440 := n2_; have GE440 := n3_; clear n0_ n1_ n2_ n3_; clear hb hbox hg; have hcz15_0 : w14.cell? ⟨gb440, 0, none⟩ = some (.int .i64 a1_0) := (blk_cell BK440.out 0).trans rfl; have hcz15_1 : w14.cell? ⟨gb440, 1, none⟩ = some (.int .i64 a1_1) := (blk_cell BK440.out 1).trans rfl; have hfz15_0 := blk_frozen BK440.out 0; have hfz15_1 := blk_frozen BK440.out 1) | ((with_reducible refine gate_dst (N := 11) rfl ?_); refine Kd.R_lit k39 _ 39 ?hg (N := 11) ?hd (xs := ([(⟨a1_0, a1_1⟩ : S39)] : List (S39))) (inner := [.int .i64 a1_0, .int .i64 a1_1]) (ok := fun _ => True) (okp := fun _ => True) ?hr ?hp (fun _ hk => hk) trivial (Below.refl _ _) (Nat.le_refl _) (by simp) ?_; (case hd => rfl); (case hg => rfl); (case hr => first | (go_simp; done) | (go_simp; rfl)); (case hp => exact (Reps.c2 (show Kd.M k39 _ _ _ (⟨a1_0, a1_1⟩ : S39) [.int .i64 a1_0, .int .i64 a1_1] from (k39_mkM _ _ _ (⟨a1_0, a1_1⟩ : S39) )) (Reps.none _ _))); intro v442 w16 ho17 hb hg_ hnew_; clear hg_ hnew_; (first | rw [← Ny441.out] at ho17 | (simp only [Int.reduceToNat] at ho17; rw [← Ny441.out] at ho17)); have n0_ := Aside0.mk (Kd.R_lower (Kd.R_newB ho17 (g := gb440) (o := .cells #[.int .i64 a1_0, .int .i64 a1_1] 39 (0, 0)) (by (with_reducible repeat (first | refine blk_drewN ?_ _ | refine blk_drew ?_ | refine blk_alloc ?_ _)); exact BK440.out)) (below_size (by repeat (first | (with_reducible first | exact HB.out | apply below_alloc | apply pw_below_drewN | apply below_drew1 | refine below_set ?_ GE440.out) | exact HB.out)))); have n1_ := Aside0.mk (blk_below (g := gb440) (o := .cells #[.int .i64 a1_0, .int .i64 a1_1] 39 (0, 0)) (by (with_reducible repeat (first | refine blk_drewN ?_ _ | refine blk_drew ?_ | refine blk_alloc ?_ _)); exact BK440.out) hb); have n2_ := Aside0.mk (below_step (by repeat (first | (with_reducible first | exact HB.out | apply below_alloc | apply pw_below_drewN | apply below_drew1 | refine below_set ?_ GE440.out) | exact HB.out)) hb); clear BK440; clear HB; have HO443 := n0_; have BK440 := n1_; have HB := n2_; clear n0_ n1_ n2_; clear hb ho17; obtain ⟨Ao18, co18, eo18⟩ := Kd.R_slice HO443.out; subst eo18) | ((with_reducible refine gate_callee (f := 48) rfl ?_); refine goesL_ (some 12) rfl rfl Try.func48 (by kernel_rfl) rfl #[.slice A0 l0.length c0, .slice Ao18 y441.length co18] rfl (by (try simp only [List.map_toArray, List.map_cons, List.map_nil]); first | done | rfl | (simp only [List.length_drop, List.length_take]; rfl)) ?_; (with_reducible refine (impl_arePacked.calls _ _ l0 _ _ y441 false _ ?side1 ?side2 ?side3 ?side4 A3.out).mono ?_); (case side1 => repeat (first | exact (Kd.C_below HR0.out HB.out) | (with_reducible refine Kd.C_alloc ?_ _) | (with_reducible refine Kd.C_drewN ?_ _) | (with_reducible refine Kd.C_drew ?_))); (case side2 => exact HC0.out); (case side3 => repeat (first | exact (Kd.R_reads' HO443.out).2.2 | (with_reducible refine Kd.C_alloc ?_ _) | (with_reducible refine Kd.C_drewN ?_ _) | (with_reducible refine Kd.C_drew ?_))); (case side4 => exact (Kd.R_reads' HO443.out).2.1); rintro e w19 ⟨rfl, hb⟩; refine ⟨_, rfl, ?_⟩; have n0_ := Aside0.mk (Kd.R_below (by (with_reducible repeat (first | apply Kd.R_alloc | apply Kd.R_drewN | apply Kd.R_drew)); exact HO443.out) hb); have n1_ := Aside0.mk (blk_below (g := gb440) (o := .cells #[.int .i64 a1_0, .int .i64 a1_1] 39 (0, 0)) (by (with_reducible repeat (first | refine blk_drewN ?_ _ | refine blk_drew ?_ | refine blk_alloc ?_ _)); exact BK440.out) hb); have n2_ := Aside0.mk (below_step (by repeat (first | (with_reducible first | exact HB.out | apply below_alloc | apply pw_below_drewN | apply below_drew1 | refine below_set ?_ GE440.out) | exact HB.out)) hb); clear HO443; clear BK440; clear HB; have HO443 := n0_; have BK440 := n1_; have HB := n2_; clear n0_ n1_ n2_; (try clear hb); (try clear hb2); (try clear hk); (try clear hi)))
    go_ret2
    exact ⟨by first | rfl | (simp [errW_none, errW_some] <;> rfl) | (simp [*, errW_none, errW_some] <;> rfl), by repeat (first | (with_reducible first | exact HB.out | apply below_alloc | apply pw_below_drewN | apply below_drew1 | refine below_set ?_ GE440.out) | exact HB.out)⟩

end Go.Proofs.Ytgghcngfleicnaa.Q

namespace Go.Proofs.Ytgghcngfleicnaa.Q
open Go.RowKit Go.Proofs.YtgghcngfleicnaaW.PrintWords Go.Proofs.YtgghcngfleicnaaW.PrintLast Go.Proofs.YtgghcngfleicnaaW.PrintMore
attribute [local go_sem] max2_int min2_int max_two min_two max_three min_three max_four min_four   -- for this text's walks alone
set_option linter.unusedVariables false
set_option linter.unusedSimpArgs false

/-! ### spec_CountPacked: function 35 -/
def spec_CountPacked.f (k : Nat) (l0 : List (S54)) (a1_0 : Int) (a1_1 : Int) : Option (Int × Bool) := (spec_suAsked.f k l0 a1_0 a1_1).bind fun t471 => (if t471 = true then ((spec_suBest.f k l0 a1_0 a1_1).bind fun bt472 => (some ((bt472.1.length : Int), true))) else (some (0, false)))
theorem spec_CountPacked.mono : ∀ a0 a1 a2 k, LeO (spec_CountPacked.f k a0 a1 a2) (spec_CountPacked.f (k + 1) a0 a1 a2) := by
  intro a0 a1 a2 k
  unfold spec_CountPacked.f
  repeat' first
      | (with_reducible exact spec_suAsked.mono _ _ _ _)
      | (with_reducible exact spec_suBest.mono _ _ _ _)
      | (with_reducible exact LeO.refl _)
      | (with_reducible exact LeO.none _)
      | (with_reducible refine LeO.ite ?_ ?_)
      | (with_reducible refine LeO.bind ?_ (fun _ => ?_))
      | exact spec_suAsked.mono _ _ _ _
      | exact spec_suBest.mono _ _ _ _
      | exact LeO.none _
      | refine LeO.ite ?_ ?_
      | refine LeO.bind ?_ (fun _ => ?_)
set_option maxHeartbeats 8000000 in
set_option maxRecDepth 100000 in
theorem spec_CountPacked.calls (k : Nat) (A0 : Option Addr) (c0 : Nat) (l0 : List (S54)) (a1_0 : Int) (a1_1 : Int) (r1 : Int) (r2 : Bool) (w : World) (hr0 : Kd.C k54 w A0 l0.length l0) (hc0 : l0.length ≤ c0) (h : spec_CountPacked.f k l0 a1_0 a1_1 = some (r1, r2)) :
    Calls Try.prog 35 #[.slice A0 l0.length c0, .agg #[.int .i64 a1_0, .int .i64 a1_1]] w fun e w' => e = .returned (.tuple #[.int .i64 r1, .bool r2]) ∧ Below w.heap.size w w' := by
  have hu39 := Try.underlying39
  have HR0 := Aside0.mk hr0
  have HC0 := Aside0.mk hc0
  clear hr0 hc0
  have HB := Aside0.mk (Below.refl w.heap.size w)
  have H : ((spec_suAsked.f k l0 a1_0 a1_1).bind fun t471 => (if t471 = true then ((spec_suBest.f k l0 a1_0 a1_1).bind fun bt472 => (some ((bt472.1.length : Int), true))) else (some (0, false)))) = some (r1, r2) := h
  clear h
  replace H := Option.bind_eq_some_iff.mp H
  obtain ⟨t471, A30, H⟩ := H
  replace H : (if t471 = true then ((spec_suBest.f k l0 a1_0 a1_1).bind fun bt472 => (some ((bt472.1.length : Int), true))) else (some (0, false))) = some (r1, r2) := H
  have A3 := Aside0.mk A30
  clear A30
  by_cases c4 : t471 = true
  · subst c4
    have H1 : ((spec_suBest.f k l0 a1_0 a1_1).bind fun bt472 => (some ((bt472.1.length : Int), true))) = some (r1, r2) := by rw [if_pos rfl] at H; exact H
    clear H
    have H := H1
    clear H1
    replace H := Option.bind_eq_some_iff.mp H
    obtain ⟨⟨t472, t475⟩, A50, H⟩ := H
    replace H : (some ((t472.length : Int), true)) = some (r1, r2) := H
    have A5 := Aside0.mk A50
    clear A50
    simp only [Option.some.injEq, Prod.mk.injEq] at H
    obtain ⟨rfl, rfl⟩ := H
    go_enter Try.func35, Try.ntmps35
    go_wp2_with (first | ((with_reducible refine gate_dst (N := 3) rfl ?_); refine box_event ?hg (N := 3) ?hd (cs := #[.int .i64 a1_0, .int .i64 a1_1]) (t := 39) ?hr ?_; (case hd => rfl); (case hg => rfl); (case hr => first | (go_simp; done) | (go_simp; rfl)); intro gb470 hg w6 hbox hb; have n0_ := Aside0.mk (below_step (by repeat (first | (with_reducible first | exact HB.out | apply below_alloc | apply pw_below_drewN | apply below_drew1) | exact HB.out)) hb); have n1_ := Aside0.mk (hbox); have n2_ := Aside0.mk ((by rw [hg]; exact (below_size (by repeat (first | (with_reducible first | exact HB.out | apply below_alloc | apply pw_below_drewN | apply below_drew1) | exact HB.out))) : w.heap.size ≤ gb470)); have n3_ := Aside0.mk ((by rw [hg]; exact (below_size (by repeat (first | (with_reducible first | exact HB.out | apply below_alloc | apply pw_below_drewN | apply below_drew1) | exact HB.out))) : w.heap.size ≤ gb470)); clear HB; have HB := n0_; have BK470 := n1_; have GW470 := n2_; have GE470 := n3_; clear n0_ n1_ n2_ n3_; clear hb hbox hg; have hcz7_0 : w6.cell? ⟨gb470, 0, none⟩ = some (.int .i64 a1_0) := (blk_cell BK470.out 0).trans rfl; have hcz7_1 : w6.cell? ⟨gb470, 1, none⟩ = some (.int .i64 a1_1) := (blk_cell BK470.out 1).trans rfl; have hfz7_0 := blk_frozen BK470.out 0; have hfz7_1 := blk_frozen BK470.out 1) | ((with_reducible refine gate_callee (f := 46) rfl ?_); refine goesL_ (some 10) rfl rfl Try.func46 (by kernel_rfl) rfl #[.slice A0 l0.length c0, .agg #[.int .i64 a1_0, .int .i64 a1_1]] rfl (by (try simp only [List.map_toArray, List.map_cons, List.map_nil]); first | done | rfl | (simp only [List.length_drop, List.length_take]; rfl)) ?_; (with_reducible refine (spec_suAsked.calls k _ _ l0 a1_0 a1_1 true _ ?side1 ?side2 A3.out).mono ?_); (case side1 => repeat (first | exact (Kd.C_below HR0.out HB.out) | (with_reducible refine Kd.C_alloc ?_ _) | (with_reducible refine Kd.C_drewN ?_ _) | (with_reducible refine Kd.C_drew ?_))); (case side2 => exact HC0.out); rintro e w8 ⟨rfl, hb⟩; refine ⟨_, rfl, ?_⟩; have n0_ := Aside0.mk (blk_below (g := gb470) (o := .cells #[.int .i64 a1_0, .int .i64 a1_1] 39 (0, 0)) (by (with_reducible repeat (first | refine blk_drewN ?_ _ | refine blk_drew ?_ | refine blk_alloc ?_ _)); exact BK470.out) hb); have n1_ := Aside0.mk (below_step (by repeat (first | (with_reducible first | exact HB.out | apply below_alloc | apply pw_below_drewN | apply below_drew1 | refine below_set ?_ GE470.out) | exact HB.out)) hb); clear BK470; clear HB; have BK470 := n0_; have HB := n1_; clear n0_ n1_; (try clear hb); (try clear hb2); (try clear hk); (try clear hi); have hcz9_0 : w8.cell? ⟨gb470, 0, none⟩ = some (.int .i64 a1_0) := (blk_cell BK470.out 0).trans rfl; have hcz9_1 : w8.cell? ⟨gb470, 1, none⟩ = some (.int .i64 a1_1) := (blk_cell BK470.out 1).trans rfl; have hfz9_0 := blk_frozen BK470.out 0; have hfz9_1 := blk_frozen BK470.out 1) | ((with_reducible refine gate_callee (f := 58) rfl ?_); refine goesL_ (some 15) rfl rfl Try.func58 (by kernel_rfl) rfl #[.slice A0 l0.length c0, .agg #[.int .i64 a1_0, .int .i64 a1_1]] rfl (by (try simp only [List.map_toArray, List.map_cons, List.map_nil]); first | done | rfl | (simp only [List.length_drop, List.length_take]; rfl)) ?_; (with_reducible refine (spec_suBest.calls k _ _ l0 a1_0 a1_1 t472 t475 _ ?side1 ?side2 A5.out).mono ?_); (case side1 => repeat (first | exact (Kd.C_below HR0.out HB.out) | (with_reducible refine Kd.C_alloc ?_ _) | (with_reducible refine Kd.C_drewN ?_ _) | (with_reducible refine Kd.C_drew ?_))); (case side2 => exact HC0.out); rintro e w10 ⟨v473, rfl, ho0, hb⟩; refine ⟨_, rfl, ?_⟩; have n0_ := Aside0.mk (Kd.N_lower (Kd.N_mono (ok' := fun k_ => k_ ≠ gb470) ho0 (fun k_ hk_ => (Kd.freshB (g := gb470) (o := .cells #[.int .i64 a1_0, .int .i64 a1_1] 39 (0, 0)) (by (with_reducible repeat (first | refine blk_drewN ?_ _ | refine blk_drew ?_ | refine blk_alloc ?_ _)); exact BK470.out) k_ hk_))) (below_size (by repeat (first | (with_reducible first | exact HB.out | apply below_alloc | apply pw_below_drewN | apply below_drew1 | refine below_set ?_ GE470.out) | exact HB.out)))); have n1_ := Aside0.mk (blk_below (g := gb470) (o := .cells #[.int .i64 a1_0, .int .i64 a1_1] 39 (0, 0)) (by (with_reducible repeat (first | refine blk_drewN ?_ _ | refine blk_drew ?_ | refine blk_alloc ?_ _)); exact BK470.out) hb); have n2_ := Aside0.mk (below_step (by repeat (first | (with_reducible first | exact HB.out | apply below_alloc | apply pw_below_drewN | apply below_drew1 | refine below_set ?_ GE470.out) | exact HB.out)) hb); clear BK470; clear HB; have HO474 := n0_; have BK470 := n1_; have HB := n2_; clear n0_ n1_ n2_; (try clear hb); (try clear hb2); (try clear hk); (try clear hi); (try clear ho0); obtain ⟨Ao11, co11, eo11⟩ := Kd.N_slice HO474.out; subst eo11))
    go_ret2
    exact ⟨by first | rfl | (simp [errW_none, errW_some] <;> rfl) | (simp [*, errW_none, errW_some] <;> rfl), by repeat (first | (with_reducible first | exact HB.out | apply below_alloc | apply pw_below_drewN | apply below_drew1 | refine below_set ?_ GE470.out) | exact HB.out)⟩
  · replace c4 := Bool.eq_false_iff.mpr c4
    subst c4
    have H1 : (some (0, false)) = some (r1, r2) := by rw [if_neg (show ¬ (false = true) by decide)] at H; exact H
    clear H
    have H := H1
    clear H1
    simp only [Option.some.injEq, Prod.mk.injEq] at H
    obtain ⟨rfl, rfl⟩ := H
    go_enter Try.func35, Try.ntmps35
    go_wp2_with (first | ((with_reducible refine gate_dst (N := 3) rfl ?_); refine box_event ?hg (N := 3) ?hd (cs := #[.int .i64 a1_0, .int .i64 a1_1]) (t := 39) ?hr ?_; (case hd => rfl); (case hg => rfl); (case hr => first | (go_simp; done) | (go_simp; rfl)); intro gb470 hg w12 hbox hb; have n0_ := Aside0.mk (below_step (by repeat (first | (with_reducible first | exact HB.out | apply below_alloc | apply pw_below_drewN | apply below_drew1) | exact HB.out)) hb); have n1_ := Aside0.mk (hbox); have n2_ := Aside0.mk ((by rw [hg]; exact (below_size (by repeat (first | (with_reducible first | exact HB.out | apply below_alloc | apply pw_below_drewN | apply below_drew1) | exact HB.out))) : w.heap.size ≤ gb470)); have n3_ := Aside0.mk ((by rw [hg]; exact (below_size (by repeat (first | (with_reducible first | exact HB.out | apply below_alloc | apply pw_below_drewN | apply below_drew1) | exact HB.out))) : w.heap.size ≤ gb470)); clear HB; have HB := n0_; have BK470 := n1_; have GW470 := n2_; have GE470 := n3_; clear n0_ n1_ n2_ n3_; clear hb hbox hg; have hcz13_0 : w12.cell? ⟨gb470, 0, none⟩ = some (.int .i64 a1_0) := (blk_cell BK470.out 0).trans rfl; have hcz13_1 : w12.cell? ⟨gb470, 1, none⟩ = some (.int .i64 a1_1) := (blk_cell BK470.out 1).trans rfl; have hfz13_0 := blk_frozen BK470.out 0; have hfz13_1 := blk_frozen BK470.out 1) | ((with_reducible refine gate_callee (f := 46) rfl ?_); refine goesL_ (some 10) rfl rfl Try.func46 (by kernel_rfl) rfl #[.slice A0 l0.length c0, .agg #[.int .i64 a1_0, .int .i64 a1_1]] rfl (by (try simp only [List.map_toArray, List.map_cons, List.map_nil]); first | done | rfl | (simp only [List.length_drop, List.length_take]; rfl)) ?_; (with_reducible refine (spec_suAsked.calls k _ _ l0 a1_0 a1_1 false _ ?side1 ?side2 A3.out).mono ?_); (case side1 => repeat (first | exact (Kd.C_below HR0.out HB.out) | (with_reducible refine Kd.C_alloc ?_ _) | (with_reducible refine Kd.C_drewN ?_ _) | (with_reducible refine Kd.C_drew ?_))); (case side2 => exact HC0.out); rintro e w14 ⟨rfl, hb⟩; refine ⟨_, rfl, ?_⟩; have n0_ := Aside0.mk (blk_below (g := gb470) (o := .cells #[.int .i64 a1_0, .int .i64 a1_1] 39 (0, 0)) (by (with_reducible repeat (first | refine blk_drewN ?_ _ | refine blk_drew ?_ | refine blk_alloc ?_ _)); exact BK470.out) hb); have n1_ := Aside0.mk (below_step (by repeat (first | (with_reducible first | exact HB.out | apply below_alloc | apply pw_below_drewN | apply below_drew1 | refine below_set ?_ GE470.out) | exact HB.out)) hb); clear BK470; clear HB; have BK470 := n0_; have HB := n1_; clear n0_ n1_; (try clear hb); (try clear hb2); (try clear hk); (try clear hi)))
    go_ret2
    exact ⟨by first | rfl | (simp [errW_none, errW_some] <;> rfl) | (simp [*, errW_none, errW_some] <;> rfl), by repeat (first | (with_reducible first | exact HB.out | apply below_alloc | apply pw_below_drewN | apply below_drew1 | refine below_set ?_ GE470.out) | exact HB.out)⟩

end Go.Proofs.Ytgghcngfleicnaa.Q

namespace Go.Proofs.Ytgghcngfleicnaa.Q
open Go.RowKit Go.Proofs.YtgghcngfleicnaaW.PrintWords Go.Proofs.YtgghcngfleicnaaW.PrintLast Go.Proofs.YtgghcngfleicnaaW.PrintMore
attribute [local go_sem] max2_int min2_int max_two min_two max_three min_three max_four min_four   -- for this text's walks alone
set_option linter.unusedVariables false
set_option linter.unusedSimpArgs false

/-! ### impl_CountPacked: function 36 -/
def impl_CountPacked.f (l0 : List (S54)) (a1_0 : Int) (a1_1 : Int) : Option (Int × Bool) := (impl_arePacked.f l0 (([(⟨a1_0, a1_1⟩ : S39)] : List (S39)))).bind fun t480 => (if t480 = true then ((impl_byValue.f l0 a1_0 a1_1).bind fun bt481 => (some (bt481.2.2, true))) else (some (0, false)))
set_option maxHeartbeats 8000000 in
set_option maxRecDepth 100000 in
theorem impl_CountPacked.calls (A0 : Option Addr) (c0 : Nat) (l0 : List (S54)) (a1_0 : Int) (a1_1 : Int) (r1 : Int) (r2 : Bool) (w : World) (hr0 : Kd.C k54 w A0 l0.length l0) (hc0 : l0.length ≤ c0) (h : impl_CountPacked.f l0 a1_0 a1_1 = some (r1, r2)) :
    Calls Try.prog 36 #[.slice A0 l0.length c0, .agg #[.int .i64 a1_0, .int .i64 a1_1]] w fun e w' => e = .returned (.tuple #[.int .i64 r1, .bool r2]) ∧ Below w.heap.size w w' := by
  have hu39 := Try.underlying39
  have HR0 := Aside0.mk hr0
  have HC0 := Aside0.mk hc0
  clear hr0 hc0
  have HB := Aside0.mk (Below.refl w.heap.size w)
  have H : ((impl_arePacked.f l0 (([(⟨a1_0, a1_1⟩ : S39)] : List (S39)))).bind fun t480 => (if t480 = true then ((impl_byValue.f l0 a1_0 a1_1).bind fun bt481 => (some (bt481.2.2, true))) else (some (0, false)))) = some (r1, r2) := h
  clear h
  obtain ⟨y477, hy477⟩ : ∃ y_ : List (S39), y_ = (([(⟨a1_0, a1_1⟩ : S39)] : List (S39))) := ⟨_, rfl⟩
  replace H : ((impl_arePacked.f l0 y477).bind fun t480 => (if t480 = true then ((impl_byValue.f l0 a1_0 a1_1).bind fun bt481 => (some (bt481.2.2, true))) else (some (0, false)))) = some (r1, r2) := by first | (rw [hy477]; with_reducible exact H) | (have H2_ := (Option.bind_some _ _).symm.trans H; rw [hy477]; with_reducible exact H2_) | (have H2_ := (Option.bind_some _ _).symm.trans H; with_reducible exact H2_) | with_reducible exact H | (rw [hy477]; exact H) | exact H
  have Ny477 := Aside0.mk hy477
  clear hy477
  replace H := Option.bind_eq_some_iff.mp H
  obtain ⟨t480, A30, H⟩ := H
  replace H : (if t480 = true then ((impl_byValue.f l0 a1_0 a1_1).bind fun bt481 => (some (bt481.2.2, true))) else (some (0, false))) = some (r1, r2) := H
  have A3 := Aside0.mk A30
  clear A30
  by_cases c4 : t480 = true
  · subst c4
    have H1 : ((impl_byValue.f l0 a1_0 a1_1).bind fun bt481 => (some (bt481.2.2, true))) = some (r1, r2) := by rw [if_pos rfl] at H; exact H
    clear H
    have H := H1
    clear H1
    replace H := Option.bind_eq_some_iff.mp H
    obtain ⟨⟨t481, t484, t485⟩, A50, H⟩ := H
    replace H : (some (t485, true)) = some (r1, r2) := H
    have A5 := Aside0.mk A50
    clear A50
    simp only [Option.some.injEq, Prod.mk.injEq] at H
    obtain ⟨rfl, rfl⟩ := H
    go_enter Try.func36, Try.ntmps36
    go_wp2_with (first | ((with_reducible refine gate_dst (N := 3) rfl ?_); refine box_event ?hg (N := 3) ?hd (cs := #[.int .i64 a1_0, .int .i64 a1_1]) (t := 39) ?hr ?_; (case hd => rfl); (case hg => rfl); (case hr => first | (go_simp; done) | (go_simp; rfl)); intro gb476 hg w6 hbox hb; have n0_ := Aside0.mk (below_step (by repeat (first | (with_reducible first | exact HB.out | apply below_alloc | apply pw_below_drewN | apply below_drew1) | exact HB.out)) hb); have n1_ := Aside0.mk (hbox); have n2_ := Aside0.mk ((by rw [hg]; exact (below_size (by repeat (first | (with_reducible first | exact HB.out | apply below_alloc | apply pw_below_drewN | apply below_drew1) | exact HB.out))) : w.heap.size ≤ gb476)); have n3_ := Aside0.mk ((by rw [hg]; exact (below_size (by repeat (first | (with_reducible first | exact HB.out | apply below_alloc | apply pw_below_drewN | apply below_drew1) | exact HB.out))) : w.heap.size ≤ gb476)); clear HB; have HB := n0_; have BK476 := n1_; have GW476 := n2_; have GE476 := n3_; clear n0_ n1_ n2_ n3_; clear hb hbox hg; have hcz7_0 : w6.cell? ⟨gb476, 0, none⟩ = some (.int .i64 a1_0) := (blk_cell BK476.out 0).trans rfl; have hcz7_1 : w6.cell? ⟨gb476, 1, none⟩ = some (.int .i64 a1_1) := (blk_cell BK476.out 1).trans rfl; have hfz7_0 := blk_frozen BK476.out 0; have hfz7_1 := blk_frozen BK476.out 1) | ((with_reducible refine gate_dst (N := 11) rfl ?_); refine Kd.R_lit k39 _ 39 ?hg (N := 11) ?hd (xs := ([(⟨a1_0, a1_1⟩ : S39)] : List (S39))) (inner := [.int .i64 a1_0, .int .i64 a1_1]) (ok := fun _ => True) (okp := fun _ => True) ?hr ?hp (fun _ hk => hk) trivial (Below.refl _ _) (Nat.le_refl _) (by simp) ?_; (case hd => rfl); (case hg => rfl); (case hr => first | (go_simp; done) | (go_simp; rfl)); (case hp => exact (Reps.c2 (show Kd.M k39 _ _ _ (⟨a1_0, a1_1⟩ : S39) [.int .i64 a1_0, .int .i64 a1_1] from (k39_mkM _ _ _ (⟨a1_0, a1_1⟩ : S39) )) (Reps.none _ _))); intro v478 w8 ho9 hb hg_ hnew_; clear hg_ hnew_; (first | rw [← Ny477.out] at ho9 | (simp only [Int.reduceToNat] at ho9; rw [← Ny477.out] at ho9)); have n0_ := Aside0.mk (Kd.R_lower (Kd.R_newB ho9 (g := gb476) (o := .cells #[.int .i64 a1_0, .int .i64 a1_1] 39 (0, 0)) (by (with_reducible repeat (first | refine blk_drewN ?_ _ | refine blk_drew ?_ | refine blk_alloc ?_ _)); exact BK476.out)) (below_size (by repeat (first | (with_reducible first | exact HB.out | apply below_alloc | apply pw_below_drewN | apply below_drew1 | refine below_set ?_ GE476.out) | exact HB.out)))); have n1_ := Aside0.mk (blk_below (g := gb476) (o := .cells #[.int .i64 a1_0, .int .i64 a1_1] 39 (0, 0)) (by (with_reducible repeat (first | refine blk_drewN ?_ _ | refine blk_drew ?_ | refine blk_alloc ?_ _)); exact BK476.out) hb); have n2_ := Aside0.mk (below_step (by repeat (first | (with_reducible first | exact HB.out | apply below_alloc | apply pw_below_drewN | apply below_drew1 | refine below_set ?_ GE476.out) | exact HB.out)) hb); clear BK476; clear HB; have HO479 := n0_; have BK476 := n1_; have HB := n2_; clear n0_ n1_ n2_; clear hb ho9; obtain ⟨Ao10, co10, eo10⟩ := Kd.R_slice HO479.out; subst eo10) | ((with_reducible refine gate_callee (f := 48) rfl ?_); refine goesL_ (some 12) rfl rfl Try.func48 (by kernel_rfl) rfl #[.slice A0 l0.length c0, .slice Ao10 y477.length co10] rfl (by (try simp only [List.map_toArray, List.map_cons, List.map_nil]); first | done | rfl | (simp only [List.length_drop, List.length_take]; rfl)) ?_; (with_reducible refine (impl_arePacked.calls _ _ l0 _ _ y477 true _ ?side1 ?side2 ?side3 ?side4 A3.out).mono ?_); (case side1 => repeat (first | exact (Kd.C_below HR0.out HB.out) | (with_reducible refine Kd.C_alloc ?_ _) | (with_reducible refine Kd.C_drewN ?_ _) | (with_reducible refine Kd.C_drew ?_))); (case side2 => exact HC0.out); (case side3 => repeat (first | exact (Kd.R_reads' HO479.out).2.2 | (with_reducible refine Kd.C_alloc ?_ _) | (with_reducible refine Kd.C_drewN ?_ _) | (with_reducible refine Kd.C_drew ?_))); (case side4 => exact (Kd.R_reads' HO479.out).2.1); rintro e w11 ⟨rfl, hb⟩; refine ⟨_, rfl, ?_⟩; have n0_ := Aside0.mk (Kd.R_below (by (with_reducible repeat (first | apply Kd.R_alloc | apply Kd.R_drewN | apply Kd.R_drew)); exact HO479.out) hb); have n1_ := Aside0.mk (blk_below (g := gb476) (o := .cells #[.int .i64 a1_0, .int .i64 a1_1] 39 (0, 0)) (by (with_reducible repeat (first | refine blk_drewN ?_ _ | refine blk_drew ?_ | refine blk_alloc ?_ _)); exact BK476.out) hb); have n2_ := Aside0.mk (below_step (by repeat (first | (with_reducible first | exact HB.out | apply below_alloc | apply pw_below_drewN | apply below_drew1 | refine below_set ?_ GE476.out) | exact HB.out)) hb); clear HO479; clear BK476; clear HB; have HO479 := n0_; have BK476 := n1_; have HB := n2_; clear n0_ n1_ n2_; (try clear hb); (try clear hb2); (try clear hk); (try clear hi); have hcz12_0 : w11.cell? ⟨gb476, 0, none⟩ = some (.int .i64 a1_0) := (blk_cell BK476.out 0).trans rfl; have hcz12_1 : w11.cell? ⟨gb476, 1, none⟩ = some (.int .i64 a1_1) := (blk_cell BK476.out 1).trans rfl; have hfz12_0 := blk_frozen BK476.out 0; have hfz12_1 := blk_frozen BK476.out 1) | ((with_reducible refine gate_callee (f := 62) rfl ?_); refine goesL_ (some 17) rfl rfl Try.func62 (by kernel_rfl) rfl #[.slice A0 l0.length c0, .agg #[.int .i64 a1_0, .int .i64 a1_1]] rfl (by (try simp only [List.map_toArray, List.map_cons, List.map_nil]); first | done | rfl | (simp only [List.length_drop, List.length_take]; rfl)) ?_; (with_reducible refine (impl_byValue.calls _ _ l0 a1_0 a1_1 t481 t484 t485 _ ?side1 ?side2 A5.out).mono ?_); (case side1 => repeat (first | exact (Kd.C_below HR0.out HB.out) | (with_reducible refine Kd.C_alloc ?_ _) | (with_reducible refine Kd.C_drewN ?_ _) | (with_reducible refine Kd.C_drew ?_))); (case side2 => exact HC0.out); rintro e w13 ⟨v482, rfl, ho0, hb⟩; refine ⟨_, rfl, ?_⟩; have n0_ := Aside0.mk (Kd.R_below (by (with_reducible repeat (first | apply Kd.R_alloc | apply Kd.R_drewN | apply Kd.R_drew)); exact HO479.out) hb); have n1_ := Aside0.mk (Kd.R_lower ho0 (below_size (by repeat (first | (with_reducible first | exact HB.out | apply below_alloc | apply pw_below_drewN | apply below_drew1 | refine below_set ?_ GE476.out) | exact HB.out)))); have n2_ := Aside0.mk (blk_below (g := gb476) (o := .cells #[.int .i64 a1_0, .int .i64 a1_1] 39 (0, 0)) (by (with_reducible repeat (first | refine blk_drewN ?_ _ | refine blk_drew ?_ | refine blk_alloc ?_ _)); exact BK476.out) hb); have n3_ := Aside0.mk (below_step (by repeat (first | (with_reducible first | exact HB.out | apply below_alloc | apply pw_below_drewN | apply below_drew1 | refine below_set ?_ GE476.out) | exact HB.out)) hb); clear HO479; clear BK476; clear HB; have HO479 := n0_; have HO483 := n1_; have BK476 := n2_; have HB := n3_; clear n0_ n1_ n2_ n3_; (try clear hb); (try clear hb2); (try clear hk); (try clear hi); (try clear ho0)))
    go_ret2
    exact ⟨by first | rfl | (simp [errW_none, errW_some] <;> rfl) | (simp [*, errW_none, errW_some] <;> rfl), by repeat (first | (with_reducible first | exact HB.out | apply below_alloc | apply pw_below_drewN | apply below_drew1 | refine below_set ?_ GE476.out) | exact HB.out)⟩
  · replace c4 := Bool.eq_false_iff.mpr c4
    subst c4
    have H1 : (some (0, false)) = some (r1, r2) := by rw [if_neg (show ¬ (false = true) by decide)] at H; exact H
    clear H
    have H := H1
    clear H1
    simp only [Option.some.injEq, Prod.mk.injEq] at H
    obtain ⟨rfl, rfl⟩ := H
    go_enter Try.func36, Try.ntmps36
    go_wp2_with (first | ((with_reducible refine gate_dst (N := 3) rfl ?_); refine box_event ?hg (N := 3) ?hd (cs := #[.int .i64 a1_0, .int .i64 a1_1]) (t := 39) ?hr ?_; (case hd => rfl); (case hg => rfl); (case hr => first | (go_simp; done) | (go_simp; rfl)); intro gb476 hg w14 hbox hb; have n0_ := Aside0.mk (below_step (by repeat (first | (with_reducible first | exact HB.out | apply below_alloc | apply pw_below_drewN | apply below_drew1) | exact HB.out)) hb); have n1_ := Aside0.mk (hbox); have n2_ := Aside0.mk ((by rw [hg]; exact (below_size (by repeat (first | (with_reducible first | exact HB.out | apply below_alloc | apply pw_below_drewN | apply below_drew1) | exact HB.out))) : w.heap.size ≤ gb476)); have n3_ := Aside0.mk ((by rw [hg]; exact (below_size (by repeat (first | (with_reducible first | exact HB.out | apply below_alloc | apply pw_below_drewN | apply below_drew1) | exact HB.out))) : w.heap.size ≤ gb476)); clear HB; have HB := n0_; have BK476 := n1_; have GW476 := n2_; have GE476 := n3_; clear n0_ n1_ n2_ n3_; clear hb hbox hg; have hcz15_0 : w14.cell? ⟨gb476, 0, none⟩ = some (.int .i64 a1_0) := (blk_cell BK476.out 0).trans rfl; have hcz15_1 : w14.cell? ⟨gb476, 1, none⟩ = some (.int .i64 a1_1) := (blk_cell BK476.out 1).trans rfl; have hfz15_0 := blk_frozen BK476.out 0; have hfz15_1 := blk_frozen BK476.out 1) | ((with_reducible refine gate_dst (N := 11) rfl ?_); refine Kd.R_lit k39 _ 39 ?hg (N := 11) ?hd (xs := ([(⟨a1_0, a1_1⟩ : S39)] : List (S39))) (inner := [.int .i64 a1_0, .int .i64 a1_1]) (ok := fun _ => True) (okp := fun _ => True) ?hr ?hp (fun _ hk => hk) trivial (Below.refl _ _) (Nat.le_refl _) (by simp) ?_; (case hd => rfl); (case hg => rfl); (case hr => first | (go_simp; done) | (go_simp; rfl)); (case hp => exact (Reps.c2 (show Kd.M k39 _ _ _ (⟨a1_0, a1_1⟩ : S39) [.int .i64 a1_0, .int .i64 a1_1] from (k39_mkM _ _ _ (⟨a1_0, a1_1⟩ : S39) )) (Reps.none _ _))); intro v478 w16 ho17 hb hg_ hnew_; clear hg_ hnew_; (first | rw [← Ny477.out] at ho17 | (simp only [Int.reduceToNat] at ho17; rw [← Ny477.out] at ho17)); have n0_ := Aside0.mk (Kd.R_lower (Kd.R_newB ho17 (g := gb476) (o := .cells #[.int .i64 a1_0, .int .i64 a1_1] 39 (0, 0)) (by (with_reducible repeat (first | refine blk_drewN ?_ _ | refine blk_drew ?_ | refine blk_alloc ?_ _)); exact BK476.out)) (below_size (by repeat (first | (with_reducible first | exact HB.out | apply below_alloc | apply pw_below_drewN | apply below_drew1 | refine below_set ?_ GE476.out) | exact HB.out)))); have n1_ := Aside0.mk (blk_below (g := gb476) (o := .cells #[.int .i64 a1_0, .int .i64 a1_1] 39 (0, 0)) (by (with_reducible repeat (first | refine blk_drewN ?_ _ | refine blk_drew ?_ | refine blk_alloc ?_ _)); exact BK476.out) hb); have n2_ := Aside0.mk (below_step (by repeat (first | (with_reducible first | exact HB.out | apply below_alloc | apply pw_below_drewN | apply below_drew1 | refine below_set ?_ GE476.out) | exact HB.out)) hb); clear BK476; clear HB; have HO479 := n0_; have BK476 := n1_; have HB := n2_; clear n0_ n1_ n2_; clear hb ho17; obtain ⟨Ao18, co18, eo18⟩ := Kd.R_slice HO479.out; subst eo18) | ((with_reducible refine gate_callee (f := 48) rfl ?_); refine goesL_ (some 12) rfl rfl Try.func48 (by kernel_rfl) rfl #[.slice A0 l0.length c0, .slice Ao18 y477.length co18] rfl (by (try simp only [List.map_toArray, List.map_cons, List.map_nil]); first | done | rfl | (simp only [List.length_drop, List.length_take]; rfl)) ?_; (with_reducible refine (impl_arePacked.calls _ _ l0 _ _ y477 false _ ?side1 ?side2 ?side3 ?side4 A3.out).mono ?_); (case side1 => repeat (first | exact (Kd.C_below HR0.out HB.out) | (with_reducible refine Kd.C_alloc ?_ _) | (with_reducible refine Kd.C_drewN ?_ _) | (with_reducible refine Kd.C_drew ?_))); (case side2 => exact HC0.out); (case side3 => repeat (first | exact (Kd.R_reads' HO479.out).2.2 | (with_reducible refine Kd.C_alloc ?_ _) | (with_reducible refine Kd.C_drewN ?_ _) | (with_reducible refine Kd.C_drew ?_))); (case side4 => exact (Kd.R_reads' HO479.out).2.1); rintro e w19 ⟨rfl, hb⟩; refine ⟨_, rfl, ?_⟩; have n0_ := Aside0.mk (Kd.R_below (by (with_reducible repeat (first | apply Kd.R_alloc | apply Kd.R_drewN | apply Kd.R_drew)); exact HO479.out) hb); have n1_ := Aside0.mk (blk_below (g := gb476) (o := .cells #[.int .i64 a1_0, .int .i64 a1_1] 39 (0, 0)) (by (with_reducible repeat (first | refine blk_drewN ?_ _ | refine blk_drew ?_ | refine blk_alloc ?_ _)); exact BK476.out) hb); have n2_ := Aside0.mk (below_step (by repeat (first | (with_reducible first | exact HB.out | apply below_alloc | apply pw_below_drewN | apply below_drew1 | refine below_set ?_ GE476.out) | exact HB.out)) hb); clear HO479; clear BK476; clear HB; have HO479 := n0_; have BK476 := n1_; have HB := n2_; clear n0_ n1_ n2_; (try clear hb); (try clear hb2); (try clear hk); (try clear hi)))
    go_ret2
    exact ⟨by first | rfl | (simp [errW_none, errW_some] <;> rfl) | (simp [*, errW_none, errW_some] <;> rfl), by repeat (first | (with_reducible first | exact HB.out | apply below_alloc | apply pw_below_drewN | apply below_drew1 | refine below_set ?_ GE476.out) | exact HB.out)⟩

end Go.Proofs.Ytgghcngfleicnaa.Q

namespace Go.Proofs.Ytgghcngfleicnaa.Q
open Go.RowKit Go.Proofs.YtgghcngfleicnaaW.PrintWords Go.Proofs.YtgghcngfleicnaaW.PrintLast Go.Proofs.YtgghcngfleicnaaW.PrintMore
attribute [local go_sem] max2_int min2_int max_two min_two max_three min_three max_four min_four   -- for this text's walks alone
set_option linter.unusedVariables false
set_option linter.unusedSimpArgs false

/-! ### spec_CountChoices: function 27 -/
def spec_CountChoices.f (k : Nat) (l0 : List (S54)) (a1_0 : Int) (a1_1 : Int) : Option (Int × Bool) := (spec_suAsked.f k l0 a1_0 a1_1).bind fun t296 => (if t296 = true then ((spec_suAll.f l0 a1_0 a1_1).bind fun t297 => (some ((t297.length : Int), true))) else (some (0, false)))
theorem spec_CountChoices.mono : ∀ a0 a1 a2 k, LeO (spec_CountChoices.f k a0 a1 a2) (spec_CountChoices.f (k + 1) a0 a1 a2) := by
  intro a0 a1 a2 k
  unfold spec_CountChoices.f
  repeat' first
      | (with_reducible exact spec_suAsked.mono _ _ _ _)
      | (with_reducible exact LeO.refl _)
      | (with_reducible exact LeO.none _)
      | (with_reducible refine LeO.ite ?_ ?_)
      | (with_reducible refine LeO.bind ?_ (fun _ => ?_))
      | exact spec_suAsked.mono _ _ _ _
      | exact LeO.none _
      | refine LeO.ite ?_ ?_
      | refine LeO.bind ?_ (fun _ => ?_)
set_option maxHeartbeats 8000000 in
set_option maxRecDepth 100000 in
theorem spec_CountChoices.calls (k : Nat) (A0 : Option Addr) (c0 : Nat) (l0 : List (S54)) (a1_0 : Int) (a1_1 : Int) (r1 : Int) (r2 : Bool) (w : World) (hr0 : Kd.C k54 w A0 l0.length l0) (hc0 : l0.length ≤ c0) (h : spec_CountChoices.f k l0 a1_0 a1_1 = some (r1, r2)) :
    Calls Try.prog 27 #[.slice A0 l0.length c0, .agg #[.int .i64 a1_0, .int .i64 a1_1]] w fun e w' => e = .returned (.tuple #[.int .i64 r1, .bool r2]) ∧ Below w.heap.size w w' := by
  have hu39 := Try.underlying39
  have HR0 := Aside0.mk hr0
  have HC0 := Aside0.mk hc0
  clear hr0 hc0
  have HB := Aside0.mk (Below.refl w.heap.size w)
  have H : ((spec_suAsked.f k l0 a1_0 a1_1).bind fun t296 => (if t296 = true then ((spec_suAll.f l0 a1_0 a1_1).bind fun t297 => (some ((t297.length : Int), true))) else (some (0, false)))) = some (r1, r2) := h
  clear h
  replace H := Option.bind_eq_some_iff.mp H
  obtain ⟨t296, A30, H⟩ := H
  replace H : (if t296 = true then ((spec_suAll.f l0 a1_0 a1_1).bind fun t297 => (some ((t297.length : Int), true))) else (some (0, false))) = some (r1, r2) := H
  have A3 := Aside0.mk A30
  clear A30
  by_cases c4 : t296 = true
  · subst c4
    have H1 : ((spec_suAll.f l0 a1_0 a1_1).bind fun t297 => (some ((t297.length : Int), true))) = some (r1, r2) := by rw [if_pos rfl] at H; exact H
    clear H
    have H := H1
    clear H1
    replace H := Option.bind_eq_some_iff.mp H
    obtain ⟨t297, A50, H⟩ := H
    replace H : (some ((t297.length : Int), true)) = some (r1, r2) := H
    have A5 := Aside0.mk A50
    clear A50
    simp only [Option.some.injEq, Prod.mk.injEq] at H
    obtain ⟨rfl, rfl⟩ := H
    go_enter Try.func27, Try.ntmps27
    go_wp2_with (first | ((with_reducible refine gate_dst (N := 3) rfl ?_); refine box_event ?hg (N := 3) ?hd (cs := #[.int .i64 a1_0, .int .i64 a1_1]) (t := 39) ?hr ?_; (case hd => rfl); (case hg => rfl); (case hr => first | (go_simp; done) | (go_simp; rfl)); intro gb295 hg w6 hbox hb; have n0_ := Aside0.mk (below_step (by repeat (first | (with_reducible first | exact HB.out | apply below_alloc | apply pw_below_drewN | apply below_drew1) | exact HB.out)) hb); have n1_ := Aside0.mk (hbox); have n2_ := Aside0.mk ((by rw [hg]; exact (below_size (by repeat (first | (with_reducible first | exact HB.out | apply below_alloc | apply pw_below_drewN | apply below_drew1) | exact HB.out))) : w.heap.size ≤ gb295)); have n3_ := Aside0.mk ((by rw [hg]; exact (below_size (by repeat (first | (with_reducible first | exact HB.out | apply below_alloc | apply pw_below_drewN | apply below_drew1) | exact HB.out))) : w.heap.size ≤ gb295)); clear HB; have HB := n0_; have BK295 := n1_; have GW295 := n2_; have GE295 := n3_; clear n0_ n1_ n2_ n3_; clear hb hbox hg; have hcz7_0 : w6.cell? ⟨gb295, 0, none⟩ = some (.int .i64 a1_0) := (blk_cell BK295.out 0).trans rfl; have hcz7_1 : w6.cell? ⟨gb295, 1, none⟩ = some (.int .i64 a1_1) := (blk_cell BK295.out 1).trans rfl; have hfz7_0 := blk_frozen BK295.out 0; have hfz7_1 := blk_frozen BK295.out 1) | ((with_reducible refine gate_callee (f := 46) rfl ?_); refine goesL_ (some 8) rfl rfl Try.func46 (by kernel_rfl) rfl #[.slice A0 l0.length c0, .agg #[.int .i64 a1_0, .int .i64 a1_1]] rfl (by (try simp only [List.map_toArray, List.map_cons, List.map_nil]); first | done | rfl | (simp only [List.length_drop, List.length_take]; rfl)) ?_; (with_reducible refine (spec_suAsked.calls k _ _ l0 a1_0 a1_1 true _ ?side1 ?side2 A3.out).mono ?_); (case side1 => repeat (first | exact (Kd.C_below HR0.out HB.out) | (with_reducible refine Kd.C_alloc ?_ _) | (with_reducible refine Kd.C_drewN ?_ _) | (with_reducible refine Kd.C_drew ?_))); (case side2 => exact HC0.out); rintro e w8 ⟨rfl, hb⟩; refine ⟨_, rfl, ?_⟩; have n0_ := Aside0.mk (blk_below (g := gb295) (o := .cells #[.int .i64 a1_0, .int .i64 a1_1] 39 (0, 0)) (by (with_reducible repeat (first | refine blk_drewN ?_ _ | refine blk_drew ?_ | refine blk_alloc ?_ _)); exact BK295.out) hb); have n1_ := Aside0.mk (below_step (by repeat (first | (with_reducible first | exact HB.out | apply below_alloc | apply pw_below_drewN | apply below_drew1 | refine below_set ?_ GE295.out) | exact HB.out)) hb); clear BK295; clear HB; have BK295 := n0_; have HB := n1_; clear n0_ n1_; (try clear hb); (try clear hb2); (try clear hk); (try clear hi); have hcz9_0 : w8.cell? ⟨gb295, 0, none⟩ = some (.int .i64 a1_0) := (blk_cell BK295.out 0).trans rfl; have hcz9_1 : w8.cell? ⟨gb295, 1, none⟩ = some (.int .i64 a1_1) := (blk_cell BK295.out 1).trans rfl; have hfz9_0 := blk_frozen BK295.out 0; have hfz9_1 := blk_frozen BK295.out 1) | ((with_reducible refine gate_callee (f := 50) rfl ?_); refine goesL_ (some 12) rfl rfl Try.func50 (by kernel_rfl) rfl #[.slice A0 l0.length c0, .agg #[.int .i64 a1_0, .int .i64 a1_1]] rfl (by (try simp only [List.map_toArray, List.map_cons, List.map_nil]); first | done | rfl | (simp only [List.length_drop, List.length_take]; rfl)) ?_; (with_reducible refine (spec_suAll.calls _ _ l0 a1_0 a1_1 t297 _ ?side1 ?side2 A5.out).mono ?_); (case side1 => repeat (first | exact (Kd.C_below HR0.out HB.out) | (with_reducible refine Kd.C_alloc ?_ _) | (with_reducible refine Kd.C_drewN ?_ _) | (with_reducible refine Kd.C_drew ?_))); (case side2 => exact HC0.out); rintro e w10 ⟨v298, rfl, ho0, hb⟩; refine ⟨_, rfl, ?_⟩; have n0_ := Aside0.mk (Kd.N_lower (Kd.N_mono (ok' := fun k_ => k_ ≠ gb295) ho0 (fun k_ hk_ => (Kd.freshB (g := gb295) (o := .cells #[.int .i64 a1_0, .int .i64 a1_1] 39 (0, 0)) (by (with_reducible repeat (first | refine blk_drewN ?_ _ | refine blk_drew ?_ | refine blk_alloc ?_ _)); exact BK295.out) k_ hk_))) (below_size (by repeat (first | (with_reducible first | exact HB.out | apply below_alloc | apply pw_below_drewN | apply below_drew1 | refine below_set ?_ GE295.out) | exact HB.out)))); have n1_ := Aside0.mk (blk_below (g := gb295) (o := .cells #[.int .i64 a1_0, .int .i64 a1_1] 39 (0, 0)) (by (with_reducible repeat (first | refine blk_drewN ?_ _ | refine blk_drew ?_ | refine blk_alloc ?_ _)); exact BK295.out) hb); have n2_ := Aside0.mk (below_step (by repeat (first | (with_reducible first | exact HB.out | apply below_alloc | apply pw_below_drewN | apply below_drew1 | refine below_set ?_ GE295.out) | exact HB.out)) hb); clear BK295; clear HB; have HO299 := n0_; have BK295 := n1_; have HB := n2_; clear n0_ n1_ n2_; (try clear hb); (try clear hb2); (try clear hk); (try clear hi); (try clear ho0); obtain ⟨Ao11, co11, eo11⟩ := Kd.N_slice HO299.out; subst eo11))
    go_ret2
    exact ⟨by first | rfl | (simp [errW_none, errW_some] <;> rfl) | (simp [*, errW_none, errW_some] <;> rfl), by repeat (first | (with_reducible first | exact HB.out | apply below_alloc | apply pw_below_drewN | apply below_drew1 | refine below_set ?_ GE295.out) | exact HB.out)⟩
  · replace c4 := Bool.eq_false_iff.mpr c4
    subst c4
    have H1 : (some (0, false)) = some (r1, r2) := by rw [if_neg (show ¬ (false = true) by decide)] at H; exact H
    clear H
    have H := H1
    clear H1
    simp only [Option.some.injEq, Prod.mk.injEq] at H
    obtain ⟨rfl, rfl⟩ := H
    go_enter Try.func27, Try.ntmps27
    go_wp2_with (first | ((with_reducible refine gate_dst (N := 3) rfl ?_); refine box_event ?hg (N := 3) ?hd (cs := #[.int .i64 a1_0, .int .i64 a1_1]) (t := 39) ?hr ?_; (case hd => rfl); (case hg => rfl); (case hr => first | (go_simp; done) | (go_simp; rfl)); intro gb295 hg w12 hbox hb; have n0_ := Aside0.mk (below_step (by repeat (first | (with_reducible first | exact HB.out | apply below_alloc | apply pw_below_drewN | apply below_drew1) | exact HB.out)) hb); have n1_ := Aside0.mk (hbox); have n2_ := Aside0.mk ((by rw [hg]; exact (below_size (by repeat (first | (with_reducible first | exact HB.out | apply below_alloc | apply pw_below_drewN | apply below_drew1) | exact HB.out))) : w.heap.size ≤ gb295)); have n3_ := Aside0.mk ((by rw [hg]; exact (below_size (by repeat (first | (with_reducible first | exact HB.out | apply below_alloc | apply pw_below_drewN | apply below_drew1) | exact HB.out))) : w.heap.size ≤ gb295)); clear HB; have HB := n0_; have BK295 := n1_; have GW295 := n2_; have GE295 := n3_; clear n0_ n1_ n2_ n3_; clear hb hbox hg; have hcz13_0 : w12.cell? ⟨gb295, 0, none⟩ = some (.int .i64 a1_0) := (blk_cell BK295.out 0).trans rfl; have hcz13_1 : w12.cell? ⟨gb295, 1, none⟩ = some (.int .i64 a1_1) := (blk_cell BK295.out 1).trans rfl; have hfz13_0 := blk_frozen BK295.out 0; have hfz13_1 := blk_frozen BK295.out 1) | ((with_reducible refine gate_callee (f := 46) rfl ?_); refine goesL_ (some 8) rfl rfl Try.func46 (by kernel_rfl) rfl #[.slice A0 l0.length c0, .agg #[.int .i64 a1_0, .int .i64 a1_1]] rfl (by (try simp only [List.map_toArray, List.map_cons, List.map_nil]); first | done | rfl | (simp only [List.length_drop, List.length_take]; rfl)) ?_; (with_reducible refine (spec_suAsked.calls k _ _ l0 a1_0 a1_1 false _ ?side1 ?side2 A3.out).mono ?_); (case side1 => repeat (first | exact (Kd.C_below HR0.out HB.out) | (with_reducible refine Kd.C_alloc ?_ _) | (with_reducible refine Kd.C_drewN ?_ _) | (with_reducible refine Kd.C_drew ?_))); (case side2 => exact HC0.out); rintro e w14 ⟨rfl, hb⟩; refine ⟨_, rfl, ?_⟩; have n0_ := Aside0.mk (blk_below (g := gb295) (o := .cells #[.int .i64 a1_0, .int .i64 a1_1] 39 (0, 0)) (by (with_reducible repeat (first | refine blk_drewN ?_ _ | refine blk_drew ?_ | refine blk_alloc ?_ _)); exact BK295.out) hb); have n1_ := Aside0.mk (below_step (by repeat (first | (with_reducible first | exact HB.out | apply below_alloc | apply pw_below_drewN | apply below_drew1 | refine below_set ?_ GE295.out) | exact HB.out)) hb); clear BK295; clear HB; have BK295 := n0_; have HB := n1_; clear n0_ n1_; (try clear hb); (try clear hb2); (try clear hk); (try clear hi)))
    go_ret2
    exact ⟨by first | rfl | (simp [errW_none, errW_some] <;> rfl) | (simp [*, errW_none, errW_some] <;> rfl), by repeat (first | (with_reducible first | exact HB.out | apply below_alloc | apply pw_below_drewN | apply below_drew1 | refine below_set ?_ GE295.out) | exact HB.out)⟩

end Go.Proofs.Ytgghcngfleicnaa.Q

namespace Go.Proofs.Ytgghcngfleicnaa.Q
open Go.RowKit Go.Proofs.YtgghcngfleicnaaW.PrintWords Go.Proofs.YtgghcngfleicnaaW.PrintLast Go.Proofs.YtgghcngfleicnaaW.PrintMore
set_option linter.unusedVariables false
set_option linter.unusedSimpArgs false

theorem asked_cases (items : List Item) (a b : Int) (hm : items.length ≤ 10000000) : ∃ t : Bool, impl_arePacked.f items [⟨a, b⟩] = some t ∧ (∀ k, items.length < k → spec_suAsked.f k items a b = some t) ∧ (t = true → Light items ∧ 0 ≤ a ∧ 0 ≤ b ∧ items.length ≤ 10) := by
  obtain ⟨t, ht⟩ : ∃ t, impl_arePacked.f items [⟨a, b⟩] = some t := ⟨_, rfl⟩
  refine ⟨t, ht, fun k hk => (suAsked_eq items a b hm k hk).trans ht, fun h => ?_⟩
  subst h
  obtain ⟨h1, _, h2, h3, h4⟩ := packed_good ht
  exact ⟨light_of h1 h2, h3.1, h4.1, h1⟩

theorem bestPacked_both (items : List Item) (a b : Int) (hm : items.length ≤ 10000000) : ∃ r : Int × Bool, Ev (fun k => spec_BestPacked.f k items a b) r ∧ Ev (fun _ => impl_BestPacked.f items a b) r := by
  obtain ⟨t, h1, h2, h3⟩ := asked_cases items a b hm
  unfold spec_BestPacked.f impl_BestPacked.f
  cases t with
  | false => exact ⟨(0, false), Ev_from items.length fun k hk => by rw [h2 k hk]; rfl, Ev_from 0 fun k _ => by rw [h1]; rfl⟩
  | true =>
    obtain ⟨hL, ha, hb, hn⟩ := h3 rfl
    obtain ⟨x, xs, _, hbest⟩ := best_same hL a b ha hb
    refine ⟨((bestL items a b).2, true), Ev_from 100000000 fun k hk => ?_, Ev_from 0 fun k _ => ?_⟩
    · rw [h2 k (by omega)]; simp only [Option.bind_some, if_true]; rw [suBest_eq items a b hn k (by omega)]; rfl
    · rw [h1]; simp only [Option.bind_some, if_true]; unfold impl_byValue.f; rw [if_pos (by omega), hbest]; rfl
theorem countPacked_both (items : List Item) (a b : Int) (hm : items.length ≤ 10000000) : ∃ r : Int × Bool, Ev (fun k => spec_CountPacked.f k items a b) r ∧ Ev (fun _ => impl_CountPacked.f items a b) r := by
  obtain ⟨t, h1, h2, h3⟩ := asked_cases items a b hm
  unfold spec_CountPacked.f impl_CountPacked.f
  cases t with
  | false => exact ⟨(0, false), Ev_from items.length fun k hk => by rw [h2 k hk]; rfl, Ev_from 0 fun k _ => by rw [h1]; rfl⟩
  | true =>
    obtain ⟨hL, ha, hb, hn⟩ := h3 rfl
    obtain ⟨x, xs, _, hbest⟩ := best_same hL a b ha hb
    refine ⟨(((bestL items a b).1.length : Int), true), Ev_from 100000000 fun k hk => ?_, Ev_from 0 fun k _ => ?_⟩
    · rw [h2 k (by omega)]; simp only [Option.bind_some, if_true]; rw [suBest_eq items a b hn k (by omega)]; rfl
    · rw [h1]; simp only [Option.bind_some, if_true]; unfold impl_byValue.f; rw [if_pos (by omega), hbest]; rfl
theorem count_rel (items : List Item) : ∀ (L : List (List Int)) (t : Best), t.2.1 = 0 → 0 ≤ t.2.2 → t.2.2 + (L.length : Int) ≤ 1000000 → (L.foldl (bestStep items (fun _ _ => 0)) t) = (t.1, 0, t.2.2 + (L.length : Int)) := by
  intro L
  induction L with
  | nil => rintro ⟨t1, t2, t3⟩ h _ _; simp only at h; simp [h]
  | cons ch L ih =>
    rintro ⟨t1, t2, t3⟩ h h0 hl
    simp only [List.length_cons] at h h0 hl ⊢
    subst h
    rw [List.foldl_cons, show bestStep items (fun _ _ => 0) (t1, 0, t3) ch = (t1, 0, t3 + 1) by unfold bestStep; simp only; rw [if_neg (by omega), if_pos trivial, w64 (by omega) (by omega)]]
    rw [ih _ rfl (by simp only; omega) (by simp only; omega)]
    simp only [Prod.mk.injEq, true_and]
    omega
theorem countChoices_both (items : List Item) (a b : Int) (hm : items.length ≤ 10000000) : ∃ r : Int × Bool, Ev (fun k => spec_CountChoices.f k items a b) r ∧ Ev (fun _ => impl_CountChoices.f items a b) r := by
  obtain ⟨t, h1, h2, h3⟩ := asked_cases items a b hm
  unfold spec_CountChoices.f impl_CountChoices.f
  cases t with
  | false => exact ⟨(0, false), Ev_from items.length fun k hk => by rw [h2 k hk]; rfl, Ev_from 0 fun k _ => by rw [h1]; rfl⟩
  | true =>
    obtain ⟨hL, ha, hb, hn⟩ := h3 rfl
    have hl := choicesL_length hn a b
    refine ⟨(((choicesL items a b).length : Int), true), Ev_from 100000000 fun k hk => ?_, Ev_from 0 fun k _ => ?_⟩
    · rw [h2 k (by omega)]; simp only [Option.bind_some, if_true]; unfold spec_suAll.f; rw [if_pos (by omega)]; rfl
    · rw [h1]; simp only [Option.bind_some, if_true]; rw [if_pos (by omega)]
      unfold bestAll
      rw [visit_choices hL a b ha hb]
      unfold choicesL at hl ⊢
      simp only [List.length_cons] at hl ⊢
      rw [List.foldl_cons, show bestStep items (fun _ _ => 0) ([], -1, 0) [] = ([], 0, 1) by simp [bestStep], count_rel items _ _ rfl (by simp only; omega) (by simp only; omega)]
      simp only [Option.some.injEq, Prod.mk.injEq, and_true]
      omega
end Go.Proofs.Ytgghcngfleicnaa.Q

namespace Go.Proofs.Ytgghcngfleicnaa.Q
open Go.RowKit Go.Proofs.YtgghcngfleicnaaW.PrintWords Go.Proofs.YtgghcngfleicnaaW.PrintLast Go.Proofs.YtgghcngfleicnaaW.PrintMore
set_option linter.unusedVariables false
set_option linter.unusedSimpArgs false

theorem loopV_inside (items : List Item) : ∀ d ch i, i + d = items.length → (∀ x ∈ ch, 0 ≤ x ∧ x < (i : Int)) → ch.length ≤ i → ∀ c ∈ loopV d ch i, Inside items c ∧ c.length ≤ items.length := by
  intro d
  induction d with
  | zero => intro ch i _ _ _ c hc; cases hc
  | succ d ih =>
    intro ch i hd hin hl c hc
    unfold loopV at hc
    rcases List.mem_append.1 hc with hc | hc
    · rcases List.mem_cons.1 hc with rfl | hc
      · exact ⟨inside_of (inside_snoc (items := items) hin) (by omega), by simp; omega⟩
      · exact ih _ (i + 1) (by omega) (inside_snoc (items := items) hin) (by simp; omega) c hc
    · exact ih ch (i + 1) (by omega) (fun x hx => by have := hin x hx; omega) (by omega) c hc
theorem allV_inside (items : List Item) : ∀ c ∈ allV items.length, Inside items c ∧ c.length ≤ items.length := by
  intro c hc
  rcases List.mem_cons.1 hc with rfl | hc
  · exact ⟨fun x hx => (by cases hx), by simp⟩
  · exact loopV_inside items items.length [] 0 (by omega) (fun x hx => by cases hx) (by simp) c hc
def lightS (items : List Item) (value : Int) (s : Light2) (ch : List Int) : Light2 := if value ≤ (tot items ch).2.2 then lightStep items s ch else s
theorem foldl_lightS (items : List Item) (value : Int) : ∀ (L : List (List Int)) (s : Light2), L.foldl (lightS items value) s = (L.filter (fun ch => decide (value ≤ (tot items ch).2.2))).foldl (lightStep items) s := by
  intro L
  induction L with
  | nil => intro s; rfl
  | cons ch L ih =>
    intro s
    rw [List.foldl_cons, List.filter_cons, ih]
    unfold lightS
    by_cases h : value ≤ (tot items ch).2.2
    · rw [if_pos h, if_pos (by simpa using h)]; rfl
    · rw [if_neg h, if_neg (by simpa using h)]
theorem light_same {items : List Item} (hL : Light items) (bulk value : Int) (hb : 0 ≤ bulk) : lightAll items bulk value = (choicesL items 2000 bulk).foldl (lightS items value) ([], -1) := by
  unfold lightAll
  rw [foldl_visit, foldl_lightS, ← allV_choices hL 2000 bulk (by omega) hb, List.filter_filter]
  congr 1
  refine List.filter_congr fun ch hch => ?_
  obtain ⟨hin, hl⟩ := allV_inside items ch hch
  have h10 := hL.1
  have hw := (tot_bound hL _ ch rfl hin (by omega)).1
  unfold askedL fitsC
  rw [decide_eq_true (show (tot items ch).1 ≤ 2000 by omega), Bool.true_and, Bool.and_comm]
theorem lightestFor_l0 (items : List Item) (value : Int) (L : List (List Int)) (hw : ∀ c ∈ L, Inside items c ∧ c.length ≤ 1000) (hn : L.length ≤ 1000000) : ∀ d k i (s : Light2), i + d = L.length → d + 1000 < k →
    spec_LightestFor.l0 k items value s.1 s.2 L (L.length : Int) (i : Int) = (if ((L.drop i).foldl (lightS items value) s).2 < 0 then some ([], 0, false) else some (((L.drop i).foldl (lightS items value) s).1, ((L.drop i).foldl (lightS items value) s).2, true)) := by
  intro d
  induction d with
  | zero =>
    intro k i s hi hk
    obtain ⟨k, rfl⟩ : ∃ m, k = m + 1 := ⟨k - 1, by omega⟩
    simp only [spec_LightestFor.l0]; rw [if_neg (by omega), List.drop_of_length_le (by omega)]; rfl
  | succ d ih =>
    intro k i s hi hk
    obtain ⟨k, rfl⟩ : ∃ m, k = m + 1 := ⟨k - 1, by omega⟩
    have hlt : i < L.length := by omega
    have hin := hw L[i] (List.getElem_mem hlt)
    have hrd : rd_L7 L (i : Int) = L[i] := by simp [rd_L7, List.getD_eq_getElem?_getD, hlt]
    simp only [spec_LightestFor.l0]
    rw [if_pos (by omega), if_pos (by omega), if_pos (by omega), hrd, suTotals_eq items L[i] hin.1 (by omega) k (by omega), w64 (i := (i : Int) + 1) (by omega) (by omega), List.drop_eq_getElem_cons hlt, List.foldl_cons]
    simp only [Option.bind_some, ge_iff_le]
    have hnext := fun s => ih k (i + 1) s (by omega) (by omega)
    rw [show ((i + 1 : Nat) : Int) = (i : Int) + 1 by omega] at hnext
    by_cases h1 : value ≤ (tot items L[i]).2.2
    · rw [if_pos h1]
      by_cases h2 : s.2 < 0
      · rw [if_pos h2, show lightS items value s L[i] = (L[i], (tot items L[i]).1) by unfold lightS lightStep; rw [if_pos h1, if_pos (.inl h2)]]
        exact hnext (L[i], (tot items L[i]).1)
      · rw [if_neg h2]
        by_cases h3 : (tot items L[i]).1 < s.2
        · rw [if_pos h3, show lightS items value s L[i] = (L[i], (tot items L[i]).1) by unfold lightS lightStep; rw [if_pos h1, if_pos (.inr h3)]]
          exact hnext (L[i], (tot items L[i]).1)
        · rw [if_neg h3, show lightS items value s L[i] = s by unfold lightS lightStep; rw [if_pos h1, if_neg (by omega)]]
          exact hnext s
    · rw [if_neg h1, show lightS items value s L[i] = s by unfold lightS; rw [if_neg h1]]
      exact hnext s
theorem light_len (items : List Item) (value : Int) : ∀ (L : List (List Int)) (s : Light2) (n : Nat), s.1.length ≤ n → (∀ x ∈ L, x.length ≤ n) → (L.foldl (lightS items value) s).1.length ≤ n := by
  intro L
  induction L with
  | nil => intro s n h _; exact h
  | cons st L ih =>
    intro s n h hL
    rw [List.foldl_cons]
    refine ih _ n ?_ (fun x hx => hL x (List.mem_cons_of_mem _ hx))
    unfold lightS lightStep
    split
    · split
      · exact hL st List.mem_cons_self
      · exact h
    · exact h
theorem lightestFor_both (items : List Item) (bulk value : Int) (hm : items.length ≤ 10000000) : ∃ r : List Int × Int × Bool, Ev (fun k => spec_LightestFor.f k items bulk value) r ∧ Ev (fun _ => impl_LightestFor.f items bulk value) r ∧ r.1.length ≤ 10000000 := by
  obtain ⟨t, ht⟩ : ∃ t, impl_AreItems.f items = some t := ⟨_, rfl⟩
  have hg := fun k hk => (suGood_eq items (by omega) k hk).trans ht
  unfold spec_LightestFor.f impl_LightestFor.f
  cases hc : (t && inside bulk 0 200 && inside value 0 10000) with
  | false =>
    refine ⟨([], 0, false), Ev_from (items.length + 1) fun k hk => ?_, Ev_from 0 fun k _ => by rw [ht]; simp only [Option.bind_some, hc]; rfl, by simp⟩
    obtain ⟨k, rfl⟩ : ∃ m, k = m + 1 := ⟨k - 1, by omega⟩
    rw [hg _ (by omega)]
    simp only [Option.bind_some, inItem]
    unfold inside at hc
    cases t with
    | false => simp [spec_LightestFor.j0]
    | true =>
      cases h1 : (decide (0 ≤ bulk) && decide (bulk ≤ 200)) with
      | false => simp [spec_LightestFor.j0]
      | true =>
        rw [h1] at hc
        simp only [Bool.true_and] at hc
        rw [hc]
        simp [spec_LightestFor.j0]
  | true =>
    have hc0 := hc
    unfold inside at hc
    simp only [Bool.and_eq_true, decide_eq_true_eq] at hc
    obtain ⟨⟨rfl, hb1, hb2⟩, hv1, hv2⟩ := hc
    have hgood : items.length ≤ 10 ∧ ∀ x ∈ items, okItem x = true := by
      unfold impl_AreItems.f at ht
      injection ht with ht
      simp only [Bool.and_eq_true, decide_eq_true_eq, List.all_eq_true] at ht
      exact ⟨ht.1.2, ht.2⟩
    have hL := light_of hgood.1 hgood.2
    have hlen := choicesL_length hgood.1 2000 bulk
    have hin := choicesL_inside items 2000 bulk
    have hres := lightestFor_l0 items value (choicesL items 2000 bulk) (fun c hc => by have := hin c hc; have := hgood.1; exact ⟨(hin c hc).1, by omega⟩) (by omega) (choicesL items 2000 bulk).length
    have hll := light_len items value (choicesL items 2000 bulk) ([], -1) 10 (by simp) (fun x hx => by have := (hin x hx).2; have := hgood.1; omega)
    generalize hF : (choicesL items 2000 bulk).foldl (lightS items value) ([], -1) = F at hll
    refine ⟨if F.2 < 0 then ([], 0, false) else (F.1, F.2, true), Ev_from 100000000 fun k hk => ?_, Ev_from 0 fun k _ => ?_, ?_⟩
    · obtain ⟨k, rfl⟩ : ∃ m, k = m + 1 := ⟨k - 1, by omega⟩
      rw [hg _ (by omega)]
      simp only [Option.bind_some, inItem, if_true]
      rw [decide_eq_true hb1, decide_eq_true hb2, decide_eq_true hv1, decide_eq_true hv2]
      simp only [Bool.and_true, Bool.not_true, if_true, spec_LightestFor.j0]
      rw [if_neg (by decide)]
      unfold spec_suAll.f
      rw [if_pos (by omega)]
      simp only [Option.bind_some]
      have := hres k 0 ([], -1) (by omega) (by omega)
      simp only [List.drop_zero, hF, Int.natCast_zero] at this
      unfold choicesL at this
      rw [this]
      split <;> rfl
    · rw [ht]
      simp only [Option.bind_some, hc0, if_true]
      rw [if_pos (by have := hgood.1; omega), light_same hL bulk value hb1, hF]
      split <;> rfl
    · split
      · simp
      · simp only; omega
end Go.Proofs.Ytgghcngfleicnaa.Q

namespace Go.Proofs.Ytgghcngfleicnaa.Q
open Go.RowKit Go.Proofs.YtgghcngfleicnaaW.PrintWords Go.Proofs.YtgghcngfleicnaaW.PrintLast Go.Proofs.YtgghcngfleicnaaW.PrintMore
set_option linter.unusedVariables false
set_option linter.unusedSimpArgs false

def marksItem (a : Int) (n : Nat) : List S54 := (List.range n).map fun (j : Nat) => ⟨a + 3 * (j : Int), a + 3 * (j : Int) + 1, a + 3 * (j : Int) + 2⟩
theorem marksItem_length (a : Int) (n : Nat) : (marksItem a n).length = n := by simp [marksItem]

theorem markItemS_l0 (a : Int) (n : Nat) (h0 : 0 ≤ a) (hn : a + 3 * n ≤ 100000000000000) : ∀ d k i (x : List S54), i + d = n → d < k → x.length = n →
    ∃ y, laws_markItemS.l0 k x (a + 3 * (i : Int)) (i : Int) = some (a + 3 * (n : Int), y) ∧ y.length = n := by
  intro d
  induction d with
  | zero =>
    intro k i x hi hk hx
    obtain ⟨k, rfl⟩ : ∃ m, k = m + 1 := ⟨k - 1, by omega⟩
    simp only [laws_markItemS.l0]; rw [if_neg (by omega)]
    have : i = n := by omega
    subst this
    exact ⟨x, rfl, hx⟩
  | succ d ih =>
    intro k i x hi hk hx
    obtain ⟨k, rfl⟩ : ∃ m, k = m + 1 := ⟨k - 1, by omega⟩
    simp only [laws_markItemS.l0]
    rw [if_pos (by omega), if_pos (by omega)]
    simp only [Option.bind_some]
    rw [w64Item (i := a + 3 * (i : Int) + 1) (by omega) (by omega), w64Item (i := a + 3 * (i : Int) + 1 + 1) (by omega) (by omega), w64Item (i := a + 3 * (i : Int) + 1 + 1 + 1) (by omega) (by omega), w64Item (i := (i : Int) + 1) (by omega) (by omega)]
    rw [show a + 3 * (i : Int) + 1 + 1 + 1 = a + 3 * ((i + 1 : Nat) : Int) by omega, show (i : Int) + 1 = ((i + 1 : Nat) : Int) by omega]
    exact ih k (i + 1) _ (by omega) (by omega) (by simp [hx])
/-- Marking counts on, whatever it writes. -/
theorem markItemS_eq (x : List S54) (a : Int) (h0 : 0 ≤ a) (hn : a + 3 * x.length ≤ 100000000000000) (k : Nat) (hk : x.length < k) : ∃ y, laws_markItemS.f k x a = some (a + 3 * (x.length : Int), y) := by
  unfold laws_markItemS.f
  obtain ⟨y, h, _⟩ := markItemS_l0 a x.length h0 hn x.length k 0 x (by omega) hk rfl
  exact ⟨y, by simpa using h⟩
theorem markItemS_ev (x : List S54) (h : x.length ≤ 10000000) (a : Int) (h0 : 0 ≤ a) (hn : a ≤ 10000000000) : ∃ y, Ev (fun k => laws_markItemS.f k x a) (a + 3 * (x.length : Int), y) := by
  obtain ⟨y, hy⟩ := markItemS_eq x a h0 (by omega) (x.length + 1) (by omega)
  exact ⟨y, Ev.of (fun k => laws_markItemS.mono x a k) hy⟩
end Go.Proofs.Ytgghcngfleicnaa.Q

namespace Go.Proofs.Ytgghcngfleicnaa.Pure
open Go.RowKit Go.Proofs.Ytgghcngfleicnaa.Q Go.Proofs.YtgghcngfleicnaaW.PrintWords Go.Proofs.YtgghcngfleicnaaW.PrintLast
set_option linter.unusedVariables false
set_option linter.unusedSimpArgs false

set_option maxHeartbeats 2000000 in
set_option maxRecDepth 10000 in
theorem FnExactLightestFor : ∀ (l0 : List S56) (a1 : Int) (a2 : Int), l0.length ≤ maxLen → l0.length * 24 ≤ 140737488351232 → (∀ x ∈ l0, (Lit.int .i64 x.f0).wf = true ∧ (Lit.int .i64 x.f1).wf = true ∧ (Lit.int .i64 x.f2).wf = true) → (Lit.int .i64 a1).wf = true → (Lit.int .i64 a2).wf = true → ∃ k, laws_FnExactLightestFor.f k l0 a1 a2 = some true := by
  intro l0 a1 a2 _ h0 g0 w1 w2
  refine Ev.rounds (g := fun k => laws_FnExactLightestFor.f k l0 a1 a2) ?_
  by_cases hl0 : l0.length ≤ 1048576
  · skip
    have hm0 : (l0.map cvItem).length ≤ 1048576 := by simpa using hl0
    obtain ⟨r, hs, hi, hb0⟩ := lightestFor_both (l0.map cvItem) a1 a2 (by omega)
    obtain ⟨y0, hy0⟩ := markItemS_ev (l0.map cvItem) (by omega) 1 (by omega) (by omega)
    simp only [laws_FnExactLightestFor.f, szItemS_small l0 hl0, Option.bind_some]
    repeat' (first
      | exact Ev_some _
      | (simp (disch := omega) only [Option.bind_some, if_neg, if_pos, bne_self_eq_false, Bool.false_eq_true, if_false, if_true, eq_self])
      | refine Ev.bind (toItemS_ev l0 (by omega)) ?_
      | refine Ev.bind (eqItemS_ev (l0.map cvItem) (by omega)) ?_
      | refine Ev.bind hy0 ?_
      | refine Ev.bind hs ?_
      | refine Ev.bind hi ?_
      | refine Ev.bind (eqIntS_ev r.1 hb0) ?_
      | refine Ev.bind (markIntS_ev r.1 hb0 1 (by omega) (by omega)) ?_
      | refine Ev.bind (heldIntS_ev r.1.length hb0 1 (by omega) (by omega)) ?_
      | refine Ev.step (fun k => by rw [laws_FnExactLightestFor.j0]) ?_
      | refine Ev.step (fun k => by rw [laws_FnExactLightestFor.j1]) ?_
      | refine Ev.step (fun k => by rw [laws_FnExactLightestFor.j2]) ?_)
  · simp only [laws_FnExactLightestFor.f, szItemS_great l0 (by omega) (by omega)]
    simp (disch := omega) only [Option.bind_some, if_neg, if_pos]
    exact Ev_some _
end Go.Proofs.Ytgghcngfleicnaa.Pure

namespace Go.Proofs.Ytgghcngfleicnaa.HO
open Go.ChangeShapes Go.WideShapes Go.Deep Go.RowKit Go.Proofs.YtgghcngfleicnaaW.PrintWords
set_option linter.unusedVariables false
section
variable {H : Type} {enc : TypeId × Value → H} {P : Program} {w : World} {base : Nat} {spare : Nat → Bool} {held : Bool}

/-- A slice of structs of n whole numbers each, opened: F i j is field j of element i. -/
theorem open_ints_struct {t e : TypeId} {fs : Array Field} {fuel : Nat} {cs : List Value} {x : DataW H × List MemPlace} (ht : P.underlying t = some (.slice e)) (he : P.underlying e = some (.struct fs))
    (hone : oneCellFields P fs = true) (hC : P.cellsOf e = fs.size) (hk : ∀ (j : Nat) (f : Field), fs[j]? = some f → P.underlying f.type = some (.int .i64)) (h : DataW.trod enc P w base spare held fuel t cs = some x) :
    (cs = [.slice none 0 0] ∧ x = (.nil, [])) ∨
    ∃ (a : Addr) (len cap : Nat) (F : Nat → Nat → Int) (el sp : List (DataW H)) (ps : List MemPlace), cs = [.slice (some a) len cap] ∧ len ≤ cap ∧ cap ≤ maxLen ∧ x = (.slice el sp, ps) ∧ el.length = len ∧
      ∀ i, i < len → ∀ j, j < fs.size → w.cell? (a.add (i * fs.size + j)) = some (.int .i64 (F i j)) ∧ (Lit.int .i64 (F i j)).wf = true := by
  rcases open_slice ht h with h0 | ⟨a, len, cap, m, n, D, Pl, hcs, hb, hl, hm, hmm, hx, hi⟩
  · exact .inl h0
  · have hlm : len ≤ m := by rw [hmm]; split <;> omega
    have key : ∀ i, i < len → ∃ G : Nat → Int, ∀ j, j < fs.size → w.cell? (a.add (i * fs.size + j)) = some (.int .i64 (G j)) ∧ (Lit.int .i64 (G j)).wf = true := fun i hil => by
      obtain ⟨cs', hc, ht'⟩ := hi i (by omega)
      rw [hC] at hc
      obtain ⟨ys, n', hn', hy, hlen, hyl, hf⟩ := DataW.trod_struct he ht'
      obtain ⟨_, hcl, hat⟩ := World.cells?_some hc
      refine choose_lt (α := Int) (p := fun j v => w.cell? (a.add (i * fs.size + j)) = some (.int .i64 v) ∧ (Lit.int .i64 v).wf = true) (fun j hj => ?_)
      have hfj : fs[j]? = some fs[j] := Array.getElem?_eq_getElem hj
      obtain ⟨ho, hk1⟩ := hone_of hone j _ hfj
      have hcell := hat j hj
      have hv : cs'[j]? = some (cs'[j]'(by omega)) := List.getElem?_eq_getElem (by omega)
      have h1 := hf j _ hfj
      rw [ho, hk1] at h1
      have hone' : (cs'.drop j).take 1 = [cs'[j]'(by omega)] := by
        rw [List.drop_eq_getElem_cons (by omega)]
        rfl
      rw [hone'] at h1
      have hys : ys[j]? = some (ys[j]'(by omega)) := List.getElem?_eq_getElem (by omega)
      obtain ⟨v, e0, _, wv⟩ := DataW.trod_int (hk j _ hfj) (h1.trans hys)
      refine ⟨v, ?_, wv⟩
      rw [← Go.Deep.add_add, hcell, hv]
      simp only [List.cons.injEq, and_true] at e0
      rw [e0]
    obtain ⟨F, hF⟩ := choose_lt (α := Nat → Int) (p := fun i G => ∀ j, j < fs.size → w.cell? (a.add (i * fs.size + j)) = some (.int .i64 (G j)) ∧ (Lit.int .i64 (G j)).wf = true) key
    exact .inr ⟨a, len, cap, F, _, _, _, hcs, hl, hm, hx, by simp, hF⟩

/-- The same of an argument: the numbers, and how many at most. -/
theorem open_structs {t e : TypeId} {fs : Array Field} {a : Option Addr} {len cap : Nat} {d : DataW H} {ps : List MemPlace} {ts : List TypeId} {ds : List (DataW H)} {j : Nat}
    (hsz : (DataW.weightsEach P ts ds).all (· ≤ reachBytes) = true) (htj : ts[j]? = some t) (hdj : ds[j]? = some d) (ht : P.underlying t = some (.slice e)) (he : P.underlying e = some (.struct fs))
    (hone : oneCellFields P fs = true) (hC : P.cellsOf e = fs.size) (hk : ∀ (j : Nat) (f : Field), fs[j]? = some f → P.underlying f.type = some (.int .i64)) {B : Nat} (hB : P.bytesOf e = B)
    (h : DataW.Trod enc P w base spare held t (.slice a len cap) d ps) :
    ∃ F : Nat → Nat → Int, len ≤ cap ∧ len ≤ maxLen ∧ len * B ≤ 140737488351232 ∧ (0 < len → ∃ ad, a = some ad ∧ ∀ i, i < len → ∀ j, j < fs.size → w.cell? (ad.add (i * fs.size + j)) = some (.int .i64 (F i j))) ∧ ∀ i, i < len → ∀ j, j < fs.size → (Lit.int .i64 (F i j)).wf = true := by
  obtain ⟨fuel, hf⟩ := h
  rcases open_ints_struct ht he hone hC hk hf with ⟨hcs, _⟩ | ⟨x, l, c, F, el, sp, ps', hcs, hl, hm, hx, hel, hF⟩
  · simp [Value.cells] at hcs
    obtain ⟨rfl, rfl, rfl⟩ := hcs
    exact ⟨fun _ _ => 0, by omega, by omega, by omega, fun h => absurd h (by omega), fun i hi => absurd hi (by omega)⟩
  · simp [Value.cells] at hcs
    obtain ⟨rfl, rfl, rfl⟩ := hcs
    obtain ⟨hx, _⟩ := Prod.mk.inj hx
    subst hx
    have z := sized_slice hsz htj hdj ht
    rw [hB, hel] at z
    refine ⟨F, hl, by omega, ?_, fun _ => ⟨x, rfl, fun i hi j hj => (hF i hi j hj).1⟩, fun i hi j hj => (hF i hi j hj).2⟩
    have : reachBytes = 140737488351232 := by decide
    rw [this] at z
    exact Nat.le_trans (Nat.mul_le_mul_right _ (by omega)) z

/-- A struct of two whole numbers, by value. -/
theorem open_pair {r : Reach} {b0 : Nat} {t : TypeId} {f0 f1 : Field} {v : Value} {d : DataW H} {p : List MemPlace} (hs : P.underlying t = some (.struct #[f0, f1])) (hone : oneCellFields P #[f0, f1] = true) (hC : P.cellsOf t = 2)
    (h0 : P.underlying f0.type = some (.int .i64)) (h1 : P.underlying f1.type = some (.int .i64)) (hv : Value.okWide P w r b0 t v) (h : DataW.Trod enc P w base spare held t v d p) :
    ∃ x y : Int, v = .agg #[.int .i64 x, .int .i64 y] ∧ p = [] ∧ (Lit.int .i64 x).wf = true ∧ (Lit.int .i64 y).wf = true := by
  obtain ⟨v0, v1, y0, y1, n, rfl, rfl, rfl, g0, g1⟩ := Go.Joins.open_agg2 hs hone hC hv h
  obtain ⟨x, e0, rfl, w0⟩ := DataW.trod_int h0 g0
  obtain ⟨y, e1, rfl, w1⟩ := DataW.trod_int h1 g1
  simp only [List.cons.injEq, and_true] at e0 e1
  subst e0 e1
  exact ⟨x, y, rfl, rfl, w0, w1⟩
end
end Go.Proofs.Ytgghcngfleicnaa.HO
