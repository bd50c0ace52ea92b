/-
  Part 4 of the proof of FnExactFirstPacked: what Go functions that it reaches compute, each shown by a walk of its code, and plain laws on numbers and lists.
  CONDITIONS: each theorem's own, as stated.
-/
import Derived.Test.YtkaihdpmjlhlaaaZFnExactFirstPacked3
import Derived.Test.YtkaihdpmjlhlaaaZFnExactFirstPacked1
namespace Go.Proofs.Ytkaihdpmjlhlaaa.Q
open Go.RowKit Go.Shelf Go.Proofs.YtkaihdpmjlhlaaaW.PrintWords Go.Proofs.YtkaihdpmjlhlaaaW.PrintLast Go.Proofs.YtkaihdpmjlhlaaaW.PrintMore
set_option linter.unusedVariables false
set_option linter.unusedSimpArgs false

/-- Does a suitcase hold so much? -/
def holdsC (a b : Int) (x : Int × Int × Int) : Bool := decide (x.1 ≤ a) && decide (x.2.1 ≤ b)
theorem holds_f (a b : Int) (x : Int × Int × Int) : impl_Case_holds.f a b x.1 x.2.1 x.2.2 = some (holdsC a b x) := by
  unfold impl_Case_holds.f holdsC
  by_cases h : x.1 ≤ a <;> simp [h]
/-- The first choice with the greatest score, this, and how many have it. -/
def bestAll (items : List Item) (a b : Int) (sc : List Int → Int × Int × Int → Int) : Best := (allV items.length).foldl (visit items (holdsC a b) (bestStep items sc)) ([], -1, 0)

set_option maxRecDepth 100000 in
set_option maxHeartbeats 4000000 in
theorem bestOf_calls (items : List Item) (A0 : Option Addr) (c0 : Nat) (a b : Int) (g : Nat) (sc : List Int → Int × Int × Int → Int) (w : World) (eg : ∀ args w, (callFunc g args).run Try.prog w = .ok (.enter g args) w) (hsc : ScoreOk g sc)
    (hn : items.length ≤ 1000) (hr0 : Kd.C k49 w A0 items.length items) (hc0 : items.length ≤ c0) (r : Best) (hr : bestAll items a b sc = r) :
    Calls Try.prog 45 #[.slice A0 items.length c0, .agg #[.int .i64 a, .int .i64 b], .func (.func g) #[] #[]] w fun e w' => ∃ v0_ : Value, e = .returned (.tuple #[v0_, .int .i64 r.2.1, .int .i64 r.2.2]) ∧ Kd.R kInt 3 w' w.heap.size (fun _ => True) v0_ r.1 ∧ Below w.heap.size w w' := by
  have HR0 := Aside0.mk hr0
  have HSC := Aside0.mk hsc
  have HRR := Aside0.mk hr
  clear hr0 hsc hr
  go_enter Try.func45, Try.ntmps45
  go_wp2_with fail
  have x1 := (((Boxed.new (w.alloc (.cells #[.int .i64 a, .int .i64 b] 30)) 58 (.func (.func g) #[] #[])).alloc (.cells #[.slice none 0 0] 34)).alloc (.cells #[.int .i64 (-1)] 3)).alloc (.cells #[.int .i64 0] 3)
  have x2 := ((Boxed.new ((w.alloc (.cells #[.int .i64 a, .int .i64 b] 30)).alloc (.cells #[.func (.func g) #[] #[]] 58)) 34 (.slice none 0 0)).alloc (.cells #[.int .i64 (-1)] 3)).alloc (.cells #[.int .i64 0] 3)
  have x3 := (Boxed.new (((w.alloc (.cells #[.int .i64 a, .int .i64 b] 30)).alloc (.cells #[.func (.func g) #[] #[]] 58)).alloc (.cells #[.slice none 0 0] 34)) 3 (.int .i64 (-1))).alloc (.cells #[.int .i64 0] 3)
  have x4 := Boxed.new ((((w.alloc (.cells #[.int .i64 a, .int .i64 b] 30)).alloc (.cells #[.func (.func g) #[] #[]] 58)).alloc (.cells #[.slice none 0 0] 34)).alloc (.cells #[.int .i64 (-1)] 3)) 3 (.int .i64 0)
  have b5 : Below w.heap.size w (((((w.alloc (.cells #[.int .i64 a, .int .i64 b] 30)).alloc (.cells #[.func (.func g) #[] #[]] 58)).alloc (.cells #[.slice none 0 0] 34)).alloc (.cells #[.int .i64 (-1)] 3)).alloc (.cells #[.int .i64 0] 3)) :=
    (((((Below.refl _ w).alloc (by simp) _).alloc (by simp) _).alloc (by simp <;> omega) _).alloc (by simp <;> omega) _).alloc (by simp <;> omega) _
  have z5 : (((((w.alloc (.cells #[.int .i64 a, .int .i64 b] 30)).alloc (.cells #[.func (.func g) #[] #[]] 58)).alloc (.cells #[.slice none 0 0] 34)).alloc (.cells #[.int .i64 (-1)] 3)).alloc (.cells #[.int .i64 0] 3)).heap.size = w.heap.size + 5 := by simp
  generalize (((((w.alloc (.cells #[.int .i64 a, .int .i64 b] 30)).alloc (.cells #[.func (.func g) #[] #[]] 58)).alloc (.cells #[.slice none 0 0] 34)).alloc (.cells #[.int .i64 (-1)] 3)).alloc (.cells #[.int .i64 0] 3)) = W5 at x1 x2 x3 x4 b5 z5 ⊢
  simp only [show ∀ (W : World) (o : Obj), (W.alloc o).heap.size = W.heap.size + 1 from fun W o => by simp] at x1 x2 x3 x4
  have h3 : Three w.heap.size (w.heap.size + 1 + 1) (w.heap.size + 1 + 1 + 1) (w.heap.size + 1 + 1 + 1 + 1) ([], -1, 0) W5 := ⟨⟨_, x2, Kd.R_nil _ _ _ _ _⟩, x3, x4⟩
  have hT : Two items (fun k => k = w.heap.size + 1 + 1 ∨ k = w.heap.size + 1 + 1 + 1 ∨ k = w.heap.size + 1 + 1 + 1 + 1) (Three w.heap.size (w.heap.size + 1 + 1) (w.heap.size + 1 + 1 + 1) (w.heap.size + 1 + 1 + 1 + 1)) w.heap.size W5
      60 #[.agg #[.int .i64 a, .int .i64 b]] #[] 78 #[] #[.pointer (some ⟨w.heap.size + 1, 0, none⟩), .pointer (some ⟨w.heap.size + 1 + 1 + 1, 0, none⟩), .pointer (some ⟨w.heap.size + 1 + 1, 0, none⟩), .pointer (some ⟨w.heap.size + 1 + 1 + 1 + 1, 0, none⟩)] (holdsC a b) (bestStep items sc) := by
    refine ⟨enters_of Try.func60 (by kernel_rfl) rfl, enters_of Try.func78 (by kernel_rfl) rfl, fun s W W' h hb => h.later hb, fun W x _ => ?_, fun s W v ch hF hI hv _ _ _ => ?_⟩
    · exact impl_Case_holds.calls a b x.1 x.2.1 x.2.2 _ W (holds_f a b x)
    · exact bestOf1_calls items g sc eg HSC.out w.heap.size (w.heap.size + 1) (w.heap.size + 1 + 1) (w.heap.size + 1 + 1 + 1) (w.heap.size + 1 + 1 + 1 + 1) (by omega) (by omega) (by omega) s W v ch (box_fr x1 hF (by omega)) hI hv
  have hcall := choices_calls items A0 c0 _ _ w.heap.size W5 _ _ _ _ _ _ _ _ ([], -1, 0) hn hT b5.size (fun k hk => by rw [z5]; omega)
    (fun W h => Kd.C_below HR0.out (b5.trans (h.below (fun k hk => by omega) b5.size))) hc0 h3
  rw [show (allV items.length).foldl (visit items (holdsC a b) (bestStep items sc)) ([], -1, 0) = r from HRR.out] at hcall
  have B5 := Aside0.mk b5
  clear x1 x2 x3 x4 h3 hT b5 z5
  go_wp2_with (go_at_call 63; refine hcall.mono ?_; rintro e w6 ⟨rfl, ⟨⟨v, xb, xr⟩, xm, xk⟩, hF6⟩)
  obtain ⟨A1, c1, rfl⟩ := Kd.R_slice xr
  have q1 := xb.cell
  have q2 := xm.cell
  have q3 := xk.cell
  have HX := Aside0.mk xr
  clear xr
  go_region
  all_goals
    go_wp2
    go_ret3
    exact ⟨_, rfl, Kd.R_mono HX.out (fun _ _ => trivial), (B5.out.trans (hF6.below (fun k hk => by omega) B5.out.size)).drew⟩

/-- The totals' value. -/
theorem scoreValue_ok : ScoreOk 79 (fun _ x => x.2.2) := by
  intro W A c ch x hC hc
  go_enter Try.func79, Try.ntmps79
  go_wp2
  go_ret
  exact ⟨rfl, (Below.refl _ W).alloc (Nat.le_refl _) _⟩

def impl_byValue.f (l0 : List Item) (a1_0 a1_1 : Int) : Option (List Int × Int × Int) := if l0.length ≤ 1000 then some (bestAll l0 a1_0 a1_1 (fun _ x => x.2.2)) else none
set_option maxHeartbeats 2000000 in
theorem impl_byValue.calls (A0 : Option Addr) (c0 : Nat) (l0 : List Item) (a1_0 a1_1 : Int) (r1 : List Int) (r2 r3 : Int) (w : World) (hr0 : Kd.C k49 w A0 l0.length l0) (hc0 : l0.length ≤ c0) (h : impl_byValue.f l0 a1_0 a1_1 = some (r1, r2, r3)) :
    Calls Try.prog 48 #[.slice A0 l0.length c0, .agg #[.int .i64 a1_0, .int .i64 a1_1]] w fun e w' => ∃ v0_ : Value, e = .returned (.tuple #[v0_, .int .i64 r2, .int .i64 r3]) ∧ Kd.R (Kd.int .i64) 3 w' w.heap.size (fun _ => True) v0_ r1 ∧ Below w.heap.size w w' := by
  have hn : l0.length ≤ 1000 := by
    unfold impl_byValue.f at h
    split at h
    · assumption
    · cases h
  have hr : bestAll l0 a1_0 a1_1 (fun _ x => x.2.2) = (r1, r2, r3) := by
    unfold impl_byValue.f at h
    rw [if_pos hn] at h
    injection h
  have hcall := bestOf_calls l0 A0 c0 a1_0 a1_1 79 (fun _ x => x.2.2) (w.alloc (.cells #[.int .i64 a1_0, .int .i64 a1_1] 30)) (enters_of Try.func79 (by kernel_rfl) rfl) scoreValue_ok hn (Kd.C_below hr0 ((Below.refl _ w).alloc (Nat.le_refl _) _)) hc0 _ hr
  clear hr0 h hr
  go_enter Try.func48, Try.ntmps48
  go_wp2_with (go_at_call 45; refine hcall.mono ?_; rintro e w' ⟨v, rfl, hR, hb⟩; obtain ⟨A1, c1, rfl⟩ := Kd.R_slice hR)
  go_ret3
  exact ⟨_, rfl, Kd.R_lower hR (by simp), ((Below.refl _ w).alloc (Nat.le_refl _) _).trans (hb.mono (by simp))⟩
end Go.Proofs.Ytkaihdpmjlhlaaa.Q

namespace Go.Proofs.Ytkaihdpmjlhlaaa.Q
open Go.RowKit Go.Proofs.YtkaihdpmjlhlaaaW.PrintWords Go.Proofs.YtkaihdpmjlhlaaaW.PrintLast Go.Proofs.YtkaihdpmjlhlaaaW.PrintMore
attribute [local go_sem] max2_int min2_int max_two min_two max_three min_three max_four min_four   -- for this text's walks alone
set_option linter.unusedVariables false
set_option linter.unusedSimpArgs false

/-! ### impl_FirstPacked: function 26 -/
def impl_FirstPacked.f (l0 : List (S49)) (a1_0 : Int) (a1_1 : Int) : Option (List Int × Bool) := (impl_arePacked.f l0 (([(⟨a1_0, a1_1⟩ : S30)] : List (S30)))).bind fun t310 => (if t310 = true then ((impl_byValue.f l0 a1_0 a1_1).bind fun bt311 => (some (bt311.1, true))) else (some (([] : List Int), false)))
set_option maxHeartbeats 8000000 in
set_option maxRecDepth 100000 in
theorem impl_FirstPacked.calls (A0 : Option Addr) (c0 : Nat) (l0 : List (S49)) (a1_0 : Int) (a1_1 : Int) (r1 : List Int) (r2 : Bool) (w : World) (hr0 : Kd.C k49 w A0 l0.length l0) (hc0 : l0.length ≤ c0) (h : impl_FirstPacked.f l0 a1_0 a1_1 = some (r1, r2)) :
    Calls Try.prog 26 #[.slice A0 l0.length c0, .agg #[.int .i64 a1_0, .int .i64 a1_1]] w fun e w' => ∃ v0_ : Value, e = .returned (.tuple #[v0_, .bool r2]) ∧ Kd.R (Kd.int .i64) 3 w' w.heap.size (fun _ => True) v0_ r1 ∧ Below w.heap.size w w' := by
  have hu30 := Try.underlying30
  have HR0 := Aside0.mk hr0
  have HC0 := Aside0.mk hc0
  clear hr0 hc0
  have HB := Aside0.mk (Below.refl w.heap.size w)
  have H : ((impl_arePacked.f l0 (([(⟨a1_0, a1_1⟩ : S30)] : List (S30)))).bind fun t310 => (if t310 = true then ((impl_byValue.f l0 a1_0 a1_1).bind fun bt311 => (some (bt311.1, true))) else (some (([] : List Int), false)))) = some (r1, r2) := h
  clear h
  obtain ⟨y307, hy307⟩ : ∃ y_ : List (S30), y_ = (([(⟨a1_0, a1_1⟩ : S30)] : List (S30))) := ⟨_, rfl⟩
  replace H : ((impl_arePacked.f l0 y307).bind fun t310 => (if t310 = true then ((impl_byValue.f l0 a1_0 a1_1).bind fun bt311 => (some (bt311.1, true))) else (some (([] : List Int), false)))) = some (r1, r2) := by first | (rw [hy307]; with_reducible exact H) | (have H2_ := (Option.bind_some _ _).symm.trans H; rw [hy307]; with_reducible exact H2_) | (have H2_ := (Option.bind_some _ _).symm.trans H; with_reducible exact H2_) | with_reducible exact H | (rw [hy307]; exact H) | exact H
  have Ny307 := Aside0.mk hy307
  clear hy307
  replace H := Option.bind_eq_some_iff.mp H
  obtain ⟨t310, A30, H⟩ := H
  replace H : (if t310 = true then ((impl_byValue.f l0 a1_0 a1_1).bind fun bt311 => (some (bt311.1, true))) else (some (([] : List Int), false))) = some (r1, r2) := H
  have A3 := Aside0.mk A30
  clear A30
  by_cases c4 : t310 = true
  · subst c4
    have H1 : ((impl_byValue.f l0 a1_0 a1_1).bind fun bt311 => (some (bt311.1, true))) = some (r1, r2) := by rw [if_pos rfl] at H; exact H
    clear H
    have H := H1
    clear H1
    replace H := Option.bind_eq_some_iff.mp H
    obtain ⟨⟨t311, t314, t315⟩, A50, H⟩ := H
    replace H : (some (t311, true)) = some (r1, r2) := H
    have A5 := Aside0.mk A50
    clear A50
    simp only [Option.some.injEq, Prod.mk.injEq] at H
    obtain ⟨rfl, rfl⟩ := H
    go_enter Try.func26, Try.ntmps26
    go_wp2_with (first | ((with_reducible refine gate_dst (N := 3) rfl ?_); refine box_event ?hg (N := 3) ?hd (cs := #[.int .i64 a1_0, .int .i64 a1_1]) (t := 30) ?hr ?_; (case hd => rfl); (case hg => rfl); (case hr => first | (go_simp; done) | (go_simp; rfl)); intro gb306 hg w6 hbox hb; have n0_ := Aside0.mk (below_step (by repeat (first | (with_reducible first | exact HB.out | apply below_alloc | apply pw_below_drewN | apply below_drew1) | exact HB.out)) hb); have n1_ := Aside0.mk (hbox); have n2_ := Aside0.mk ((by rw [hg]; exact (below_size (by repeat (first | (with_reducible first | exact HB.out | apply below_alloc | apply pw_below_drewN | apply below_drew1) | exact HB.out))) : w.heap.size ≤ gb306)); have n3_ := Aside0.mk ((by rw [hg]; exact (below_size (by repeat (first | (with_reducible first | exact HB.out | apply below_alloc | apply pw_below_drewN | apply below_drew1) | exact HB.out))) : w.heap.size ≤ gb306)); clear HB; have HB := n0_; have BK306 := n1_; have GW306 := n2_; have GE306 := n3_; clear n0_ n1_ n2_ n3_; clear hb hbox hg; have hcz7_0 : w6.cell? ⟨gb306, 0, none⟩ = some (.int .i64 a1_0) := (blk_cell BK306.out 0).trans rfl; have hcz7_1 : w6.cell? ⟨gb306, 1, none⟩ = some (.int .i64 a1_1) := (blk_cell BK306.out 1).trans rfl; have hfz7_0 := blk_frozen BK306.out 0; have hfz7_1 := blk_frozen BK306.out 1) | ((with_reducible refine gate_dst (N := 11) rfl ?_); refine Kd.R_lit k30 _ 30 ?hg (N := 11) ?hd (xs := ([(⟨a1_0, a1_1⟩ : S30)] : List (S30))) (inner := [.int .i64 a1_0, .int .i64 a1_1]) (ok := fun _ => True) (okp := fun _ => True) ?hr ?hp (fun _ hk => hk) trivial (Below.refl _ _) (Nat.le_refl _) (by simp) ?_; (case hd => rfl); (case hg => rfl); (case hr => first | (go_simp; done) | (go_simp; rfl)); (case hp => exact (Reps.c2 (show Kd.M k30 _ _ _ (⟨a1_0, a1_1⟩ : S30) [.int .i64 a1_0, .int .i64 a1_1] from (k30_mkM _ _ _ (⟨a1_0, a1_1⟩ : S30) )) (Reps.none _ _))); intro v308 w8 ho9 hb hg_ hnew_; clear hg_ hnew_; (first | rw [← Ny307.out] at ho9 | (simp only [Int.reduceToNat] at ho9; rw [← Ny307.out] at ho9)); have n0_ := Aside0.mk (Kd.R_lower (Kd.R_newB ho9 (g := gb306) (o := .cells #[.int .i64 a1_0, .int .i64 a1_1] 30 (0, 0)) (by (with_reducible repeat (first | refine blk_drewN ?_ _ | refine blk_drew ?_ | refine blk_alloc ?_ _)); exact BK306.out)) (below_size (by repeat (first | (with_reducible first | exact HB.out | apply below_alloc | apply pw_below_drewN | apply below_drew1 | refine below_set ?_ GE306.out) | exact HB.out)))); have n1_ := Aside0.mk (blk_below (g := gb306) (o := .cells #[.int .i64 a1_0, .int .i64 a1_1] 30 (0, 0)) (by (with_reducible repeat (first | refine blk_drewN ?_ _ | refine blk_drew ?_ | refine blk_alloc ?_ _)); exact BK306.out) hb); have n2_ := Aside0.mk (below_step (by repeat (first | (with_reducible first | exact HB.out | apply below_alloc | apply pw_below_drewN | apply below_drew1 | refine below_set ?_ GE306.out) | exact HB.out)) hb); clear BK306; clear HB; have HO309 := n0_; have BK306 := n1_; have HB := n2_; clear n0_ n1_ n2_; clear hb ho9; obtain ⟨Ao10, co10, eo10⟩ := Kd.R_slice HO309.out; subst eo10) | ((with_reducible refine gate_callee (f := 40) rfl ?_); refine goesL_ (some 12) rfl rfl Try.func40 (by kernel_rfl) rfl #[.slice A0 l0.length c0, .slice Ao10 y307.length co10] rfl (by (try simp only [List.map_toArray, List.map_cons, List.map_nil]); first | done | rfl | (simp only [List.length_drop, List.length_take]; rfl)) ?_; (with_reducible refine (impl_arePacked.calls _ _ l0 _ _ y307 true _ ?side1 ?side2 ?side3 ?side4 A3.out).mono ?_); (case side1 => repeat (first | exact (Kd.C_below HR0.out HB.out) | (with_reducible refine Kd.C_alloc ?_ _) | (with_reducible refine Kd.C_drewN ?_ _) | (with_reducible refine Kd.C_drew ?_))); (case side2 => exact HC0.out); (case side3 => repeat (first | exact (Kd.R_reads' HO309.out).2.2 | (with_reducible refine Kd.C_alloc ?_ _) | (with_reducible refine Kd.C_drewN ?_ _) | (with_reducible refine Kd.C_drew ?_))); (case side4 => exact (Kd.R_reads' HO309.out).2.1); rintro e w11 ⟨rfl, hb⟩; refine ⟨_, rfl, ?_⟩; have n0_ := Aside0.mk (Kd.R_below (by (with_reducible repeat (first | apply Kd.R_alloc | apply Kd.R_drewN | apply Kd.R_drew)); exact HO309.out) hb); have n1_ := Aside0.mk (blk_below (g := gb306) (o := .cells #[.int .i64 a1_0, .int .i64 a1_1] 30 (0, 0)) (by (with_reducible repeat (first | refine blk_drewN ?_ _ | refine blk_drew ?_ | refine blk_alloc ?_ _)); exact BK306.out) hb); have n2_ := Aside0.mk (below_step (by repeat (first | (with_reducible first | exact HB.out | apply below_alloc | apply pw_below_drewN | apply below_drew1 | refine below_set ?_ GE306.out) | exact HB.out)) hb); clear HO309; clear BK306; clear HB; have HO309 := n0_; have BK306 := n1_; have HB := n2_; clear n0_ n1_ n2_; (try clear hb); (try clear hb2); (try clear hk); (try clear hi); have hcz12_0 : w11.cell? ⟨gb306, 0, none⟩ = some (.int .i64 a1_0) := (blk_cell BK306.out 0).trans rfl; have hcz12_1 : w11.cell? ⟨gb306, 1, none⟩ = some (.int .i64 a1_1) := (blk_cell BK306.out 1).trans rfl; have hfz12_0 := blk_frozen BK306.out 0; have hfz12_1 := blk_frozen BK306.out 1) | ((with_reducible refine gate_callee (f := 48) rfl ?_); refine goesL_ (some 17) rfl rfl Try.func48 (by kernel_rfl) rfl #[.slice A0 l0.length c0, .agg #[.int .i64 a1_0, .int .i64 a1_1]] rfl (by (try simp only [List.map_toArray, List.map_cons, List.map_nil]); first | done | rfl | (simp only [List.length_drop, List.length_take]; rfl)) ?_; (with_reducible refine (impl_byValue.calls _ _ l0 a1_0 a1_1 t311 t314 t315 _ ?side1 ?side2 A5.out).mono ?_); (case side1 => repeat (first | exact (Kd.C_below HR0.out HB.out) | (with_reducible refine Kd.C_alloc ?_ _) | (with_reducible refine Kd.C_drewN ?_ _) | (with_reducible refine Kd.C_drew ?_))); (case side2 => exact HC0.out); rintro e w13 ⟨v312, rfl, ho0, hb⟩; refine ⟨_, rfl, ?_⟩; have n0_ := Aside0.mk (Kd.R_below (by (with_reducible repeat (first | apply Kd.R_alloc | apply Kd.R_drewN | apply Kd.R_drew)); exact HO309.out) hb); have n1_ := Aside0.mk (Kd.R_lower ho0 (below_size (by repeat (first | (with_reducible first | exact HB.out | apply below_alloc | apply pw_below_drewN | apply below_drew1 | refine below_set ?_ GE306.out) | exact HB.out)))); have n2_ := Aside0.mk (blk_below (g := gb306) (o := .cells #[.int .i64 a1_0, .int .i64 a1_1] 30 (0, 0)) (by (with_reducible repeat (first | refine blk_drewN ?_ _ | refine blk_drew ?_ | refine blk_alloc ?_ _)); exact BK306.out) hb); have n3_ := Aside0.mk (below_step (by repeat (first | (with_reducible first | exact HB.out | apply below_alloc | apply pw_below_drewN | apply below_drew1 | refine below_set ?_ GE306.out) | exact HB.out)) hb); clear HO309; clear BK306; clear HB; have HO309 := n0_; have HO313 := n1_; have BK306 := n2_; have HB := n3_; clear n0_ n1_ n2_ n3_; (try clear hb); (try clear hb2); (try clear hk); (try clear hi); (try clear ho0)))
    go_ret2
    exact ⟨_, by first | rfl | (simp [errW_none, errW_some] <;> rfl) | (simp [*, errW_none, errW_some] <;> rfl), by (with_reducible repeat (first | apply Kd.R_alloc | apply Kd.R_drewN | apply Kd.R_drew)); exact HO313.out, by repeat (first | (with_reducible first | exact HB.out | apply below_alloc | apply pw_below_drewN | apply below_drew1 | refine below_set ?_ GE306.out) | exact HB.out)⟩
  · replace c4 := Bool.eq_false_iff.mpr c4
    subst c4
    have H1 : (some (([] : List Int), false)) = some (r1, r2) := by rw [if_neg (show ¬ (false = true) by decide)] at H; exact H
    clear H
    have H := H1
    clear H1
    simp only [Option.some.injEq, Prod.mk.injEq] at H
    obtain ⟨rfl, rfl⟩ := H
    go_enter Try.func26, Try.ntmps26
    go_wp2_with (first | ((with_reducible refine gate_dst (N := 3) rfl ?_); refine box_event ?hg (N := 3) ?hd (cs := #[.int .i64 a1_0, .int .i64 a1_1]) (t := 30) ?hr ?_; (case hd => rfl); (case hg => rfl); (case hr => first | (go_simp; done) | (go_simp; rfl)); intro gb306 hg w14 hbox hb; have n0_ := Aside0.mk (below_step (by repeat (first | (with_reducible first | exact HB.out | apply below_alloc | apply pw_below_drewN | apply below_drew1) | exact HB.out)) hb); have n1_ := Aside0.mk (hbox); have n2_ := Aside0.mk ((by rw [hg]; exact (below_size (by repeat (first | (with_reducible first | exact HB.out | apply below_alloc | apply pw_below_drewN | apply below_drew1) | exact HB.out))) : w.heap.size ≤ gb306)); have n3_ := Aside0.mk ((by rw [hg]; exact (below_size (by repeat (first | (with_reducible first | exact HB.out | apply below_alloc | apply pw_below_drewN | apply below_drew1) | exact HB.out))) : w.heap.size ≤ gb306)); clear HB; have HB := n0_; have BK306 := n1_; have GW306 := n2_; have GE306 := n3_; clear n0_ n1_ n2_ n3_; clear hb hbox hg; have hcz15_0 : w14.cell? ⟨gb306, 0, none⟩ = some (.int .i64 a1_0) := (blk_cell BK306.out 0).trans rfl; have hcz15_1 : w14.cell? ⟨gb306, 1, none⟩ = some (.int .i64 a1_1) := (blk_cell BK306.out 1).trans rfl; have hfz15_0 := blk_frozen BK306.out 0; have hfz15_1 := blk_frozen BK306.out 1) | ((with_reducible refine gate_dst (N := 11) rfl ?_); refine Kd.R_lit k30 _ 30 ?hg (N := 11) ?hd (xs := ([(⟨a1_0, a1_1⟩ : S30)] : List (S30))) (inner := [.int .i64 a1_0, .int .i64 a1_1]) (ok := fun _ => True) (okp := fun _ => True) ?hr ?hp (fun _ hk => hk) trivial (Below.refl _ _) (Nat.le_refl _) (by simp) ?_; (case hd => rfl); (case hg => rfl); (case hr => first | (go_simp; done) | (go_simp; rfl)); (case hp => exact (Reps.c2 (show Kd.M k30 _ _ _ (⟨a1_0, a1_1⟩ : S30) [.int .i64 a1_0, .int .i64 a1_1] from (k30_mkM _ _ _ (⟨a1_0, a1_1⟩ : S30) )) (Reps.none _ _))); intro v308 w16 ho17 hb hg_ hnew_; clear hg_ hnew_; (first | rw [← Ny307.out] at ho17 | (simp only [Int.reduceToNat] at ho17; rw [← Ny307.out] at ho17)); have n0_ := Aside0.mk (Kd.R_lower (Kd.R_newB ho17 (g := gb306) (o := .cells #[.int .i64 a1_0, .int .i64 a1_1] 30 (0, 0)) (by (with_reducible repeat (first | refine blk_drewN ?_ _ | refine blk_drew ?_ | refine blk_alloc ?_ _)); exact BK306.out)) (below_size (by repeat (first | (with_reducible first | exact HB.out | apply below_alloc | apply pw_below_drewN | apply below_drew1 | refine below_set ?_ GE306.out) | exact HB.out)))); have n1_ := Aside0.mk (blk_below (g := gb306) (o := .cells #[.int .i64 a1_0, .int .i64 a1_1] 30 (0, 0)) (by (with_reducible repeat (first | refine blk_drewN ?_ _ | refine blk_drew ?_ | refine blk_alloc ?_ _)); exact BK306.out) hb); have n2_ := Aside0.mk (below_step (by repeat (first | (with_reducible first | exact HB.out | apply below_alloc | apply pw_below_drewN | apply below_drew1 | refine below_set ?_ GE306.out) | exact HB.out)) hb); clear BK306; clear HB; have HO309 := n0_; have BK306 := n1_; have HB := n2_; clear n0_ n1_ n2_; clear hb ho17; obtain ⟨Ao18, co18, eo18⟩ := Kd.R_slice HO309.out; subst eo18) | ((with_reducible refine gate_callee (f := 40) rfl ?_); refine goesL_ (some 12) rfl rfl Try.func40 (by kernel_rfl) rfl #[.slice A0 l0.length c0, .slice Ao18 y307.length co18] rfl (by (try simp only [List.map_toArray, List.map_cons, List.map_nil]); first | done | rfl | (simp only [List.length_drop, List.length_take]; rfl)) ?_; (with_reducible refine (impl_arePacked.calls _ _ l0 _ _ y307 false _ ?side1 ?side2 ?side3 ?side4 A3.out).mono ?_); (case side1 => repeat (first | exact (Kd.C_below HR0.out HB.out) | (with_reducible refine Kd.C_alloc ?_ _) | (with_reducible refine Kd.C_drewN ?_ _) | (with_reducible refine Kd.C_drew ?_))); (case side2 => exact HC0.out); (case side3 => repeat (first | exact (Kd.R_reads' HO309.out).2.2 | (with_reducible refine Kd.C_alloc ?_ _) | (with_reducible refine Kd.C_drewN ?_ _) | (with_reducible refine Kd.C_drew ?_))); (case side4 => exact (Kd.R_reads' HO309.out).2.1); rintro e w19 ⟨rfl, hb⟩; refine ⟨_, rfl, ?_⟩; have n0_ := Aside0.mk (Kd.R_below (by (with_reducible repeat (first | apply Kd.R_alloc | apply Kd.R_drewN | apply Kd.R_drew)); exact HO309.out) hb); have n1_ := Aside0.mk (blk_below (g := gb306) (o := .cells #[.int .i64 a1_0, .int .i64 a1_1] 30 (0, 0)) (by (with_reducible repeat (first | refine blk_drewN ?_ _ | refine blk_drew ?_ | refine blk_alloc ?_ _)); exact BK306.out) hb); have n2_ := Aside0.mk (below_step (by repeat (first | (with_reducible first | exact HB.out | apply below_alloc | apply pw_below_drewN | apply below_drew1 | refine below_set ?_ GE306.out) | exact HB.out)) hb); clear HO309; clear BK306; clear HB; have HO309 := n0_; have BK306 := n1_; have HB := n2_; clear n0_ n1_ n2_; (try clear hb); (try clear hb2); (try clear hk); (try clear hi)))
    go_ret2
    exact ⟨_, by first | rfl | (simp [errW_none, errW_some] <;> rfl) | (simp [*, errW_none, errW_some] <;> rfl), by first | exact Kd.R_nil _ _ _ _ _ | exact Kd.N_nil _ _ _ _ _ | exact Kd.V_nil _ _ _ _ _ | exact Kd.Q_nil _ _ _ _ _ | exact Kd.S_nil _ _ _ _ _, by repeat (first | (with_reducible first | exact HB.out | apply below_alloc | apply pw_below_drewN | apply below_drew1 | refine below_set ?_ GE306.out) | exact HB.out)⟩

end Go.Proofs.Ytkaihdpmjlhlaaa.Q

namespace Go.Proofs.Ytkaihdpmjlhlaaa.Q
open Go.RowKit Go.Proofs.YtkaihdpmjlhlaaaW.PrintWords Go.Proofs.YtkaihdpmjlhlaaaW.PrintLast Go.Proofs.YtkaihdpmjlhlaaaW.PrintMore
attribute [local go_sem] max2_int min2_int max_two min_two max_three min_three max_four min_four   -- for this text's walks alone
set_option linter.unusedVariables false
set_option linter.unusedSimpArgs false

/-! ### laws_FnExactFirstPacked: function 6 -/
mutual
def laws_FnExactFirstPacked.j0 : Nat → List (S51) → List Int → Bool → List (S49) → List Int → Bool → Bool → Int → Int → Option (Bool)
  | 0, _, _, _, _, _, _, _, _, _ => none
  | k + 1, x0, x6, x7, x8, x9, x10, x46, x317000, x317001 => if x46 = true then (some false) else ((laws_toItemS.f k x0).bind fun t337 => ((laws_eqItemS.f k x8 t337).bind fun t340 => (if t340 = true then ((laws_markItemS.f k x8 1).bind fun bt341 => (if bt341.1 < 0 then (laws_FnExactFirstPacked.j1 k x0 x6 x7 x9 true x317000 x317001) else ((laws_eqIntS.f k x9 x6).bind fun t343 => (if t343 = true then (laws_FnExactFirstPacked.j1 k x0 x6 x7 x9 (x10 != x7) x317000 x317001) else (laws_FnExactFirstPacked.j1 k x0 x6 x7 x9 true x317000 x317001))))) else (some false))))
def laws_FnExactFirstPacked.j1 : Nat → List (S51) → List Int → Bool → List Int → Bool → Int → Int → Option (Bool)
  | 0, _, _, _, _, _, _, _ => none
  | k + 1, x0, x6, x7, x9, x67, x317000, x317001 => if x67 = true then (some false) else ((laws_markIntS.f k x9 1).bind fun bt344 => ((laws_heldIntS.f k bt344.2 1).bind fun t346 => (if t346 < 0 then (some false) else (if t346 = bt344.1 then ((laws_toItemS.f k x0).bind fun t347 => ((laws_toCase.f x317000 x317001).bind fun bt350 => ((impl_FirstPacked.f t347 bt350.1 bt350.2).bind fun bt352 => ((laws_eqIntS.f k bt352.1 x6).bind fun t356 => (if t356 = true then (laws_FnExactFirstPacked.j2 k bt344.2 bt344.1 (bt352.2 != x7)) else (laws_FnExactFirstPacked.j2 k bt344.2 bt344.1 true)))))) else (some false)))))
def laws_FnExactFirstPacked.j2 : Nat → List Int → Int → Bool → Option (Bool)
  | 0, _, _, _ => none
  | k + 1, x9, x12, x95 => if x95 = true then (some false) else ((laws_heldIntS.f k x9 1).bind fun t357 => (if t357 < 0 then (some false) else (if t357 = x12 then (some true) else (some false))))
end
def laws_FnExactFirstPacked.f (k : Nat) (l0 : List (S51)) (a1_0 : Int) (a1_1 : Int) : Option (Bool) := (laws_szItemS.f l0 1048576).bind fun t317 => (if t317 < 0 then (some true) else ((laws_toItemS.f k l0).bind fun t318 => ((laws_toCase.f a1_0 a1_1).bind fun bt321 => ((spec_FirstPacked.f k t318 bt321.1 bt321.2).bind fun bt323 => ((laws_toItemS.f k l0).bind fun t327 => ((laws_toCase.f a1_0 a1_1).bind fun bt330 => ((impl_FirstPacked.f t327 bt330.1 bt330.2).bind fun bt332 => ((laws_eqIntS.f k bt332.1 bt323.1).bind fun t336 => (if t336 = true then (laws_FnExactFirstPacked.j0 k l0 bt323.1 bt323.2 t327 bt332.1 bt332.2 (bt332.2 != bt323.2) a1_0 a1_1) else (laws_FnExactFirstPacked.j0 k l0 bt323.1 bt323.2 t327 bt332.1 bt332.2 true a1_0 a1_1))))))))))
theorem laws_FnExactFirstPacked.mono_l : ∀ k, (∀ y0 y1 y2 y3 y4 y5 y6 y7 y8, LeO (laws_FnExactFirstPacked.j0 k y0 y1 y2 y3 y4 y5 y6 y7 y8) (laws_FnExactFirstPacked.j0 (k + 1) y0 y1 y2 y3 y4 y5 y6 y7 y8)) ∧ (∀ y0 y1 y2 y3 y4 y5 y6, LeO (laws_FnExactFirstPacked.j1 k y0 y1 y2 y3 y4 y5 y6) (laws_FnExactFirstPacked.j1 (k + 1) y0 y1 y2 y3 y4 y5 y6)) ∧ (∀ y0 y1 y2, LeO (laws_FnExactFirstPacked.j2 k y0 y1 y2) (laws_FnExactFirstPacked.j2 (k + 1) y0 y1 y2))
  | 0 => ⟨fun _ _ _ _ _ _ _ _ _ r h => by simp [laws_FnExactFirstPacked.j0] at h, fun _ _ _ _ _ _ _ r h => by simp [laws_FnExactFirstPacked.j1] at h, fun _ _ _ r h => by simp [laws_FnExactFirstPacked.j2] at h⟩
  | k + 1 => by
    obtain ⟨ih0, ih1, ih2⟩ := laws_FnExactFirstPacked.mono_l k
    refine ⟨?_, ?_, ?_⟩
    · intro y0 y1 y2 y3 y4 y5 y6 y7 y8
      unfold laws_FnExactFirstPacked.j0
      repeat' first
      | (with_reducible exact ih0 _ _ _ _ _ _ _ _ _)
      | (with_reducible exact ih1 _ _ _ _ _ _ _)
      | (with_reducible exact ih2 _ _ _)
      | (with_reducible exact laws_eqIntS.mono _ _ _)
      | (with_reducible exact laws_eqItemS.mono _ _ _)
      | (with_reducible exact laws_heldIntS.mono _ _ _)
      | (with_reducible exact laws_markIntS.mono _ _ _)
      | (with_reducible exact laws_markItemS.mono _ _ _)
      | (with_reducible exact laws_toItemS.mono _ _)
      | (with_reducible exact spec_FirstPacked.mono _ _ _ _)
      | (with_reducible exact LeO.refl _)
      | (with_reducible exact LeO.none _)
      | (with_reducible refine LeO.ite ?_ ?_)
      | (with_reducible refine LeO.bind ?_ (fun _ => ?_))
      | exact ih0 _ _ _ _ _ _ _ _ _
      | exact ih1 _ _ _ _ _ _ _
      | exact ih2 _ _ _
      | exact laws_eqIntS.mono _ _ _
      | exact laws_eqItemS.mono _ _ _
      | exact laws_heldIntS.mono _ _ _
      | exact laws_markIntS.mono _ _ _
      | exact laws_markItemS.mono _ _ _
      | exact laws_toItemS.mono _ _
      | exact spec_FirstPacked.mono _ _ _ _
      | exact LeO.none _
      | refine LeO.ite ?_ ?_
      | refine LeO.bind ?_ (fun _ => ?_)
    · intro y0 y1 y2 y3 y4 y5 y6
      unfold laws_FnExactFirstPacked.j1
      repeat' first
      | (with_reducible exact ih0 _ _ _ _ _ _ _ _ _)
      | (with_reducible exact ih1 _ _ _ _ _ _ _)
      | (with_reducible exact ih2 _ _ _)
      | (with_reducible exact laws_eqIntS.mono _ _ _)
      | (with_reducible exact laws_eqItemS.mono _ _ _)
      | (with_reducible exact laws_heldIntS.mono _ _ _)
      | (with_reducible exact laws_markIntS.mono _ _ _)
      | (with_reducible exact laws_markItemS.mono _ _ _)
      | (with_reducible exact laws_toItemS.mono _ _)
      | (with_reducible exact spec_FirstPacked.mono _ _ _ _)
      | (with_reducible exact LeO.refl _)
      | (with_reducible exact LeO.none _)
      | (with_reducible refine LeO.ite ?_ ?_)
      | (with_reducible refine LeO.bind ?_ (fun _ => ?_))
      | exact ih0 _ _ _ _ _ _ _ _ _
      | exact ih1 _ _ _ _ _ _ _
      | exact ih2 _ _ _
      | exact laws_eqIntS.mono _ _ _
      | exact laws_eqItemS.mono _ _ _
      | exact laws_heldIntS.mono _ _ _
      | exact laws_markIntS.mono _ _ _
      | exact laws_markItemS.mono _ _ _
      | exact laws_toItemS.mono _ _
      | exact spec_FirstPacked.mono _ _ _ _
      | exact LeO.none _
      | refine LeO.ite ?_ ?_
      | refine LeO.bind ?_ (fun _ => ?_)
    · intro y0 y1 y2
      unfold laws_FnExactFirstPacked.j2
      repeat' first
      | (with_reducible exact ih0 _ _ _ _ _ _ _ _ _)
      | (with_reducible exact ih1 _ _ _ _ _ _ _)
      | (with_reducible exact ih2 _ _ _)
      | (with_reducible exact laws_eqIntS.mono _ _ _)
      | (with_reducible exact laws_eqItemS.mono _ _ _)
      | (with_reducible exact laws_heldIntS.mono _ _ _)
      | (with_reducible exact laws_markIntS.mono _ _ _)
      | (with_reducible exact laws_markItemS.mono _ _ _)
      | (with_reducible exact laws_toItemS.mono _ _)
      | (with_reducible exact spec_FirstPacked.mono _ _ _ _)
      | (with_reducible exact LeO.refl _)
      | (with_reducible exact LeO.none _)
      | (with_reducible refine LeO.ite ?_ ?_)
      | (with_reducible refine LeO.bind ?_ (fun _ => ?_))
      | exact ih0 _ _ _ _ _ _ _ _ _
      | exact ih1 _ _ _ _ _ _ _
      | exact ih2 _ _ _
      | exact laws_eqIntS.mono _ _ _
      | exact laws_eqItemS.mono _ _ _
      | exact laws_heldIntS.mono _ _ _
      | exact laws_markIntS.mono _ _ _
      | exact laws_markItemS.mono _ _ _
      | exact laws_toItemS.mono _ _
      | exact spec_FirstPacked.mono _ _ _ _
      | exact LeO.none _
      | refine LeO.ite ?_ ?_
      | refine LeO.bind ?_ (fun _ => ?_)
theorem laws_FnExactFirstPacked.mono : ∀ a0 a1 a2 k, LeO (laws_FnExactFirstPacked.f k a0 a1 a2) (laws_FnExactFirstPacked.f (k + 1) a0 a1 a2) := by
  intro a0 a1 a2 k
  obtain ⟨ih0, ih1, ih2⟩ := laws_FnExactFirstPacked.mono_l k
  unfold laws_FnExactFirstPacked.f
  repeat' first
      | (with_reducible exact ih0 _ _ _ _ _ _ _ _ _)
      | (with_reducible exact ih1 _ _ _ _ _ _ _)
      | (with_reducible exact ih2 _ _ _)
      | (with_reducible exact laws_eqIntS.mono _ _ _)
      | (with_reducible exact laws_eqItemS.mono _ _ _)
      | (with_reducible exact laws_heldIntS.mono _ _ _)
      | (with_reducible exact laws_markIntS.mono _ _ _)
      | (with_reducible exact laws_markItemS.mono _ _ _)
      | (with_reducible exact laws_toItemS.mono _ _)
      | (with_reducible exact spec_FirstPacked.mono _ _ _ _)
      | (with_reducible exact LeO.refl _)
      | (with_reducible exact LeO.none _)
      | (with_reducible refine LeO.ite ?_ ?_)
      | (with_reducible refine LeO.bind ?_ (fun _ => ?_))
      | exact ih0 _ _ _ _ _ _ _ _ _
      | exact ih1 _ _ _ _ _ _ _
      | exact ih2 _ _ _
      | exact laws_eqIntS.mono _ _ _
      | exact laws_eqItemS.mono _ _ _
      | exact laws_heldIntS.mono _ _ _
      | exact laws_markIntS.mono _ _ _
      | exact laws_markItemS.mono _ _ _
      | exact laws_toItemS.mono _ _
      | exact spec_FirstPacked.mono _ _ _ _
      | exact LeO.none _
      | refine LeO.ite ?_ ?_
      | refine LeO.bind ?_ (fun _ => ?_)
def laws_FnExactFirstPacked.T5 : Bool × List (List Nat × List Nat) := (true, [([], []), ([0], [0]), ([], []), ([2, 1], [2]), ([1, 3, 3], [1, 3]), ([4], [4]), ([5], [5]), ([5], [5]), ([6, 4, 0, 1, 2, 3, 4, 5, 6], [6]), ([7, 8, 0, 1, 2, 3, 4, 5, 6, 7, 8], [7])])
def laws_FnExactFirstPacked.B5 : List Nat := [0, 1, 0, 7, 15, 31, 63, 63, 127, 511]
theorem laws_FnExactFirstPacked.tab5 : rtab .any (opsOf Try.f6 5) = laws_FnExactFirstPacked.T5 := by kernel_rfl
theorem laws_FnExactFirstPacked.bits5 : waitsOk laws_FnExactFirstPacked.T5.2 laws_FnExactFirstPacked.B5 = true := by kernel_rfl
def laws_FnExactFirstPacked.T24 : Bool × List (List Nat × List Nat) := (true, [([], []), ([0], [0]), ([], []), ([2, 1], [2]), ([1, 3, 3], [1, 3]), ([4], [4]), ([5], [5]), ([5], [5]), ([6, 4, 0, 1, 2, 3, 4, 5, 6], [6]), ([7, 8, 0, 1, 2, 3, 4, 5, 6, 7, 8], [7])])
def laws_FnExactFirstPacked.B24 : List Nat := [0, 1, 0, 7, 15, 31, 63, 63, 127, 511]
theorem laws_FnExactFirstPacked.tab24 : rtab .any (opsOf Try.f6 24) = laws_FnExactFirstPacked.T24 := by kernel_rfl
theorem laws_FnExactFirstPacked.bits24 : waitsOk laws_FnExactFirstPacked.T24.2 laws_FnExactFirstPacked.B24 = true := by kernel_rfl
set_option maxHeartbeats 8000000 in
set_option maxRecDepth 100000 in
theorem laws_FnExactFirstPacked.calls (k : Nat) (A0 : Option Addr) (c0 : Nat) (l0 : List (S51)) (a1_0 : Int) (a1_1 : Int) (r : Bool) (w : World) (hr0 : Kd.C k51 w A0 l0.length l0) (hc0 : l0.length ≤ c0) (h : laws_FnExactFirstPacked.f k l0 a1_0 a1_1 = some r) :
    Calls Try.prog 6 #[.slice A0 l0.length c0, .agg #[.int .i64 a1_0, .int .i64 a1_1]] w fun e w' => e = .returned (.bool r) ∧ Below w.heap.size w w' := by
  have hu24 := Try.underlying24
  have HR0 := Aside0.mk hr0
  have HC0 := Aside0.mk hc0
  clear hr0 hc0
  have HB := Aside0.mk (Below.refl w.heap.size w)
  have H : ((laws_szItemS.f l0 1048576).bind fun t317 => (if t317 < 0 then (some true) else ((laws_toItemS.f k l0).bind fun t318 => ((laws_toCase.f a1_0 a1_1).bind fun bt321 => ((spec_FirstPacked.f k t318 bt321.1 bt321.2).bind fun bt323 => ((laws_toItemS.f k l0).bind fun t327 => ((laws_toCase.f a1_0 a1_1).bind fun bt330 => ((impl_FirstPacked.f t327 bt330.1 bt330.2).bind fun bt332 => ((laws_eqIntS.f k bt332.1 bt323.1).bind fun t336 => (if t336 = true then (laws_FnExactFirstPacked.j0 k l0 bt323.1 bt323.2 t327 bt332.1 bt332.2 (bt332.2 != bt323.2) a1_0 a1_1) else (laws_FnExactFirstPacked.j0 k l0 bt323.1 bt323.2 t327 bt332.1 bt332.2 true a1_0 a1_1))))))))))) = some r := h
  clear h
  replace H := Option.bind_eq_some_iff.mp H
  obtain ⟨t317, A30, H⟩ := H
  replace H : (if t317 < 0 then (some true) else ((laws_toItemS.f k l0).bind fun t318 => ((laws_toCase.f a1_0 a1_1).bind fun bt321 => ((spec_FirstPacked.f k t318 bt321.1 bt321.2).bind fun bt323 => ((laws_toItemS.f k l0).bind fun t327 => ((laws_toCase.f a1_0 a1_1).bind fun bt330 => ((impl_FirstPacked.f t327 bt330.1 bt330.2).bind fun bt332 => ((laws_eqIntS.f k bt332.1 bt323.1).bind fun t336 => (if t336 = true then (laws_FnExactFirstPacked.j0 k l0 bt323.1 bt323.2 t327 bt332.1 bt332.2 (bt332.2 != bt323.2) a1_0 a1_1) else (laws_FnExactFirstPacked.j0 k l0 bt323.1 bt323.2 t327 bt332.1 bt332.2 true a1_0 a1_1)))))))))) = some r := H
  have A3 := Aside0.mk A30
  clear A30
  by_cases c4 : t317 < 0
  · rw [if_pos c4] at H
    have c4b0 : decide (t317 < 0) = true := decide_eq_true c4
    clear c4
    obtain rfl := Option.some.inj H
    go_enter Try.func6, Try.ntmps6
    go_wp2_with (first | ((with_reducible refine gate_dst (N := 3) rfl ?_); refine box_event ?hg (N := 3) ?hd (cs := #[.int .i64 a1_0, .int .i64 a1_1]) (t := 24) ?hr ?_; (case hd => rfl); (case hg => rfl); (case hr => first | (go_simp; done) | (go_simp; rfl)); intro gb316 hg w5 hbox hb; have n0_ := Aside0.mk (below_step (by repeat (first | (with_reducible first | exact HB.out | apply below_alloc | apply pw_below_drewN | apply below_drew1) | exact HB.out)) hb); have n1_ := Aside0.mk (hbox); have n2_ := Aside0.mk ((by rw [hg]; exact (below_size (by repeat (first | (with_reducible first | exact HB.out | apply below_alloc | apply pw_below_drewN | apply below_drew1) | exact HB.out))) : w.heap.size ≤ gb316)); have n3_ := Aside0.mk ((by rw [hg]; exact (below_size (by repeat (first | (with_reducible first | exact HB.out | apply below_alloc | apply pw_below_drewN | apply below_drew1) | exact HB.out))) : w.heap.size ≤ gb316)); clear HB; have HB := n0_; have BK316 := n1_; have GW316 := n2_; have GE316 := n3_; clear n0_ n1_ n2_ n3_; clear hb hbox hg) | ((with_reducible refine gate_callee (f := 11) rfl ?_); refine goesL_ (some 18) rfl rfl Try.func11 (by kernel_rfl) rfl #[.slice A0 l0.length c0, .int .i64 1048576] rfl (by (try simp only [List.map_toArray, List.map_cons, List.map_nil]); first | done | rfl | (simp only [List.length_drop, List.length_take]; rfl)) ?_; (with_reducible refine (laws_szItemS.calls _ _ l0 1048576 t317 _ ?side1 ?side2 A3.out).mono ?_); (case side1 => repeat (first | exact (Kd.C_below HR0.out HB.out) | (with_reducible refine Kd.C_alloc ?_ _) | (with_reducible refine Kd.C_drewN ?_ _) | (with_reducible refine Kd.C_drew ?_))); (case side2 => exact HC0.out); rintro e w' ⟨rfl, ⟨nd, rfl⟩⟩; refine ⟨_, rfl, ?_⟩))
    go_ret
    exact ⟨by first | rfl | (simp [errW_none, errW_some] <;> rfl) | (simp [*, errW_none, errW_some] <;> rfl), by repeat (first | (with_reducible first | exact HB.out | apply below_alloc | apply pw_below_drewN | apply below_drew1 | refine below_set ?_ GE316.out) | exact HB.out)⟩
  · rw [if_neg c4] at H
    have c4b0 : decide (t317 < 0) = false := decide_eq_false c4
    clear c4
    replace H := Option.bind_eq_some_iff.mp H
    obtain ⟨t318, A60, H⟩ := H
    replace H : ((laws_toCase.f a1_0 a1_1).bind fun bt321 => ((spec_FirstPacked.f k t318 bt321.1 bt321.2).bind fun bt323 => ((laws_toItemS.f k l0).bind fun t327 => ((laws_toCase.f a1_0 a1_1).bind fun bt330 => ((impl_FirstPacked.f t327 bt330.1 bt330.2).bind fun bt332 => ((laws_eqIntS.f k bt332.1 bt323.1).bind fun t336 => (if t336 = true then (laws_FnExactFirstPacked.j0 k l0 bt323.1 bt323.2 t327 bt332.1 bt332.2 (bt332.2 != bt323.2) a1_0 a1_1) else (laws_FnExactFirstPacked.j0 k l0 bt323.1 bt323.2 t327 bt332.1 bt332.2 true a1_0 a1_1)))))))) = some r := H
    have A6 := Aside0.mk A60
    clear A60
    replace H := Option.bind_eq_some_iff.mp H
    obtain ⟨⟨t321, t322⟩, A70, H⟩ := H
    replace H : ((spec_FirstPacked.f k t318 t321 t322).bind fun bt323 => ((laws_toItemS.f k l0).bind fun t327 => ((laws_toCase.f a1_0 a1_1).bind fun bt330 => ((impl_FirstPacked.f t327 bt330.1 bt330.2).bind fun bt332 => ((laws_eqIntS.f k bt332.1 bt323.1).bind fun t336 => (if t336 = true then (laws_FnExactFirstPacked.j0 k l0 bt323.1 bt323.2 t327 bt332.1 bt332.2 (bt332.2 != bt323.2) a1_0 a1_1) else (laws_FnExactFirstPacked.j0 k l0 bt323.1 bt323.2 t327 bt332.1 bt332.2 true a1_0 a1_1))))))) = some r := H
    have A7 := Aside0.mk A70
    clear A70
    replace H := Option.bind_eq_some_iff.mp H
    obtain ⟨⟨t323, t326⟩, A80, H⟩ := H
    replace H : ((laws_toItemS.f k l0).bind fun t327 => ((laws_toCase.f a1_0 a1_1).bind fun bt330 => ((impl_FirstPacked.f t327 bt330.1 bt330.2).bind fun bt332 => ((laws_eqIntS.f k bt332.1 t323).bind fun t336 => (if t336 = true then (laws_FnExactFirstPacked.j0 k l0 t323 t326 t327 bt332.1 bt332.2 (bt332.2 != t326) a1_0 a1_1) else (laws_FnExactFirstPacked.j0 k l0 t323 t326 t327 bt332.1 bt332.2 true a1_0 a1_1)))))) = some r := H
    have A8 := Aside0.mk A80
    clear A80
    replace H := Option.bind_eq_some_iff.mp H
    obtain ⟨t327, A90, H⟩ := H
    replace H : ((laws_toCase.f a1_0 a1_1).bind fun bt330 => ((impl_FirstPacked.f t327 bt330.1 bt330.2).bind fun bt332 => ((laws_eqIntS.f k bt332.1 t323).bind fun t336 => (if t336 = true then (laws_FnExactFirstPacked.j0 k l0 t323 t326 t327 bt332.1 bt332.2 (bt332.2 != t326) a1_0 a1_1) else (laws_FnExactFirstPacked.j0 k l0 t323 t326 t327 bt332.1 bt332.2 true a1_0 a1_1))))) = some r := H
    have A9 := Aside0.mk A90
    clear A90
    replace H := Option.bind_eq_some_iff.mp H
    obtain ⟨⟨t330, t331⟩, A100, H⟩ := H
    replace H : ((impl_FirstPacked.f t327 t330 t331).bind fun bt332 => ((laws_eqIntS.f k bt332.1 t323).bind fun t336 => (if t336 = true then (laws_FnExactFirstPacked.j0 k l0 t323 t326 t327 bt332.1 bt332.2 (bt332.2 != t326) a1_0 a1_1) else (laws_FnExactFirstPacked.j0 k l0 t323 t326 t327 bt332.1 bt332.2 true a1_0 a1_1)))) = some r := H
    have A10 := Aside0.mk A100
    clear A100
    replace H := Option.bind_eq_some_iff.mp H
    obtain ⟨⟨t332, t335⟩, A110, H⟩ := H
    replace H : ((laws_eqIntS.f k t332 t323).bind fun t336 => (if t336 = true then (laws_FnExactFirstPacked.j0 k l0 t323 t326 t327 t332 t335 (t335 != t326) a1_0 a1_1) else (laws_FnExactFirstPacked.j0 k l0 t323 t326 t327 t332 t335 true a1_0 a1_1))) = some r := H
    have A11 := Aside0.mk A110
    clear A110
    have HC12 := Aside0.mk H
    clear H
    go_enter Try.func6, Try.ntmps6
    try go_wp2_with (first | ((with_reducible refine gate_dst (N := 3) rfl ?_); refine box_event ?hg (N := 3) ?hd (cs := #[.int .i64 a1_0, .int .i64 a1_1]) (t := 24) ?hr ?_; (case hd => rfl); (case hg => rfl); (case hr => first | (go_simp; done) | (go_simp; rfl)); intro gb316 hg w13 hbox hb; have n0_ := Aside0.mk (below_step (by repeat (first | (with_reducible first | exact HB.out | apply below_alloc | apply pw_below_drewN | apply below_drew1) | exact HB.out)) hb); have n1_ := Aside0.mk (hbox); have n2_ := Aside0.mk ((by rw [hg]; exact (below_size (by repeat (first | (with_reducible first | exact HB.out | apply below_alloc | apply pw_below_drewN | apply below_drew1) | exact HB.out))) : w.heap.size ≤ gb316)); have n3_ := Aside0.mk ((by rw [hg]; exact (below_size (by repeat (first | (with_reducible first | exact HB.out | apply below_alloc | apply pw_below_drewN | apply below_drew1) | exact HB.out))) : w.heap.size ≤ gb316)); clear HB; have HB := n0_; have BK316 := n1_; have GW316 := n2_; have GE316 := n3_; clear n0_ n1_ n2_ n3_; clear hb hbox hg) | ((with_reducible refine gate_callee (f := 11) rfl ?_); refine goesL_ (some 18) rfl rfl Try.func11 (by kernel_rfl) rfl #[.slice A0 l0.length c0, .int .i64 1048576] rfl (by (try simp only [List.map_toArray, List.map_cons, List.map_nil]); first | done | rfl | (simp only [List.length_drop, List.length_take]; rfl)) ?_; (with_reducible refine (laws_szItemS.calls _ _ l0 1048576 t317 _ ?side1 ?side2 A3.out).mono ?_); (case side1 => repeat (first | exact (Kd.C_below HR0.out HB.out) | (with_reducible refine Kd.C_alloc ?_ _) | (with_reducible refine Kd.C_drewN ?_ _) | (with_reducible refine Kd.C_drew ?_))); (case side2 => exact HC0.out); rintro e w' ⟨rfl, ⟨nd, rfl⟩⟩; refine ⟨_, rfl, ?_⟩))
    (try (rw [drewN_self w13]; generalize hq_ : World.drewN w13 _ = w13; have n0_ : Aside0 (w13.heap[gb316]? = some (.cells #[.int .i64 a1_0, .int .i64 a1_1] 24 (0, 0))) := ⟨by rw [← hq_]; exact (by (with_reducible repeat (first | refine blk_drewN ?_ _ | refine blk_drew ?_ | refine blk_alloc ?_ _)); exact BK316.out)⟩; have n1_ : Aside0 (Below w.heap.size w w13) := ⟨by rw [← hq_]; exact (by repeat (first | (with_reducible first | exact HB.out | apply below_alloc | apply pw_below_drewN | apply below_drew1 | refine below_set ?_ GE316.out) | exact HB.out))⟩; clear BK316 HB hq_; have BK316 := n0_; have HB := n1_; clear n0_ n1_))
    have n0_ := Aside0.mk (blk_drew BK316.out)
    have n1_ := Aside0.mk (below_drew1 HB.out)
    clear BK316
    clear HB
    have BK316 := n0_
    have HB := n1_
    clear n0_ n1_
    refine start_ (n := 10) (S := fun w' => w'.cell? ⟨gb316, 0, none⟩ = some (.int .i64 a1_0) ∧ w'.cell? ⟨gb316, 1, none⟩ = some (.int .i64 a1_1)) (ds := []) #[false, false, false, false, false, false, false, false, false, false] (by kernel_rfl) rfl rfl ⟨(blk_cell BK316.out 0).trans rfl, (blk_cell BK316.out 1).trans rfl⟩ (fun hHeld => ?_); refine with_tabW laws_FnExactFirstPacked.tab5 laws_FnExactFirstPacked.bits5 (fun HT_ HW_ => ?_)
    generalize w13.drew = w14 at BK316 HB hHeld ⊢
    refine pure_ (i := 0) (N := some 22) (v := ?_) (a' := ?_) #[true, false, false, false, false, false, false, false, false, false] rfl rfl (any_of HT_.out (by kernel_rfl)) (fun _ _ _ h => h) (Or.inl ⟨by rfl, ?_⟩) ?_ ?_
    rotate_left
    · intro w'
      go_simp
      with_reducible rfl
    rotate_left
    · simp only [Act.put, List.setIfInBounds_toArray, List.set_cons_zero, List.set_cons_succ, i64_w, i32_w]
      rfl
    refine take_ (i := 2) (N := some 24) (v := ?_) (a' := ?_) #[true, false, true, false, false, false, false, false, false, false] rfl rfl (take_ofW HT_.out HW_.out (by kernel_rfl)) (fun _ _ _ h => h) (Or.inl ⟨by rfl, ?_⟩) hHeld ?_ ?_
    rotate_left
    · rintro w' ⟨s0, s1⟩
      go_simp
      with_reducible rfl
    rotate_left
    · simp only [Act.put, List.setIfInBounds_toArray, List.set_cons_zero, List.set_cons_succ, i64_w, i32_w]
      rfl
    refine one_ (i := 1) (N := some 23) #[true, true, true, false, false, false, false, false, false, false] rfl rfl (one_of HT_.out (by kernel_rfl)) (by decide) (fun K hK => ?_)
    refine goes_ Try.func13 (by kernel_rfl) rfl #[.slice A0 l0.length c0] (by rfl) rfl rfl (by (try simp only [List.map_toArray, List.map_cons, List.map_nil]); first | done | rfl | (simp only [List.length_drop, List.length_take]; rfl)) ?_
    with_reducible refine (laws_toItemS.calls k _ _ l0 t318 _ ?side1 ?side2 A6.out).mono ?_
    (case side1 => repeat (first | exact (Kd.C_below HR0.out HB.out) | (with_reducible refine Kd.C_alloc ?_ _) | (with_reducible refine Kd.C_drewN ?_ _) | (with_reducible refine Kd.C_drew ?_)))
    (case side2 => exact HC0.out)
    rintro e w15 ⟨v319, rfl, ho0, hb⟩
    refine ⟨_, rfl, ?_⟩
    have n0_ := Aside0.mk (Kd.R_lower ho0 (below_size (by repeat (first | (with_reducible first | exact HB.out | apply below_alloc | apply pw_below_drewN | apply below_drew1 | refine below_set ?_ GE316.out) | exact HB.out))))
    have n1_ := Aside0.mk (blk_below (g := gb316) (o := .cells #[.int .i64 a1_0, .int .i64 a1_1] 24 (0, 0)) (by (with_reducible repeat (first | refine blk_drewN ?_ _ | refine blk_drew ?_ | refine blk_alloc ?_ _)); exact BK316.out) hb)
    have n2_ := Aside0.mk (below_step (by repeat (first | (with_reducible first | exact HB.out | apply below_alloc | apply pw_below_drewN | apply below_drew1 | refine below_set ?_ GE316.out) | exact HB.out)) hb)
    clear BK316
    clear HB
    have HO320 := n0_
    have BK316 := n1_
    have HB := n2_
    clear n0_ n1_ n2_
    (try clear hb)
    (try clear hb2)
    (try clear hk)
    (try clear hi)
    (try clear ho0)
    refine hK.out _ _ ⟨(blk_cell BK316.out 0).trans rfl, (blk_cell BK316.out 1).trans rfl⟩ (fun hHeld => ?_)
    clear hK K
    refine norm_ (a' := ?_) ?_ ?_
    rotate_left
    · show Act.put _ (some 23) _ = _
      simp only [Act.put, List.setIfInBounds_toArray, List.set_cons_zero, List.set_cons_succ, i64_w, i32_w]
      rfl
    refine one_ (i := 3) (N := some 25) #[true, true, true, true, false, false, false, false, false, false] rfl rfl (one_of HT_.out (by kernel_rfl)) (by decide) (fun K hK => ?_)
    refine goes_ Try.func14 (by kernel_rfl) rfl #[.agg #[.int .i64 a1_0, .int .i64 a1_1]] (by rfl) rfl rfl (by (try simp only [List.map_toArray, List.map_cons, List.map_nil]); first | done | rfl | (simp only [List.length_drop, List.length_take]; rfl)) ?_
    with_reducible refine (laws_toCase.calls a1_0 a1_1 t321 t322 _ A7.out).mono ?_
    rintro e w16 ⟨rfl, hb⟩
    refine ⟨_, rfl, ?_⟩
    have n0_ := Aside0.mk (Kd.R_below (by (with_reducible repeat (first | apply Kd.R_alloc | apply Kd.R_drewN | apply Kd.R_drew)); exact HO320.out) hb)
    have n1_ := Aside0.mk (blk_below (g := gb316) (o := .cells #[.int .i64 a1_0, .int .i64 a1_1] 24 (0, 0)) (by (with_reducible repeat (first | refine blk_drewN ?_ _ | refine blk_drew ?_ | refine blk_alloc ?_ _)); exact BK316.out) hb)
    have n2_ := Aside0.mk (below_step (by repeat (first | (with_reducible first | exact HB.out | apply below_alloc | apply pw_below_drewN | apply below_drew1 | refine below_set ?_ GE316.out) | exact HB.out)) hb)
    clear HO320
    clear BK316
    clear HB
    have HO320 := n0_
    have BK316 := n1_
    have HB := n2_
    clear n0_ n1_ n2_
    (try clear hb)
    (try clear hb2)
    (try clear hk)
    (try clear hi)
    obtain ⟨Ao17, co17, eo17⟩ := Kd.R_slice HO320.out
    (first | subst eo17 | (injection eo17 with f1_ f2_ f3_; have f4_ := f1_.symm; have f5_ := f3_.symm; clear f1_ f2_ f3_; subst f4_; subst f5_))
    refine hK.out _ _ ⟨(blk_cell BK316.out 0).trans rfl, (blk_cell BK316.out 1).trans rfl⟩ (fun hHeld => ?_)
    clear hK K
    refine norm_ (a' := ?_) ?_ ?_
    rotate_left
    · show Act.put _ (some 25) _ = _
      simp only [Act.put, List.setIfInBounds_toArray, List.set_cons_zero, List.set_cons_succ, i64_w, i32_w]
      rfl
    refine one_ (i := 4) (N := some 26) #[true, true, true, true, true, false, false, false, false, false] rfl rfl (one_of HT_.out (by kernel_rfl)) (by decide) (fun K hK => ?_)
    refine goes_ Try.func25 (by kernel_rfl) rfl #[.slice Ao17 t318.length co17, .agg #[.int .i64 t321, .int .i64 t322]] (by rfl) rfl rfl (by (try simp only [List.map_toArray, List.map_cons, List.map_nil]); first | done | rfl | (simp only [List.length_drop, List.length_take]; rfl)) ?_
    with_reducible refine (spec_FirstPacked.calls k _ _ t318 t321 t322 t323 t326 _ ?side1 ?side2 A8.out).mono ?_
    (case side1 => repeat (first | exact (Kd.R_reads' HO320.out).2.2 | (with_reducible refine Kd.C_alloc ?_ _) | (with_reducible refine Kd.C_drewN ?_ _) | (with_reducible refine Kd.C_drew ?_)))
    (case side2 => exact (Kd.R_reads' HO320.out).2.1)
    rintro e w18 ⟨v324, rfl, ho0, hb⟩
    refine ⟨_, rfl, ?_⟩
    have n0_ := Aside0.mk (Kd.R_below (by (with_reducible repeat (first | apply Kd.R_alloc | apply Kd.R_drewN | apply Kd.R_drew)); exact HO320.out) hb)
    have n1_ := Aside0.mk (Kd.V_lower (Kd.V_mono (ok' := fun k_ => some k_ ≠ (.slice Ao17 t318.length co17 : Value).ownBlock ∧ k_ ≠ gb316) ho0 (fun k_ hk_ => ⟨(Kd.fresh' (Kd.R_lt (by (with_reducible repeat (first | apply Kd.R_alloc | apply Kd.R_drewN | apply Kd.R_drew)); exact HO320.out)) k_ hk_), (Kd.freshB (g := gb316) (o := .cells #[.int .i64 a1_0, .int .i64 a1_1] 24 (0, 0)) (by (with_reducible repeat (first | refine blk_drewN ?_ _ | refine blk_drew ?_ | refine blk_alloc ?_ _)); exact BK316.out) k_ hk_)⟩)) (below_size (by repeat (first | (with_reducible first | exact HB.out | apply below_alloc | apply pw_below_drewN | apply below_drew1 | refine below_set ?_ GE316.out) | exact HB.out))))
    have n2_ := Aside0.mk (blk_below (g := gb316) (o := .cells #[.int .i64 a1_0, .int .i64 a1_1] 24 (0, 0)) (by (with_reducible repeat (first | refine blk_drewN ?_ _ | refine blk_drew ?_ | refine blk_alloc ?_ _)); exact BK316.out) hb)
    have n3_ := Aside0.mk (below_step (by repeat (first | (with_reducible first | exact HB.out | apply below_alloc | apply pw_below_drewN | apply below_drew1 | refine below_set ?_ GE316.out) | exact HB.out)) hb)
    clear HO320
    clear BK316
    clear HB
    have HO320 := n0_
    have HO325 := n1_
    have BK316 := n2_
    have HB := n3_
    clear n0_ n1_ n2_ n3_
    (try clear hb)
    (try clear hb2)
    (try clear hk)
    (try clear hi)
    (try clear ho0)
    refine hK.out _ _ ⟨(blk_cell BK316.out 0).trans rfl, (blk_cell BK316.out 1).trans rfl⟩ (fun hHeld => ?_)
    clear hK K
    refine norm_ (a' := ?_) ?_ ?_
    rotate_left
    · show Act.put _ (some 26) _ = _
      simp only [Act.put, List.setIfInBounds_toArray, List.set_cons_zero, List.set_cons_succ, i64_w, i32_w]
      rfl
    refine pure_ (i := 5) (N := some 21) (v := ?_) (a' := ?_) #[true, true, true, true, true, true, false, false, false, false] rfl rfl (any_of HT_.out (by kernel_rfl)) (fun _ _ _ h => h) (Or.inl ⟨by rfl, ?_⟩) ?_ ?_
    rotate_left
    · intro w'
      go_simp
      with_reducible rfl
    rotate_left
    · simp only [Act.put, List.setIfInBounds_toArray, List.set_cons_zero, List.set_cons_succ, i64_w, i32_w]
      rfl
    refine pure_ (i := 6) (N := some 27) (v := ?_) (a' := ?_) #[true, true, true, true, true, true, true, false, false, false] rfl rfl (any_of HT_.out (by kernel_rfl)) (fun _ _ _ h => h) (Or.inl ⟨by rfl, ?_⟩) ?_ ?_
    rotate_left
    · intro w'
      go_simp
      with_reducible rfl
    rotate_left
    · simp only [Act.put, List.setIfInBounds_toArray, List.set_cons_zero, List.set_cons_succ, i64_w, i32_w]
      rfl
    refine pure_ (i := 7) (N := some 28) (v := ?_) (a' := ?_) #[true, true, true, true, true, true, true, true, false, false] rfl rfl (any_of HT_.out (by kernel_rfl)) (fun _ _ _ h => h) (Or.inl ⟨by rfl, ?_⟩) ?_ ?_
    rotate_left
    · intro w'
      go_simp
      with_reducible rfl
    rotate_left
    · simp only [Act.put, List.setIfInBounds_toArray, List.set_cons_zero, List.set_cons_succ, i64_w, i32_w]
      rfl
    refine pure_ (i := 8) (N := some 6) (v := ?_) (a' := ?_) #[true, true, true, true, true, true, true, true, true, false] rfl rfl (any_of HT_.out (by kernel_rfl)) (fun _ _ _ h => h) (Or.inl ⟨by rfl, ?_⟩) ?_ ?_
    rotate_left
    · intro w'
      go_simp
      with_reducible rfl
    rotate_left
    · simp only [Act.put, List.setIfInBounds_toArray, List.set_cons_zero, List.set_cons_succ, i64_w, i32_w]
      rfl
    refine pure_ (i := 9) (N := some 7) (v := ?_) (a' := ?_) #[true, true, true, true, true, true, true, true, true, true] rfl rfl (any_of HT_.out (by kernel_rfl)) (fun _ _ _ h => h) (Or.inl ⟨by rfl, ?_⟩) ?_ ?_
    rotate_left
    · intro w'
      go_simp
      with_reducible rfl
    rotate_left
    · simp only [Act.put, List.setIfInBounds_toArray, List.set_cons_zero, List.set_cons_succ, i64_w, i32_w]
      rfl
    refine done_ (done_of HT_.out (by kernel_rfl)) ?_
    go_upto_region 8 with (first | ((with_reducible refine gate_callee (f := 13) rfl ?_); refine goesL_ (some 30) rfl rfl Try.func13 (by kernel_rfl) rfl #[.slice A0 l0.length c0] rfl (by (try simp only [List.map_toArray, List.map_cons, List.map_nil]); first | done | rfl | (simp only [List.length_drop, List.length_take]; rfl)) ?_; (with_reducible refine (laws_toItemS.calls k _ _ l0 t327 _ ?side1 ?side2 A9.out).mono ?_); (case side1 => repeat (first | exact (Kd.C_below HR0.out HB.out) | (with_reducible refine Kd.C_alloc ?_ _) | (with_reducible refine Kd.C_drewN ?_ _) | (with_reducible refine Kd.C_drew ?_))); (case side2 => exact HC0.out); rintro e w19 ⟨v328, rfl, ho0, hb⟩; refine ⟨_, rfl, ?_⟩; have n0_ := Aside0.mk (Kd.R_elder' (by (with_reducible repeat (first | apply Kd.R_alloc | apply Kd.R_drewN | apply Kd.R_drew)); exact HO320.out) (Kd.R_base ho0) hb); have n1_ := Aside0.mk (Kd.V_elder' (by (with_reducible repeat (first | apply Kd.V_alloc | apply Kd.V_drewN | apply Kd.V_drew)); exact HO325.out) (Kd.R_base ho0) hb); have n2_ := Aside0.mk (Kd.R_lower (Kd.R_new' ho0 (Kd.R_lt (by (with_reducible repeat (first | apply Kd.R_alloc | apply Kd.R_drewN | apply Kd.R_drew)); exact HO320.out))) (below_size (by repeat (first | (with_reducible first | exact HB.out | apply below_alloc | apply pw_below_drewN | apply below_drew1 | refine below_set ?_ GE316.out) | exact HB.out)))); have n3_ := Aside0.mk (blk_below (g := gb316) (o := .cells #[.int .i64 a1_0, .int .i64 a1_1] 24 (0, 0)) (by (with_reducible repeat (first | refine blk_drewN ?_ _ | refine blk_drew ?_ | refine blk_alloc ?_ _)); exact BK316.out) hb); have n4_ := Aside0.mk (below_step (by repeat (first | (with_reducible first | exact HB.out | apply below_alloc | apply pw_below_drewN | apply below_drew1 | refine below_set ?_ GE316.out) | exact HB.out)) hb); clear HO320; clear HO325; clear BK316; clear HB; have HO320 := n0_; have HO325 := n1_; have HO329 := n2_; have BK316 := n3_; have HB := n4_; clear n0_ n1_ n2_ n3_ n4_; (try clear hb); (try clear hb2); (try clear hk); (try clear hi); (try clear ho0); have hcz20_0 : w19.cell? ⟨gb316, 0, none⟩ = some (.int .i64 a1_0) := (blk_cell BK316.out 0).trans rfl; have hcz20_1 : w19.cell? ⟨gb316, 1, none⟩ = some (.int .i64 a1_1) := (blk_cell BK316.out 1).trans rfl; have hfz20_0 := blk_frozen BK316.out 0; have hfz20_1 := blk_frozen BK316.out 1) | ((with_reducible refine gate_callee (f := 14) rfl ?_); refine goesL_ (some 34) rfl rfl Try.func14 (by kernel_rfl) rfl #[.agg #[.int .i64 a1_0, .int .i64 a1_1]] rfl (by (try simp only [List.map_toArray, List.map_cons, List.map_nil]); first | done | rfl | (simp only [List.length_drop, List.length_take]; rfl)) ?_; (with_reducible refine (laws_toCase.calls a1_0 a1_1 t330 t331 _ A10.out).mono ?_); rintro e w21 ⟨rfl, hb⟩; refine ⟨_, rfl, ?_⟩; have n0_ := Aside0.mk (Kd.R_below (by (with_reducible repeat (first | apply Kd.R_alloc | apply Kd.R_drewN | apply Kd.R_drew)); exact HO320.out) hb); have n1_ := Aside0.mk (Kd.V_below (by (with_reducible repeat (first | apply Kd.V_alloc | apply Kd.V_drewN | apply Kd.V_drew)); exact HO325.out) hb); have n2_ := Aside0.mk (Kd.R_below (by (with_reducible repeat (first | apply Kd.R_alloc | apply Kd.R_drewN | apply Kd.R_drew)); exact HO329.out) hb); have n3_ := Aside0.mk (blk_below (g := gb316) (o := .cells #[.int .i64 a1_0, .int .i64 a1_1] 24 (0, 0)) (by (with_reducible repeat (first | refine blk_drewN ?_ _ | refine blk_drew ?_ | refine blk_alloc ?_ _)); exact BK316.out) hb); have n4_ := Aside0.mk (below_step (by repeat (first | (with_reducible first | exact HB.out | apply below_alloc | apply pw_below_drewN | apply below_drew1 | refine below_set ?_ GE316.out) | exact HB.out)) hb); clear HO320; clear HO325; clear HO329; clear BK316; clear HB; have HO320 := n0_; have HO325 := n1_; have HO329 := n2_; have BK316 := n3_; have HB := n4_; clear n0_ n1_ n2_ n3_ n4_; (try clear hb); (try clear hb2); (try clear hk); (try clear hi); obtain ⟨Ao22, co22, eo22⟩ := Kd.R_slice HO329.out; subst eo22) | ((with_reducible refine gate_callee (f := 26) rfl ?_); refine goesL_ (some 35) rfl rfl Try.func26 (by kernel_rfl) rfl #[.slice Ao22 t327.length co22, .agg #[.int .i64 t330, .int .i64 t331]] rfl (by (try simp only [List.map_toArray, List.map_cons, List.map_nil]); first | done | rfl | (simp only [List.length_drop, List.length_take]; rfl)) ?_; (with_reducible refine (impl_FirstPacked.calls _ _ t327 t330 t331 t332 t335 _ ?side1 ?side2 A11.out).mono ?_); (case side1 => repeat (first | exact (Kd.R_reads' HO329.out).2.2 | (with_reducible refine Kd.C_alloc ?_ _) | (with_reducible refine Kd.C_drewN ?_ _) | (with_reducible refine Kd.C_drew ?_))); (case side2 => exact (Kd.R_reads' HO329.out).2.1); rintro e w23 ⟨v333, rfl, ho0, hb⟩; refine ⟨_, rfl, ?_⟩; have n0_ := Aside0.mk (Kd.R_below (by (with_reducible repeat (first | apply Kd.R_alloc | apply Kd.R_drewN | apply Kd.R_drew)); exact HO320.out) hb); have n1_ := Aside0.mk (Kd.V_elder' (by (with_reducible repeat (first | apply Kd.V_alloc | apply Kd.V_drewN | apply Kd.V_drew)); exact HO325.out) (Kd.R_base ho0) hb); have n2_ := Aside0.mk (Kd.R_below (by (with_reducible repeat (first | apply Kd.R_alloc | apply Kd.R_drewN | apply Kd.R_drew)); exact HO329.out) hb); have n3_ := Aside0.mk (Kd.R_lower ho0 (below_size (by repeat (first | (with_reducible first | exact HB.out | apply below_alloc | apply pw_below_drewN | apply below_drew1 | refine below_set ?_ GE316.out) | exact HB.out)))); have n4_ := Aside0.mk (blk_below (g := gb316) (o := .cells #[.int .i64 a1_0, .int .i64 a1_1] 24 (0, 0)) (by (with_reducible repeat (first | refine blk_drewN ?_ _ | refine blk_drew ?_ | refine blk_alloc ?_ _)); exact BK316.out) hb); have n5_ := Aside0.mk (below_step (by repeat (first | (with_reducible first | exact HB.out | apply below_alloc | apply pw_below_drewN | apply below_drew1 | refine below_set ?_ GE316.out) | exact HB.out)) hb); clear HO320; clear HO325; clear HO329; clear BK316; clear HB; have HO320 := n0_; have HO325 := n1_; have HO329 := n2_; have HO334 := n3_; have BK316 := n4_; have HB := n5_; clear n0_ n1_ n2_ n3_ n4_ n5_; (try clear hb); (try clear hb2); (try clear hk); (try clear hi); (try clear ho0)))
    (try simp only [Act.put, List.setIfInBounds_toArray, List.set_cons_zero, List.set_cons_succ])
    go_cut [46] (fun v46 wc => ∃ (kq : Nat) (x46_11 : Bool), v46 = .bool x46_11 ∧ Aside0 (laws_FnExactFirstPacked.j0 kq l0 t323 t326 t327 t332 t335 x46_11 a1_0 a1_1 = some r) ∧ Aside0 (kq ≤ k) ∧ Aside0 (Kd.V (Kd.int .i64) 3 wc w.heap.size (fun k_ => some k_ ≠ ((.slice Ao22 t327.length co22) : Value).ownBlock ∧ some k_ ≠ (v333 : Value).ownBlock ∧ k_ ≠ gb316) v324 t323) ∧ Aside0 (Kd.R k49 49 wc w.heap.size (fun _ => True) (.slice Ao22 t327.length co22) t327) ∧ Aside0 (Kd.R (Kd.int .i64) 3 wc w.heap.size (fun _ => True) v333 t332) ∧ Aside0 (wc.heap[gb316]? = some (.cells #[.int .i64 a1_0, .int .i64 a1_1] 24 (0, 0))) ∧ Aside0 (Below w.heap.size w wc))
    case first =>
      have H := HC12.out
      clear HC12
      replace H := Option.bind_eq_some_iff.mp H
      obtain ⟨t336, A240, H⟩ := H
      replace H : (if t336 = true then (laws_FnExactFirstPacked.j0 k l0 t323 t326 t327 t332 t335 (t335 != t326) a1_0 a1_1) else (laws_FnExactFirstPacked.j0 k l0 t323 t326 t327 t332 t335 true a1_0 a1_1)) = some r := H
      have A24 := Aside0.mk A240
      clear A240
      by_cases c25 : t336 = true
      · subst c25
        have H1 : (laws_FnExactFirstPacked.j0 k l0 t323 t326 t327 t332 t335 (t335 != t326) a1_0 a1_1) = some r := by rw [if_pos rfl] at H; exact H
        clear H
        have H := H1
        clear H1
        have H' := Aside0.mk H
        clear H
        obtain ⟨Ao26, co26, eo26⟩ := Kd.R_slice HO334.out
        subst eo26
        obtain ⟨Ao27, co27, eo27⟩ := Kd.V_slice HO325.out
        subst eo27
        go_wp2_with (first | ((with_reducible refine gate_callee (f := 21) rfl ?_); refine goesL_ (some 40) rfl rfl Try.func21 (by kernel_rfl) rfl #[.slice Ao26 t332.length co26, .slice Ao27 t323.length co27] rfl (by (try simp only [List.map_toArray, List.map_cons, List.map_nil]); first | done | rfl | (simp only [List.length_drop, List.length_take]; rfl)) ?_; (with_reducible refine (laws_eqIntS.calls k _ _ t332 _ _ t323 true _ ?side1 ?side2 ?side3 ?side4 A24.out).mono ?_); (case side1 => repeat (first | exact (Kd.R_reads' HO334.out).2.2 | (with_reducible refine Kd.C_alloc ?_ _) | (with_reducible refine Kd.C_drewN ?_ _) | (with_reducible refine Kd.C_drew ?_))); (case side2 => exact (Kd.R_reads' HO334.out).2.1); (case side3 => repeat (first | exact (Kd.V_reads' HO325.out).2.2 | (with_reducible refine Kd.C_alloc ?_ _) | (with_reducible refine Kd.C_drewN ?_ _) | (with_reducible refine Kd.C_drew ?_))); (case side4 => exact (Kd.V_reads' HO325.out).2.1); rintro e w' ⟨rfl, ⟨nd, rfl⟩⟩; refine ⟨_, rfl, ?_⟩))
        go_meet
        case rel => exact ⟨_, ((t335 != t326)), (by first | rfl | (simp; done) | (simp [*]; done)), H', ⟨by first | omega | exact Nat.le_refl _⟩, ⟨by (with_reducible repeat (first | apply Kd.V_alloc | apply Kd.V_drewN | apply Kd.V_drew)); exact Kd.V_mono HO325.out (fun _ hk => ⟨hk.1.2, ⟨hk.2, hk.1.1.2⟩⟩)⟩, ⟨by (with_reducible repeat (first | apply Kd.R_alloc | apply Kd.R_drewN | apply Kd.R_drew)); exact Kd.R_mono HO329.out (fun _ hk => trivial)⟩, ⟨by (with_reducible repeat (first | apply Kd.R_alloc | apply Kd.R_drewN | apply Kd.R_drew)); exact HO334.out⟩, ⟨by (with_reducible repeat (first | refine blk_drewN ?_ _ | refine blk_drew ?_ | refine blk_alloc ?_ _)); exact BK316.out⟩, ⟨by repeat (first | (with_reducible first | exact HB.out | apply below_alloc | apply pw_below_drewN | apply below_drew1 | refine below_set ?_ GE316.out) | exact HB.out)⟩⟩
      · replace c25 := Bool.eq_false_iff.mpr c25
        subst c25
        have H1 : (laws_FnExactFirstPacked.j0 k l0 t323 t326 t327 t332 t335 true a1_0 a1_1) = some r := by rw [if_neg (show ¬ (false = true) by decide)] at H; exact H
        clear H
        have H := H1
        clear H1
        have H' := Aside0.mk H
        clear H
        obtain ⟨Ao28, co28, eo28⟩ := Kd.R_slice HO334.out
        subst eo28
        obtain ⟨Ao29, co29, eo29⟩ := Kd.V_slice HO325.out
        subst eo29
        go_wp2_with (first | ((with_reducible refine gate_callee (f := 21) rfl ?_); refine goesL_ (some 40) rfl rfl Try.func21 (by kernel_rfl) rfl #[.slice Ao28 t332.length co28, .slice Ao29 t323.length co29] rfl (by (try simp only [List.map_toArray, List.map_cons, List.map_nil]); first | done | rfl | (simp only [List.length_drop, List.length_take]; rfl)) ?_; (with_reducible refine (laws_eqIntS.calls k _ _ t332 _ _ t323 false _ ?side1 ?side2 ?side3 ?side4 A24.out).mono ?_); (case side1 => repeat (first | exact (Kd.R_reads' HO334.out).2.2 | (with_reducible refine Kd.C_alloc ?_ _) | (with_reducible refine Kd.C_drewN ?_ _) | (with_reducible refine Kd.C_drew ?_))); (case side2 => exact (Kd.R_reads' HO334.out).2.1); (case side3 => repeat (first | exact (Kd.V_reads' HO325.out).2.2 | (with_reducible refine Kd.C_alloc ?_ _) | (with_reducible refine Kd.C_drewN ?_ _) | (with_reducible refine Kd.C_drew ?_))); (case side4 => exact (Kd.V_reads' HO325.out).2.1); rintro e w' ⟨rfl, ⟨nd, rfl⟩⟩; refine ⟨_, rfl, ?_⟩))
        go_meet
        case rel => exact ⟨_, (true), (by first | rfl | (simp; done) | (simp [*]; done)), H', ⟨by first | omega | exact Nat.le_refl _⟩, ⟨by (with_reducible repeat (first | apply Kd.V_alloc | apply Kd.V_drewN | apply Kd.V_drew)); exact Kd.V_mono HO325.out (fun _ hk => ⟨hk.1.2, ⟨hk.2, hk.1.1.2⟩⟩)⟩, ⟨by (with_reducible repeat (first | apply Kd.R_alloc | apply Kd.R_drewN | apply Kd.R_drew)); exact Kd.R_mono HO329.out (fun _ hk => trivial)⟩, ⟨by (with_reducible repeat (first | apply Kd.R_alloc | apply Kd.R_drewN | apply Kd.R_drew)); exact HO334.out⟩, ⟨by (with_reducible repeat (first | refine blk_drewN ?_ _ | refine blk_drew ?_ | refine blk_alloc ?_ _)); exact BK316.out⟩, ⟨by repeat (first | (with_reducible first | exact HB.out | apply below_alloc | apply pw_below_drewN | apply below_drew1 | refine below_set ?_ GE316.out) | exact HB.out)⟩⟩
    case rest =>
      clear HC12
      try clear c1
      try clear c2
      try clear p2
      try clear c4
      try clear c4b0
      try clear c6
      try clear c11
      try clear c13
      try clear c14
      try clear c21
      try clear c25
      try clear c26
      try clear hcz20_0
      try clear hcz20_1
      try clear hfz20_0
      try clear hfz20_1
      obtain ⟨kq, x46_11, rfl, HA, HJ11, HO_6, HO_8, HO_9, BK316, HB⟩ := hcut
      cases kq with
      | zero => exact absurd HA.out (by simp [laws_FnExactFirstPacked.j0])
      | succ kj11 =>
        have H := HA.out
        clear HA
        simp only [laws_FnExactFirstPacked.j0] at H
        by_cases c30 : x46_11 = true
        · subst c30
          have H1 : (some false) = some r := by rw [if_pos rfl] at H; exact H
          clear H
          have H := H1
          clear H1
          obtain rfl := Option.some.inj H
          go_wp2
          go_ret
          exact ⟨by first | rfl | (simp [errW_none, errW_some] <;> rfl) | (simp [*, errW_none, errW_some] <;> rfl), by repeat (first | (with_reducible first | exact HB.out | apply below_alloc | apply pw_below_drewN | apply below_drew1 | refine below_set ?_ GE316.out) | exact HB.out)⟩
        · replace c30 := Bool.eq_false_iff.mpr c30
          subst c30
          have H1 : ((laws_toItemS.f kj11 l0).bind fun t337 => ((laws_eqItemS.f kj11 t327 t337).bind fun t340 => (if t340 = true then ((laws_markItemS.f kj11 t327 1).bind fun bt341 => (if bt341.1 < 0 then (laws_FnExactFirstPacked.j1 kj11 l0 t323 t326 t332 true a1_0 a1_1) else ((laws_eqIntS.f kj11 t332 t323).bind fun t343 => (if t343 = true then (laws_FnExactFirstPacked.j1 kj11 l0 t323 t326 t332 (t335 != t326) a1_0 a1_1) else (laws_FnExactFirstPacked.j1 kj11 l0 t323 t326 t332 true a1_0 a1_1))))) else (some false)))) = some r := by rw [if_neg (show ¬ (false = true) by decide)] at H; exact H
          clear H
          have H := H1
          clear H1
          replace H := Option.bind_eq_some_iff.mp H
          obtain ⟨t337, A310, H⟩ := H
          replace H : ((laws_eqItemS.f kj11 t327 t337).bind fun t340 => (if t340 = true then ((laws_markItemS.f kj11 t327 1).bind fun bt341 => (if bt341.1 < 0 then (laws_FnExactFirstPacked.j1 kj11 l0 t323 t326 t332 true a1_0 a1_1) else ((laws_eqIntS.f kj11 t332 t323).bind fun t343 => (if t343 = true then (laws_FnExactFirstPacked.j1 kj11 l0 t323 t326 t332 (t335 != t326) a1_0 a1_1) else (laws_FnExactFirstPacked.j1 kj11 l0 t323 t326 t332 true a1_0 a1_1))))) else (some false))) = some r := H
          have A31 := Aside0.mk A310
          clear A310
          replace H := Option.bind_eq_some_iff.mp H
          obtain ⟨t340, A320, H⟩ := H
          replace H : (if t340 = true then ((laws_markItemS.f kj11 t327 1).bind fun bt341 => (if bt341.1 < 0 then (laws_FnExactFirstPacked.j1 kj11 l0 t323 t326 t332 true a1_0 a1_1) else ((laws_eqIntS.f kj11 t332 t323).bind fun t343 => (if t343 = true then (laws_FnExactFirstPacked.j1 kj11 l0 t323 t326 t332 (t335 != t326) a1_0 a1_1) else (laws_FnExactFirstPacked.j1 kj11 l0 t323 t326 t332 true a1_0 a1_1))))) else (some false)) = some r := H
          have A32 := Aside0.mk A320
          clear A320
          by_cases c33 : t340 = true
          · subst c33
            have H1 : ((laws_markItemS.f kj11 t327 1).bind fun bt341 => (if bt341.1 < 0 then (laws_FnExactFirstPacked.j1 kj11 l0 t323 t326 t332 true a1_0 a1_1) else ((laws_eqIntS.f kj11 t332 t323).bind fun t343 => (if t343 = true then (laws_FnExactFirstPacked.j1 kj11 l0 t323 t326 t332 (t335 != t326) a1_0 a1_1) else (laws_FnExactFirstPacked.j1 kj11 l0 t323 t326 t332 true a1_0 a1_1))))) = some r := by rw [if_pos rfl] at H; exact H
            clear H
            have H := H1
            clear H1
            replace H := Option.bind_eq_some_iff.mp H
            obtain ⟨⟨t341, t342⟩, A340, H⟩ := H
            replace H : (if t341 < 0 then (laws_FnExactFirstPacked.j1 kj11 l0 t323 t326 t332 true a1_0 a1_1) else ((laws_eqIntS.f kj11 t332 t323).bind fun t343 => (if t343 = true then (laws_FnExactFirstPacked.j1 kj11 l0 t323 t326 t332 (t335 != t326) a1_0 a1_1) else (laws_FnExactFirstPacked.j1 kj11 l0 t323 t326 t332 true a1_0 a1_1)))) = some r := H
            have A34 := Aside0.mk A340
            clear A340
            have HC35 := Aside0.mk H
            clear H
            go_upto_region 14 with (first | ((with_reducible refine gate_callee (f := 13) rfl ?_); refine goesL_ (some 49) rfl rfl Try.func13 (by kernel_rfl) rfl #[.slice A0 l0.length c0] rfl (by (try simp only [List.map_toArray, List.map_cons, List.map_nil]); first | done | rfl | (simp only [List.length_drop, List.length_take]; rfl)) ?_; (with_reducible refine (laws_toItemS.calls kj11 _ _ l0 t337 _ ?side1 ?side2 A31.out).mono ?_); (case side1 => repeat (first | exact (Kd.C_below HR0.out HB.out) | (with_reducible refine Kd.C_alloc ?_ _) | (with_reducible refine Kd.C_drewN ?_ _) | (with_reducible refine Kd.C_drew ?_))); (case side2 => exact HC0.out); rintro e w36 ⟨v338, rfl, ho0, hb⟩; refine ⟨_, rfl, ?_⟩; have n0_ := Aside0.mk (Kd.V_elder' (by (with_reducible repeat (first | apply Kd.V_alloc | apply Kd.V_drewN | apply Kd.V_drew)); exact HO_6.out) (Kd.R_base ho0) hb); have n1_ := Aside0.mk (Kd.R_elder' (by (with_reducible repeat (first | apply Kd.R_alloc | apply Kd.R_drewN | apply Kd.R_drew)); exact HO_8.out) (Kd.R_base ho0) hb); have n2_ := Aside0.mk (Kd.R_below (by (with_reducible repeat (first | apply Kd.R_alloc | apply Kd.R_drewN | apply Kd.R_drew)); exact HO_9.out) hb); have n3_ := Aside0.mk (Kd.R_lower (Kd.R_new' ho0 (Kd.R_lt (by (with_reducible repeat (first | apply Kd.R_alloc | apply Kd.R_drewN | apply Kd.R_drew)); exact HO_8.out))) (below_size (by repeat (first | (with_reducible first | exact HB.out | apply below_alloc | apply pw_below_drewN | apply below_drew1 | refine below_set ?_ GE316.out) | exact HB.out)))); have n4_ := Aside0.mk (blk_below (g := gb316) (o := .cells #[.int .i64 a1_0, .int .i64 a1_1] 24 (0, 0)) (by (with_reducible repeat (first | refine blk_drewN ?_ _ | refine blk_drew ?_ | refine blk_alloc ?_ _)); exact BK316.out) hb); have n5_ := Aside0.mk (below_step (by repeat (first | (with_reducible first | exact HB.out | apply below_alloc | apply pw_below_drewN | apply below_drew1 | refine below_set ?_ GE316.out) | exact HB.out)) hb); clear HO_6; clear HO_8; clear HO_9; clear BK316; clear HB; have HO_6 := n0_; have HO_8 := n1_; have HO_9 := n2_; have HO339 := n3_; have BK316 := n4_; have HB := n5_; clear n0_ n1_ n2_ n3_ n4_ n5_; (try clear hb); (try clear hb2); (try clear hk); (try clear hi); (try clear ho0); obtain ⟨Ao37, co37, eo37⟩ := Kd.R_slice HO339.out; subst eo37) | ((with_reducible refine gate_callee (f := 16) rfl ?_); refine goesL_ (some 50) rfl rfl Try.func16 (by kernel_rfl) rfl #[.slice Ao22 t327.length co22, .slice Ao37 t337.length co37] rfl (by (try simp only [List.map_toArray, List.map_cons, List.map_nil]); first | done | rfl | (simp only [List.length_drop, List.length_take]; rfl)) ?_; (with_reducible refine (laws_eqItemS.calls kj11 _ _ t327 _ _ t337 true _ ?side1 ?side2 ?side3 ?side4 A32.out).mono ?_); (case side1 => repeat (first | exact (Kd.R_reads' HO_8.out).2.2 | (with_reducible refine Kd.C_alloc ?_ _) | (with_reducible refine Kd.C_drewN ?_ _) | (with_reducible refine Kd.C_drew ?_))); (case side2 => exact (Kd.R_reads' HO_8.out).2.1); (case side3 => repeat (first | exact (Kd.R_reads' HO339.out).2.2 | (with_reducible refine Kd.C_alloc ?_ _) | (with_reducible refine Kd.C_drewN ?_ _) | (with_reducible refine Kd.C_drew ?_))); (case side4 => exact (Kd.R_reads' HO339.out).2.1); rintro e w38 ⟨rfl, hb⟩; refine ⟨_, rfl, ?_⟩; have n0_ := Aside0.mk (Kd.V_below (by (with_reducible repeat (first | apply Kd.V_alloc | apply Kd.V_drewN | apply Kd.V_drew)); exact HO_6.out) hb); have n1_ := Aside0.mk (Kd.R_below (by (with_reducible repeat (first | apply Kd.R_alloc | apply Kd.R_drewN | apply Kd.R_drew)); exact HO_8.out) hb); have n2_ := Aside0.mk (Kd.R_below (by (with_reducible repeat (first | apply Kd.R_alloc | apply Kd.R_drewN | apply Kd.R_drew)); exact HO_9.out) hb); have n3_ := Aside0.mk (Kd.R_below (by (with_reducible repeat (first | apply Kd.R_alloc | apply Kd.R_drewN | apply Kd.R_drew)); exact HO339.out) hb); have n4_ := Aside0.mk (blk_below (g := gb316) (o := .cells #[.int .i64 a1_0, .int .i64 a1_1] 24 (0, 0)) (by (with_reducible repeat (first | refine blk_drewN ?_ _ | refine blk_drew ?_ | refine blk_alloc ?_ _)); exact BK316.out) hb); have n5_ := Aside0.mk (below_step (by repeat (first | (with_reducible first | exact HB.out | apply below_alloc | apply pw_below_drewN | apply below_drew1 | refine below_set ?_ GE316.out) | exact HB.out)) hb); clear HO_6; clear HO_8; clear HO_9; clear HO339; clear BK316; clear HB; have HO_6 := n0_; have HO_8 := n1_; have HO_9 := n2_; have HO339 := n3_; have BK316 := n4_; have HB := n5_; clear n0_ n1_ n2_ n3_ n4_ n5_; (try clear hb); (try clear hb2); (try clear hk); (try clear hi)) | ((with_reducible refine gate_callee (f := 22) rfl ?_); refine goesL_ (some 54) rfl rfl Try.func22 (by kernel_rfl) rfl #[.slice Ao22 t327.length co22, .int .i64 1] rfl (by (try simp only [List.map_toArray, List.map_cons, List.map_nil]); first | done | rfl | (simp only [List.length_drop, List.length_take]; rfl)) ?_; (with_reducible refine (laws_markItemS.calls kj11 (fun k_ => some k_ = (.slice Ao22 t327.length co22 : Value).ownBlock) (.slice Ao22 t327.length co22) t327 1 t341 t342 w _ ?side1 ?side2 A34.out).mono ?_); (case side1 => repeat (first | (with_reducible first | exact HB.out | apply below_alloc | apply pw_below_drewN | apply below_drew1 | refine below_set ?_ GE316.out) | exact HB.out)); (case side2 => exact Kd.R_tight rfl HO_8.out); rintro e w39 ⟨rfl, hy0, hb, hkp⟩; refine ⟨_, rfl, ?_⟩; have n0_ := Aside0.mk (Kd.V_mono (ok' := fun k_ => some k_ ≠ (.slice Ao22 t327.length co22 : Value).ownBlock ∧ some k_ ≠ (v333 : Value).ownBlock ∧ some k_ ≠ (.slice Ao37 t337.length co37 : Value).ownBlock ∧ k_ ≠ gb316) (Kd.V_keptB (HO_6.out) hkp (fun k_ hk_ hs_ => (hk_.1.1) hs_)) (fun k_ hk_ => ⟨hk_.1.1.1, hk_.1.1.2.1, hk_.1.2, hk_.1.1.2.2⟩)); have n1_ := Aside0.mk (Kd.R_reok rfl hy0 (fun k_ e_ => HO_8.out.1 k_ e_)); have n2_ := Aside0.mk (Kd.R_mono (ok' := fun k_ => True) (Kd.R_keptB ((Kd.R_apart' HO_9.out (Kd.R_typed HO_8.out) (by decide))) hkp (fun k_ hk_ hs_ => (hk_.2) hs_)) (fun k_ hk_ => trivial)); have n3_ := Aside0.mk (blk_kept (by (with_reducible repeat (first | refine blk_drewN ?_ _ | refine blk_drew ?_ | refine blk_alloc ?_ _)); exact BK316.out) hkp (fun hs_ => (fun e_ => (Kd.R_ne HO_8.out BK316.out (by decide)) e_) hs_)); have n4_ := Aside0.mk (Kd.R_mono (ok' := fun k_ => some k_ ≠ (.slice Ao22 t327.length co22 : Value).ownBlock) (Kd.R_keptB (HO339.out) hkp (fun k_ hk_ hs_ => (hk_.2) hs_)) (fun k_ hk_ => hk_.1.2)); have n5_ := Aside0.mk (hb); clear HO_6; clear HO_8; clear HO_9; clear BK316; clear HO339; clear HB; have HO_6 := n0_; have HO_8 := n1_; have HO_9 := n2_; have BK316 := n3_; have HO339 := n4_; have HB := n5_; clear n0_ n1_ n2_ n3_ n4_ n5_; (try clear hb); (try clear hkp); (try clear hy0)))
            (try simp only [Act.put, List.setIfInBounds_toArray, List.set_cons_zero, List.set_cons_succ])
            go_cut [67] (fun v67 wc => ∃ (kq : Nat) (x67_34 : Bool), v67 = .bool x67_34 ∧ Aside0 (laws_FnExactFirstPacked.j1 kq l0 t323 t326 t332 x67_34 a1_0 a1_1 = some r) ∧ Aside0 (kq ≤ kj11) ∧ Aside0 (Kd.V (Kd.int .i64) 3 wc w.heap.size (fun k_ => some k_ ≠ (v333 : Value).ownBlock ∧ k_ ≠ gb316) v324 t323) ∧ Aside0 (Kd.R (Kd.int .i64) 3 wc w.heap.size (fun _ => True) v333 t332) ∧ Aside0 (wc.heap[gb316]? = some (.cells #[.int .i64 a1_0, .int .i64 a1_1] 24 (0, 0))) ∧ Aside0 (Below w.heap.size w wc))
            case first =>
              have H := HC35.out
              clear HC35
              by_cases c40 : t341 < 0
              · rw [if_pos c40] at H
                have c40b0 : decide (t341 < 0) = true := decide_eq_true c40
                clear c40
                (first | rw [c40b0] | (simp only [i64_w, i32_w]; rw [c40b0]) | skip)
                have H' := Aside0.mk H
                clear H
                go_wp2
                go_meet
                case rel => exact ⟨_, (true), (by first | rfl | (simp; done) | (simp [*]; done)), H', ⟨by have := HJ11.out; first | omega | exact Nat.le_refl _⟩, ⟨by (with_reducible repeat (first | apply Kd.V_alloc | apply Kd.V_drewN | apply Kd.V_drew)); exact Kd.V_mono HO_6.out (fun _ hk => ⟨hk.2.1, hk.2.2.2⟩)⟩, ⟨by (with_reducible repeat (first | apply Kd.R_alloc | apply Kd.R_drewN | apply Kd.R_drew)); exact HO_9.out⟩, ⟨by (with_reducible repeat (first | refine blk_drewN ?_ _ | refine blk_drew ?_ | refine blk_alloc ?_ _)); exact BK316.out⟩, ⟨by repeat (first | (with_reducible first | exact HB.out | apply below_alloc | apply pw_below_drewN | apply below_drew1 | refine below_set ?_ GE316.out) | exact HB.out)⟩⟩
              · rw [if_neg c40] at H
                have c40b0 : decide (t341 < 0) = false := decide_eq_false c40
                clear c40
                (first | rw [c40b0] | (simp only [i64_w, i32_w]; rw [c40b0]) | skip)
                replace H := Option.bind_eq_some_iff.mp H
                obtain ⟨t343, A410, H⟩ := H
                replace H : (if t343 = true then (laws_FnExactFirstPacked.j1 kj11 l0 t323 t326 t332 (t335 != t326) a1_0 a1_1) else (laws_FnExactFirstPacked.j1 kj11 l0 t323 t326 t332 true a1_0 a1_1)) = some r := H
                have A41 := Aside0.mk A410
                clear A410
                by_cases c42 : t343 = true
                · subst c42
                  have H1 : (laws_FnExactFirstPacked.j1 kj11 l0 t323 t326 t332 (t335 != t326) a1_0 a1_1) = some r := by rw [if_pos rfl] at H; exact H
                  clear H
                  have H := H1
                  clear H1
                  have H' := Aside0.mk H
                  clear H
                  obtain ⟨Ao43, co43, eo43⟩ := Kd.R_slice HO_9.out
                  subst eo43
                  obtain ⟨Ao44, co44, eo44⟩ := Kd.V_slice HO_6.out
                  subst eo44
                  go_wp2_with (first | (go_at_call 21; (with_reducible refine (laws_eqIntS.calls kj11 _ _ t332 _ _ t323 true _ ?side1 ?side2 ?side3 ?side4 A41.out).mono ?_); (case side1 => repeat (first | exact (Kd.R_reads' HO_9.out).2.2 | (with_reducible refine Kd.C_alloc ?_ _) | (with_reducible refine Kd.C_drewN ?_ _) | (with_reducible refine Kd.C_drew ?_))); (case side2 => exact (Kd.R_reads' HO_9.out).2.1); (case side3 => repeat (first | exact (Kd.V_reads' HO_6.out).2.2 | (with_reducible refine Kd.C_alloc ?_ _) | (with_reducible refine Kd.C_drewN ?_ _) | (with_reducible refine Kd.C_drew ?_))); (case side4 => exact (Kd.V_reads' HO_6.out).2.1); rintro e w' ⟨rfl, ⟨nd, rfl⟩⟩))
                  go_meet
                  case rel => exact ⟨_, ((t335 != t326)), (by first | rfl | (simp; done) | (simp [*]; done)), H', ⟨by have := HJ11.out; first | omega | exact Nat.le_refl _⟩, ⟨by (with_reducible repeat (first | apply Kd.V_alloc | apply Kd.V_drewN | apply Kd.V_drew)); exact Kd.V_mono HO_6.out (fun _ hk => ⟨hk.2.1, hk.2.2.2⟩)⟩, ⟨by (with_reducible repeat (first | apply Kd.R_alloc | apply Kd.R_drewN | apply Kd.R_drew)); exact HO_9.out⟩, ⟨by (with_reducible repeat (first | refine blk_drewN ?_ _ | refine blk_drew ?_ | refine blk_alloc ?_ _)); exact BK316.out⟩, ⟨by repeat (first | (with_reducible first | exact HB.out | apply below_alloc | apply pw_below_drewN | apply below_drew1 | refine below_set ?_ GE316.out) | exact HB.out)⟩⟩
                · replace c42 := Bool.eq_false_iff.mpr c42
                  subst c42
                  have H1 : (laws_FnExactFirstPacked.j1 kj11 l0 t323 t326 t332 true a1_0 a1_1) = some r := by rw [if_neg (show ¬ (false = true) by decide)] at H; exact H
                  clear H
                  have H := H1
                  clear H1
                  have H' := Aside0.mk H
                  clear H
                  obtain ⟨Ao45, co45, eo45⟩ := Kd.R_slice HO_9.out
                  subst eo45
                  obtain ⟨Ao46, co46, eo46⟩ := Kd.V_slice HO_6.out
                  subst eo46
                  go_wp2_with (first | (go_at_call 21; (with_reducible refine (laws_eqIntS.calls kj11 _ _ t332 _ _ t323 false _ ?side1 ?side2 ?side3 ?side4 A41.out).mono ?_); (case side1 => repeat (first | exact (Kd.R_reads' HO_9.out).2.2 | (with_reducible refine Kd.C_alloc ?_ _) | (with_reducible refine Kd.C_drewN ?_ _) | (with_reducible refine Kd.C_drew ?_))); (case side2 => exact (Kd.R_reads' HO_9.out).2.1); (case side3 => repeat (first | exact (Kd.V_reads' HO_6.out).2.2 | (with_reducible refine Kd.C_alloc ?_ _) | (with_reducible refine Kd.C_drewN ?_ _) | (with_reducible refine Kd.C_drew ?_))); (case side4 => exact (Kd.V_reads' HO_6.out).2.1); rintro e w' ⟨rfl, ⟨nd, rfl⟩⟩))
                  go_meet
                  case rel => exact ⟨_, (true), (by first | rfl | (simp; done) | (simp [*]; done)), H', ⟨by have := HJ11.out; first | omega | exact Nat.le_refl _⟩, ⟨by (with_reducible repeat (first | apply Kd.V_alloc | apply Kd.V_drewN | apply Kd.V_drew)); exact Kd.V_mono HO_6.out (fun _ hk => ⟨hk.2.1, hk.2.2.2⟩)⟩, ⟨by (with_reducible repeat (first | apply Kd.R_alloc | apply Kd.R_drewN | apply Kd.R_drew)); exact HO_9.out⟩, ⟨by (with_reducible repeat (first | refine blk_drewN ?_ _ | refine blk_drew ?_ | refine blk_alloc ?_ _)); exact BK316.out⟩, ⟨by repeat (first | (with_reducible first | exact HB.out | apply below_alloc | apply pw_below_drewN | apply below_drew1 | refine below_set ?_ GE316.out) | exact HB.out)⟩⟩
            case rest =>
              clear HC35
              try clear c1
              try clear c2
              try clear p2
              try clear c3
              try clear c4
              try clear c4b0
              try clear c6
              try clear c11
              try clear c13
              try clear c14
              try clear c16
              try clear c21
              try clear c22
              try clear c25
              try clear c26
              try clear c30
              try clear c33
              try clear c40
              try clear c40b0
              try clear c42
              try clear hcz20_0
              try clear hcz20_1
              try clear hfz20_0
              try clear hfz20_1
              try clear p2
              obtain ⟨kq, x67_34, rfl, HA, HJ34, HO_6, HO_9, BK316, HB⟩ := hcut
              cases kq with
              | zero => exact absurd HA.out (by simp [laws_FnExactFirstPacked.j1])
              | succ kj34 =>
                have H := HA.out
                clear HA
                simp only [laws_FnExactFirstPacked.j1] at H
                by_cases c47 : x67_34 = true
                · subst c47
                  have H1 : (some false) = some r := by rw [if_pos rfl] at H; exact H
                  clear H
                  have H := H1
                  clear H1
                  obtain rfl := Option.some.inj H
                  go_wp2
                  go_ret
                  exact ⟨by first | rfl | (simp [errW_none, errW_some] <;> rfl) | (simp [*, errW_none, errW_some] <;> rfl), by repeat (first | (with_reducible first | exact HB.out | apply below_alloc | apply pw_below_drewN | apply below_drew1 | refine below_set ?_ GE316.out) | exact HB.out)⟩
                · replace c47 := Bool.eq_false_iff.mpr c47
                  subst c47
                  have H1 : ((laws_markIntS.f kj34 t332 1).bind fun bt344 => ((laws_heldIntS.f kj34 bt344.2 1).bind fun t346 => (if t346 < 0 then (some false) else (if t346 = bt344.1 then ((laws_toItemS.f kj34 l0).bind fun t347 => ((laws_toCase.f a1_0 a1_1).bind fun bt350 => ((impl_FirstPacked.f t347 bt350.1 bt350.2).bind fun bt352 => ((laws_eqIntS.f kj34 bt352.1 t323).bind fun t356 => (if t356 = true then (laws_FnExactFirstPacked.j2 kj34 bt344.2 bt344.1 (bt352.2 != t326)) else (laws_FnExactFirstPacked.j2 kj34 bt344.2 bt344.1 true)))))) else (some false))))) = some r := by rw [if_neg (show ¬ (false = true) by decide)] at H; exact H
                  clear H
                  have H := H1
                  clear H1
                  replace H := Option.bind_eq_some_iff.mp H
                  obtain ⟨⟨t344, t345⟩, A480, H⟩ := H
                  replace H : ((laws_heldIntS.f kj34 t345 1).bind fun t346 => (if t346 < 0 then (some false) else (if t346 = t344 then ((laws_toItemS.f kj34 l0).bind fun t347 => ((laws_toCase.f a1_0 a1_1).bind fun bt350 => ((impl_FirstPacked.f t347 bt350.1 bt350.2).bind fun bt352 => ((laws_eqIntS.f kj34 bt352.1 t323).bind fun t356 => (if t356 = true then (laws_FnExactFirstPacked.j2 kj34 t345 t344 (bt352.2 != t326)) else (laws_FnExactFirstPacked.j2 kj34 t345 t344 true)))))) else (some false)))) = some r := H
                  have A48 := Aside0.mk A480
                  clear A480
                  replace H := Option.bind_eq_some_iff.mp H
                  obtain ⟨t346, A490, H⟩ := H
                  replace H : (if t346 < 0 then (some false) else (if t346 = t344 then ((laws_toItemS.f kj34 l0).bind fun t347 => ((laws_toCase.f a1_0 a1_1).bind fun bt350 => ((impl_FirstPacked.f t347 bt350.1 bt350.2).bind fun bt352 => ((laws_eqIntS.f kj34 bt352.1 t323).bind fun t356 => (if t356 = true then (laws_FnExactFirstPacked.j2 kj34 t345 t344 (bt352.2 != t326)) else (laws_FnExactFirstPacked.j2 kj34 t345 t344 true)))))) else (some false))) = some r := H
                  have A49 := Aside0.mk A490
                  clear A490
                  by_cases c50 : t346 < 0
                  · rw [if_pos c50] at H
                    have c50b0 : decide (t346 < 0) = true := decide_eq_true c50
                    clear c50
                    obtain rfl := Option.some.inj H
                    obtain ⟨Ao51, co51, eo51⟩ := Kd.R_slice HO_9.out
                    subst eo51
                    go_wp2_with (first | ((with_reducible refine gate_callee (f := 23) rfl ?_); refine goesL_ (some 70) rfl rfl Try.func23 (by kernel_rfl) rfl #[.slice Ao51 t332.length co51, .int .i64 1] rfl (by (try simp only [List.map_toArray, List.map_cons, List.map_nil]); first | done | rfl | (simp only [List.length_drop, List.length_take]; rfl)) ?_; (with_reducible refine (laws_markIntS.calls kj34 (fun k_ => some k_ = (.slice Ao51 t332.length co51 : Value).ownBlock) (.slice Ao51 t332.length co51) t332 1 t344 t345 w _ ?side1 ?side2 A48.out).mono ?_); (case side1 => repeat (first | (with_reducible first | exact HB.out | apply below_alloc | apply pw_below_drewN | apply below_drew1 | refine below_set ?_ GE316.out) | exact HB.out)); (case side2 => exact Kd.R_tight rfl HO_9.out); rintro e w52 ⟨rfl, hy0, hb, hkp⟩; refine ⟨_, rfl, ?_⟩; have n0_ := Aside0.mk (Kd.V_mono (ok' := fun k_ => some k_ ≠ (.slice Ao51 t332.length co51 : Value).ownBlock ∧ k_ ≠ gb316) (Kd.V_keptB (HO_6.out) hkp (fun k_ hk_ hs_ => (hk_.1) hs_)) (fun k_ hk_ => ⟨hk_.1.1, hk_.1.2⟩)); have n1_ := Aside0.mk (Kd.R_reok rfl hy0 (fun k_ e_ => HO_9.out.1 k_ e_)); have n2_ := Aside0.mk (blk_kept (by (with_reducible repeat (first | refine blk_drewN ?_ _ | refine blk_drew ?_ | refine blk_alloc ?_ _)); exact BK316.out) hkp (fun hs_ => (fun e_ => (Kd.R_ne HO_9.out BK316.out (by decide)) e_) hs_)); have n3_ := Aside0.mk (hb); clear HO_6; clear HO_9; clear BK316; clear HB; have HO_6 := n0_; have HO_9 := n1_; have BK316 := n2_; have HB := n3_; clear n0_ n1_ n2_ n3_; (try clear hb); (try clear hkp); (try clear hy0)) | ((with_reducible refine gate_callee (f := 24) rfl ?_); refine goesL_ (some 73) rfl rfl Try.func24 (by kernel_rfl) rfl #[.slice Ao51 t345.length co51, .int .i64 1] rfl (by (try simp only [List.map_toArray, List.map_cons, List.map_nil]); first | done | (rw [show t345.length = t332.length from (Kd.R_reads' HO_9.out).1.symm] <;> rfl) | rfl | (simp only [List.length_drop, List.length_take]; rfl)) ?_; (with_reducible refine (laws_heldIntS.calls kj34 _ _ t345 1 t346 _ ?side1 ?side2 A49.out).mono ?_); (case side1 => repeat (first | exact (Kd.R_reads' HO_9.out).2.2 | (with_reducible refine Kd.C_alloc ?_ _) | (with_reducible refine Kd.C_drewN ?_ _) | (with_reducible refine Kd.C_drew ?_))); (case side2 => rw [show t345.length = t332.length from (Kd.R_reads' HO_9.out).1.symm]; exact (Kd.R_reads' HO_9.out).2.1); rintro e w' ⟨rfl, ⟨nd, rfl⟩⟩; refine ⟨_, rfl, ?_⟩))
                    go_ret
                    exact ⟨by first | rfl | (simp [errW_none, errW_some] <;> rfl) | (simp [*, errW_none, errW_some] <;> rfl), by repeat (first | (with_reducible first | exact HB.out | apply below_alloc | apply pw_below_drewN | apply below_drew1 | refine below_set ?_ GE316.out) | exact HB.out)⟩
                  · rw [if_neg c50] at H
                    have c50b0 : decide (t346 < 0) = false := decide_eq_false c50
                    clear c50
                    by_cases c53 : t346 = t344
                    · rw [if_pos c53] at H
                      have c53b0 : (t346 == t344) = true := beq_iff_eq.mpr c53
                      have c53b1 : (t346 != t344) = false := bne_eq_false_iff_eq.mpr c53
                      clear c53
                      replace H := Option.bind_eq_some_iff.mp H
                      obtain ⟨t347, A540, H⟩ := H
                      replace H : ((laws_toCase.f a1_0 a1_1).bind fun bt350 => ((impl_FirstPacked.f t347 bt350.1 bt350.2).bind fun bt352 => ((laws_eqIntS.f kj34 bt352.1 t323).bind fun t356 => (if t356 = true then (laws_FnExactFirstPacked.j2 kj34 t345 t344 (bt352.2 != t326)) else (laws_FnExactFirstPacked.j2 kj34 t345 t344 true))))) = some r := H
                      have A54 := Aside0.mk A540
                      clear A540
                      replace H := Option.bind_eq_some_iff.mp H
                      obtain ⟨⟨t350, t351⟩, A550, H⟩ := H
                      replace H : ((impl_FirstPacked.f t347 t350 t351).bind fun bt352 => ((laws_eqIntS.f kj34 bt352.1 t323).bind fun t356 => (if t356 = true then (laws_FnExactFirstPacked.j2 kj34 t345 t344 (bt352.2 != t326)) else (laws_FnExactFirstPacked.j2 kj34 t345 t344 true)))) = some r := H
                      have A55 := Aside0.mk A550
                      clear A550
                      replace H := Option.bind_eq_some_iff.mp H
                      obtain ⟨⟨t352, t355⟩, A560, H⟩ := H
                      replace H : ((laws_eqIntS.f kj34 t352 t323).bind fun t356 => (if t356 = true then (laws_FnExactFirstPacked.j2 kj34 t345 t344 (t355 != t326)) else (laws_FnExactFirstPacked.j2 kj34 t345 t344 true))) = some r := H
                      have A56 := Aside0.mk A560
                      clear A560
                      have HC57 := Aside0.mk H
                      clear H
                      obtain ⟨Ao58, co58, eo58⟩ := Kd.R_slice HO_9.out
                      subst eo58
                      try go_wp2_with (first | ((with_reducible refine gate_callee (f := 23) rfl ?_); refine goesL_ (some 70) rfl rfl Try.func23 (by kernel_rfl) rfl #[.slice Ao58 t332.length co58, .int .i64 1] rfl (by (try simp only [List.map_toArray, List.map_cons, List.map_nil]); first | done | rfl | (simp only [List.length_drop, List.length_take]; rfl)) ?_; (with_reducible refine (laws_markIntS.calls kj34 (fun k_ => some k_ = (.slice Ao58 t332.length co58 : Value).ownBlock) (.slice Ao58 t332.length co58) t332 1 t344 t345 w _ ?side1 ?side2 A48.out).mono ?_); (case side1 => repeat (first | (with_reducible first | exact HB.out | apply below_alloc | apply pw_below_drewN | apply below_drew1 | refine below_set ?_ GE316.out) | exact HB.out)); (case side2 => exact Kd.R_tight rfl HO_9.out); rintro e w59 ⟨rfl, hy0, hb, hkp⟩; refine ⟨_, rfl, ?_⟩; have n0_ := Aside0.mk (Kd.V_mono (ok' := fun k_ => some k_ ≠ (.slice Ao58 t332.length co58 : Value).ownBlock ∧ k_ ≠ gb316) (Kd.V_keptB (HO_6.out) hkp (fun k_ hk_ hs_ => (hk_.1) hs_)) (fun k_ hk_ => ⟨hk_.1.1, hk_.1.2⟩)); have n1_ := Aside0.mk (Kd.R_reok rfl hy0 (fun k_ e_ => HO_9.out.1 k_ e_)); have n2_ := Aside0.mk (blk_kept (by (with_reducible repeat (first | refine blk_drewN ?_ _ | refine blk_drew ?_ | refine blk_alloc ?_ _)); exact BK316.out) hkp (fun hs_ => (fun e_ => (Kd.R_ne HO_9.out BK316.out (by decide)) e_) hs_)); have n3_ := Aside0.mk (hb); clear HO_6; clear HO_9; clear BK316; clear HB; have HO_6 := n0_; have HO_9 := n1_; have BK316 := n2_; have HB := n3_; clear n0_ n1_ n2_ n3_; (try clear hb); (try clear hkp); (try clear hy0)) | ((with_reducible refine gate_callee (f := 24) rfl ?_); refine goesL_ (some 73) rfl rfl Try.func24 (by kernel_rfl) rfl #[.slice Ao58 t345.length co58, .int .i64 1] rfl (by (try simp only [List.map_toArray, List.map_cons, List.map_nil]); first | done | (rw [show t345.length = t332.length from (Kd.R_reads' HO_9.out).1.symm] <;> rfl) | rfl | (simp only [List.length_drop, List.length_take]; rfl)) ?_; (with_reducible refine (laws_heldIntS.calls kj34 _ _ t345 1 t346 _ ?side1 ?side2 A49.out).mono ?_); (case side1 => repeat (first | exact (Kd.R_reads' HO_9.out).2.2 | (with_reducible refine Kd.C_alloc ?_ _) | (with_reducible refine Kd.C_drewN ?_ _) | (with_reducible refine Kd.C_drew ?_))); (case side2 => rw [show t345.length = t332.length from (Kd.R_reads' HO_9.out).1.symm]; exact (Kd.R_reads' HO_9.out).2.1); rintro e w' ⟨rfl, ⟨nd, rfl⟩⟩; refine ⟨_, rfl, ?_⟩))
                      (try (rw [drewN_self w59]; generalize hq_ : World.drewN w59 _ = w59; have n0_ : Aside0 (Kd.V (Kd.int .i64) 3 w59 w.heap.size (fun k_ => some k_ ≠ (.slice Ao58 t332.length co58 : Value).ownBlock ∧ k_ ≠ gb316) v324 t323) := ⟨by rw [← hq_]; exact (by (with_reducible repeat (first | apply Kd.V_alloc | apply Kd.V_drewN | apply Kd.V_drew)); exact HO_6.out)⟩; have n1_ : Aside0 (Kd.R (Kd.int .i64) 3 w59 w.heap.size (fun _ => True) (.slice Ao58 t332.length co58) t345) := ⟨by rw [← hq_]; exact (by (with_reducible repeat (first | apply Kd.R_alloc | apply Kd.R_drewN | apply Kd.R_drew)); exact HO_9.out)⟩; have n2_ : Aside0 (w59.heap[gb316]? = some (.cells #[.int .i64 a1_0, .int .i64 a1_1] 24 (0, 0))) := ⟨by rw [← hq_]; exact (by (with_reducible repeat (first | refine blk_drewN ?_ _ | refine blk_drew ?_ | refine blk_alloc ?_ _)); exact BK316.out)⟩; have n3_ : Aside0 (Below w.heap.size w w59) := ⟨by rw [← hq_]; exact (by repeat (first | (with_reducible first | exact HB.out | apply below_alloc | apply pw_below_drewN | apply below_drew1 | refine below_set ?_ GE316.out) | exact HB.out))⟩; clear HO_6 HO_9 BK316 HB hq_; have HO_6 := n0_; have HO_9 := n1_; have BK316 := n2_; have HB := n3_; clear n0_ n1_ n2_ n3_))
                      have n0_ := Aside0.mk (Kd.V_drew HO_6.out)
                      have n1_ := Aside0.mk (Kd.R_drew HO_9.out)
                      have n2_ := Aside0.mk (blk_drew BK316.out)
                      have n3_ := Aside0.mk (below_drew1 HB.out)
                      clear HO_6
                      clear HO_9
                      clear BK316
                      clear HB
                      have HO_6 := n0_
                      have HO_9 := n1_
                      have BK316 := n2_
                      have HB := n3_
                      clear n0_ n1_ n2_ n3_
                      refine start_ (n := 10) (S := fun w' => w'.cell? ⟨gb316, 0, none⟩ = some (.int .i64 a1_0) ∧ w'.cell? ⟨gb316, 1, none⟩ = some (.int .i64 a1_1)) (ds := []) #[false, false, false, false, false, false, false, false, false, false] (by kernel_rfl) rfl rfl ⟨(blk_cell BK316.out 0).trans rfl, (blk_cell BK316.out 1).trans rfl⟩ (fun hHeld => ?_); refine with_tabW laws_FnExactFirstPacked.tab24 laws_FnExactFirstPacked.bits24 (fun HT_ HW_ => ?_)
                      generalize w59.drew = w60 at HO_6 HO_9 BK316 HB hHeld ⊢
                      refine pure_ (i := 0) (N := some 80) (v := ?_) (a' := ?_) #[true, false, false, false, false, false, false, false, false, false] rfl rfl (any_of HT_.out (by kernel_rfl)) (fun _ _ _ h => h) (Or.inl ⟨by rfl, ?_⟩) ?_ ?_
                      rotate_left
                      · intro w'
                        go_simp
                        with_reducible rfl
                      rotate_left
                      · simp only [Act.put, List.setIfInBounds_toArray, List.set_cons_zero, List.set_cons_succ, i64_w, i32_w]
                        rfl
                      refine take_ (i := 2) (N := some 82) (v := ?_) (a' := ?_) #[true, false, true, false, false, false, false, false, false, false] rfl rfl (take_ofW HT_.out HW_.out (by kernel_rfl)) (fun _ _ _ h => h) (Or.inl ⟨by rfl, ?_⟩) hHeld ?_ ?_
                      rotate_left
                      · rintro w' ⟨s0, s1⟩
                        go_simp
                        with_reducible rfl
                      rotate_left
                      · simp only [Act.put, List.setIfInBounds_toArray, List.set_cons_zero, List.set_cons_succ, i64_w, i32_w]
                        rfl
                      refine one_ (i := 1) (N := some 81) #[true, true, true, false, false, false, false, false, false, false] rfl rfl (one_of HT_.out (by kernel_rfl)) (by decide) (fun K hK => ?_)
                      refine goes_ Try.func13 (by kernel_rfl) rfl #[.slice A0 l0.length c0] (by rfl) rfl rfl (by (try simp only [List.map_toArray, List.map_cons, List.map_nil]); first | done | rfl | (simp only [List.length_drop, List.length_take]; rfl)) ?_
                      with_reducible refine (laws_toItemS.calls kj34 _ _ l0 t347 _ ?side1 ?side2 A54.out).mono ?_
                      (case side1 => repeat (first | exact (Kd.C_below HR0.out HB.out) | (with_reducible refine Kd.C_alloc ?_ _) | (with_reducible refine Kd.C_drewN ?_ _) | (with_reducible refine Kd.C_drew ?_)))
                      (case side2 => exact HC0.out)
                      rintro e w61 ⟨v348, rfl, ho0, hb⟩
                      refine ⟨_, rfl, ?_⟩
                      have n0_ := Aside0.mk (Kd.V_elder' (by (with_reducible repeat (first | apply Kd.V_alloc | apply Kd.V_drewN | apply Kd.V_drew)); exact HO_6.out) (Kd.R_base ho0) hb)
                      have n1_ := Aside0.mk (Kd.R_below (by (with_reducible repeat (first | apply Kd.R_alloc | apply Kd.R_drewN | apply Kd.R_drew)); exact HO_9.out) hb)
                      have n2_ := Aside0.mk (Kd.R_lower ho0 (below_size (by repeat (first | (with_reducible first | exact HB.out | apply below_alloc | apply pw_below_drewN | apply below_drew1 | refine below_set ?_ GE316.out) | exact HB.out))))
                      have n3_ := Aside0.mk (blk_below (g := gb316) (o := .cells #[.int .i64 a1_0, .int .i64 a1_1] 24 (0, 0)) (by (with_reducible repeat (first | refine blk_drewN ?_ _ | refine blk_drew ?_ | refine blk_alloc ?_ _)); exact BK316.out) hb)
                      have n4_ := Aside0.mk (below_step (by repeat (first | (with_reducible first | exact HB.out | apply below_alloc | apply pw_below_drewN | apply below_drew1 | refine below_set ?_ GE316.out) | exact HB.out)) hb)
                      clear HO_6
                      clear HO_9
                      clear BK316
                      clear HB
                      have HO_6 := n0_
                      have HO_9 := n1_
                      have HO349 := n2_
                      have BK316 := n3_
                      have HB := n4_
                      clear n0_ n1_ n2_ n3_ n4_
                      (try clear hb)
                      (try clear hb2)
                      (try clear hk)
                      (try clear hi)
                      (try clear ho0)
                      refine hK.out _ _ ⟨(blk_cell BK316.out 0).trans rfl, (blk_cell BK316.out 1).trans rfl⟩ (fun hHeld => ?_)
                      clear hK K
                      refine norm_ (a' := ?_) ?_ ?_
                      rotate_left
                      · show Act.put _ (some 81) _ = _
                        simp only [Act.put, List.setIfInBounds_toArray, List.set_cons_zero, List.set_cons_succ, i64_w, i32_w]
                        rfl
                      refine one_ (i := 3) (N := some 83) #[true, true, true, true, false, false, false, false, false, false] rfl rfl (one_of HT_.out (by kernel_rfl)) (by decide) (fun K hK => ?_)
                      refine goes_ Try.func14 (by kernel_rfl) rfl #[.agg #[.int .i64 a1_0, .int .i64 a1_1]] (by rfl) rfl rfl (by (try simp only [List.map_toArray, List.map_cons, List.map_nil]); first | done | rfl | (simp only [List.length_drop, List.length_take]; rfl)) ?_
                      with_reducible refine (laws_toCase.calls a1_0 a1_1 t350 t351 _ A55.out).mono ?_
                      rintro e w62 ⟨rfl, hb⟩
                      refine ⟨_, rfl, ?_⟩
                      have n0_ := Aside0.mk (Kd.V_below (by (with_reducible repeat (first | apply Kd.V_alloc | apply Kd.V_drewN | apply Kd.V_drew)); exact HO_6.out) hb)
                      have n1_ := Aside0.mk (Kd.R_below (by (with_reducible repeat (first | apply Kd.R_alloc | apply Kd.R_drewN | apply Kd.R_drew)); exact HO_9.out) hb)
                      have n2_ := Aside0.mk (Kd.R_below (by (with_reducible repeat (first | apply Kd.R_alloc | apply Kd.R_drewN | apply Kd.R_drew)); exact HO349.out) hb)
                      have n3_ := Aside0.mk (blk_below (g := gb316) (o := .cells #[.int .i64 a1_0, .int .i64 a1_1] 24 (0, 0)) (by (with_reducible repeat (first | refine blk_drewN ?_ _ | refine blk_drew ?_ | refine blk_alloc ?_ _)); exact BK316.out) hb)
                      have n4_ := Aside0.mk (below_step (by repeat (first | (with_reducible first | exact HB.out | apply below_alloc | apply pw_below_drewN | apply below_drew1 | refine below_set ?_ GE316.out) | exact HB.out)) hb)
                      clear HO_6
                      clear HO_9
                      clear HO349
                      clear BK316
                      clear HB
                      have HO_6 := n0_
                      have HO_9 := n1_
                      have HO349 := n2_
                      have BK316 := n3_
                      have HB := n4_
                      clear n0_ n1_ n2_ n3_ n4_
                      (try clear hb)
                      (try clear hb2)
                      (try clear hk)
                      (try clear hi)
                      obtain ⟨Ao63, co63, eo63⟩ := Kd.R_slice HO349.out
                      (first | subst eo63 | (injection eo63 with f1_ f2_ f3_; have f4_ := f1_.symm; have f5_ := f3_.symm; clear f1_ f2_ f3_; subst f4_; subst f5_))
                      refine hK.out _ _ ⟨(blk_cell BK316.out 0).trans rfl, (blk_cell BK316.out 1).trans rfl⟩ (fun hHeld => ?_)
                      clear hK K
                      refine norm_ (a' := ?_) ?_ ?_
                      rotate_left
                      · show Act.put _ (some 83) _ = _
                        simp only [Act.put, List.setIfInBounds_toArray, List.set_cons_zero, List.set_cons_succ, i64_w, i32_w]
                        rfl
                      refine one_ (i := 4) (N := some 84) #[true, true, true, true, true, false, false, false, false, false] rfl rfl (one_of HT_.out (by kernel_rfl)) (by decide) (fun K hK => ?_)
                      refine goes_ Try.func26 (by kernel_rfl) rfl #[.slice Ao63 t347.length co63, .agg #[.int .i64 t350, .int .i64 t351]] (by rfl) rfl rfl (by (try simp only [List.map_toArray, List.map_cons, List.map_nil]); first | done | rfl | (simp only [List.length_drop, List.length_take]; rfl)) ?_
                      with_reducible refine (impl_FirstPacked.calls _ _ t347 t350 t351 t352 t355 _ ?side1 ?side2 A56.out).mono ?_
                      (case side1 => repeat (first | exact (Kd.R_reads' HO349.out).2.2 | (with_reducible refine Kd.C_alloc ?_ _) | (with_reducible refine Kd.C_drewN ?_ _) | (with_reducible refine Kd.C_drew ?_)))
                      (case side2 => exact (Kd.R_reads' HO349.out).2.1)
                      rintro e w64 ⟨v353, rfl, ho0, hb⟩
                      refine ⟨_, rfl, ?_⟩
                      have n0_ := Aside0.mk (Kd.V_elder' (by (with_reducible repeat (first | apply Kd.V_alloc | apply Kd.V_drewN | apply Kd.V_drew)); exact HO_6.out) (Kd.R_base ho0) hb)
                      have n1_ := Aside0.mk (Kd.R_elder' (by (with_reducible repeat (first | apply Kd.R_alloc | apply Kd.R_drewN | apply Kd.R_drew)); exact HO_9.out) (Kd.R_base ho0) hb)
                      have n2_ := Aside0.mk (Kd.R_below (by (with_reducible repeat (first | apply Kd.R_alloc | apply Kd.R_drewN | apply Kd.R_drew)); exact HO349.out) hb)
                      have n3_ := Aside0.mk (Kd.R_lower (Kd.R_new' ho0 (Kd.R_lt (by (with_reducible repeat (first | apply Kd.R_alloc | apply Kd.R_drewN | apply Kd.R_drew)); exact HO_9.out))) (below_size (by repeat (first | (with_reducible first | exact HB.out | apply below_alloc | apply pw_below_drewN | apply below_drew1 | refine below_set ?_ GE316.out) | exact HB.out))))
                      have n4_ := Aside0.mk (blk_below (g := gb316) (o := .cells #[.int .i64 a1_0, .int .i64 a1_1] 24 (0, 0)) (by (with_reducible repeat (first | refine blk_drewN ?_ _ | refine blk_drew ?_ | refine blk_alloc ?_ _)); exact BK316.out) hb)
                      have n5_ := Aside0.mk (below_step (by repeat (first | (with_reducible first | exact HB.out | apply below_alloc | apply pw_below_drewN | apply below_drew1 | refine below_set ?_ GE316.out) | exact HB.out)) hb)
                      clear HO_6
                      clear HO_9
                      clear HO349
                      clear BK316
                      clear HB
                      have HO_6 := n0_
                      have HO_9 := n1_
                      have HO349 := n2_
                      have HO354 := n3_
                      have BK316 := n4_
                      have HB := n5_
                      clear n0_ n1_ n2_ n3_ n4_ n5_
                      (try clear hb)
                      (try clear hb2)
                      (try clear hk)
                      (try clear hi)
                      (try clear ho0)
                      refine hK.out _ _ ⟨(blk_cell BK316.out 0).trans rfl, (blk_cell BK316.out 1).trans rfl⟩ (fun hHeld => ?_)
                      clear hK K
                      refine norm_ (a' := ?_) ?_ ?_
                      rotate_left
                      · show Act.put _ (some 84) _ = _
                        simp only [Act.put, List.setIfInBounds_toArray, List.set_cons_zero, List.set_cons_succ, i64_w, i32_w]
                        rfl
                      refine pure_ (i := 5) (N := some 79) (v := ?_) (a' := ?_) #[true, true, true, true, true, true, false, false, false, false] rfl rfl (any_of HT_.out (by kernel_rfl)) (fun _ _ _ h => h) (Or.inl ⟨by rfl, ?_⟩) ?_ ?_
                      rotate_left
                      · intro w'
                        go_simp
                        with_reducible rfl
                      rotate_left
                      · simp only [Act.put, List.setIfInBounds_toArray, List.set_cons_zero, List.set_cons_succ, i64_w, i32_w]
                        rfl
                      refine pure_ (i := 6) (N := some 85) (v := ?_) (a' := ?_) #[true, true, true, true, true, true, true, false, false, false] rfl rfl (any_of HT_.out (by kernel_rfl)) (fun _ _ _ h => h) (Or.inl ⟨by rfl, ?_⟩) ?_ ?_
                      rotate_left
                      · intro w'
                        go_simp
                        with_reducible rfl
                      rotate_left
                      · simp only [Act.put, List.setIfInBounds_toArray, List.set_cons_zero, List.set_cons_succ, i64_w, i32_w]
                        rfl
                      refine pure_ (i := 7) (N := some 86) (v := ?_) (a' := ?_) #[true, true, true, true, true, true, true, true, false, false] rfl rfl (any_of HT_.out (by kernel_rfl)) (fun _ _ _ h => h) (Or.inl ⟨by rfl, ?_⟩) ?_ ?_
                      rotate_left
                      · intro w'
                        go_simp
                        with_reducible rfl
                      rotate_left
                      · simp only [Act.put, List.setIfInBounds_toArray, List.set_cons_zero, List.set_cons_succ, i64_w, i32_w]
                        rfl
                      refine pure_ (i := 8) (N := some 14) (v := ?_) (a' := ?_) #[true, true, true, true, true, true, true, true, true, false] rfl rfl (any_of HT_.out (by kernel_rfl)) (fun _ _ _ h => h) (Or.inl ⟨by rfl, ?_⟩) ?_ ?_
                      rotate_left
                      · intro w'
                        go_simp
                        with_reducible rfl
                      rotate_left
                      · simp only [Act.put, List.setIfInBounds_toArray, List.set_cons_zero, List.set_cons_succ, i64_w, i32_w]
                        rfl
                      refine pure_ (i := 9) (N := some 15) (v := ?_) (a' := ?_) #[true, true, true, true, true, true, true, true, true, true] rfl rfl (any_of HT_.out (by kernel_rfl)) (fun _ _ _ h => h) (Or.inl ⟨by rfl, ?_⟩) ?_ ?_
                      rotate_left
                      · intro w'
                        go_simp
                        with_reducible rfl
                      rotate_left
                      · simp only [Act.put, List.setIfInBounds_toArray, List.set_cons_zero, List.set_cons_succ, i64_w, i32_w]
                        rfl
                      refine done_ (done_of HT_.out (by kernel_rfl)) ?_
                      go_upto_region 25 with (fail)
                      go_cut [95] (fun v95 wc => ∃ (kq : Nat) (x95_56 : Bool), v95 = .bool x95_56 ∧ Aside0 (laws_FnExactFirstPacked.j2 kq t345 t344 x95_56 = some r) ∧ Aside0 (kq ≤ kj34) ∧ Aside0 (Kd.R (Kd.int .i64) 3 wc w.heap.size (fun _ => True) (.slice Ao58 t332.length co58) t345) ∧ Aside0 (wc.heap[gb316]? = some (.cells #[.int .i64 a1_0, .int .i64 a1_1] 24 (0, 0))) ∧ Aside0 (Below w.heap.size w wc))
                      case first =>
                        have H := HC57.out
                        clear HC57
                        replace H := Option.bind_eq_some_iff.mp H
                        obtain ⟨t356, A650, H⟩ := H
                        replace H : (if t356 = true then (laws_FnExactFirstPacked.j2 kj34 t345 t344 (t355 != t326)) else (laws_FnExactFirstPacked.j2 kj34 t345 t344 true)) = some r := H
                        have A65 := Aside0.mk A650
                        clear A650
                        by_cases c66 : t356 = true
                        · subst c66
                          have H1 : (laws_FnExactFirstPacked.j2 kj34 t345 t344 (t355 != t326)) = some r := by rw [if_pos rfl] at H; exact H
                          clear H
                          have H := H1
                          clear H1
                          have H' := Aside0.mk H
                          clear H
                          obtain ⟨Ao67, co67, eo67⟩ := Kd.R_slice HO354.out
                          subst eo67
                          obtain ⟨Ao68, co68, eo68⟩ := Kd.V_slice HO_6.out
                          subst eo68
                          go_wp2_with (first | ((with_reducible refine gate_callee (f := 21) rfl ?_); refine goesL_ (some 89) rfl rfl Try.func21 (by kernel_rfl) rfl #[.slice Ao67 t352.length co67, .slice Ao68 t323.length co68] rfl (by (try simp only [List.map_toArray, List.map_cons, List.map_nil]); first | done | rfl | (simp only [List.length_drop, List.length_take]; rfl)) ?_; (with_reducible refine (laws_eqIntS.calls kj34 _ _ t352 _ _ t323 true _ ?side1 ?side2 ?side3 ?side4 A65.out).mono ?_); (case side1 => repeat (first | exact (Kd.R_reads' HO354.out).2.2 | (with_reducible refine Kd.C_alloc ?_ _) | (with_reducible refine Kd.C_drewN ?_ _) | (with_reducible refine Kd.C_drew ?_))); (case side2 => exact (Kd.R_reads' HO354.out).2.1); (case side3 => repeat (first | exact (Kd.V_reads' HO_6.out).2.2 | (with_reducible refine Kd.C_alloc ?_ _) | (with_reducible refine Kd.C_drewN ?_ _) | (with_reducible refine Kd.C_drew ?_))); (case side4 => exact (Kd.V_reads' HO_6.out).2.1); rintro e w' ⟨rfl, ⟨nd, rfl⟩⟩; refine ⟨_, rfl, ?_⟩))
                          go_meet
                          case rel => exact ⟨_, ((t355 != t326)), (by first | rfl | (simp; done) | (simp [*]; done)), H', ⟨by have := HJ11.out; have := HJ34.out; first | omega | exact Nat.le_refl _⟩, ⟨by (with_reducible repeat (first | apply Kd.R_alloc | apply Kd.R_drewN | apply Kd.R_drew)); exact Kd.R_mono HO_9.out (fun _ hk => trivial)⟩, ⟨by (with_reducible repeat (first | refine blk_drewN ?_ _ | refine blk_drew ?_ | refine blk_alloc ?_ _)); exact BK316.out⟩, ⟨by repeat (first | (with_reducible first | exact HB.out | apply below_alloc | apply pw_below_drewN | apply below_drew1 | refine below_set ?_ GE316.out) | exact HB.out)⟩⟩
                        · replace c66 := Bool.eq_false_iff.mpr c66
                          subst c66
                          have H1 : (laws_FnExactFirstPacked.j2 kj34 t345 t344 true) = some r := by rw [if_neg (show ¬ (false = true) by decide)] at H; exact H
                          clear H
                          have H := H1
                          clear H1
                          have H' := Aside0.mk H
                          clear H
                          obtain ⟨Ao69, co69, eo69⟩ := Kd.R_slice HO354.out
                          subst eo69
                          obtain ⟨Ao70, co70, eo70⟩ := Kd.V_slice HO_6.out
                          subst eo70
                          go_wp2_with (first | ((with_reducible refine gate_callee (f := 21) rfl ?_); refine goesL_ (some 89) rfl rfl Try.func21 (by kernel_rfl) rfl #[.slice Ao69 t352.length co69, .slice Ao70 t323.length co70] rfl (by (try simp only [List.map_toArray, List.map_cons, List.map_nil]); first | done | rfl | (simp only [List.length_drop, List.length_take]; rfl)) ?_; (with_reducible refine (laws_eqIntS.calls kj34 _ _ t352 _ _ t323 false _ ?side1 ?side2 ?side3 ?side4 A65.out).mono ?_); (case side1 => repeat (first | exact (Kd.R_reads' HO354.out).2.2 | (with_reducible refine Kd.C_alloc ?_ _) | (with_reducible refine Kd.C_drewN ?_ _) | (with_reducible refine Kd.C_drew ?_))); (case side2 => exact (Kd.R_reads' HO354.out).2.1); (case side3 => repeat (first | exact (Kd.V_reads' HO_6.out).2.2 | (with_reducible refine Kd.C_alloc ?_ _) | (with_reducible refine Kd.C_drewN ?_ _) | (with_reducible refine Kd.C_drew ?_))); (case side4 => exact (Kd.V_reads' HO_6.out).2.1); rintro e w' ⟨rfl, ⟨nd, rfl⟩⟩; refine ⟨_, rfl, ?_⟩))
                          go_meet
                          case rel => exact ⟨_, (true), (by first | rfl | (simp; done) | (simp [*]; done)), H', ⟨by have := HJ11.out; have := HJ34.out; first | omega | exact Nat.le_refl _⟩, ⟨by (with_reducible repeat (first | apply Kd.R_alloc | apply Kd.R_drewN | apply Kd.R_drew)); exact Kd.R_mono HO_9.out (fun _ hk => trivial)⟩, ⟨by (with_reducible repeat (first | refine blk_drewN ?_ _ | refine blk_drew ?_ | refine blk_alloc ?_ _)); exact BK316.out⟩, ⟨by repeat (first | (with_reducible first | exact HB.out | apply below_alloc | apply pw_below_drewN | apply below_drew1 | refine below_set ?_ GE316.out) | exact HB.out)⟩⟩
                      case rest =>
                        clear HC57
                        try clear c1
                        try clear c2
                        try clear p2
                        try clear c3
                        try clear c4
                        try clear c4b0
                        try clear c5
                        try clear c6
                        try clear c11
                        try clear c13
                        try clear c14
                        try clear c16
                        try clear c21
                        try clear c22
                        try clear c23
                        try clear c24
                        try clear c25
                        try clear c26
                        try clear c30
                        try clear c33
                        try clear c40
                        try clear c40b0
                        try clear c42
                        try clear c47
                        try clear c50
                        try clear c50b0
                        try clear c53
                        try clear c53b0
                        try clear c53b1
                        try clear c66
                        try clear hcz20_0
                        try clear hcz20_1
                        try clear hfz20_0
                        try clear hfz20_1
                        try clear p2
                        obtain ⟨kq, x95_56, rfl, HA, HJ56, HO_9, BK316, HB⟩ := hcut
                        have hl9_56 := (Kd.R_reads' HO_9.out).1
                        rw [hl9_56] at HO_9
                        (try simp only [hl9_56])
                        (try simp only [hl9_56] at BK316)
                        cases kq with
                        | zero => exact absurd HA.out (by simp [laws_FnExactFirstPacked.j2])
                        | succ kj56 =>
                          have H := HA.out
                          clear HA
                          simp only [laws_FnExactFirstPacked.j2] at H
                          by_cases c71 : x95_56 = true
                          · subst c71
                            have H1 : (some false) = some r := by rw [if_pos rfl] at H; exact H
                            clear H
                            have H := H1
                            clear H1
                            obtain rfl := Option.some.inj H
                            go_wp2
                            go_ret
                            exact ⟨by first | rfl | (simp [errW_none, errW_some] <;> rfl) | (simp [*, errW_none, errW_some] <;> rfl), by repeat (first | (with_reducible first | exact HB.out | apply below_alloc | apply pw_below_drewN | apply below_drew1 | refine below_set ?_ GE316.out) | exact HB.out)⟩
                          · replace c71 := Bool.eq_false_iff.mpr c71
                            subst c71
                            have H1 : ((laws_heldIntS.f kj56 t345 1).bind fun t357 => (if t357 < 0 then (some false) else (if t357 = t344 then (some true) else (some false)))) = some r := by rw [if_neg (show ¬ (false = true) by decide)] at H; exact H
                            clear H
                            have H := H1
                            clear H1
                            replace H := Option.bind_eq_some_iff.mp H
                            obtain ⟨t357, A720, H⟩ := H
                            replace H : (if t357 < 0 then (some false) else (if t357 = t344 then (some true) else (some false))) = some r := H
                            have A72 := Aside0.mk A720
                            clear A720
                            by_cases c73 : t357 < 0
                            · rw [if_pos c73] at H
                              have c73b0 : decide (t357 < 0) = true := decide_eq_true c73
                              clear c73
                              obtain rfl := Option.some.inj H
                              go_wp2_with (first | ((with_reducible refine gate_callee (f := 24) rfl ?_); refine goesL_ (some 98) rfl rfl Try.func24 (by kernel_rfl) rfl #[.slice Ao58 t345.length co58, .int .i64 1] rfl (by (try simp only [List.map_toArray, List.map_cons, List.map_nil]); first | done | rfl | (simp only [List.length_drop, List.length_take]; rfl)) ?_; (with_reducible refine (laws_heldIntS.calls kj56 _ _ t345 1 t357 _ ?side1 ?side2 A72.out).mono ?_); (case side1 => repeat (first | exact (Kd.R_reads' HO_9.out).2.2 | (with_reducible refine Kd.C_alloc ?_ _) | (with_reducible refine Kd.C_drewN ?_ _) | (with_reducible refine Kd.C_drew ?_))); (case side2 => exact (Kd.R_reads' HO_9.out).2.1); rintro e w' ⟨rfl, ⟨nd, rfl⟩⟩; refine ⟨_, rfl, ?_⟩))
                              go_ret
                              exact ⟨by first | rfl | (simp [errW_none, errW_some] <;> rfl) | (simp [*, errW_none, errW_some] <;> rfl), by repeat (first | (with_reducible first | exact HB.out | apply below_alloc | apply pw_below_drewN | apply below_drew1 | refine below_set ?_ GE316.out) | exact HB.out)⟩
                            · rw [if_neg c73] at H
                              have c73b0 : decide (t357 < 0) = false := decide_eq_false c73
                              clear c73
                              by_cases c74 : t357 = t344
                              · rw [if_pos c74] at H
                                have c74b0 : (t357 == t344) = true := beq_iff_eq.mpr c74
                                have c74b1 : (t357 != t344) = false := bne_eq_false_iff_eq.mpr c74
                                clear c74
                                obtain rfl := Option.some.inj H
                                go_wp2_with (first | ((with_reducible refine gate_callee (f := 24) rfl ?_); refine goesL_ (some 98) rfl rfl Try.func24 (by kernel_rfl) rfl #[.slice Ao58 t345.length co58, .int .i64 1] rfl (by (try simp only [List.map_toArray, List.map_cons, List.map_nil]); first | done | rfl | (simp only [List.length_drop, List.length_take]; rfl)) ?_; (with_reducible refine (laws_heldIntS.calls kj56 _ _ t345 1 t357 _ ?side1 ?side2 A72.out).mono ?_); (case side1 => repeat (first | exact (Kd.R_reads' HO_9.out).2.2 | (with_reducible refine Kd.C_alloc ?_ _) | (with_reducible refine Kd.C_drewN ?_ _) | (with_reducible refine Kd.C_drew ?_))); (case side2 => exact (Kd.R_reads' HO_9.out).2.1); rintro e w' ⟨rfl, ⟨nd, rfl⟩⟩; refine ⟨_, rfl, ?_⟩))
                                go_ret
                                exact ⟨by first | rfl | (simp [errW_none, errW_some] <;> rfl) | (simp [*, errW_none, errW_some] <;> rfl), by repeat (first | (with_reducible first | exact HB.out | apply below_alloc | apply pw_below_drewN | apply below_drew1 | refine below_set ?_ GE316.out) | exact HB.out)⟩
                              · rw [if_neg c74] at H
                                have c74b0 : (t357 == t344) = false := beq_eq_false_iff_ne.mpr c74
                                have c74b1 : (t357 != t344) = true := bne_iff_ne.mpr c74
                                obtain rfl := Option.some.inj H
                                go_wp2_with (first | ((with_reducible refine gate_callee (f := 24) rfl ?_); refine goesL_ (some 98) rfl rfl Try.func24 (by kernel_rfl) rfl #[.slice Ao58 t345.length co58, .int .i64 1] rfl (by (try simp only [List.map_toArray, List.map_cons, List.map_nil]); first | done | rfl | (simp only [List.length_drop, List.length_take]; rfl)) ?_; (with_reducible refine (laws_heldIntS.calls kj56 _ _ t345 1 t357 _ ?side1 ?side2 A72.out).mono ?_); (case side1 => repeat (first | exact (Kd.R_reads' HO_9.out).2.2 | (with_reducible refine Kd.C_alloc ?_ _) | (with_reducible refine Kd.C_drewN ?_ _) | (with_reducible refine Kd.C_drew ?_))); (case side2 => exact (Kd.R_reads' HO_9.out).2.1); rintro e w' ⟨rfl, ⟨nd, rfl⟩⟩; refine ⟨_, rfl, ?_⟩))
                                go_ret
                                exact ⟨by first | rfl | (simp [errW_none, errW_some] <;> rfl) | (simp [*, errW_none, errW_some] <;> rfl), by repeat (first | (with_reducible first | exact HB.out | apply below_alloc | apply pw_below_drewN | apply below_drew1 | refine below_set ?_ GE316.out) | exact HB.out)⟩
                    · rw [if_neg c53] at H
                      have c53b0 : (t346 == t344) = false := beq_eq_false_iff_ne.mpr c53
                      have c53b1 : (t346 != t344) = true := bne_iff_ne.mpr c53
                      obtain rfl := Option.some.inj H
                      obtain ⟨Ao75, co75, eo75⟩ := Kd.R_slice HO_9.out
                      subst eo75
                      go_wp2_with (first | ((with_reducible refine gate_callee (f := 23) rfl ?_); refine goesL_ (some 70) rfl rfl Try.func23 (by kernel_rfl) rfl #[.slice Ao75 t332.length co75, .int .i64 1] rfl (by (try simp only [List.map_toArray, List.map_cons, List.map_nil]); first | done | rfl | (simp only [List.length_drop, List.length_take]; rfl)) ?_; (with_reducible refine (laws_markIntS.calls kj34 (fun k_ => some k_ = (.slice Ao75 t332.length co75 : Value).ownBlock) (.slice Ao75 t332.length co75) t332 1 t344 t345 w _ ?side1 ?side2 A48.out).mono ?_); (case side1 => repeat (first | (with_reducible first | exact HB.out | apply below_alloc | apply pw_below_drewN | apply below_drew1 | refine below_set ?_ GE316.out) | exact HB.out)); (case side2 => exact Kd.R_tight rfl HO_9.out); rintro e w76 ⟨rfl, hy0, hb, hkp⟩; refine ⟨_, rfl, ?_⟩; have n0_ := Aside0.mk (Kd.V_mono (ok' := fun k_ => some k_ ≠ (.slice Ao75 t332.length co75 : Value).ownBlock ∧ k_ ≠ gb316) (Kd.V_keptB (HO_6.out) hkp (fun k_ hk_ hs_ => (hk_.1) hs_)) (fun k_ hk_ => ⟨hk_.1.1, hk_.1.2⟩)); have n1_ := Aside0.mk (Kd.R_reok rfl hy0 (fun k_ e_ => HO_9.out.1 k_ e_)); have n2_ := Aside0.mk (blk_kept (by (with_reducible repeat (first | refine blk_drewN ?_ _ | refine blk_drew ?_ | refine blk_alloc ?_ _)); exact BK316.out) hkp (fun hs_ => (fun e_ => (Kd.R_ne HO_9.out BK316.out (by decide)) e_) hs_)); have n3_ := Aside0.mk (hb); clear HO_6; clear HO_9; clear BK316; clear HB; have HO_6 := n0_; have HO_9 := n1_; have BK316 := n2_; have HB := n3_; clear n0_ n1_ n2_ n3_; (try clear hb); (try clear hkp); (try clear hy0)) | ((with_reducible refine gate_callee (f := 24) rfl ?_); refine goesL_ (some 73) rfl rfl Try.func24 (by kernel_rfl) rfl #[.slice Ao75 t345.length co75, .int .i64 1] rfl (by (try simp only [List.map_toArray, List.map_cons, List.map_nil]); first | done | (rw [show t345.length = t332.length from (Kd.R_reads' HO_9.out).1.symm] <;> rfl) | rfl | (simp only [List.length_drop, List.length_take]; rfl)) ?_; (with_reducible refine (laws_heldIntS.calls kj34 _ _ t345 1 t346 _ ?side1 ?side2 A49.out).mono ?_); (case side1 => repeat (first | exact (Kd.R_reads' HO_9.out).2.2 | (with_reducible refine Kd.C_alloc ?_ _) | (with_reducible refine Kd.C_drewN ?_ _) | (with_reducible refine Kd.C_drew ?_))); (case side2 => rw [show t345.length = t332.length from (Kd.R_reads' HO_9.out).1.symm]; exact (Kd.R_reads' HO_9.out).2.1); rintro e w' ⟨rfl, ⟨nd, rfl⟩⟩; refine ⟨_, rfl, ?_⟩))
                      go_ret
                      exact ⟨by first | rfl | (simp [errW_none, errW_some] <;> rfl) | (simp [*, errW_none, errW_some] <;> rfl), by repeat (first | (with_reducible first | exact HB.out | apply below_alloc | apply pw_below_drewN | apply below_drew1 | refine below_set ?_ GE316.out) | exact HB.out)⟩
          · replace c33 := Bool.eq_false_iff.mpr c33
            subst c33
            have H1 : (some false) = some r := by rw [if_neg (show ¬ (false = true) by decide)] at H; exact H
            clear H
            have H := H1
            clear H1
            obtain rfl := Option.some.inj H
            go_wp2_with (first | ((with_reducible refine gate_callee (f := 13) rfl ?_); refine goesL_ (some 49) rfl rfl Try.func13 (by kernel_rfl) rfl #[.slice A0 l0.length c0] rfl (by (try simp only [List.map_toArray, List.map_cons, List.map_nil]); first | done | rfl | (simp only [List.length_drop, List.length_take]; rfl)) ?_; (with_reducible refine (laws_toItemS.calls kj11 _ _ l0 t337 _ ?side1 ?side2 A31.out).mono ?_); (case side1 => repeat (first | exact (Kd.C_below HR0.out HB.out) | (with_reducible refine Kd.C_alloc ?_ _) | (with_reducible refine Kd.C_drewN ?_ _) | (with_reducible refine Kd.C_drew ?_))); (case side2 => exact HC0.out); rintro e w77 ⟨v338, rfl, ho0, hb⟩; refine ⟨_, rfl, ?_⟩; have n0_ := Aside0.mk (Kd.V_elder' (by (with_reducible repeat (first | apply Kd.V_alloc | apply Kd.V_drewN | apply Kd.V_drew)); exact HO_6.out) (Kd.R_base ho0) hb); have n1_ := Aside0.mk (Kd.R_elder' (by (with_reducible repeat (first | apply Kd.R_alloc | apply Kd.R_drewN | apply Kd.R_drew)); exact HO_8.out) (Kd.R_base ho0) hb); have n2_ := Aside0.mk (Kd.R_below (by (with_reducible repeat (first | apply Kd.R_alloc | apply Kd.R_drewN | apply Kd.R_drew)); exact HO_9.out) hb); have n3_ := Aside0.mk (Kd.R_lower (Kd.R_new' ho0 (Kd.R_lt (by (with_reducible repeat (first | apply Kd.R_alloc | apply Kd.R_drewN | apply Kd.R_drew)); exact HO_8.out))) (below_size (by repeat (first | (with_reducible first | exact HB.out | apply below_alloc | apply pw_below_drewN | apply below_drew1 | refine below_set ?_ GE316.out) | exact HB.out)))); have n4_ := Aside0.mk (blk_below (g := gb316) (o := .cells #[.int .i64 a1_0, .int .i64 a1_1] 24 (0, 0)) (by (with_reducible repeat (first | refine blk_drewN ?_ _ | refine blk_drew ?_ | refine blk_alloc ?_ _)); exact BK316.out) hb); have n5_ := Aside0.mk (below_step (by repeat (first | (with_reducible first | exact HB.out | apply below_alloc | apply pw_below_drewN | apply below_drew1 | refine below_set ?_ GE316.out) | exact HB.out)) hb); clear HO_6; clear HO_8; clear HO_9; clear BK316; clear HB; have HO_6 := n0_; have HO_8 := n1_; have HO_9 := n2_; have HO339 := n3_; have BK316 := n4_; have HB := n5_; clear n0_ n1_ n2_ n3_ n4_ n5_; (try clear hb); (try clear hb2); (try clear hk); (try clear hi); (try clear ho0); obtain ⟨Ao78, co78, eo78⟩ := Kd.R_slice HO339.out; subst eo78) | ((with_reducible refine gate_callee (f := 16) rfl ?_); refine goesL_ (some 50) rfl rfl Try.func16 (by kernel_rfl) rfl #[.slice Ao22 t327.length co22, .slice Ao78 t337.length co78] rfl (by (try simp only [List.map_toArray, List.map_cons, List.map_nil]); first | done | rfl | (simp only [List.length_drop, List.length_take]; rfl)) ?_; (with_reducible refine (laws_eqItemS.calls kj11 _ _ t327 _ _ t337 false _ ?side1 ?side2 ?side3 ?side4 A32.out).mono ?_); (case side1 => repeat (first | exact (Kd.R_reads' HO_8.out).2.2 | (with_reducible refine Kd.C_alloc ?_ _) | (with_reducible refine Kd.C_drewN ?_ _) | (with_reducible refine Kd.C_drew ?_))); (case side2 => exact (Kd.R_reads' HO_8.out).2.1); (case side3 => repeat (first | exact (Kd.R_reads' HO339.out).2.2 | (with_reducible refine Kd.C_alloc ?_ _) | (with_reducible refine Kd.C_drewN ?_ _) | (with_reducible refine Kd.C_drew ?_))); (case side4 => exact (Kd.R_reads' HO339.out).2.1); rintro e w79 ⟨rfl, hb⟩; refine ⟨_, rfl, ?_⟩; have n0_ := Aside0.mk (Kd.V_below (by (with_reducible repeat (first | apply Kd.V_alloc | apply Kd.V_drewN | apply Kd.V_drew)); exact HO_6.out) hb); have n1_ := Aside0.mk (Kd.R_below (by (with_reducible repeat (first | apply Kd.R_alloc | apply Kd.R_drewN | apply Kd.R_drew)); exact HO_8.out) hb); have n2_ := Aside0.mk (Kd.R_below (by (with_reducible repeat (first | apply Kd.R_alloc | apply Kd.R_drewN | apply Kd.R_drew)); exact HO_9.out) hb); have n3_ := Aside0.mk (Kd.R_below (by (with_reducible repeat (first | apply Kd.R_alloc | apply Kd.R_drewN | apply Kd.R_drew)); exact HO339.out) hb); have n4_ := Aside0.mk (blk_below (g := gb316) (o := .cells #[.int .i64 a1_0, .int .i64 a1_1] 24 (0, 0)) (by (with_reducible repeat (first | refine blk_drewN ?_ _ | refine blk_drew ?_ | refine blk_alloc ?_ _)); exact BK316.out) hb); have n5_ := Aside0.mk (below_step (by repeat (first | (with_reducible first | exact HB.out | apply below_alloc | apply pw_below_drewN | apply below_drew1 | refine below_set ?_ GE316.out) | exact HB.out)) hb); clear HO_6; clear HO_8; clear HO_9; clear HO339; clear BK316; clear HB; have HO_6 := n0_; have HO_8 := n1_; have HO_9 := n2_; have HO339 := n3_; have BK316 := n4_; have HB := n5_; clear n0_ n1_ n2_ n3_ n4_ n5_; (try clear hb); (try clear hb2); (try clear hk); (try clear hi)))
            go_ret
            exact ⟨by first | rfl | (simp [errW_none, errW_some] <;> rfl) | (simp [*, errW_none, errW_some] <;> rfl), by repeat (first | (with_reducible first | exact HB.out | apply below_alloc | apply pw_below_drewN | apply below_drew1 | refine below_set ?_ GE316.out) | exact HB.out)⟩

end Go.Proofs.Ytkaihdpmjlhlaaa.Q

namespace Go.Proofs.Ytkaihdpmjlhlaaa.Q
open Go.RowKit Go.Proofs.YtkaihdpmjlhlaaaW.PrintWords Go.Proofs.YtkaihdpmjlhlaaaW.PrintLast Go.Proofs.YtkaihdpmjlhlaaaW.PrintMore
set_option linter.unusedVariables false
set_option linter.unusedSimpArgs false

/-- Items are right: each number from 0 to 200. -/
def Light (items : List Item) : Prop := items.length ≤ 10 ∧ ∀ i : Int, 0 ≤ i → i < (items.length : Int) → (0 ≤ (rd_T49 items i).f0 ∧ (rd_T49 items i).f0 ≤ 200) ∧ (0 ≤ (rd_T49 items i).f1 ∧ (rd_T49 items i).f1 ≤ 200) ∧ 0 ≤ (rd_T49 items i).f2 ∧ (rd_T49 items i).f2 ≤ 200
theorem light_of {items : List Item} (hn : items.length ≤ 10) (h : ∀ x ∈ items, okItem x = true) : Light items := by
  refine ⟨hn, fun i h0 h1 => ?_⟩
  have hm : rd_T49 items i ∈ items := by
    unfold rd_T49
    rw [List.getD_eq_getElem?_getD, List.getElem?_eq_getElem (by omega)]
    exact List.getElem_mem _
  have := h _ hm
  unfold okItem at this
  simp only [Bool.and_eq_true, decide_eq_true_eq] at this
  exact ⟨by omega, by omega, by omega⟩
theorem tot_snoc (items : List Item) (ch : List Int) (i : Int) : tot items (ch ++ [i]) = addTo items (tot items ch) i := by simp [tot]
theorem tot_bound {items : List Item} (hL : Light items) : ∀ n (ch : List Int), ch.length = n → Inside items ch → n ≤ 1000 → (0 ≤ (tot items ch).1 ∧ (tot items ch).1 ≤ 200 * n) ∧ (0 ≤ (tot items ch).2.1 ∧ (tot items ch).2.1 ≤ 200 * n) ∧ 0 ≤ (tot items ch).2.2 ∧ (tot items ch).2.2 ≤ 200 * n := by
  intro n
  induction n with
  | zero => intro ch h _ _; rw [List.eq_nil_of_length_eq_zero h]; simp [tot]
  | succ n ih =>
    intro ch h hin hle
    have hne : ch ≠ [] := by intro e; subst e; simp at h
    rw [← List.dropLast_concat_getLast hne, tot_snoc]
    have hi := hin _ (List.getLast_mem hne)
    have h1 := ih ch.dropLast (by simp [h]) (fun x hx => hin x (List.dropLast_subset _ hx)) (by omega)
    have h2 := hL.2 _ hi.1 hi.2
    unfold addTo
    simp only
    rw [w64 (by omega) (by omega), w64 (by omega) (by omega), w64 (by omega) (by omega)]
    omega
theorem tot_add {items : List Item} (hL : Light items) (ch : List Int) (i : Int) (hin : Inside items ch) (hi : 0 ≤ i ∧ i < (items.length : Int)) (hl : ch.length ≤ 900) :
    (tot items (ch ++ [i])).1 = (tot items ch).1 + (rd_T49 items i).f0 ∧ (tot items (ch ++ [i])).2.1 = (tot items ch).2.1 + (rd_T49 items i).f1 ∧ (tot items (ch ++ [i])).2.2 = (tot items ch).2.2 + (rd_T49 items i).f2 := by
  have h1 := tot_bound hL _ ch rfl hin (by omega)
  have h2 := hL.2 i hi.1 hi.2
  rw [tot_snoc]
  unfold addTo
  exact ⟨w64 (by omega) (by omega), w64 (by omega) (by omega), w64 (by omega) (by omega)⟩
theorem fits_less {items : List Item} (hL : Light items) (a b : Int) (ch : List Int) (i : Int) (hin : Inside items ch) (hi : 0 ≤ i ∧ i < (items.length : Int)) (hl : ch.length ≤ 900) (h : fitsC items a b ch = false) : fitsC items a b (ch ++ [i]) = false := by
  have h1 := tot_add hL ch i hin hi hl
  have h2 := hL.2 i hi.1 hi.2
  unfold fitsC at h ⊢
  rw [h1.1, h1.2.1]
  simp only [Bool.and_eq_false_iff, decide_eq_false_iff_not] at h ⊢
  omega
theorem inside_snoc {items : List Item} {ch : List Int} {i : Nat} (h : ∀ x ∈ ch, 0 ≤ x ∧ x < (i : Int)) : ∀ x ∈ ch ++ [(i : Int)], 0 ≤ x ∧ x < ((i + 1 : Nat) : Int) := fun x hx => by
  rcases List.mem_append.1 hx with hx | hx
  · have := h x hx; omega
  · have := List.mem_singleton.1 hx; omega
theorem inside_of {items : List Item} {ch : List Int} {i : Nat} (h : ∀ x ∈ ch, 0 ≤ x ∧ x < (i : Int)) (hi : i ≤ items.length) : Inside items ch := fun x hx => by have := h x hx; omega
theorem loopV_none {items : List Item} (hL : Light items) (a b : Int) : ∀ d ch i, i + d = items.length → (∀ x ∈ ch, 0 ≤ x ∧ x < (i : Int)) → ch.length ≤ i → fitsC items a b ch = false → (loopV d ch i).filter (fitsC items a b) = [] := by
  intro d
  induction d with
  | zero => intro ch i _ _ _ _; rfl
  | succ d ih =>
    intro ch i hd hin hl hf
    have h10 := hL.1
    have hf2 := fits_less hL a b ch (i : Int) (inside_of hin (by omega)) ⟨by omega, by omega⟩ (by omega) hf
    unfold loopV
    rw [List.filter_append, List.filter_cons, if_neg (by rw [hf2]; decide), ih _ (i + 1) (by omega) (inside_snoc (items := items) hin) (by simp; omega) hf2, ih ch (i + 1) (by omega) (fun x hx => by have := hin x hx; omega) (by omega) hf]
    rfl
theorem loopV_look {items : List Item} (hL : Light items) (a b : Int) : ∀ d ch i, i + d = items.length → (∀ x ∈ ch, 0 ≤ x ∧ x < (i : Int)) → ch.length ≤ i → (loopV d ch i).filter (fitsC items a b) = lookV items a b d ch i := by
  intro d
  induction d with
  | zero => intro ch i _ _ _; rfl
  | succ d ih =>
    intro ch i hd hin hl
    have h10 := hL.1
    unfold loopV lookV
    rw [List.filter_append, List.filter_cons, ih ch (i + 1) (by omega) (fun x hx => by have := hin x hx; omega) (by omega)]
    by_cases hf : fitsC items a b (ch ++ [(i : Int)]) = true
    · rw [if_pos hf, if_pos hf, ih _ (i + 1) (by omega) (inside_snoc (items := items) hin) (by simp; omega)]
    · rw [if_neg hf, if_neg hf, loopV_none hL a b d _ (i + 1) (by omega) (inside_snoc (items := items) hin) (by simp; omega) (by simpa using hf)]
/-- All choices, in order. -/
def choicesL (items : List Item) (a b : Int) : List (List Int) := [] :: lookV items a b items.length [] 0
theorem allV_choices {items : List Item} (hL : Light items) (a b : Int) (ha : 0 ≤ a) (hb : 0 ≤ b) : (allV items.length).filter (fitsC items a b) = choicesL items a b := by
  unfold allV choicesL
  rw [List.filter_cons, if_pos (by simp [fitsC, tot, ha, hb]), loopV_look hL a b items.length [] 0 (by omega) (fun x hx => by cases hx) (by simp)]
theorem foldl_visit {σ : Type} (items : List Item) (accept : Int × Int × Int → Bool) (step : σ → List Int → σ) : ∀ (L : List (List Int)) (s : σ), L.foldl (visit items accept step) s = (L.filter (fun ch => accept (tot items ch))).foldl step s := by
  intro L
  induction L with
  | nil => intro s; rfl
  | cons ch L ih =>
    intro s
    rw [List.foldl_cons, List.filter_cons, ih]
    unfold visit
    split <;> simp
/-- What is done at each choice. -/
theorem visit_choices {σ : Type} {items : List Item} (hL : Light items) (a b : Int) (ha : 0 ≤ a) (hb : 0 ≤ b) (step : σ → List Int → σ) (s : σ) : (allV items.length).foldl (visit items (holdsC a b) step) s = (choicesL items a b).foldl step s := by
  rw [foldl_visit, ← allV_choices hL a b ha hb]
  rfl
theorem lookV_inside (items : List Item) (a b : Int) : ∀ d ch i, i + d = items.length → (∀ x ∈ ch, 0 ≤ x ∧ x < (i : Int)) → ch.length ≤ i → ∀ c ∈ lookV items a b d ch i, Inside items c ∧ c.length ≤ items.length := by
  intro d
  induction d with
  | zero => intro ch i _ _ _ c hc; cases hc
  | succ d ih =>
    intro ch i hd hin hl c hc
    unfold lookV at hc
    rcases List.mem_append.1 hc with hc | hc
    · split at hc
      · rcases List.mem_cons.1 hc with rfl | hc
        · exact ⟨inside_of (inside_snoc (items := items) hin) (by omega), by simp; omega⟩
        · exact ih _ (i + 1) (by omega) (inside_snoc (items := items) hin) (by simp; omega) c hc
      · cases hc
    · exact ih ch (i + 1) (by omega) (fun x hx => by have := hin x hx; omega) (by omega) c hc
theorem choicesL_inside (items : List Item) (a b : Int) : ∀ c ∈ choicesL items a b, Inside items c ∧ c.length ≤ items.length := by
  intro c hc
  rcases List.mem_cons.1 hc with rfl | hc
  · exact ⟨fun x hx => (by cases hx), by simp⟩
  · exact lookV_inside items a b items.length [] 0 (by omega) (fun x hx => by cases hx) (by simp) c hc
theorem choicesL_length {items : List Item} (hn : items.length ≤ 10) (a b : Int) : (choicesL items a b).length ≤ 1024 := by
  have := lookV_length items a b items.length [] 0
  have hp : 2 ^ items.length ≤ 2 ^ 10 := Nat.pow_le_pow_right (by decide) hn
  unfold choicesL
  rw [List.length_cons]
  omega

/-! ### the reference's best -/
def suStep (items : List Item) (s : List (List Int) × Int) (ch : List Int) : List (List Int) × Int :=
  if s.2 < (tot items ch).2.2 then ([ch], (tot items ch).2.2) else if (tot items ch).2.2 = s.2 then (s.1 ++ [ch], s.2) else s
theorem suBest_l0 (items : List Item) (L : List (List Int)) (hw : ∀ c ∈ L, Inside items c ∧ c.length ≤ 1000) (hn : L.length ≤ 1000000) : ∀ d k i (s : List (List Int) × Int), i + d = L.length → d + 1000 < k → s.1.length ≤ i →
    spec_suBest.l0 k items s.1 s.2 L (L.length : Int) (i : Int) = some ((L.drop i).foldl (suStep items) s) := by
  intro d
  induction d with
  | zero =>
    intro k i s hi hk _
    obtain ⟨k, rfl⟩ : ∃ m, k = m + 1 := ⟨k - 1, by omega⟩
    simp only [spec_suBest.l0]; rw [if_neg (by omega), List.drop_of_length_le (by omega)]; rfl
  | succ d ih =>
    intro k i s hi hk hs
    obtain ⟨k, rfl⟩ : ∃ m, k = m + 1 := ⟨k - 1, by omega⟩
    have hlt : i < L.length := by omega
    have hin := hw L[i] (List.getElem_mem hlt)
    have hrd : rd_L5 L (i : Int) = L[i] := by simp [rd_L5, List.getD_eq_getElem?_getD, hlt]
    simp only [spec_suBest.l0]
    rw [if_pos (by omega), if_pos (by omega), if_pos (by omega), hrd, suTotals_eq items L[i] hin.1 (by omega) k (by omega), w64 (i := (i : Int) + 1) (by omega) (by omega), List.drop_eq_getElem_cons hlt, List.foldl_cons]
    simp only [Option.bind_some, gt_iff_lt]
    by_cases h1 : s.2 < (tot items L[i]).2.2
    · rw [if_pos h1, if_pos trivial, if_pos (by simp), show suStep items s L[i] = ([L[i]], (tot items L[i]).2.2) by unfold suStep; rw [if_pos h1]]
      have := ih k (i + 1) ([L[i]], (tot items L[i]).2.2) (by omega) (by omega) (by simp)
      rw [show ((i + 1 : Nat) : Int) = (i : Int) + 1 by omega] at this
      simpa using this
    · rw [if_neg h1]
      by_cases h2 : (tot items L[i]).2.2 = s.2
      · rw [if_pos h2, if_pos (by omega), show suStep items s L[i] = (s.1 ++ [L[i]], s.2) by unfold suStep; rw [if_neg h1, if_pos h2]]
        have := ih k (i + 1) (s.1 ++ [L[i]], s.2) (by omega) (by omega) (by simp; omega)
        rw [show ((i + 1 : Nat) : Int) = (i : Int) + 1 by omega] at this
        exact this
      · rw [if_neg h2, show suStep items s L[i] = s by unfold suStep; rw [if_neg h1, if_neg h2]]
        have := ih k (i + 1) s (by omega) (by omega) (by omega)
        rw [show ((i + 1 : Nat) : Int) = (i : Int) + 1 by omega] at this
        exact this
/-- The choices with the greatest value, and this. -/
def bestL (items : List Item) (a b : Int) : List (List Int) × Int := (choicesL items a b).foldl (suStep items) ([], 0)
theorem suBest_eq (items : List Item) (a b : Int) (hn : items.length ≤ 10) (k : Nat) (hk : 3000 < k) : spec_suBest.f k items a b = some (bestL items a b) := by
  unfold spec_suBest.f spec_suAll.f
  rw [if_pos (by omega)]
  simp only [Option.bind_some]
  have hl := choicesL_length hn a b
  have := suBest_l0 items (choicesL items a b) (fun c hc => by have := choicesL_inside items a b c hc; exact ⟨this.1, by omega⟩) (by omega) (choicesL items a b).length k 0 ([], 0) (by omega) (by omega) (by simp)
  simpa [choicesL, bestL] using this
theorem best_rel {items : List Item} (hL : Light items) : ∀ (L : List (List Int)) (s : List (List Int) × Int) (t : Best), (∀ c ∈ L, Inside items c ∧ c.length ≤ items.length) → (∃ x xs, s.1 = x :: xs ∧ t.1 = x) → t.2.1 = s.2 → t.2.2 = (s.1.length : Int) → s.1.length + L.length ≤ 1000000 →
    ∃ x xs, (L.foldl (suStep items) s).1 = x :: xs ∧ (L.foldl (bestStep items (fun _ y => y.2.2)) t) = (x, (L.foldl (suStep items) s).2, (((L.foldl (suStep items) s).1.length : Nat) : Int)) := by
  intro L
  induction L with
  | nil =>
    rintro ⟨s1, s2⟩ ⟨t1, t2, t3⟩ _ ⟨x, xs, h1, h2⟩ h3 h4 _
    simp only at h1 h2 h3 h4
    exact ⟨x, xs, h1, by simp [h2, h3, h4]⟩
  | cons ch L ih =>
    rintro ⟨s1, s2⟩ ⟨t1, t2, t3⟩ hin ⟨x, xs, h1, h2⟩ h3 h4 hl
    simp only at h1 h2 h3 h4
    subst h1 h2 h3 h4
    rw [List.foldl_cons, List.foldl_cons]
    simp only [List.length_cons] at hl
    unfold suStep bestStep
    simp only
    by_cases c1 : t2 < (tot items ch).2.2
    · rw [if_pos c1, if_pos c1]
      exact ih _ _ (fun c hc => hin c (List.mem_cons_of_mem _ hc)) ⟨ch, [], rfl, rfl⟩ rfl (by simp) (by simp; omega)
    · rw [if_neg c1, if_neg c1]
      by_cases c2 : (tot items ch).2.2 = t2
      · rw [if_pos c2, if_pos c2]
        refine ih _ _ (fun c hc => hin c (List.mem_cons_of_mem _ hc)) ⟨t1, xs ++ [ch], rfl, rfl⟩ rfl ?_ (by simp; omega)
        simp only [List.length_cons, List.cons_append, List.length_append, List.length_nil]
        rw [w64 (by omega) (by omega)]
        omega
      · rw [if_neg c2, if_neg c2]
        exact ih _ _ (fun c hc => hin c (List.mem_cons_of_mem _ hc)) ⟨t1, xs, rfl, rfl⟩ rfl rfl (by simp; omega)
/-- The program's best is the reference's. -/
theorem best_same {items : List Item} (hL : Light items) (a b : Int) (ha : 0 ≤ a) (hb : 0 ≤ b) : ∃ x xs, (bestL items a b).1 = x :: xs ∧ bestAll items a b (fun _ y => y.2.2) = (x, (bestL items a b).2, (((bestL items a b).1.length : Nat) : Int)) := by
  unfold bestAll
  rw [visit_choices hL a b ha hb]
  have hl := choicesL_length hL.1 a b
  have hin := choicesL_inside items a b
  unfold bestL
  unfold choicesL at hl hin ⊢
  rw [List.foldl_cons, List.foldl_cons]
  refine best_rel hL _ _ _ (fun c hc => hin c (List.mem_cons_of_mem _ hc)) ⟨[], [], by simp [suStep, tot], by simp [bestStep, tot]⟩ (by simp [suStep, bestStep, tot]) (by simp [suStep, bestStep, tot]) ?_
  simp only [List.length_cons] at hl
  simp [suStep, tot]; omega
end Go.Proofs.Ytkaihdpmjlhlaaa.Q

namespace Go.Proofs.Ytkaihdpmjlhlaaa.Q
open Go.RowKit Go.Shelf Go.Proofs.YtkaihdpmjlhlaaaW.PrintWords Go.Proofs.YtkaihdpmjlhlaaaW.PrintLast Go.Proofs.YtkaihdpmjlhlaaaW.PrintMore
set_option linter.unusedVariables false
set_option linter.unusedSimpArgs false

theorem caseRow (W : World) (a b : Int) (t : Nat) : Kd.C k30 (W.alloc (.cells #[.int .i64 a, .int .i64 b] t)) (some ⟨W.heap.size, 0, none⟩) [(⟨a, b⟩ : Case)].length [(⟨a, b⟩ : Case)] := by
  have hnew := heap_alloc_new W (.cells #[.int .i64 a, .int .i64 b] t)
  refine ⟨rfl, by simp, fun _ => ⟨_, rfl, fun j p hj => ?_⟩⟩
  have hj0 : j = 0 := by have := (List.getElem?_eq_some_iff.1 hj).1; simp at this; omega
  subst hj0
  have hp : (⟨a, b⟩ : Case) = p := by simpa using hj
  subst hp
  refine ⟨_, rfl, k30_mk _ _, fun i u hu => ?_⟩
  rcases i with _ | _ | i
  · have : Value.int .i64 a = u := by simpa using hu
    subst this
    exact (blk_cell hnew 0).trans rfl
  · have : Value.int .i64 b = u := by simpa using hu
    subst this
    exact (blk_cell hnew 1).trans rfl
  · simp at hu

end Go.Proofs.Ytkaihdpmjlhlaaa.Q
