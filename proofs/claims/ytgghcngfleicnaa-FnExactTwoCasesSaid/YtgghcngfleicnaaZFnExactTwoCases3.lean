/-
  Part 3 of the proof of FnExactTwoCases: what Go functions that it reaches compute, each shown by a walk of its code, and plain laws on numbers and lists.
  CONDITIONS: each theorem's own, as stated.
-/
import Derived.Test.YtgghcngfleicnaaZFnExactTwoCases1
import Derived.Test.YtgghcngfleicnaaZFnExactTwoCases2
import Derived.Deep.RegionHeld3
import Derived.IntWalk
import Derived.Laws.EntriesVeiled
import Derived.Deep.Cut
namespace Go.Proofs.Ytgghcngfleicnaa.Q
open Go.RowKit Go.Shelf Go.Proofs.YtgghcngfleicnaaW.PrintWords Go.Proofs.YtgghcngfleicnaaW.PrintLast Go.Proofs.YtgghcngfleicnaaW.PrintMore
set_option linter.unusedVariables false
set_option linter.unusedSimpArgs false

/-- The lists on the way behind a list, in order: d more places from 'from' on. -/
def loopV : Nat → List Int → Nat → List (List Int)
  | 0, _, _ => []
  | d + 1, ch, i => ((ch ++ [(i : Int)]) :: loopV d (ch ++ [(i : Int)]) (i + 1)) ++ loopV d ch (i + 1)

abbrev valTot (x : Int × Int × Int) : Value := .agg #[.int .i64 x.1, .int .i64 x.2.1, .int .i64 x.2.2]
abbrev kInt : Kd Int := Kd.int .i64
/-- One list. -/
def visit {σ : Type} (items : List Item) (accept : Int × Int × Int → Bool) (step : σ → List Int → σ) (s : σ) (ch : List Int) : σ := if accept (tot items ch) = true then step s ch else s

/-- What the two functions that choices is handed do. -/
structure Two {σ : Type} (items : List Item) (S : Nat → Prop) (I : σ → World → Prop) (base : Nat) (w1 : World) (ga : Nat) (bda fra : Array Value) (ge : Nat) (bde fre : Array Value) (accept : Int × Int × Int → Bool) (step : σ → List Int → σ) : Prop where
  ea : ∀ args w, (callFunc ga args).run Try.prog w = .ok (.enter ga args) w
  ee : ∀ args w, (callFunc ge args).run Try.prog w = .ok (.enter ge args) w
  st : ∀ s W W', I s W → Below W.heap.size W W' → I s W'
  acc : ∀ W x, Fr S w1 W → Calls Try.prog ga (bda.push (valTot x) ++ fra) W fun e w' => e = .returned (.bool (accept x)) ∧ Below W.heap.size W w'
  each : ∀ s W v ch, Fr S w1 W → I s W → Kd.R kInt 3 W base (fun k => ¬ S k) v ch → Inside items ch → ch.length ≤ items.length → accept (tot items ch) = true →
    Calls Try.prog ge (bde ++ (#[v, valTot (tot items ch)] ++ fre)) W fun e w' => e = .returned (.tuple #[]) ∧ I (step s ch) w' ∧ Fr S W w'

set_option maxRecDepth 100000 in
set_option maxHeartbeats 4000000 in
theorem choose_calls {σ : Type} (items : List Item) (A0 : Option Addr) (c0 : Nat) (S : Nat → Prop) (I : σ → World → Prop) (base : Nat) (w1 : World) (ga : Nat) (bda fra : Array Value) (ge : Nat) (bde fre : Array Value) (accept : Int × Int × Int → Bool) (step : σ → List Int → σ)
    (Bi Ba Be Bc : Nat) (hn : items.length ≤ 1000) (T : Two items S I base w1 ga bda fra ge bde fre accept step) (hb1 : base ≤ w1.heap.size) (hSl : ∀ k, S k → k < w1.heap.size)
    (hC : ∀ W, Fr S w1 W → Kd.C k54 W A0 items.length items) (hc0 : items.length ≤ c0)
    (xi : Boxed w1 Bi 25 (.slice A0 items.length c0)) (xa : Boxed w1 Ba 60 (.func (.func ga) bda fra)) (xe : Boxed w1 Be 81 (.func (.func ge) bde fre))
    (xc : Boxed w1 Bc 90 (.func (.func 78) #[] #[.pointer (some ⟨Bi, 0, none⟩), .pointer (some ⟨Ba, 0, none⟩), .pointer (some ⟨Be, 0, none⟩), .pointer (some ⟨Bc, 0, none⟩)]))
    (ni : ¬ S Bi) (na : ¬ S Ba) (ne : ¬ S Be) (nc : ¬ S Bc) :
    ∀ d s W v ch i, i + d = items.length → Fr S w1 W → I s W → Kd.R kInt 3 W base (fun k => ¬ S k) v ch → (∀ x ∈ ch, 0 ≤ x ∧ x < (i : Int)) → ch.length ≤ i →
      Calls Try.prog 78 #[v, .int .i64 (i : Int), .pointer (some ⟨Bi, 0, none⟩), .pointer (some ⟨Ba, 0, none⟩), .pointer (some ⟨Be, 0, none⟩), .pointer (some ⟨Bc, 0, none⟩)] W fun e w' => e = .returned (.tuple #[]) ∧ I ((ch :: loopV d ch i).foldl (visit items accept step) s) w' ∧ Fr S W w' := by
  intro d
  induction d using Nat.strongRecOn with
  | _ d ih =>
  intro s W v ch i hd hF hI hv hch hlen
  have hins : Inside items ch := fun x hx => by have := hch x hx; omega
  have htot : ∃ k, impl_totals.f k items ch = some (tot items ch) := ⟨ch.length + 1, totals_eq items ch hins (by omega) _ (by omega)⟩
  obtain ⟨kt, hkt⟩ := htot
  obtain ⟨A1, c1, rfl, hc1, hC1⟩ := Kd.R_reads hv
  have HI := Aside0.mk hI
  have HV := Aside0.mk hv
  have HF := Aside0.mk hF
  have HC1 := Aside0.mk hC1
  have XI := Aside0.mk xi
  have XA := Aside0.mk xa
  have XE := Aside0.mk xe
  have XC := Aside0.mk xc
  have q1 := (box_fr xi hF ni).cell
  have IH := Aside0.mk ih
  have HCH := Aside0.mk hch
  have HKT := Aside0.mk hkt
  have HD := Aside0.mk hd
  clear hI hv hF hC1 xi xa xe xc ih hch hkt
  have ea := T.ea
  have ee := T.ee
  go_enter Try.func78, Try.ntmps78
  go_wp2_with (go_at_call 56; refine (impl_totals.calls kt A0 c0 items A1 c1 ch (tot items ch).1 (tot items ch).2.1 (tot items ch).2.2 _ (hC _ HF.out) hc0 HC1.out hc1 HKT.out).mono ?_; rintro e w2 ⟨rfl, hb2⟩; have F2 := Aside0.mk (HF.out.then hb2); have q3 := ((box_fr XA.out F2.out na).alloc (.cells #[.int .i64 (tot items ch).1, .int .i64 (tot items ch).2.1, .int .i64 (tot items ch).2.2] 54)).cell)
  obtain ⟨W3, hW3⟩ : ∃ W3, w2.alloc (.cells #[.int .i64 (tot items ch).1, .int .i64 (tot items ch).2.1, .int .i64 (tot items ch).2.2] 54) = W3 := ⟨_, rfl⟩
  have F3 := Aside0.mk (F2.out.alloc (.cells #[.int .i64 (tot items ch).1, .int .i64 (tot items ch).2.1, .int .i64 (tot items ch).2.2] 54))
  have B3 := Aside0.mk (hb2.alloc (o := .cells #[.int .i64 (tot items ch).1, .int .i64 (tot items ch).2.1, .int .i64 (tot items ch).2.2] 54) hb2.size)
  have A3 : Aside0 (∀ W', Below W3.heap.size W3 W' → W'.cell? ⟨w2.heap.size, 0, none⟩ = some (.int .i64 (tot items ch).1) ∧ W'.cell? ⟨w2.heap.size, 1, none⟩ = some (.int .i64 (tot items ch).2.1) ∧ W'.cell? ⟨w2.heap.size, 2, none⟩ = some (.int .i64 (tot items ch).2.2)) := ⟨fun W' hb => by
    have hnew := heap_alloc_new w2 (.cells #[.int .i64 (tot items ch).1, .int .i64 (tot items ch).2.1, .int .i64 (tot items ch).2.2] 54)
    rw [hW3] at hnew
    have h2 := (hb.block w2.heap.size (by rw [← hW3]; simp)).trans hnew
    refine ⟨?_, ?_, ?_⟩ <;> simp [World.cell?, h2]⟩
  rw [hW3] at F3 B3 q3 ⊢
  clear hW3 hb2 q1 q3
  generalize ha : accept (tot items ch) = ac
  have hacc := T.acc W3 (tot items ch) F3.out
  rw [ha] at hacc
  have HA := Aside0.mk ha
  clear ha
  cases ac
  case' false =>
    go_wp2_with (go_at_fn ga; refine hacc.mono ?_; rintro e w5 ⟨rfl, hb4⟩)
    have I5 : Aside0 (I (visit items accept step s ch) w5) := ⟨by unfold visit; rw [HA.out]; exact T.st _ _ _ HI.out (B3.out.trans (hb4.mono B3.out.size))⟩
    have F5 := Aside0.mk (F3.out.then hb4)
    have G5 := Aside0.mk (((Fr.of (S := S) B3.out)).then hb4)
    clear B3 F3 hb4 HI HA hacc A3
  case' true =>
    go_wp2_with (go_at_fn ga; refine hacc.mono ?_; rintro e w4 ⟨rfl, hb4⟩; have F4 := Aside0.mk (F3.out.then hb4); have q4 := (box_fr XE.out F4.out ne).cell; obtain ⟨q5, q6, q7⟩ := A3.out w4 hb4)
    have G4 := Aside0.mk (((Fr.of (S := S) B3.out)).then hb4)
    go_wp2_with (go_at_fn ge; refine (T.each s w4 (.slice A1 ch.length c1) ch F4.out (T.st _ _ _ HI.out (B3.out.trans (hb4.mono B3.out.size))) (R_fr HV.out G4.out (fun _ h => h)) hins (by omega) HA.out).mono ?_; rintro e w5 ⟨rfl, hI5, hF5⟩)
    have I5 : Aside0 (I (visit items accept step s ch) w5) := ⟨by unfold visit; rw [HA.out]; exact hI5⟩
    have F5 := Aside0.mk (F4.out.trans hF5)
    have G5 := Aside0.mk (G4.out.trans hF5)
    clear B3 F3 hb4 HI HA hacc A3 q4 q5 q6 q7 F4 G4 hI5 hF5
  all_goals
    clear F2 HC1
    go_loopg [9] items.length (fun gg s9 wr => ∃ j : Nat, s9 = .int .i64 (j : Int) ∧ i ≤ j ∧ j ≤ items.length ∧ items.length - j ≤ gg ∧ Aside0 (∃ st, I st wr ∧ (loopV (items.length - j) ch j).foldl (visit items accept step) st = (loopV d ch i).foldl (visit items accept step) (visit items accept step s ch)) ∧ Aside0 (Fr S W wr))
    case atStart => exact ⟨i, rfl, Nat.le_refl _, by omega, by omega, ⟨_, I5.out, by rw [show items.length - i = d by omega]⟩, G5⟩
    case round =>
      obtain ⟨j, rfl, hij, hjn, hgg, II, GG⟩ := hrel
      have FF := Aside0.mk (HF.out.trans GG.out)
      have q1 := (box_fr XI.out FF.out ni).cell
      by_cases hlt : j < items.length
      · have hltz : (j : Int) < (items.length : Int) := by omega
        obtain ⟨st, hst, hfold⟩ := II.out
        have HST := Aside0.mk hst
        have HFO := Aside0.mk hfold
        have XCR := Aside0.mk (box_fr XC.out FF.out nc)
        have HSR : Aside0 (∀ k, S k → k < wr.heap.size) := ⟨fun k hk => Nat.lt_of_lt_of_le (hSl k hk) FF.out.size⟩
        have HBR : Aside0 (base ≤ wr.heap.size) := ⟨Nat.le_trans hb1 FF.out.size⟩
        have HVr := Aside0.mk (R_fr HV.out GG.out (fun _ h => h))
        have HCr : Aside0 (∀ W', Fr S wr W' → Kd.C kInt W' A1 ch.length ch) := ⟨fun W' h => by
          obtain ⟨A', c', he, _, hC'⟩ := Kd.R_reads (R_fr HVr.out h (fun _ h => h))
          injection he with he1 he2 he3
          subst he1
          exact hC'⟩
        have hIns : Aside0 (∀ x ∈ ch ++ [(j : Int)], 0 ≤ x ∧ x < ((j + 1 : Nat) : Int)) := ⟨fun x hx => by
          rcases List.mem_append.1 hx with hx | hx
          · have := HCH.out x hx; omega
          · have := List.mem_singleton.1 hx; omega⟩
        have hLen : Aside0 ((ch ++ [(j : Int)]).length ≤ j + 1) := ⟨by simp; omega⟩
        have hmix : Try.prog.follows .mixedOrders = true := by kernel_rfl
        clear II hst hfold
        go_wp2
        have hwr : IntKind.i64.wrap ((j : Int) + 1) = ((j + 1 : Nat) : Int) := by rw [IntWalk.i64_in _ (by omega)]; omega
        go_region_held3 (fun W' => W'.cell? ⟨Bc, 0, none⟩ = some (.func (.func 78) #[] #[.pointer (some ⟨Bi, 0, none⟩), .pointer (some ⟨Ba, 0, none⟩), .pointer (some ⟨Be, 0, none⟩), .pointer (some ⟨Bc, 0, none⟩)]) ∧ Fr S wr W')
          (first | exact held_keep XCR.out nc (Fr.drew (Fr.refl _ _)) | exact held_keep XCR.out nc (by assumption) | exact held_keep XCR.out nc (Fr.alloc (And.right (by assumption)) _))
          (first
            | (go_at_call 79; refine (clone_int A1 c1 ch _ (HCr.out _ (And.right (by assumption))) hc1 (by omega)).mono ?_; rintro e w6 ⟨v6, rfl, hR6, hb6⟩;
                have hfr6 : Fr S wr w6 := Fr.then (And.right (by assumption)) hb6;
                have hbl6 : Below wr.heap.size wr w6 := (by first | exact ((Below.refl _ wr).drew).trans (hb6.mono (Nat.le_refl _)) | exact ((((Below.refl _ wr).drew).alloc (Nat.le_refl _) _)).trans (hb6.mono (by simp)));
                have hRR := own_new (S := S) (wr := wr) (base := base) hR6 (by simp) HSR.out HBR.out)
            | (go_at_call 78; refine (IH.out (items.length - (j + 1)) (by have := HD.out; omega) st w7 v7 (ch ++ [(j : Int)]) (j + 1) (by omega) (FF.out.trans hfr7) (T.st _ _ _ HST.out hbl7) (Kd.R_mono hR7 (fun _ h => h.1)) hIns.out hLen.out).mono ?_; rintro e w8 ⟨rfl, hI8, hF8⟩;
                have hfr8 : Fr S wr w8 := hfr7.trans hF8)
            | (refine app_int (by rfl) _ _ _ base (fun k => ¬ S k ∧ wr.heap.size ≤ k) rfl v6 ch (j : Int) _ rfl rfl ?hcell ?hl ?HO ?hbase ?hfresh ?_;
                (case hcell => first | exact lit_cell _ _ _ | exact lit_cell2 hb6 | exact lit_cell3 hb6);
                (case hl => omega);
                (case HO => first | exact Kd.R_below hRR ((Below.refl _ _).alloc (Nat.le_refl _) _) | exact hRR);
                (case hbase => first | exact Nat.le_trans HBR.out hbl6.size | exact Nat.le_trans HBR.out (hbl6.alloc hbl6.size _).size);
                (case hfresh => first | exact fresh_ok HSR.out hbl6.size | exact fresh_ok HSR.out (hbl6.alloc hbl6.size _).size);
                intro v7 w7 hR7 hg7;
                have hrow : ∀ k, v6.ownBlock = some k → wr.heap.size ≤ k := fun k hk => (hRR.1 k hk).2;
                have hfr7 : Fr S wr w7 := Fr.grown (And.right (by assumption)) hg7 hrow;
                have hbl7 : Below wr.heap.size wr w7 := (by first | exact hbl6.grown hg7 hbl6.size hrow | exact (hbl6.alloc hbl6.size _).grown hg7 (hbl6.alloc hbl6.size _).size hrow)))
        all_goals
          go_wp2
          go_roundg (items.length - (j + 1))
          case measure => omega
          case rel =>
            refine ⟨j + 1, by go_num, by omega, by omega, by omega, ⟨_, hI8, ?_⟩, ⟨GG.out.trans hfr8⟩⟩
            rw [← HFO.out, show items.length - j = (items.length - (j + 1)) + 1 by omega, loopV, List.foldl_append]
      · have hltz : ¬ (j : Int) < (items.length : Int) := by omega
        go_wp2
        go_end0
        obtain ⟨st, hst, hr⟩ := II.out
        rw [show items.length - j = 0 by omega] at hr
        refine ⟨rfl, ?_, GG.out⟩
        rw [← hr]
        exact hst
end Go.Proofs.Ytgghcngfleicnaa.Q

namespace Go.Proofs.Ytgghcngfleicnaa.Q
open Go.RowKit Go.Proofs.YtgghcngfleicnaaW.PrintWords Go.Proofs.YtgghcngfleicnaaW.PrintLast Go.Proofs.YtgghcngfleicnaaW.PrintMore
attribute [local go_sem] max2_int min2_int max_two min_two max_three min_three max_four min_four   -- for this text's walks alone
set_option linter.unusedVariables false
set_option linter.unusedSimpArgs false

/-! ### impl_Case_holds: function 61 -/
def impl_Case_holds.f (a0_0 : Int) (a0_1 : Int) (a1_0 : Int) (a1_1 : Int) (a1_2 : Int) : Option (Bool) := if a1_0 ≤ a0_0 then (some (decide (a1_1 ≤ a0_1))) else (some false)
set_option maxHeartbeats 8000000 in
set_option maxRecDepth 100000 in
theorem impl_Case_holds.calls (a0_0 : Int) (a0_1 : Int) (a1_0 : Int) (a1_1 : Int) (a1_2 : Int) (r : Bool) (w : World) (h : impl_Case_holds.f a0_0 a0_1 a1_0 a1_1 a1_2 = some r) :
    Calls Try.prog 61 #[.agg #[.int .i64 a0_0, .int .i64 a0_1], .agg #[.int .i64 a1_0, .int .i64 a1_1, .int .i64 a1_2]] w fun e w' => e = .returned (.bool r) ∧ Below w.heap.size w w' := by
  have hu39 := Try.underlying39
  have hu54 := Try.underlying54
  have HB := Aside0.mk (Below.refl w.heap.size w)
  have H : (if a1_0 ≤ a0_0 then (some (decide (a1_1 ≤ a0_1))) else (some false)) = some r := h
  clear h
  by_cases c3 : a1_0 ≤ a0_0
  · rw [if_pos c3] at H
    have c3b0 : decide (a1_0 ≤ a0_0) = true := decide_eq_true c3
    clear c3
    obtain rfl := Option.some.inj H
    go_enter Try.func61, Try.ntmps61
    go_wp2_with (first | ((with_reducible refine gate_dst (N := 2) rfl ?_); refine box_event ?hg (N := 2) ?hd (cs := #[.int .i64 a0_0, .int .i64 a0_1]) (t := 39) ?hr ?_; (case hd => rfl); (case hg => rfl); (case hr => first | (go_simp; done) | (go_simp; rfl)); intro gb245 hg w4 hbox hb; have n0_ := Aside0.mk (below_step (by repeat (first | (with_reducible first | exact HB.out | apply below_alloc | apply pw_below_drewN | apply below_drew1) | exact HB.out)) hb); have n1_ := Aside0.mk (hbox); have n2_ := Aside0.mk ((by rw [hg]; exact (below_size (by repeat (first | (with_reducible first | exact HB.out | apply below_alloc | apply pw_below_drewN | apply below_drew1) | exact HB.out))) : w.heap.size ≤ gb245)); have n3_ := Aside0.mk ((by rw [hg]; exact (below_size (by repeat (first | (with_reducible first | exact HB.out | apply below_alloc | apply pw_below_drewN | apply below_drew1) | exact HB.out))) : w.heap.size ≤ gb245)); clear HB; have HB := n0_; have BK245 := n1_; have GW245 := n2_; have GE245 := n3_; clear n0_ n1_ n2_ n3_; clear hb hbox hg) | ((with_reducible refine gate_dst (N := 3) rfl ?_); refine box_event ?hg (N := 3) ?hd (cs := #[.int .i64 a1_0, .int .i64 a1_1, .int .i64 a1_2]) (t := 54) ?hr ?_; (case hd => rfl); (case hg => rfl); (case hr => first | (go_simp; done) | (go_simp; rfl)); intro gb246 hg w5 hbox hb; have n0_ := Aside0.mk (blk_below (g := gb245) (o := .cells #[.int .i64 a0_0, .int .i64 a0_1] 39 (0, 0)) (by (with_reducible repeat (first | refine blk_drewN ?_ _ | refine blk_drew ?_ | refine blk_alloc ?_ _)); exact BK245.out) hb); have n1_ := Aside0.mk (below_step (by repeat (first | (with_reducible first | exact HB.out | apply below_alloc | apply pw_below_drewN | apply below_drew1 | refine below_set ?_ GE245.out) | exact HB.out)) hb); have n2_ := Aside0.mk (hbox); have n3_ := Aside0.mk ((by rw [hg]; exact (below_size (by repeat (first | (with_reducible first | exact HB.out | apply below_alloc | apply pw_below_drewN | apply below_drew1 | refine below_set ?_ GE245.out) | exact HB.out))) : w.heap.size ≤ gb246)); have n4_ := Aside0.mk ((by rw [hg]; exact (below_size (by repeat (first | (with_reducible first | exact HB.out | apply below_alloc | apply pw_below_drewN | apply below_drew1 | refine below_set ?_ GE245.out) | exact HB.out))) : w.heap.size ≤ gb246)); have n5_ := Aside0.mk ((by rw [hg]; exact Nat.ne_of_lt (blk_lt (g := gb245) (o := .cells #[.int .i64 a0_0, .int .i64 a0_1] 39 (0, 0)) (by (with_reducible repeat (first | refine blk_drewN ?_ _ | refine blk_drew ?_ | refine blk_alloc ?_ _)); exact BK245.out)) : gb245 ≠ gb246)); have n6_ := Aside0.mk ((by rw [hg]; exact Nat.ne_of_gt (blk_lt (g := gb245) (o := .cells #[.int .i64 a0_0, .int .i64 a0_1] 39 (0, 0)) (by (with_reducible repeat (first | refine blk_drewN ?_ _ | refine blk_drew ?_ | refine blk_alloc ?_ _)); exact BK245.out)) : gb246 ≠ gb245)); clear BK245; clear HB; have BK245 := n0_; have HB := n1_; have BK246 := n2_; have GW246 := n3_; have GE246 := n4_; have NB245_246 := n5_; have NB246_245 := n6_; clear n0_ n1_ n2_ n3_ n4_ n5_ n6_; clear hb hbox hg; have hnb6 := NB246_245.out; have hnc6 := NB245_246.out; have hcz7_0 : w5.cell? ⟨gb246, 0, none⟩ = some (.int .i64 a1_0) := (blk_cell BK246.out 0).trans rfl; have hcz7_1 : w5.cell? ⟨gb246, 1, none⟩ = some (.int .i64 a1_1) := (blk_cell BK246.out 1).trans rfl; have hcz7_2 : w5.cell? ⟨gb246, 2, none⟩ = some (.int .i64 a1_2) := (blk_cell BK246.out 2).trans rfl; have hfz7_0 := blk_frozen BK246.out 0; have hfz7_1 := blk_frozen BK246.out 1; have hfz7_2 := blk_frozen BK246.out 2; have hcz8_0 : w5.cell? ⟨gb245, 0, none⟩ = some (.int .i64 a0_0) := (blk_cell BK245.out 0).trans rfl; have hcz8_1 : w5.cell? ⟨gb245, 1, none⟩ = some (.int .i64 a0_1) := (blk_cell BK245.out 1).trans rfl; have hfz8_0 := blk_frozen BK245.out 0; have hfz8_1 := blk_frozen BK245.out 1))
    go_ret
    exact ⟨by first | rfl | (simp [errW_none, errW_some] <;> rfl) | (simp [*, errW_none, errW_some] <;> rfl), by repeat (first | (with_reducible first | exact HB.out | apply below_alloc | apply pw_below_drewN | apply below_drew1 | refine below_set ?_ GE245.out | refine below_set ?_ GE246.out) | exact HB.out)⟩
  · rw [if_neg c3] at H
    have c3b0 : decide (a1_0 ≤ a0_0) = false := decide_eq_false c3
    clear c3
    obtain rfl := Option.some.inj H
    go_enter Try.func61, Try.ntmps61
    go_wp2_with (first | ((with_reducible refine gate_dst (N := 2) rfl ?_); refine box_event ?hg (N := 2) ?hd (cs := #[.int .i64 a0_0, .int .i64 a0_1]) (t := 39) ?hr ?_; (case hd => rfl); (case hg => rfl); (case hr => first | (go_simp; done) | (go_simp; rfl)); intro gb245 hg w9 hbox hb; have n0_ := Aside0.mk (below_step (by repeat (first | (with_reducible first | exact HB.out | apply below_alloc | apply pw_below_drewN | apply below_drew1) | exact HB.out)) hb); have n1_ := Aside0.mk (hbox); have n2_ := Aside0.mk ((by rw [hg]; exact (below_size (by repeat (first | (with_reducible first | exact HB.out | apply below_alloc | apply pw_below_drewN | apply below_drew1) | exact HB.out))) : w.heap.size ≤ gb245)); have n3_ := Aside0.mk ((by rw [hg]; exact (below_size (by repeat (first | (with_reducible first | exact HB.out | apply below_alloc | apply pw_below_drewN | apply below_drew1) | exact HB.out))) : w.heap.size ≤ gb245)); clear HB; have HB := n0_; have BK245 := n1_; have GW245 := n2_; have GE245 := n3_; clear n0_ n1_ n2_ n3_; clear hb hbox hg) | ((with_reducible refine gate_dst (N := 3) rfl ?_); refine box_event ?hg (N := 3) ?hd (cs := #[.int .i64 a1_0, .int .i64 a1_1, .int .i64 a1_2]) (t := 54) ?hr ?_; (case hd => rfl); (case hg => rfl); (case hr => first | (go_simp; done) | (go_simp; rfl)); intro gb246 hg w10 hbox hb; have n0_ := Aside0.mk (blk_below (g := gb245) (o := .cells #[.int .i64 a0_0, .int .i64 a0_1] 39 (0, 0)) (by (with_reducible repeat (first | refine blk_drewN ?_ _ | refine blk_drew ?_ | refine blk_alloc ?_ _)); exact BK245.out) hb); have n1_ := Aside0.mk (below_step (by repeat (first | (with_reducible first | exact HB.out | apply below_alloc | apply pw_below_drewN | apply below_drew1 | refine below_set ?_ GE245.out) | exact HB.out)) hb); have n2_ := Aside0.mk (hbox); have n3_ := Aside0.mk ((by rw [hg]; exact (below_size (by repeat (first | (with_reducible first | exact HB.out | apply below_alloc | apply pw_below_drewN | apply below_drew1 | refine below_set ?_ GE245.out) | exact HB.out))) : w.heap.size ≤ gb246)); have n4_ := Aside0.mk ((by rw [hg]; exact (below_size (by repeat (first | (with_reducible first | exact HB.out | apply below_alloc | apply pw_below_drewN | apply below_drew1 | refine below_set ?_ GE245.out) | exact HB.out))) : w.heap.size ≤ gb246)); have n5_ := Aside0.mk ((by rw [hg]; exact Nat.ne_of_lt (blk_lt (g := gb245) (o := .cells #[.int .i64 a0_0, .int .i64 a0_1] 39 (0, 0)) (by (with_reducible repeat (first | refine blk_drewN ?_ _ | refine blk_drew ?_ | refine blk_alloc ?_ _)); exact BK245.out)) : gb245 ≠ gb246)); have n6_ := Aside0.mk ((by rw [hg]; exact Nat.ne_of_gt (blk_lt (g := gb245) (o := .cells #[.int .i64 a0_0, .int .i64 a0_1] 39 (0, 0)) (by (with_reducible repeat (first | refine blk_drewN ?_ _ | refine blk_drew ?_ | refine blk_alloc ?_ _)); exact BK245.out)) : gb246 ≠ gb245)); clear BK245; clear HB; have BK245 := n0_; have HB := n1_; have BK246 := n2_; have GW246 := n3_; have GE246 := n4_; have NB245_246 := n5_; have NB246_245 := n6_; clear n0_ n1_ n2_ n3_ n4_ n5_ n6_; clear hb hbox hg; have hnb11 := NB246_245.out; have hnc11 := NB245_246.out; have hcz12_0 : w10.cell? ⟨gb246, 0, none⟩ = some (.int .i64 a1_0) := (blk_cell BK246.out 0).trans rfl; have hcz12_1 : w10.cell? ⟨gb246, 1, none⟩ = some (.int .i64 a1_1) := (blk_cell BK246.out 1).trans rfl; have hcz12_2 : w10.cell? ⟨gb246, 2, none⟩ = some (.int .i64 a1_2) := (blk_cell BK246.out 2).trans rfl; have hfz12_0 := blk_frozen BK246.out 0; have hfz12_1 := blk_frozen BK246.out 1; have hfz12_2 := blk_frozen BK246.out 2; have hcz13_0 : w10.cell? ⟨gb245, 0, none⟩ = some (.int .i64 a0_0) := (blk_cell BK245.out 0).trans rfl; have hcz13_1 : w10.cell? ⟨gb245, 1, none⟩ = some (.int .i64 a0_1) := (blk_cell BK245.out 1).trans rfl; have hfz13_0 := blk_frozen BK245.out 0; have hfz13_1 := blk_frozen BK245.out 1))
    go_ret
    exact ⟨by first | rfl | (simp [errW_none, errW_some] <;> rfl) | (simp [*, errW_none, errW_some] <;> rfl), by repeat (first | (with_reducible first | exact HB.out | apply below_alloc | apply pw_below_drewN | apply below_drew1 | refine below_set ?_ GE245.out | refine below_set ?_ GE246.out) | exact HB.out)⟩

end Go.Proofs.Ytgghcngfleicnaa.Q

namespace Go.Proofs.Ytgghcngfleicnaa.Q
open Go.RowKit Go.Shelf Go.Proofs.YtgghcngfleicnaaW.PrintWords Go.Proofs.YtgghcngfleicnaaW.PrintLast Go.Proofs.YtgghcngfleicnaaW.PrintMore
set_option linter.unusedVariables false
set_option linter.unusedSimpArgs false

theorem Two.later {σ : Type} {items : List Item} {S : Nat → Prop} {I : σ → World → Prop} {base : Nat} {w w1 : World} {ga : Nat} {bda fra : Array Value} {ge : Nat} {bde fre : Array Value} {accept : Int × Int × Int → Bool} {step : σ → List Int → σ}
    (T : Two items S I base w ga bda fra ge bde fre accept step) (h : Fr S w w1) : Two items S I base w1 ga bda fra ge bde fre accept step :=
  ⟨T.ea, T.ee, T.st, fun W x hF => T.acc W x (h.trans hF), fun s W v ch hF => T.each s W v ch (h.trans hF)⟩

/-- All lists of items, in order. -/
def allV (n : Nat) : List (List Int) := [] :: loopV n [] 0

set_option maxRecDepth 100000 in
set_option maxHeartbeats 4000000 in
theorem choices_calls {σ : Type} (items : List Item) (A0 : Option Addr) (c0 : Nat) (S : Nat → Prop) (I : σ → World → Prop) (base : Nat) (w : World) (ga : Nat) (bda fra : Array Value) (ge : Nat) (bde fre : Array Value) (accept : Int × Int × Int → Bool) (step : σ → List Int → σ) (s : σ)
    (hn : items.length ≤ 1000) (T : Two items S I base w ga bda fra ge bde fre accept step) (hb : base ≤ w.heap.size) (hSl : ∀ k, S k → k < w.heap.size)
    (hC : ∀ W, Fr S w W → Kd.C k54 W A0 items.length items) (hc0 : items.length ≤ c0) (hI : I s w) :
    Calls Try.prog 64 #[.slice A0 items.length c0, .func (.func ga) bda fra, .func (.func ge) bde fre] w fun e w' => e = .returned (.tuple #[]) ∧ I ((allV items.length).foldl (visit items accept step) s) w' ∧ Fr S w w' := by
  have x1 := Boxed.new w 25 (.slice A0 items.length c0)
  obtain ⟨w1, e1⟩ : ∃ w1, w.alloc (.cells #[.slice A0 items.length c0] 25) = w1 := ⟨_, rfl⟩
  have b1 : Below w.heap.size w w1 := by rw [← e1]; exact (Below.refl _ w).alloc (Nat.le_refl _) _
  rw [e1] at x1
  have x2 := Boxed.new w1 60 (.func (.func ga) bda fra)
  have y1 := x1.alloc (.cells #[.func (.func ga) bda fra] 60)
  obtain ⟨w2, e2⟩ : ∃ w2, w1.alloc (.cells #[.func (.func ga) bda fra] 60) = w2 := ⟨_, rfl⟩
  have b2 : Below w.heap.size w w2 := by rw [← e2]; exact b1.alloc b1.size _
  rw [e2] at x2 y1
  have x3 := Boxed.new w2 81 (.func (.func ge) bde fre)
  have y2 := x2.alloc (.cells #[.func (.func ge) bde fre] 81)
  have u1 := y1.alloc (.cells #[.func (.func ge) bde fre] 81)
  obtain ⟨w3, e3⟩ : ∃ w3, w2.alloc (.cells #[.func (.func ge) bde fre] 81) = w3 := ⟨_, rfl⟩
  have b3 : Below w.heap.size w w3 := by rw [← e3]; exact b2.alloc b2.size _
  rw [e3] at x3 y2 u1
  obtain ⟨fv, hfv⟩ : ∃ fv : Value, fv = .func (.func 78) #[] #[.pointer (some ⟨w.heap.size, 0, none⟩), .pointer (some ⟨w1.heap.size, 0, none⟩), .pointer (some ⟨w2.heap.size, 0, none⟩), .pointer (some ⟨w3.heap.size, 0, none⟩)] := ⟨_, rfl⟩
  have x4 := Boxed.new w3 90 fv
  have y3 := x3.alloc (.cells #[fv] 90)
  have u2 := y2.alloc (.cells #[fv] 90)
  have v1 := u1.alloc (.cells #[fv] 90)
  obtain ⟨w4, e4⟩ : ∃ w4, w3.alloc (.cells #[fv] 90) = w4 := ⟨_, rfl⟩
  have b4 : Below w.heap.size w w4 := by rw [← e4]; exact b3.alloc b3.size _
  rw [e4] at x4 y3 u2 v1
  have F4 : Fr S w w4 := Fr.of b4
  have nS : ∀ k, w.heap.size ≤ k → ¬ S k := fun k hk hs => by have := hSl k hs; omega
  have hcall := choose_calls items A0 c0 S I base w4 ga bda fra ge bde fre accept step w.heap.size w1.heap.size (w2.heap.size) (w3.heap.size) hn (T.later F4) (Nat.le_trans hb b4.size) (fun k hk => Nat.lt_of_lt_of_le (hSl k hk) b4.size) (fun W h => hC W (F4.trans h)) hc0 v1 u2 y3 (hfv ▸ x4) (nS _ (Nat.le_refl _)) (nS _ b1.size) (nS _ b2.size) (nS _ b3.size)
    items.length s w4 (.slice none 0 0) [] 0 (by omega) (Fr.refl _ _) (T.st _ _ _ hI b4) (Kd.R_nil _ _ _ _ _) (fun x hx => by cases hx) (by simp)
  have HCALL := Aside0.mk hcall
  have q4 := x4.cell
  have HF4 := Aside0.mk F4
  clear hcall x1 x2 x3 x4 y1 y2 y3 u1 u2 v1 b1 b2 b3 b4 T hC hI F4
  subst hfv
  go_enter Try.func64, Try.ntmps64
  go_wp2_with (go_at_call 78; refine HCALL.out.mono ?_; rintro e w5 ⟨rfl, hI5, hF5⟩)
  go_end0
  exact ⟨rfl, hI5, HF4.out.trans hF5⟩

/-! bestOf -/
abbrev Best := List Int × Int × Int
def bestStep (items : List Item) (sc : List Int → Int × Int × Int → Int) (s : Best) (ch : List Int) : Best :=
  if s.2.1 < sc ch (tot items ch) then (ch, sc ch (tot items ch), 1) else if sc ch (tot items ch) = s.2.1 then (s.1, s.2.1, wrap64 (s.2.2 + 1)) else s
/-- What the score is. -/
def ScoreOk (g : Nat) (sc : List Int → Int × Int × Int → Int) : Prop :=
  ∀ (W : World) (A : Option Addr) (c : Nat) (ch : List Int) (x : Int × Int × Int), Kd.C kInt W A ch.length ch → ch.length ≤ c →
    Calls Try.prog g #[.slice A ch.length c, valTot x] W fun e w' => e = .returned (.int .i64 (sc ch x)) ∧ Below W.heap.size W w'
/-- The three variables of bestOf. -/
def Three (base Bb Bm Bk : Nat) (s : Best) (W : World) : Prop :=
  (∃ v, Boxed W Bb 29 v ∧ Kd.R kInt 3 W base (fun k => ¬ (k = Bb ∨ k = Bm ∨ k = Bk)) v s.1) ∧ Boxed W Bm 3 (.int .i64 s.2.1) ∧ Boxed W Bk 3 (.int .i64 s.2.2)
theorem Three.later {base Bb Bm Bk : Nat} {s : Best} {W W' : World} (h : Three base Bb Bm Bk s W) (hb : Below W.heap.size W W') : Three base Bb Bm Bk s W' := by
  obtain ⟨⟨v, h1, h2⟩, h3, h4⟩ := h
  exact ⟨⟨v, box_below h1 hb, Kd.R_below h2 hb⟩, box_below h3 hb, box_below h4 hb⟩

set_option maxRecDepth 100000 in
set_option maxHeartbeats 4000000 in
theorem bestOf1_calls (items : List Item) (g : Nat) (sc : List Int → Int × Int × Int → Int) (eg : ∀ args w, (callFunc g args).run Try.prog w = .ok (.enter g args) w) (hsc : ScoreOk g sc) (base Bs Bb Bm Bk : Nat) (hbm : Bb ≠ Bm) (hbk : Bb ≠ Bk) (hmk : Bm ≠ Bk)
    (s : Best) (W : World) (v : Value) (ch : List Int) (hs : Boxed W Bs 69 (.func (.func g) #[] #[])) (hI : Three base Bb Bm Bk s W) (hv : Kd.R kInt 3 W base (fun k => ¬ (k = Bb ∨ k = Bm ∨ k = Bk)) v ch) :
    Calls Try.prog 75 #[v, valTot (tot items ch), .pointer (some ⟨Bs, 0, none⟩), .pointer (some ⟨Bm, 0, none⟩), .pointer (some ⟨Bb, 0, none⟩), .pointer (some ⟨Bk, 0, none⟩)] W
      fun e w' => e = .returned (.tuple #[]) ∧ Three base Bb Bm Bk (bestStep items sc s ch) w' ∧ Fr (fun k => k = Bb ∨ k = Bm ∨ k = Bk) W w' := by
  obtain ⟨A1, c1, rfl, hc1, hC1⟩ := Kd.R_reads hv
  have HI := Aside0.mk hI
  have HV := Aside0.mk hv
  have HC1 := Aside0.mk hC1
  have XS := Aside0.mk hs
  clear hI hv hC1 hs
  have q1 := (XS.out.alloc (.cells #[.int .i64 (tot items ch).1, .int .i64 (tot items ch).2.1, .int .i64 (tot items ch).2.2] 54)).cell
  go_enter Try.func75, Try.ntmps75
  have hcall := hsc (W.alloc (.cells #[.int .i64 (tot items ch).1, .int .i64 (tot items ch).2.1, .int .i64 (tot items ch).2.2] 54)) A1 c1 ch (tot items ch) (Kd.C_below HC1.out ((Below.refl _ W).alloc (Nat.le_refl _) _)) hc1
  have B1 := Aside0.mk ((Below.refl _ W).alloc (Nat.le_refl _) (.cells #[.int .i64 (tot items ch).1, .int .i64 (tot items ch).2.1, .int .i64 (tot items ch).2.2] 54))
  generalize hn : sc ch (tot items ch) = n at hcall
  have HN := Aside0.mk hn
  clear hn
  have hbm2 := Ne.symm hbm
  have hbk2 := Ne.symm hbk
  have hmk2 := Ne.symm hmk
  obtain ⟨b, m, k⟩ := s
  by_cases h1 : m < n
  · go_wp2_with (go_at_fn g; refine hcall.mono ?_; rintro e w2 ⟨rfl, hb2⟩; have B2 := Aside0.mk (B1.out.trans (hb2.mono B1.out.size)); obtain ⟨⟨vb, xb, xr⟩, xm, xk⟩ := HI.out.later B2.out; have qm := xm.cell; have fm := xm.frozen; have fb := xb.frozen; have fk := xk.frozen; have qb := xb.cell; have qk := xk.cell)
    go_end0
    have hF : Fr (fun k => k = Bb ∨ k = Bm ∨ k = Bk) W (((w2.setCell ⟨Bb, 0, none⟩ (.slice A1 ch.length c1)).setCell ⟨Bm, 0, none⟩ (.int .i64 n)).setCell ⟨Bk, 0, none⟩ (.int .i64 1)) :=
      (((Fr.of B2.out).set _ _ (.inl (.inl rfl))).set _ _ (.inl (.inr (.inl rfl)))).set _ _ (.inl (.inr (.inr rfl)))
    refine ⟨rfl, ?_, hF⟩
    unfold bestStep
    rw [HN.out, if_pos h1]
    exact ⟨⟨_, ((xb.set _).other hbm _).other hbk _, R_fr HV.out hF (fun _ h => h)⟩, ((xm.other hbm2 _).set _).other hmk _, ((xk.other hbk2 _).other hmk2 _).set _⟩
  · by_cases h2 : n = m
    · go_wp2_with (go_at_fn g; refine hcall.mono ?_; rintro e w2 ⟨rfl, hb2⟩; have B2 := Aside0.mk (B1.out.trans (hb2.mono B1.out.size)); obtain ⟨⟨vb, xb, xr⟩, xm, xk⟩ := HI.out.later B2.out; have qm := xm.cell; have fm := xm.frozen; have fb := xb.frozen; have fk := xk.frozen; have qb := xb.cell; have qk := xk.cell)
      go_end0
      have hF : Fr (fun k => k = Bb ∨ k = Bm ∨ k = Bk) W (w2.setCell ⟨Bk, 0, none⟩ (.int .i64 (wrap64 (k + 1)))) := (Fr.of B2.out).set _ _ (.inl (.inr (.inr rfl)))
      refine ⟨rfl, ?_, hF⟩
      unfold bestStep
      rw [HN.out, if_neg (by simp only; omega), if_pos h2]
      exact ⟨⟨_, xb.other hbk _, R_fr xr (Fr.set (Fr.refl _ w2) _ _ (.inl (.inr (.inr rfl)))) (fun _ h => h)⟩, xm.other hmk _, xk.set _⟩
    · go_wp2_with (go_at_fn g; refine hcall.mono ?_; rintro e w2 ⟨rfl, hb2⟩; have B2 := Aside0.mk (B1.out.trans (hb2.mono B1.out.size)); obtain ⟨⟨vb, xb, xr⟩, xm, xk⟩ := HI.out.later B2.out; have qm := xm.cell; have fm := xm.frozen; have fb := xb.frozen; have fk := xk.frozen; have qb := xb.cell; have qk := xk.cell)
      go_end0
      refine ⟨rfl, ?_, Fr.of B2.out⟩
      unfold bestStep
      rw [HN.out, if_neg (by simp only; omega), if_neg (by simp only; omega)]
      exact ⟨⟨_, xb, xr⟩, xm, xk⟩
end Go.Proofs.Ytgghcngfleicnaa.Q

namespace Go.Proofs.Ytgghcngfleicnaa.Q
open Go.RowKit Go.Proofs.YtgghcngfleicnaaW.PrintWords Go.Proofs.YtgghcngfleicnaaW.PrintLast Go.Proofs.YtgghcngfleicnaaW.PrintMore
set_option linter.unusedVariables false
set_option linter.unusedSimpArgs false

/-- Does a suitcase hold so much? -/
def holdsC (a b : Int) (x : Int × Int × Int) : Bool := decide (x.1 ≤ a) && decide (x.2.1 ≤ b)
theorem holds_f (a b : Int) (x : Int × Int × Int) : impl_Case_holds.f a b x.1 x.2.1 x.2.2 = some (holdsC a b x) := by
  unfold impl_Case_holds.f holdsC
  by_cases h : x.1 ≤ a <;> simp [h]

end Go.Proofs.Ytgghcngfleicnaa.Q

namespace Go.Proofs.Ytgghcngfleicnaa.Q
open Go.RowKit Go.Shelf Go.Proofs.YtgghcngfleicnaaW.PrintWords Go.Proofs.YtgghcngfleicnaaW.PrintLast Go.Proofs.YtgghcngfleicnaaW.PrintMore
set_option linter.unusedVariables false
set_option linter.unusedSimpArgs false

/-- The first choice with the greatest score, this, and how many have it. -/
def bestAll (items : List Item) (a b : Int) (sc : List Int → Int × Int × Int → Int) : Best := (allV items.length).foldl (visit items (holdsC a b) (bestStep items sc)) ([], -1, 0)

set_option maxRecDepth 100000 in
set_option maxHeartbeats 4000000 in
theorem bestOf_calls (items : List Item) (A0 : Option Addr) (c0 : Nat) (a b : Int) (g : Nat) (sc : List Int → Int × Int × Int → Int) (w : World) (eg : ∀ args w, (callFunc g args).run Try.prog w = .ok (.enter g args) w) (hsc : ScoreOk g sc)
    (hn : items.length ≤ 1000) (hr0 : Kd.C k54 w A0 items.length items) (hc0 : items.length ≤ c0) (r : Best) (hr : bestAll items a b sc = r) :
    Calls Try.prog 51 #[.slice A0 items.length c0, .agg #[.int .i64 a, .int .i64 b], .func (.func g) #[] #[]] w fun e w' => ∃ v0_ : Value, e = .returned (.tuple #[v0_, .int .i64 r.2.1, .int .i64 r.2.2]) ∧ Kd.R kInt 3 w' w.heap.size (fun _ => True) v0_ r.1 ∧ Below w.heap.size w w' := by
  have HR0 := Aside0.mk hr0
  have HSC := Aside0.mk hsc
  have HRR := Aside0.mk hr
  clear hr0 hsc hr
  go_enter Try.func51, Try.ntmps51
  go_wp2_with fail
  have x1 := (((Boxed.new (w.alloc (.cells #[.int .i64 a, .int .i64 b] 39)) 69 (.func (.func g) #[] #[])).alloc (.cells #[.slice none 0 0] 29)).alloc (.cells #[.int .i64 (-1)] 3)).alloc (.cells #[.int .i64 0] 3)
  have x2 := ((Boxed.new ((w.alloc (.cells #[.int .i64 a, .int .i64 b] 39)).alloc (.cells #[.func (.func g) #[] #[]] 69)) 29 (.slice none 0 0)).alloc (.cells #[.int .i64 (-1)] 3)).alloc (.cells #[.int .i64 0] 3)
  have x3 := (Boxed.new (((w.alloc (.cells #[.int .i64 a, .int .i64 b] 39)).alloc (.cells #[.func (.func g) #[] #[]] 69)).alloc (.cells #[.slice none 0 0] 29)) 3 (.int .i64 (-1))).alloc (.cells #[.int .i64 0] 3)
  have x4 := Boxed.new ((((w.alloc (.cells #[.int .i64 a, .int .i64 b] 39)).alloc (.cells #[.func (.func g) #[] #[]] 69)).alloc (.cells #[.slice none 0 0] 29)).alloc (.cells #[.int .i64 (-1)] 3)) 3 (.int .i64 0)
  have b5 : Below w.heap.size w (((((w.alloc (.cells #[.int .i64 a, .int .i64 b] 39)).alloc (.cells #[.func (.func g) #[] #[]] 69)).alloc (.cells #[.slice none 0 0] 29)).alloc (.cells #[.int .i64 (-1)] 3)).alloc (.cells #[.int .i64 0] 3)) :=
    (((((Below.refl _ w).alloc (by simp) _).alloc (by simp) _).alloc (by simp <;> omega) _).alloc (by simp <;> omega) _).alloc (by simp <;> omega) _
  have z5 : (((((w.alloc (.cells #[.int .i64 a, .int .i64 b] 39)).alloc (.cells #[.func (.func g) #[] #[]] 69)).alloc (.cells #[.slice none 0 0] 29)).alloc (.cells #[.int .i64 (-1)] 3)).alloc (.cells #[.int .i64 0] 3)).heap.size = w.heap.size + 5 := by simp
  generalize (((((w.alloc (.cells #[.int .i64 a, .int .i64 b] 39)).alloc (.cells #[.func (.func g) #[] #[]] 69)).alloc (.cells #[.slice none 0 0] 29)).alloc (.cells #[.int .i64 (-1)] 3)).alloc (.cells #[.int .i64 0] 3)) = W5 at x1 x2 x3 x4 b5 z5 ⊢
  simp only [show ∀ (W : World) (o : Obj), (W.alloc o).heap.size = W.heap.size + 1 from fun W o => by simp] at x1 x2 x3 x4
  have h3 : Three w.heap.size (w.heap.size + 1 + 1) (w.heap.size + 1 + 1 + 1) (w.heap.size + 1 + 1 + 1 + 1) ([], -1, 0) W5 := ⟨⟨_, x2, Kd.R_nil _ _ _ _ _⟩, x3, x4⟩
  have hT : Two items (fun k => k = w.heap.size + 1 + 1 ∨ k = w.heap.size + 1 + 1 + 1 ∨ k = w.heap.size + 1 + 1 + 1 + 1) (Three w.heap.size (w.heap.size + 1 + 1) (w.heap.size + 1 + 1 + 1) (w.heap.size + 1 + 1 + 1 + 1)) w.heap.size W5
      61 #[.agg #[.int .i64 a, .int .i64 b]] #[] 75 #[] #[.pointer (some ⟨w.heap.size + 1, 0, none⟩), .pointer (some ⟨w.heap.size + 1 + 1 + 1, 0, none⟩), .pointer (some ⟨w.heap.size + 1 + 1, 0, none⟩), .pointer (some ⟨w.heap.size + 1 + 1 + 1 + 1, 0, none⟩)] (holdsC a b) (bestStep items sc) := by
    refine ⟨enters_of Try.func61 (by kernel_rfl) rfl, enters_of Try.func75 (by kernel_rfl) rfl, fun s W W' h hb => h.later hb, fun W x _ => ?_, fun s W v ch hF hI hv _ _ _ => ?_⟩
    · exact impl_Case_holds.calls a b x.1 x.2.1 x.2.2 _ W (holds_f a b x)
    · exact bestOf1_calls items g sc eg HSC.out w.heap.size (w.heap.size + 1) (w.heap.size + 1 + 1) (w.heap.size + 1 + 1 + 1) (w.heap.size + 1 + 1 + 1 + 1) (by omega) (by omega) (by omega) s W v ch (box_fr x1 hF (by omega)) hI hv
  have hcall := choices_calls items A0 c0 _ _ w.heap.size W5 _ _ _ _ _ _ _ _ ([], -1, 0) hn hT b5.size (fun k hk => by rw [z5]; omega)
    (fun W h => Kd.C_below HR0.out (b5.trans (h.below (fun k hk => by omega) b5.size))) hc0 h3
  rw [show (allV items.length).foldl (visit items (holdsC a b) (bestStep items sc)) ([], -1, 0) = r from HRR.out] at hcall
  have B5 := Aside0.mk b5
  clear x1 x2 x3 x4 h3 hT b5 z5
  go_wp2_with (go_at_call 64; refine hcall.mono ?_; rintro e w6 ⟨rfl, ⟨⟨v, xb, xr⟩, xm, xk⟩, hF6⟩)
  obtain ⟨A1, c1, rfl⟩ := Kd.R_slice xr
  have q1 := xb.cell
  have q2 := xm.cell
  have q3 := xk.cell
  have HX := Aside0.mk xr
  clear xr
  go_region
  all_goals
    go_wp2
    go_ret3
    exact ⟨_, rfl, Kd.R_mono HX.out (fun _ _ => trivial), (B5.out.trans (hF6.below (fun k hk => by omega) B5.out.size)).drew⟩

/-- The totals' value. -/
theorem scoreValue_ok : ScoreOk 77 (fun _ x => x.2.2) := by
  intro W A c ch x hC hc
  go_enter Try.func77, Try.ntmps77
  go_wp2
  go_ret
  exact ⟨rfl, (Below.refl _ W).alloc (Nat.le_refl _) _⟩

def impl_byValue.f (l0 : List Item) (a1_0 a1_1 : Int) : Option (List Int × Int × Int) := if l0.length ≤ 1000 then some (bestAll l0 a1_0 a1_1 (fun _ x => x.2.2)) else none
set_option maxHeartbeats 2000000 in
theorem impl_byValue.calls (A0 : Option Addr) (c0 : Nat) (l0 : List Item) (a1_0 a1_1 : Int) (r1 : List Int) (r2 r3 : Int) (w : World) (hr0 : Kd.C k54 w A0 l0.length l0) (hc0 : l0.length ≤ c0) (h : impl_byValue.f l0 a1_0 a1_1 = some (r1, r2, r3)) :
    Calls Try.prog 62 #[.slice A0 l0.length c0, .agg #[.int .i64 a1_0, .int .i64 a1_1]] w fun e w' => ∃ v0_ : Value, e = .returned (.tuple #[v0_, .int .i64 r2, .int .i64 r3]) ∧ Kd.R (Kd.int .i64) 3 w' w.heap.size (fun _ => True) v0_ r1 ∧ Below w.heap.size w w' := by
  have hn : l0.length ≤ 1000 := by
    unfold impl_byValue.f at h
    split at h
    · assumption
    · cases h
  have hr : bestAll l0 a1_0 a1_1 (fun _ x => x.2.2) = (r1, r2, r3) := by
    unfold impl_byValue.f at h
    rw [if_pos hn] at h
    injection h
  have hcall := bestOf_calls l0 A0 c0 a1_0 a1_1 77 (fun _ x => x.2.2) (w.alloc (.cells #[.int .i64 a1_0, .int .i64 a1_1] 39)) (enters_of Try.func77 (by kernel_rfl) rfl) scoreValue_ok hn (Kd.C_below hr0 ((Below.refl _ w).alloc (Nat.le_refl _) _)) hc0 _ hr
  clear hr0 h hr
  go_enter Try.func62, Try.ntmps62
  go_wp2_with (go_at_call 51; refine hcall.mono ?_; rintro e w' ⟨v, rfl, hR, hb⟩; obtain ⟨A1, c1, rfl⟩ := Kd.R_slice hR)
  go_ret3
  exact ⟨_, rfl, Kd.R_lower hR (by simp), ((Below.refl _ w).alloc (Nat.le_refl _) _).trans (hb.mono (by simp))⟩
end Go.Proofs.Ytgghcngfleicnaa.Q

namespace Go.Proofs.Ytgghcngfleicnaa.Q
open Go.RowKit Go.Shelf Go.Proofs.YtgghcngfleicnaaW.PrintWords Go.Proofs.YtgghcngfleicnaaW.PrintLast Go.Proofs.YtgghcngfleicnaaW.PrintMore
attribute [local go_sem] max2_int max_two
set_option linter.unusedVariables false
set_option linter.unusedSimpArgs false

abbrev Sum3 := Int × Int × Int
def addI (s : Sum3) (x : Item) : Sum3 := (s.1 + x.f0, s.2.1 + x.f1, s.2.2 + x.f2)
def maxI (a b : Int) : Int := if a < b then b else a
/-- The greatest value of the items from i on, d of them, in two suitcases that hold a and b. -/
def twoV (items : List Item) (c0 c1 d0 d1 : Int) : Nat → Nat → Sum3 → Sum3 → Int
  | 0, _, a, b => a.2.2 + b.2.2
  | d + 1, i, a, b =>
    let x := rd_T54 items (i : Int)
    let m0 := twoV items c0 c1 d0 d1 d (i + 1) a b
    let m1 := if holdsC c0 c1 (addI a x) = true then maxI m0 (twoV items c0 c1 d0 d1 d (i + 1) (addI a x) b) else m0
    if holdsC d0 d1 (addI b x) = true then maxI m1 (twoV items c0 c1 d0 d1 d (i + 1) a (addI b x)) else m1
/-- Not less than 0, not more than n. -/
def Sum3.small (s : Sum3) (n : Int) : Prop := (0 ≤ s.1 ∧ s.1 ≤ n) ∧ (0 ≤ s.2.1 ∧ s.2.1 ≤ n) ∧ 0 ≤ s.2.2 ∧ s.2.2 ≤ n
theorem small_add {s : Sum3} {n : Int} {x : Item} (h : s.small n) (hx : (0 ≤ x.f0 ∧ x.f0 ≤ 200) ∧ (0 ≤ x.f1 ∧ x.f1 ≤ 200) ∧ 0 ≤ x.f2 ∧ x.f2 ≤ 200) : (addI s x).small (n + 200) := by
  unfold Sum3.small addI at *
  simp only
  omega
theorem small_more {s : Sum3} {n m : Int} (h : s.small n) (hm : n ≤ m) : s.small m := by
  unfold Sum3.small at *
  omega

theorem two_ret {x y : Int} (h : x = y) : Ending.returned (.int .i64 x) = .returned (.int .i64 y) := by rw [h]

set_option maxRecDepth 100000 in
set_option maxHeartbeats 8000000 in
theorem two1_calls (items : List Item) (A0 : Option Addr) (k0 : Nat) (c0 c1 d0 d1 : Int) (Bi Bb Bc Bd : Nat) (w1 : World) (hn : items.length ≤ 10) (hk0 : items.length ≤ k0)
    (hlight : ∀ i : Int, 0 ≤ i → i < (items.length : Int) → (0 ≤ (rd_T54 items i).f0 ∧ (rd_T54 items i).f0 ≤ 200) ∧ (0 ≤ (rd_T54 items i).f1 ∧ (rd_T54 items i).f1 ≤ 200) ∧ 0 ≤ (rd_T54 items i).f2 ∧ (rd_T54 items i).f2 ≤ 200)
    (hcap : ∀ W, Below w1.heap.size w1 W → W.cell? ⟨Bi, 0, none⟩ = some (.slice A0 items.length k0) ∧ W.cell? ⟨Bb, 0, none⟩ = some (.func (.func 60) #[] #[.pointer (some ⟨Bi, 0, none⟩), .pointer (some ⟨Bb, 0, none⟩), .pointer (some ⟨Bc, 0, none⟩), .pointer (some ⟨Bd, 0, none⟩)]) ∧
      W.heap[Bc]? = some (.cells #[.int .i64 c0, .int .i64 c1] 39 (0, 0)) ∧ W.heap[Bd]? = some (.cells #[.int .i64 d0, .int .i64 d1] 39 (0, 0)) ∧ Kd.C k54 W A0 items.length items) :
    ∀ d i W (a b : Sum3), i + d = items.length → a.small (200 * i) → b.small (200 * i) → Below w1.heap.size w1 W →
      Calls Try.prog 60 #[.int .i64 (i : Int), .agg #[.int .i64 a.1, .int .i64 a.2.1, .int .i64 a.2.2], .agg #[.int .i64 b.1, .int .i64 b.2.1, .int .i64 b.2.2], .pointer (some ⟨Bi, 0, none⟩), .pointer (some ⟨Bb, 0, none⟩), .pointer (some ⟨Bc, 0, none⟩), .pointer (some ⟨Bd, 0, none⟩)] W
        fun e w' => e = .returned (.int .i64 (twoV items c0 c1 d0 d1 d i a b)) ∧ Below W.heap.size W w' := by
  intro d
  induction d with
  | zero =>
    intro i W a b hd ha hb hW
    obtain ⟨a0, a1, a2⟩ := a
    obtain ⟨b0, b1, b2⟩ := b
    show Calls _ _ _ _ fun e w' => e = .returned (.int .i64 (a2 + b2)) ∧ _
    unfold Sum3.small at ha hb
    simp only at ha hb
    have hw : IntKind.i64.wrap (a2 + b2) = a2 + b2 := IntWalk.i64_in _ (by omega)
    have hz : ((i : Int) == (items.length : Int)) = true := by simp; omega
    have HCAP := Aside0.mk hcap
    have HW := Aside0.mk hW
    clear hcap hW hlight ha hb hd
    go_enter Try.func60, Try.ntmps60
    go_upto_region 1 with (fail)
    have b2' : Below W.heap.size W ((W.alloc (.cells #[.int .i64 a0, .int .i64 a1, .int .i64 a2] 54)).alloc (.cells #[.int .i64 b0, .int .i64 b1, .int .i64 b2] 54)) := ((Below.refl _ W).alloc (Nat.le_refl _) _).alloc (by simp) _
    have B2 := Aside0.mk b2'
    have q1 := (HCAP.out _ (HW.out.trans (b2'.mono HW.out.size))).1
    clear b2'
    go_wp2
    (try simp only [Exit.inBlock, Exit.then])
    go_ret
    exact ⟨rfl, B2.out⟩
  | succ d ih =>
    intro i W a b hd ha hb hW
    have hi : (i : Int) < (items.length : Int) := by omega
    have h0 : (0 : Int) ≤ (i : Int) := by omega
    have hx := hlight (i : Int) h0 hi
    rw [twoV]
    generalize hX : rd_T54 items (i : Int) = x at hx ⊢
    have ih1 := fun W h => ih (i + 1) W a b (by omega) (small_more ha (by omega)) (small_more hb (by omega)) h
    have ih2 := fun W h => ih (i + 1) W (addI a x) b (by omega) (small_more (small_add ha hx) (by omega)) (small_more hb (by omega)) h
    have ih3 := fun W h => ih (i + 1) W a (addI b x) (by omega) (small_more ha (by omega)) (small_more (small_add hb hx) (by omega)) h
    generalize twoV items c0 c1 d0 d1 d (i + 1) a b = m0 at ih1 ⊢
    generalize twoV items c0 c1 d0 d1 d (i + 1) (addI a x) b = mc at ih2 ⊢
    generalize twoV items c0 c1 d0 d1 d (i + 1) a (addI b x) = md at ih3 ⊢
    have hfc := holds_f c0 c1 (addI a x)
    have hfd := holds_f d0 d1 (addI b x)
    have hsa := small_add ha hx
    have hsb := small_add hb hx
    generalize holdsC c0 c1 (addI a x) = fc at hfc ⊢
    generalize holdsC d0 d1 (addI b x) = fd at hfd ⊢
    obtain ⟨a0, a1, a2⟩ := a
    obtain ⟨b0, b1, b2⟩ := b
    obtain ⟨x0, x1, x2⟩ := x
    unfold addI at *
    unfold Sum3.small at ha hb hsa hsb
    simp only at ha hb hsa hsb ih1 ih2 ih3 hfc hfd hx
    obtain ⟨na0, hna0⟩ : ∃ n, a0 + x0 = n := ⟨_, rfl⟩
    obtain ⟨na1, hna1⟩ : ∃ n, a1 + x1 = n := ⟨_, rfl⟩
    obtain ⟨na2, hna2⟩ : ∃ n, a2 + x2 = n := ⟨_, rfl⟩
    obtain ⟨nb0, hnb0⟩ : ∃ n, b0 + x0 = n := ⟨_, rfl⟩
    obtain ⟨nb1, hnb1⟩ : ∃ n, b1 + x1 = n := ⟨_, rfl⟩
    obtain ⟨nb2, hnb2⟩ : ∃ n, b2 + x2 = n := ⟨_, rfl⟩
    rw [hna0, hna1, hna2] at ih2 hfc
    rw [hnb0, hnb1, hnb2] at ih3 hfd
    have va0 : IntKind.i64.wrap (a0 + x0) = na0 := by rw [hna0]; exact IntWalk.i64_in _ (by omega)
    have va1 : IntKind.i64.wrap (a1 + x1) = na1 := by rw [hna1]; exact IntWalk.i64_in _ (by omega)
    have va2 : IntKind.i64.wrap (a2 + x2) = na2 := by rw [hna2]; exact IntWalk.i64_in _ (by omega)
    have vb0 : IntKind.i64.wrap (b0 + x0) = nb0 := by rw [hnb0]; exact IntWalk.i64_in _ (by omega)
    have vb1 : IntKind.i64.wrap (b1 + x1) = nb1 := by rw [hnb1]; exact IntWalk.i64_in _ (by omega)
    have vb2 : IntKind.i64.wrap (b2 + x2) = nb2 := by rw [hnb2]; exact IntWalk.i64_in _ (by omega)
    have vi : IntKind.i64.wrap ((i : Int) + 1) = ((i + 1 : Nat) : Int) := by rw [IntWalk.i64_in _ (by omega)]; omega
    have hz : ((i : Int) == (items.length : Int)) = false := by simp; omega
    have hcc := fun W => impl_Case_holds.calls c0 c1 na0 na1 na2 fc W hfc
    have hcd := fun W => impl_Case_holds.calls d0 d1 nb0 nb1 nb2 fd W hfd
    have hat := fun W (h : Below w1.heap.size w1 W) => at_T54 (hcap W h).2.2.2.2 (i : Int) h0 hi
    obtain ⟨ad, had, _⟩ := hat W hW
    subst had
    have hat2 : ∀ W, Below w1.heap.size w1 W → W.cell? (ad.add (i * 3)) = some (.int .i64 x0) ∧ W.cell? ⟨(ad.add (i * 3)).block, (ad.add (i * 3)).off + 1, none⟩ = some (.int .i64 x1) ∧ W.cell? ⟨(ad.add (i * 3)).block, (ad.add (i * 3)).off + 2, none⟩ = some (.int .i64 x2) := fun W h => by
      obtain ⟨ad', he, g0, g1, g2⟩ := hat W h
      injection he with he
      subst he
      rw [hX, Int.toNat_natCast] at g0 g1 g2
      exact ⟨g0, g1, g2⟩
    have HAT := Aside0.mk hat2
    have IH1 := Aside0.mk ih1
    have IH2 := Aside0.mk ih2
    have IH3 := Aside0.mk ih3
    have HCC := Aside0.mk hcc
    have HCD := Aside0.mk hcd
    have HCAP := Aside0.mk hcap
    have HW := Aside0.mk hW
    clear ih ih1 ih2 ih3 hcc hcd hat hat2 hcap hW hfc hfd ha hb hsa hsb hx hX hlight hna0 hna1 hna2 hnb0 hnb1 hnb2 hd
    go_enter Try.func60, Try.ntmps60
    go_upto_region 1 with (fail)
    have b2' : Below W.heap.size W ((W.alloc (.cells #[.int .i64 a0, .int .i64 a1, .int .i64 a2] 54)).alloc (.cells #[.int .i64 b0, .int .i64 b1, .int .i64 b2] 54)) := ((Below.refl _ W).alloc (Nat.le_refl _) _).alloc (by simp) _
    have k8 : ((W.alloc (.cells #[.int .i64 a0, .int .i64 a1, .int .i64 a2] 54)).alloc (.cells #[.int .i64 b0, .int .i64 b1, .int .i64 b2] 54)).heap[W.heap.size]? = some (.cells #[.int .i64 a0, .int .i64 a1, .int .i64 a2] 54 (0, 0)) :=
      blk_below (heap_alloc_new W _) ((Below.refl _ _).alloc (Nat.le_refl _) _)
    have k9 := heap_alloc_new (W.alloc (.cells #[.int .i64 a0, .int .i64 a1, .int .i64 a2] 54)) (.cells #[.int .i64 b0, .int .i64 b1, .int .i64 b2] 54)
    rw [show (W.alloc (.cells #[.int .i64 a0, .int .i64 a1, .int .i64 a2] 54)).heap.size = W.heap.size + 1 by simp] at k9
    generalize (W.alloc (.cells #[.int .i64 a0, .int .i64 a1, .int .i64 a2] 54)).alloc (.cells #[.int .i64 b0, .int .i64 b1, .int .i64 b2] 54) = W2 at b2' k8 k9 ⊢
    have B2 := Aside0.mk b2'
    have K8 := Aside0.mk k8
    have K9 := Aside0.mk k9
    clear b2' k8 k9
    have c2 := HCAP.out W2 (HW.out.trans (B2.out.mono HW.out.size))
    have q1 := c2.1
    obtain ⟨g0, g1, g2⟩ := HAT.out W2 (HW.out.trans (B2.out.mono HW.out.size))
    clear c2
    go_upto_region 4 with (fail)
    clear q1 g0 g1 g2
    have k11 := heap_alloc_new W2 (.cells #[.int .i64 x0, .int .i64 x1, .int .i64 x2] 54)
    have b3' : Below W2.heap.size W2 (W2.alloc (.cells #[.int .i64 x0, .int .i64 x1, .int .i64 x2] 54)) := (Below.refl _ W2).alloc (Nat.le_refl _) _
    generalize W2.alloc (.cells #[.int .i64 x0, .int .i64 x1, .int .i64 x2] 54) = W3 at k11 b3' ⊢
    have B3 : Aside0 (Below W.heap.size W W3) := ⟨B2.out.trans (b3'.mono B2.out.size)⟩
    have M8 : Aside0 (W3.heap[W.heap.size]? = some (.cells #[.int .i64 a0, .int .i64 a1, .int .i64 a2] 54 (0, 0))) := ⟨blk_below K8.out b3'⟩
    have M9 : Aside0 (W3.heap[W.heap.size + 1]? = some (.cells #[.int .i64 b0, .int .i64 b1, .int .i64 b2] 54 (0, 0))) := ⟨blk_below K9.out b3'⟩
    have M11 := Aside0.mk k11
    generalize W2.heap.size = Bx at *
    clear k11 b3' K8 K9 B2 W2
    have q4 := (HCAP.out W3 (HW.out.trans (B3.out.mono HW.out.size))).2.1
    have p0 := (blk_cell M8.out 0).trans rfl
    have p1 := (blk_cell M8.out 1).trans rfl
    have p2 := (blk_cell M8.out 2).trans rfl
    have r0 := (blk_cell M9.out 0).trans rfl
    have r1 := (blk_cell M9.out 1).trans rfl
    have r2 := (blk_cell M9.out 2).trans rfl
    go_upto_region 5 with (go_at_call 60; refine (IH1.out W3 (HW.out.trans (B3.out.mono HW.out.size))).mono ?_; rintro e w5 ⟨rfl, hb5⟩; have N5 := Aside0.mk hb5; clear hb5)
    clear q4 p0 p1 p2 r0 r1 r2
    have p0 := (blk_cell (blk_below M8.out N5.out) 0).trans rfl
    have p1 := (blk_cell (blk_below M8.out N5.out) 1).trans rfl
    have p2 := (blk_cell (blk_below M8.out N5.out) 2).trans rfl
    have s0 := (blk_cell (blk_below M11.out N5.out) 0).trans rfl
    have s1 := (blk_cell (blk_below M11.out N5.out) 1).trans rfl
    have s2 := (blk_cell (blk_below M11.out N5.out) 2).trans rfl
    go_upto_region 6 with (fail)
    clear p0 p1 p2 s0 s1 s2
    have k13 := heap_alloc_new w5 (.cells #[.int .i64 na0, .int .i64 na1, .int .i64 na2] 54)
    have n6 : Below W3.heap.size W3 (w5.alloc (.cells #[.int .i64 na0, .int .i64 na1, .int .i64 na2] 54)) := N5.out.alloc N5.out.size _
    generalize w5.alloc (.cells #[.int .i64 na0, .int .i64 na1, .int .i64 na2] 54) = W6 at k13 n6 ⊢
    have M13 := Aside0.mk k13
    have N6 := Aside0.mk n6
    clear k13 n6 N5
    generalize w5.heap.size = By at *
    have HB3 : Aside0 (∀ W', Below W3.heap.size W3 W' → Below w1.heap.size w1 W') := ⟨fun W' h => HW.out.trans ((B3.out.trans (h.mono B3.out.size)).mono HW.out.size)⟩
    have cc := (HCAP.out W6 (HB3.out W6 N6.out)).2.2.1
    have g0 := (blk_cell cc 0).trans rfl
    have g1 := (blk_cell cc 1).trans rfl
    have u0 := (blk_cell M13.out 0).trans rfl
    have u1 := (blk_cell M13.out 1).trans rfl
    have u2 := (blk_cell M13.out 2).trans rfl
    clear cc
    cases fc
    case' false =>
      go_upto_region 8 with (go_at_call 61; refine (HCC.out W6).mono ?_; rintro e wz ⟨rfl, hb7⟩; have NZ := Aside0.mk (N6.out.trans (hb7.mono N6.out.size)); clear hb7)
    case' true =>
      go_upto_region 8 with (first
        | (go_at_call 61; refine (HCC.out W6).mono ?_; rintro e w7 ⟨rfl, hb7⟩; have N7 := Aside0.mk (N6.out.trans (hb7.mono N6.out.size)); have q7 := (HCAP.out w7 (HB3.out w7 N7.out)).2.1; have t0 := (blk_cell (blk_below M13.out hb7) 0).trans rfl; have t1 := (blk_cell (blk_below M13.out hb7) 1).trans rfl; have t2 := (blk_cell (blk_below M13.out hb7) 2).trans rfl; have r0 := (blk_cell (blk_below M9.out N7.out) 0).trans rfl; have r1 := (blk_cell (blk_below M9.out N7.out) 1).trans rfl; have r2 := (blk_cell (blk_below M9.out N7.out) 2).trans rfl; clear hb7)
        | (go_at_call 60; refine (IH2.out w7 (HB3.out w7 N7.out)).mono ?_; rintro e wz ⟨rfl, hb8⟩; have NZ := Aside0.mk (N7.out.trans (hb8.mono N7.out.size)); clear hb8))
      clear q7 t0 t1 t2 r0 r1 r2
    all_goals
      clear g0 g1 u0 u1 u2
      have r0 := (blk_cell (blk_below M9.out NZ.out) 0).trans rfl
      have r1 := (blk_cell (blk_below M9.out NZ.out) 1).trans rfl
      have r2 := (blk_cell (blk_below M9.out NZ.out) 2).trans rfl
      have s0 := (blk_cell (blk_below M11.out NZ.out) 0).trans rfl
      have s1 := (blk_cell (blk_below M11.out NZ.out) 1).trans rfl
      have s2 := (blk_cell (blk_below M11.out NZ.out) 2).trans rfl
      go_upto_region 9 with (fail)
      clear r0 r1 r2 s0 s1 s2
      have k14 := heap_alloc_new wz (.cells #[.int .i64 nb0, .int .i64 nb1, .int .i64 nb2] 54)
      have n9 : Below W3.heap.size W3 (wz.alloc (.cells #[.int .i64 nb0, .int .i64 nb1, .int .i64 nb2] 54)) := NZ.out.alloc NZ.out.size _
      generalize wz.alloc (.cells #[.int .i64 nb0, .int .i64 nb1, .int .i64 nb2] 54) = W9 at k14 n9 ⊢
      have M14 := Aside0.mk k14
      have N9 := Aside0.mk n9
      clear k14 n9 NZ
      generalize wz.heap.size = Bz at *
      have cd := (HCAP.out W9 (HB3.out W9 N9.out)).2.2.2.1
      have g0 := (blk_cell cd 0).trans rfl
      have g1 := (blk_cell cd 1).trans rfl
      have u0 := (blk_cell M14.out 0).trans rfl
      have u1 := (blk_cell M14.out 1).trans rfl
      have u2 := (blk_cell M14.out 2).trans rfl
      clear cd
      cases fd
      case' false =>
        go_wp2_with (go_at_call 61; refine (HCD.out W9).mono ?_; rintro e wy ⟨rfl, hb7⟩; have NY := Aside0.mk (N9.out.trans (hb7.mono N9.out.size)); clear hb7)
      case' true =>
        go_wp2_with (first
          | (go_at_call 61; refine (HCD.out W9).mono ?_; rintro e w7 ⟨rfl, hb7⟩; have N7 := Aside0.mk (N9.out.trans (hb7.mono N9.out.size)); have q7 := (HCAP.out w7 (HB3.out w7 N7.out)).2.1; have t0 := (blk_cell (blk_below M14.out hb7) 0).trans rfl; have t1 := (blk_cell (blk_below M14.out hb7) 1).trans rfl; have t2 := (blk_cell (blk_below M14.out hb7) 2).trans rfl; have r0 := (blk_cell (blk_below M8.out N7.out) 0).trans rfl; have r1 := (blk_cell (blk_below M8.out N7.out) 1).trans rfl; have r2 := (blk_cell (blk_below M8.out N7.out) 2).trans rfl; clear hb7)
          | (go_at_call 60; refine (IH3.out w7 (HB3.out w7 N7.out)).mono ?_; rintro e wy ⟨rfl, hb8⟩; have NY := Aside0.mk (N7.out.trans (hb8.mono N7.out.size)); clear hb8))
      all_goals
        go_ret
        refine ⟨two_ret ?_, B3.out.trans (NY.out.mono B3.out.size)⟩
        (try unfold maxI)
        (try simp only [if_true, if_false, Bool.false_eq_true])
        all_goals (first | rfl | omega | ((repeat' split) <;> (first | omega | (split at * <;> omega))))
def twoB (items : List Item) : Bool := decide (items.length ≤ 10) && items.all fun x => decide (0 ≤ x.f0) && decide (x.f0 ≤ 200) && decide (0 ≤ x.f1) && decide (x.f1 ≤ 200) && decide (0 ≤ x.f2) && decide (x.f2 ≤ 200)
theorem rd_item (items : List Item) (i : Int) (h0 : 0 ≤ i) (h1 : i < (items.length : Int)) : rd_T54 items i ∈ items := by
  unfold rd_T54
  rw [List.getD_eq_getElem?_getD, List.getElem?_eq_getElem (by omega)]
  exact List.getElem_mem _
theorem twoB_of {items : List Item} (h : twoB items = true) : items.length ≤ 10 ∧ ∀ i : Int, 0 ≤ i → i < (items.length : Int) → (0 ≤ (rd_T54 items i).f0 ∧ (rd_T54 items i).f0 ≤ 200) ∧ (0 ≤ (rd_T54 items i).f1 ∧ (rd_T54 items i).f1 ≤ 200) ∧ 0 ≤ (rd_T54 items i).f2 ∧ (rd_T54 items i).f2 ≤ 200 := by
  unfold twoB at h
  simp only [Bool.and_eq_true, decide_eq_true_eq, List.all_eq_true] at h
  refine ⟨h.1, fun i h0 h1 => ?_⟩
  have := h.2 _ (rd_item items i h0 h1)
  omega
def impl_TwoCases.f (l0 : List Item) (a1_0 a1_1 a2_0 a2_1 : Int) : Option (Int × Bool) :=
  (impl_arePacked.f l0 [⟨a1_0, a1_1⟩, ⟨a2_0, a2_1⟩]).bind fun t => if t = true then (if twoB l0 = true then some (twoV l0 a1_0 a1_1 a2_0 a2_1 l0.length 0 (0, 0, 0) (0, 0, 0), true) else none) else some (0, false)
theorem cases2_C (W : World) (a0 a1 b0 b1 : Int) (t : Nat) : Kd.C k39 (W.alloc (.cells #[.int .i64 a0, .int .i64 a1, .int .i64 b0, .int .i64 b1] t)) (some ⟨W.heap.size, 0, none⟩) [(⟨a0, a1⟩ : Case), (⟨b0, b1⟩ : Case)].length [(⟨a0, a1⟩ : Case), (⟨b0, b1⟩ : Case)] := by
  have hnew := heap_alloc_new W (.cells #[.int .i64 a0, .int .i64 a1, .int .i64 b0, .int .i64 b1] t)
  refine ⟨rfl, by simp, fun _ => ⟨_, rfl, fun j p hj => ?_⟩⟩
  have hjl : j = 0 ∨ j = 1 := by have := (List.getElem?_eq_some_iff.1 hj).1; simp at this; omega
  rcases hjl with rfl | rfl
  · have hp : (⟨a0, a1⟩ : Case) = p := by simpa using hj
    subst hp
    refine ⟨_, rfl, k39_mk _ _, fun i u hu => ?_⟩
    rcases i with _ | _ | i
    · have : Value.int .i64 a0 = u := by simpa using hu
      subst this
      exact (blk_cell hnew 0).trans rfl
    · have : Value.int .i64 a1 = u := by simpa using hu
      subst this
      exact (blk_cell hnew 1).trans rfl
    · simp at hu
  · have hp : (⟨b0, b1⟩ : Case) = p := by simpa using hj
    subst hp
    refine ⟨_, rfl, k39_mk _ _, fun i u hu => ?_⟩
    rcases i with _ | _ | i
    · have : Value.int .i64 b0 = u := by simpa using hu
      subst this
      exact (blk_cell hnew 2).trans rfl
    · have : Value.int .i64 b1 = u := by simpa using hu
      subst this
      exact (blk_cell hnew 3).trans rfl
    · simp at hu
set_option maxRecDepth 100000 in
set_option maxHeartbeats 8000000 in
theorem impl_TwoCases.calls (A0 : Option Addr) (c0 : Nat) (l0 : List Item) (a1_0 a1_1 a2_0 a2_1 : Int) (r1 : Int) (r2 : Bool) (w : World) (hr0 : Kd.C k54 w A0 l0.length l0) (hc0 : l0.length ≤ c0) (h : impl_TwoCases.f l0 a1_0 a1_1 a2_0 a2_1 = some (r1, r2)) :
    Calls Try.prog 32 #[.slice A0 l0.length c0, .agg #[.int .i64 a1_0, .int .i64 a1_1], .agg #[.int .i64 a2_0, .int .i64 a2_1]] w fun e w' => e = .returned (.tuple #[.int .i64 r1, .bool r2]) ∧ Below w.heap.size w w' := by
  unfold impl_TwoCases.f at h
  obtain ⟨t, ht, h⟩ := Option.bind_eq_some_iff.mp h
  have HT := Aside0.mk ht
  have HR := Aside0.mk hr0
  have HH := Aside0.mk h
  clear ht hr0 h
  go_enter Try.func32, Try.ntmps32
  go_upto_region 1 with (fail)
  have x1 := ((Boxed.new w 25 (.slice A0 l0.length c0)).alloc (.cells #[.int .i64 a1_0, .int .i64 a1_1] 39)).alloc (.cells #[.int .i64 a2_0, .int .i64 a2_1] 39)
  have x2 := blk_below (heap_alloc_new (w.alloc (.cells #[.slice A0 l0.length c0] 25)) (.cells #[.int .i64 a1_0, .int .i64 a1_1] 39)) ((Below.refl _ _).alloc (Nat.le_refl _) (.cells #[.int .i64 a2_0, .int .i64 a2_1] 39))
  have x3 := heap_alloc_new ((w.alloc (.cells #[.slice A0 l0.length c0] 25)).alloc (.cells #[.int .i64 a1_0, .int .i64 a1_1] 39)) (.cells #[.int .i64 a2_0, .int .i64 a2_1] 39)
  have b3 : Below w.heap.size w (((w.alloc (.cells #[.slice A0 l0.length c0] 25)).alloc (.cells #[.int .i64 a1_0, .int .i64 a1_1] 39)).alloc (.cells #[.int .i64 a2_0, .int .i64 a2_1] 39)) :=
    (((Below.refl _ w).alloc (by simp) _).alloc (by simp) _).alloc (by simp <;> omega) _
  generalize ((w.alloc (.cells #[.slice A0 l0.length c0] 25)).alloc (.cells #[.int .i64 a1_0, .int .i64 a1_1] 39)).alloc (.cells #[.int .i64 a2_0, .int .i64 a2_1] 39) = W3 at x1 x2 x3 b3 ⊢
  simp only [show ∀ (W : World) (o : Obj), (W.alloc o).heap.size = W.heap.size + 1 from fun W o => by simp] at x2 x3
  have X1 := Aside0.mk x1
  have X2 := Aside0.mk x2
  have X3 := Aside0.mk x3
  have B3 := Aside0.mk b3
  have q1 := x1.cell
  have g0 := (blk_cell x2 0).trans rfl
  have g1 := (blk_cell x2 1).trans rfl
  have g2 := (blk_cell x3 0).trans rfl
  have g3 := (blk_cell x3 1).trans rfl
  clear x1 x2 x3 b3
  have hpk := impl_arePacked.calls A0 c0 l0 (some ⟨W3.heap.size, 0, none⟩) 2 [⟨a1_0, a1_1⟩, ⟨a2_0, a2_1⟩] t (W3.alloc (.cells #[.int .i64 a1_0, .int .i64 a1_1, .int .i64 a2_0, .int .i64 a2_1] 39)) (Kd.C_below HR.out (B3.out.alloc B3.out.size _)) hc0 (cases2_C _ _ _ _ _ _) (Nat.le_refl _) HT.out
  have HPK := Aside0.mk hpk
  have D4 : Aside0 (Below W3.heap.size W3 (W3.alloc (.cells #[.int .i64 a1_0, .int .i64 a1_1, .int .i64 a2_0, .int .i64 a2_1] 39))) := ⟨(Below.refl _ _).alloc (Nat.le_refl _) _⟩
  clear hpk
  cases t with
  | false =>
    have hr : (0 : Int) = r1 ∧ false = r2 := by simpa using HH.out
    obtain ⟨rfl, rfl⟩ := hr
    go_wp2_with (go_at_call 48; refine HPK.out.mono ?_; rintro e w' ⟨rfl, hb⟩; have D5 := Aside0.mk (D4.out.trans (hb.mono D4.out.size)); clear hb)
    go_ret2
    exact ⟨rfl, B3.out.trans (D5.out.mono B3.out.size)⟩
  | true =>
    have h := HH.out
    by_cases hs : twoB l0 = true
    case neg => rw [if_pos rfl, if_neg hs] at h; cases h
    rw [if_pos rfl, if_pos hs] at h
    have hr : twoV l0 a1_0 a1_1 a2_0 a2_1 l0.length 0 (0, 0, 0) (0, 0, 0) = r1 ∧ true = r2 := by simpa using h
    obtain ⟨hr, rfl⟩ := hr
    have HRR := Aside0.mk hr
    have HSH := Aside0.mk (twoB_of hs)
    clear h hr hs HH
    go_upto_region 5 with (go_at_call 48; refine HPK.out.mono ?_; rintro e w5 ⟨rfl, hb⟩; have D5 := Aside0.mk (D4.out.trans (hb.mono D4.out.size)); clear hb)
    have x4 := Boxed.new w5 78 (.func (.func 60) #[] #[.pointer (some ⟨w.heap.size, 0, none⟩), .pointer (some ⟨w5.heap.size, 0, none⟩), .pointer (some ⟨w.heap.size + 1, 0, none⟩), .pointer (some ⟨w.heap.size + 1 + 1, 0, none⟩)])
    have b4 : Below W3.heap.size W3 (w5.alloc (.cells #[.func (.func 60) #[] #[.pointer (some ⟨w.heap.size, 0, none⟩), .pointer (some ⟨w5.heap.size, 0, none⟩), .pointer (some ⟨w.heap.size + 1, 0, none⟩), .pointer (some ⟨w.heap.size + 1 + 1, 0, none⟩)]] 78)) := D5.out.alloc D5.out.size _
    generalize w5.alloc (.cells #[.func (.func 60) #[] #[.pointer (some ⟨w.heap.size, 0, none⟩), .pointer (some ⟨w5.heap.size, 0, none⟩), .pointer (some ⟨w.heap.size + 1, 0, none⟩), .pointer (some ⟨w.heap.size + 1 + 1, 0, none⟩)]] 78) = W5 at x4 b4 ⊢
    have hz : Sum3.small (0, 0, 0) (200 * (0 : Nat)) := by unfold Sum3.small; simp
    have hcall := two1_calls l0 A0 c0 a1_0 a1_1 a2_0 a2_1 w.heap.size w5.heap.size (w.heap.size + 1) (w.heap.size + 1 + 1) W5 HSH.out.1 hc0 HSH.out.2
      (fun W hb => ⟨(box_below X1.out (b4.trans (hb.mono b4.size))).cell, (box_below x4 hb).cell, blk_below X2.out (b4.trans (hb.mono b4.size)), blk_below X3.out (b4.trans (hb.mono b4.size)), Kd.C_below HR.out (B3.out.trans ((b4.trans (hb.mono b4.size)).mono B3.out.size))⟩)
      l0.length 0 W5 (0, 0, 0) (0, 0, 0) (by omega) hz hz (Below.refl _ _)
    rw [HRR.out] at hcall
    have HCALL := Aside0.mk hcall
    have q4 := x4.cell
    have B5 : Aside0 (Below w.heap.size w W5) := ⟨B3.out.trans (b4.mono B3.out.size)⟩
    clear hcall x4 b4 hz q1 g0 g1 g2 g3
    go_wp2_with (go_at_call 60; refine HCALL.out.mono ?_; rintro e w6 ⟨rfl, hb6⟩; have B6 := Aside0.mk (B5.out.trans (hb6.mono B5.out.size)); clear hb6)
    go_ret2
    exact ⟨rfl, B6.out⟩
end Go.Proofs.Ytgghcngfleicnaa.Q

namespace Go.Proofs.Ytgghcngfleicnaa.Q
open Go.RowKit Go.Proofs.YtgghcngfleicnaaW.PrintWords Go.Proofs.YtgghcngfleicnaaW.PrintLast Go.Proofs.YtgghcngfleicnaaW.PrintMore
attribute [local go_sem] max2_int min2_int max_two min_two max_three min_three max_four min_four   -- for this text's walks alone
set_option linter.unusedVariables false
set_option linter.unusedSimpArgs false

/-! ### spec_suAsked: function 46 -/
def spec_suAsked.f (k : Nat) (l0 : List (S54)) (a1_0 : Int) (a1_1 : Int) : Option (Bool) := (spec_suGood.f k l0).bind fun t207 => (if t207 = true then ((spec_l1In.f a1_0 0 200).bind fun t208 => (if t208 = true then ((spec_l1In.f a1_1 0 200).bind fun t209 => (some t209)) else (some false))) else (some false))
theorem spec_suAsked.mono : ∀ a0 a1 a2 k, LeO (spec_suAsked.f k a0 a1 a2) (spec_suAsked.f (k + 1) a0 a1 a2) := by
  intro a0 a1 a2 k
  unfold spec_suAsked.f
  repeat' first
      | (with_reducible exact spec_suGood.mono _ _)
      | (with_reducible exact LeO.refl _)
      | (with_reducible exact LeO.none _)
      | (with_reducible refine LeO.ite ?_ ?_)
      | (with_reducible refine LeO.bind ?_ (fun _ => ?_))
      | exact spec_suGood.mono _ _
      | exact LeO.none _
      | refine LeO.ite ?_ ?_
      | refine LeO.bind ?_ (fun _ => ?_)
set_option maxHeartbeats 8000000 in
set_option maxRecDepth 100000 in
theorem spec_suAsked.calls (k : Nat) (A0 : Option Addr) (c0 : Nat) (l0 : List (S54)) (a1_0 : Int) (a1_1 : Int) (r : Bool) (w : World) (hr0 : Kd.C k54 w A0 l0.length l0) (hc0 : l0.length ≤ c0) (h : spec_suAsked.f k l0 a1_0 a1_1 = some r) :
    Calls Try.prog 46 #[.slice A0 l0.length c0, .agg #[.int .i64 a1_0, .int .i64 a1_1]] w fun e w' => e = .returned (.bool r) ∧ Below w.heap.size w w' := by
  have hu39 := Try.underlying39
  have HR0 := Aside0.mk hr0
  have HC0 := Aside0.mk hc0
  clear hr0 hc0
  have HB := Aside0.mk (Below.refl w.heap.size w)
  have H : ((spec_suGood.f k l0).bind fun t207 => (if t207 = true then ((spec_l1In.f a1_0 0 200).bind fun t208 => (if t208 = true then ((spec_l1In.f a1_1 0 200).bind fun t209 => (some t209)) else (some false))) else (some false))) = some r := h
  clear h
  replace H := Option.bind_eq_some_iff.mp H
  obtain ⟨t207, A30, H⟩ := H
  replace H : (if t207 = true then ((spec_l1In.f a1_0 0 200).bind fun t208 => (if t208 = true then ((spec_l1In.f a1_1 0 200).bind fun t209 => (some t209)) else (some false))) else (some false)) = some r := H
  have A3 := Aside0.mk A30
  clear A30
  by_cases c4 : t207 = true
  · subst c4
    have H1 : ((spec_l1In.f a1_0 0 200).bind fun t208 => (if t208 = true then ((spec_l1In.f a1_1 0 200).bind fun t209 => (some t209)) else (some false))) = some r := by rw [if_pos rfl] at H; exact H
    clear H
    have H := H1
    clear H1
    replace H := Option.bind_eq_some_iff.mp H
    obtain ⟨t208, A50, H⟩ := H
    replace H : (if t208 = true then ((spec_l1In.f a1_1 0 200).bind fun t209 => (some t209)) else (some false)) = some r := H
    have A5 := Aside0.mk A50
    clear A50
    by_cases c6 : t208 = true
    · subst c6
      have H1 : ((spec_l1In.f a1_1 0 200).bind fun t209 => (some t209)) = some r := by rw [if_pos rfl] at H; exact H
      clear H
      have H := H1
      clear H1
      replace H := Option.bind_eq_some_iff.mp H
      obtain ⟨t209, A70, H⟩ := H
      replace H : (some t209) = some r := H
      have A7 := Aside0.mk A70
      clear A70
      obtain rfl := Option.some.inj H
      go_enter Try.func46, Try.ntmps46
      go_wp2_with (first | ((with_reducible refine gate_dst (N := 3) rfl ?_); refine box_event ?hg (N := 3) ?hd (cs := #[.int .i64 a1_0, .int .i64 a1_1]) (t := 39) ?hr ?_; (case hd => rfl); (case hg => rfl); (case hr => first | (go_simp; done) | (go_simp; rfl)); intro gb206 hg w8 hbox hb; have n0_ := Aside0.mk (below_step (by repeat (first | (with_reducible first | exact HB.out | apply below_alloc | apply pw_below_drewN | apply below_drew1) | exact HB.out)) hb); have n1_ := Aside0.mk (hbox); have n2_ := Aside0.mk ((by rw [hg]; exact (below_size (by repeat (first | (with_reducible first | exact HB.out | apply below_alloc | apply pw_below_drewN | apply below_drew1) | exact HB.out))) : w.heap.size ≤ gb206)); have n3_ := Aside0.mk ((by rw [hg]; exact (below_size (by repeat (first | (with_reducible first | exact HB.out | apply below_alloc | apply pw_below_drewN | apply below_drew1) | exact HB.out))) : w.heap.size ≤ gb206)); clear HB; have HB := n0_; have BK206 := n1_; have GW206 := n2_; have GE206 := n3_; clear n0_ n1_ n2_ n3_; clear hb hbox hg) | ((with_reducible refine gate_callee (f := 39) rfl ?_); refine goesL_ (some 6) rfl rfl Try.func39 (by kernel_rfl) rfl #[.slice A0 l0.length c0] rfl (by (try simp only [List.map_toArray, List.map_cons, List.map_nil]); first | done | rfl | (simp only [List.length_drop, List.length_take]; rfl)) ?_; (with_reducible refine (spec_suGood.calls k _ _ l0 true _ ?side1 ?side2 A3.out).mono ?_); (case side1 => repeat (first | exact (Kd.C_below HR0.out HB.out) | (with_reducible refine Kd.C_alloc ?_ _) | (with_reducible refine Kd.C_drewN ?_ _) | (with_reducible refine Kd.C_drew ?_))); (case side2 => exact HC0.out); rintro e w9 ⟨rfl, hb⟩; refine ⟨_, rfl, ?_⟩; have n0_ := Aside0.mk (blk_below (g := gb206) (o := .cells #[.int .i64 a1_0, .int .i64 a1_1] 39 (0, 0)) (by (with_reducible repeat (first | refine blk_drewN ?_ _ | refine blk_drew ?_ | refine blk_alloc ?_ _)); exact BK206.out) hb); have n1_ := Aside0.mk (below_step (by repeat (first | (with_reducible first | exact HB.out | apply below_alloc | apply pw_below_drewN | apply below_drew1 | refine below_set ?_ GE206.out) | exact HB.out)) hb); clear BK206; clear HB; have BK206 := n0_; have HB := n1_; clear n0_ n1_; (try clear hb); (try clear hb2); (try clear hk); (try clear hi); have hcz10_0 : w9.cell? ⟨gb206, 0, none⟩ = some (.int .i64 a1_0) := (blk_cell BK206.out 0).trans rfl; have hcz10_1 : w9.cell? ⟨gb206, 1, none⟩ = some (.int .i64 a1_1) := (blk_cell BK206.out 1).trans rfl; have hfz10_0 := blk_frozen BK206.out 0; have hfz10_1 := blk_frozen BK206.out 1) | (go_at_call 63; (with_reducible refine (spec_l1In.calls a1_0 0 200 true _ A5.out).mono ?_); rintro e w' ⟨rfl, ⟨nd, rfl⟩⟩) | (go_at_call 63; (with_reducible refine (spec_l1In.calls a1_1 0 200 t209 _ A7.out).mono ?_); rintro e w' ⟨rfl, ⟨nd, rfl⟩⟩))
      go_ret
      exact ⟨by first | rfl | (simp [errW_none, errW_some] <;> rfl) | (simp [*, errW_none, errW_some] <;> rfl), by repeat (first | (with_reducible first | exact HB.out | apply below_alloc | apply pw_below_drewN | apply below_drew1 | refine below_set ?_ GE206.out) | exact HB.out)⟩
    · replace c6 := Bool.eq_false_iff.mpr c6
      subst c6
      have H1 : (some false) = some r := by rw [if_neg (show ¬ (false = true) by decide)] at H; exact H
      clear H
      have H := H1
      clear H1
      obtain rfl := Option.some.inj H
      go_enter Try.func46, Try.ntmps46
      go_wp2_with (first | ((with_reducible refine gate_dst (N := 3) rfl ?_); refine box_event ?hg (N := 3) ?hd (cs := #[.int .i64 a1_0, .int .i64 a1_1]) (t := 39) ?hr ?_; (case hd => rfl); (case hg => rfl); (case hr => first | (go_simp; done) | (go_simp; rfl)); intro gb206 hg w11 hbox hb; have n0_ := Aside0.mk (below_step (by repeat (first | (with_reducible first | exact HB.out | apply below_alloc | apply pw_below_drewN | apply below_drew1) | exact HB.out)) hb); have n1_ := Aside0.mk (hbox); have n2_ := Aside0.mk ((by rw [hg]; exact (below_size (by repeat (first | (with_reducible first | exact HB.out | apply below_alloc | apply pw_below_drewN | apply below_drew1) | exact HB.out))) : w.heap.size ≤ gb206)); have n3_ := Aside0.mk ((by rw [hg]; exact (below_size (by repeat (first | (with_reducible first | exact HB.out | apply below_alloc | apply pw_below_drewN | apply below_drew1) | exact HB.out))) : w.heap.size ≤ gb206)); clear HB; have HB := n0_; have BK206 := n1_; have GW206 := n2_; have GE206 := n3_; clear n0_ n1_ n2_ n3_; clear hb hbox hg) | ((with_reducible refine gate_callee (f := 39) rfl ?_); refine goesL_ (some 6) rfl rfl Try.func39 (by kernel_rfl) rfl #[.slice A0 l0.length c0] rfl (by (try simp only [List.map_toArray, List.map_cons, List.map_nil]); first | done | rfl | (simp only [List.length_drop, List.length_take]; rfl)) ?_; (with_reducible refine (spec_suGood.calls k _ _ l0 true _ ?side1 ?side2 A3.out).mono ?_); (case side1 => repeat (first | exact (Kd.C_below HR0.out HB.out) | (with_reducible refine Kd.C_alloc ?_ _) | (with_reducible refine Kd.C_drewN ?_ _) | (with_reducible refine Kd.C_drew ?_))); (case side2 => exact HC0.out); rintro e w12 ⟨rfl, hb⟩; refine ⟨_, rfl, ?_⟩; have n0_ := Aside0.mk (blk_below (g := gb206) (o := .cells #[.int .i64 a1_0, .int .i64 a1_1] 39 (0, 0)) (by (with_reducible repeat (first | refine blk_drewN ?_ _ | refine blk_drew ?_ | refine blk_alloc ?_ _)); exact BK206.out) hb); have n1_ := Aside0.mk (below_step (by repeat (first | (with_reducible first | exact HB.out | apply below_alloc | apply pw_below_drewN | apply below_drew1 | refine below_set ?_ GE206.out) | exact HB.out)) hb); clear BK206; clear HB; have BK206 := n0_; have HB := n1_; clear n0_ n1_; (try clear hb); (try clear hb2); (try clear hk); (try clear hi); have hcz13_0 : w12.cell? ⟨gb206, 0, none⟩ = some (.int .i64 a1_0) := (blk_cell BK206.out 0).trans rfl; have hcz13_1 : w12.cell? ⟨gb206, 1, none⟩ = some (.int .i64 a1_1) := (blk_cell BK206.out 1).trans rfl; have hfz13_0 := blk_frozen BK206.out 0; have hfz13_1 := blk_frozen BK206.out 1) | (go_at_call 63; (with_reducible refine (spec_l1In.calls a1_0 0 200 false _ A5.out).mono ?_); rintro e w' ⟨rfl, ⟨nd, rfl⟩⟩))
      go_ret
      exact ⟨by first | rfl | (simp [errW_none, errW_some] <;> rfl) | (simp [*, errW_none, errW_some] <;> rfl), by repeat (first | (with_reducible first | exact HB.out | apply below_alloc | apply pw_below_drewN | apply below_drew1 | refine below_set ?_ GE206.out) | exact HB.out)⟩
  · replace c4 := Bool.eq_false_iff.mpr c4
    subst c4
    have H1 : (some false) = some r := by rw [if_neg (show ¬ (false = true) by decide)] at H; exact H
    clear H
    have H := H1
    clear H1
    obtain rfl := Option.some.inj H
    go_enter Try.func46, Try.ntmps46
    go_wp2_with (first | ((with_reducible refine gate_dst (N := 3) rfl ?_); refine box_event ?hg (N := 3) ?hd (cs := #[.int .i64 a1_0, .int .i64 a1_1]) (t := 39) ?hr ?_; (case hd => rfl); (case hg => rfl); (case hr => first | (go_simp; done) | (go_simp; rfl)); intro gb206 hg w14 hbox hb; have n0_ := Aside0.mk (below_step (by repeat (first | (with_reducible first | exact HB.out | apply below_alloc | apply pw_below_drewN | apply below_drew1) | exact HB.out)) hb); have n1_ := Aside0.mk (hbox); have n2_ := Aside0.mk ((by rw [hg]; exact (below_size (by repeat (first | (with_reducible first | exact HB.out | apply below_alloc | apply pw_below_drewN | apply below_drew1) | exact HB.out))) : w.heap.size ≤ gb206)); have n3_ := Aside0.mk ((by rw [hg]; exact (below_size (by repeat (first | (with_reducible first | exact HB.out | apply below_alloc | apply pw_below_drewN | apply below_drew1) | exact HB.out))) : w.heap.size ≤ gb206)); clear HB; have HB := n0_; have BK206 := n1_; have GW206 := n2_; have GE206 := n3_; clear n0_ n1_ n2_ n3_; clear hb hbox hg) | ((with_reducible refine gate_callee (f := 39) rfl ?_); refine goesL_ (some 6) rfl rfl Try.func39 (by kernel_rfl) rfl #[.slice A0 l0.length c0] rfl (by (try simp only [List.map_toArray, List.map_cons, List.map_nil]); first | done | rfl | (simp only [List.length_drop, List.length_take]; rfl)) ?_; (with_reducible refine (spec_suGood.calls k _ _ l0 false _ ?side1 ?side2 A3.out).mono ?_); (case side1 => repeat (first | exact (Kd.C_below HR0.out HB.out) | (with_reducible refine Kd.C_alloc ?_ _) | (with_reducible refine Kd.C_drewN ?_ _) | (with_reducible refine Kd.C_drew ?_))); (case side2 => exact HC0.out); rintro e w15 ⟨rfl, hb⟩; refine ⟨_, rfl, ?_⟩; have n0_ := Aside0.mk (blk_below (g := gb206) (o := .cells #[.int .i64 a1_0, .int .i64 a1_1] 39 (0, 0)) (by (with_reducible repeat (first | refine blk_drewN ?_ _ | refine blk_drew ?_ | refine blk_alloc ?_ _)); exact BK206.out) hb); have n1_ := Aside0.mk (below_step (by repeat (first | (with_reducible first | exact HB.out | apply below_alloc | apply pw_below_drewN | apply below_drew1 | refine below_set ?_ GE206.out) | exact HB.out)) hb); clear BK206; clear HB; have BK206 := n0_; have HB := n1_; clear n0_ n1_; (try clear hb); (try clear hb2); (try clear hk); (try clear hi)))
    go_ret
    exact ⟨by first | rfl | (simp [errW_none, errW_some] <;> rfl) | (simp [*, errW_none, errW_some] <;> rfl), by repeat (first | (with_reducible first | exact HB.out | apply below_alloc | apply pw_below_drewN | apply below_drew1 | refine below_set ?_ GE206.out) | exact HB.out)⟩

end Go.Proofs.Ytgghcngfleicnaa.Q

namespace Go.Proofs.Ytgghcngfleicnaa.Q
open Go.RowKit Go.Proofs.YtgghcngfleicnaaW.PrintWords Go.Proofs.YtgghcngfleicnaaW.PrintLast Go.Proofs.YtgghcngfleicnaaW.PrintMore
attribute [local go_sem] max2_int min2_int max_two min_two max_three min_three max_four min_four   -- for this text's walks alone
set_option linter.unusedVariables false
set_option linter.unusedSimpArgs false

/-! ### spec_suFits: function 71 -/
def spec_suFits.f (k : Nat) (l0 : List (S54)) (a1_0 : Int) (a1_1 : Int) (l2 : List Int) : Option (Bool) := (spec_suTotals.f k l0 l2).bind fun bt219 => (if bt219.1 ≤ a1_0 then (some (decide (bt219.2.1 ≤ a1_1))) else (some false))
theorem spec_suFits.mono : ∀ a0 a1 a2 a3 k, LeO (spec_suFits.f k a0 a1 a2 a3) (spec_suFits.f (k + 1) a0 a1 a2 a3) := by
  intro a0 a1 a2 a3 k
  unfold spec_suFits.f
  repeat' first
      | (with_reducible exact spec_suTotals.mono _ _ _)
      | (with_reducible exact LeO.refl _)
      | (with_reducible exact LeO.none _)
      | (with_reducible refine LeO.ite ?_ ?_)
      | (with_reducible refine LeO.bind ?_ (fun _ => ?_))
      | exact spec_suTotals.mono _ _ _
      | exact LeO.none _
      | refine LeO.ite ?_ ?_
      | refine LeO.bind ?_ (fun _ => ?_)
set_option maxHeartbeats 8000000 in
set_option maxRecDepth 100000 in
theorem spec_suFits.calls (k : Nat) (A0 : Option Addr) (c0 : Nat) (l0 : List (S54)) (a1_0 : Int) (a1_1 : Int) (A2 : Option Addr) (c2 : Nat) (l2 : List Int) (r : Bool) (w : World) (hr0 : Kd.C k54 w A0 l0.length l0) (hc0 : l0.length ≤ c0) (hr2 : Kd.C (Kd.int .i64) w A2 l2.length l2) (hc2 : l2.length ≤ c2) (h : spec_suFits.f k l0 a1_0 a1_1 l2 = some r) :
    Calls Try.prog 71 #[.slice A0 l0.length c0, .agg #[.int .i64 a1_0, .int .i64 a1_1], .slice A2 l2.length c2] w fun e w' => e = .returned (.bool r) ∧ Below w.heap.size w w' := by
  have hu39 := Try.underlying39
  have HR0 := Aside0.mk hr0
  have HC0 := Aside0.mk hc0
  clear hr0 hc0
  have HR2 := Aside0.mk hr2
  have HC2 := Aside0.mk hc2
  clear hr2 hc2
  have HB := Aside0.mk (Below.refl w.heap.size w)
  have H : ((spec_suTotals.f k l0 l2).bind fun bt219 => (if bt219.1 ≤ a1_0 then (some (decide (bt219.2.1 ≤ a1_1))) else (some false))) = some r := h
  clear h
  replace H := Option.bind_eq_some_iff.mp H
  obtain ⟨⟨t219, t220, t221⟩, A40, H⟩ := H
  replace H : (if t219 ≤ a1_0 then (some (decide (t220 ≤ a1_1))) else (some false)) = some r := H
  have A4 := Aside0.mk A40
  clear A40
  by_cases c5 : t219 ≤ a1_0
  · rw [if_pos c5] at H
    have c5b0 : decide (t219 ≤ a1_0) = true := decide_eq_true c5
    clear c5
    obtain rfl := Option.some.inj H
    go_enter Try.func71, Try.ntmps71
    go_wp2_with (first | ((with_reducible refine gate_dst (N := 4) rfl ?_); refine box_event ?hg (N := 4) ?hd (cs := #[.int .i64 a1_0, .int .i64 a1_1]) (t := 39) ?hr ?_; (case hd => rfl); (case hg => rfl); (case hr => first | (go_simp; done) | (go_simp; rfl)); intro gb218 hg w6 hbox hb; have n0_ := Aside0.mk (below_step (by repeat (first | (with_reducible first | exact HB.out | apply below_alloc | apply pw_below_drewN | apply below_drew1) | exact HB.out)) hb); have n1_ := Aside0.mk (hbox); have n2_ := Aside0.mk ((by rw [hg]; exact (below_size (by repeat (first | (with_reducible first | exact HB.out | apply below_alloc | apply pw_below_drewN | apply below_drew1) | exact HB.out))) : w.heap.size ≤ gb218)); have n3_ := Aside0.mk ((by rw [hg]; exact (below_size (by repeat (first | (with_reducible first | exact HB.out | apply below_alloc | apply pw_below_drewN | apply below_drew1) | exact HB.out))) : w.heap.size ≤ gb218)); clear HB; have HB := n0_; have BK218 := n1_; have GW218 := n2_; have GE218 := n3_; clear n0_ n1_ n2_ n3_; clear hb hbox hg) | ((with_reducible refine gate_callee (f := 54) rfl ?_); refine goesL_ (some 13) rfl rfl Try.func54 (by kernel_rfl) rfl #[.slice A0 l0.length c0, .slice A2 l2.length c2] rfl (by (try simp only [List.map_toArray, List.map_cons, List.map_nil]); first | done | rfl | (simp only [List.length_drop, List.length_take]; rfl)) ?_; (with_reducible refine (spec_suTotals.calls k _ _ l0 _ _ l2 t219 t220 t221 _ ?side1 ?side2 ?side3 ?side4 A4.out).mono ?_); (case side1 => repeat (first | exact (Kd.C_below HR0.out HB.out) | (with_reducible refine Kd.C_alloc ?_ _) | (with_reducible refine Kd.C_drewN ?_ _) | (with_reducible refine Kd.C_drew ?_))); (case side2 => exact HC0.out); (case side3 => repeat (first | exact (Kd.C_below HR2.out HB.out) | (with_reducible refine Kd.C_alloc ?_ _) | (with_reducible refine Kd.C_drewN ?_ _) | (with_reducible refine Kd.C_drew ?_))); (case side4 => exact HC2.out); rintro e w' ⟨rfl, ⟨nd, rfl⟩⟩; refine ⟨_, rfl, ?_⟩; have hcz7_0 : w6.cell? ⟨gb218, 0, none⟩ = some (.int .i64 a1_0) := (blk_cell BK218.out 0).trans rfl; have hcz7_1 : w6.cell? ⟨gb218, 1, none⟩ = some (.int .i64 a1_1) := (blk_cell BK218.out 1).trans rfl; have hfz7_0 := blk_frozen BK218.out 0; have hfz7_1 := blk_frozen BK218.out 1))
    go_ret
    exact ⟨by first | rfl | (simp [errW_none, errW_some] <;> rfl) | (simp [*, errW_none, errW_some] <;> rfl), by repeat (first | (with_reducible first | exact HB.out | apply below_alloc | apply pw_below_drewN | apply below_drew1 | refine below_set ?_ GE218.out) | exact HB.out)⟩
  · rw [if_neg c5] at H
    have c5b0 : decide (t219 ≤ a1_0) = false := decide_eq_false c5
    clear c5
    obtain rfl := Option.some.inj H
    go_enter Try.func71, Try.ntmps71
    go_wp2_with (first | ((with_reducible refine gate_dst (N := 4) rfl ?_); refine box_event ?hg (N := 4) ?hd (cs := #[.int .i64 a1_0, .int .i64 a1_1]) (t := 39) ?hr ?_; (case hd => rfl); (case hg => rfl); (case hr => first | (go_simp; done) | (go_simp; rfl)); intro gb218 hg w8 hbox hb; have n0_ := Aside0.mk (below_step (by repeat (first | (with_reducible first | exact HB.out | apply below_alloc | apply pw_below_drewN | apply below_drew1) | exact HB.out)) hb); have n1_ := Aside0.mk (hbox); have n2_ := Aside0.mk ((by rw [hg]; exact (below_size (by repeat (first | (with_reducible first | exact HB.out | apply below_alloc | apply pw_below_drewN | apply below_drew1) | exact HB.out))) : w.heap.size ≤ gb218)); have n3_ := Aside0.mk ((by rw [hg]; exact (below_size (by repeat (first | (with_reducible first | exact HB.out | apply below_alloc | apply pw_below_drewN | apply below_drew1) | exact HB.out))) : w.heap.size ≤ gb218)); clear HB; have HB := n0_; have BK218 := n1_; have GW218 := n2_; have GE218 := n3_; clear n0_ n1_ n2_ n3_; clear hb hbox hg) | ((with_reducible refine gate_callee (f := 54) rfl ?_); refine goesL_ (some 13) rfl rfl Try.func54 (by kernel_rfl) rfl #[.slice A0 l0.length c0, .slice A2 l2.length c2] rfl (by (try simp only [List.map_toArray, List.map_cons, List.map_nil]); first | done | rfl | (simp only [List.length_drop, List.length_take]; rfl)) ?_; (with_reducible refine (spec_suTotals.calls k _ _ l0 _ _ l2 t219 t220 t221 _ ?side1 ?side2 ?side3 ?side4 A4.out).mono ?_); (case side1 => repeat (first | exact (Kd.C_below HR0.out HB.out) | (with_reducible refine Kd.C_alloc ?_ _) | (with_reducible refine Kd.C_drewN ?_ _) | (with_reducible refine Kd.C_drew ?_))); (case side2 => exact HC0.out); (case side3 => repeat (first | exact (Kd.C_below HR2.out HB.out) | (with_reducible refine Kd.C_alloc ?_ _) | (with_reducible refine Kd.C_drewN ?_ _) | (with_reducible refine Kd.C_drew ?_))); (case side4 => exact HC2.out); rintro e w' ⟨rfl, ⟨nd, rfl⟩⟩; refine ⟨_, rfl, ?_⟩; have hcz9_0 : w8.cell? ⟨gb218, 0, none⟩ = some (.int .i64 a1_0) := (blk_cell BK218.out 0).trans rfl; have hcz9_1 : w8.cell? ⟨gb218, 1, none⟩ = some (.int .i64 a1_1) := (blk_cell BK218.out 1).trans rfl; have hfz9_0 := blk_frozen BK218.out 0; have hfz9_1 := blk_frozen BK218.out 1))
    go_ret
    exact ⟨by first | rfl | (simp [errW_none, errW_some] <;> rfl) | (simp [*, errW_none, errW_some] <;> rfl), by repeat (first | (with_reducible first | exact HB.out | apply below_alloc | apply pw_below_drewN | apply below_drew1 | refine below_set ?_ GE218.out) | exact HB.out)⟩

end Go.Proofs.Ytgghcngfleicnaa.Q

namespace Go.Proofs.Ytgghcngfleicnaa.Q
open Go.RowKit Go.Proofs.YtgghcngfleicnaaW.PrintWords Go.Proofs.YtgghcngfleicnaaW.PrintLast Go.Proofs.YtgghcngfleicnaaW.PrintMore
set_option linter.unusedVariables false
set_option linter.unusedSimpArgs false

theorem suAsked_eq (items : List Item) (a b : Int) (hn : items.length ≤ 10000000) (k : Nat) (hk : items.length < k) : spec_suAsked.f k items a b = impl_arePacked.f items [⟨a, b⟩] := by
  unfold spec_suAsked.f
  rw [suGood_eq items (by omega) k hk]
  unfold impl_AreItems.f impl_arePacked.f
  simp only [inItem, Option.bind_some, List.all_cons, List.all_nil, Bool.and_true]
  unfold okCase
  cases (decide (1 ≤ items.length) && decide (items.length ≤ 10) && items.all okItem) <;> cases (decide (0 ≤ a) && decide (a ≤ 200)) <;> cases (decide (0 ≤ b) && decide (b ≤ 200)) <;> simp
theorem packed_good {items : List Item} {a b : Int} (h : impl_arePacked.f items [⟨a, b⟩] = some true) : items.length ≤ 10 ∧ 1 ≤ items.length ∧ (∀ x ∈ items, okItem x = true) ∧ (0 ≤ a ∧ a ≤ 200) ∧ 0 ≤ b ∧ b ≤ 200 := by
  unfold impl_arePacked.f at h
  injection h with h
  simp only [List.all_cons, List.all_nil, Bool.and_true, Bool.and_eq_true, decide_eq_true_eq, okCase, List.all_eq_true] at h
  exact ⟨h.1.1.2, h.1.1.1, h.1.2, h.2.1, h.2.2⟩

theorem holds_eq (a b x y z : Int) : impl_Case_holds.f a b x y z = some (decide (x ≤ a) && decide (y ≤ b)) := by
  unfold impl_Case_holds.f
  by_cases h : x ≤ a
  · rw [if_pos h]; simp [h]
  · rw [if_neg h]; simp [h]
theorem suFits_eq (items : List Item) (a b : Int) (ch : List Int) (hw : Inside items ch) (hn : ch.length ≤ 100000000000000) (k : Nat) (hk : ch.length < k) :
    spec_suFits.f k items a b ch = some (decide ((tot items ch).1 ≤ a) && decide ((tot items ch).2.1 ≤ b)) := by
  unfold spec_suFits.f
  rw [suTotals_eq items ch hw hn k hk]
  simp only [Option.bind_some]
  by_cases h : (tot items ch).1 ≤ a
  · rw [if_pos h]; simp [h]
  · rw [if_neg h]; simp [h]

end Go.Proofs.Ytgghcngfleicnaa.Q

namespace Go.Proofs.Ytgghcngfleicnaa.Q
open Go.RowKit Go.Proofs.YtgghcngfleicnaaW.PrintWords Go.Proofs.YtgghcngfleicnaaW.PrintLast Go.Proofs.YtgghcngfleicnaaW.PrintMore
attribute [local go_sem] max2_int min2_int max_two min_two max_three min_three max_four min_four   -- for this text's walks alone
set_option linter.unusedVariables false
set_option linter.unusedSimpArgs false

/-! ### spec_l1Own: function 82 -/
def spec_l1Own.f (l0 : List Int) : Option (List Int) := (some (([] : List Int) : List Int)).bind fun y289 => (if y289.length + l0.length < 17592186044416 then (some (y289 ++ l0)) else (none))
set_option maxHeartbeats 8000000 in
set_option maxRecDepth 100000 in
theorem spec_l1Own.calls (A0 : Option Addr) (c0 : Nat) (l0 : List Int) (r : List Int) (w : World) (hr0 : Kd.C (Kd.int .i64) w A0 l0.length l0) (hc0 : l0.length ≤ c0) (h : spec_l1Own.f l0 = some r) :
    Calls Try.prog 82 #[.slice A0 l0.length c0] w fun e w' => ∃ v0_ : Value, e = .returned (v0_) ∧ Kd.R (Kd.int .i64) 3 w' w.heap.size (fun _ => True) v0_ r ∧ Below w.heap.size w w' := by
  have HR0 := Aside0.mk hr0
  have HC0 := Aside0.mk hc0
  clear hr0 hc0
  have HB := Aside0.mk (Below.refl w.heap.size w)
  have H : ((some (([] : List Int) : List Int)).bind fun y289 => (if y289.length + l0.length < 17592186044416 then (some (y289 ++ l0)) else (none))) = some r := h
  clear h
  obtain ⟨y289, hy289⟩ : ∃ y_ : List Int, y_ = (([] : List Int)) := ⟨_, rfl⟩
  replace H : (if y289.length + l0.length < 17592186044416 then (some (y289 ++ l0)) else (none)) = some r := by first | (rw [hy289]; with_reducible exact H) | (have H2_ := (Option.bind_some _ _).symm.trans H; rw [hy289]; with_reducible exact H2_) | (have H2_ := (Option.bind_some _ _).symm.trans H; with_reducible exact H2_) | with_reducible exact H | (rw [hy289]; exact H) | exact H
  have Ny289 := Aside0.mk hy289
  clear hy289
  by_cases c2 : y289.length + l0.length < 17592186044416
  · rw [if_pos c2] at H
    have LMc2 := Aside0.mk c2
    clear c2
    obtain ⟨y292, hy292⟩ : ∃ y_ : List Int, y_ = (y289 ++ l0) := ⟨_, rfl⟩
    replace H : (some y292) = some r := by first | (rw [hy292]; with_reducible exact H) | (have H2_ := (Option.bind_some _ _).symm.trans H; rw [hy292]; with_reducible exact H2_) | (have H2_ := (Option.bind_some _ _).symm.trans H; with_reducible exact H2_) | with_reducible exact H | (rw [hy292]; exact H) | exact H
    have Ny292 := Aside0.mk hy292
    clear hy292
    obtain rfl := Option.some.inj H
    go_enter Try.func82, Try.ntmps82
    go_wp2_with (first | ((with_reducible refine gate_dst (N := 3) rfl ?_); refine Kd.R_lit (Kd.int .i64) _ 3 ?hg (N := 3) ?hd (xs := ([] : List Int)) (inner := []) (ok := fun _ => True) (okp := fun _ => True) ?hr ?hp (fun _ hk => hk) trivial (Below.refl _ _) (Nat.le_refl _) (by simp) ?_; (case hd => rfl); (case hg => rfl); (case hr => first | (go_simp; done) | (go_simp; rfl)); (case hp => exact (Reps.none _ _)); intro v290 w3 ho4 hb hg_ hnew_; clear hg_ hnew_; (first | rw [← Ny289.out] at ho4 | (simp only [Int.reduceToNat] at ho4; rw [← Ny289.out] at ho4)); have n0_ := Aside0.mk (Kd.R_lower ho4 (below_size (by repeat (first | (with_reducible first | exact HB.out | apply below_alloc | apply pw_below_drewN | apply below_drew1) | exact HB.out)))); have n1_ := Aside0.mk (below_step (by repeat (first | (with_reducible first | exact HB.out | apply below_alloc | apply pw_below_drewN | apply below_drew1) | exact HB.out)) hb); clear HB; have HO291 := n0_; have HB := n1_; clear n0_ n1_; clear hb ho4) | ((with_reducible refine gate_builtin (b := .append) (xs := #[.tmp 3, .tmp 4]) rfl ?_); at_builtin; refine Kd.R_append_rows (Kd.int .i64) (w0 := w) w.heap.size rfl (.tmp 3) (.tmp 4) 29 3 (.int .i64 0) 8 rfl Try.underlying29 info3 rfl (by decide) (by omega) v290 y289 l0 _ _ _ (fun _ => True) (fun _ => False) rfl rfl ?aO ?aR (fun _ _ h => h) (fun _ h => h.elim) ?aF ?aB ?aS ?aL ?_; (case aR => repeat (first | exact (Kd.C_below HR0.out HB.out) | (with_reducible refine Kd.C_alloc ?_ _) | (with_reducible refine Kd.C_drewN ?_ _) | (with_reducible refine Kd.C_drew ?_))); (case aB => exact (by repeat (first | (with_reducible first | exact HB.out | apply below_alloc | apply pw_below_drewN | apply below_drew1) | exact HB.out))); (case aF => exact (fun _ _ => trivial)); (case aO => exact (by (with_reducible repeat (first | apply Kd.R_alloc | apply Kd.R_drewN | apply Kd.R_drew)); exact HO291.out)); (case aS => exact (below_size (by repeat (first | (with_reducible first | exact HB.out | apply below_alloc | apply pw_below_drewN | apply below_drew1) | exact HB.out)))); (case aL => have := LMc2.out; omega); intro v293 w5 ho hb hg hat; rw [← Ny292.out] at ho; have n0_ := Aside0.mk (hb); have n1_ := Aside0.mk (ho); clear HB; clear HO291; have HB := n0_; have HO294 := n1_; clear n0_ n1_; clear ho hb hg hat))
    go_ret
    exact ⟨_, by first | rfl | (simp [errW_none, errW_some] <;> rfl) | (simp [*, errW_none, errW_some] <;> rfl), by (with_reducible repeat (first | apply Kd.R_alloc | apply Kd.R_drewN | apply Kd.R_drew)); exact HO294.out, by repeat (first | (with_reducible first | exact HB.out | apply below_alloc | apply pw_below_drewN | apply below_drew1) | exact HB.out)⟩
  · rw [if_neg c2] at H
    exact absurd H (by simp)

end Go.Proofs.Ytgghcngfleicnaa.Q

namespace Go.Proofs.Ytgghcngfleicnaa.Q
open Go.RowKit Go.Shelf Go.Proofs.YtgghcngfleicnaaW.PrintWords Go.Proofs.YtgghcngfleicnaaW.PrintLast Go.Proofs.YtgghcngfleicnaaW.PrintMore
set_option linter.unusedVariables false
set_option linter.unusedSimpArgs false

def fitsC (items : List Item) (a b : Int) (ch : List Int) : Bool := decide ((tot items ch).1 ≤ a) && decide ((tot items ch).2.1 ≤ b)
/-- The choices on the way behind a choice, in order. -/
def lookV (items : List Item) (a b : Int) : Nat → List Int → Nat → List (List Int)
  | 0, _, _ => []
  | d + 1, ch, i => (if fitsC items a b (ch ++ [(i : Int)]) = true then (ch ++ [(i : Int)]) :: lookV items a b d (ch ++ [(i : Int)]) (i + 1) else []) ++ lookV items a b d ch (i + 1)
theorem lookV_length (items : List Item) (a b : Int) : ∀ d ch i, (lookV items a b d ch i).length + 1 ≤ 2 ^ d
  | 0, _, _ => by simp [lookV]
  | d + 1, ch, i => by
    have h1 := lookV_length items a b d (ch ++ [(i : Int)]) (i + 1)
    have h2 := lookV_length items a b d ch (i + 1)
    unfold lookV
    rw [List.length_append, Nat.pow_succ]
    split
    · rw [List.length_cons]; omega
    · simp; omega

abbrev kInts : Kd (List Int) := Kd.slice 3 kInt
/-- What may lie behind the list that is built. -/
abbrev okL (base Bo : Nat) : Nat → Prop := fun k => k ≠ Bo ∧ base ≤ k

theorem L_apart {base Bo : Nat} {W : World} {ok : Nat → Prop} {vo vb : Value} {xss : List (List Int)} {ch : List Int} (hN : Kd.N kInts 29 W base ok vo xss) (hv : Kd.R kInt 3 W base (fun k => k ≠ Bo) vb ch) : Kd.R kInt 3 W base (fun k => okL base Bo k ∧ some k ≠ vo.ownBlock) vb ch := by
  refine Kd.R_mono (Kd.R_bound hv) fun k hk => ⟨⟨hk.1, hk.2.1⟩, fun he => ?_⟩
  obtain ⟨_, _, _, q, hq, cells, hc⟩ := hk
  obtain ⟨cells', hc'⟩ := Kd.N_typed hN k he.symm
  rw [hc] at hc'
  injection hc' with hc'
  injection hc' with _ h2 _
  subst h2
  simp [Kd.int, Kd.scalar] at hq
theorem own_f (l : List Int) (h : l.length < 1000000) : spec_l1Own.f l = some l := by
  unfold spec_l1Own.f
  simp only [Option.bind_some]
  rw [if_pos (by simp; omega)]
  simp

set_option maxRecDepth 100000 in
set_option maxHeartbeats 4000000 in
theorem suLook_calls (items : List Item) (A0 : Option Addr) (c0 : Nat) (a b : Int) (Bo base : Nat) (w1 : World) (hn : items.length ≤ 30) (hb1 : base ≤ w1.heap.size) (hbo : base ≤ Bo) (hBo : Bo < w1.heap.size)
    (hC : ∀ W, Below base w1 W → Kd.C k54 W A0 items.length items) (hc0 : items.length ≤ c0) :
    ∀ d W vo xss vb ch i, i + d = items.length → Below base w1 W → Boxed W Bo 65 vo → Kd.N kInts 29 W base (okL base Bo) vo xss → Kd.R kInt 3 W base (fun k => k ≠ Bo) vb ch → (∀ x ∈ ch, 0 ≤ x ∧ x < (i : Int)) → ch.length ≤ i → xss.length + 2 ^ (d + 1) ≤ 1000000000000 →
      Calls Try.prog 74 #[.slice A0 items.length c0, .agg #[.int .i64 a, .int .i64 b], vb, .int .i64 (i : Int), .pointer (some ⟨Bo, 0, none⟩)] W fun e w' => e = .returned (.tuple #[]) ∧
        (∃ vo', Boxed w' Bo 65 vo' ∧ Kd.N kInts 29 w' base (okL base Bo) vo' (xss ++ ch :: lookV items a b d ch i) ∧ (vo'.ownBlock = vo.ownBlock ∨ ∃ k, vo'.ownBlock = some k ∧ W.heap.size ≤ k)) ∧ Fr (fun k => k = Bo ∨ some k = vo.ownBlock) W w' := by
  intro d
  induction d using Nat.strongRecOn with
  | _ d ih =>
  intro W vo xss vb ch i hd hB hbx hN hv hch hlen hbig
  have hp := Nat.one_le_two_pow (n := d)
  have hp2 : 2 ^ (d + 1) = 2 ^ d * 2 := Nat.pow_succ 2 d
  obtain ⟨Ao, co, rfl⟩ := Kd.N_slice hN
  obtain ⟨A1, c1, rfl, hc1, hC1⟩ := Kd.R_reads hv
  have HB := Aside0.mk hB
  have HX := Aside0.mk hbx
  have HN := Aside0.mk hN
  have HV := Aside0.mk hv
  have HCH := Aside0.mk hch
  have IH := Aside0.mk ih
  clear hB hbx hN hv hch ih hC1
  go_enter Try.func74, Try.ntmps74
  go_upto_region 1 with (fail)
  obtain ⟨W0, e0⟩ : ∃ W0, W.alloc (.cells #[.int .i64 a, .int .i64 b] 39) = W0 := ⟨_, rfl⟩
  have HBK : Aside0 (W0.heap[W.heap.size]? = some (.cells #[.int .i64 a, .int .i64 b] 39 (0, 0))) := ⟨by rw [← e0]; exact heap_alloc_new W _⟩
  have b0 : Below W.heap.size W W0 := by rw [← e0]; exact (Below.refl _ W).alloc (Nat.le_refl _) _
  have z0 : W0.heap.size = W.heap.size + 1 := by rw [← e0]; simp
  rw [e0]
  have X0 := Aside0.mk (box_below HX.out b0)
  have N0 := Aside0.mk (Kd.N_below HN.out b0)
  have V0 := Aside0.mk (L_apart (Kd.N_below HN.out b0) (Kd.R_below HV.out b0))
  have hbW : base ≤ W.heap.size := Nat.le_trans hb1 HB.out.size
  have hoW : Bo < W.heap.size := Nat.lt_of_lt_of_le hBo HB.out.size
  have HNB : Aside0 (∀ k, k = Bo ∨ some k = (Value.slice Ao xss.length co).ownBlock → base ≤ k ∧ k < W.heap.size) := ⟨fun k hk => by
    rcases hk with rfl | hk
    · exact ⟨hbo, hoW⟩
    · exact ⟨Kd.N_base HN.out k hk.symm, Kd.N_lt HN.out k hk.symm⟩⟩
  have B0 := Aside0.mk b0
  have Z0 := Aside0.mk z0
  clear HX HN HV e0 b0 z0
  generalize hBc : W.heap.size = Bc at *
  have HBc := Aside0.mk hBc
  clear hBc
  have q1 := X0.out.cell
  go_upto_region 2 with
    (at_builtin; refine Kd.N_append kInts (w0 := W0) base rfl (.tmp 15) (.tmp 17) 65 29 (.slice none 0 0) 24 rfl Try.underlying65 info29 rfl (by decide) (by omega) (.slice Ao xss.length co) xss ch [.slice A1 ch.length c1] (okL base Bo) (fun k => okL base Bo k ∧ some k ≠ (Value.slice Ao xss.length co).ownBlock) rfl rfl ?aP (fun _ hk => hk) ?aF N0.out (Below.refl _ _) ?aS ?aL ?_;
      (case aP => exact Kd.FK_slice_mk hc1 (Kd.N_F (Kd.R_N V0.out)));
      (case aF => exact fun k hk => ⟨by have := Z0.out; omega, by have := Z0.out; omega⟩);
      (case aS => have := Z0.out; omega);
      (case aL => omega);
      intro v1 w2 hN2 hb2 hg2 hat2; have X2 := X0.out.kept hg2 (Kd.N_away N0.out (fun k hk => hk.1)); have f2 := X2.frozen; have q2 := X2.cell; obtain ⟨A2, c2, rfl⟩ := Kd.N_slice hN2)
  have hl2 : (xss ++ [ch]).length = xss.length + 1 := by simp
  rw [hl2] at hN2 hat2
  have XV := Aside0.mk (X2.set (.slice A2 (xss.length + 1) c2))
  have NV := Aside0.mk (Kd.N_far hN2 (p := ⟨Bo, 0, none⟩) (fun k hk => hk.1) (.slice A2 (xss.length + 1) c2))
  have FV : Aside0 (Fr (fun k => k = Bo ∨ some k = (Value.slice Ao xss.length co).ownBlock) W0 (w2.setCell ⟨Bo, 0, none⟩ (.slice A2 (xss.length + 1) c2))) :=
    ⟨((Fr.refl _ W0).grownS hg2 (fun k hk => .inl (.inr hk.symm))).set _ _ (.inl (.inl rfl))⟩
  have AT := Aside0.mk hat2
  generalize w2.setCell ⟨Bo, 0, none⟩ (.slice A2 (xss.length + 1) c2) = V at *
  clear hN2 hb2 hg2 hat2 X2 f2 q2 q1 X0 N0 hl2
  have hS0 : Aside0 (∀ k, k < W0.heap.size → k ≠ Bc → True) := ⟨fun _ _ _ => trivial⟩
  have HIT : Aside0 (∀ wr, Fr (fun k => k = Bo ∨ some k = (Value.slice Ao xss.length co).ownBlock) W0 wr → Kd.C k54 wr A0 items.length items) :=
    ⟨fun wr h => hC wr ((HB.out.trans (B0.out.mono hbW)).trans (h.below (fun k hk => (HNB.out k hk).1) (by have := Z0.out; omega)))⟩
  have HCS : Aside0 (∀ wr, Fr (fun k => k = Bo ∨ some k = (Value.slice Ao xss.length co).ownBlock) W0 wr → wr.heap[Bc]? = some (.cells #[.int .i64 a, .int .i64 b] 39 (0, 0))) :=
    ⟨fun wr h => (h.block Bc (by have := Z0.out; omega) (fun hs => by have := (HNB.out Bc hs).2; omega)).trans HBK.out⟩
  have HVC : Aside0 (∀ wr, Fr (fun k => k = Bo ∨ some k = (Value.slice Ao xss.length co).ownBlock) W0 wr → Kd.C kInt wr A1 ch.length ch) := ⟨fun wr h => by
    obtain ⟨A', c', he, _, hC'⟩ := Kd.R_reads (R_fr V0.out h (fun k hk hs => by rcases hs with hs | hs; exact hk.1.1 hs; exact hk.2 hs))
    injection he with he1 he2 he3
    subst he1
    exact hC'⟩
  go_wp2
  go_loopg [10] items.length (fun gg s10 wr => ∃ j : Nat, s10 = .int .i64 (j : Int) ∧ i ≤ j ∧ j ≤ items.length ∧ items.length - j ≤ gg ∧
    Aside0 (∃ Aq cq yss, Boxed wr Bo 65 (.slice Aq yss.length cq) ∧ Kd.N kInts 29 wr base (okL base Bo) (.slice Aq yss.length cq) yss ∧ yss ++ lookV items a b (items.length - j) ch j = xss ++ ch :: lookV items a b d ch i ∧
      yss.length + 2 ^ (items.length - j) ≤ xss.length + 1 + 2 ^ d ∧ ((Value.slice Aq yss.length cq).ownBlock = (Value.slice Ao xss.length co).ownBlock ∨ ∃ k, (Value.slice Aq yss.length cq).ownBlock = some k ∧ W0.heap.size ≤ k)) ∧
    Aside0 (Fr (fun k => k = Bo ∨ some k = (Value.slice Ao xss.length co).ownBlock) W0 wr))
  case atStart =>
    refine ⟨i, rfl, Nat.le_refl _, by omega, by omega, ⟨A2, c2, xss ++ [ch], by simpa using XV.out, by simpa using NV.out, ?_, ?_, by simpa using AT.out⟩, FV⟩
    · rw [show items.length - i = d by omega]; simp
    · rw [show items.length - i = d by omega]; simp
  case round =>
    clear XV NV FV AT
    obtain ⟨j, rfl, hij, hjn, hgg, II, GG⟩ := hrel
    by_cases hlt : j < items.length
    · have hltz : (j : Int) < (items.length : Int) := by omega
      obtain ⟨Aq, cq, yss, hX, hN, heq, hbd, hat⟩ := II.out
      have HX := Aside0.mk hX
      have HN := Aside0.mk hN
      have HEQ := Aside0.mk heq
      have HBD := Aside0.mk hbd
      have HAT := Aside0.mk hat
      clear II hX hN heq hbd hat
      obtain ⟨ch', hch'⟩ : ∃ y, y = ch ++ [(j : Int)] := ⟨_, rfl⟩
      have hin' : Aside0 (∀ x ∈ ch', 0 ≤ x ∧ x < ((j + 1 : Nat) : Int)) := ⟨fun x hx => by
        rw [hch'] at hx
        rcases List.mem_append.1 hx with hx | hx
        · have := HCH.out x hx; omega
        · have := List.mem_singleton.1 hx; omega⟩
      have hl' : ch'.length ≤ j + 1 := by rw [hch']; simp; omega
      have HCH' := Aside0.mk hch'
      clear hch'
      have hfit : spec_suFits.f (ch'.length + 1) items a b ch' = some (fitsC items a b ch') := suFits_eq items a b ch' (fun x hx => by have := hin'.out x hx; omega) (by omega) _ (by omega)
      have HFIT := Aside0.mk hfit
      clear hfit
      generalize hft : fitsC items a b ch' = ft at HFIT
      have HFT := Aside0.mk hft
      clear hft
      have hwr : IntKind.i64.wrap ((j : Int) + 1) = ((j + 1 : Nat) : Int) := by rw [IntWalk.i64_in _ (by omega)]; omega
      have HWS : Aside0 (W0.heap.size ≤ wr.heap.size) := ⟨GG.out.size⟩
      have HBW : Aside0 (∀ wr, Fr (fun k => k = Bo ∨ some k = (Value.slice Ao xss.length co).ownBlock) W0 wr → Below base w1 wr) :=
        ⟨fun wr h => (HB.out.trans (B0.out.mono hbW)).trans (h.below (fun k hk => (HNB.out k hk).1) (by have := Z0.out; omega))⟩
      have HB2 : Aside0 (yss.length + 2 ^ ((items.length - (j + 1)) + 1) ≤ 1000000000000) := ⟨by have := HBD.out; rw [show items.length - j = (items.length - (j + 1)) + 1 by omega] at this; omega⟩
      cases ft
      all_goals
        go_wp2_with (first
          | (go_at_call 82; refine (spec_l1Own.calls A1 c1 ch ch _ (HVC.out _ GG.out) hc1 (own_f ch (by omega))).mono ?_; rintro e w6 ⟨v6, rfl, hR6, hb6⟩)
          | (at_builtin; refine Kd.R_append kInt (w0 := w6) wr.heap.size rfl (.tmp 28) (.tmp 30) 29 3 (.int .i64 0) 8 rfl Try.underlying29 info3 rfl (by decide) (by omega) v6 ch (j : Int) [.int .i64 (j : Int)] (fun k => wr.heap.size ≤ k) (fun _ => False) rfl rfl ?aP (fun _ hk => hk.elim) ?aF ?aO (Below.refl _ _) ?aS ?aL ?_;
              (case aP => exact rfl);
              (case aF => exact fun k hk => Nat.le_trans hb6.size hk);
              (case aO => exact Kd.R_mono (Kd.R_bound hR6) (fun k hk => hk.2.1));
              (case aS => exact hb6.size);
              (case aL => omega);
              rw [← HCH'.out]; intro v7 w7 hR7 hb7 hg7 hat7; obtain ⟨A7, c7, rfl⟩ := Kd.R_slice hR7; have B7 := Aside0.mk (hb6.trans hb7); have bk := blk_cell (HCS.out _ (GG.out.then B7.out)); have bk0 := (bk 0).trans rfl; have bk1 := (bk 1).trans rfl; clear bk; have HR8 : Aside0 (∀ w8, Below w7.heap.size w7 w8 → Kd.R kInt 3 w8 base (fun k => k ≠ Bo) (.slice A7 ch'.length c7) ch') := ⟨fun w8 hb => Kd.R_below (Kd.R_lower (Kd.R_mono hR7 (fun k hk => by have := HWS.out; have := Z0.out; omega)) (by have := HWS.out; have := Z0.out; omega)) hb⟩)
          | (go_at_call 71; obtain ⟨A', c', he, hle, hC7⟩ := Kd.R_reads hR7; injection he with he1 he2 he3; subst he1 he3; refine (spec_suFits.calls (ch'.length + 1) A0 c0 items a b A7 c7 ch' _ _ (HIT.out _ (GG.out.then B7.out)) hc0 hC7 hle HFIT.out).mono ?_; rintro e w8 ⟨rfl, hb8⟩; have B8 := Aside0.mk (B7.out.trans (hb8.mono B7.out.size)); have ck := blk_cell (HCS.out _ (GG.out.then B8.out)); have ck0 := (ck 0).trans rfl; have ck1 := (ck 1).trans rfl; clear ck)
          | (go_at_call 74; refine (IH.out (items.length - (j + 1)) (by omega) w8 (.slice Aq yss.length cq) yss (.slice A7 ch'.length c7) ch' (j + 1) (by omega) (HBW.out _ (GG.out.then B8.out)) (box_below HX.out B8.out) (Kd.N_below HN.out B8.out) (HR8.out w8 (hb8)) hin'.out hl' HB2.out).mono ?_; rintro e w9 ⟨rfl, ⟨vo9, hX9, hN9, hat9⟩, hF9⟩))
      · go_roundg (items.length - (j + 1))
        case measure => omega
        case rel =>
          refine ⟨j + 1, by go_num, by omega, by omega, by omega, ⟨Aq, cq, yss, box_below HX.out B8.out, Kd.N_below HN.out B8.out, ?_, ?_, HAT.out⟩, ⟨GG.out.then B8.out⟩⟩
          · rw [← HEQ.out, show items.length - j = (items.length - (j + 1)) + 1 by omega, lookV, ← HCH'.out, if_neg (by rw [HFT.out]; decide), List.nil_append]
          · have := HBD.out
            rw [show items.length - j = (items.length - (j + 1)) + 1 by omega, Nat.pow_succ] at this
            omega
      · go_roundg (items.length - (j + 1))
        case measure => omega
        case rel =>
          obtain ⟨A9, c9, rfl⟩ := Kd.N_slice hN9
          refine ⟨j + 1, by go_num, by omega, by omega, by omega, ⟨A9, c9, _, hX9, hN9, ?_, ?_, ?_⟩, ⟨(GG.out.then B8.out).thenS hF9 ?_⟩⟩
          · rw [← HEQ.out, show items.length - j = (items.length - (j + 1)) + 1 by omega, lookV, ← HCH'.out, if_pos HFT.out, List.append_assoc]
          · have h1 := HBD.out
            have h2 := lookV_length items a b (items.length - (j + 1)) ch' (j + 1)
            rw [show items.length - j = (items.length - (j + 1)) + 1 by omega, Nat.pow_succ] at h1
            rw [List.length_append, List.length_cons]
            omega
          · rcases hat9 with h | ⟨k, hk, hkl⟩
            · rw [h]; exact HAT.out
            · exact .inr ⟨k, hk, by have := B8.out.size; have := HWS.out; omega⟩
          · intro q hq hs
            rcases hs with hs | hs
            · exact .inl hs
            · rcases HAT.out with h | ⟨k, hk, hkl⟩
              · exact .inr (hs.trans h)
              · rw [hk] at hs
                injection hs with hs
                omega
    · have hltz : ¬ (j : Int) < (items.length : Int) := by omega
      go_wp2
      go_end0
      obtain ⟨Aq, cq, yss, hX, hN, heq, _, hat⟩ := II.out
      rw [show items.length - j = 0 by omega] at heq
      have heq2 : yss = xss ++ ch :: lookV items a b d ch i := by rw [← heq]; simp [lookV]
      have := HBc.out
      refine ⟨rfl, ⟨_, hX, heq2 ▸ hN, ?_⟩, ((Fr.of (by rw [this]; exact B0.out)).trans GG.out)⟩
      rcases hat with hat | ⟨k, hk, hkl⟩
      · exact .inl hat
      · exact .inr ⟨k, hk, by have := Z0.out; omega⟩

def spec_suAll.f (l0 : List Item) (a1_0 a1_1 : Int) : Option (List (List Int)) := if l0.length ≤ 30 then some ([] :: lookV l0 a1_0 a1_1 l0.length [] 0) else none
set_option maxHeartbeats 2000000 in
theorem spec_suAll.calls (A0 : Option Addr) (c0 : Nat) (l0 : List Item) (a1_0 a1_1 : Int) (r : List (List Int)) (w : World) (hr0 : Kd.C k54 w A0 l0.length l0) (hc0 : l0.length ≤ c0) (h : spec_suAll.f l0 a1_0 a1_1 = some r) :
    Calls Try.prog 50 #[.slice A0 l0.length c0, .agg #[.int .i64 a1_0, .int .i64 a1_1]] w fun e w' => ∃ v0_ : Value, e = .returned (v0_) ∧ Kd.N (Kd.slice 3 (Kd.int .i64)) 29 w' w.heap.size (fun k_ => (w.heap.size ≤ k_)) v0_ r ∧ Below w.heap.size w w' := by
  have hn : l0.length ≤ 30 := by
    unfold spec_suAll.f at h
    split at h
    · assumption
    · cases h
  have hre : r = [] :: lookV l0 a1_0 a1_1 l0.length [] 0 := by
    unfold spec_suAll.f at h
    rw [if_pos hn] at h
    injection h with h
    exact h.symm
  have HRE := Aside0.mk hre
  have x1 := Boxed.new (w.alloc (.cells #[.int .i64 a1_0, .int .i64 a1_1] 39)) 65 (.slice none 0 0)
  have b2 : Below w.heap.size w ((w.alloc (.cells #[.int .i64 a1_0, .int .i64 a1_1] 39)).alloc (.cells #[.slice none 0 0] 65)) := ((Below.refl _ w).alloc (by simp) _).alloc (by simp) _
  have z2 : ((w.alloc (.cells #[.int .i64 a1_0, .int .i64 a1_1] 39)).alloc (.cells #[.slice none 0 0] 65)).heap.size = w.heap.size + 2 := by simp
  have hpow : 2 ^ (l0.length + 1) ≤ 2 ^ 31 := Nat.pow_le_pow_right (by decide) (by omega)
  simp only [show ∀ (W : World) (o : Obj), (W.alloc o).heap.size = W.heap.size + 1 from fun W o => by simp] at x1 z2
  obtain ⟨W2, e2⟩ : ∃ W2, ((w.alloc (.cells #[.int .i64 a1_0, .int .i64 a1_1] 39)).alloc (.cells #[.slice none 0 0] 65)) = W2 := ⟨_, rfl⟩
  rw [e2] at x1 b2
  have z3 : W2.heap.size = w.heap.size + 2 := by rw [← e2]; simp
  have hcall := suLook_calls l0 A0 c0 a1_0 a1_1 (w.heap.size + 1) w.heap.size W2 hn (by omega) (by omega) (by omega) (fun W hb => Kd.C_below hr0 (b2.trans hb)) hc0
    l0.length W2 (.slice none 0 0) [] (.slice none 0 0) [] 0 (by omega) (Below.refl _ _) x1 (Kd.N_nil _ _ _ _ _) (Kd.R_nil _ _ _ _ _) (fun x hx => by cases hx) (by simp) (by simp; omega)
  have HCALL := Aside0.mk hcall
  have B2 := Aside0.mk b2
  have Z3 := Aside0.mk z3
  have E2 := Aside0.mk e2
  clear hcall b2 z2 z3 x1 hr0 h hre e2
  go_enter Try.func50, Try.ntmps50
  go_wp2_with (go_at_call 74; rw [E2.out]; refine HCALL.out.mono ?_; rintro e w6 ⟨rfl, ⟨vo, hX, hN, hat⟩, hF⟩; obtain ⟨A1, c1, rfl⟩ := Kd.N_slice hN; have q6 := hX.cell)
  go_ret
  refine ⟨_, rfl, ?_, B2.out.trans (hF.below (fun k hk => ?_) B2.out.size)⟩
  · rw [HRE.out]
    exact Kd.N_mono hN (fun k hk => hk.2)
  · rcases hk with rfl | hk
    · omega
    · simp [Value.ownBlock] at hk
end Go.Proofs.Ytgghcngfleicnaa.Q

namespace Go.Proofs.Ytgghcngfleicnaa.Q
open Go.RowKit Go.Proofs.YtgghcngfleicnaaW.PrintWords Go.Proofs.YtgghcngfleicnaaW.PrintLast Go.Proofs.YtgghcngfleicnaaW.PrintMore
set_option linter.unusedVariables false
set_option linter.unusedSimpArgs false

/-- Items are right: each number from 0 to 200. -/
def Light (items : List Item) : Prop := items.length ≤ 10 ∧ ∀ i : Int, 0 ≤ i → i < (items.length : Int) → (0 ≤ (rd_T54 items i).f0 ∧ (rd_T54 items i).f0 ≤ 200) ∧ (0 ≤ (rd_T54 items i).f1 ∧ (rd_T54 items i).f1 ≤ 200) ∧ 0 ≤ (rd_T54 items i).f2 ∧ (rd_T54 items i).f2 ≤ 200
theorem light_of {items : List Item} (hn : items.length ≤ 10) (h : ∀ x ∈ items, okItem x = true) : Light items := by
  refine ⟨hn, fun i h0 h1 => ?_⟩
  have hm : rd_T54 items i ∈ items := by
    unfold rd_T54
    rw [List.getD_eq_getElem?_getD, List.getElem?_eq_getElem (by omega)]
    exact List.getElem_mem _
  have := h _ hm
  unfold okItem at this
  simp only [Bool.and_eq_true, decide_eq_true_eq] at this
  exact ⟨by omega, by omega, by omega⟩
end Go.Proofs.Ytgghcngfleicnaa.Q

namespace Go.Proofs.Ytgghcngfleicnaa.Q
open Go.RowKit Go.Proofs.YtgghcngfleicnaaW.PrintWords Go.Proofs.YtgghcngfleicnaaW.PrintLast Go.Proofs.YtgghcngfleicnaaW.PrintMore
attribute [local go_sem] max2_int min2_int max_two min_two max_three min_three max_four min_four   -- for this text's walks alone
set_option linter.unusedVariables false
set_option linter.unusedSimpArgs false

/-! ### spec_suBest: function 58 -/
def spec_suBest.l0 : Nat → List (S54) → List (List Int) → Int → List (List Int) → Int → Int → Option ((List (List Int)) × Int)
  | 0, _, _, _, _, _, _ => none
  | k + 1, x0, x6, x7, x15, x16, x17 => if x17 < x16 then (if 0 ≤ x17 then (if x17 < (x15.length : Int) then ((spec_suTotals.f k x0 (rd_L7 x15 x17)).bind fun bt393 => (if bt393.2.2 > x7 then (if bt393.2.2 = bt393.2.2 then (if ([] : List (List Int)).length < 5864062014805 then (spec_suBest.l0 k x0 (([] : List (List Int)) ++ [rd_L7 x15 x17]) bt393.2.2 x15 x16 (wrap64 (x17 + 1))) else (none)) else (spec_suBest.l0 k x0 ([] : List (List Int)) bt393.2.2 x15 x16 (wrap64 (x17 + 1)))) else (if bt393.2.2 = x7 then (if x6.length < 5864062014805 then (spec_suBest.l0 k x0 (x6 ++ [rd_L7 x15 x17]) x7 x15 x16 (wrap64 (x17 + 1))) else (none)) else (spec_suBest.l0 k x0 x6 x7 x15 x16 (wrap64 (x17 + 1)))))) else (none)) else (none)) else (some (x6, x7))
def spec_suBest.f (k : Nat) (l0 : List (S54)) (a1_0 : Int) (a1_1 : Int) : Option ((List (List Int)) × Int) := (spec_suAll.f l0 a1_0 a1_1).bind fun t389 => (spec_suBest.l0 k l0 ([] : List (List Int)) 0 t389 (t389.length : Int) 0)
theorem spec_suBest.mono_l : ∀ k, (∀ y0 y1 y2 y3 y4 y5, LeO (spec_suBest.l0 k y0 y1 y2 y3 y4 y5) (spec_suBest.l0 (k + 1) y0 y1 y2 y3 y4 y5))
  | 0 => fun _ _ _ _ _ _ r h => by simp [spec_suBest.l0] at h
  | k + 1 => by
    have ih0 := spec_suBest.mono_l k
    · intro y0 y1 y2 y3 y4 y5
      unfold spec_suBest.l0
      repeat' first
      | (with_reducible exact ih0 _ _ _ _ _ _)
      | (with_reducible exact spec_suTotals.mono _ _ _)
      | (with_reducible exact LeO.refl _)
      | (with_reducible exact LeO.none _)
      | (with_reducible refine LeO.ite ?_ ?_)
      | (with_reducible refine LeO.bind ?_ (fun _ => ?_))
      | exact ih0 _ _ _ _ _ _
      | exact spec_suTotals.mono _ _ _
      | exact LeO.none _
      | refine LeO.ite ?_ ?_
      | refine LeO.bind ?_ (fun _ => ?_)
theorem spec_suBest.mono : ∀ a0 a1 a2 k, LeO (spec_suBest.f k a0 a1 a2) (spec_suBest.f (k + 1) a0 a1 a2) := by
  intro a0 a1 a2 k
  have ih0 := spec_suBest.mono_l k
  unfold spec_suBest.f
  repeat' first
      | (with_reducible exact ih0 _ _ _ _ _ _)
      | (with_reducible exact spec_suTotals.mono _ _ _)
      | (with_reducible exact LeO.refl _)
      | (with_reducible exact LeO.none _)
      | (with_reducible refine LeO.ite ?_ ?_)
      | (with_reducible refine LeO.bind ?_ (fun _ => ?_))
      | exact ih0 _ _ _ _ _ _
      | exact spec_suTotals.mono _ _ _
      | exact LeO.none _
      | refine LeO.ite ?_ ?_
      | refine LeO.bind ?_ (fun _ => ?_)
set_option maxHeartbeats 8000000 in
set_option maxRecDepth 100000 in
theorem spec_suBest.calls (k : Nat) (A0 : Option Addr) (c0 : Nat) (l0 : List (S54)) (a1_0 : Int) (a1_1 : Int) (r1 : List (List Int)) (r2 : Int) (w : World) (hr0 : Kd.C k54 w A0 l0.length l0) (hc0 : l0.length ≤ c0) (h : spec_suBest.f k l0 a1_0 a1_1 = some (r1, r2)) :
    Calls Try.prog 58 #[.slice A0 l0.length c0, .agg #[.int .i64 a1_0, .int .i64 a1_1]] w fun e w' => ∃ v0_ : Value, e = .returned (.tuple #[v0_, .int .i64 r2]) ∧ Kd.N (Kd.slice 3 (Kd.int .i64)) 29 w' w.heap.size (fun k_ => (w.heap.size ≤ k_)) v0_ r1 ∧ Below w.heap.size w w' := by
  have hu39 := Try.underlying39
  have HR0 := Aside0.mk hr0
  have HC0 := Aside0.mk hc0
  clear hr0 hc0
  have HB := Aside0.mk (Below.refl w.heap.size w)
  have H : ((spec_suAll.f l0 a1_0 a1_1).bind fun t389 => (spec_suBest.l0 k l0 ([] : List (List Int)) 0 t389 (t389.length : Int) 0)) = some (r1, r2) := h
  clear h
  replace H := Option.bind_eq_some_iff.mp H
  obtain ⟨t389, A30, H⟩ := H
  replace H : (spec_suBest.l0 k l0 ([] : List (List Int)) 0 t389 (t389.length : Int) 0) = some (r1, r2) := H
  have A3 := Aside0.mk A30
  clear A30
  have H' := Aside0.mk H
  clear H
  go_enter Try.func58, Try.ntmps58
  go_wp2_with (first | ((with_reducible refine gate_dst (N := 3) rfl ?_); refine box_event ?hg (N := 3) ?hd (cs := #[.int .i64 a1_0, .int .i64 a1_1]) (t := 39) ?hr ?_; (case hd => rfl); (case hg => rfl); (case hr => first | (go_simp; done) | (go_simp; rfl)); intro gb388 hg w4 hbox hb; have n0_ := Aside0.mk (below_step (by repeat (first | (with_reducible first | exact HB.out | apply below_alloc | apply pw_below_drewN | apply below_drew1) | exact HB.out)) hb); have n1_ := Aside0.mk (hbox); have n2_ := Aside0.mk ((by rw [hg]; exact (below_size (by repeat (first | (with_reducible first | exact HB.out | apply below_alloc | apply pw_below_drewN | apply below_drew1) | exact HB.out))) : w.heap.size ≤ gb388)); have n3_ := Aside0.mk ((by rw [hg]; exact (below_size (by repeat (first | (with_reducible first | exact HB.out | apply below_alloc | apply pw_below_drewN | apply below_drew1) | exact HB.out))) : w.heap.size ≤ gb388)); clear HB; have HB := n0_; have BK388 := n1_; have GW388 := n2_; have GE388 := n3_; clear n0_ n1_ n2_ n3_; clear hb hbox hg; have hcz5_0 : w4.cell? ⟨gb388, 0, none⟩ = some (.int .i64 a1_0) := (blk_cell BK388.out 0).trans rfl; have hcz5_1 : w4.cell? ⟨gb388, 1, none⟩ = some (.int .i64 a1_1) := (blk_cell BK388.out 1).trans rfl; have hfz5_0 := blk_frozen BK388.out 0; have hfz5_1 := blk_frozen BK388.out 1) | ((with_reducible refine gate_callee (f := 50) rfl ?_); refine goesL_ (some 15) rfl rfl Try.func50 (by kernel_rfl) rfl #[.slice A0 l0.length c0, .agg #[.int .i64 a1_0, .int .i64 a1_1]] rfl (by (try simp only [List.map_toArray, List.map_cons, List.map_nil]); first | done | rfl | (simp only [List.length_drop, List.length_take]; rfl)) ?_; (with_reducible refine (spec_suAll.calls _ _ l0 a1_0 a1_1 t389 _ ?side1 ?side2 A3.out).mono ?_); (case side1 => repeat (first | exact (Kd.C_below HR0.out HB.out) | (with_reducible refine Kd.C_alloc ?_ _) | (with_reducible refine Kd.C_drewN ?_ _) | (with_reducible refine Kd.C_drew ?_))); (case side2 => exact HC0.out); rintro e w6 ⟨v390, rfl, ho0, hb⟩; refine ⟨_, rfl, ?_⟩; have n0_ := Aside0.mk (Kd.N_lower (Kd.N_mono (ok' := fun k_ => (w.heap.size ≤ k_) ∧ k_ ≠ gb388) ho0 (fun k_ hk_ => ⟨(Nat.le_trans (below_size (by repeat (first | (with_reducible first | exact HB.out | apply below_alloc | apply pw_below_drewN | apply below_drew1 | refine below_set ?_ GE388.out) | exact HB.out))) hk_), (Kd.freshB (g := gb388) (o := .cells #[.int .i64 a1_0, .int .i64 a1_1] 39 (0, 0)) (by (with_reducible repeat (first | refine blk_drewN ?_ _ | refine blk_drew ?_ | refine blk_alloc ?_ _)); exact BK388.out) k_ hk_)⟩)) (below_size (by repeat (first | (with_reducible first | exact HB.out | apply below_alloc | apply pw_below_drewN | apply below_drew1 | refine below_set ?_ GE388.out) | exact HB.out)))); have n1_ := Aside0.mk (blk_below (g := gb388) (o := .cells #[.int .i64 a1_0, .int .i64 a1_1] 39 (0, 0)) (by (with_reducible repeat (first | refine blk_drewN ?_ _ | refine blk_drew ?_ | refine blk_alloc ?_ _)); exact BK388.out) hb); have n2_ := Aside0.mk (below_step (by repeat (first | (with_reducible first | exact HB.out | apply below_alloc | apply pw_below_drewN | apply below_drew1 | refine below_set ?_ GE388.out) | exact HB.out)) hb); clear BK388; clear HB; have HO391 := n0_; have BK388 := n1_; have HB := n2_; clear n0_ n1_ n2_; (try clear hb); (try clear hb2); (try clear hk); (try clear hi); (try clear ho0); obtain ⟨Ao7, co7, eo7⟩ := Kd.N_slice HO391.out; subst eo7))
  go_loopg [6, 7, 17] k (fun kq v6 v7 v17 w' => ∃ (x6_1 : List (List Int)) (x7_1 : Int) (x17_1 : Int), v7 = .int .i64 x7_1 ∧ v17 = .int .i64 x17_1 ∧ Aside0 (spec_suBest.l0 kq l0 x6_1 x7_1 t389 (t389.length : Int) x17_1 = some (r1, r2)) ∧ Aside0 (kq ≤ k) ∧ Aside0 (Kd.N (Kd.slice 3 (Kd.int .i64)) 29 w' w.heap.size (fun k_ => (w.heap.size ≤ k_) ∧ some k_ ≠ ((.slice Ao7 t389.length co7) : Value).ownBlock ∧ k_ ≠ gb388) v6 x6_1) ∧ Aside0 (Kd.N (Kd.slice 3 (Kd.int .i64)) 29 w' w.heap.size (fun k_ => (w.heap.size ≤ k_) ∧ some k_ ≠ (v6 : Value).ownBlock ∧ k_ ≠ gb388) (.slice Ao7 t389.length co7) t389) ∧ Aside0 (w'.heap[gb388]? = some (.cells #[.int .i64 a1_0, .int .i64 a1_1] 39 (0, 0))) ∧ Aside0 (Below w.heap.size w w'))
  case atStart => exact ⟨(([] : List (List Int))), (0), (0), (by first | rfl | (simp; done) | (simp [*]; done)), (by first | rfl | (simp; done) | (simp [*]; done)), H', ⟨Nat.le_refl _⟩, ⟨by first | exact Kd.S_nil _ _ _ _ _ | exact Kd.N_nil _ _ _ _ _ | exact Kd.V_nil _ _ _ _ _ | exact Kd.Q_nil _ _ _ _ _ | exact Kd.R_nil _ _ _ _ _⟩, ⟨by (with_reducible repeat (first | apply Kd.N_alloc | apply Kd.N_drewN | apply Kd.N_drew)); exact Kd.N_mono HO391.out (fun _ hk => ⟨hk.1, ⟨(by simp [Value.ownBlock]), hk.2⟩⟩)⟩, ⟨by (with_reducible repeat (first | refine blk_drewN ?_ _ | refine blk_drew ?_ | refine blk_alloc ?_ _)); exact BK388.out⟩, ⟨by repeat (first | (with_reducible first | exact HB.out | apply below_alloc | apply pw_below_drewN | apply below_drew1 | refine below_set ?_ GE388.out) | exact HB.out)⟩⟩
  case round =>
    clear H'
    try clear p2
    try clear c5
    try clear hcz5_0
    try clear hcz5_1
    try clear hfz5_0
    try clear hfz5_1
    obtain ⟨x6_1, x7_1, x17_1, rfl, rfl, HA, HK1, HO_6, HO_15, BK388, HB⟩ := hrel
    cases gk with
    | zero => exact absurd HA.out (by simp [spec_suBest.l0])
    | succ k1 =>
      have H := HA.out
      clear HA
      rw [spec_suBest.l0] at H
      by_cases c8 : x17_1 < (t389.length : Int)
      · rw [if_pos c8] at H
        have c8b0 : decide (x17_1 < (t389.length : Int)) = true := decide_eq_true c8
        clear c8
        by_cases c9 : 0 ≤ x17_1
        · rw [if_pos c9] at H
          have c9b0 : decide (0 ≤ x17_1) = true := decide_eq_true c9
          clear c9
          by_cases c10 : x17_1 < (t389.length : Int)
          · rw [if_pos c10] at H
            have c10b0 : decide (x17_1 < (t389.length : Int)) = true := decide_eq_true c10
            clear c10
            replace H := Option.bind_eq_some_iff.mp H
            obtain ⟨⟨t393, t394, t395⟩, A110, H⟩ := H
            replace H : (if t395 > x7_1 then (if t395 = t395 then (if ([] : List (List Int)).length < 5864062014805 then (spec_suBest.l0 k1 l0 (([] : List (List Int)) ++ [rd_L7 t389 x17_1]) t395 t389 (t389.length : Int) (wrap64 (x17_1 + 1))) else (none)) else (spec_suBest.l0 k1 l0 ([] : List (List Int)) t395 t389 (t389.length : Int) (wrap64 (x17_1 + 1)))) else (if t395 = x7_1 then (if x6_1.length < 5864062014805 then (spec_suBest.l0 k1 l0 (x6_1 ++ [rd_L7 t389 x17_1]) x7_1 t389 (t389.length : Int) (wrap64 (x17_1 + 1))) else (none)) else (spec_suBest.l0 k1 l0 x6_1 x7_1 t389 (t389.length : Int) (wrap64 (x17_1 + 1))))) = some (r1, r2) := H
            have A11 := Aside0.mk A110
            clear A110
            by_cases c12 : t395 > x7_1
            · rw [if_pos c12] at H
              have c12b0 : decide (x7_1 < t395) = true := decide_eq_true c12
              clear c12
              by_cases c13 : t395 = t395
              · rw [if_pos c13] at H
                have c13b0 : (t395 == t395) = true := beq_iff_eq.mpr c13
                have c13b1 : (t395 != t395) = false := bne_eq_false_iff_eq.mpr c13
                clear c13
                by_cases c14 : ([] : List (List Int)).length < 5864062014805
                · rw [if_pos c14] at H
                  have LMc14 := Aside0.mk c14
                  clear c14
                  obtain ⟨y396, hy396⟩ : ∃ y_ : List (List Int), y_ = (([] : List (List Int)) ++ [rd_L7 t389 x17_1]) := ⟨_, rfl⟩
                  replace H : (spec_suBest.l0 k1 l0 y396 t395 t389 (t389.length : Int) (wrap64 (x17_1 + 1))) = some (r1, r2) := by first | (rw [hy396]; with_reducible exact H) | (have H2_ := (Option.bind_some _ _).symm.trans H; rw [hy396]; with_reducible exact H2_) | (have H2_ := (Option.bind_some _ _).symm.trans H; with_reducible exact H2_) | with_reducible exact H | (rw [hy396]; exact H) | exact H
                  have Ny396 := Aside0.mk hy396
                  clear hy396
                  have H' := Aside0.mk H
                  clear H
                  have p392 : 0 ≤ (x17_1 : Int) := of_decide_eq_true (by first | (with_reducible assumption) | assumption)
                  have q392 : x17_1 < (t389.length : Int) := of_decide_eq_true (by first | (with_reducible assumption) | assumption)
                  obtain ⟨ad392, A392_0, c392_0, e392, hx392_0, hl392_0, hi392_0⟩ := at_L7 (Kd.N_reads' HO_15.out).2.2 x17_1 p392 q392
                  cases e392
                  obtain ⟨ce392, hce392, hMe392, hcc392⟩ := Kd.N_get HO_15.out [] x17_1 p392 (by first | exact q392 | exact of_decide_eq_true (by first | (with_reducible assumption) | assumption) | (have e_ := (Kd.N_reads' HO_15.out).1; omega))
                  obtain ⟨ua392_0, uc392_0, rfl, ul392_0, ge392_0⟩ := Kd.FK_slice_open hMe392
                  have hv392_0 := hcc392 0 _ rfl
                  rw [Nat.add_zero, show ((Kd.slice 3 (Kd.int .i64))).sz = 1 from rfl, Nat.mul_one] at hv392_0
                  replace hv392_0 := Option.some.inj (hv392_0.symm.trans hx392_0)
                  injection hv392_0 with hva_ hvn_ hvc_
                  rw [hva_] at ge392_0
                  rw [hvc_] at ul392_0
                  have HL392_0 := Aside0.mk (show Kd.V (Kd.int .i64) 3 _ w.heap.size _ _ (rd_L7 t389 x17_1) from Kd.V_mk ul392_0 ge392_0)
                  clear hva_ hvn_ hvc_ ge392_0 ul392_0
                  clear hcc392 hce392
                  have HR392_0 := Aside0.mk hi392_0
                  have HC392_0 := Aside0.mk hl392_0
                  clear hi392_0 hl392_0
                  replace p392 := eq_true p392
                  replace q392 := eq_true q392
                  go_wp2_with (first | ((with_reducible refine gate_callee (f := 54) rfl ?_); refine goesL_ (some 24) rfl rfl Try.func54 (by kernel_rfl) rfl #[.slice A0 l0.length c0, .slice A392_0 (rd_L7 t389 x17_1).length c392_0] rfl (by (try simp only [List.map_toArray, List.map_cons, List.map_nil]); first | done | rfl | (simp only [List.length_drop, List.length_take]; rfl)) ?_; (with_reducible refine (spec_suTotals.calls k1 _ _ l0 _ _ (rd_L7 t389 x17_1) t393 t394 t395 _ ?side1 ?side2 ?side3 ?side4 A11.out).mono ?_); (case side1 => repeat (first | exact (Kd.C_below HR0.out HB.out) | (with_reducible refine Kd.C_alloc ?_ _) | (with_reducible refine Kd.C_drewN ?_ _) | (with_reducible refine Kd.C_drew ?_))); (case side2 => exact HC0.out); (case side3 => repeat (first | exact (by repeat (first | (with_reducible exact HR392_0.out) | (with_reducible refine Kd.C_alloc ?_ _) | (with_reducible refine Kd.C_drewN ?_ _) | (with_reducible refine Kd.C_drew ?_) | exact HR392_0.out)) | (with_reducible refine Kd.C_alloc ?_ _) | (with_reducible refine Kd.C_drewN ?_ _) | (with_reducible refine Kd.C_drew ?_))); (case side4 => exact HC392_0.out); rintro e w' ⟨rfl, ⟨nd, rfl⟩⟩; refine ⟨_, rfl, ?_⟩) | ((with_reducible refine gate_builtin (b := .append) (xs := #[.tmp 35, .tmp 37]) rfl ?_); at_builtin; refine Kd.N_append (Kd.slice 3 (Kd.int .i64)) (w0 := w) w.heap.size rfl (.tmp 35) (.tmp 37) 65 29 (.slice none 0 0) 24 rfl Try.underlying65 info29 rfl (by decide) (by omega) (.slice none 0 0) ([] : List (List Int)) (rd_L7 t389 x17_1) [.slice A392_0 (rd_L7 t389 x17_1).length c392_0] (fun k_ => (w.heap.size ≤ k_) ∧ some k_ ≠ (u6 : Value).ownBlock ∧ some k_ ≠ (.slice (some ad392) t389.length co7 : Value).ownBlock ∧ k_ ≠ gb388) (fun k_ => ((fun k_ => (w.heap.size ≤ k_) ∧ some k_ ≠ (u6 : Value).ownBlock ∧ some k_ ≠ (.slice (some ad392) t389.length co7 : Value).ownBlock ∧ k_ ≠ gb388)) k_ ∧ some k_ ≠ (.slice none 0 0 : Value).ownBlock) rfl rfl ?aP (fun _ hk => hk) ?aF ?aO ?aB ?aS ?aL ?_; (case aP => exact (Kd.FK_slice_mk (Kd.V_reads' (Kd.V_mono (ok' := (fun k_ => ((fun k_ => (w.heap.size ≤ k_) ∧ some k_ ≠ (u6 : Value).ownBlock ∧ some k_ ≠ (.slice (some ad392) t389.length co7 : Value).ownBlock ∧ k_ ≠ gb388)) k_ ∧ some k_ ≠ (.slice none 0 0 : Value).ownBlock)) (HL392_0.out) (fun k_ hk => ⟨⟨hk.1.1, ⟨hk.1.2.1, ⟨hk.2, hk.1.2.2⟩⟩⟩, (by simp [Value.ownBlock])⟩))).2.1 (Kd.V_F (Kd.V_mono (ok' := (fun k_ => ((fun k_ => (w.heap.size ≤ k_) ∧ some k_ ≠ (u6 : Value).ownBlock ∧ some k_ ≠ (.slice (some ad392) t389.length co7 : Value).ownBlock ∧ k_ ≠ gb388)) k_ ∧ some k_ ≠ (.slice none 0 0 : Value).ownBlock)) (Kd.V_drewN HL392_0.out _) (fun k_ hk => ⟨⟨hk.1.1, ⟨hk.1.2.1, ⟨hk.2, hk.1.2.2⟩⟩⟩, (by simp [Value.ownBlock])⟩))))); (case aB => exact (by repeat (first | (with_reducible first | exact HB.out | apply below_alloc | apply pw_below_drewN | apply below_drew1 | refine below_set ?_ GE388.out) | exact HB.out))); (case aF => exact (fun k_ hk => ⟨(Nat.le_trans (below_size (by repeat (first | (with_reducible first | exact HB.out | apply below_alloc | apply pw_below_drewN | apply below_drew1 | refine below_set ?_ GE388.out) | exact HB.out))) hk), Kd.fresh' (Kd.N_lt (by (with_reducible repeat (first | apply Kd.N_alloc | apply Kd.N_drewN | apply Kd.N_drew)); exact HO_6.out)) k_ hk, Kd.fresh' (Kd.N_lt (by (with_reducible repeat (first | apply Kd.N_alloc | apply Kd.N_drewN | apply Kd.N_drew)); exact HO_15.out)) k_ hk, Kd.freshB (g := gb388) (o := .cells #[.int .i64 a1_0, .int .i64 a1_1] 39 (0, 0)) (by (with_reducible repeat (first | refine blk_drewN ?_ _ | refine blk_drew ?_ | refine blk_alloc ?_ _)); exact BK388.out) k_ hk⟩)); (case aO => exact ((Kd.N_nil _ _ _ _ (fun k_ => (w.heap.size ≤ k_) ∧ some k_ ≠ (u6 : Value).ownBlock ∧ some k_ ≠ (.slice (some ad392) t389.length co7 : Value).ownBlock ∧ k_ ≠ gb388)))); (case aS => exact (below_size (by repeat (first | (with_reducible first | exact HB.out | apply below_alloc | apply pw_below_drewN | apply below_drew1 | refine below_set ?_ GE388.out) | exact HB.out)))); (case aL => have := LMc14.out; omega); intro v397 w15 ho hb hg hat; rw [← Ny396.out] at ho; have n0_ := Aside0.mk (Kd.N_afterv (Kd.N_apart_nil (by (with_reducible repeat (first | apply Kd.N_alloc | apply Kd.N_drewN | apply Kd.N_drew)); exact HO_6.out)) hg hat); have n1_ := Aside0.mk (Kd.N_afterv (Kd.N_apart_nil (by (with_reducible repeat (first | apply Kd.N_alloc | apply Kd.N_drewN | apply Kd.N_drew)); exact HO_15.out)) hg hat); have n2_ := Aside0.mk (blk_grown (g := gb388) (o := .cells #[.int .i64 a1_0, .int .i64 a1_1] 39 (0, 0)) (by (with_reducible repeat (first | refine blk_drewN ?_ _ | refine blk_drew ?_ | refine blk_alloc ?_ _)); exact BK388.out) hg (by simp [Value.ownBlock])); have n3_ := Aside0.mk (Kd.V_afterv (Kd.V_apart_nil (by (with_reducible repeat (first | apply Kd.V_alloc | apply Kd.V_drewN | apply Kd.V_drew)); exact HL392_0.out)) hg hat); have n4_ := Aside0.mk (hb); have n5_ := Aside0.mk (ho); clear HO_6; clear HO_15; clear BK388; clear HL392_0; clear HB; have HO_6 := n0_; have HO_15 := n1_; have BK388 := n2_; have HL392_0 := n3_; have HB := n4_; have HO398 := n5_; clear n0_ n1_ n2_ n3_ n4_ n5_; clear ho hb hg hat))
                  go_roundg k1
                  case measure => have := HK1.out; omega
                  case rel => exact ⟨(y396), (t395), (wrap64 (x17_1 + 1)), (by first | rfl | (simp; done) | (simp [*]; done)), (by first | rfl | (simp; done) | (simp [*]; done)), H', ⟨by have := HK1.out; omega⟩, ⟨by (with_reducible repeat (first | apply Kd.N_alloc | apply Kd.N_drewN | apply Kd.N_drew)); exact Kd.N_mono HO398.out (fun _ hk => ⟨hk.1, ⟨hk.2.2.1, hk.2.2.2⟩⟩)⟩, ⟨by (with_reducible repeat (first | apply Kd.N_alloc | apply Kd.N_drewN | apply Kd.N_drew)); exact Kd.N_mono HO_15.out (fun _ hk => ⟨hk.1.1, ⟨hk.2, hk.1.2.2⟩⟩)⟩, ⟨by (with_reducible repeat (first | refine blk_drewN ?_ _ | refine blk_drew ?_ | refine blk_alloc ?_ _)); exact BK388.out⟩, ⟨by repeat (first | (with_reducible first | exact HB.out | apply below_alloc | apply pw_below_drewN | apply below_drew1 | refine below_set ?_ GE388.out) | exact HB.out)⟩⟩
                · rw [if_neg c14] at H
                  exact absurd H (by simp)
              · exact absurd rfl c13
            · rw [if_neg c12] at H
              have c12b0 : decide (x7_1 < t395) = false := decide_eq_false c12
              clear c12
              by_cases c16 : t395 = x7_1
              · rw [if_pos c16] at H
                have c16b0 : (t395 == x7_1) = true := beq_iff_eq.mpr c16
                have c16b1 : (t395 != x7_1) = false := bne_eq_false_iff_eq.mpr c16
                clear c16
                by_cases c17 : x6_1.length < 5864062014805
                · rw [if_pos c17] at H
                  have LMc17 := Aside0.mk c17
                  clear c17
                  obtain ⟨y399, hy399⟩ : ∃ y_ : List (List Int), y_ = (x6_1 ++ [rd_L7 t389 x17_1]) := ⟨_, rfl⟩
                  replace H : (spec_suBest.l0 k1 l0 y399 x7_1 t389 (t389.length : Int) (wrap64 (x17_1 + 1))) = some (r1, r2) := by first | (rw [hy399]; with_reducible exact H) | (have H2_ := (Option.bind_some _ _).symm.trans H; rw [hy399]; with_reducible exact H2_) | (have H2_ := (Option.bind_some _ _).symm.trans H; with_reducible exact H2_) | with_reducible exact H | (rw [hy399]; exact H) | exact H
                  have Ny399 := Aside0.mk hy399
                  clear hy399
                  have H' := Aside0.mk H
                  clear H
                  have p392 : 0 ≤ (x17_1 : Int) := of_decide_eq_true (by first | (with_reducible assumption) | assumption)
                  have q392 : x17_1 < (t389.length : Int) := of_decide_eq_true (by first | (with_reducible assumption) | assumption)
                  obtain ⟨ad392, A392_0, c392_0, e392, hx392_0, hl392_0, hi392_0⟩ := at_L7 (Kd.N_reads' HO_15.out).2.2 x17_1 p392 q392
                  cases e392
                  obtain ⟨ce392, hce392, hMe392, hcc392⟩ := Kd.N_get HO_15.out [] x17_1 p392 (by first | exact q392 | exact of_decide_eq_true (by first | (with_reducible assumption) | assumption) | (have e_ := (Kd.N_reads' HO_15.out).1; omega))
                  obtain ⟨ua392_0, uc392_0, rfl, ul392_0, ge392_0⟩ := Kd.FK_slice_open hMe392
                  have hv392_0 := hcc392 0 _ rfl
                  rw [Nat.add_zero, show ((Kd.slice 3 (Kd.int .i64))).sz = 1 from rfl, Nat.mul_one] at hv392_0
                  replace hv392_0 := Option.some.inj (hv392_0.symm.trans hx392_0)
                  injection hv392_0 with hva_ hvn_ hvc_
                  rw [hva_] at ge392_0
                  rw [hvc_] at ul392_0
                  have HL392_0 := Aside0.mk (show Kd.V (Kd.int .i64) 3 _ w.heap.size _ _ (rd_L7 t389 x17_1) from Kd.V_mk ul392_0 ge392_0)
                  clear hva_ hvn_ hvc_ ge392_0 ul392_0
                  clear hcc392 hce392
                  have HR392_0 := Aside0.mk hi392_0
                  have HC392_0 := Aside0.mk hl392_0
                  clear hi392_0 hl392_0
                  replace p392 := eq_true p392
                  replace q392 := eq_true q392
                  go_wp2_with (first | ((with_reducible refine gate_callee (f := 54) rfl ?_); refine goesL_ (some 24) rfl rfl Try.func54 (by kernel_rfl) rfl #[.slice A0 l0.length c0, .slice A392_0 (rd_L7 t389 x17_1).length c392_0] rfl (by (try simp only [List.map_toArray, List.map_cons, List.map_nil]); first | done | rfl | (simp only [List.length_drop, List.length_take]; rfl)) ?_; (with_reducible refine (spec_suTotals.calls k1 _ _ l0 _ _ (rd_L7 t389 x17_1) t393 t394 t395 _ ?side1 ?side2 ?side3 ?side4 A11.out).mono ?_); (case side1 => repeat (first | exact (Kd.C_below HR0.out HB.out) | (with_reducible refine Kd.C_alloc ?_ _) | (with_reducible refine Kd.C_drewN ?_ _) | (with_reducible refine Kd.C_drew ?_))); (case side2 => exact HC0.out); (case side3 => repeat (first | exact (by repeat (first | (with_reducible exact HR392_0.out) | (with_reducible refine Kd.C_alloc ?_ _) | (with_reducible refine Kd.C_drewN ?_ _) | (with_reducible refine Kd.C_drew ?_) | exact HR392_0.out)) | (with_reducible refine Kd.C_alloc ?_ _) | (with_reducible refine Kd.C_drewN ?_ _) | (with_reducible refine Kd.C_drew ?_))); (case side4 => exact HC392_0.out); rintro e w' ⟨rfl, ⟨nd, rfl⟩⟩; refine ⟨_, rfl, ?_⟩) | ((with_reducible refine gate_builtin (b := .append) (xs := #[.tmp 35, .tmp 37]) rfl ?_); at_builtin; refine Kd.N_append (Kd.slice 3 (Kd.int .i64)) (w0 := w) w.heap.size rfl (.tmp 35) (.tmp 37) 65 29 (.slice none 0 0) 24 rfl Try.underlying65 info29 rfl (by decide) (by omega) u6 x6_1 (rd_L7 t389 x17_1) [.slice A392_0 (rd_L7 t389 x17_1).length c392_0] (fun k_ => (w.heap.size ≤ k_) ∧ some k_ ≠ (.slice (some ad392) t389.length co7 : Value).ownBlock ∧ k_ ≠ gb388) (fun k_ => ((fun k_ => (w.heap.size ≤ k_) ∧ some k_ ≠ (.slice (some ad392) t389.length co7 : Value).ownBlock ∧ k_ ≠ gb388)) k_ ∧ some k_ ≠ (u6 : Value).ownBlock) rfl rfl ?aP (fun _ hk => hk) ?aF ?aO ?aB ?aS ?aL ?_; (case aP => exact (Kd.FK_slice_mk (Kd.V_reads' (Kd.V_mono (ok' := (fun k_ => ((fun k_ => (w.heap.size ≤ k_) ∧ some k_ ≠ (.slice (some ad392) t389.length co7 : Value).ownBlock ∧ k_ ≠ gb388)) k_ ∧ some k_ ≠ (u6 : Value).ownBlock)) (HL392_0.out) (fun k_ hk => ⟨⟨hk.1.1, ⟨hk.2, hk.1.2.2⟩⟩, hk.1.2.1⟩))).2.1 (Kd.V_F (Kd.V_mono (ok' := (fun k_ => ((fun k_ => (w.heap.size ≤ k_) ∧ some k_ ≠ (.slice (some ad392) t389.length co7 : Value).ownBlock ∧ k_ ≠ gb388)) k_ ∧ some k_ ≠ (u6 : Value).ownBlock)) (Kd.V_drewN HL392_0.out _) (fun k_ hk => ⟨⟨hk.1.1, ⟨hk.2, hk.1.2.2⟩⟩, hk.1.2.1⟩))))); (case aB => exact (by repeat (first | (with_reducible first | exact HB.out | apply below_alloc | apply pw_below_drewN | apply below_drew1 | refine below_set ?_ GE388.out) | exact HB.out))); (case aF => exact (fun k_ hk => ⟨(Nat.le_trans (below_size (by repeat (first | (with_reducible first | exact HB.out | apply below_alloc | apply pw_below_drewN | apply below_drew1 | refine below_set ?_ GE388.out) | exact HB.out))) hk), Kd.fresh' (Kd.N_lt (by (with_reducible repeat (first | apply Kd.N_alloc | apply Kd.N_drewN | apply Kd.N_drew)); exact HO_15.out)) k_ hk, Kd.freshB (g := gb388) (o := .cells #[.int .i64 a1_0, .int .i64 a1_1] 39 (0, 0)) (by (with_reducible repeat (first | refine blk_drewN ?_ _ | refine blk_drew ?_ | refine blk_alloc ?_ _)); exact BK388.out) k_ hk⟩)); (case aO => exact (by (with_reducible repeat (first | apply Kd.N_alloc | apply Kd.N_drewN | apply Kd.N_drew)); exact HO_6.out)); (case aS => exact (below_size (by repeat (first | (with_reducible first | exact HB.out | apply below_alloc | apply pw_below_drewN | apply below_drew1 | refine below_set ?_ GE388.out) | exact HB.out)))); (case aL => have := LMc17.out; omega); intro v400 w18 ho hb hg hat; rw [← Ny399.out] at ho; have n0_ := Aside0.mk (Kd.N_afterv (ok := (fun k_ => (w.heap.size ≤ k_) ∧ k_ ≠ gb388)) (by (with_reducible repeat (first | apply Kd.N_alloc | apply Kd.N_drewN | apply Kd.N_drew)); exact Kd.N_mono HO_15.out (fun _ hk => ⟨⟨hk.1, hk.2.2⟩, hk.2.1⟩)) hg hat); have n1_ := Aside0.mk (blk_grown (g := gb388) (o := .cells #[.int .i64 a1_0, .int .i64 a1_1] 39 (0, 0)) (by (with_reducible repeat (first | refine blk_drewN ?_ _ | refine blk_drew ?_ | refine blk_alloc ?_ _)); exact BK388.out) hg (Kd.N_ne HO_6.out BK388.out (by decide))); have n2_ := Aside0.mk (Kd.V_afterv (ok := (fun k_ => (w.heap.size ≤ k_) ∧ some k_ ≠ (.slice (some ad392) t389.length co7 : Value).ownBlock ∧ k_ ≠ gb388)) (by (with_reducible repeat (first | apply Kd.V_alloc | apply Kd.V_drewN | apply Kd.V_drew)); exact Kd.V_mono HL392_0.out (fun _ hk => ⟨⟨hk.1.1, ⟨hk.2, hk.1.2.2⟩⟩, hk.1.2.1⟩)) hg hat); have n3_ := Aside0.mk (hb); have n4_ := Aside0.mk (ho); clear HO_15; clear BK388; clear HL392_0; clear HB; clear HO_6; have HO_15 := n0_; have BK388 := n1_; have HL392_0 := n2_; have HB := n3_; have HO401 := n4_; clear n0_ n1_ n2_ n3_ n4_; clear ho hb hg hat))
                  go_roundg k1
                  case measure => have := HK1.out; omega
                  case rel => exact ⟨(y399), (x7_1), (wrap64 (x17_1 + 1)), (by first | rfl | (simp; done) | (simp [*]; done)), (by first | rfl | (simp; done) | (simp [*]; done)), H', ⟨by have := HK1.out; omega⟩, ⟨by (with_reducible repeat (first | apply Kd.N_alloc | apply Kd.N_drewN | apply Kd.N_drew)); exact HO401.out⟩, ⟨by (with_reducible repeat (first | apply Kd.N_alloc | apply Kd.N_drewN | apply Kd.N_drew)); exact Kd.N_mono HO_15.out (fun _ hk => ⟨hk.1.1, ⟨hk.2, hk.1.2⟩⟩)⟩, ⟨by (with_reducible repeat (first | refine blk_drewN ?_ _ | refine blk_drew ?_ | refine blk_alloc ?_ _)); exact BK388.out⟩, ⟨by repeat (first | (with_reducible first | exact HB.out | apply below_alloc | apply pw_below_drewN | apply below_drew1 | refine below_set ?_ GE388.out) | exact HB.out)⟩⟩
                · rw [if_neg c17] at H
                  exact absurd H (by simp)
              · rw [if_neg c16] at H
                have c16b0 : (t395 == x7_1) = false := beq_eq_false_iff_ne.mpr c16
                have c16b1 : (t395 != x7_1) = true := bne_iff_ne.mpr c16
                have H' := Aside0.mk H
                clear H
                have p392 : 0 ≤ (x17_1 : Int) := of_decide_eq_true (by first | (with_reducible assumption) | assumption)
                have q392 : x17_1 < (t389.length : Int) := of_decide_eq_true (by first | (with_reducible assumption) | assumption)
                obtain ⟨ad392, A392_0, c392_0, e392, hx392_0, hl392_0, hi392_0⟩ := at_L7 (Kd.N_reads' HO_15.out).2.2 x17_1 p392 q392
                cases e392
                obtain ⟨ce392, hce392, hMe392, hcc392⟩ := Kd.N_get HO_15.out [] x17_1 p392 (by first | exact q392 | exact of_decide_eq_true (by first | (with_reducible assumption) | assumption) | (have e_ := (Kd.N_reads' HO_15.out).1; omega))
                obtain ⟨ua392_0, uc392_0, rfl, ul392_0, ge392_0⟩ := Kd.FK_slice_open hMe392
                have hv392_0 := hcc392 0 _ rfl
                rw [Nat.add_zero, show ((Kd.slice 3 (Kd.int .i64))).sz = 1 from rfl, Nat.mul_one] at hv392_0
                replace hv392_0 := Option.some.inj (hv392_0.symm.trans hx392_0)
                injection hv392_0 with hva_ hvn_ hvc_
                rw [hva_] at ge392_0
                rw [hvc_] at ul392_0
                have HL392_0 := Aside0.mk (show Kd.V (Kd.int .i64) 3 _ w.heap.size _ _ (rd_L7 t389 x17_1) from Kd.V_mk ul392_0 ge392_0)
                clear hva_ hvn_ hvc_ ge392_0 ul392_0
                clear hcc392 hce392
                have HR392_0 := Aside0.mk hi392_0
                have HC392_0 := Aside0.mk hl392_0
                clear hi392_0 hl392_0
                replace p392 := eq_true p392
                replace q392 := eq_true q392
                go_wp2_with (first | ((with_reducible refine gate_callee (f := 54) rfl ?_); refine goesL_ (some 24) rfl rfl Try.func54 (by kernel_rfl) rfl #[.slice A0 l0.length c0, .slice A392_0 (rd_L7 t389 x17_1).length c392_0] rfl (by (try simp only [List.map_toArray, List.map_cons, List.map_nil]); first | done | rfl | (simp only [List.length_drop, List.length_take]; rfl)) ?_; (with_reducible refine (spec_suTotals.calls k1 _ _ l0 _ _ (rd_L7 t389 x17_1) t393 t394 t395 _ ?side1 ?side2 ?side3 ?side4 A11.out).mono ?_); (case side1 => repeat (first | exact (Kd.C_below HR0.out HB.out) | (with_reducible refine Kd.C_alloc ?_ _) | (with_reducible refine Kd.C_drewN ?_ _) | (with_reducible refine Kd.C_drew ?_))); (case side2 => exact HC0.out); (case side3 => repeat (first | exact (by repeat (first | (with_reducible exact HR392_0.out) | (with_reducible refine Kd.C_alloc ?_ _) | (with_reducible refine Kd.C_drewN ?_ _) | (with_reducible refine Kd.C_drew ?_) | exact HR392_0.out)) | (with_reducible refine Kd.C_alloc ?_ _) | (with_reducible refine Kd.C_drewN ?_ _) | (with_reducible refine Kd.C_drew ?_))); (case side4 => exact HC392_0.out); rintro e w' ⟨rfl, ⟨nd, rfl⟩⟩; refine ⟨_, rfl, ?_⟩))
                go_roundg k1
                case measure => have := HK1.out; omega
                case rel => exact ⟨(x6_1), (x7_1), (wrap64 (x17_1 + 1)), (by first | rfl | (simp; done) | (simp [*]; done)), (by first | rfl | (simp; done) | (simp [*]; done)), H', ⟨by have := HK1.out; omega⟩, ⟨by (with_reducible repeat (first | apply Kd.N_alloc | apply Kd.N_drewN | apply Kd.N_drew)); exact HO_6.out⟩, ⟨by (with_reducible repeat (first | apply Kd.N_alloc | apply Kd.N_drewN | apply Kd.N_drew)); exact HO_15.out⟩, ⟨by (with_reducible repeat (first | refine blk_drewN ?_ _ | refine blk_drew ?_ | refine blk_alloc ?_ _)); exact BK388.out⟩, ⟨by repeat (first | (with_reducible first | exact HB.out | apply below_alloc | apply pw_below_drewN | apply below_drew1 | refine below_set ?_ GE388.out) | exact HB.out)⟩⟩
          · rw [if_neg c10] at H
            exact absurd H (by simp)
        · rw [if_neg c9] at H
          exact absurd H (by simp)
      · rw [if_neg c8] at H
        have c8b0 : decide (x17_1 < (t389.length : Int)) = false := decide_eq_false c8
        clear c8
        simp only [Option.some.injEq, Prod.mk.injEq] at H
        obtain ⟨rfl, rfl⟩ := H
        go_wp2
        go_ret2
        exact ⟨_, by first | rfl | (simp [errW_none, errW_some] <;> rfl) | (simp [*, errW_none, errW_some] <;> rfl), by (with_reducible repeat (first | apply Kd.N_alloc | apply Kd.N_drewN | apply Kd.N_drew)); exact Kd.N_mono HO_6.out (fun _ hk => hk.1), by repeat (first | (with_reducible first | exact HB.out | apply below_alloc | apply pw_below_drewN | apply below_drew1 | refine below_set ?_ GE388.out) | exact HB.out)⟩

end Go.Proofs.Ytgghcngfleicnaa.Q
