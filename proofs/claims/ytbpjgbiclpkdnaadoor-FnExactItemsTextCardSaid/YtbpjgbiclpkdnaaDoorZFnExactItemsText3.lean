/-
  Part 3 of the proof of FnExactItemsText: what Go functions that it reaches compute, each shown by a walk of its code, and plain laws on numbers and lists.
  CONDITIONS: each theorem's own, as stated.
-/
import Derived.Test.YtbpjgbiclpkdnaaDoorZFnExactItemsText1
import Derived.Test.YtbpjgbiclpkdnaaDoorZFnExactItemsText2
import Derived.Deep.Slices
import Derived.Deep.Fields
import Derived.ChangeSame
import Derived.SizedLaws
import Derived.ChangeSlices
import Derived.Lib.SmallJoins
import Derived.Test.YtbpjgbiclpkdnaaDoorWWords
import Derived.Test.YtbpjgbiclpkdnaaDoorRows
import Derived.Test.YtbpjgbiclpkdnaaDoorCards
import Derived.Test.YtbpjgbiclpkdnaaDoorTie
import Derived.Lay
import Derived.LaidMore
import Derived.LaidOnce
import Derived.SevenTiedAt
import Derived.WalkKit
import Derived.ProofKit
import Derived.OpenShut
import Derived.ShutString
import Derived.ChangeOld
import Derived.Below
import Derived.Test.YtbpjgbiclpkdnaaDoorWSized
namespace Go.Proofs.YtbpjgbiclpkdnaaDoor.Q
open Go.RowKit Go.Proofs.YtbpjgbiclpkdnaaDoorW.PrintWords Go.Proofs.YtbpjgbiclpkdnaaDoorW.PrintLast Go.Proofs.YtbpjgbiclpkdnaaDoorW.PrintMore
attribute [local go_sem] max2_int min2_int max_two min_two max_three min_three max_four min_four   -- for this text's walks alone
set_option linter.unusedVariables false
set_option linter.unusedSimpArgs false

/-! ### spec_ItemsText: function 28 -/
def spec_ItemsText.f (k : Nat) (l0 : List (S65)) : Option (ByteArray × Bool) := (spec_suGood.f k l0).bind fun t333 => (if t333 = true then ((spec_suText.f k l0).bind fun t334 => (some (t334, true))) else (some ((⟨#[]⟩ : ByteArray), false)))
theorem spec_ItemsText.mono : ∀ a0 k, LeO (spec_ItemsText.f k a0) (spec_ItemsText.f (k + 1) a0) := by
  intro a0 k
  unfold spec_ItemsText.f
  repeat' first
      | (with_reducible exact spec_suGood.mono _ _)
      | (with_reducible exact spec_suText.mono _ _)
      | (with_reducible exact LeO.refl _)
      | (with_reducible exact LeO.none _)
      | (with_reducible refine LeO.ite ?_ ?_)
      | (with_reducible refine LeO.bind ?_ (fun _ => ?_))
      | exact spec_suGood.mono _ _
      | exact spec_suText.mono _ _
      | exact LeO.none _
      | refine LeO.ite ?_ ?_
      | refine LeO.bind ?_ (fun _ => ?_)
set_option maxHeartbeats 8000000 in
set_option maxRecDepth 100000 in
theorem spec_ItemsText.calls (k : Nat) (A0 : Option Addr) (c0 : Nat) (l0 : List (S65)) (r1 : ByteArray) (r2 : Bool) (w : World) (hr0 : Kd.C k65 w A0 l0.length l0) (hc0 : l0.length ≤ c0) (h : spec_ItemsText.f k l0 = some (r1, r2)) :
    Calls Tryd.prog 28 #[.slice A0 l0.length c0] w fun e w' => e = .returned (.tuple #[.string r1, .bool r2]) ∧ Below w.heap.size w w' := by
  have HR0 := Aside0.mk hr0
  have HC0 := Aside0.mk hc0
  clear hr0 hc0
  have HB := Aside0.mk (Below.refl w.heap.size w)
  have H : ((spec_suGood.f k l0).bind fun t333 => (if t333 = true then ((spec_suText.f k l0).bind fun t334 => (some (t334, true))) else (some ((⟨#[]⟩ : ByteArray), false)))) = some (r1, r2) := h
  clear h
  replace H := Option.bind_eq_some_iff.mp H
  obtain ⟨t333, A20, H⟩ := H
  replace H : (if t333 = true then ((spec_suText.f k l0).bind fun t334 => (some (t334, true))) else (some ((⟨#[]⟩ : ByteArray), false))) = some (r1, r2) := H
  have A2 := Aside0.mk A20
  clear A20
  by_cases c3 : t333 = true
  · subst c3
    have H1 : ((spec_suText.f k l0).bind fun t334 => (some (t334, true))) = some (r1, r2) := by rw [if_pos rfl] at H; exact H
    clear H
    have H := H1
    clear H1
    replace H := Option.bind_eq_some_iff.mp H
    obtain ⟨t334, A40, H⟩ := H
    replace H : (some (t334, true)) = some (r1, r2) := H
    have A4 := Aside0.mk A40
    clear A40
    simp only [Option.some.injEq, Prod.mk.injEq] at H
    obtain ⟨rfl, rfl⟩ := H
    go_enter Tryd.func28, Tryd.ntmps28
    go_wp2_with (first | ((with_reducible refine gate_callee (f := 43) rfl ?_); refine goesL_ (some 5) rfl rfl Tryd.func43 (by kernel_rfl) rfl #[.slice A0 l0.length c0] rfl (by (try simp only [List.map_toArray, List.map_cons, List.map_nil]); first | done | rfl | (simp only [List.length_drop, List.length_take]; rfl)) ?_; (with_reducible refine (spec_suGood.calls k _ _ l0 true _ ?side1 ?side2 A2.out).mono ?_); (case side1 => repeat (first | exact HR0.out | (with_reducible refine Kd.C_alloc ?_ _) | (with_reducible refine Kd.C_drewN ?_ _) | (with_reducible refine Kd.C_drew ?_))); (case side2 => exact HC0.out); rintro e w5 ⟨rfl, hb⟩; refine ⟨_, rfl, ?_⟩; have n0_ := Aside0.mk (below_step (by repeat (first | (with_reducible first | exact HB.out | apply below_alloc | apply pw_below_drewN | apply below_drew1) | exact HB.out)) hb); clear HB; have HB := n0_; clear n0_; (try clear hb); (try clear hb2); (try clear hk); (try clear hi)) | ((with_reducible refine gate_callee (f := 44) rfl ?_); refine goesL_ (some 8) rfl rfl Tryd.func44 (by kernel_rfl) rfl #[.slice A0 l0.length c0] rfl (by (try simp only [List.map_toArray, List.map_cons, List.map_nil]); first | done | rfl | (simp only [List.length_drop, List.length_take]; rfl)) ?_; (with_reducible refine (spec_suText.calls k _ _ l0 t334 _ ?side1 ?side2 A4.out).mono ?_); (case side1 => repeat (first | exact (Kd.C_below HR0.out HB.out) | (with_reducible refine Kd.C_alloc ?_ _) | (with_reducible refine Kd.C_drewN ?_ _) | (with_reducible refine Kd.C_drew ?_))); (case side2 => exact HC0.out); rintro e w6 ⟨rfl, hb⟩; refine ⟨_, rfl, ?_⟩; have n0_ := Aside0.mk (below_step (by repeat (first | (with_reducible first | exact HB.out | apply below_alloc | apply pw_below_drewN | apply below_drew1) | exact HB.out)) hb); clear HB; have HB := n0_; clear n0_; (try clear hb); (try clear hb2); (try clear hk); (try clear hi)))
    go_ret2
    exact ⟨by first | rfl | (simp [errW_none, errW_some] <;> rfl) | (simp [*, errW_none, errW_some] <;> rfl), by repeat (first | (with_reducible first | exact HB.out | apply below_alloc | apply pw_below_drewN | apply below_drew1) | exact HB.out)⟩
  · replace c3 := Bool.eq_false_iff.mpr c3
    subst c3
    have H1 : (some ((⟨#[]⟩ : ByteArray), false)) = some (r1, r2) := by rw [if_neg (show ¬ (false = true) by decide)] at H; exact H
    clear H
    have H := H1
    clear H1
    simp only [Option.some.injEq, Prod.mk.injEq] at H
    obtain ⟨rfl, rfl⟩ := H
    go_enter Tryd.func28, Tryd.ntmps28
    go_wp2_with (first | ((with_reducible refine gate_callee (f := 43) rfl ?_); refine goesL_ (some 5) rfl rfl Tryd.func43 (by kernel_rfl) rfl #[.slice A0 l0.length c0] rfl (by (try simp only [List.map_toArray, List.map_cons, List.map_nil]); first | done | rfl | (simp only [List.length_drop, List.length_take]; rfl)) ?_; (with_reducible refine (spec_suGood.calls k _ _ l0 false _ ?side1 ?side2 A2.out).mono ?_); (case side1 => repeat (first | exact HR0.out | (with_reducible refine Kd.C_alloc ?_ _) | (with_reducible refine Kd.C_drewN ?_ _) | (with_reducible refine Kd.C_drew ?_))); (case side2 => exact HC0.out); rintro e w7 ⟨rfl, hb⟩; refine ⟨_, rfl, ?_⟩; have n0_ := Aside0.mk (below_step (by repeat (first | (with_reducible first | exact HB.out | apply below_alloc | apply pw_below_drewN | apply below_drew1) | exact HB.out)) hb); clear HB; have HB := n0_; clear n0_; (try clear hb); (try clear hb2); (try clear hk); (try clear hi)))
    go_ret2
    exact ⟨by first | rfl | (simp [errW_none, errW_some] <;> rfl) | (simp [*, errW_none, errW_some] <;> rfl), by repeat (first | (with_reducible first | exact HB.out | apply below_alloc | apply pw_below_drewN | apply below_drew1) | exact HB.out)⟩

end Go.Proofs.YtbpjgbiclpkdnaaDoor.Q

namespace Go.Proofs.YtbpjgbiclpkdnaaDoor.Q
open Go.RowKit Go.Shelf Go.Proofs.YtbpjgbiclpkdnaaDoorW.PrintWords Go.Proofs.YtbpjgbiclpkdnaaDoorW.PrintLast Go.Proofs.YtbpjgbiclpkdnaaDoorW.PrintMore
set_option linter.unusedVariables false
set_option linter.unusedSimpArgs false

/-- The text of three numbers. -/
def textP (x : Item) : ByteArray := joinB ([x.f0, x.f1, x.f2].map numB) ⟨#[46]⟩
def smallItem (x : Item) : Prop := (0 ≤ x.f0 ∧ x.f0 ≤ 1000) ∧ (0 ≤ x.f1 ∧ x.f1 ≤ 1000) ∧ 0 ≤ x.f2 ∧ x.f2 ≤ 1000
theorem rowC3 (W : World) (a b c : Int) (t : Nat) : Kd.C (Kd.int .i64) (W.alloc (.cells #[.int .i64 a, .int .i64 b, .int .i64 c] t)) (some ⟨W.heap.size, 0, none⟩) [a, b, c].length [a, b, c] := by
  have hnew := heap_alloc_new W (.cells #[.int .i64 a, .int .i64 b, .int .i64 c] t)
  refine ⟨rfl, by simp, fun _ => ⟨_, rfl, fun j p hj => ⟨[.int .i64 p], rfl, rfl, fun i u hi => ?_⟩⟩⟩
  have hi0 : i = 0 := by have := (List.getElem?_eq_some_iff.1 hi).1; simp at this; omega
  subst hi0
  have hu : Value.int .i64 p = u := by simpa using hi
  subst hu
  have hjl : j = 0 ∨ j = 1 ∨ j = 2 := by have := (List.getElem?_eq_some_iff.1 hj).1; simp at this; omega
  rcases hjl with rfl | rfl | rfl
  · have hp : a = p := by simpa using hj
    subst hp
    exact (blk_cell hnew 0).trans rfl
  · have hp : b = p := by simpa using hj
    subst hp
    exact (blk_cell hnew 1).trans rfl
  · have hp : c = p := by simpa using hj
    subst hp
    exact (blk_cell hnew 2).trans rfl
theorem textP_len (x : Item) (h : smallItem x) : (textP x).data.toList.length ≤ 4000 := by
  have h1 := join_len [46] 1002 (([x.f0, x.f1, x.f2].map numB).map (·.data.toList)) (fun y hy => by
    rw [List.map_map, List.mem_map] at hy
    obtain ⟨z, hz, rfl⟩ := hy
    have hz2 : 0 ≤ z ∧ z ≤ 1000 := by
      unfold smallItem at h
      simp only [List.mem_cons, List.not_mem_nil, or_false] at hz
      rcases hz with rfl | rfl | rfl <;> omega
    show (Lib.itoa z).length ≤ 1002
    unfold Lib.itoa
    rw [if_neg (by omega)]
    have := dec_len z.toNat
    omega)
  unfold textP
  rw [joinB_data]
  exact Nat.le_trans h1 (by simp)
theorem texts_len (l : List Item) (hn : l.length ≤ 1000) (h : ∀ x ∈ l, smallItem x) : (Lib.join ((l.map textP).map (·.data.toList)) (⟨#[44]⟩ : ByteArray).data.toList).length ≤ 10000000 := by
  have h1 := join_len [44] 4000 ((l.map textP).map (·.data.toList)) (fun y hy => by
    rw [List.map_map, List.mem_map] at hy
    obtain ⟨z, hz, rfl⟩ := hy
    exact textP_len z (h z hz))
  rw [List.length_map, List.length_map] at h1
  have h2 : l.length * (4000 + [(44 : UInt8)].length) ≤ 1000 * 4001 := Nat.mul_le_mul hn (by simp)
  exact Nat.le_trans h1 (by omega)

set_option maxRecDepth 100000 in
set_option maxHeartbeats 4000000 in
theorem text_calls (A0 : Option Addr) (c0 : Nat) (l0 : List Item) (w : World) (hT : Tab w) (hr0 : Kd.C k65 w A0 l0.length l0) (hc0 : l0.length ≤ c0) (hn : l0.length ≤ 1000) (hs : ∀ x ∈ l0, smallItem x) :
    Calls Tryd.prog 46 #[.slice A0 l0.length c0] w fun e w' => e = .returned (.string (joinB (l0.map textP) ⟨#[44]⟩)) ∧ Below w.heap.size w w' := by
  have HR := Aside0.mk hr0
  have HT := Aside0.mk hT
  have HS := Aside0.mk hs
  have hu := Tryd.underlying65
  have R1 : Aside0 _ := ⟨R_empty Kd.string 9 w w.heap.size (fun k => w.heap.size ≤ k) (Nat.le_refl _) (Nat.le_refl _)⟩
  have B1 : Aside0 (Below w.heap.size w (w.alloc (.cells #[] 9))) := ⟨(Below.refl _ w).alloc (Nat.le_refl _) _⟩
  clear hr0 hT hs
  go_enter Tryd.func46, Tryd.ntmps46
  go_wp2
  go_loopg [3, 9] l0.length (fun gg s3 s9 wr => ∃ (j : Nat) (A : Option Addr) (c : Nat), s3 = .slice A j c ∧ s9 = .int .i64 (j : Int) ∧ j ≤ l0.length ∧ l0.length - j ≤ gg ∧ Aside0 (Kd.R Kd.string 9 wr w.heap.size (fun k => w.heap.size ≤ k) (.slice A j c) ((l0.take j).map textP)) ∧ Aside0 (Below w.heap.size w wr))
  case atStart => exact ⟨0, _, _, rfl, rfl, by omega, by omega, R1, B1⟩
  case round =>
    obtain ⟨j, Ap, cp, rfl, rfl, hjn, hgg, RR, BB⟩ := hrel
    by_cases hlt : j < l0.length
    · have hltz : (j : Int) < (l0.length : Int) := by omega
      have hj0 : (0 : Int) ≤ (j : Int) := by omega
      obtain ⟨ad, e, p0, p1, p2⟩ := at_T65 (Kd.C_below HR.out BB.out) (j : Int) hj0 hltz
      subst e
      rw [Int.toNat_natCast] at p0 p1 p2
      have hrd : rd_T65 l0 (j : Int) = l0[j] := by
        unfold rd_T65
        rw [Int.toNat_natCast, List.getD_eq_getElem?_getD, List.getElem?_eq_getElem hlt]; rfl
      rw [hrd] at p0 p1 p2
      have hx := HS.out l0[j] (List.getElem_mem hlt)
      have hnext : (l0.take j).map textP ++ [textP l0[j]] = (l0.take (j + 1)).map textP := by rw [List.take_add_one, List.getElem?_eq_getElem hlt, List.map_append]; rfl
      generalize l0[j] = x at p0 p1 p2 hx hnext
      obtain ⟨f0, f1, f2⟩ := x
      unfold smallItem at hx
      simp only at p0 p1 p2 hx
      have e1 : (wr.alloc (.cells #[.int .i64 f0, .int .i64 f1, .int .i64 f2] 65)).heap.size = wr.heap.size + 1 := by simp
      have b2 : Below wr.heap.size wr ((wr.alloc (.cells #[.int .i64 f0, .int .i64 f1, .int .i64 f2] 65)).alloc (.cells #[.int .i64 f0, .int .i64 f1, .int .i64 f2] 3)) := ((Below.refl _ wr).alloc (Nat.le_refl _) _).alloc (by simp) _
      have hcall := joinedT_calls (some ⟨(wr.alloc (.cells #[.int .i64 f0, .int .i64 f1, .int .i64 f2] 65)).heap.size, 0, none⟩) 3 [f0, f1, f2] ⟨#[46]⟩ ((wr.alloc (.cells #[.int .i64 f0, .int .i64 f1, .int .i64 f2] 65)).alloc (.cells #[.int .i64 f0, .int .i64 f1, .int .i64 f2] 3))
        (tab_below HT.out (BB.out.trans (b2.mono BB.out.size))) (rowC3 _ f0 f1 f2 3) (by simp) (by simp) (by decide) (fun y hy => by
          simp only [List.mem_cons, List.not_mem_nil, or_false] at hy
          rcases hy with rfl | rfl | rfl <;> omega)
      rw [e1, show joinB (([f0, f1, f2] : List Int).map numB) ⟨#[46]⟩ = textP ⟨f0, f1, f2⟩ from rfl] at hcall
      generalize textP ⟨f0, f1, f2⟩ = s at hcall hnext
      have hl : ((l0.take j).map textP).length = j := by rw [List.length_map, List.length_take]; omega
      have HNX := Aside0.mk hnext
      have HL := Aside0.mk hl
      have HCALL := Aside0.mk hcall
      have BW : Aside0 (Below wr.heap.size wr ((wr.alloc (.cells #[.int .i64 f0, .int .i64 f1, .int .i64 f2] 65)).alloc (.cells #[.int .i64 f0, .int .i64 f1, .int .i64 f2] 3))) := ⟨b2⟩
      have hwi : IntKind.i64.wrap ((j : Int) + 1) = ((j + 1 : Nat) : Int) := by rw [IntWalk.i64_in _ (by omega)]; omega
      clear hnext hcall hl hx hrd e1 b2
      generalize (l0.take j).map textP = ps at RR HNX HL
      go_wp2_with (first
        | (go_at_call 51; refine HCALL.out.mono ?_; rintro e w6 ⟨rfl, hb⟩; have b6 := BW.out.trans (hb.mono BW.out.size); have B6 := Aside0.mk (BB.out.trans (b6.mono BB.out.size)); have R6 := Aside0.mk (Kd.R_below RR.out b6); clear hb b6)
        | (at_builtin; refine Kd.R_append Kd.string (w0 := w) w.heap.size rfl (.tmp 13) (.tmp 22) 61 9 (.string ⟨#[]⟩) 16 rfl Tryd.underlying61 info9 rfl (by decide) (by omega) (.slice Ap j cp) ps s [.string s] (fun k => w.heap.size ≤ k) (fun _ => False) rfl rfl ?aP (fun _ hk => hk.elim) ?aF ?aO ?aB ?aS ?aL ?_;
            (case aP => exact rfl);
            (case aF => exact fun k hk => Nat.le_trans B6.out.size hk);
            (case aO => exact R6.out);
            (case aB => exact B6.out);
            (case aS => exact B6.out.size);
            (case aL => have := HL.out; omega);
            intro v7 w7 hR7 hb7 hg7 hat7; rw [HNX.out] at hR7; have hsl := Kd.R_slice hR7; rw [show ((l0.take (j + 1)).map textP).length = j + 1 by rw [List.length_map, List.length_take]; omega] at hsl; obtain ⟨A7, c7, hv7⟩ := hsl; subst hv7; have R7 := Aside0.mk hR7; have B7 := Aside0.mk hb7; clear hR7 hb7 hg7 hat7))
      go_roundg (l0.length - (j + 1))
      case measure => omega
      case rel => exact ⟨j + 1, A7, c7, rfl, by go_num, by omega, by omega, R7, B7⟩
    · have hltz : ¬ (j : Int) < (l0.length : Int) := by omega
      have hR := RR.out
      rw [List.take_of_length_le (by omega)] at hR
      have hcall := join_calls _ (l0.map textP) ⟨#[44]⟩ w.heap.size _ wr hR (by rw [List.length_map]; omega) (Nat.le_trans (texts_len l0 hn HS.out) (by decide))
      have HCALL := Aside0.mk hcall
      clear hR hcall
      go_wp2_with (go_at_call 64; refine HCALL.out.mono ?_; rintro e w6 ⟨rfl, hb⟩; have B6 := Aside0.mk (BB.out.trans (hb.mono BB.out.size)); clear hb)
      go_ret
      exact ⟨rfl, B6.out⟩
def impl_ItemsText.f (l0 : List Item) : Option (ByteArray × Bool) := (impl_AreItems.f l0).bind fun t => if t = true then some (joinB (l0.map textP) ⟨#[44]⟩, true) else some (⟨#[]⟩, false)
theorem good_small (l0 : List Item) (h : impl_AreItems.f l0 = some true) : l0.length ≤ 1000 ∧ ∀ x ∈ l0, smallItem x := by
  unfold impl_AreItems.f at h
  injection h with h
  simp only [Bool.and_eq_true, decide_eq_true_eq, List.all_eq_true] at h
  refine ⟨by omega, fun x hx => ?_⟩
  have := h.2 x hx
  unfold okItem at this
  simp only [Bool.and_eq_true, decide_eq_true_eq] at this
  unfold smallItem
  omega
set_option maxHeartbeats 2000000 in
theorem impl_ItemsText_calls (A0 : Option Addr) (c0 : Nat) (l0 : List Item) (r1 : ByteArray) (r2 : Bool) (w : World) (hT : Tab w) (hr0 : Kd.C k65 w A0 l0.length l0) (hc0 : l0.length ≤ c0) (h : impl_ItemsText.f l0 = some (r1, r2)) :
    Calls Tryd.prog 30 #[.slice A0 l0.length c0] w fun e w' => e = .returned (.tuple #[.string r1, .bool r2]) ∧ Below w.heap.size w w' := by
  unfold impl_ItemsText.f at h
  obtain ⟨t, ht, h⟩ := Option.bind_eq_some_iff.mp h
  have hare := impl_AreItems.calls A0 c0 l0 t w hr0 hc0 ht
  have HARE := Aside0.mk hare
  have HR := Aside0.mk hr0
  have HT := Aside0.mk hT
  have HG := Aside0.mk ht
  clear hare hr0 hT ht
  cases t with
  | false =>
    have hr : (⟨#[]⟩ : ByteArray) = r1 ∧ false = r2 := by simpa using h
    obtain ⟨rfl, rfl⟩ := hr
    clear h
    go_enter Tryd.func30, Tryd.ntmps30
    go_wp2_with (go_at_call 45; refine HARE.out.mono ?_; rintro e w2 ⟨rfl, hb⟩)
    go_ret2
    exact ⟨rfl, hb⟩
  | true =>
    have hr : joinB (l0.map textP) ⟨#[44]⟩ = r1 ∧ true = r2 := by simpa using h
    obtain ⟨hr, rfl⟩ := hr
    have hsm := good_small l0 HG.out
    have htx := fun W (hb : Below w.heap.size w W) => text_calls A0 c0 l0 W (tab_below HT.out hb) (Kd.C_below HR.out hb) hc0 hsm.1 hsm.2
    rw [hr] at htx
    have HTX := Aside0.mk htx
    clear h hr hsm htx
    go_enter Tryd.func30, Tryd.ntmps30
    go_wp2_with (first
      | (go_at_call 45; refine HARE.out.mono ?_; rintro e w2 ⟨rfl, hb⟩; have B2 := Aside0.mk hb; clear hb)
      | (go_at_call 46; refine (HTX.out w2 B2.out).mono ?_; rintro e w3 ⟨rfl, hb⟩; have B3 := Aside0.mk (B2.out.trans (hb.mono B2.out.size)); clear hb))
    go_ret2
    exact ⟨rfl, B3.out⟩
/-! ### the reference -/
theorem numB_size (x : Int) (h : 0 ≤ x ∧ x ≤ 1000) : (numB x).size ≤ 1001 := by
  rw [size_data, numB_data]
  unfold Lib.itoa
  rw [if_neg (by omega)]
  have := dec_len x.toNat
  omega
theorem app_size (a b : ByteArray) : (a ++ b).size = a.size + b.size := by rw [size_data, size_data, size_data, Go.Joins.data_append, List.length_append]
theorem textP_app (x : Item) : (((numB x.f0 ++ (⟨#[46]⟩ : ByteArray)) ++ numB x.f1) ++ (⟨#[46]⟩ : ByteArray)) ++ numB x.f2 = textP x := by
  unfold textP
  have e0 : numB x.f0 = joinB [numB x.f0] ⟨#[46]⟩ := by
    apply ba_ext
    rw [joinB_data]
    simp [Lib.join]
  have e1 := joinB_snoc ⟨#[46]⟩ (numB x.f1) [numB x.f0] (by simp)
  have e2 := joinB_snoc ⟨#[46]⟩ (numB x.f2) ([numB x.f0] ++ [numB x.f1]) (by simp)
  rw [e1, ← e0] at e2
  exact e2.symm
theorem num_nat (x : Int) (h : 0 ≤ x ∧ x ≤ 1000) (k : Nat) (hk : 1000 < k) : spec_l1Num.f k x = some (numB x) := by
  obtain ⟨n, rfl⟩ : ∃ n : Nat, x = (n : Int) := ⟨x.toNat, by omega⟩
  exact l1Num_eq n (by omega) k (by omega)
theorem scText_l0 (l : List Item) (hn : l.length ≤ 1000) (hs : ∀ x ∈ l, smallItem x) : ∀ d k i, i + d = l.length → d + 2000 < k → spec_suText.l0 k (joinB ((l.take i).map textP) ⟨#[44]⟩) l (l.length : Int) (i : Int) = some (joinB (l.map textP) ⟨#[44]⟩) := by
  intro d
  induction d with
  | zero =>
    intro k i hi hk
    obtain ⟨k, rfl⟩ : ∃ m, k = m + 1 := ⟨k - 1, by omega⟩
    rw [spec_suText.l0, if_neg (by omega), List.take_of_length_le (by omega)]
  | succ d ih =>
    intro k i hi hk
    obtain ⟨k, rfl⟩ : ∃ m, k = m + 1 := ⟨k - 1, by omega⟩
    have hlt : i < l.length := by omega
    have hrd : rd_T65 l (i : Int) = l[i] := by
      unfold rd_T65
      rw [Int.toNat_natCast, List.getD_eq_getElem?_getD, List.getElem?_eq_getElem hlt]; rfl
    have hx := hs _ (List.getElem_mem hlt)
    have hnext : (l.take (i + 1)).map textP = (l.take i).map textP ++ [textP l[i]] := by rw [List.take_add_one, List.getElem?_eq_getElem hlt, List.map_append]; rfl
    have hs0 : (joinB ((l.take i).map textP) ⟨#[44]⟩).size ≤ 10000000 := by
      rw [size_data, joinB_data]
      exact texts_len (l.take i) (by rw [List.length_take]; omega) (fun x hx => hs x (List.mem_of_mem_take hx))
    have hrec := ih k (i + 1) (by omega) (by omega)
    rw [hnext] at hrec
    have happ := textP_app l[i]
    generalize l[i] = x at hrd hx hrec happ
    obtain ⟨f0, f1, f2⟩ := x
    unfold smallItem at hx
    simp only at hx happ
    have n0 := numB_size f0 hx.1
    have n1 := numB_size f1 hx.2.1
    have n2 := numB_size f2 hx.2.2
    have c1 : (⟨#[46]⟩ : ByteArray).size = 1 := rfl
    have c2 : (⟨#[44]⟩ : ByteArray).size = 1 := rfl
    have m0 := num_nat f0 hx.1 k (by omega)
    have m1 := num_nat f1 hx.2.1 k (by omega)
    have m2 := num_nat f2 hx.2.2 k (by omega)
    generalize hA : joinB ((l.take i).map textP) ⟨#[44]⟩ = acc at hs0 hrec ⊢
    generalize numB f0 = s0 at n0 m0 happ
    generalize numB f1 = s1 at n1 m1 happ
    generalize numB f2 = s2 at n2 m2 happ
    have t1 : s0.size + 1 ≤ 9223372036854775807 := by omega
    have t2 : (s0 ++ (⟨#[46]⟩ : ByteArray)).size + s1.size ≤ 9223372036854775807 := by rw [app_size]; omega
    have t3 : ((s0 ++ (⟨#[46]⟩ : ByteArray)) ++ s1).size + 1 ≤ 9223372036854775807 := by rw [app_size, app_size]; omega
    have t4 : (((s0 ++ (⟨#[46]⟩ : ByteArray)) ++ s1) ++ (⟨#[46]⟩ : ByteArray)).size + s2.size ≤ 9223372036854775807 := by rw [app_size, app_size, app_size]; omega
    have t5 : ((((s0 ++ (⟨#[46]⟩ : ByteArray)) ++ s1) ++ (⟨#[46]⟩ : ByteArray)) ++ s2).size ≤ 4000 := by rw [app_size, app_size, app_size, app_size]; omega
    rw [happ] at t5
    have t6 : (acc ++ (⟨#[44]⟩ : ByteArray)).size + (textP ⟨f0, f1, f2⟩).size ≤ 9223372036854775807 := by rw [app_size]; omega
    have t7 : acc.size + (textP ⟨f0, f1, f2⟩).size ≤ 9223372036854775807 := by omega
    rw [spec_suText.l0, if_pos (by omega), if_pos (by omega), if_pos (by omega), hrd]
    by_cases h0 : i = 0
    · rw [if_neg (by omega), m0, Option.bind_some, if_pos t1, m1, Option.bind_some, if_pos t2, if_pos t3, m2, Option.bind_some, if_pos t4, happ, if_pos t7, w64 (i := (i : Int) + 1) (by omega) (by omega), show (i : Int) + 1 = ((i + 1 : Nat) : Int) by omega]
      subst h0
      rw [List.take_zero, List.map_nil, List.nil_append] at hrec
      rw [← hA, List.take_zero, List.map_nil, show joinB [] (⟨#[44]⟩ : ByteArray) = (⟨#[]⟩ : ByteArray) from rfl, joinB_one ⟨#[44]⟩]
      exact hrec
    · rw [if_pos (by omega), if_pos (by omega), m0, Option.bind_some, if_pos t1, m1, Option.bind_some, if_pos t2, if_pos t3, m2, Option.bind_some, if_pos t4, happ, if_pos t6, w64 (i := (i : Int) + 1) (by omega) (by omega), show (i : Int) + 1 = ((i + 1 : Nat) : Int) by omega]
      rw [joinB_snoc _ _ _ (by
        intro h
        have := congrArg List.length h
        rw [List.length_map, List.length_take] at this
        have h2 : min i l.length = 0 := this
        omega), hA] at hrec
      exact hrec
theorem texts_both (l0 : List Item) (hn : l0.length ≤ 10000000) : ∃ r : ByteArray × Bool, Ev (fun k => spec_ItemsText.f k l0) r ∧ impl_ItemsText.f l0 = some r := by
  obtain ⟨b, hb⟩ : ∃ b, impl_AreItems.f l0 = some b := ⟨_, rfl⟩
  cases b with
  | true =>
    have hsm := good_small l0 hb
    refine ⟨(joinB (l0.map textP) ⟨#[44]⟩, true), ⟨l0.length + 3000, fun k hk => ?_⟩, ?_⟩
    · show spec_ItemsText.f k _ = _
      unfold spec_ItemsText.f spec_suText.f
      rw [suGood_eq l0 (by omega) k (by omega), hb, Option.bind_some, if_pos rfl]
      have h := scText_l0 l0 hsm.1 hsm.2 l0.length k 0 (by omega) (by omega)
      rw [List.take_zero, List.map_nil, Int.natCast_zero, show joinB [] (⟨#[44]⟩ : ByteArray) = (⟨#[]⟩ : ByteArray) from rfl] at h
      rw [h, Option.bind_some]
    · unfold impl_ItemsText.f
      rw [hb, Option.bind_some, if_pos rfl]
  | false =>
    refine ⟨(⟨#[]⟩, false), ⟨l0.length + 3000, fun k hk => ?_⟩, ?_⟩
    · show spec_ItemsText.f k _ = _
      unfold spec_ItemsText.f
      rw [suGood_eq l0 (by omega) k (by omega), hb, Option.bind_some, if_neg (by decide)]
    · unfold impl_ItemsText.f
      rw [hb, Option.bind_some, if_neg (by decide)]
end Go.Proofs.YtbpjgbiclpkdnaaDoor.Q

namespace Go.Proofs.YtbpjgbiclpkdnaaDoor.Q
open Go.RowKit Go.Proofs.YtbpjgbiclpkdnaaDoorW.PrintWords Go.Proofs.YtbpjgbiclpkdnaaDoorW.PrintLast Go.Proofs.YtbpjgbiclpkdnaaDoorW.PrintMore
set_option linter.unusedVariables false
set_option linter.unusedSimpArgs false

theorem Ev_from {α : Type} {g : Nat → Option α} {r : α} (N : Nat) (h : ∀ k, N < k → g k = some r) : Ev g r := ⟨N + 1, fun k hk => h k (by omega)⟩
theorem Ev_some {α : Type} (r : α) : Ev (fun _ => some r) r := Ev.now r
theorem eqIntS_ev (a : List Int) (h : a.length ≤ 10000000) : Ev (fun k => laws_eqIntS.f k a a) true := Ev_from a.length fun k hk => eqIntS_self a (by omega) k hk
theorem markIntS_ev (a : List Int) (h : a.length ≤ 10000000) (n : Int) (h0 : 0 ≤ n) (hn : n ≤ 10000000000) : Ev (fun k => laws_markIntS.f k a n) (n + (a.length : Int), marks n a.length) := Ev_from a.length fun k hk => markIntS_eq a n h0 (by omega) k hk
theorem heldIntS_ev (m : Nat) (h : m ≤ 10000000) (n : Int) (h0 : 0 ≤ n) (hn : n ≤ 10000000000) : Ev (fun k => laws_heldIntS.f k (marks n m) n) (n + (m : Int)) := Ev_from m fun k hk => heldIntS_eq m n h0 (by omega) k hk
/-- The two answers of one call. -/
theorem Ev_unique {α : Type} {g : Nat → Option α} {r s : α} (h : Ev g r) (h' : Ev g s) : r = s := by
  obtain ⟨K, h⟩ := h
  obtain ⟨K', h'⟩ := h'
  have a := h (max K K') (by omega)
  have b := h' (max K K') (by omega)
  rw [a] at b
  injection b
end Go.Proofs.YtbpjgbiclpkdnaaDoor.Q

namespace Go.Proofs.YtbpjgbiclpkdnaaDoor.Q
open Go.RowKit Go.Shelf Go.Proofs.YtbpjgbiclpkdnaaDoorW.PrintWords Go.Proofs.YtbpjgbiclpkdnaaDoorW.PrintLast Go.Proofs.YtbpjgbiclpkdnaaDoorW.PrintMore
set_option linter.unusedVariables false
set_option linter.unusedSimpArgs false

set_option maxRecDepth 100000 in
set_option maxHeartbeats 4000000 in
/-- The law itself, walked. -/
theorem law_calls (A0 : Option Addr) (c0 : Nat) (l0 : List S74) (W : World) (hr0 : Kd.C k74 W A0 l0.length l0) (hc0 : l0.length ≤ c0) (hm : l0.length * 24 ≤ 140737488351232) (hT : Tab W) :
    Calls Tryd.prog 7 #[.slice A0 l0.length c0] W fun e W' => e = .returned (.bool true) ∧ Below W.heap.size W W' := by
  by_cases hl : l0.length ≤ 1048576
  case neg =>
    have hsz := laws_szItemS.calls A0 c0 l0 1048576 _ W hr0 hc0 (szItemS_great l0 (by omega) (by omega))
    have HSZ := Aside0.mk hsz
    clear hsz hr0 hT
    go_enter Tryd.func7, Tryd.ntmps7
    go_wp2_with (go_at_call 27; refine HSZ.out.mono ?_; rintro e w1 ⟨rfl, hd⟩)
    go_ret
    exact ⟨rfl, hd.below⟩
  obtain ⟨xs, hxs⟩ : ∃ xs, l0.map cvItem = xs := ⟨_, rfl⟩
  have hxl : xs.length = l0.length := by rw [← hxs]; simp
  obtain ⟨⟨rs, rb⟩, hs, hi⟩ := texts_both xs (by omega)
  obtain ⟨k1, hs⟩ := hs
  obtain ⟨k3, ht⟩ := toItemS_ev l0 (by omega)
  obtain ⟨k4, he⟩ := eqItemS_ev xs (by omega)
  have hs := hs k1 (Nat.le_refl _)
  have ht := ht k3 (Nat.le_refl _)
  have he := he k4 (Nat.le_refl _)
  rw [hxs] at ht
  simp only at hs ht he
  have hsz := laws_szItemS.calls A0 c0 l0 1048576 _ W hr0 hc0 (szItemS_small l0 hl)
  have hct := fun W' (hb : Below W.heap.size W W') => laws_toItemS.calls k3 A0 c0 l0 xs W' (Kd.C_below hr0 hb) hc0 ht
  have hspec := fun (A : Option Addr) (c : Nat) (W' : World) (hC : Kd.C k65 W' A xs.length xs) (hc : xs.length ≤ c) => spec_ItemsText.calls k1 A c xs rs rb W' hC hc hs
  have himpl := fun (A : Option Addr) (c : Nat) (W' : World) (hb : Below W.heap.size W W') (hC : Kd.C k65 W' A xs.length xs) (hc : xs.length ≤ c) => impl_ItemsText_calls A c xs rs rb W' (tab_below hT hb) hC hc hi
  have heq := fun (A : Option Addr) (c : Nat) (A' : Option Addr) (c' : Nat) (W' : World) (hC : Kd.C k65 W' A xs.length xs) (hc : xs.length ≤ c) (hC' : Kd.C k65 W' A' xs.length xs) (hc' : xs.length ≤ c') => laws_eqItemS.calls k4 A c xs A' c' xs true W' hC hc hC' hc' he
  obtain ⟨z, hz⟩ : ∃ z : Int, (1048576 : Int) - (l0.length : Int) = z := ⟨_, rfl⟩
  have hz0 : ¬ z < 0 := by omega
  rw [hz] at hsz
  have hrb : (rb != rb) = false := by cases rb <;> rfl
  have HSZ := Aside0.mk hsz
  have HCT := Aside0.mk hct
  have HSP := Aside0.mk hspec
  have HIM := Aside0.mk himpl
  have HEQ := Aside0.mk heq
  clear hsz hct hspec himpl heq hs hi ht he hxs hxl hz hr0 hT
  go_enter Tryd.func7, Tryd.ntmps7
  go_wp2_with (go_at_call 27; refine HSZ.out.mono ?_; rintro e w1 ⟨rfl, hd⟩; have B1 := Aside0.mk hd.below; clear hd)
  go_wp2_with (go_at_call 29; refine (HCT.out w1 B1.out).mono ?_; rintro e w2 ⟨v2, rfl, hR2, hb2⟩; obtain ⟨A2, c2, hv2, hc2, hC2⟩ := Kd.R_reads hR2; subst hv2; have B2 := Aside0.mk (B1.out.trans (hb2.mono B1.out.size)); have C2 := Aside0.mk hC2; clear hR2 hb2 hC2)
  go_wp2_with (go_at_call 28; refine (HSP.out A2 c2 w2 C2.out hc2).mono ?_; rintro e w3 ⟨rfl, hb3⟩; have B3 := Aside0.mk (B2.out.trans (hb3.mono B2.out.size)); clear hb3)
  go_wp2_with (go_at_call 29; refine (HCT.out w3 B3.out).mono ?_; rintro e w4 ⟨v4, rfl, hR4, hb4⟩; obtain ⟨A4, c4, hv4, hc4, hC4⟩ := Kd.R_reads hR4; subst hv4; have B4 := Aside0.mk (B3.out.trans (hb4.mono B3.out.size)); have C4 := Aside0.mk hC4; clear hR4 hb4 hC4)
  go_wp2_with (go_at_call 30; refine (HIM.out A4 c4 w4 B4.out C4.out hc4).mono ?_; rintro e w5 ⟨rfl, hb5⟩; have E5 := Aside0.mk hb5; have B5 := Aside0.mk (B4.out.trans (hb5.mono B4.out.size)); clear hb5)
  go_wp2_with (go_at_call 29; refine (HCT.out w5 B5.out).mono ?_; rintro e w7 ⟨v7, rfl, hR7, hb7⟩; obtain ⟨A7, c7, hv7, hc7, hC7⟩ := Kd.R_reads hR7; subst hv7; have E7 := Aside0.mk (E5.out.trans (hb7.mono E5.out.size)); have B7 := Aside0.mk (B5.out.trans (hb7.mono B5.out.size)); have C7 := Aside0.mk hC7; clear hR7 hb7 hC7)
  go_wp2_with (go_at_call 16; refine (HEQ.out A4 c4 A7 c7 w7 (Kd.C_below C4.out E7.out) hc4 C7.out hc7).mono ?_; rintro e w8 ⟨rfl, hb8⟩; have B8 := Aside0.mk (B7.out.trans (hb8.mono B7.out.size)); clear hb8)
  go_ret
  exact ⟨rfl, B8.out⟩
end Go.Proofs.YtbpjgbiclpkdnaaDoor.Q

namespace Go.Proofs.YtbpjgbiclpkdnaaDoor.HO
open Go.ChangeShapes Go.WideShapes Go.Deep Go.RowKit Go.Proofs.YtbpjgbiclpkdnaaDoorW.PrintWords
set_option linter.unusedVariables false
section
variable {H : Type} {enc : TypeId × Value → H} {P : Program} {w : World} {base : Nat} {spare : Nat → Bool} {held : Bool}

/-- A slice of structs of n whole numbers each, opened: F i j is field j of element i. -/
theorem open_ints_struct {t e : TypeId} {fs : Array Field} {fuel : Nat} {cs : List Value} {x : DataW H × List MemPlace} (ht : P.underlying t = some (.slice e)) (he : P.underlying e = some (.struct fs))
    (hone : oneCellFields P fs = true) (hC : P.cellsOf e = fs.size) (hk : ∀ (j : Nat) (f : Field), fs[j]? = some f → P.underlying f.type = some (.int .i64)) (h : DataW.trod enc P w base spare held fuel t cs = some x) :
    (cs = [.slice none 0 0] ∧ x = (.nil, [])) ∨
    ∃ (a : Addr) (len cap : Nat) (F : Nat → Nat → Int) (el sp : List (DataW H)) (ps : List MemPlace), cs = [.slice (some a) len cap] ∧ len ≤ cap ∧ cap ≤ maxLen ∧ x = (.slice el sp, ps) ∧ el.length = len ∧
      ∀ i, i < len → ∀ j, j < fs.size → w.cell? (a.add (i * fs.size + j)) = some (.int .i64 (F i j)) ∧ (Lit.int .i64 (F i j)).wf = true := by
  rcases open_slice ht h with h0 | ⟨a, len, cap, m, n, D, Pl, hcs, hb, hl, hm, hmm, hx, hi⟩
  · exact .inl h0
  · have hlm : len ≤ m := by rw [hmm]; split <;> omega
    have key : ∀ i, i < len → ∃ G : Nat → Int, ∀ j, j < fs.size → w.cell? (a.add (i * fs.size + j)) = some (.int .i64 (G j)) ∧ (Lit.int .i64 (G j)).wf = true := fun i hil => by
      obtain ⟨cs', hc, ht'⟩ := hi i (by omega)
      rw [hC] at hc
      obtain ⟨ys, n', hn', hy, hlen, hyl, hf⟩ := DataW.trod_struct he ht'
      obtain ⟨_, hcl, hat⟩ := World.cells?_some hc
      refine choose_lt (α := Int) (p := fun j v => w.cell? (a.add (i * fs.size + j)) = some (.int .i64 v) ∧ (Lit.int .i64 v).wf = true) (fun j hj => ?_)
      have hfj : fs[j]? = some fs[j] := Array.getElem?_eq_getElem hj
      obtain ⟨ho, hk1⟩ := hone_of hone j _ hfj
      have hcell := hat j hj
      have hv : cs'[j]? = some (cs'[j]'(by omega)) := List.getElem?_eq_getElem (by omega)
      have h1 := hf j _ hfj
      rw [ho, hk1] at h1
      have hone' : (cs'.drop j).take 1 = [cs'[j]'(by omega)] := by
        rw [List.drop_eq_getElem_cons (by omega)]
        rfl
      rw [hone'] at h1
      have hys : ys[j]? = some (ys[j]'(by omega)) := List.getElem?_eq_getElem (by omega)
      obtain ⟨v, e0, _, wv⟩ := DataW.trod_int (hk j _ hfj) (h1.trans hys)
      refine ⟨v, ?_, wv⟩
      rw [← Go.Deep.add_add, hcell, hv]
      simp only [List.cons.injEq, and_true] at e0
      rw [e0]
    obtain ⟨F, hF⟩ := choose_lt (α := Nat → Int) (p := fun i G => ∀ j, j < fs.size → w.cell? (a.add (i * fs.size + j)) = some (.int .i64 (G j)) ∧ (Lit.int .i64 (G j)).wf = true) key
    exact .inr ⟨a, len, cap, F, _, _, _, hcs, hl, hm, hx, by simp, hF⟩

/-- The same of an argument: the numbers, and how many at most. -/
theorem open_structs {t e : TypeId} {fs : Array Field} {a : Option Addr} {len cap : Nat} {d : DataW H} {ps : List MemPlace} {ts : List TypeId} {ds : List (DataW H)} {j : Nat}
    (hsz : (DataW.weightsEach P ts ds).all (· ≤ reachBytes) = true) (htj : ts[j]? = some t) (hdj : ds[j]? = some d) (ht : P.underlying t = some (.slice e)) (he : P.underlying e = some (.struct fs))
    (hone : oneCellFields P fs = true) (hC : P.cellsOf e = fs.size) (hk : ∀ (j : Nat) (f : Field), fs[j]? = some f → P.underlying f.type = some (.int .i64)) {B : Nat} (hB : P.bytesOf e = B)
    (h : DataW.Trod enc P w base spare held t (.slice a len cap) d ps) :
    ∃ F : Nat → Nat → Int, len ≤ cap ∧ len ≤ maxLen ∧ len * B ≤ 140737488351232 ∧ (0 < len → ∃ ad, a = some ad ∧ ∀ i, i < len → ∀ j, j < fs.size → w.cell? (ad.add (i * fs.size + j)) = some (.int .i64 (F i j))) ∧ ∀ i, i < len → ∀ j, j < fs.size → (Lit.int .i64 (F i j)).wf = true := by
  obtain ⟨fuel, hf⟩ := h
  rcases open_ints_struct ht he hone hC hk hf with ⟨hcs, _⟩ | ⟨x, l, c, F, el, sp, ps', hcs, hl, hm, hx, hel, hF⟩
  · simp [Value.cells] at hcs
    obtain ⟨rfl, rfl, rfl⟩ := hcs
    exact ⟨fun _ _ => 0, by omega, by omega, by omega, fun h => absurd h (by omega), fun i hi => absurd hi (by omega)⟩
  · simp [Value.cells] at hcs
    obtain ⟨rfl, rfl, rfl⟩ := hcs
    obtain ⟨hx, _⟩ := Prod.mk.inj hx
    subst hx
    have z := sized_slice hsz htj hdj ht
    rw [hB, hel] at z
    refine ⟨F, hl, by omega, ?_, fun _ => ⟨x, rfl, fun i hi j hj => (hF i hi j hj).1⟩, fun i hi j hj => (hF i hi j hj).2⟩
    have : reachBytes = 140737488351232 := by decide
    rw [this] at z
    exact Nat.le_trans (Nat.mul_le_mul_right _ (by omega)) z

/-- A struct of two whole numbers, by value. -/
theorem open_pair {r : Reach} {b0 : Nat} {t : TypeId} {f0 f1 : Field} {v : Value} {d : DataW H} {p : List MemPlace} (hs : P.underlying t = some (.struct #[f0, f1])) (hone : oneCellFields P #[f0, f1] = true) (hC : P.cellsOf t = 2)
    (h0 : P.underlying f0.type = some (.int .i64)) (h1 : P.underlying f1.type = some (.int .i64)) (hv : Value.okWide P w r b0 t v) (h : DataW.Trod enc P w base spare held t v d p) :
    ∃ x y : Int, v = .agg #[.int .i64 x, .int .i64 y] ∧ p = [] ∧ (Lit.int .i64 x).wf = true ∧ (Lit.int .i64 y).wf = true := by
  obtain ⟨v0, v1, y0, y1, n, rfl, rfl, rfl, g0, g1⟩ := Go.Joins.open_agg2 hs hone hC hv h
  obtain ⟨x, e0, rfl, w0⟩ := DataW.trod_int h0 g0
  obtain ⟨y, e1, rfl, w1⟩ := DataW.trod_int h1 g1
  simp only [List.cons.injEq, and_true] at e0 e1
  subst e0 e1
  exact ⟨x, y, rfl, rfl, w0, w1⟩
end
end Go.Proofs.YtbpjgbiclpkdnaaDoor.HO

namespace Go.Proofs.YtbpjgbiclpkdnaaDoor.fnExactItemsText
open Go Go.ChangeShapes Go.WideShapes Go.ChangeAt Go.RowKit Go.Proofs.YtbpjgbiclpkdnaaDoorW Go.Proofs.YtbpjgbiclpkdnaaDoorW.PrintWords
open Go.ChangeMaps (open_string shut_string)
set_option linter.unusedVariables false
theorem own : ownKnob Tryd.prog.godebug = none := by kernel_rfl
theorem laidOut : laidOutB Tryd.prog = true := by kernel_rfl
theorem mk_C74 {w : World} {A : Option Addr} {n : Nat} {F : Nat → Nat → Int} (hn : n ≤ maxLen) (h : 0 < n → ∃ ad, A = some ad ∧ ∀ i, i < n → ∀ j, j < 3 → w.cell? (ad.add (i * 3 + j)) = some (.int .i64 (F i j))) (hw : ∀ i, i < n → ∀ j, j < 3 → (Lit.int .i64 (F i j)).wf = true) :
    ∃ l : List Q.S74, l.length = n ∧ Kd.C Q.k74 w A l.length l ∧ ∀ x ∈ l, (Lit.int .i64 x.f0).wf = true ∧ (Lit.int .i64 x.f1).wf = true ∧ (Lit.int .i64 x.f2).wf = true := by
  refine ⟨(List.range n).map fun i => ⟨F i 0, F i 1, F i 2⟩, by simp, ⟨rfl, by unfold maxLen at hn; simp; omega, fun h0 => ?_⟩, fun x hx => ?_⟩
  · rw [List.length_map, List.length_range] at h0
    obtain ⟨ad, ha, hc⟩ := h h0
    refine ⟨ad, ha, fun j p hj => ?_⟩
    rw [List.getElem?_map] at hj
    obtain ⟨i, hi, rfl⟩ := Option.map_eq_some_iff.1 hj
    have hji : j < n := by have := (List.getElem?_eq_some_iff.1 hi).1; simpa using this
    have hij : i = j := by rw [List.getElem?_range hji] at hi; injection hi with hi; exact hi.symm
    subst hij
    refine ⟨[.int .i64 (F i 0), .int .i64 (F i 1), .int .i64 (F i 2)], rfl, Q.k74_mk w _, fun q u hq => ?_⟩
    match q, hq with
    | 0, hq => injection hq with hq; subst hq; exact hc i hji 0 (by omega)
    | 1, hq => injection hq with hq; subst hq; exact hc i hji 1 (by omega)
    | 2, hq => injection hq with hq; subst hq; exact hc i hji 2 (by omega)
    | q + 3, hq => simp at hq
  · rw [List.mem_map] at hx
    obtain ⟨i, hi, rfl⟩ := hx
    rw [List.mem_range] at hi
    exact ⟨hw i hi 0 (by omega), hw i hi 1 (by omega), hw i hi 2 (by omega)⟩
set_option maxRecDepth 100000 in
theorem lifted (os : Os) (started : os.Started) (H : Type) (enc : TypeId × Value → H) :
    ReturnsInHanded {} Tryd.checked os 7 .any (fun w args => (Rows.fnExactItemsTextSpec.pre enc Tryd.prog Tryd.f7 [] false w args ∧ laidMetH Tryd.prog Rows.fnExactItemsTextRow.laid w) ∧ sizedMet enc Tryd.prog Tryd.f7 (OpenSpec.ofChange Rows.fnExactItemsTextSpec) false w args)
      (Rows.fnExactItemsTextSpec.post enc Tryd.prog Tryd.f7 false true false false) := by
  refine returnsInHanded_of_change_and (C := Tryd.checked) (X := fun w _ => laidMetH Tryd.prog Rows.fnExactItemsTextRow.laid w) (fun _ _ _ hh h => h.of_heap hh) own started (by kernel_rfl) Tryd.func7
    (ChangeSpec.witness_shaped (enc := enc) (C := Tryd.checked) (os := os) (X := fun w _ => laidMetH Tryd.prog Rows.fnExactItemsTextRow.laid w) false (World.laidAll Tryd.prog os Rows.fnExactItemsTextRow.laid) #[.slice none 0 0] 8 (World.laidAll_os _ _ _)
      (World.shaped_of_ZipB (by kernel_rfl) (by kernel_rfl)) (by kernel_rfl) (by kernel_rfl) (by kernel_rfl)
      (by rw [MakeChecks.laidMetH_plain _ _ _ (by kernel_rfl)]; exact laidMet_laidAll _ (by kernel_rfl) (by kernel_rfl))) ?_
  intro W base args ds gs before hval0 hW hcnd hsz0 hL _
  have hsz : (DataW.weightsEach Tryd.prog (Tryd.f7.params.toList ++ Rows.fnExactItemsTextSpec.plain.varTypes Tryd.prog) (ds ++ gs)).all (· ≤ reachBytes) = true := hsz0
  have hval : ∀ (j : Nat) t v, Tryd.f7.params[j]? = some t → args[j]? = some v → Value.okWide Tryd.prog W .any base t v := hval0
  have hW' := hW
  obtain ⟨p, q, hA0, hV, rfl, hfz, hnd⟩ := hW
  have hA : DataW.TrodAll enc Tryd.prog W 0 (fun _ => true) true Tryd.f7.params.toList args.toList ds p := hA0
  rw [Tryd.params7] at hA hval hsz
  obtain ⟨v0, vs0, d0, ds0, p0, q0, hargs, rfl, rfl, h0, r0⟩ := trodAll_cons hA
  obtain ⟨rfl, rfl, rfl⟩ := trodAll_nil r0
  obtain rfl : args = #[v0] := by cases args; simp_all
  obtain ⟨rfl, rfl⟩ := trodVars_none hV
  obtain ⟨a0, len0, cap0, rfl⟩ := okWide_slice Tryd.underlying44 (hval 0 44 v0 rfl rfl)
  have k0 := h0
  have lt0 : ∀ x ∈ p0, x.block < W.heap.size := by obtain ⟨m, hm⟩ := k0; exact DataW.trod_lt m _ _ _ hm
  obtain ⟨F0, hc0, hm0, y0, hcell0, hw0⟩ := HO.open_structs (j := 0) (t := 44) (B := 24) hsz rfl rfl Tryd.underlying44 Tryd.underlying74 (by kernel_rfl) (by kernel_rfl) (fun j f hj => by
    have hj3 : j < 3 := (Array.getElem?_eq_some_iff.1 hj).1
    match j, hj3 with
    | 0, _ => injection hj with hj; subst hj; exact Tryd.underlying3
    | 1, _ => injection hj with hj; subst hj; exact Tryd.underlying3
    | 2, _ => injection hj with hj; subst hj; exact Tryd.underlying3
    ) (by kernel_rfl) h0
  obtain ⟨l0, hl0, hr0, hz0⟩ := mk_C74 hm0 hcell0 hw0
  subst hl0
  clear hA0 hval0 hsz0 hsz
  refine (Q.law_calls _ _ l0 W hr0 hc0 y0 (by rw [MakeChecks.laidMetH_plain _ _ _ (by kernel_rfl)] at hL; exact Q.tab_of hL)).mono fun e W' ⟨he, bel⟩ => ?_
  subst he
  exact ⟨_, rfl, _, _, _, [], _, [], hW', trodAll_mk1 (shut_bool Tryd.underlying4 _), (trodAll_cons_mk (Below.trod laidOut (by kernel_rfl) (of_decide_eq_true (by kernel_rfl)) k0 bel lt0) trodAll_mk0), rfl, bel.frame _, fun h => by cases h⟩
theorem over : Rows.fnExactItemsTextRow.holds Tryd.pinned (OpenSpec.ofChange Rows.fnExactItemsTextSpec) :=
  OpenClaim.holds_of_wide 7 Tryd.f7 rfl rfl rfl rfl rfl rfl rfl ⟨rfl, rfl, rfl, rfl, rfl⟩ rfl rfl rfl rfl rfl (by kernel_rfl) Tryd.func7 (by kernel_rfl)
    (of_decide_eq_true (by kernel_rfl)) (by unfold Func.isWrapper; first | (rw [if_pos (by decide +kernel)]; kernel_rfl) | (rw [if_neg (by decide +kernel)]; exact ⟨rfl, rfl⟩))
    (fun os started H enc _ => lifted os started H enc)
theorem proved : Rows.FnExactItemsTextCardSaid :=
  Claim7.holds_tied_plain_at .later [] [.data, .data, .data] true (true, "63dd048b453df939eb45cee5d520d399bb72efcdd51adc626e9296a8de6563f8") true
    over (fun _ h => by cases h) (by kernel_rfl) (fun _ h => by cases h) fnExactItemsText_row_tie rfl ⟨rfl, rfl⟩ (by kernel_rfl) rfl
    (fun f fn hf hfn => by
      obtain rfl : f = 7 := Option.some.inj ((show Tryd.prog.funcNamed "loop.example/g01334/laws.FnExactItemsText" = some 7 by kernel_rfl).symm.trans hf) |>.symm
      obtain rfl : fn = Tryd.f7 := (Option.some.inj (Tryd.func7.symm.trans hfn)).symm
      exact ⟨by kernel_rfl, fun j t ht => by
        rw [Tryd.params7] at ht
        have h3 : t = 44 := by
          rcases j with _ | j
          · simpa using ht.symm
          · simp at ht
        subst h3
        exact (show Tryd.prog.wantsStandIn 44 = false by kernel_rfl)⟩)
    (by kernel_rfl)
#print axioms proved
end Go.Proofs.YtbpjgbiclpkdnaaDoor.fnExactItemsText
namespace Go.Proofs.YtbpjgbiclpkdnaaDoor
/-- The card, under a short name, for the claim. -/
theorem fnExactItemsText_holds : Rows.FnExactItemsTextCardSaid := fnExactItemsText.proved
end Go.Proofs.YtbpjgbiclpkdnaaDoor
