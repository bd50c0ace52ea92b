/-
  PROVED: for all arguments, the program's LeastWaste returns what the reference's returns; the arguments read behind the call as before.
  CONDITIONS: none beyond the statement's own.
-/
import Derived.Test.YtfhaclkjiolmjaaZFnExactLeastWaste1
import Derived.Test.YtfhaclkjiolmjaaZFnExactLeastWaste3
import Derived.Test.YtfhaclkjiolmjaaZFnExactLeastWaste2
import Derived.Deep.Slices
import Derived.Deep.Fields
import Derived.ChangeSame
import Derived.SizedLaws
import Derived.ChangeSlices
import Derived.Lib.SmallJoins
import Derived.Test.YtfhaclkjiolmjaaWWords
import Derived.Test.YtfhaclkjiolmjaaRows
import Derived.WalkKit
import Derived.ProofKit
import Derived.OpenShut
import Derived.ShutString
import Derived.ChangeOld
import Derived.Below
import Derived.Test.YtfhaclkjiolmjaaWSized
namespace Go.Proofs.Ytfhaclkjiolmjaa.Q
open Go.RowKit Go.Proofs.YtfhaclkjiolmjaaW.PrintWords Go.Proofs.YtfhaclkjiolmjaaW.PrintLast Go.Proofs.YtfhaclkjiolmjaaW.PrintMore
attribute [local go_sem] max2_int min2_int max_two min_two max_three min_three max_four min_four   -- for this text's walks alone
set_option linter.unusedVariables false
set_option linter.unusedSimpArgs false

/-! ### laws_toIntSS: function 23 -/
def laws_toIntSS.l0 : Nat → List (List Int) → List (List Int) → Int → Option ((List (List Int)))
  | 0, _, _, _ => none
  | k + 1, x0, x3, x4 => if x4 < (x0.length : Int) then (if 0 ≤ x4 then ((laws_toIntS.f k (rd_L1 x0 x4)).bind fun t231 => (if x4 < (x3.length : Int) then (laws_toIntSS.l0 k x0 (x3.set (x4 : Int).toNat t231) (wrap64 (x4 + 1))) else (none))) else (none)) else (some x3)
def laws_toIntSS.f (k : Nat) (l0 : List (List Int)) : Option ((List (List Int))) := if 0 ≤ (l0.length : Int) then (if ((l0.length : Int) : Int).toNat ≤ 11728124029610 then (laws_toIntSS.l0 k l0 (List.replicate ((l0.length : Int) : Int).toNat []) 0) else (none)) else (none)
theorem laws_toIntSS.mono_l : ∀ k, (∀ y0 y1 y2, LeO (laws_toIntSS.l0 k y0 y1 y2) (laws_toIntSS.l0 (k + 1) y0 y1 y2))
  | 0 => fun _ _ _ r h => by simp [laws_toIntSS.l0] at h
  | k + 1 => by
    have ih0 := laws_toIntSS.mono_l k
    · intro y0 y1 y2
      unfold laws_toIntSS.l0
      repeat' first
      | (with_reducible exact ih0 _ _ _)
      | (with_reducible exact laws_toIntS.mono _ _)
      | (with_reducible exact LeO.refl _)
      | (with_reducible exact LeO.none _)
      | (with_reducible refine LeO.ite ?_ ?_)
      | (with_reducible refine LeO.bind ?_ (fun _ => ?_))
      | exact ih0 _ _ _
      | exact laws_toIntS.mono _ _
      | exact LeO.none _
      | refine LeO.ite ?_ ?_
      | refine LeO.bind ?_ (fun _ => ?_)
theorem laws_toIntSS.mono : ∀ a0 k, LeO (laws_toIntSS.f k a0) (laws_toIntSS.f (k + 1) a0) := by
  intro a0 k
  have ih0 := laws_toIntSS.mono_l k
  unfold laws_toIntSS.f
  repeat' first
      | (with_reducible exact ih0 _ _ _)
      | (with_reducible exact laws_toIntS.mono _ _)
      | (with_reducible exact LeO.refl _)
      | (with_reducible exact LeO.none _)
      | (with_reducible refine LeO.ite ?_ ?_)
      | (with_reducible refine LeO.bind ?_ (fun _ => ?_))
      | exact ih0 _ _ _
      | exact laws_toIntS.mono _ _
      | exact LeO.none _
      | refine LeO.ite ?_ ?_
      | refine LeO.bind ?_ (fun _ => ?_)
set_option maxHeartbeats 8000000 in
set_option maxRecDepth 100000 in
theorem laws_toIntSS.calls (k : Nat) (A0 : Option Addr) (c0 : Nat) (l0 : List (List Int)) (r : List (List Int)) (w : World) (hr0 : Kd.C (Kd.slice 3 (Kd.int .i64)) w A0 l0.length l0) (hc0 : l0.length ≤ c0) (h : laws_toIntSS.f k l0 = some r) :
    Calls Try.prog 23 #[.slice A0 l0.length c0] w fun e w' => ∃ v0_ : Value, e = .returned (v0_) ∧ Kd.S (Kd.slice 3 (Kd.int .i64)) 22 w' w.heap.size (fun _ => True) v0_ r ∧ Below w.heap.size w w' := by
  have HR0 := Aside0.mk hr0
  have HC0 := Aside0.mk hc0
  clear hr0 hc0
  have HB := Aside0.mk (Below.refl w.heap.size w)
  have H : (if 0 ≤ (l0.length : Int) then (if ((l0.length : Int) : Int).toNat ≤ 11728124029610 then (laws_toIntSS.l0 k l0 (List.replicate ((l0.length : Int) : Int).toNat []) 0) else (none)) else (none)) = some r := h
  clear h
  by_cases c2 : 0 ≤ (l0.length : Int)
  · rw [if_pos c2] at H
    have c2b0 := eq_true c2
    have c2b1 : decide (0 ≤ (l0.length : Int)) = true := decide_eq_true c2
    clear c2
    by_cases c3 : ((l0.length : Int) : Int).toNat ≤ 11728124029610
    · rw [if_pos c3] at H
      have c3b0 := eq_true c3
      have c3b1 : decide (((l0.length : Int) : Int).toNat ≤ 11728124029610) = true := decide_eq_true c3
      clear c3
      obtain ⟨y227, hy227⟩ : ∃ y_ : List (List Int), y_ = (List.replicate ((l0.length : Int) : Int).toNat []) := ⟨_, rfl⟩
      replace H : (laws_toIntSS.l0 k l0 y227 0) = some r := by first | (rw [hy227]; with_reducible exact H) | (have H2_ := (Option.bind_some _ _).symm.trans H; rw [hy227]; with_reducible exact H2_) | (have H2_ := (Option.bind_some _ _).symm.trans H; with_reducible exact H2_) | with_reducible exact H | (rw [hy227]; exact H) | exact H
      have Ny227 := Aside0.mk hy227
      clear hy227
      have H' := Aside0.mk H
      clear H
      go_enter Try.func23, Try.ntmps23
      go_wp2_with (first | ((with_reducible refine gate_dst (N := 7) rfl ?_); refine Kd.S_make (Kd.slice 3 (Kd.int .i64)) _ 22 rfl (N := 7) rfl 29 _ _ rfl (l0.length : Int) rfl rfl Try.underlying29 (.slice none 0 0) 24 info22 rfl (by decide) (by omega) [] (ok := fun _ => True) (okp := fun _ => True) ⟨_, rfl, Kd.R_nil _ _ _ _ _⟩ (fun _ hk => hk) trivial (of_decide_eq_true (by first | (with_reducible assumption) | assumption)) (Nat.le_trans (Nat.mul_le_mul_right _ (of_decide_eq_true (by first | (with_reducible assumption) | assumption) : (l0.length : Int).toNat ≤ 11728124029610)) (by omega)) (Below.refl _ _) (Nat.le_refl _) ?_; intro v228 w4 ho5 hb hg_ hnew_; clear hg_ hnew_; (first | rw [← Ny227.out] at ho5 | (simp only [Int.reduceToNat] at ho5; rw [← Ny227.out] at ho5)); have n0_ := Aside0.mk (Kd.S_lower ho5 (below_size (by repeat (first | (with_reducible first | exact HB.out | apply below_alloc | apply pw_below_drewN | apply below_drew1) | exact HB.out)))); have n1_ := Aside0.mk (below_step (by repeat (first | (with_reducible first | exact HB.out | apply below_alloc | apply pw_below_drewN | apply below_drew1) | exact HB.out)) hb); clear HB; have HO229 := n0_; have HB := n1_; clear n0_ n1_; clear hb ho5))
      go_loopg [4] k (fun kq v4 w' => ∃ (x3_1 : List (List Int)) (x4_1 : Int), v4 = .int .i64 x4_1 ∧ Aside0 (laws_toIntSS.l0 kq l0 x3_1 x4_1 = some r) ∧ Aside0 (kq ≤ k) ∧ Aside0 (Kd.S (Kd.slice 3 (Kd.int .i64)) 22 w' w.heap.size (fun _ => True) v228 x3_1) ∧ Aside0 (Below w.heap.size w w'))
      case atStart => exact ⟨(y227), (0), (by first | rfl | (simp; done) | (simp [*]; done)), H', ⟨Nat.le_refl _⟩, ⟨by (with_reducible repeat (first | apply Kd.S_alloc | apply Kd.S_drewN | apply Kd.S_drew)); exact HO229.out⟩, ⟨by repeat (first | (with_reducible first | exact HB.out | apply below_alloc | apply pw_below_drewN | apply below_drew1) | exact HB.out)⟩⟩
      case round =>
        clear H'
        try clear c2
        try clear c2b0
        try clear c2b1
        try clear p2
        try clear c3
        try clear c3b0
        try clear c3b1
        obtain ⟨x3_1, x4_1, rfl, HA, HK1, HO_3, HB⟩ := hrel
        cases gk with
        | zero => exact absurd HA.out (by simp [laws_toIntSS.l0])
        | succ k1 =>
          have H := HA.out
          clear HA
          simp only [laws_toIntSS.l0] at H
          by_cases c6 : x4_1 < (l0.length : Int)
          · rw [if_pos c6] at H
            have c6b0 : decide (x4_1 < (l0.length : Int)) = true := decide_eq_true c6
            clear c6
            by_cases c7 : 0 ≤ x4_1
            · rw [if_pos c7] at H
              have c7b0 : decide (0 ≤ x4_1) = true := decide_eq_true c7
              clear c7
              replace H := Option.bind_eq_some_iff.mp H
              obtain ⟨t231, A80, H⟩ := H
              replace H : (if x4_1 < (x3_1.length : Int) then (laws_toIntSS.l0 k1 l0 (x3_1.set (x4_1 : Int).toNat t231) (wrap64 (x4_1 + 1))) else (none)) = some r := H
              have A8 := Aside0.mk A80
              clear A80
              by_cases c9 : x4_1 < (x3_1.length : Int)
              · rw [if_pos c9] at H
                have c9b0 : decide (x4_1 < (x3_1.length : Int)) = true := decide_eq_true c9
                clear c9
                obtain ⟨y234, hy234⟩ : ∃ y_ : List (List Int), y_ = (x3_1.set (x4_1 : Int).toNat t231) := ⟨_, rfl⟩
                replace H : (laws_toIntSS.l0 k1 l0 y234 (wrap64 (x4_1 + 1))) = some r := by first | (rw [hy234]; with_reducible exact H) | (have H2_ := (Option.bind_some _ _).symm.trans H; rw [hy234]; with_reducible exact H2_) | (have H2_ := (Option.bind_some _ _).symm.trans H; with_reducible exact H2_) | with_reducible exact H | (rw [hy234]; exact H) | exact H
                have Ny234 := Aside0.mk hy234
                clear hy234
                have H' := Aside0.mk H
                clear H
                have p230 : 0 ≤ (x4_1 : Int) := of_decide_eq_true (by first | (with_reducible assumption) | assumption)
                have q230 : x4_1 < (l0.length : Int) := of_decide_eq_true (by first | (with_reducible assumption) | assumption)
                obtain ⟨ad230, A230_0, c230_0, e230, hx230_0, hl230_0, hi230_0⟩ := at_L1 HR0.out x4_1 p230 q230
                cases e230
                replace hx230_0 := (HB.out.cell (World.block_lt_of_cell? w _ hx230_0)).trans hx230_0
                have HR230_0 := Aside0.mk hi230_0
                have HC230_0 := Aside0.mk hl230_0
                clear hi230_0 hl230_0
                replace p230 := eq_true p230
                replace q230 := eq_true q230
                go_wp2_with (first | ((with_reducible refine gate_callee (f := 11) rfl ?_); refine goesL_ (some 20) rfl rfl Try.func11 (by kernel_rfl) rfl #[.slice A230_0 (rd_L1 l0 x4_1).length c230_0] rfl (by (try simp only [List.map_toArray, List.map_cons, List.map_nil]); first | done | rfl | (simp only [List.length_drop, List.length_take]; rfl)) ?_; (with_reducible refine (laws_toIntS.calls k1 _ _ (rd_L1 l0 x4_1) t231 _ ?side1 ?side2 A8.out).mono ?_); (case side1 => repeat (first | exact (Kd.C_below HR230_0.out HB.out) | (with_reducible refine Kd.C_alloc ?_ _) | (with_reducible refine Kd.C_drewN ?_ _) | (with_reducible refine Kd.C_drew ?_))); (case side2 => exact HC230_0.out); rintro e w11 ⟨v232, rfl, ho0, hb⟩; refine ⟨_, rfl, ?_⟩; obtain ⟨A232, c232, rfl⟩ := Kd.R_slice ho0; have n0_ := Aside0.mk (Kd.S_elder' (by (with_reducible repeat (first | apply Kd.S_alloc | apply Kd.S_drewN | apply Kd.S_drew)); exact HO_3.out) (Kd.R_base ho0) hb); have n1_ := Aside0.mk (Kd.R_lower ho0 (below_size (by repeat (first | (with_reducible first | exact HB.out | apply below_alloc | apply pw_below_drewN | apply below_drew1) | exact HB.out)))); have n2_ := Aside0.mk (below_step (by repeat (first | (with_reducible first | exact HB.out | apply below_alloc | apply pw_below_drewN | apply below_drew1) | exact HB.out)) hb); clear HO_3; clear HB; have HO_3 := n0_; have HO233 := n1_; have HB := n2_; clear n0_ n1_ n2_; (try clear hb); (try clear hb2); (try clear hk); (try clear hi); (try clear ho0); have p10 : 0 ≤ (x4_1 : Int) := of_decide_eq_true (by first | (with_reducible assumption) | assumption); have q10 : (x4_1 : Int) < ((x3_1.length : Int) : Int) := of_decide_eq_true (by first | (with_reducible assumption) | assumption); obtain ⟨go10, co10, eo10, gb10, gl10, cl10, HG10⟩ := Kd.S_form HO_3.out (by omega); (first | cases eo10 | (injection eo10 with ea_ en_ ec_; (first | subst ea_ | (injection ea_ with ea_; subst ea_)); subst ec_; clear en_)); have GB10 := Aside0.mk gb10; have GG10 := Aside0.mk HG10; clear gb10 gl10 HG10; obtain ⟨_, ce10, hcl10, hM10, hcc10, hfr10, _, _⟩ := Kd.S_elem HO_3.out [] (x4_1 : Int) p10 q10; obtain ⟨ve10_0, rfl, ge10_0⟩ := hM10; have hx10_0 := hcc10 0 _ rfl; have hf10_0 := hfr10 0; (try simp only [show ((Kd.slice 3 (Kd.int .i64))).sz = 1 from rfl, Nat.mul_one, Nat.add_zero] at hx10_0); (try simp only [show ((Kd.slice 3 (Kd.int .i64))).sz = 1 from rfl, Nat.mul_one, Nat.add_zero] at hf10_0); (try clear hcl10); (try clear hcc10); (try clear hfr10); (try clear hM10); replace p10 := eq_true p10; replace q10 := eq_true q10; have n_ := Aside0.mk (Kd.S_mono (ok' := (fun k_ => some k_ ≠ (Value.slice A232 t231.length c232).ownBlock)) HO_3.out (fun k_ hk => hk.2)); clear HO_3; have HO_3 := n_; clear n_; have HX12 := Aside0.mk (show Kd.S (Kd.slice 3 (Kd.int .i64)) 22 w11 w.heap.size (fun k_ => ((fun _ => True)) k_ ∧ ¬ ((fun k_ => some k_ = (Value.slice A232 t231.length c232).ownBlock)) k_) (.slice (some ⟨go10, 0, none⟩) x3_1.length co10) x3_1 from (by (with_reducible repeat (first | apply Kd.S_alloc | apply Kd.S_drewN | apply Kd.S_drew)); exact Kd.S_mono HO_3.out (fun k_ hk => ⟨trivial, fun e_ => hk e_⟩))); obtain ⟨oki12, ce12, hcl12, hM12, hcc12, hfr12, hoki12, hH12⟩ := Kd.S_elem HX12.out [] (x4_1 : Int) (of_decide_eq_true (by first | (with_reducible assumption) | assumption)) (by have h_ : (x4_1 : Int) < ((x3_1.length : Int) : Int) := of_decide_eq_true (by first | (with_reducible assumption) | assumption); first | exact h_ | (have e_ := (Kd.S_reads' HO_3.out).1; omega) | simpa using h_); obtain ⟨ve12_0, rfl, ge12_0⟩ := hM12; have HP12 := Kd.S_seg hH12 (of_decide_eq_true (by first | (with_reducible assumption) | assumption)) (by have h_ : (x4_1 : Int) < ((x3_1.length : Int) : Int) := of_decide_eq_true (by first | (with_reducible assumption) | assumption); first | exact h_ | (have e_ := (Kd.S_reads' HO_3.out).1; omega) | simpa using h_) (seg := [(Value.slice A232 t231.length c232)]) (j := 0) (show 1 ≤ 1 from by decide) (x' := t231) (Kd.M_row (Kd.R_mono (Kd.R_tight rfl (Kd.R_mono (ok' := fun k_ => ((fun _ => True)) k_ ∧ k_ ≠ go10) (Kd.R_apart' (HO233.out) (Kd.S_typed HO_3.out) (by decide)) (fun k_ hk => ⟨trivial, fun e_ => (hk.2) (by rw [e_]; rfl)⟩))) (fun _ h_ => Or.inr (h_)))) (fun _ hk => hk) (fun k_ hk_ => ((Kd.R_mono (ok' := fun k_ => ((fun _ => True)) k_ ∧ k_ ≠ go10) (Kd.R_apart' (HO233.out) (Kd.S_typed HO_3.out) (by decide)) (fun k_ hk => ⟨trivial, fun e_ => (hk.2) (by rw [e_]; rfl)⟩))).1 k_ hk_.symm); have hx12_0 := hcc12 0 _ rfl; (try simp only [show ((Kd.slice 3 (Kd.int .i64))).sz = 1 from rfl, Nat.mul_one, Nat.add_zero] at hx12_0); have hf12_0 := hfr12 0; (try simp only [show ((Kd.slice 3 (Kd.int .i64))).sz = 1 from rfl, Nat.mul_one, Nat.add_zero] at hf12_0); (try clear hcl12); (try clear hcc12); (try clear hfr12); (try clear hM12); (try clear hoki12); (try clear hH12); (try simp only [show ((Kd.slice 3 (Kd.int .i64))).sz = 1 from rfl, Nat.mul_one, Nat.add_zero] at HP12)) | ((with_reducible refine gate_store (t := 22) (p := 21) rfl ?_); refine store_event (t := 22) (p := 21) (v := ?vo_w13) (w1 := (w11.setCell ⟨go10, (x4_1 : Int).toNat, none⟩ (Value.slice A232 t231.length c232))) ?hg ?ho ?hn ?hr ?_; (case ho => rfl); (case hg => rfl); (case hn => rfl); (case hr => first | (go_simp; done) | (go_simp; rfl)); intro w13 hw; have hg : w11.grownBy w13 (some go10) := (by rw [hw]; exact HP12.2); have hp_ : Kd.S (Kd.slice 3 (Kd.int .i64)) 22 w13 w.heap.size (fun _ => True) (.slice (some ⟨go10, 0, none⟩) x3_1.length co10) y234 := (by rw [hw, Ny234.out]; exact HP12.1); clear HP12; have n0_ := Aside0.mk (hp_); have n1_ := Aside0.mk ((by rw [hw]; exact below_set (HB.out) GB10.out : Below w.heap.size w w13)); clear HO_3; clear HB; clear HO233; have HO_3 := n0_; have HB := n1_; clear n0_ n1_; clear hg hw hp_))
                go_roundg k1
                case measure => have := HK1.out; omega
                case rel => exact ⟨(y234), (wrap64 (x4_1 + 1)), (by first | rfl | (simp; done) | (simp [*]; done)), H', ⟨by have := HK1.out; omega⟩, ⟨by (with_reducible repeat (first | apply Kd.S_alloc | apply Kd.S_drewN | apply Kd.S_drew)); exact HO_3.out⟩, ⟨by repeat (first | (with_reducible first | exact HB.out | apply below_alloc | apply pw_below_drewN | apply below_drew1) | exact HB.out)⟩⟩
              · rw [if_neg c9] at H
                exact absurd H (by simp)
            · rw [if_neg c7] at H
              exact absurd H (by simp)
          · rw [if_neg c6] at H
            have c6b0 : decide (x4_1 < (l0.length : Int)) = false := decide_eq_false c6
            clear c6
            obtain rfl := Option.some.inj H
            go_wp2
            go_ret
            exact ⟨_, by first | rfl | (simp [errW_none, errW_some] <;> rfl) | (simp [*, errW_none, errW_some] <;> rfl), by (with_reducible repeat (first | apply Kd.S_alloc | apply Kd.S_drewN | apply Kd.S_drew)); exact HO_3.out, by repeat (first | (with_reducible first | exact HB.out | apply below_alloc | apply pw_below_drewN | apply below_drew1) | exact HB.out)⟩
    · rw [if_neg c3] at H
      exact absurd H (by simp)
  · rw [if_neg c2] at H
    exact absurd H (by simp)

end Go.Proofs.Ytfhaclkjiolmjaa.Q

namespace Go.Proofs.Ytfhaclkjiolmjaa.Q
open Go.RowKit Go.Proofs.YtfhaclkjiolmjaaW.PrintWords Go.Proofs.YtfhaclkjiolmjaaW.PrintLast Go.Proofs.YtfhaclkjiolmjaaW.PrintMore
set_option linter.unusedVariables false
set_option linter.unusedSimpArgs false

def okC (zs : List Int) : Bool := zs.all fun n => decide (0 ≤ n) && decide (n ≤ 6)
theorem in_eq (n lo hi : Int) : spec_l1In.f n lo hi = some (decide (lo ≤ n) && decide (n ≤ hi)) := by
  unfold spec_l1In.f
  by_cases h : lo ≤ n <;> simp [h]
theorem all_l0 (zs : List Int) (hn : zs.length ≤ 1000000000) : ∀ d k i, i + d = zs.length → d < k → spec_l1All.l0 k 0 6 zs (zs.length : Int) (i : Int) = some (okC (zs.drop i)) := by
  intro d
  induction d with
  | zero =>
    intro k i hi hk
    obtain ⟨k, rfl⟩ : ∃ m, k = m + 1 := ⟨k - 1, by omega⟩
    rw [spec_l1All.l0, if_neg (by omega), List.drop_of_length_le (by omega)]; rfl
  | succ d ih =>
    intro k i hi hk
    obtain ⟨k, rfl⟩ : ∃ m, k = m + 1 := ⟨k - 1, by omega⟩
    have hlt : i < zs.length := by omega
    rw [spec_l1All.l0, if_pos (by omega), if_pos (by omega), if_pos (by omega), rd_nat zs i hlt, in_eq, Option.bind_some, w64 (i := (i : Int) + 1) (by omega) (by omega), show (i : Int) + 1 = ((i + 1 : Nat) : Int) by omega, ih k (i + 1) (by omega) (by omega), List.drop_eq_getElem_cons hlt]
    unfold okC
    rw [List.all_cons]
    cases (decide (0 ≤ zs[i]) && decide (zs[i] ≤ 6)) <;> rfl
theorem all_eq (zs : List Int) (hn : zs.length ≤ 1000000000) (k : Nat) (hk : zs.length < k) : spec_l1All.f k zs 0 6 = some (okC zs) := by
  unfold spec_l1All.f
  have := all_l0 zs hn zs.length k 0 (by omega) hk
  simpa using this
def countsB (zs : List Int) : Bool := (decide (1 ≤ (zs.length : Int)) && decide ((zs.length : Int) ≤ 4)) && okC zs
theorem rdCounts_eq (zs : List Int) (hn : zs.length ≤ 1000000000) (k : Nat) (hk : zs.length < k) : spec_rdCounts.f k zs = some (countsB zs) := by
  unfold spec_rdCounts.f countsB
  rw [in_eq, Option.bind_some, all_eq zs hn k hk]
  cases (decide (1 ≤ (zs.length : Int)) && decide ((zs.length : Int) ≤ 4)) <;> rfl
theorem areCounts_eq (zs : List Int) : impl_areCounts.f zs = some (countsB zs) := by
  unfold impl_areCounts.f countsB impl_within.f impl_areWithin.f okC
  by_cases h : (1 : Int) ≤ (zs.length : Int)
  · rw [if_pos h, Option.bind_some, decide_eq_true h, Bool.true_and]
    cases decide ((zs.length : Int) ≤ 4) <;> rfl
  · rw [if_neg h, Option.bind_some, decide_eq_false h]; rfl
/-- x less p, from place i on, d places. -/
def subF (p : List Int) : Nat → Nat → List Int → List Int
  | 0, _, x => x
  | d + 1, i, x => subF p d (i + 1) (x.set i (wrap64 (rd x (i : Int) - rd p (i : Int))))
theorem subF_length (p : List Int) : ∀ d i x, (subF p d i x).length = x.length
  | 0, _, _ => rfl
  | d + 1, i, x => by rw [subF, subF_length p d]; simp
theorem minus_l0 (p : List Int) (hn : p.length ≤ 1000) : ∀ d k i (x : List Int), i + d = p.length → p.length ≤ x.length → d < k → impl_minus.l0 k x p (p.length : Int) (i : Int) = some (subF p d i x) := by
  intro d
  induction d with
  | zero =>
    intro k i x hi hx hk
    obtain ⟨k, rfl⟩ : ∃ m, k = m + 1 := ⟨k - 1, by omega⟩
    rw [impl_minus.l0, if_neg (by omega)]; rfl
  | succ d ih =>
    intro k i x hi hx hk
    obtain ⟨k, rfl⟩ : ∃ m, k = m + 1 := ⟨k - 1, by omega⟩
    rw [impl_minus.l0, if_pos (by omega), if_pos (by omega), if_pos (by omega), if_pos (by omega), w64 (i := (i : Int) + 1) (by omega) (by omega), show (i : Int) + 1 = ((i + 1 : Nat) : Int) by omega, Int.toNat_natCast, ih k (i + 1) _ (by omega) (by simp; omega) (by omega)]
    rfl
theorem minus_eq (x p : List Int) (hn : p.length ≤ 1000) (hx : p.length ≤ x.length) (hx2 : x.length ≤ 1000) (k : Nat) (hk : p.length < k) : impl_minus.f k x p = some (subF p p.length 0 x) := by
  unfold impl_minus.f slices_Clone_int.f
  rw [if_pos (by omega), Option.bind_some]
  have := minus_l0 p hn p.length k 0 x (by omega) hx hk
  simpa using this
theorem left_l1 (x0 : List Int) (ps : List (List Int)) (a b : Int) (p : List Int) (hn : p.length ≤ 1000) (R : Option (List Int × Bool)) (K : Nat) (y : List Int) (hR : ∀ k, K ≤ k → spec_LeftOver.l0 k x0 y ps a (wrap64 (b + 1)) = R) : ∀ d k i (x : List Int), i + d = p.length → p.length ≤ x.length → subF p d i x = y → K + d + 1 ≤ k → spec_LeftOver.l1 k x0 x ps a b p (p.length : Int) (i : Int) = R := by
  intro d
  induction d with
  | zero =>
    intro k i x hi hx hy hk
    obtain ⟨k, rfl⟩ : ∃ m, k = m + 1 := ⟨k - 1, by omega⟩
    rw [spec_LeftOver.l1, if_neg (by omega), ← hR k (by omega), ← hy]; rfl
  | succ d ih =>
    intro k i x hi hx hy hk
    obtain ⟨k, rfl⟩ : ∃ m, k = m + 1 := ⟨k - 1, by omega⟩
    rw [spec_LeftOver.l1, if_pos (by omega), if_pos (by omega), if_pos (by omega), if_pos (by omega), w64 (i := (i : Int) + 1) (by omega) (by omega), show (i : Int) + 1 = ((i + 1 : Nat) : Int) by omega, Int.toNat_natCast]
    exact ih k (i + 1) _ (by omega) (by simp; omega) hy (by omega)
def leftR (n : Nat) : List (List Int) → List Int → List Int × Bool
  | [], x => if okC x = true then (x, true) else ([], false)
  | p :: ps, x => if p.length = n ∧ okC p = true then leftR n ps (subF p n 0 x) else ([], false)
theorem left_spec (x0 : List Int) (ps : List (List Int)) (h1 : 1 ≤ x0.length) (h4 : x0.length ≤ 4) (hps : ps.length ≤ 20) : ∀ d k i (x : List Int), i + d = ps.length → x.length = x0.length → 100 * d + 100 ≤ k → spec_LeftOver.l0 k x0 x ps (ps.length : Int) (i : Int) = some (leftR x0.length (ps.drop i) x) := by
  intro d
  induction d with
  | zero =>
    intro k i x hi hx hk
    obtain ⟨k, rfl⟩ : ∃ m, k = m + 1 := ⟨k - 1, by omega⟩
    rw [spec_LeftOver.l0, if_neg (by omega), List.drop_of_length_le (by omega), all_eq x (by omega) k (by omega), Option.bind_some, leftR]
    split <;> rfl
  | succ d ih =>
    intro k i x hi hx hk
    obtain ⟨k, rfl⟩ : ∃ m, k = m + 1 + 1 := ⟨k - 2, by omega⟩
    have hlt : i < ps.length := by omega
    rw [spec_LeftOver.l0, if_pos (by omega), if_pos (by omega), if_pos (by omega), rdL_get ps i hlt, List.drop_eq_getElem_cons hlt, leftR]
    by_cases hl : ps[i].length = x0.length
    · rw [if_pos (by omega), all_eq ps[i] (by omega) (k + 1) (by omega), Option.bind_some, spec_LeftOver.j2]
      cases hc : okC ps[i] with
      | false => rw [if_pos (by decide), if_neg (by simp)]
      | true =>
        rw [if_neg (by decide), if_pos ⟨hl, rfl⟩]
        refine left_l1 x0 ps (ps.length : Int) (i : Int) ps[i] (by omega) _ (100 * d + 100 - 1 + 1) (subF ps[i] ps[i].length 0 x) (fun k hk => ?_) ps[i].length k 0 x (by omega) (by omega) rfl (by omega)
        rw [w64 (i := (i : Int) + 1) (by omega) (by omega), show (i : Int) + 1 = ((i + 1 : Nat) : Int) by omega, ih k (i + 1) _ (by omega) (by rw [subF_length]; exact hx) (by omega), hl]
    · rw [if_neg (by omega), spec_LeftOver.j2, if_pos rfl, if_neg (fun h => hl h.1)]
theorem left_impl (x0 : List Int) (ps : List (List Int)) (h1 : 1 ≤ x0.length) (h4 : x0.length ≤ 4) (hps : ps.length ≤ 20) : ∀ d k i (x : List Int), i + d = ps.length → x.length = x0.length → 100 * d + 100 ≤ k → impl_LeftOver.l0 k x0 x ps (ps.length : Int) (i : Int) = some (leftR x0.length (ps.drop i) x) := by
  intro d
  induction d with
  | zero =>
    intro k i x hi hx hk
    obtain ⟨k, rfl⟩ : ∃ m, k = m + 1 := ⟨k - 1, by omega⟩
    rw [impl_LeftOver.l0, if_neg (by omega), List.drop_of_length_le (by omega), leftR]
    show (some (okC x)).bind _ = _
    rw [Option.bind_some]
    split <;> rfl
  | succ d ih =>
    intro k i x hi hx hk
    obtain ⟨k, rfl⟩ : ∃ m, k = m + 1 := ⟨k - 1, by omega⟩
    have hlt : i < ps.length := by omega
    rw [impl_LeftOver.l0, if_pos (by omega), if_pos (by omega), if_pos (by omega), rdL_get ps i hlt, List.drop_eq_getElem_cons hlt, leftR]
    by_cases hl : ps[i].length = x0.length
    · rw [if_pos (by omega), areCounts_eq, Option.bind_some]
      have hcb : countsB ps[i] = okC ps[i] := by
        unfold countsB
        rw [decide_eq_true (show (1 : Int) ≤ (ps[i].length : Int) by omega), decide_eq_true (show (ps[i].length : Int) ≤ 4 by omega)]
        rfl
      rw [hcb]
      cases hc : okC ps[i] with
      | false => rw [if_neg (by decide), if_neg (by simp)]
      | true =>
        rw [if_pos rfl, if_pos ⟨hl, rfl⟩, minus_eq x ps[i] (by omega) (by omega) (by omega) k (by omega), Option.bind_some, w64 (i := (i : Int) + 1) (by omega) (by omega), show (i : Int) + 1 = ((i + 1 : Nat) : Int) by omega, ih k (i + 1) _ (by omega) (by rw [subF_length]; exact hx) (by omega), hl]
    · rw [if_neg (by omega), if_neg (fun h => hl h.1)]
theorem ownL (l : List Int) (h : l.length < 1000000) : spec_l1Own.f l = some l := by
  unfold spec_l1Own.f
  simp only [Option.bind_some, List.length_nil, List.nil_append]
  rw [if_pos (by omega)]
theorem leftR_len (n : Nat) : ∀ (ps : List (List Int)) (x : List Int), (leftR n ps x).1.length ≤ x.length
  | [], x => by rw [leftR]; split <;> simp
  | p :: ps, x => by
    rw [leftR]
    split
    · have := leftR_len n ps (subF p n 0 x); rw [subF_length] at this; exact this
    · simp
theorem leftOver_both (x0 : List Int) (ps : List (List Int)) (hm : x0.length ≤ 10000000) : ∃ r : List Int × Bool, Ev (fun k => spec_LeftOver.f k x0 ps) r ∧ Ev (fun k => impl_LeftOver.f k x0 ps) r ∧ r.1.length ≤ 10000000 := by
  unfold spec_LeftOver.f impl_LeftOver.f
  rw [areCounts_eq]
  have hrd := fun k (hk : x0.length < k) => rdCounts_eq x0 (by omega) k hk
  cases hc : countsB x0 with
  | false =>
    rw [hc] at hrd
    refine ⟨([], false), Ev_from 20000000 fun k hk => ?_, Ev_from 20000000 fun k hk => ?_, by simp⟩
    · obtain ⟨k, rfl⟩ : ∃ m, k = m + 1 := ⟨k - 1, by omega⟩
      rw [hrd (k + 1) (by omega), Option.bind_some, if_neg (by decide), spec_LeftOver.j0, if_pos rfl]
    · obtain ⟨k, rfl⟩ : ∃ m, k = m + 1 := ⟨k - 1, by omega⟩
      rw [Option.bind_some, if_neg (by decide), impl_LeftOver.j0, if_pos rfl]
  | true =>
    rw [hc] at hrd
    have hb : 1 ≤ x0.length ∧ x0.length ≤ 4 := by
      unfold countsB at hc
      simp only [Bool.and_eq_true, decide_eq_true_eq] at hc
      omega
    by_cases hp : (ps.length : Int) > 20
    · refine ⟨([], false), Ev_from 20000000 fun k hk => ?_, Ev_from 20000000 fun k hk => ?_, by simp⟩
      · obtain ⟨k, rfl⟩ : ∃ m, k = m + 1 := ⟨k - 1, by omega⟩
        rw [hrd (k + 1) (by omega), Option.bind_some, if_pos rfl, decide_eq_true hp, spec_LeftOver.j0, if_pos rfl]
      · obtain ⟨k, rfl⟩ : ∃ m, k = m + 1 := ⟨k - 1, by omega⟩
        rw [Option.bind_some, if_pos rfl, decide_eq_true hp, impl_LeftOver.j0, if_pos rfl]
    · have hlen := leftR_len x0.length ps x0
      refine ⟨leftR x0.length ps x0, Ev_from 20000000 fun k hk => ?_, Ev_from 20000000 fun k hk => ?_, by omega⟩
      · obtain ⟨k, rfl⟩ : ∃ m, k = m + 1 := ⟨k - 1, by omega⟩
        have := left_spec x0 ps hb.1 hb.2 (by omega) ps.length k 0 x0 (by omega) rfl (by omega)
        rw [hrd (k + 1) (by omega), Option.bind_some, if_pos rfl, decide_eq_false hp, spec_LeftOver.j0, if_neg (by decide), ownL x0 (by omega), Option.bind_some]
        simpa using this
      · obtain ⟨k, rfl⟩ : ∃ m, k = m + 1 := ⟨k - 1, by omega⟩
        have := left_impl x0 ps hb.1 hb.2 (by omega) ps.length k 0 x0 (by omega) rfl (by omega)
        rw [Option.bind_some, if_pos rfl, decide_eq_false hp, impl_LeftOver.j0, if_neg (by decide)]
        unfold slices_Clone_int.f
        rw [if_pos (by omega), Option.bind_some]
        simpa using this

/-! sizes and copies of rows -/
theorem szSS_l0 (l : List (List Int)) (hy : ∀ y ∈ l, y.length ≤ maxLen) : ∀ d k i (left : Int), i + d = l.length → d < k → l.length ≤ 1048576 → 0 ≤ left → left + ((allLen (l.take i) : Nat) : Int) + (l.length : Int) = 1048576 →
    ∃ r, laws_szIntSS.l0 k l left (i : Int) = some r ∧ (r < 0 ∨ 0 ≤ r ∧ l.length + allLen l ≤ 1048576) := by
  intro d
  induction d with
  | zero =>
    intro k i left hi hk hn h0 hs
    obtain ⟨k, rfl⟩ : ∃ m, k = m + 1 := ⟨k - 1, by omega⟩
    rw [laws_szIntSS.l0, if_neg (by omega)]
    rw [List.take_of_length_le (by omega)] at hs
    exact ⟨left, rfl, .inr ⟨h0, by omega⟩⟩
  | succ d ih =>
    intro k i left hi hk hn h0 hs
    obtain ⟨k, rfl⟩ : ∃ m, k = m + 1 := ⟨k - 1, by omega⟩
    have hlt : i < l.length := by omega
    have hyl := hy _ (List.getElem_mem hlt)
    unfold maxLen at hyl
    have htk := allLen_take l i hlt
    rw [laws_szIntSS.l0, if_pos (by omega), if_pos (by omega), rdL_get l i hlt]
    unfold laws_szIntS.f
    rw [show wrap64 (left - (l[i].length : Int)) = left - (l[i].length : Int) by unfold wrap64; omega]
    by_cases hc : left - (l[i].length : Int) < 0
    · rw [if_pos hc, Option.bind_some, if_pos (by omega)]
      exact ⟨_, rfl, .inl (by omega)⟩
    · rw [if_neg hc, Option.bind_some, if_neg hc, w64 (i := (i : Int) + 1) (by omega) (by omega), show (i : Int) + 1 = ((i + 1 : Nat) : Int) by omega]
      exact ih k (i + 1) _ (by omega) (by omega) hn (by omega) (by omega)
theorem szSS (l : List (List Int)) (hn : l.length * 24 ≤ 140737488351232) (hy : ∀ y ∈ l, y.length ≤ maxLen) : ∃ k r, laws_szIntSS.f k l 1048576 = some r ∧ (r < 0 ∨ 0 ≤ r ∧ l.length + allLen l ≤ 1048576) := by
  refine ⟨l.length + 1, ?_⟩
  unfold laws_szIntSS.f
  rw [show wrap64 ((1048576 : Int) - (l.length : Int)) = (1048576 : Int) - (l.length : Int) by unfold wrap64; omega]
  by_cases hc : (1048576 : Int) - (l.length : Int) < 0
  · rw [if_pos hc]; exact ⟨_, rfl, .inl (by omega)⟩
  · rw [if_neg hc]
    exact szSS_l0 l hy l.length (l.length + 1) 0 _ (by omega) (by omega) (by omega) (by omega) (by simp [allLen])
theorem toSS_l0 (l : List (List Int)) (hn : l.length + allLen l ≤ 1048576) : ∀ d k i (x : List (List Int)), i + d = l.length → d + allLen l + 2 ≤ k → x = l.take i ++ List.replicate d [] → laws_toIntSS.l0 k l x (i : Int) = some l := by
  intro d
  induction d with
  | zero =>
    intro k i x hi hk hx
    obtain ⟨k, rfl⟩ : ∃ m, k = m + 1 := ⟨k - 1, by omega⟩
    rw [laws_toIntSS.l0, if_neg (by omega), hx, List.take_of_length_le (by omega)]
    simp
  | succ d ih =>
    intro k i x hi hk hx
    obtain ⟨k, rfl⟩ : ∃ m, k = m + 1 := ⟨k - 1, by omega⟩
    have hlt : i < l.length := by omega
    have hr := allLen_le l l[i] (List.getElem_mem hlt)
    have hxl : x.length = l.length := by rw [hx]; simp; omega
    rw [laws_toIntSS.l0, if_pos (by omega), if_pos (by omega), rdL_get l i hlt, toIntS_eq l[i] (by omega) k (by omega), Option.bind_some, if_pos (by omega), w64 (i := (i : Int) + 1) (by omega) (by omega), show (i : Int) + 1 = ((i + 1 : Nat) : Int) by omega, Int.toNat_natCast]
    refine ih k (i + 1) _ (by omega) (by omega) ?_
    have htl : (l.take i).length = i := by rw [List.length_take]; omega
    rw [hx, List.set_append_right _ _ (by omega), htl, Nat.sub_self, List.replicate_succ, List.set_cons_zero, List.take_add_one, List.getElem?_eq_getElem hlt, List.append_assoc]
    rfl
theorem toSS (l : List (List Int)) (hn : l.length + allLen l ≤ 1048576) : ∃ k, laws_toIntSS.f k l = some l := by
  refine ⟨l.length + allLen l + 2, ?_⟩
  unfold laws_toIntSS.f
  rw [if_pos (by omega), if_pos (by omega), Int.toNat_natCast]
  have := toSS_l0 l hn l.length (l.length + allLen l + 2) 0 (List.replicate l.length []) (by omega) (Nat.le_refl _) (by simp)
  simpa using this
end Go.Proofs.Ytfhaclkjiolmjaa.Q

namespace Go.Proofs.Ytfhaclkjiolmjaa.Q
open Go.RowKit Go.Proofs.YtfhaclkjiolmjaaW.PrintWords Go.Proofs.YtfhaclkjiolmjaaW.PrintLast Go.Proofs.YtfhaclkjiolmjaaW.PrintMore
set_option linter.unusedVariables false
set_option linter.unusedSimpArgs false

/-- Each of d numbers from place i on is greater than the one before. -/
def incB (l : List Int) : Nat → Nat → Bool
  | 0, _ => true
  | d + 1, i => decide (rd l ((i : Int) - 1) < rd l (i : Int)) && incB l d (i + 1)
def okR (l : List Int) : Bool := l.all fun n => decide (1 ≤ n) && decide (n ≤ 60)
def lengthsB (l : List Int) : Bool := (decide (1 ≤ (l.length : Int)) && decide ((l.length : Int) ≤ 4)) && (okR l && incB l (l.length - 1) 1)
theorem areLengths_l0 (l : List Int) (hn : l.length ≤ 1000000000) : ∀ d k i, i + d = l.length → 1 ≤ i → d < k → impl_AreLengths.l0 k l (i : Int) = some (incB l d i && ((decide (1 ≤ (l.length : Int)) && decide ((l.length : Int) ≤ 4)) && okR l)) := by
  intro d
  induction d with
  | zero =>
    intro k i hi h1 hk
    obtain ⟨k, rfl⟩ : ∃ m, k = m + 1 := ⟨k - 1, by omega⟩
    rw [impl_AreLengths.l0, if_neg (by omega)]
    unfold impl_within.f impl_areWithin.f okR incB
    by_cases h : (1 : Int) ≤ (l.length : Int)
    · rw [if_pos h, Option.bind_some, decide_eq_true h, Bool.true_and, Bool.true_and]
      cases decide ((l.length : Int) ≤ 4) <;> rfl
    · rw [if_neg h, Option.bind_some, decide_eq_false h]; rfl
  | succ d ih =>
    intro k i hi h1 hk
    obtain ⟨k, rfl⟩ : ∃ m, k = m + 1 := ⟨k - 1, by omega⟩
    rw [impl_AreLengths.l0, if_pos (by omega), if_pos (by omega), w64 (i := (i : Int) - 1) (by omega) (by omega), if_pos (by omega), if_pos (by omega), w64 (i := (i : Int) + 1) (by omega) (by omega), show (i : Int) + 1 = ((i + 1 : Nat) : Int) by omega, incB]
    by_cases h : rd l (i : Int) ≤ rd l ((i : Int) - 1)
    · rw [if_pos h, decide_eq_false (by omega)]; rfl
    · rw [if_neg h, decide_eq_true (by omega), Bool.true_and, ih k (i + 1) (by omega) (by omega) (by omega)]
theorem rising_l0 (l : List Int) (hn : l.length ≤ 1000000000) : ∀ d k i, i + d = l.length → 1 ≤ i → d < k → spec_l1Rising.l0 k l 1 60 l (l.length : Int) (i : Int) = some (okR (l.drop i) && incB l d i) := by
  intro d
  induction d with
  | zero =>
    intro k i hi h1 hk
    obtain ⟨k, rfl⟩ : ∃ m, k = m + 1 := ⟨k - 1, by omega⟩
    rw [spec_l1Rising.l0, if_neg (by omega), List.drop_of_length_le (by omega)]; rfl
  | succ d ih =>
    intro k i hi h1 hk
    obtain ⟨k, rfl⟩ : ∃ m, k = m + 1 := ⟨k - 1, by omega⟩
    have hlt : i < l.length := by omega
    rw [spec_l1Rising.l0, if_pos (by omega), if_pos (by omega), if_pos (by omega), in_eq, Option.bind_some, List.drop_eq_getElem_cons hlt]
    unfold okR
    rw [List.all_cons, incB, ← rd_nat l i hlt]
    by_cases hc : (decide (1 ≤ rd l (i : Int)) && decide (rd l (i : Int) ≤ 60)) = true
    · rw [hc, if_pos rfl, if_pos (by omega), w64 (i := (i : Int) - 1) (by omega) (by omega), if_pos (by omega), if_pos (by omega), w64 (i := (i : Int) + 1) (by omega) (by omega), show (i : Int) + 1 = ((i + 1 : Nat) : Int) by omega, Bool.true_and]
      by_cases h : rd l ((i : Int) - 1) ≥ rd l (i : Int)
      · rw [if_pos h, decide_eq_false (by omega), Bool.false_and, Bool.and_false]
      · rw [if_neg h, decide_eq_true (by omega), Bool.true_and]
        exact ih k (i + 1) (by omega) (by omega) (by omega)
    · have hcf : (decide (1 ≤ rd l (i : Int)) && decide (rd l (i : Int) ≤ 60)) = false := by simpa using hc
      rw [hcf, if_neg (by decide), Bool.false_and, Bool.false_and]
theorem areLengths_eq (l : List Int) (hn : l.length ≤ 1000000000) (k : Nat) (hk : l.length < k) : impl_AreLengths.f k l = some (lengthsB l) := by
  unfold impl_AreLengths.f lengthsB
  cases hl : l with
  | nil =>
    obtain ⟨k, rfl⟩ : ∃ m, k = m + 1 := ⟨k - 1, by omega⟩
    rfl
  | cons x xs =>
    rw [← hl]
    have h1 : 1 ≤ l.length := by rw [hl]; simp
    have := areLengths_l0 l hn (l.length - 1) k 1 (by omega) (by omega) (by omega)
    rw [Int.natCast_one] at this
    rw [this]
    cases okR l <;> cases incB l (l.length - 1) 1 <;> cases (decide (1 ≤ (l.length : Int)) && decide ((l.length : Int) ≤ 4)) <;> rfl
theorem rdLengths_eq (l : List Int) (hn : l.length ≤ 1000000000) (k : Nat) (hk : l.length + 1 < k) : spec_rdLengths.f k l = some (lengthsB l) := by
  unfold spec_rdLengths.f lengthsB
  rw [in_eq, Option.bind_some]
  cases hc : (decide (1 ≤ (l.length : Int)) && decide ((l.length : Int) ≤ 4)) with
  | false => rw [if_neg (by decide), Bool.false_and]
  | true =>
    have h1 : 1 ≤ l.length := by simp only [Bool.and_eq_true, decide_eq_true_eq] at hc; omega
    obtain ⟨k, rfl⟩ : ∃ m, k = m + 1 := ⟨k - 1, by omega⟩
    rw [if_pos rfl, Bool.true_and]
    unfold spec_l1Rising.f
    have hlt : 0 < l.length := h1
    have hr := rising_l0 l hn (l.length - 1) k 1 (by omega) (by omega) (by omega)
    rw [Int.natCast_one] at hr
    rw [spec_l1Rising.l0, if_pos (by omega), if_pos (by omega), if_pos (by omega), in_eq, Option.bind_some]
    have hd : okR l = ((decide (1 ≤ rd l 0) && decide (rd l 0 ≤ 60)) && okR (l.drop 1)) := by
      have h0 := rd_nat l 0 hlt
      rw [Int.natCast_zero] at h0
      rw [h0]
      unfold okR
      rw [show l.all (fun n => decide (1 ≤ n) && decide (n ≤ 60)) = (l.drop 0).all (fun n => decide (1 ≤ n) && decide (n ≤ 60)) by rw [List.drop_zero], List.drop_eq_getElem_cons hlt, List.all_cons]
    rw [hd]
    cases (decide (1 ≤ rd l 0) && decide (rd l 0 ≤ 60)) with
    | false => rw [if_neg (by decide), Bool.false_and, Bool.false_and]; rfl
    | true =>
      rw [if_pos rfl, if_neg (by omega), w64 (i := (0 : Int) + 1) (by omega) (by omega), show (0 : Int) + 1 = 1 from rfl, hr, Bool.true_and]
      rfl
theorem areRod_eq (a0 : Int) (l : List Int) (hn : l.length ≤ 1000000000) (k : Nat) (hk : l.length < k) : impl_areRod.f k a0 l = some ((decide (1 ≤ a0) && decide (a0 ≤ 60)) && lengthsB l) := by
  unfold impl_areRod.f impl_isRod.f impl_within.f
  rw [areLengths_eq l hn k hk]
  by_cases h : (1 : Int) ≤ a0
  · rw [if_pos h, decide_eq_true h, Bool.true_and]
    cases decide (a0 ≤ 60) <;> rfl
  · rw [if_neg h, decide_eq_false h]; rfl
theorem rdAsked_eq (a0 : Int) (l : List Int) (hn : l.length ≤ 1000000000) (k : Nat) (hk : l.length + 1 < k) : spec_rdAsked.f k a0 l = some ((decide (1 ≤ a0) && decide (a0 ≤ 60)) && lengthsB l) := by
  unfold spec_rdAsked.f
  rw [in_eq, Option.bind_some, rdLengths_eq l hn k hk]
  cases (decide (1 ≤ a0) && decide (a0 ≤ 60)) <;> rfl
end Go.Proofs.Ytfhaclkjiolmjaa.Q

namespace Go.Proofs.Ytfhaclkjiolmjaa.Q
open Go.RowKit Go.Proofs.YtfhaclkjiolmjaaW.PrintWords Go.Proofs.YtfhaclkjiolmjaaW.PrintLast Go.Proofs.YtfhaclkjiolmjaaW.PrintMore
set_option linter.unusedVariables false
set_option linter.unusedSimpArgs false

/-- How many ways there are to n if pieces of length x may be taken, too. -/
def newN (old : Nat → Int) (x : Nat) (n : Nat) : Int := if h : 1 ≤ x ∧ x ≤ n then old n + newN old x (n - x) else old n
termination_by n
decreasing_by omega
/-- The row of f at 0 .. R. -/
def rowF (R : Nat) (f : Nat → Int) : List Int := (List.range (R + 1)).map f
theorem rowF_length (R : Nat) (f : Nat → Int) : (rowF R f).length = R + 1 := by simp [rowF]
theorem rowF_rd (R : Nat) (f : Nat → Int) (j : Nat) (h : j ≤ R) : rd (rowF R f) (j : Int) = f j := by
  rw [rd_nat _ j (by rw [rowF_length]; omega)]
  simp [rowF]
theorem rowF_set (R : Nat) (f g : Nat → Int) (n : Nat) (v : Int) (hv : g n = v) (h : ∀ j, j ≠ n → g j = f j) : (rowF R f).set n v = rowF R g := by
  apply List.ext_getElem
  · simp [rowF]
  · intro j h1 h2
    rw [List.getElem_set]
    by_cases hj : n = j
    · subst hj; simp [rowF, hv]
    · rw [if_neg hj]; simp [rowF, h j (Ne.symm hj)]
theorem newN_le (old : Nat → Int) (x : Nat) (B : Int) (h : ∀ n, n ≤ 60 → 0 ≤ old n ∧ old n ≤ B) : ∀ n, n ≤ 60 → 0 ≤ newN old x n ∧ newN old x n ≤ (n + 1 : Nat) * B := by
  intro n
  induction n using Nat.strongRecOn with
  | _ n ih =>
    intro hn6
    have h0 := h n hn6
    have hB : 0 ≤ B := by omega
    rw [newN]
    have e1 : ((n + 1 : Nat) : Int) * B = (n : Int) * B + B := by rw [show ((n + 1 : Nat) : Int) = (n : Int) + 1 by omega, Int.add_mul]; omega
    have hnB : 0 ≤ (n : Int) * B := Int.mul_nonneg (by omega) hB
    split
    · rename_i hx
      have h1 := ih (n - x) (by omega) (by omega)
      have h2 : ((n - x + 1 : Nat) : Int) * B ≤ (n : Int) * B := Int.mul_le_mul_of_nonneg_right (by omega) hB
      omega
    · omega
theorem count_l1 (R : Nat) (hR : R ≤ 60) (old : Nat → Int) (hold : ∀ n, n ≤ 60 → 0 ≤ old n ∧ old n ≤ 1000000000) (x : Nat) (hx : 1 ≤ x) (ls : List Int) (a b : Int) (Z : Option (List Int)) (K : Nat) (hZ : ∀ k, K ≤ k → spec_rdCount.l0 k (R : Int) (rowF R (newN old x)) ls a (wrap64 (b + 1)) = Z) :
    ∀ d k n, n + d = R + 1 → x ≤ n → K + d + 1 ≤ k → spec_rdCount.l1 k (R : Int) (rowF R fun j => if j < n then newN old x j else old j) (x : Int) (n : Int) ls a b = Z := by
  intro d
  induction d with
  | zero =>
    intro k n hn hxn hk
    obtain ⟨k, rfl⟩ : ∃ m, k = m + 1 := ⟨k - 1, by omega⟩
    rw [spec_rdCount.l1, if_neg (by omega), ← hZ k (by omega)]
    congr 1
    apply List.map_congr_left
    intro j hj
    rw [List.mem_range] at hj
    rw [if_pos (by omega)]
  | succ d ih =>
    intro k n hn hxn hk
    obtain ⟨k, rfl⟩ : ∃ m, k = m + 1 := ⟨k - 1, by omega⟩
    have hb := (newN_le old x 1000000000 hold (n - x) (by omega))
    have ho := hold n (by omega)
    have hl : ((n - x + 1 : Nat) : Int) * 1000000000 ≤ 61 * 1000000000 := Int.mul_le_mul_of_nonneg_right (by omega) (by omega)
    rw [spec_rdCount.l1, if_pos (by omega), if_pos (by omega), if_pos (by rw [rowF_length]; omega), w64 (i := (n : Int) - (x : Int)) (by omega) (by omega), if_pos (by omega), if_pos (by rw [rowF_length]; omega), w64 (i := (n : Int) + 1) (by omega) (by omega), show (n : Int) + 1 = ((n + 1 : Nat) : Int) by omega, show (n : Int) - (x : Int) = ((n - x : Nat) : Int) by omega, rowF_rd R _ n (by omega), rowF_rd R _ (n - x) (by omega), if_neg (by omega), if_pos (by omega), w64 (by omega) (by omega), Int.toNat_natCast]
    rw [rowF_set R _ (fun j => if j < n + 1 then newN old x j else old j) n _ (by rw [if_pos (by omega), newN, dif_pos ⟨hx, hxn⟩]) (fun j hj => by
      by_cases h : j < n
      · rw [if_pos (by omega), if_pos h]
      · rw [if_neg (by omega), if_neg h])]
    exact ih k (n + 1) (by omega) (by omega) (by omega)
/-- All the pieces taken in turn. -/
def ways : List Int → (Nat → Int) → Nat → Int
  | [], f => f
  | x :: xs, f => ways xs (newN f x.toNat)
theorem newN_lt (old : Nat → Int) (x j : Nat) (h : j < x) : newN old x j = old j := by rw [newN, dif_neg (by omega)]
/-- 61 times itself. -/
def p61 : Nat → Int
  | 0 => 1
  | d + 1 => 61 * p61 d
theorem p61_pos : ∀ d, 1 ≤ p61 d := by
  intro d
  induction d with
  | zero => exact Int.le_refl _
  | succ d ih => rw [p61]; omega
theorem count_big (B : Int) (d : Nat) (hB : 0 ≤ B) (h : B * p61 (d + 1) ≤ 1000000000) : B * 61 * p61 d ≤ 1000000000 ∧ B * 61 ≤ 1000000000 := by
  have hp := p61_pos d
  rw [p61, ← Int.mul_assoc] at h
  refine ⟨h, Int.le_trans ?_ h⟩
  have := Int.mul_le_mul_of_nonneg_left hp (show 0 ≤ B * 61 by omega)
  rw [Int.mul_one] at this
  exact this
theorem count_start (R : Nat) (f : Nat → Int) (x : Nat) : rowF R f = rowF R fun j => if j < x then newN f x j else f j := by
  apply List.map_congr_left
  intro j _
  by_cases h : j < x
  · rw [if_pos h, newN_lt f x j h]
  · rw [if_neg h]
theorem count_none (R : Nat) (f : Nat → Int) (x : Nat) (h : R < x) : rowF R f = rowF R (newN f x) := by
  apply List.map_congr_left
  intro j hj
  rw [List.mem_range] at hj
  rw [newN_lt f x j (by omega)]
theorem count_step (R : Nat) (hR : R ≤ 60) (ls : List Int) (x : Nat) (hx : 1 ≤ x ∧ x ≤ 60) (i : Nat) (hi : i < 1000000) (f : Nat → Int) (hf : ∀ n, n ≤ 60 → 0 ≤ f n ∧ f n ≤ 1000000000) (Z : Option (List Int)) (K : Nat)
    (hZ : ∀ k, K ≤ k → spec_rdCount.l0 k (R : Int) (rowF R (newN f x)) ls (ls.length : Int) ((i + 1 : Nat) : Int) = Z) (k : Nat) (hk : K + 70 ≤ k) :
    spec_rdCount.l1 k (R : Int) (rowF R f) (x : Int) (x : Int) ls (ls.length : Int) (i : Int) = Z := by
  have hwi : wrap64 ((i : Int) + 1) = ((i + 1 : Nat) : Int) := by rw [w64 (by omega) (by omega)]; omega
  have hZ2 : ∀ k, K ≤ k → spec_rdCount.l0 k (R : Int) (rowF R (newN f x)) ls (ls.length : Int) (wrap64 ((i : Int) + 1)) = Z := fun k hk => by rw [hwi]; exact hZ k hk
  by_cases hxR : x ≤ R
  · have h1 := count_l1 R hR f hf x hx.1 ls (ls.length : Int) (i : Int) Z K hZ2 (R + 1 - x) k x (by omega) (Nat.le_refl _) (by omega)
    rw [← count_start R f x] at h1
    exact h1
  · obtain ⟨k, rfl⟩ : ∃ m, k = m + 1 := ⟨k - 1, by omega⟩
    rw [spec_rdCount.l1, if_neg (by omega), count_none R f x (by omega)]
    exact hZ2 k (by omega)
theorem count_l0 (R : Nat) (hR : R ≤ 60) (ls : List Int) (hn : ls.length < 1000000) (hls : ∀ x ∈ ls, 1 ≤ x ∧ x ≤ 60) : ∀ d k i (f : Nat → Int) (B : Int), i + d = ls.length → 0 ≤ B → B * p61 d ≤ 1000000000 → (∀ n, n ≤ 60 → 0 ≤ f n ∧ f n ≤ B) → 100 * d + 10 ≤ k →
    spec_rdCount.l0 k (R : Int) (rowF R f) ls (ls.length : Int) (i : Int) = some (rowF R (ways (ls.drop i) f)) := by
  intro d
  induction d with
  | zero =>
    intro k i f B hi hB hBB hf hk
    obtain ⟨k, rfl⟩ : ∃ m, k = m + 1 := ⟨k - 1, by omega⟩
    rw [spec_rdCount.l0, if_neg (by omega), List.drop_of_length_le (by omega)]; rfl
  | succ d ih =>
    intro k i f B hi hB hBB hf hk
    obtain ⟨k, rfl⟩ : ∃ m, k = m + 1 := ⟨k - 1, by omega⟩
    have hlt : i < ls.length := by omega
    have hx := hls _ (List.getElem_mem hlt)
    obtain ⟨x, hxe⟩ : ∃ x : Nat, ls[i] = (x : Int) := ⟨ls[i].toNat, by omega⟩
    obtain ⟨hB1, hB2⟩ := count_big B d hB hBB
    clear hBB
    have hnew : ∀ n, n ≤ 60 → 0 ≤ newN f x n ∧ newN f x n ≤ B * 61 := fun n hn => by
      have h1 := newN_le f x B hf n hn
      have h2 : ((n + 1 : Nat) : Int) * B ≤ 61 * B := Int.mul_le_mul_of_nonneg_right (by omega) hB
      omega
    have hrec : ∀ k, 100 * d + 10 ≤ k → spec_rdCount.l0 k (R : Int) (rowF R (newN f x)) ls (ls.length : Int) ((i + 1 : Nat) : Int) = some (rowF R (ways (ls.drop (i + 1)) (newN f x))) :=
      fun k hk => ih k (i + 1) (newN f x) (B * 61) (by omega) (by omega) hB1 hnew hk
    have hst := count_step R hR ls x (by omega) i (by omega) f (fun n hn => by have := hf n hn; omega) _ (100 * d + 10) hrec k (by omega)
    rw [spec_rdCount.l0, if_pos (by omega), if_pos (by omega), if_pos (by omega), rd_nat ls i hlt, List.drop_eq_getElem_cons hlt, ways, hxe, Int.toNat_natCast]
    exact hst
end Go.Proofs.Ytfhaclkjiolmjaa.Q

namespace Go.Proofs.Ytfhaclkjiolmjaa.Q
open Go.RowKit Go.Proofs.YtfhaclkjiolmjaaW.PrintWords Go.Proofs.YtfhaclkjiolmjaaW.PrintLast Go.Proofs.YtfhaclkjiolmjaaW.PrintMore
set_option linter.unusedVariables false
set_option linter.unusedSimpArgs false

/-- Some of each length make up just t. -/
def Can : List Int → Int → Prop
  | [], t => t = 0
  | x :: xs, t => ∃ n : Nat, (n : Int) * x ≤ t ∧ Can xs (t - (n : Int) * x)
/-- The pattern with as few of each as can be, the first ones first. -/
inductive FirstOf : List Int → Int → List Int → Prop
  | nil : FirstOf [] 0 []
  | cons (x : Int) (xs : List Int) (t : Int) (n : Nat) (p : List Int) : (n : Int) * x ≤ t → (∀ m : Nat, m < n → ¬ Can xs (t - (m : Int) * x)) → FirstOf xs (t - (n : Int) * x) p → FirstOf (x :: xs) t ((n : Int) :: p)
theorem restW_split (f : Nat → List (List Int × Int)) : ∀ n N a, n ≤ N → restW f N a = restW f n a ++ restW f (N - n) (a + n) := by
  intro n
  induction n with
  | zero => intro N a _; rfl
  | succ n ih =>
    intro N a h
    obtain ⟨N, rfl⟩ : ∃ M, N = M + 1 := ⟨N - 1, by omega⟩
    rw [restW, restW, ih N (a + 1) (by omega), List.append_assoc, show N + 1 - (n + 1) = N - n by omega, show a + 1 + n = a + (n + 1) by omega]
theorem restW_mem (f : Nat → List (List Int × Int)) (q : List Int × Int) : ∀ N a, q ∈ restW f N a → ∃ n, a ≤ n ∧ n < a + N ∧ q ∈ f n := by
  intro N
  induction N with
  | zero => intro a h; cases h
  | succ N ih =>
    intro a h
    rw [restW, List.mem_append] at h
    rcases h with h | h
    · exact ⟨a, by omega, by omega, h⟩
    · obtain ⟨n, h1, h2, h3⟩ := ih (a + 1) h
      exact ⟨n, by omega, by omega, h3⟩
theorem lt_many (x left : Int) (hx : 1 ≤ x) (hl : 0 ≤ left) (n : Nat) : n < (left / x + 1).toNat ↔ (n : Int) * x ≤ left := by
  rw [← Int.le_ediv_iff_mul_le (by omega : 0 < x)]
  have : 0 ≤ left / x := Int.ediv_nonneg hl (by omega)
  omega
theorem mul_nn (n : Nat) (x : Int) (hx : 1 ≤ x) : 0 ≤ (n : Int) * x := Int.mul_nonneg (by omega) (by omega)
/-- What a pattern leaves. -/
theorem patV_mem : ∀ (ls : List Int), (∀ x ∈ ls, 1 ≤ x) → ∀ ch left q, 0 ≤ left → q ∈ patV ls ch left → ∃ u, 0 ≤ u ∧ u ≤ left ∧ Can ls u ∧ q.2 = left - u := by
  intro ls
  induction ls with
  | nil =>
    intro _ ch left q h0 h
    rw [patV, List.mem_singleton] at h
    subst h
    exact ⟨0, by omega, h0, rfl, by simp⟩
  | cons x xs ih =>
    intro hp ch left q h0 h
    have hx := hp x (by simp)
    rw [patV] at h
    obtain ⟨n, _, h2, h3⟩ := restW_mem _ _ _ _ h
    have hn := (lt_many x left hx h0 n).1 (by omega)
    have hm := mul_nn n x hx
    obtain ⟨u, hu0, hu, hc, hq⟩ := ih (fun y hy => hp y (by simp [hy])) _ _ q (by omega) h3
    refine ⟨u + (n : Int) * x, by omega, by omega, ⟨n, by omega, ?_⟩, by omega⟩
    rw [show u + (n : Int) * x - (n : Int) * x = u by omega]; exact hc
theorem app_mid {α : Type} (A B C D : List α) (c : α) : A ++ ((B ++ c :: C) ++ D) = (A ++ B) ++ c :: (C ++ D) := by simp
theorem patV_first : ∀ (ls : List Int), (∀ x ∈ ls, 1 ≤ x) → ∀ ch left u p, 0 ≤ left → u ≤ left → FirstOf ls u p → (∀ v, u < v → v ≤ left → ¬ Can ls v) →
    ∃ L1 L2, patV ls ch left = L1 ++ (ch ++ p, left - u) :: L2 ∧ (∀ q ∈ L1, left - u < q.2) ∧ (∀ q ∈ L2, left - u ≤ q.2) := by
  intro ls
  induction ls with
  | nil =>
    intro _ ch left u p h0 hu hF hmax
    cases hF
    exact ⟨[], [], by rw [patV]; simp, by simp, by simp⟩
  | cons x xs ih =>
    intro hp ch left u p h0 hu hF hmax
    cases hF with
    | cons _ _ _ n p hn hmin hF =>
    have hx := hp x (by simp)
    have hxs := fun y (hy : y ∈ xs) => hp y (by simp [hy])
    have hm := mul_nn n x hx
    obtain ⟨L1, L2, e, h1, h2⟩ := ih hxs (ch ++ [(n : Int)]) (left - (n : Int) * x) (u - (n : Int) * x) p (by omega) (by omega) hF (fun v hv1 hv2 hc => hmax (v + (n : Int) * x) (by omega) (by omega) ⟨n, by omega, by rw [show v + (n : Int) * x - (n : Int) * x = v by omega]; exact hc⟩)
    have hN := (lt_many x left hx h0 n).2 (by omega)
    have hall : ∀ q ∈ patV (x :: xs) ch left, left - u ≤ q.2 := fun q hq => by
      obtain ⟨w, hw0, hw, hc, hq⟩ := patV_mem (x :: xs) hp ch left q h0 hq
      by_cases hgt : u < w
      · exact absurd hc (hmax w hgt hw)
      · omega
    obtain ⟨N, hNe⟩ : ∃ N, (left / x + 1).toNat = N := ⟨_, rfl⟩
    have hsp := restW_split (fun n => patV xs (ch ++ [(n : Int)]) (left - (n : Int) * x)) n N 0 (by omega)
    obtain ⟨M, hM⟩ : ∃ M, N - n = M + 1 := ⟨N - n - 1, by omega⟩
    rw [hM, restW, Nat.zero_add, e, show left - (n : Int) * x - (u - (n : Int) * x) = left - u by omega, show ch ++ [(n : Int)] ++ p = ch ++ (n : Int) :: p by simp, app_mid] at hsp
    have hpat : patV (x :: xs) ch left = restW (fun n => patV xs (ch ++ [(n : Int)]) (left - (n : Int) * x)) N 0 := by rw [patV, hNe]
    rw [hpat, hsp] at hall
    refine ⟨_, _, hpat.trans hsp, fun q hq => ?_, fun q hq => hall q (by rw [List.mem_append]; exact .inr (by simp [hq]))⟩
    rw [List.mem_append] at hq
    rcases hq with hq | hq
    · obtain ⟨m, _, hm2, hm3⟩ := restW_mem _ _ _ _ hq
      have hmn := (lt_many x left hx h0 m).1 (by omega)
      obtain ⟨w, hw0, hw, hc, hqe⟩ := patV_mem xs hxs _ _ q (by omega) hm3
      have hge := hall q (by simp [hq])
      by_cases heq : q.2 = left - u
      · exact absurd (show Can xs (u - (m : Int) * x) by rw [show u - (m : Int) * x = w by omega]; exact hc) (hmin m (by omega))
      · omega
    · have := h1 q hq; omega
theorem foldl_least (p : List Int × Int) : ∀ (L1 L2 : List (List Int × Int)) (s : Least), p.2 < s.1 → (∀ q ∈ L1, p.2 < q.2) → (∀ q ∈ L2, p.2 ≤ q.2) → (L1 ++ p :: L2).foldl leastStep s = (p.2, p.1) := by
  intro L1
  induction L1 with
  | nil =>
    intro L2 s hs _ h2
    rw [List.nil_append, List.foldl_cons, leastStep, if_pos hs]
    clear hs
    induction L2 with
    | nil => rfl
    | cons q L2 ih =>
      rw [List.foldl_cons, leastStep, if_neg (by have := h2 q (by simp); simp only; omega)]
      exact ih (fun q hq => h2 q (by simp [hq]))
  | cons q L1 ih =>
    intro L2 s hs h1 h2
    rw [List.cons_append, List.foldl_cons]
    refine ih L2 _ ?_ (fun q hq => h1 q (by simp [hq])) h2
    unfold leastStep
    split
    · exact h1 q (by simp)
    · exact hs
theorem leastV_eq (rod u : Int) (ls p : List Int) (hr : 0 ≤ rod ∧ rod ≤ 60) (hp : ∀ x ∈ ls, 1 ≤ x) (hu : 0 ≤ u ∧ u ≤ rod) (hF : FirstOf ls u p) (hmax : ∀ v, u < v → v ≤ rod → ¬ Can ls v) : leastV rod ls = (rod - u, p) := by
  unfold leastV
  obtain ⟨L1, L2, e, h1, h2⟩ := patV_first ls hp [] rod u p hr.1 hu.2 hF hmax
  rw [e, w64 (by omega) (by omega), List.nil_append]
  exact foldl_least (p, rod - u) L1 L2 _ (by simp only; omega) h1 h2
theorem can_nn : ∀ (ls : List Int), (∀ x ∈ ls, 1 ≤ x) → ∀ t, Can ls t → 0 ≤ t := by
  intro ls
  induction ls with
  | nil => intro _ t h; cases h; exact Int.le_refl _
  | cons x xs ih =>
    rintro hp t ⟨n, h1, h2⟩
    have := mul_nn n x (hp x (by simp))
    omega
theorem can_zero : ∀ (ls : List Int), Can ls 0 := by
  intro ls
  induction ls with
  | nil => rfl
  | cons x xs ih => exact ⟨0, by simp, by simpa using ih⟩
end Go.Proofs.Ytfhaclkjiolmjaa.Q

namespace Go.Proofs.Ytfhaclkjiolmjaa.Q
open Go.RowKit Go.Proofs.YtfhaclkjiolmjaaW.PrintWords Go.Proofs.YtfhaclkjiolmjaaW.PrintLast Go.Proofs.YtfhaclkjiolmjaaW.PrintMore
set_option linter.unusedVariables false
set_option linter.unusedSimpArgs false

theorem newN_nn (f : Nat → Int) (hf : ∀ n, 0 ≤ f n) (x : Nat) : ∀ n, 0 ≤ newN f x n := by
  intro n
  induction n using Nat.strongRecOn with
  | _ n ih =>
    have h0 := hf n
    rw [newN]
    split
    · have := ih (n - x) (by omega); omega
    · exact h0
theorem newN_pos (f : Nat → Int) (hf : ∀ n, 0 ≤ f n) (x : Nat) (hx : 1 ≤ x) : ∀ n, 0 < newN f x n ↔ ∃ k, k * x ≤ n ∧ 0 < f (n - k * x) := by
  intro n
  induction n using Nat.strongRecOn with
  | _ n ih =>
    have h0 := hf n
    rw [newN]
    split
    · rename_i h
      have h1 := newN_nn f hf x (n - x)
      constructor
      · intro hp
        by_cases hfn : 0 < f n
        · exact ⟨0, by omega, by simpa using hfn⟩
        · obtain ⟨k, hk, hp2⟩ := (ih (n - x) (by omega)).1 (by omega)
          refine ⟨k + 1, by rw [Nat.succ_mul]; omega, ?_⟩
          rw [Nat.succ_mul, show n - (k * x + x) = n - x - k * x by omega]; exact hp2
      · rintro ⟨k, hk, hp⟩
        cases k with
        | zero => rw [Nat.zero_mul, Nat.sub_zero] at hp; omega
        | succ k =>
          rw [Nat.succ_mul] at hk hp
          have := (ih (n - x) (by omega)).2 ⟨k, by omega, by rw [show n - x - k * x = n - (k * x + x) by omega]; exact hp⟩
          omega
    · rename_i h
      constructor
      · intro hp; exact ⟨0, by omega, by simpa using hp⟩
      · rintro ⟨k, hk, hp⟩
        cases k with
        | zero => simpa using hp
        | succ k => rw [Nat.succ_mul] at hk; exact absurd ⟨hx, by omega⟩ h
theorem ways_pos : ∀ (ls : List Int), (∀ x ∈ ls, 1 ≤ x) → ∀ (f : Nat → Int), (∀ n, 0 ≤ f n) → ∀ n : Nat, 0 < ways ls f n ↔ ∃ m : Nat, m ≤ n ∧ Can ls ((n : Int) - (m : Int)) ∧ 0 < f m := by
  intro ls
  induction ls with
  | nil =>
    intro _ f hf n
    constructor
    · intro h; exact ⟨n, Nat.le_refl _, by show (n : Int) - (n : Int) = 0; omega, h⟩
    · rintro ⟨m, h1, h2, h3⟩
      have h2' : (n : Int) - (m : Int) = 0 := h2
      rw [show n = m by omega]; exact h3
  | cons x xs ih =>
    intro hp f hf n
    have hx := hp x (by simp)
    have hxs := fun y (hy : y ∈ xs) => hp y (by simp [hy])
    obtain ⟨z, hz⟩ : ∃ z : Nat, x = (z : Int) := ⟨x.toNat, by omega⟩
    subst hz
    rw [ways, Int.toNat_natCast, ih hxs _ (newN_nn f hf z) n]
    constructor
    · rintro ⟨m, h1, h2, h3⟩
      obtain ⟨k, hk, h4⟩ := (newN_pos f hf z (by omega) m).1 h3
      have hk2 : ((k * z : Nat) : Int) = (k : Int) * (z : Int) := by simp
      refine ⟨m - k * z, by omega, ⟨k, by omega, ?_⟩, h4⟩
      rw [show (n : Int) - ((m - k * z : Nat) : Int) - (k : Int) * (z : Int) = (n : Int) - (m : Int) by omega]; exact h2
    · rintro ⟨m, h1, ⟨k, hk, h2⟩, h3⟩
      have hk2 : ((k * z : Nat) : Int) = (k : Int) * (z : Int) := by simp
      refine ⟨m + k * z, by omega, ?_, (newN_pos f hf z (by omega) _).2 ⟨k, by omega, by rw [show m + k * z - k * z = m by omega]; exact h3⟩⟩
      rw [show (n : Int) - ((m + k * z : Nat) : Int) = (n : Int) - (m : Int) - (k : Int) * (z : Int) by omega]; exact h2
/-- One way to take nothing. -/
def one0 : Nat → Int := fun n => if n = 0 then 1 else 0
theorem ways0_pos (ls : List Int) (hp : ∀ x ∈ ls, 1 ≤ x) (n : Nat) : 0 < ways ls one0 n ↔ Can ls (n : Int) := by
  rw [ways_pos ls hp one0 (fun n => by unfold one0; split <;> omega)]
  constructor
  · rintro ⟨m, h1, h2, h3⟩
    have : m = 0 := by
      unfold one0 at h3
      by_cases h : m = 0
      · exact h
      · rw [if_neg h] at h3; omega
    subst this
    simpa using h2
  · intro h
    exact ⟨0, by omega, by simpa using h, by unfold one0; simp⟩
theorem ways0_nn (ls : List Int) (hp : ∀ x ∈ ls, 1 ≤ x) : ∀ (f : Nat → Int), (∀ n, 0 ≤ f n) → ∀ n, 0 ≤ ways ls f n := by
  induction ls with
  | nil => intro f hf n; exact hf n
  | cons x xs ih => intro f hf n; rw [ways]; exact ih (fun y hy => hp y (by simp [hy])) _ (newN_nn f hf _) n
end Go.Proofs.Ytfhaclkjiolmjaa.Q

namespace Go.Proofs.Ytfhaclkjiolmjaa.Q
open Go.RowKit Go.Proofs.YtfhaclkjiolmjaaW.PrintWords Go.Proofs.YtfhaclkjiolmjaaW.PrintLast Go.Proofs.YtfhaclkjiolmjaaW.PrintMore
set_option linter.unusedVariables false
set_option linter.unusedSimpArgs false

theorem p61_small : ∀ d, d ≤ 4 → (1 : Int) * p61 d ≤ 1000000000 := by
  intro d h
  have hd : d = 0 ∨ d = 1 ∨ d = 2 ∨ d = 3 ∨ d = 4 := by omega
  rcases hd with rfl | rfl | rfl | rfl | rfl <;> decide
theorem row_one (R : Nat) : (List.replicate (R + 1) (0 : Int)).set 0 1 = rowF R one0 := by
  apply List.ext_getElem
  · simp [rowF]
  · intro j h1 h2
    rw [List.getElem_set]
    by_cases hj : 0 = j
    · subst hj; simp [rowF, one0]
    · rw [if_neg hj]
      have : ¬ j = 0 := fun h => hj h.symm
      simp [rowF, one0, this]
theorem rdCount_eq (R : Nat) (hR : R ≤ 60) (ls : List Int) (hn : ls.length ≤ 4) (hls : ∀ x ∈ ls, 1 ≤ x ∧ x ≤ 60) (k : Nat) (hk : 500 ≤ k) : spec_rdCount.f k (R : Int) ls = some (rowF R (ways ls one0)) := by
  unfold spec_rdCount.f
  have hw : wrap64 ((R : Int) + 1) = ((R + 1 : Nat) : Int) := by rw [w64 (by omega) (by omega)]; omega
  have h := count_l0 R hR ls (by omega) hls ls.length k 0 one0 1 (by omega) (by omega) (p61_small _ hn) (fun n _ => by unfold one0; split <;> omega) (by omega)
  rw [List.drop_zero] at h
  rw [hw, if_pos (by omega), Int.toNat_natCast, if_pos (by omega), Option.bind_some, if_pos (by rw [List.length_replicate]; omega), show (0 : Int).toNat = 0 from rfl, row_one]
  exact h
theorem rdCan_eq (t : Int) (h0 : 0 ≤ t) (h6 : t ≤ 60) (ls : List Int) (hn : ls.length ≤ 4) (hls : ∀ x ∈ ls, 1 ≤ x ∧ x ≤ 60) (k : Nat) (hk : 500 ≤ k) : ∃ b, spec_rdCan.f k t ls = some b ∧ (b = true ↔ Can ls t) := by
  unfold spec_rdCan.f
  by_cases ht : t = 0
  · rw [if_pos ht]
    subst ht
    exact ⟨_, rfl, ⟨fun _ => can_zero ls, fun _ => rfl⟩⟩
  · rw [if_neg ht]
    cases ls with
    | nil =>
      rw [if_pos (show (([] : List Int).length : Int) = 0 from rfl)]
      refine ⟨_, rfl, ?_⟩
      constructor
      · intro h; exact absurd (by simpa using h) ht
      · intro h; exact absurd h ht
    | cons x xs =>
      rw [if_neg (by simp only [List.length_cons]; omega)]
      obtain ⟨R, rfl⟩ : ∃ R : Nat, t = (R : Int) := ⟨t.toNat, by omega⟩
      rw [rdCount_eq R (by omega) _ hn hls k hk, Option.bind_some, if_pos h0, if_pos (by rw [rowF_length]; omega), rowF_rd R _ R (Nat.le_refl _)]
      refine ⟨_, rfl, ?_⟩
      rw [decide_eq_true_iff]
      exact ways0_pos _ (fun y hy => (hls y hy).1) R
theorem least_l2 (R u : Int) (ls : List Int) (hn : ls.length ≤ 4) (hls : ∀ x ∈ ls, 1 ≤ x ∧ x ≤ 60) (i : Nat) (hi : i < ls.length) (out : List Int) (ho : out.length ≤ 100) (left : Int) (h0 : 0 ≤ left) (h6 : left ≤ 60) (N : Nat) (hN : (N : Int) * ls[i] ≤ left) (hc : Can (ls.drop (i + 1)) (left - (N : Int) * ls[i])) (K : Nat) (hK : 500 ≤ K)
    (hrec : ∀ (k n : Nat), K ≤ k → (n : Int) * ls[i] ≤ left → Can (ls.drop (i + 1)) (left - (n : Int) * ls[i]) → ∃ p, spec_LeastWaste.l1 k R ls u (out ++ [(n : Int)]) (left - (n : Int) * ls[i]) ls (ls.length : Int) ((i + 1 : Nat) : Int) = some (wrap64 (R - u), out ++ [(n : Int)] ++ p, true) ∧ FirstOf (ls.drop (i + 1)) (left - (n : Int) * ls[i]) p) :
    ∀ d k n, n + d = N → K + d < k → (∀ m : Nat, m < n → ¬ Can (ls.drop (i + 1)) (left - (m : Int) * ls[i])) →
      ∃ p, spec_LeastWaste.l2 k R ls u out left (i : Int) ls[i] (n : Int) ls (ls.length : Int) (i : Int) = some (wrap64 (R - u), out ++ p, true) ∧ FirstOf (ls.drop i) left p := by
  intro d
  induction d with
  | zero =>
    intro k n hnd hk hmin
    obtain ⟨k, rfl⟩ : ∃ m, k = m + 1 := ⟨k - 1, by omega⟩
    obtain rfl : n = N := by omega
    have hx := hls _ (List.getElem_mem hi)
    have hnx := mul_nn n _ hx.1
    obtain ⟨b, hb, hbc⟩ := rdCan_eq (left - (n : Int) * ls[i]) (by omega) (by omega) (ls.drop (i + 1)) (by rw [List.length_drop]; omega) (fun x hx => hls x (List.mem_of_mem_drop hx)) k (by omega)
    obtain ⟨p, hp, hF⟩ := hrec k n (by omega) hN hc
    refine ⟨(n : Int) :: p, ?_, ?_⟩
    · rw [spec_LeastWaste.l2, w64 (i := (i : Int) + 1) (by omega) (by omega), if_pos (by omega), if_pos (by omega), w64 (i := (n : Int) * ls[i]) (by omega) (by omega), w64 (i := left - (n : Int) * ls[i]) (by omega) (by omega), show ((i : Int) + 1).toNat = i + 1 by omega, hb, Option.bind_some, if_pos (hbc.2 hc), if_pos (by omega), show (i : Int) + 1 = ((i + 1 : Nat) : Int) by omega, hp]
      simp
    · rw [List.drop_eq_getElem_cons hi]
      exact .cons _ _ _ n p hN hmin hF
  | succ d ih =>
    intro k n hnd hk hmin
    obtain ⟨k, rfl⟩ : ∃ m, k = m + 1 := ⟨k - 1, by omega⟩
    have hx := hls _ (List.getElem_mem hi)
    have hnx := mul_nn n _ hx.1
    have hle : (n : Int) * ls[i] ≤ (N : Int) * ls[i] := Int.mul_le_mul_of_nonneg_right (by omega) (by omega)
    have hn6 : (n : Int) ≤ 60 := by
      have : (n : Int) * 1 ≤ (n : Int) * ls[i] := Int.mul_le_mul_of_nonneg_left hx.1 (by omega)
      omega
    obtain ⟨b, hb, hbc⟩ := rdCan_eq (left - (n : Int) * ls[i]) (by omega) (by omega) (ls.drop (i + 1)) (by rw [List.length_drop]; omega) (fun x hx => hls x (List.mem_of_mem_drop hx)) k (by omega)
    cases b with
    | true =>
      have hcn := hbc.1 rfl
      obtain ⟨p, hp, hF⟩ := hrec k n (by omega) (by omega) hcn
      refine ⟨(n : Int) :: p, ?_, ?_⟩
      · rw [spec_LeastWaste.l2, w64 (i := (i : Int) + 1) (by omega) (by omega), if_pos (by omega), if_pos (by omega), w64 (i := (n : Int) * ls[i]) (by omega) (by omega), w64 (i := left - (n : Int) * ls[i]) (by omega) (by omega), show ((i : Int) + 1).toNat = i + 1 by omega, hb, Option.bind_some, if_pos rfl, if_pos (by omega), show (i : Int) + 1 = ((i + 1 : Nat) : Int) by omega, hp]
        simp
      · rw [List.drop_eq_getElem_cons hi]
        exact .cons _ _ _ n p (by omega) hmin hF
    | false =>
      have hcn : ¬ Can (ls.drop (i + 1)) (left - (n : Int) * ls[i]) := fun h => by have := hbc.2 h; cases this
      obtain ⟨p, hp, hF⟩ := ih k (n + 1) (by omega) (by omega) (fun m hm => by
        by_cases h : m = n
        · subst h; exact hcn
        · exact hmin m (by omega))
      refine ⟨p, ?_, hF⟩
      rw [spec_LeastWaste.l2, w64 (i := (i : Int) + 1) (by omega) (by omega), if_pos (by omega), if_pos (by omega), w64 (i := (n : Int) * ls[i]) (by omega) (by omega), w64 (i := left - (n : Int) * ls[i]) (by omega) (by omega), show ((i : Int) + 1).toNat = i + 1 by omega, hb, Option.bind_some, if_neg (by decide), w64 (i := (n : Int) + 1) (by omega) (by omega), show (n : Int) + 1 = ((n + 1 : Nat) : Int) by omega]
      exact hp
theorem least_l1 (R u : Int) (ls : List Int) (hR : 0 ≤ R ∧ R ≤ 60) (hu : 0 ≤ u ∧ u ≤ R) (hn : ls.length ≤ 4) (hls : ∀ x ∈ ls, 1 ≤ x ∧ x ≤ 60) : ∀ (d k i : Nat) (out : List Int) (left : Int), i + d = ls.length → out.length = i → 0 ≤ left → left ≤ 60 → Can (ls.drop i) left → 500 + 100 * d < k →
    ∃ p, spec_LeastWaste.l1 k R ls u out left ls (ls.length : Int) (i : Int) = some (wrap64 (R - u), out ++ p, true) ∧ FirstOf (ls.drop i) left p := by
  intro d
  induction d with
  | zero =>
    intro k i out left hi ho h0 h6 hc hk
    obtain ⟨k, rfl⟩ : ∃ m, k = m + 1 := ⟨k - 1, by omega⟩
    rw [List.drop_of_length_le (by omega)] at hc ⊢
    have hl : left = 0 := hc
    subst hl
    exact ⟨[], by rw [spec_LeastWaste.l1, if_neg (by omega), List.append_nil], .nil⟩
  | succ d ih =>
    intro k i out left hi ho h0 h6 hc hk
    obtain ⟨k, rfl⟩ : ∃ m, k = m + 1 := ⟨k - 1, by omega⟩
    have hlt : i < ls.length := by omega
    have hx := hls _ (List.getElem_mem hlt)
    rw [List.drop_eq_getElem_cons hlt] at hc
    obtain ⟨N, hN, hcN⟩ := hc
    have hN6 : (N : Int) ≤ 60 := by
      have : (N : Int) * 1 ≤ (N : Int) * ls[i] := Int.mul_le_mul_of_nonneg_left hx.1 (by omega)
      omega
    rw [spec_LeastWaste.l1, if_pos (by omega), if_pos (by omega), if_pos (by omega), rd_nat ls i hlt]
    have := least_l2 R u ls hn hls i hlt out (by omega) left h0 h6 N hN hcN (500 + 100 * d + 1) (by omega) (fun k n hk hn' hcn => by
      have hnx := mul_nn n _ hx.1
      exact ih k (i + 1) (out ++ [(n : Int)]) (left - (n : Int) * ls[i]) (by omega) (by simp [ho]) (by omega) (by omega) hcn (by omega)) N k 0 (by omega) (by omega) (fun m hm => by omega)
    rw [Int.natCast_zero] at this
    exact this
theorem least_l0 (R : Nat) (ls : List Int) (hR : R ≤ 60) (hn : ls.length ≤ 4) (hls : ∀ x ∈ ls, 1 ≤ x ∧ x ≤ 60) : ∀ (u k : Nat), u ≤ R → (∀ v : Int, (u : Int) < v → v ≤ (R : Int) → ¬ Can ls v) → 1000 + u < k →
    ∃ (t : Int) (p : List Int), spec_LeastWaste.l0 k (R : Int) ls (u : Int) = some ((R : Int) - t, p, true) ∧ FirstOf ls t p ∧ 0 ≤ t ∧ t ≤ (R : Int) ∧ ∀ v, t < v → v ≤ (R : Int) → ¬ Can ls v := by
  intro u
  induction u with
  | zero =>
    intro k hu hmax hk
    obtain ⟨k, rfl⟩ : ∃ m, k = m + 1 := ⟨k - 1, by omega⟩
    have hc0 := can_zero ls
    have hw := (ways0_pos ls (fun x hx => (hls x hx).1) 0).2 (by simpa using hc0)
    obtain ⟨p, hp, hF⟩ := least_l1 (R : Int) 0 ls (by omega) (by omega) hn hls ls.length k 0 [] 0 (by omega) rfl (by omega) (by omega) (by rw [List.drop_zero]; exact hc0) (by omega)
    refine ⟨0, p, ?_, by rw [List.drop_zero] at hF; exact hF, by omega, by omega, fun v h1 h2 => hmax v (by omega) h2⟩
    rw [spec_LeastWaste.l0, rdCount_eq R hR ls hn hls k (by omega), Option.bind_some, if_pos (by omega), if_pos (by rw [rowF_length]; omega), rowF_rd R _ 0 (by omega), if_neg (by omega)]
    rw [Int.natCast_zero] at hp ⊢
    rw [hp, w64 (by omega) (by omega)]; rfl
  | succ u ih =>
    intro k hu hmax hk
    obtain ⟨k, rfl⟩ : ∃ m, k = m + 1 := ⟨k - 1, by omega⟩
    have hnn := ways0_nn ls (fun x hx => (hls x hx).1) one0 (fun n => by unfold one0; split <;> omega) (u + 1)
    have hw := ways0_pos ls (fun x hx => (hls x hx).1) (u + 1)
    by_cases hz : ways ls one0 (u + 1) = 0
    · have hnc : ¬ Can ls ((u + 1 : Nat) : Int) := fun h => by have := hw.2 h; omega
      obtain ⟨t, p, h1, h2⟩ := ih k (by omega) (fun v h1 h2 hc => by
        by_cases hv : v = ((u + 1 : Nat) : Int)
        · subst hv; exact hnc hc
        · exact hmax v (by omega) h2 hc) (by omega)
      refine ⟨t, p, ?_, h2⟩
      rw [spec_LeastWaste.l0, rdCount_eq R hR ls hn hls k (by omega), Option.bind_some, if_pos (by omega), if_pos (by rw [rowF_length]; omega), rowF_rd R _ (u + 1) (by omega), if_pos hz, w64 (by omega) (by omega), show ((u + 1 : Nat) : Int) - 1 = (u : Int) by omega]
      exact h1
    · have hc := hw.1 (by omega)
      obtain ⟨p, hp, hF⟩ := least_l1 (R : Int) ((u + 1 : Nat) : Int) ls (by omega) (by omega) hn hls ls.length k 0 [] ((u + 1 : Nat) : Int) (by omega) rfl (by omega) (by omega) (by rw [List.drop_zero]; exact hc) (by omega)
      refine ⟨((u + 1 : Nat) : Int), p, ?_, by rw [List.drop_zero] at hF; exact hF, by omega, by omega, hmax⟩
      rw [spec_LeastWaste.l0, rdCount_eq R hR ls hn hls k (by omega), Option.bind_some, if_pos (by omega), if_pos (by rw [rowF_length]; omega), rowF_rd R _ (u + 1) (by omega), if_neg hz]
      rw [Int.natCast_zero] at hp
      rw [hp, w64 (by omega) (by omega)]; rfl
theorem first_len : ∀ (ls : List Int) (t : Int) (p : List Int), FirstOf ls t p → p.length = ls.length := by
  intro ls t p h
  induction h with
  | nil => rfl
  | cons x xs t n p h1 h2 h3 ih => simp [ih]
theorem leastWaste_both (a0 : Int) (l1 : List Int) (hl : l1.length ≤ 10000000) : ∃ r, Ev (fun k => spec_LeastWaste.f k a0 l1) r ∧ Ev (fun _ => impl_LeastWaste.f a0 l1) r ∧ r.2.1.length ≤ 10000000 := by
  by_cases hB : ((decide (1 ≤ a0) && decide (a0 ≤ 60)) && lengthsB l1) = true
  · have hB2 := hB
    unfold lengthsB okR at hB2
    simp only [Bool.and_eq_true, decide_eq_true_eq, List.all_eq_true] at hB2
    obtain ⟨⟨h1, h6⟩, ⟨hn1, hn4⟩, hok, _⟩ := hB2
    have hls : ∀ x ∈ l1, 1 ≤ x ∧ x ≤ 60 := hok
    obtain ⟨R, rfl⟩ : ∃ R : Nat, a0 = (R : Int) := ⟨a0.toNat, by omega⟩
    obtain ⟨t, p, _, hF, ht0, htR, hmax⟩ := least_l0 R l1 (by omega) (by omega) hls R 2000 (Nat.le_refl _) (fun v h1 h2 => by omega) (by omega)
    refine ⟨((R : Int) - t, p, true), ⟨2000 + l1.length, fun k hk => ?_⟩, ⟨0, fun k _ => ?_⟩, ?_⟩
    · show spec_LeastWaste.f k _ _ = _
      unfold spec_LeastWaste.f
      rw [rdAsked_eq _ l1 (by omega) k (by omega), Option.bind_some, if_pos hB]
      obtain ⟨t', p', he, hF', ht0', htR', hmax'⟩ := least_l0 R l1 (by omega) (by omega) hls R k (Nat.le_refl _) (fun v h1 h2 => by omega) (by omega)
      have e1 := leastV_eq (R : Int) t l1 p (by omega) (fun x hx => (hls x hx).1) ⟨ht0, htR⟩ hF hmax
      have e2 := leastV_eq (R : Int) t' l1 p' (by omega) (fun x hx => (hls x hx).1) ⟨ht0', htR'⟩ hF' hmax'
      rw [e1] at e2
      injection e2 with e3 e4
      rw [he, e3, e4]
    · show impl_LeastWaste.f _ _ = _
      have hsh : shortB (R : Int) l1 = true := by
        unfold shortB
        simp only [Bool.and_eq_true, decide_eq_true_eq, List.all_eq_true]
        exact ⟨⟨⟨by omega, h6⟩, by omega⟩, hls⟩
      unfold impl_LeastWaste.f impl_LeastWaste.fk
      rw [areRod_eq _ l1 (by omega) _ (by omega), Option.bind_some, if_pos hB, if_pos hsh, leastV_eq (R : Int) t l1 p (by omega) (fun x hx => (hls x hx).1) ⟨ht0, htR⟩ hF hmax]
    · show p.length ≤ 10000000
      rw [first_len _ _ _ hF]; omega
  · have hB' : ((decide (1 ≤ a0) && decide (a0 ≤ 60)) && lengthsB l1) = false := by simpa using hB
    refine ⟨(0, [], false), ⟨l1.length + 2, fun k hk => ?_⟩, ⟨0, fun k _ => ?_⟩, by simp⟩
    · show spec_LeastWaste.f k _ _ = _
      unfold spec_LeastWaste.f
      rw [rdAsked_eq _ l1 (by omega) k (by omega), Option.bind_some, hB', if_neg (by decide)]
    · show impl_LeastWaste.f _ _ = _
      unfold impl_LeastWaste.f impl_LeastWaste.fk
      rw [areRod_eq _ l1 (by omega) _ (by omega), Option.bind_some, hB', if_neg (by decide)]
end Go.Proofs.Ytfhaclkjiolmjaa.Q

namespace Go.Proofs.Ytfhaclkjiolmjaa.Pure
open Go.RowKit Go.Proofs.Ytfhaclkjiolmjaa.Q Go.Proofs.YtfhaclkjiolmjaaW.PrintWords Go.Proofs.YtfhaclkjiolmjaaW.PrintLast
set_option linter.unusedVariables false
set_option linter.unusedSimpArgs false

set_option maxHeartbeats 2000000 in
set_option maxRecDepth 10000 in
theorem FnExactLeastWaste : ∀ (a0 : Int) (l1 : List Int), (Lit.int .i64 a0).wf = true → l1.length ≤ maxLen → l1.length * 8 ≤ 140737488351232 → (∀ x ∈ l1, (Lit.int .i64 x).wf = true) → ∃ k, laws_FnExactLeastWaste.f k a0 l1 = some true := by
  intro a0 l1 w0 _ h1 g1
  refine Ev.rounds (g := fun k => laws_FnExactLeastWaste.f k a0 l1) ?_
  by_cases hl1 : l1.length ≤ 1048576
  · skip
    obtain ⟨r, hs, hi, hb1⟩ := leastWaste_both a0 l1 (by omega)
    simp only [laws_FnExactLeastWaste.f, Option.bind_some]
    repeat' (first
      | exact Ev_some _
      | (simp (disch := omega) only [Option.bind_some, if_neg, if_pos, bne_self_eq_false, Bool.false_eq_true, if_false, if_true, eq_self])
      | refine Ev.bind (toIntS_ev l1 (by omega)) ?_
      | refine Ev.bind (eqIntS_ev l1 (by omega)) ?_
      | refine Ev.bind (markIntS_ev l1 (by omega) _ (by omega) (by omega)) ?_
      | refine Ev.bind hs ?_
      | refine Ev.bind hi ?_
      | refine Ev.bind (eqIntS_ev r.2.1 hb1) ?_
      | refine Ev.bind (markIntS_ev r.2.1 hb1 1 (by omega) (by omega)) ?_
      | refine Ev.bind (heldIntS_ev r.2.1.length hb1 1 (by omega) (by omega)) ?_
      | refine Ev.step (fun k => by rw [laws_FnExactLeastWaste.j0]) ?_
      | refine Ev.step (fun k => by rw [laws_FnExactLeastWaste.j1]) ?_
      | refine Ev.step (fun k => by rw [laws_FnExactLeastWaste.j2]) ?_)
  · simp (disch := omega) only [laws_FnExactLeastWaste.f, if_pos, if_neg]
    exact Ev_some _
end Go.Proofs.Ytfhaclkjiolmjaa.Pure

namespace Go.Proofs.Ytfhaclkjiolmjaa.HO
open Go.ChangeShapes Go.WideShapes Go.Deep Go.RowKit Go.Proofs.YtfhaclkjiolmjaaW.PrintWords
set_option linter.unusedVariables false
section
variable {H : Type} {enc : TypeId × Value → H} {P : Program} {w : World} {base : Nat} {spare : Nat → Bool} {held : Bool}

/-- A slice of structs of n whole numbers each, opened: F i j is field j of element i. -/
theorem open_ints_struct {t e : TypeId} {fs : Array Field} {fuel : Nat} {cs : List Value} {x : DataW H × List MemPlace} (ht : P.underlying t = some (.slice e)) (he : P.underlying e = some (.struct fs))
    (hone : oneCellFields P fs = true) (hC : P.cellsOf e = fs.size) (hk : ∀ (j : Nat) (f : Field), fs[j]? = some f → P.underlying f.type = some (.int .i64)) (h : DataW.trod enc P w base spare held fuel t cs = some x) :
    (cs = [.slice none 0 0] ∧ x = (.nil, [])) ∨
    ∃ (a : Addr) (len cap : Nat) (F : Nat → Nat → Int) (el sp : List (DataW H)) (ps : List MemPlace), cs = [.slice (some a) len cap] ∧ len ≤ cap ∧ cap ≤ maxLen ∧ x = (.slice el sp, ps) ∧ el.length = len ∧
      ∀ i, i < len → ∀ j, j < fs.size → w.cell? (a.add (i * fs.size + j)) = some (.int .i64 (F i j)) ∧ (Lit.int .i64 (F i j)).wf = true := by
  rcases open_slice ht h with h0 | ⟨a, len, cap, m, n, D, Pl, hcs, hb, hl, hm, hmm, hx, hi⟩
  · exact .inl h0
  · have hlm : len ≤ m := by rw [hmm]; split <;> omega
    have key : ∀ i, i < len → ∃ G : Nat → Int, ∀ j, j < fs.size → w.cell? (a.add (i * fs.size + j)) = some (.int .i64 (G j)) ∧ (Lit.int .i64 (G j)).wf = true := fun i hil => by
      obtain ⟨cs', hc, ht'⟩ := hi i (by omega)
      rw [hC] at hc
      obtain ⟨ys, n', hn', hy, hlen, hyl, hf⟩ := DataW.trod_struct he ht'
      obtain ⟨_, hcl, hat⟩ := World.cells?_some hc
      refine choose_lt (α := Int) (p := fun j v => w.cell? (a.add (i * fs.size + j)) = some (.int .i64 v) ∧ (Lit.int .i64 v).wf = true) (fun j hj => ?_)
      have hfj : fs[j]? = some fs[j] := Array.getElem?_eq_getElem hj
      obtain ⟨ho, hk1⟩ := hone_of hone j _ hfj
      have hcell := hat j hj
      have hv : cs'[j]? = some (cs'[j]'(by omega)) := List.getElem?_eq_getElem (by omega)
      have h1 := hf j _ hfj
      rw [ho, hk1] at h1
      have hone' : (cs'.drop j).take 1 = [cs'[j]'(by omega)] := by
        rw [List.drop_eq_getElem_cons (by omega)]
        rfl
      rw [hone'] at h1
      have hys : ys[j]? = some (ys[j]'(by omega)) := List.getElem?_eq_getElem (by omega)
      obtain ⟨v, e0, _, wv⟩ := DataW.trod_int (hk j _ hfj) (h1.trans hys)
      refine ⟨v, ?_, wv⟩
      rw [← Go.Deep.add_add, hcell, hv]
      simp only [List.cons.injEq, and_true] at e0
      rw [e0]
    obtain ⟨F, hF⟩ := choose_lt (α := Nat → Int) (p := fun i G => ∀ j, j < fs.size → w.cell? (a.add (i * fs.size + j)) = some (.int .i64 (G j)) ∧ (Lit.int .i64 (G j)).wf = true) key
    exact .inr ⟨a, len, cap, F, _, _, _, hcs, hl, hm, hx, by simp, hF⟩

/-- The same of an argument: the numbers, and how many at most. -/
theorem open_structs {t e : TypeId} {fs : Array Field} {a : Option Addr} {len cap : Nat} {d : DataW H} {ps : List MemPlace} {ts : List TypeId} {ds : List (DataW H)} {j : Nat}
    (hsz : (DataW.weightsEach P ts ds).all (· ≤ reachBytes) = true) (htj : ts[j]? = some t) (hdj : ds[j]? = some d) (ht : P.underlying t = some (.slice e)) (he : P.underlying e = some (.struct fs))
    (hone : oneCellFields P fs = true) (hC : P.cellsOf e = fs.size) (hk : ∀ (j : Nat) (f : Field), fs[j]? = some f → P.underlying f.type = some (.int .i64)) {B : Nat} (hB : P.bytesOf e = B)
    (h : DataW.Trod enc P w base spare held t (.slice a len cap) d ps) :
    ∃ F : Nat → Nat → Int, len ≤ cap ∧ len ≤ maxLen ∧ len * B ≤ 140737488351232 ∧ (0 < len → ∃ ad, a = some ad ∧ ∀ i, i < len → ∀ j, j < fs.size → w.cell? (ad.add (i * fs.size + j)) = some (.int .i64 (F i j))) ∧ ∀ i, i < len → ∀ j, j < fs.size → (Lit.int .i64 (F i j)).wf = true := by
  obtain ⟨fuel, hf⟩ := h
  rcases open_ints_struct ht he hone hC hk hf with ⟨hcs, _⟩ | ⟨x, l, c, F, el, sp, ps', hcs, hl, hm, hx, hel, hF⟩
  · simp [Value.cells] at hcs
    obtain ⟨rfl, rfl, rfl⟩ := hcs
    exact ⟨fun _ _ => 0, by omega, by omega, by omega, fun h => absurd h (by omega), fun i hi => absurd hi (by omega)⟩
  · simp [Value.cells] at hcs
    obtain ⟨rfl, rfl, rfl⟩ := hcs
    obtain ⟨hx, _⟩ := Prod.mk.inj hx
    subst hx
    have z := sized_slice hsz htj hdj ht
    rw [hB, hel] at z
    refine ⟨F, hl, by omega, ?_, fun _ => ⟨x, rfl, fun i hi j hj => (hF i hi j hj).1⟩, fun i hi j hj => (hF i hi j hj).2⟩
    have : reachBytes = 140737488351232 := by decide
    rw [this] at z
    exact Nat.le_trans (Nat.mul_le_mul_right _ (by omega)) z

/-- A struct of two whole numbers, by value. -/
theorem open_pair {r : Reach} {b0 : Nat} {t : TypeId} {f0 f1 : Field} {v : Value} {d : DataW H} {p : List MemPlace} (hs : P.underlying t = some (.struct #[f0, f1])) (hone : oneCellFields P #[f0, f1] = true) (hC : P.cellsOf t = 2)
    (h0 : P.underlying f0.type = some (.int .i64)) (h1 : P.underlying f1.type = some (.int .i64)) (hv : Value.okWide P w r b0 t v) (h : DataW.Trod enc P w base spare held t v d p) :
    ∃ x y : Int, v = .agg #[.int .i64 x, .int .i64 y] ∧ p = [] ∧ (Lit.int .i64 x).wf = true ∧ (Lit.int .i64 y).wf = true := by
  obtain ⟨v0, v1, y0, y1, n, rfl, rfl, rfl, g0, g1⟩ := Go.Joins.open_agg2 hs hone hC hv h
  obtain ⟨x, e0, rfl, w0⟩ := DataW.trod_int h0 g0
  obtain ⟨y, e1, rfl, w1⟩ := DataW.trod_int h1 g1
  simp only [List.cons.injEq, and_true] at e0 e1
  subst e0 e1
  exact ⟨x, y, rfl, rfl, w0, w1⟩
end
end Go.Proofs.Ytfhaclkjiolmjaa.HO

namespace Go.Proofs.Ytfhaclkjiolmjaa.fnExactLeastWaste
open Go.ChangeShapes Go.WideShapes Go.ChangeAt Go.RowKit Go.Proofs.YtfhaclkjiolmjaaW Go.Proofs.YtfhaclkjiolmjaaW.PrintWords
open Go.ChangeMaps (open_string shut_string)
set_option linter.unusedVariables false
theorem own : ownKnob Try.prog.godebug = none := by kernel_rfl
theorem laidOut : laidOutB Try.prog = true := by kernel_rfl
def IsRow (k : IntKind) (w : World) (a : Option Addr) (len cap : Nat) (zs : List Int) : Prop :=
  (a = none ∧ len = 0 ∧ cap = 0 ∧ zs = []) ∨
  ∃ x, a = some x ∧ len ≤ cap ∧ cap ≤ maxLen ∧ zs.length = cap ∧ (∀ i, i < zs.length → w.cell? (x.add i) = some (.int k (zs.getD i 0))) ∧ ∀ n ∈ zs, (Lit.int k n).wf = true
set_option maxRecDepth 100000 in
theorem lifted (os : Os) (started : os.Started) (H : Type) (enc : TypeId × Value → H) :
    ReturnsInHanded {} Try.checked os 3 .any (Rows.fnExactLeastWasteSpec.pre6 enc Try.prog Try.f3 Rows.fnExactLeastWasteRow.domain false) (Rows.fnExactLeastWasteSpec.post enc Try.prog Try.f3 false true false false) := by
  refine returnsInHanded_of_change_sized (C := Try.checked) own started (by kernel_rfl) Try.func3
    (ChangeSpec.witness6 (enc := enc) (C := Try.checked) false ⟨#[], #[.int .i64 0, .slice none 0 0], []⟩ 8 (by kernel_rfl) (by kernel_rfl) (by kernel_rfl) (by kernel_rfl)) ?_
  intro W base args ds gs before hval0 hW hcnd hsz0 _
  have hsz : (DataW.weightsEach Try.prog (Try.f3.params.toList ++ Rows.fnExactLeastWasteSpec.plain.varTypes Try.prog) (ds ++ gs)).all (· ≤ reachBytes) = true := hsz0
  have hval : ∀ (j : Nat) t v, Try.f3.params[j]? = some t → args[j]? = some v → Value.okWide Try.prog W .any base t v := hval0
  have hW' := hW
  obtain ⟨p, q, hA0, hV, rfl, hfz, hnd⟩ := hW
  have hA : DataW.TrodAll enc Try.prog W 0 (fun _ => true) true Try.f3.params.toList args.toList ds p := hA0
  rw [Try.params3] at hA hval hsz
  obtain ⟨v0, vs0, d0, ds0, p0, q0, hargs, rfl, rfl, h0, r0⟩ := trodAll_cons hA
  obtain ⟨v1, vs1, d1, ds1, p1, q1, rfl, rfl, rfl, h1, r1⟩ := trodAll_cons r0
  obtain ⟨rfl, rfl, rfl⟩ := trodAll_nil r1
  obtain rfl : args = #[v0, v1] := by cases args; simp_all
  obtain ⟨rfl, rfl⟩ := trodVars_none hV
  obtain ⟨a0, rfl, rfl, rfl, w0⟩ := open_int Try.underlying3 (hval 0 3 v0 rfl rfl) h0
  obtain ⟨a1, len1, cap1, rfl⟩ := okWide_slice Try.underlying22 (hval 1 22 v1 rfl rfl)
  have k1 := h1
  have lt1 : ∀ x ∈ p1, x.block < W.heap.size := by obtain ⟨m, hm⟩ := k1; exact DataW.trod_lt m _ _ _ hm
  obtain ⟨z1, w1⟩ : ∃ zs, IsRow .i64 W a1 len1 cap1 zs := by
    obtain ⟨fuel, hf⟩ := h1
    rcases open_ints Try.underlying22 Try.underlying3 (by kernel_rfl) hf with ⟨hcs, _⟩ | ⟨x, l, c, zs, hcs, _, hl, hm, hz, _, hcell, hwz⟩
    · simp [Value.cells] at hcs
      obtain ⟨rfl, rfl, rfl⟩ := hcs
      exact ⟨[], .inl ⟨rfl, rfl, rfl, rfl⟩⟩
    · simp [Value.cells] at hcs
      obtain ⟨rfl, rfl, rfl⟩ := hcs
      exact ⟨zs, .inr ⟨_, rfl, hl, hm, by simpa using hz, hcell, hwz⟩⟩
  have y1 : len1 * 8 ≤ 140737488351232 := PrintWords.sized_ints hsz (j := 1) (t := 22) rfl rfl Try.underlying22 Try.underlying3 (by kernel_rfl) (by kernel_rfl) h1
  clear hA0 hval0 hsz0 hsz
  obtain ⟨l1, rfl, hr1, hm1, hw1, hc1⟩ := ReadsInt.ofRowC w1
  obtain ⟨k, hh⟩ := Pure.FnExactLeastWaste a0 l1 w0 hm1 y1 hw1
  refine (Q.laws_FnExactLeastWaste.calls k a0 _ _ l1 true W (Kd.C_of_reads (d := (0 : Int)) (h1 := fun _ => rfl) hr1) hc1 hh).mono fun e W' ⟨he, bel⟩ => ?_
  subst he
  exact ⟨_, rfl, _, _, _, [], _, [], hW', trodAll_mk1 (shut_bool Try.underlying4 _), (trodAll_cons_mk (shut_int Try.underlying3 w0) (trodAll_cons_mk (Below.trod laidOut (by kernel_rfl) (of_decide_eq_true (by kernel_rfl)) k1 bel lt1) trodAll_mk0)), rfl, bel.frame _, fun h => by cases h⟩
theorem over : Rows.fnExactLeastWasteRow.holds Try.pinned (OpenSpec.ofChange Rows.fnExactLeastWasteSpec) :=
  OpenClaim.holds_of_wide 3 Try.f3 rfl rfl rfl rfl rfl rfl rfl ⟨rfl, rfl, rfl, rfl, rfl⟩ rfl rfl rfl rfl rfl (by kernel_rfl) Try.func3 (by kernel_rfl)
    (of_decide_eq_true (by kernel_rfl)) (by unfold Func.isWrapper; first | (rw [if_pos (by decide +kernel)]; kernel_rfl) | (rw [if_neg (by decide +kernel)]; exact ⟨rfl, rfl⟩))
    (fun os started H enc _ => lifted os started H enc)
theorem proved : Rows.FnExactLeastWasteSaid := over
#print axioms proved
end Go.Proofs.Ytfhaclkjiolmjaa.fnExactLeastWaste
namespace Go.Proofs.Ytfhaclkjiolmjaa
/-- The row, under a short name, for the claim. -/
theorem fnExactLeastWaste_holds : Rows.FnExactLeastWasteSaid := fnExactLeastWaste.proved
end Go.Proofs.Ytfhaclkjiolmjaa
