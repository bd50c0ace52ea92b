/-
  Part 3 of the proof of FnExactCountSafeOrders: what Go functions that it reaches compute, each shown by a walk of its code, and plain laws on numbers and lists.
  CONDITIONS: each theorem's own, as stated.
-/
import Derived.Test.YtbmefldckdaopaaZFnExactCountSafeOrders1
import Derived.Test.YtbmefldckdaopaaZFnExactCountSafeOrders2
import Derived.Laws.EntriesVeiled
namespace Go.Proofs.Ytbmefldckdaopaa.Q
open Go.RowKit Go.Proofs.YtbmefldckdaopaaW.PrintWords Go.Proofs.YtbmefldckdaopaaW.PrintLast Go.Proofs.YtbmefldckdaopaaW.PrintMore
attribute [local go_sem] max2_int min2_int max_two min_two max_three min_three max_four min_four   -- for this text's walks alone
set_option linter.unusedVariables false
set_option linter.unusedSimpArgs false

/-! ### laws_markIntS: function 32 -/
def laws_markIntS.l0 : Nat → List Int → Int → Int → Option (Int × List Int)
  | 0, _, _, _ => none
  | k + 1, x0, x1, x5 => if x5 < (x0.length : Int) then (if 0 ≤ x5 then (laws_markIntS.l0 k (x0.set (x5 : Int).toNat x1) (wrap64 (x1 + 1)) (wrap64 (x5 + 1))) else (none)) else (some (x1, x0))
def laws_markIntS.f (k : Nat) (l0 : List Int) (a1 : Int) : Option (Int × List Int) := laws_markIntS.l0 k l0 a1 0
theorem laws_markIntS.mono_l : ∀ k, (∀ y0 y1 y2, LeO (laws_markIntS.l0 k y0 y1 y2) (laws_markIntS.l0 (k + 1) y0 y1 y2))
  | 0 => fun _ _ _ r h => by simp [laws_markIntS.l0] at h
  | k + 1 => by
    have ih0 := laws_markIntS.mono_l k
    · intro y0 y1 y2
      unfold laws_markIntS.l0
      repeat' first
      | (with_reducible exact ih0 _ _ _)
      | (with_reducible exact LeO.refl _)
      | (with_reducible exact LeO.none _)
      | (with_reducible refine LeO.ite ?_ ?_)
      | (with_reducible refine LeO.bind ?_ (fun _ => ?_))
      | exact ih0 _ _ _
      | exact LeO.none _
      | refine LeO.ite ?_ ?_
      | refine LeO.bind ?_ (fun _ => ?_)
theorem laws_markIntS.mono : ∀ a0 a1 k, LeO (laws_markIntS.f k a0 a1) (laws_markIntS.f (k + 1) a0 a1) := by
  intro a0 a1 k
  have ih0 := laws_markIntS.mono_l k
  unfold laws_markIntS.f
  repeat' first
      | (with_reducible exact ih0 _ _ _)
      | (with_reducible exact LeO.refl _)
      | (with_reducible exact LeO.none _)
      | (with_reducible refine LeO.ite ?_ ?_)
      | (with_reducible refine LeO.bind ?_ (fun _ => ?_))
      | exact ih0 _ _ _
      | exact LeO.none _
      | refine LeO.ite ?_ ?_
      | refine LeO.bind ?_ (fun _ => ?_)
set_option maxHeartbeats 8000000 in
set_option maxRecDepth 100000 in
theorem laws_markIntS.calls (k : Nat) (P0_ : Nat → Prop) (u9000_ : Value) (l0 : List Int) (a1 : Int) (r1 : Int) (r2 : List Int) (w0 w : World) (hB : Below w0.heap.size w0 w) (ho0 : Kd.R (Kd.int .i64) 3 w w0.heap.size P0_ u9000_ l0) (h : laws_markIntS.f k l0 a1 = some (r1, r2)) :
    Calls Try.prog 32 #[u9000_, .int .i64 a1] w fun e w' => e = .returned (.int .i64 r1) ∧ Kd.R (Kd.int .i64) 3 w' w0.heap.size (fun k_ => (P0_ k_ ∨ w.heap.size ≤ k_)) u9000_ r2 ∧ Below w0.heap.size w0 w' ∧ Kept w w' (fun k_ => P0_ k_) := by
  have HO0 := Aside0.mk (show Kd.R (Kd.int .i64) 3 w w0.heap.size (fun k_ => (P0_ k_ ∨ w.heap.size ≤ k_)) u9000_ l0 from Kd.R_mono ho0 (fun k_ hk => (.inl hk)))
  have HK := Aside0.mk (Kept.refl w (fun k_ => P0_ k_))
  have HW0 := Aside0.mk hB.size
  have HB := Aside0.mk hB
  clear hB
  have H : (laws_markIntS.l0 k l0 a1 0) = some (r1, r2) := h
  clear h
  have H' := Aside0.mk H
  clear H
  go_enter Try.func32, Try.ntmps32
  go_wp2
  go_loopg [1, 5] k (fun kq v1 v5 w' => ∃ (x0_1 : List Int) (x1_1 : Int) (x5_1 : Int), v1 = .int .i64 x1_1 ∧ v5 = .int .i64 x5_1 ∧ Aside0 (laws_markIntS.l0 kq x0_1 x1_1 x5_1 = some (r1, r2)) ∧ Aside0 (kq ≤ k) ∧ Aside0 (Kd.R (Kd.int .i64) 3 w' w0.heap.size (fun k_ => (P0_ k_ ∨ w.heap.size ≤ k_)) u9000_ x0_1) ∧ Aside0 (Kept w w' (fun k_ => P0_ k_)) ∧ Aside0 (Below w0.heap.size w0 w'))
  case atStart => exact ⟨(l0), (a1), (0), (by first | rfl | (simp; done) | (simp [*]; done)), (by first | rfl | (simp; done) | (simp [*]; done)), H', ⟨Nat.le_refl _⟩, ⟨by (with_reducible repeat (first | apply Kd.R_alloc | apply Kd.R_drewN | apply Kd.R_drew)); exact HO0.out⟩, ⟨by repeat (first | (with_reducible first | exact HK.out | apply Kept.alloc | apply Kept.drewN | apply Kept.drew) | exact HK.out)⟩, ⟨by repeat (first | (with_reducible first | exact HB.out | apply below_alloc | apply pw_below_drewN | apply below_drew1) | exact HB.out)⟩⟩
  case round =>
    clear H'
    try clear p2
    obtain ⟨x0_1, x1_1, x5_1, rfl, rfl, HA, HK1, HO_0, HK, HB⟩ := hrel
    cases gk with
    | zero => exact absurd HA.out (by simp [laws_markIntS.l0])
    | succ k1 =>
      have H := HA.out
      clear HA
      simp only [laws_markIntS.l0] at H
      by_cases c3 : x5_1 < (x0_1.length : Int)
      · rw [if_pos c3] at H
        have c3b0 : decide (x5_1 < (x0_1.length : Int)) = true := decide_eq_true c3
        clear c3
        by_cases c4 : 0 ≤ x5_1
        · rw [if_pos c4] at H
          have c4b0 : decide (0 ≤ x5_1) = true := decide_eq_true c4
          clear c4
          obtain ⟨y186, hy186⟩ : ∃ y_ : List Int, y_ = (x0_1.set (x5_1 : Int).toNat x1_1) := ⟨_, rfl⟩
          replace H : (laws_markIntS.l0 k1 y186 (wrap64 (x1_1 + 1)) (wrap64 (x5_1 + 1))) = some (r1, r2) := by first | (rw [hy186]; with_reducible exact H) | (have H2_ := (Option.bind_some _ _).symm.trans H; rw [hy186]; with_reducible exact H2_) | (have H2_ := (Option.bind_some _ _).symm.trans H; with_reducible exact H2_) | with_reducible exact H | (rw [hy186]; exact H) | exact H
          have Ny186 := Aside0.mk hy186
          clear hy186
          have H' := Aside0.mk H
          clear H
          obtain ⟨Ao6, co6, eo6⟩ := Kd.R_slice HO_0.out
          subst eo6
          have p5 : 0 ≤ (x5_1 : Int) := of_decide_eq_true (by first | (with_reducible assumption) | assumption)
          have q5 : (x5_1 : Int) < ((x0_1.length : Int) : Int) := of_decide_eq_true (by first | (with_reducible assumption) | assumption)
          obtain ⟨go5, co5, eo5, gb5, gl5, cl5, HG5⟩ := Kd.R_form HO_0.out (by omega)
          (first | cases eo5 | (injection eo5 with ea_ en_ ec_; (first | subst ea_ | (injection ea_ with ea_; subst ea_)); subst ec_; clear en_))
          have GB5 := Aside0.mk gb5
          have GG5 := Aside0.mk HG5
          clear gb5 gl5 HG5
          have HMgo5 := Aside0.mk (show (P0_ go5 ∨ w.heap.size ≤ go5) from (HO_0.out.1 _ rfl))
          obtain ⟨hx5_0, hf5_0⟩ := Kd.R_celln 0 HO_0.out (x5_1 : Int) p5 q5
          replace p5 := eq_true p5
          replace q5 := eq_true q5
          have HP7 := Kd.R_putg HO_0.out (x5_1 : Int) x1_1
          go_wp2_with (first | ((with_reducible refine gate_store (t := 3) (p := 15) rfl ?_); refine store_event (t := 3) (p := 15) (v := ?vo_w8) (w1 := (wr.setCell ⟨go5, (x5_1 : Int).toNat, none⟩ (.int .i64 x1_1))) ?hg ?ho ?hn ?hr ?_; (case ho => rfl); (case hg => rfl); (case hn => rfl); (case hr => first | (go_simp; done) | (go_simp; rfl)); intro w8 hw; have hg : wr.grownBy w8 (some go5) := (by rw [hw]; exact HP7.2); have hp_ : Kd.R (Kd.int .i64) 3 w8 w0.heap.size (fun k_ => (P0_ k_ ∨ w.heap.size ≤ k_)) (.slice (some ⟨go5, 0, none⟩) x0_1.length co6) y186 := (by rw [hw, Ny186.out]; exact HP7.1); clear HP7; have n0_ := Aside0.mk (hp_); have n1_ := Aside0.mk ((by rw [hw]; exact below_set (HB.out) GB5.out : Below w0.heap.size w0 w8)); have n2_ := Aside0.mk (Kept.of_grown (S := (fun k_ => P0_ k_)) hg (by repeat (first | (with_reducible first | exact HK.out | apply Kept.alloc | apply Kept.drewN | apply Kept.drew) | exact HK.out)) (fun k_ e_ => (HO_0.out.1 k_ e_))); clear HO_0; clear HB; clear HK; have HO_0 := n0_; have HB := n1_; have HK := n2_; clear n0_ n1_ n2_; clear hg hw hp_))
          go_roundg k1
          case measure => have := HK1.out; omega
          case rel => exact ⟨(y186), (wrap64 (x1_1 + 1)), (wrap64 (x5_1 + 1)), (by first | rfl | (simp; done) | (simp [*]; done)), (by first | rfl | (simp; done) | (simp [*]; done)), H', ⟨by have := HK1.out; omega⟩, ⟨by (with_reducible repeat (first | apply Kd.R_alloc | apply Kd.R_drewN | apply Kd.R_drew)); exact HO_0.out⟩, ⟨by repeat (first | (with_reducible first | exact HK.out | apply Kept.alloc | apply Kept.drewN | apply Kept.drew) | exact HK.out)⟩, ⟨by repeat (first | (with_reducible first | exact HB.out | apply below_alloc | apply pw_below_drewN | apply below_drew1) | exact HB.out)⟩⟩
        · rw [if_neg c4] at H
          exact absurd H (by simp)
      · rw [if_neg c3] at H
        have c3b0 : decide (x5_1 < (x0_1.length : Int)) = false := decide_eq_false c3
        clear c3
        simp only [Option.some.injEq, Prod.mk.injEq] at H
        obtain ⟨rfl, rfl⟩ := H
        obtain ⟨Ao9, co9, eo9⟩ := Kd.R_slice HO_0.out
        subst eo9
        go_wp2
        go_ret
        exact ⟨by first | rfl | (simp [errW_none, errW_some] <;> rfl) | (simp [*, errW_none, errW_some] <;> rfl), by (with_reducible repeat (first | apply Kd.R_alloc | apply Kd.R_drewN | apply Kd.R_drew)); exact HO_0.out, by repeat (first | (with_reducible first | exact HB.out | apply below_alloc | apply pw_below_drewN | apply below_drew1) | exact HB.out), by repeat (first | (with_reducible first | exact HK.out | apply Kept.alloc | apply Kept.drewN | apply Kept.drew) | exact HK.out)⟩

end Go.Proofs.Ytbmefldckdaopaa.Q

namespace Go.Proofs.Ytbmefldckdaopaa.Q
open Go.RowKit Go.Proofs.YtbmefldckdaopaaW.PrintWords Go.Proofs.YtbmefldckdaopaaW.PrintLast Go.Proofs.YtbmefldckdaopaaW.PrintMore
attribute [local go_sem] max2_int min2_int max_two min_two max_three min_three max_four min_four   -- for this text's walks alone
set_option linter.unusedVariables false
set_option linter.unusedSimpArgs false

/-! ### laws_heldIntS: function 33 -/
def laws_heldIntS.l0 : Nat → List Int → Int → Int → Option (Int)
  | 0, _, _, _ => none
  | k + 1, x0, x1, x5 => if x5 < (x0.length : Int) then (if 0 ≤ x5 then (if (rd x0 x5) = x1 then (laws_heldIntS.l0 k x0 (wrap64 (x1 + 1)) (wrap64 (x5 + 1))) else (some (-1))) else (none)) else (some x1)
def laws_heldIntS.f (k : Nat) (l0 : List Int) (a1 : Int) : Option (Int) := laws_heldIntS.l0 k l0 a1 0
theorem laws_heldIntS.mono_l : ∀ k, (∀ y0 y1 y2, LeO (laws_heldIntS.l0 k y0 y1 y2) (laws_heldIntS.l0 (k + 1) y0 y1 y2))
  | 0 => fun _ _ _ r h => by simp [laws_heldIntS.l0] at h
  | k + 1 => by
    have ih0 := laws_heldIntS.mono_l k
    · intro y0 y1 y2
      unfold laws_heldIntS.l0
      repeat' first
      | (with_reducible exact ih0 _ _ _)
      | (with_reducible exact LeO.refl _)
      | (with_reducible exact LeO.none _)
      | (with_reducible refine LeO.ite ?_ ?_)
      | (with_reducible refine LeO.bind ?_ (fun _ => ?_))
      | exact ih0 _ _ _
      | exact LeO.none _
      | refine LeO.ite ?_ ?_
      | refine LeO.bind ?_ (fun _ => ?_)
theorem laws_heldIntS.mono : ∀ a0 a1 k, LeO (laws_heldIntS.f k a0 a1) (laws_heldIntS.f (k + 1) a0 a1) := by
  intro a0 a1 k
  have ih0 := laws_heldIntS.mono_l k
  unfold laws_heldIntS.f
  repeat' first
      | (with_reducible exact ih0 _ _ _)
      | (with_reducible exact LeO.refl _)
      | (with_reducible exact LeO.none _)
      | (with_reducible refine LeO.ite ?_ ?_)
      | (with_reducible refine LeO.bind ?_ (fun _ => ?_))
      | exact ih0 _ _ _
      | exact LeO.none _
      | refine LeO.ite ?_ ?_
      | refine LeO.bind ?_ (fun _ => ?_)
set_option maxHeartbeats 8000000 in
set_option maxRecDepth 100000 in
theorem laws_heldIntS.calls (k : Nat) (A0 : Option Addr) (c0 : Nat) (l0 : List Int) (a1 : Int) (r : Int) (w : World) (hr0 : Kd.C (Kd.int .i64) w A0 l0.length l0) (hc0 : l0.length ≤ c0) (h : laws_heldIntS.f k l0 a1 = some r) :
    Calls Try.prog 33 #[.slice A0 l0.length c0, .int .i64 a1] w fun e w' => e = .returned (.int .i64 r) ∧ Drawn0 w w' := by
  have HR0 := Aside0.mk hr0
  have HC0 := Aside0.mk hc0
  clear hr0 hc0
  have H : (laws_heldIntS.l0 k l0 a1 0) = some r := h
  clear h
  have H' := Aside0.mk H
  clear H
  go_enter Try.func33, Try.ntmps33
  go_wp2
  go_loopg [1, 5] k (fun kq v1 v5 w' => ∃ (x1_1 : Int) (x5_1 : Int), v1 = .int .i64 x1_1 ∧ v5 = .int .i64 x5_1 ∧ Aside0 (laws_heldIntS.l0 kq l0 x1_1 x5_1 = some r) ∧ Aside0 (kq ≤ k) ∧ Drawn0 w w')
  case atStart => exact ⟨(a1), (0), (by first | rfl | (simp; done) | (simp [*]; done)), (by first | rfl | (simp; done) | (simp [*]; done)), H', ⟨Nat.le_refl _⟩, by repeat (first | exact Drawn0.refl _ | apply Drawn0.step)⟩
  case round =>
    clear H'
    try clear p2
    obtain ⟨x1_1, x5_1, rfl, rfl, HA, HK1, ⟨m1, rfl⟩⟩ := hrel
    cases gk with
    | zero => exact absurd HA.out (by simp [laws_heldIntS.l0])
    | succ k1 =>
      have H := HA.out
      clear HA
      simp only [laws_heldIntS.l0] at H
      by_cases c3 : x5_1 < (l0.length : Int)
      · rw [if_pos c3] at H
        have c3b0 : decide (x5_1 < (l0.length : Int)) = true := decide_eq_true c3
        clear c3
        by_cases c4 : 0 ≤ x5_1
        · rw [if_pos c4] at H
          have c4b0 : decide (0 ≤ x5_1) = true := decide_eq_true c4
          clear c4
          by_cases c5 : (rd l0 x5_1) = x1_1
          · rw [if_pos c5] at H
            have c5b0 : ((rd l0 x5_1) == x1_1) = true := beq_iff_eq.mpr c5
            have c5b1 : ((rd l0 x5_1) != x1_1) = false := bne_eq_false_iff_eq.mpr c5
            clear c5
            have H' := Aside0.mk H
            clear H
            have p188 : 0 ≤ (x5_1 : Int) := of_decide_eq_true (by first | (with_reducible assumption) | assumption)
            have q188 : x5_1 < (l0.length : Int) := of_decide_eq_true (by first | (with_reducible assumption) | assumption)
            obtain ⟨ad188, e188, hx188_0⟩ := Kd.at_int HR0.out x5_1 p188 q188
            cases e188
            replace p188 := eq_true p188
            replace q188 := eq_true q188
            go_wp2
            go_roundg k1
            case measure => have := HK1.out; omega
            case rel => exact ⟨(wrap64 (x1_1 + 1)), (wrap64 (x5_1 + 1)), (by first | rfl | (simp; done) | (simp [*]; done)), (by first | rfl | (simp; done) | (simp [*]; done)), H', ⟨by have := HK1.out; omega⟩, by repeat (first | exact Drawn0.refl _ | apply Drawn0.step)⟩
          · rw [if_neg c5] at H
            have c5b0 : ((rd l0 x5_1) == x1_1) = false := beq_eq_false_iff_ne.mpr c5
            have c5b1 : ((rd l0 x5_1) != x1_1) = true := bne_iff_ne.mpr c5
            obtain rfl := Option.some.inj H
            have p188 : 0 ≤ (x5_1 : Int) := of_decide_eq_true (by first | (with_reducible assumption) | assumption)
            have q188 : x5_1 < (l0.length : Int) := of_decide_eq_true (by first | (with_reducible assumption) | assumption)
            obtain ⟨ad188, e188, hx188_0⟩ := Kd.at_int HR0.out x5_1 p188 q188
            cases e188
            replace p188 := eq_true p188
            replace q188 := eq_true q188
            go_wp2
            go_ret
            exact ⟨by first | rfl | (simp; done) | (simp [*]; done), by repeat (first | exact Drawn0.refl _ | apply Drawn0.step)⟩
        · rw [if_neg c4] at H
          exact absurd H (by simp)
      · rw [if_neg c3] at H
        have c3b0 : decide (x5_1 < (l0.length : Int)) = false := decide_eq_false c3
        clear c3
        obtain rfl := Option.some.inj H
        go_wp2
        go_ret
        exact ⟨by first | rfl | (simp; done) | (simp [*]; done), by repeat (first | exact Drawn0.refl _ | apply Drawn0.step)⟩

end Go.Proofs.Ytbmefldckdaopaa.Q

namespace Go.Proofs.Ytbmefldckdaopaa.Q
open Go.RowKit Go.Proofs.YtbmefldckdaopaaW.PrintWords Go.Proofs.YtbmefldckdaopaaW.PrintLast Go.Proofs.YtbmefldckdaopaaW.PrintMore
set_option linter.unusedVariables false
set_option linter.unusedSimpArgs false

theorem w64 {i : Int} (h0 : -1000000000000000 ≤ i) (h : i ≤ 1000000000000000) : wrap64 i = i := by
  unfold wrap64; omega
theorem rd_nat (xs : List Int) (i : Nat) (h : i < xs.length) : rd xs (i : Int) = xs[i] := by
  simp [rd, List.getD_eq_getElem?_getD, h]

theorem eqIntS_l0 (a : List Int) (hn : a.length ≤ 100000000000000) : ∀ d k i, i + d = a.length → d < k → laws_eqIntS.l0 k a a (i : Int) = some true := by
  intro d
  induction d with
  | zero =>
    intro k i hi hk
    obtain ⟨k, rfl⟩ : ∃ m, k = m + 1 := ⟨k - 1, by omega⟩
    simp only [laws_eqIntS.l0]; rw [if_neg (by omega)]
  | succ d ih =>
    intro k i hi hk
    obtain ⟨k, rfl⟩ : ∃ m, k = m + 1 := ⟨k - 1, by omega⟩
    simp only [laws_eqIntS.l0]; rw [if_pos (by omega), if_pos (by omega), if_pos (by omega), if_pos trivial, w64 (by omega) (by omega)]
    exact ih k (i + 1) (by omega) (by omega)
theorem eqIntS_self (a : List Int) (hn : a.length ≤ 100000000000000) (k : Nat) (hk : a.length < k) : laws_eqIntS.f k a a = some true := by
  unfold laws_eqIntS.f
  rw [if_pos rfl]
  exact eqIntS_l0 a hn a.length k 0 (by omega) hk

/-- What a marked list holds. -/
def marks (a : Int) (n : Nat) : List Int := (List.range n).map fun (j : Nat) => a + (j : Int)
theorem marks_length (a : Int) (n : Nat) : (marks a n).length = n := by simp [marks]
theorem marks_get (a : Int) (n : Nat) (i : Nat) (h : i < (marks a n).length) : (marks a n)[i] = a + (i : Int) := by simp [marks]

theorem markIntS_l0 (a : Int) (n : Nat) (h0 : 0 ≤ a) (hn : a + n ≤ 100000000000000) : ∀ d k i (x : List Int), i + d = n → d < k → x.length = n → (∀ j (hj : j < x.length), j < i → x[j] = a + (j : Int)) →
    laws_markIntS.l0 k x (a + (i : Int)) (i : Int) = some (a + (n : Int), marks a n) := by
  intro d
  induction d with
  | zero =>
    intro k i x hi hk hx hj
    obtain ⟨k, rfl⟩ : ∃ m, k = m + 1 := ⟨k - 1, by omega⟩
    simp only [laws_markIntS.l0]; rw [if_neg (by omega)]
    have : x = marks a n := by
      apply List.ext_getElem
      · rw [hx, marks_length]
      · intro j h1 h2
        rw [hj j h1 (by omega), marks_get]
    rw [this]
    have : i = n := by omega
    subst this; rfl
  | succ d ih =>
    intro k i x hi hk hx hj
    obtain ⟨k, rfl⟩ : ∃ m, k = m + 1 := ⟨k - 1, by omega⟩
    simp only [laws_markIntS.l0]; rw [if_pos (by omega), if_pos (by omega), w64 (i := a + (i : Int) + 1) (by omega) (by omega), w64 (i := (i : Int) + 1) (by omega) (by omega)]
    have := ih k (i + 1) (x.set (i : Int).toNat (a + (i : Int))) (by omega) (by omega) (by simp [hx]) (fun j hj1 hj2 => by
      simp only [Int.toNat_natCast]
      rw [List.getElem_set]
      split
      · rename_i e; rw [e]
      · rename_i e; exact hj j (by simpa using hj1) (by omega))
    rw [show a + ((i + 1 : Nat) : Int) = a + (i : Int) + 1 by omega, show ((i + 1 : Nat) : Int) = (i : Int) + 1 by omega] at this
    exact this
theorem markIntS_eq (x : List Int) (a : Int) (h0 : 0 ≤ a) (hn : a + x.length ≤ 100000000000000) (k : Nat) (hk : x.length < k) : laws_markIntS.f k x a = some (a + (x.length : Int), marks a x.length) := by
  unfold laws_markIntS.f
  have := markIntS_l0 a x.length h0 hn x.length k 0 x (by omega) hk rfl (fun j _ h => absurd h (by omega))
  simpa using this

theorem heldIntS_l0 (a : Int) (n : Nat) (h0 : 0 ≤ a) (hn : a + n ≤ 100000000000000) : ∀ d k i, i + d = n → d < k → laws_heldIntS.l0 k (marks a n) (a + (i : Int)) (i : Int) = some (a + (n : Int)) := by
  intro d
  induction d with
  | zero =>
    intro k i hi hk
    obtain ⟨k, rfl⟩ : ∃ m, k = m + 1 := ⟨k - 1, by omega⟩
    simp only [laws_heldIntS.l0]; rw [if_neg (by rw [marks_length]; omega)]
    have : i = n := by omega
    subst this; rfl
  | succ d ih =>
    intro k i hi hk
    obtain ⟨k, rfl⟩ : ∃ m, k = m + 1 := ⟨k - 1, by omega⟩
    simp only [laws_heldIntS.l0]
    rw [if_pos (by rw [marks_length]; omega), if_pos (by omega), if_pos (by rw [rd_nat _ i (by rw [marks_length]; omega), marks_get]), w64 (i := a + (i : Int) + 1) (by omega) (by omega), w64 (i := (i : Int) + 1) (by omega) (by omega)]
    have := ih k (i + 1) (by omega) (by omega)
    rw [show a + ((i + 1 : Nat) : Int) = a + (i : Int) + 1 by omega, show ((i + 1 : Nat) : Int) = (i : Int) + 1 by omega] at this
    exact this
theorem heldIntS_eq (n : Nat) (a : Int) (h0 : 0 ≤ a) (hn : a + n ≤ 100000000000000) (k : Nat) (hk : n < k) : laws_heldIntS.f k (marks a n) a = some (a + (n : Int)) := by
  unfold laws_heldIntS.f
  have := heldIntS_l0 a n h0 hn n k 0 (by omega) hk
  simpa using this
end Go.Proofs.Ytbmefldckdaopaa.Q

namespace Go.Proofs.Ytbmefldckdaopaa.Q
open Go.RowKit Go.Proofs.YtbmefldckdaopaaW.PrintWords Go.Proofs.YtbmefldckdaopaaW.PrintLast Go.Proofs.YtbmefldckdaopaaW.PrintMore
set_option linter.unusedVariables false
set_option linter.unusedSimpArgs false

theorem Ev_from {α : Type} {g : Nat → Option α} {r : α} (N : Nat) (h : ∀ k, N < k → g k = some r) : Ev g r := ⟨N + 1, fun k hk => h k (by omega)⟩
theorem Ev_some {α : Type} (r : α) : Ev (fun _ => some r) r := Ev.now r
theorem eqIntS_ev (a : List Int) (h : a.length ≤ 10000000) : Ev (fun k => laws_eqIntS.f k a a) true := Ev_from a.length fun k hk => eqIntS_self a (by omega) k hk
theorem markIntS_ev (a : List Int) (h : a.length ≤ 10000000) (n : Int) (h0 : 0 ≤ n) (hn : n ≤ 10000000000) : Ev (fun k => laws_markIntS.f k a n) (n + (a.length : Int), marks n a.length) := Ev_from a.length fun k hk => markIntS_eq a n h0 (by omega) k hk
theorem heldIntS_ev (m : Nat) (h : m ≤ 10000000) (n : Int) (h0 : 0 ≤ n) (hn : n ≤ 10000000000) : Ev (fun k => laws_heldIntS.f k (marks n m) n) (n + (m : Int)) := Ev_from m fun k hk => heldIntS_eq m n h0 (by omega) k hk
/-- The two answers of one call. -/
theorem Ev_unique {α : Type} {g : Nat → Option α} {r s : α} (h : Ev g r) (h' : Ev g s) : r = s := by
  obtain ⟨K, h⟩ := h
  obtain ⟨K', h'⟩ := h'
  have a := h (max K K') (by omega)
  have b := h' (max K K') (by omega)
  rw [a] at b
  injection b
end Go.Proofs.Ytbmefldckdaopaa.Q

namespace Go.Proofs.Ytbmefldckdaopaa.Q
open Go.RowKit Go.Proofs.YtbmefldckdaopaaW.PrintWords Go.Proofs.YtbmefldckdaopaaW.PrintLast Go.Proofs.YtbmefldckdaopaaW.PrintMore
set_option linter.unusedVariables false
set_option linter.unusedSimpArgs false

def Inside (list : List Thing) (st : List Int) : Prop := ∀ i ∈ st, 0 ≤ i ∧ i < (list.length : Int)
/-- How much can be borne still. -/
def bearsL (list : List Thing) : List Int → List Int → Int → Int
  | i :: st, n :: ab, m => bearsL list st ab (mn m (wrap64 ((rd_T49 list i).f1 - n)))
  | _, _, m => m
def bearsV (list : List Thing) (st : List Int) : Int := bearsL list st (aboveAll list st).1 1000
theorem bears_l0 (list : List Thing) (st ab : List Int) (hw : Inside list st) (hl : ab.length = st.length) (hn : st.length ≤ 1000000000) : ∀ d k i m, i + d = st.length → d < k →
    impl_bearsMore.l0 k list st m ab (ab.length : Int) (i : Int) = some (bearsL list (st.drop i) (ab.drop i) m) := by
  intro d
  induction d with
  | zero =>
    intro k i m hi hk
    obtain ⟨k, rfl⟩ : ∃ q, k = q + 1 := ⟨k - 1, by omega⟩
    simp only [impl_bearsMore.l0]; rw [if_neg (by omega), List.drop_of_length_le (by omega), List.drop_of_length_le (by omega)]; rfl
  | succ d ih =>
    intro k i m hi hk
    obtain ⟨k, rfl⟩ : ∃ q, k = q + 1 := ⟨k - 1, by omega⟩
    have hlt : i < st.length := by omega
    have hlt2 : i < ab.length := by omega
    have hin := hw st[i] (List.getElem_mem hlt)
    simp only [impl_bearsMore.l0]
    rw [if_pos (by omega), if_pos (by omega), if_pos (by omega), if_pos (by omega), rd_nat st i hlt, if_pos hin.1, if_pos hin.2, rd_nat ab i hlt2, w64 (i := (i : Int) + 1) (by omega) (by omega), List.drop_eq_getElem_cons hlt, List.drop_eq_getElem_cons hlt2, bearsL]
    have := ih k (i + 1) (mn m (wrap64 ((rd_T49 list st[i]).f1 - ab[i]))) (by omega) (by omega)
    rw [show ((i + 1 : Nat) : Int) = (i : Int) + 1 by omega] at this
    exact this
theorem bearsMore_eq (list : List Thing) (st : List Int) (hw : Inside list st) (hn : st.length ≤ 1000000000) (k : Nat) (hk : st.length < k) : impl_bearsMore.f k list st = some (bearsV list st) := by
  unfold impl_bearsMore.f impl_above.f
  rw [if_pos (by unfold things; simp only [Bool.and_eq_true, decide_eq_true_eq, List.all_eq_true]; exact ⟨hn, fun x hx => hw x hx⟩)]
  simp only [Option.bind_some]
  have := bears_l0 list st (aboveAll list st).1 hw (aboveAll_length list st) hn st.length k 0 1000 (by omega) hk
  simpa [bearsV] using this
/-- Is it among them? -/
theorem contains_l0 (st : List Int) (x : Int) (hn : st.length ≤ 1000000000) : ∀ d k i, i + d = st.length → d < k →
    ∃ r, slices_Index_int_int.l0 k st x (st.length : Int) (i : Int) = some r ∧ decide (r ≥ 0) = (st.drop i).contains x := by
  intro d
  induction d with
  | zero =>
    intro k i hi hk
    obtain ⟨k, rfl⟩ : ∃ q, k = q + 1 := ⟨k - 1, by omega⟩
    simp only [slices_Index_int_int.l0]; rw [if_neg (by omega), List.drop_of_length_le (by omega)]
    exact ⟨-1, rfl, by simp⟩
  | succ d ih =>
    intro k i hi hk
    obtain ⟨k, rfl⟩ : ∃ q, k = q + 1 := ⟨k - 1, by omega⟩
    have hlt : i < st.length := by omega
    simp only [slices_Index_int_int.l0]
    rw [if_pos (by omega), if_pos (by omega), if_pos (by omega), rd_nat st i hlt, w64 (i := (i : Int) + 1) (by omega) (by omega), List.drop_eq_getElem_cons hlt]
    by_cases h : x = st[i]
    · rw [if_pos h]
      exact ⟨i, rfl, by rw [List.contains_cons, beq_iff_eq.mpr h, Bool.true_or]; simp⟩
    · rw [if_neg h, show (i : Int) + 1 = ((i + 1 : Nat) : Int) by omega]
      obtain ⟨r, h1, h2⟩ := ih k (i + 1) (by omega) (by omega)
      exact ⟨r, h1, by rw [h2, List.contains_cons, beq_eq_false_iff_ne.mpr h, Bool.false_or]⟩
theorem contains_eq (st : List Int) (x : Int) (hn : st.length ≤ 1000000000) (k : Nat) (hk : st.length < k) : slices_Contains_int_int.f k st x = some (st.contains x) := by
  unfold slices_Contains_int_int.f slices_Index_int_int.f
  obtain ⟨r, h1, h2⟩ := contains_l0 st x hn st.length k 0 (by omega) hk
  simp only [Int.natCast_zero] at h1
  rw [h1]
  simp only [Option.bind_some, h2, List.drop_zero]
/-- How high. -/
def highV (list : List Thing) (st : List Int) : Int := st.foldl (fun s i => wrap64 (s + (rd_T49 list i).f2)) 0
theorem high_l0 (list : List Thing) (st : List Int) (hw : Inside list st) (hn : st.length ≤ 1000000000) : ∀ d k i s, i + d = st.length → d < k →
    impl_high.l0 k list s st (st.length : Int) (i : Int) = some ((st.drop i).foldl (fun s i => wrap64 (s + (rd_T49 list i).f2)) s) := by
  intro d
  induction d with
  | zero =>
    intro k i s hi hk
    obtain ⟨k, rfl⟩ : ∃ q, k = q + 1 := ⟨k - 1, by omega⟩
    simp only [impl_high.l0]; rw [if_neg (by omega), List.drop_of_length_le (by omega)]; rfl
  | succ d ih =>
    intro k i s hi hk
    obtain ⟨k, rfl⟩ : ∃ q, k = q + 1 := ⟨k - 1, by omega⟩
    have hlt : i < st.length := by omega
    have hin := hw st[i] (List.getElem_mem hlt)
    simp only [impl_high.l0]
    rw [if_pos (by omega), if_pos (by omega), if_pos (by omega), rd_nat st i hlt, if_pos hin.1, if_pos hin.2, w64 (i := (i : Int) + 1) (by omega) (by omega), List.drop_eq_getElem_cons hlt, List.foldl_cons]
    have := ih k (i + 1) (wrap64 (s + (rd_T49 list st[i]).f2)) (by omega) (by omega)
    rw [show ((i + 1 : Nat) : Int) = (i : Int) + 1 by omega] at this
    exact this
theorem high_eq (list : List Thing) (st : List Int) (hw : Inside list st) (hn : st.length ≤ 1000000000) (k : Nat) (hk : st.length < k) : impl_high.f k list st = some (highV list st) := by
  unfold impl_high.f
  have := high_l0 list st hw hn st.length k 0 0 (by omega) hk
  simpa [highV] using this

/-- May it be put on top? -/
def mayV (list : List Thing) (st : List Int) (i : Nat) : Bool := !st.contains (i : Int) && decide (0 ≤ bearsV list (st ++ [(i : Int)]))
/-- The safe stacks on the way, in order. -/
def treeV (list : List Thing) : Nat → List Int → List (List Int)
  | 0, st => [st]
  | d + 1, st => st :: (List.range list.length).flatMap fun i => if mayV list st i = true then treeV list d (st ++ [(i : Int)]) else []
/-- The places that are free still. -/
def freeV (list : List Thing) (st : List Int) : Nat := ((List.range list.length).filter (fun i : Nat => !st.contains (i : Int))).length
theorem free_less (list : List Thing) (st : List Int) (i : Nat) (hi : i < list.length) (h : st.contains (i : Int) = false) : freeV list (st ++ [(i : Int)]) < freeV list st := by
  unfold freeV
  have key : ∀ L : List Nat, (L.filter (fun j : Nat => !(st ++ [(i : Int)]).contains (j : Int))).length ≤ (L.filter (fun j : Nat => !st.contains (j : Int))).length ∧ (i ∈ L → (L.filter (fun j : Nat => !(st ++ [(i : Int)]).contains (j : Int))).length < (L.filter (fun j : Nat => !st.contains (j : Int))).length) := by
    intro L
    induction L with
    | nil => exact ⟨Nat.le_refl _, fun h => by cases h⟩
    | cons j L ih =>
      have e : (st ++ [(i : Int)]).contains (j : Int) = (st.contains (j : Int) || ((j : Int) == (i : Int))) := by rw [Bool.eq_iff_iff]; simp [List.contains_eq_mem]
      rw [List.filter_cons, List.filter_cons, e]
      by_cases hj : j = i
      · subst hj
        rw [h]
        simp only [beq_self_eq_true, Bool.or_true, Bool.not_true, Bool.false_eq_true, if_false, Bool.not_false, if_true, List.length_cons]
        exact ⟨by omega, fun _ => by omega⟩
      · have hne : ((j : Int) == (i : Int)) = false := beq_eq_false_iff_ne.mpr (by omega)
        rw [hne, Bool.or_false]
        refine ⟨?_, fun hm => ?_⟩
        · have := ih.1
          split <;> (try simp only [List.length_cons]) <;> omega
        · rcases List.mem_cons.1 hm with hm | hm
          · exact absurd hm.symm hj
          · have := ih.2 hm
            split <;> (try simp only [List.length_cons]) <;> omega
  exact (key _).2 (List.mem_range.2 hi)
theorem free_nil (list : List Thing) : freeV list [] = list.length := by
  unfold freeV
  rw [List.filter_eq_self.2 (by simp), List.length_range]
end Go.Proofs.Ytbmefldckdaopaa.Q

namespace Go.Proofs.Ytbmefldckdaopaa.Q
open Go.RowKit Go.Shelf Go.Proofs.YtbmefldckdaopaaW.PrintWords Go.Proofs.YtbmefldckdaopaaW.PrintLast Go.Proofs.YtbmefldckdaopaaW.PrintMore
set_option linter.unusedVariables false
set_option linter.unusedSimpArgs false

abbrev kInt : Kd Int := Kd.int .i64
/-- What the function that safeStacks is handed does. -/
structure One {σ : Type} (list : List Thing) (S : Nat → Prop) (I : σ → World → Prop) (base : Nat) (w1 : World) (ge : Nat) (bde fre : Array Value) (step : σ → List Int → σ) : Prop where
  ee : ∀ args w, (callFunc ge args).run Try.prog w = .ok (.enter ge args) w
  st : ∀ s W W', I s W → Below W.heap.size W W' → I s W'
  each : ∀ s W v st, Fr S w1 W → I s W → Kd.R kInt 3 W base (fun k => ¬ S k) v st → Inside list st → st.length ≤ list.length →
    Calls Try.prog ge (bde.push v ++ fre) W fun e w' => e = .returned (.tuple #[]) ∧ I (step s st) w' ∧ Fr S W w'
theorem One.later {σ : Type} {list : List Thing} {S : Nat → Prop} {I : σ → World → Prop} {base : Nat} {w w1 : World} {ge : Nat} {bde fre : Array Value} {step : σ → List Int → σ}
    (T : One list S I base w ge bde fre step) (h : Fr S w w1) : One list S I base w1 ge bde fre step := ⟨T.ee, T.st, fun s W v st hF => T.each s W v st (h.trans hF)⟩

/-- What comes behind, from place j on. -/
def restV (list : List Thing) (d : Nat) (st : List Int) (j : Nat) : List (List Int) := (List.range' j (list.length - j)).flatMap fun i => if mayV list st i = true then treeV list d (st ++ [(i : Int)]) else []
theorem restV_step (list : List Thing) (d : Nat) (st : List Int) (j : Nat) (h : j < list.length) : restV list d st j = (if mayV list st j = true then treeV list d (st ++ [(j : Int)]) else []) ++ restV list d st (j + 1) := by
  unfold restV
  rw [show list.length - j = (list.length - (j + 1)) + 1 by omega, List.range'_succ, List.flatMap_cons]
theorem restV_end (list : List Thing) (d : Nat) (st : List Int) (j : Nat) (h : list.length ≤ j) : restV list d st j = [] := by
  unfold restV
  rw [show list.length - j = 0 by omega]; rfl
theorem treeV_eq (list : List Thing) (d : Nat) (st : List Int) : treeV list (d + 1) st = st :: restV list d st 0 := by
  unfold restV
  rw [treeV, Nat.sub_zero, List.range_eq_range']
/-- Where nothing is free nothing more comes. -/
theorem may_free (list : List Thing) (st : List Int) (i : Nat) (hi : i < list.length) (h : mayV list st i = true) : freeV list (st ++ [(i : Int)]) < freeV list st := by
  unfold mayV at h
  simp only [Bool.and_eq_true, Bool.not_eq_true'] at h
  exact free_less list st i hi h.1

set_option maxRecDepth 100000 in
set_option maxHeartbeats 4000000 in
theorem chooseS_calls {σ : Type} (list : List Thing) (A0 : Option Addr) (c0 : Nat) (S : Nat → Prop) (I : σ → World → Prop) (base : Nat) (w1 : World) (ge : Nat) (bde fre : Array Value) (step : σ → List Int → σ)
    (Bi Be Bc : Nat) (hn : list.length ≤ 1000) (T : One list S I base w1 ge bde fre step) (hb1 : base ≤ w1.heap.size) (hSl : ∀ k, S k → k < w1.heap.size)
    (hC : ∀ W, Fr S w1 W → Kd.C k49 W A0 list.length list) (hc0 : list.length ≤ c0)
    (xi : Boxed w1 Bi 25 (.slice A0 list.length c0)) (xe : Boxed w1 Be 72 (.func (.func ge) bde fre))
    (xc : Boxed w1 Bc 72 (.func (.func 68) #[] #[.pointer (some ⟨Be, 0, none⟩), .pointer (some ⟨Bi, 0, none⟩), .pointer (some ⟨Bc, 0, none⟩)]))
    (ni : ¬ S Bi) (ne : ¬ S Be) (nc : ¬ S Bc) :
    ∀ d s W v st, freeV list st < d → Fr S w1 W → I s W → Kd.R kInt 3 W base (fun k => ¬ S k) v st → Inside list st → st.length + freeV list st ≤ list.length →
      Calls Try.prog 68 #[v, .pointer (some ⟨Be, 0, none⟩), .pointer (some ⟨Bi, 0, none⟩), .pointer (some ⟨Bc, 0, none⟩)] W fun e w' => e = .returned (.tuple #[]) ∧ I ((treeV list d st).foldl step s) w' ∧ Fr S W w' := by
  intro d
  induction d with
  | zero => intro s W v st h; omega
  | succ d ih =>
  intro s W v st hd hF hI hv hins hlen
  rw [treeV_eq]
  obtain ⟨A1, c1, rfl, hc1, hC1⟩ := Kd.R_reads hv
  have HI := Aside0.mk hI
  have HV := Aside0.mk hv
  have HF := Aside0.mk hF
  have XI := Aside0.mk xi
  have XE := Aside0.mk xe
  have XC := Aside0.mk xc
  have q1 := (box_fr xe hF ne).cell
  have IH := Aside0.mk ih
  have HIN := Aside0.mk hins
  have heach := T.each s W (.slice A1 st.length c1) st hF hI hv hins (by omega)
  have HE := Aside0.mk heach
  clear hI hv hF hC1 xi xe xc ih hins heach
  have ee := T.ee
  have hmix : Try.prog.follows .mixedOrders = true := by kernel_rfl
  go_enter Try.func68, Try.ntmps68
  go_wp2_with (go_at_fn ge; refine HE.out.mono ?_; rintro e w2 ⟨rfl, hI2, hF2⟩; have F2 := Aside0.mk (HF.out.trans hF2); have q2 := (box_fr XI.out F2.out ni).cell)
  have I2 := Aside0.mk hI2
  have G2 := Aside0.mk hF2
  clear hI2 hF2 q1 q2
  go_loopg [12] list.length (fun gg s12 wr => ∃ j : Nat, s12 = .int .i64 (j : Int) ∧ j ≤ list.length ∧ list.length - j ≤ gg ∧ Aside0 (∃ t, I t wr ∧ (restV list d st j).foldl step t = (restV list d st 0).foldl step (step s st)) ∧ Aside0 (Fr S W wr))
  case atStart => exact ⟨0, rfl, by omega, by omega, ⟨_, I2.out, rfl⟩, G2⟩
  case round =>
    obtain ⟨j, rfl, hjn, hgg, II, GG⟩ := hrel
    have FF := Aside0.mk (HF.out.trans GG.out)
    by_cases hlt : j < list.length
    · have hltz : (j : Int) < (list.length : Int) := by omega
      obtain ⟨t, hst, hfold⟩ := II.out
      have HST := Aside0.mk hst
      have HFO := Aside0.mk hfold
      have HBR : Aside0 (base ≤ wr.heap.size) := ⟨Nat.le_trans hb1 FF.out.size⟩
      have HSR : Aside0 (∀ k, S k → k < wr.heap.size) := ⟨fun k hk => Nat.lt_of_lt_of_le (hSl k hk) FF.out.size⟩
      have HVr := Aside0.mk (R_fr HV.out GG.out (fun _ h => h))
      have HCr : Aside0 (∀ W', Below wr.heap.size wr W' → Kd.C kInt W' A1 st.length st) := ⟨fun W' h => by
        obtain ⟨A', c', he, _, hC'⟩ := Kd.R_reads (Kd.R_below HVr.out h)
        injection he with he1 he2 he3
        subst he1
        exact hC'⟩
      clear II hst hfold
      obtain ⟨st', hst'⟩ : ∃ y, y = st ++ [(j : Int)] := ⟨_, rfl⟩
      have hin' : Inside list st' := fun x hx => by
        rw [hst'] at hx
        rcases List.mem_append.1 hx with hx | hx
        · exact HIN.out x hx
        · have := List.mem_singleton.1 hx; omega
      have hl' : st'.length = st.length + 1 := by rw [hst']; simp
      have hct := contains_eq st (j : Int) (by omega) (st.length + 1) (by omega)
      have hbm := bearsMore_eq list st' hin' (by omega) (st'.length + 1) (by omega)
      have hmay : mayV list st j = (!st.contains (j : Int) && decide (0 ≤ bearsV list st')) := by rw [hst']; rfl
      generalize hcv : st.contains (j : Int) = cv at hct hmay
      generalize hbv : bearsV list st' = bv at hbm hmay
      have HIN' := Aside0.mk hin'
      have HST' := Aside0.mk hst'
      have HCT := Aside0.mk hct
      have HBC : Aside0 (∀ (W : World) (A : Option Addr) (c : Nat), Kd.C k49 W A0 list.length list → Kd.C kInt W A st'.length st' → st'.length ≤ c → Calls Try.prog 71 #[.slice A0 list.length c0, .slice A st'.length c] W fun e w' => e = .returned (.int .i64 bv) ∧ Below W.heap.size W w') :=
        ⟨fun W A c h1 h2 h3 => impl_bearsMore.calls (st'.length + 1) A0 c0 list A c st' bv W h1 hc0 h2 h3 hbm⟩
      have HMAY := Aside0.mk hmay
      have HCV := Aside0.mk hcv
      have HL1 := Aside0.mk hl'
      clear hst' hct hbm hmay hcv hbv hin' hl'
      cases cv with
      | true =>
        go_wp2_with (first
          | (go_at_call 69; refine (clone_int A1 c1 st _ (HCr.out _ (Below.refl _ _)) hc1 (by omega)).mono ?_; rintro e w6 ⟨v6, rfl, hR6, hb6⟩)
          | (at_builtin; refine Kd.R_append kInt (w0 := w6) wr.heap.size rfl (.tmp 16) (.tmp 18) 41 3 (.int .i64 0) 8 rfl Try.underlying41 info3 rfl (by decide) (by omega) v6 st (j : Int) [.int .i64 (j : Int)] (fun k => wr.heap.size ≤ k) (fun _ => False) rfl rfl ?aP (fun _ hk => hk.elim) ?aF ?aO (Below.refl _ _) ?aS ?aL ?_;
              (case aP => exact rfl);
              (case aF => exact fun k hk => Nat.le_trans hb6.size hk);
              (case aO => exact Kd.R_mono (Kd.R_bound hR6) (fun k hk => hk.2.1));
              (case aS => exact hb6.size);
              (case aL => omega);
              rw [← HST'.out]; intro v7 w7 hR7 hb7 hg7 hat7; obtain ⟨A7, c7, rfl⟩ := Kd.R_slice hR7; have B7 := Aside0.mk (hb6.trans hb7))
          | (go_at_call 70; refine (slices_Contains_int_int.calls (st.length + 1) A1 c1 st (j : Int) _ _ (HCr.out _ B7.out) hc1 HCT.out).mono ?_; rintro e w8 ⟨rfl, hdr⟩; obtain ⟨nd, hnd⟩ := hdr; have hb8 : Below w7.heap.size w7 w8 := (by rw [hnd]; exact pw_below_drewN (Below.refl _ _) nd); clear hnd; have B8 := Aside0.mk (B7.out.trans (hb8.mono B7.out.size)); have q8 := (box_fr XI.out (FF.out.then B8.out) ni).cell; have p8 := (box_fr XC.out (FF.out.then B8.out) nc).cell)
          | (go_at_call 71; obtain ⟨A', c', he, hle, hC7⟩ := Kd.R_reads (Kd.R_below hR7 hb8); injection he with he1 he2 he3; subst he1 he3; refine (HBC.out w8 A7 c7 (hC _ (FF.out.then B8.out)) hC7 hle).mono ?_; rintro e w9 ⟨rfl, hb9⟩; have B9 := Aside0.mk (B8.out.trans (hb9.mono B8.out.size)); have p9 := (box_fr XC.out (FF.out.then B9.out) nc).cell)
          | (go_at_call 68; refine (IH.out t w9 (.slice A7 st'.length c7) st' HD'.out (FF.out.then B9.out) (T.st _ _ _ HST.out B9.out) (Kd.R_mono (Kd.R_lower (Kd.R_below (Kd.R_below hR7 hb8) hb9) HBR.out) (fun k hk hs => by have := HSR.out k hs; omega)) HIN'.out HL'.out).mono ?_; rintro e w10 ⟨rfl, hI10, hF10⟩))
        go_roundg (list.length - (j + 1))
        case measure => omega
        case rel =>
          refine ⟨j + 1, by go_num, by omega, by omega, ⟨t, T.st _ _ _ HST.out B8.out, ?_⟩, ⟨GG.out.then B8.out⟩⟩
          rw [← HFO.out, restV_step list d st j hlt, if_neg (by rw [HMAY.out]; simp), List.nil_append]
      | false =>
        by_cases hbv : 0 ≤ bv
        · have hm : mayV list st j = true := by rw [HMAY.out]; simp [hbv]
          have hfr := may_free list st j hlt hm
          rw [← HST'.out] at hfr
          have HD' : Aside0 (freeV list st' < d) := ⟨by omega⟩
          have HL' : Aside0 (st'.length + freeV list st' ≤ list.length) := ⟨by have := HL1.out; omega⟩
          have HM := Aside0.mk hm
          clear hfr hm
          go_wp2_with (first
            | (go_at_call 69; refine (clone_int A1 c1 st _ (HCr.out _ (Below.refl _ _)) hc1 (by omega)).mono ?_; rintro e w6 ⟨v6, rfl, hR6, hb6⟩)
            | (at_builtin; refine Kd.R_append kInt (w0 := w6) wr.heap.size rfl (.tmp 16) (.tmp 18) 41 3 (.int .i64 0) 8 rfl Try.underlying41 info3 rfl (by decide) (by omega) v6 st (j : Int) [.int .i64 (j : Int)] (fun k => wr.heap.size ≤ k) (fun _ => False) rfl rfl ?aP (fun _ hk => hk.elim) ?aF ?aO (Below.refl _ _) ?aS ?aL ?_;
                (case aP => exact rfl);
                (case aF => exact fun k hk => Nat.le_trans hb6.size hk);
                (case aO => exact Kd.R_mono (Kd.R_bound hR6) (fun k hk => hk.2.1));
                (case aS => exact hb6.size);
                (case aL => omega);
                rw [← HST'.out]; intro v7 w7 hR7 hb7 hg7 hat7; obtain ⟨A7, c7, rfl⟩ := Kd.R_slice hR7; have B7 := Aside0.mk (hb6.trans hb7))
            | (go_at_call 70; refine (slices_Contains_int_int.calls (st.length + 1) A1 c1 st (j : Int) _ _ (HCr.out _ B7.out) hc1 HCT.out).mono ?_; rintro e w8 ⟨rfl, hdr⟩; obtain ⟨nd, hnd⟩ := hdr; have hb8 : Below w7.heap.size w7 w8 := (by rw [hnd]; exact pw_below_drewN (Below.refl _ _) nd); clear hnd; have B8 := Aside0.mk (B7.out.trans (hb8.mono B7.out.size)); have q8 := (box_fr XI.out (FF.out.then B8.out) ni).cell; have p8 := (box_fr XC.out (FF.out.then B8.out) nc).cell)
            | (go_at_call 71; obtain ⟨A', c', he, hle, hC7⟩ := Kd.R_reads (Kd.R_below hR7 hb8); injection he with he1 he2 he3; subst he1 he3; refine (HBC.out w8 A7 c7 (hC _ (FF.out.then B8.out)) hC7 hle).mono ?_; rintro e w9 ⟨rfl, hb9⟩; have B9 := Aside0.mk (B8.out.trans (hb9.mono B8.out.size)); have p9 := (box_fr XC.out (FF.out.then B9.out) nc).cell)
            | (go_at_call 68; refine (IH.out t w9 (.slice A7 st'.length c7) st' HD'.out (FF.out.then B9.out) (T.st _ _ _ HST.out B9.out) (Kd.R_mono (Kd.R_lower (Kd.R_below (Kd.R_below hR7 hb8) hb9) HBR.out) (fun k hk hs => by have := HSR.out k hs; omega)) HIN'.out HL'.out).mono ?_; rintro e w10 ⟨rfl, hI10, hF10⟩))
          go_roundg (list.length - (j + 1))
          case measure => omega
          case rel =>
            refine ⟨j + 1, by go_num, by omega, by omega, ⟨_, hI10, ?_⟩, ⟨(GG.out.then B9.out).trans hF10⟩⟩
            rw [← HFO.out, restV_step list d st j hlt, if_pos HM.out, List.foldl_append, ← HST'.out]
        · have hm : mayV list st j = false := by rw [HMAY.out]; simp [hbv]
          have HM := Aside0.mk hm
          clear hm
          go_wp2_with (first
            | (go_at_call 69; refine (clone_int A1 c1 st _ (HCr.out _ (Below.refl _ _)) hc1 (by omega)).mono ?_; rintro e w6 ⟨v6, rfl, hR6, hb6⟩)
            | (at_builtin; refine Kd.R_append kInt (w0 := w6) wr.heap.size rfl (.tmp 16) (.tmp 18) 41 3 (.int .i64 0) 8 rfl Try.underlying41 info3 rfl (by decide) (by omega) v6 st (j : Int) [.int .i64 (j : Int)] (fun k => wr.heap.size ≤ k) (fun _ => False) rfl rfl ?aP (fun _ hk => hk.elim) ?aF ?aO (Below.refl _ _) ?aS ?aL ?_;
                (case aP => exact rfl);
                (case aF => exact fun k hk => Nat.le_trans hb6.size hk);
                (case aO => exact Kd.R_mono (Kd.R_bound hR6) (fun k hk => hk.2.1));
                (case aS => exact hb6.size);
                (case aL => omega);
                rw [← HST'.out]; intro v7 w7 hR7 hb7 hg7 hat7; obtain ⟨A7, c7, rfl⟩ := Kd.R_slice hR7; have B7 := Aside0.mk (hb6.trans hb7))
            | (go_at_call 70; refine (slices_Contains_int_int.calls (st.length + 1) A1 c1 st (j : Int) _ _ (HCr.out _ B7.out) hc1 HCT.out).mono ?_; rintro e w8 ⟨rfl, hdr⟩; obtain ⟨nd, hnd⟩ := hdr; have hb8 : Below w7.heap.size w7 w8 := (by rw [hnd]; exact pw_below_drewN (Below.refl _ _) nd); clear hnd; have B8 := Aside0.mk (B7.out.trans (hb8.mono B7.out.size)); have q8 := (box_fr XI.out (FF.out.then B8.out) ni).cell; have p8 := (box_fr XC.out (FF.out.then B8.out) nc).cell)
            | (go_at_call 71; obtain ⟨A', c', he, hle, hC7⟩ := Kd.R_reads (Kd.R_below hR7 hb8); injection he with he1 he2 he3; subst he1 he3; refine (HBC.out w8 A7 c7 (hC _ (FF.out.then B8.out)) hC7 hle).mono ?_; rintro e w9 ⟨rfl, hb9⟩; have B9 := Aside0.mk (B8.out.trans (hb9.mono B8.out.size)); have p9 := (box_fr XC.out (FF.out.then B9.out) nc).cell)
            | (go_at_call 68; refine (IH.out t w9 (.slice A7 st'.length c7) st' HD'.out (FF.out.then B9.out) (T.st _ _ _ HST.out B9.out) (Kd.R_mono (Kd.R_lower (Kd.R_below (Kd.R_below hR7 hb8) hb9) HBR.out) (fun k hk hs => by have := HSR.out k hs; omega)) HIN'.out HL'.out).mono ?_; rintro e w10 ⟨rfl, hI10, hF10⟩))
          go_roundg (list.length - (j + 1))
          case measure => omega
          case rel =>
            refine ⟨j + 1, by go_num, by omega, by omega, ⟨t, T.st _ _ _ HST.out B9.out, ?_⟩, ⟨GG.out.then B9.out⟩⟩
            rw [← HFO.out, restV_step list d st j hlt, if_neg (by rw [HM.out]; decide), List.nil_append]
    · have hltz : ¬ (j : Int) < (list.length : Int) := by omega
      go_wp2
      go_end0
      obtain ⟨t, hst, hr⟩ := II.out
      rw [restV_end list d st j (by omega)] at hr
      refine ⟨rfl, ?_, GG.out⟩
      rw [← hr]
      exact hst
end Go.Proofs.Ytbmefldckdaopaa.Q

namespace Go.Proofs.Ytbmefldckdaopaa.Q
open Go.RowKit Go.Shelf Go.Proofs.YtbmefldckdaopaaW.PrintWords Go.Proofs.YtbmefldckdaopaaW.PrintLast Go.Proofs.YtbmefldckdaopaaW.PrintMore
set_option linter.unusedVariables false
set_option linter.unusedSimpArgs false

/-- All safe stacks, in order. -/
def allS (list : List Thing) : List (List Int) := treeV list (list.length + 1) []

set_option maxRecDepth 100000 in
set_option maxHeartbeats 4000000 in
theorem safeStacks_calls {σ : Type} (list : List Thing) (A0 : Option Addr) (c0 : Nat) (S : Nat → Prop) (I : σ → World → Prop) (base : Nat) (w : World) (ge : Nat) (bde fre : Array Value) (step : σ → List Int → σ) (s : σ)
    (hn : list.length ≤ 1000) (T : One list S I base w ge bde fre step) (hb : base ≤ w.heap.size) (hSl : ∀ k, S k → k < w.heap.size)
    (hC : ∀ W, Fr S w W → Kd.C k49 W A0 list.length list) (hc0 : list.length ≤ c0) (hI : I s w) :
    Calls Try.prog 63 #[.slice A0 list.length c0, .func (.func ge) bde fre] w fun e w' => e = .returned (.tuple #[]) ∧ I ((allS list).foldl step s) w' ∧ Fr S w w' := by
  have x1 := Boxed.new w 25 (.slice A0 list.length c0)
  obtain ⟨w1, e1⟩ : ∃ w1, w.alloc (.cells #[.slice A0 list.length c0] 25) = w1 := ⟨_, rfl⟩
  have b1 : Below w.heap.size w w1 := by rw [← e1]; exact (Below.refl _ w).alloc (Nat.le_refl _) _
  rw [e1] at x1
  have x2 := Boxed.new w1 72 (.func (.func ge) bde fre)
  have y1 := x1.alloc (.cells #[.func (.func ge) bde fre] 72)
  obtain ⟨w2, e2⟩ : ∃ w2, w1.alloc (.cells #[.func (.func ge) bde fre] 72) = w2 := ⟨_, rfl⟩
  have b2 : Below w.heap.size w w2 := by rw [← e2]; exact b1.alloc b1.size _
  rw [e2] at x2 y1
  obtain ⟨fv, hfv⟩ : ∃ fv : Value, fv = .func (.func 68) #[] #[.pointer (some ⟨w1.heap.size, 0, none⟩), .pointer (some ⟨w.heap.size, 0, none⟩), .pointer (some ⟨w2.heap.size, 0, none⟩)] := ⟨_, rfl⟩
  have x3 := Boxed.new w2 72 fv
  have y2 := x2.alloc (.cells #[fv] 72)
  have u1 := y1.alloc (.cells #[fv] 72)
  obtain ⟨w4, e4⟩ : ∃ w4, w2.alloc (.cells #[fv] 72) = w4 := ⟨_, rfl⟩
  have b4 : Below w.heap.size w w4 := by rw [← e4]; exact b2.alloc b2.size _
  rw [e4] at x3 y2 u1
  have F4 : Fr S w w4 := Fr.of b4
  have nS : ∀ k, w.heap.size ≤ k → ¬ S k := fun k hk hs => by have := hSl k hs; omega
  have hcall := chooseS_calls list A0 c0 S I base w4 ge bde fre step w.heap.size w1.heap.size w2.heap.size hn (T.later F4) (Nat.le_trans hb b4.size) (fun k hk => Nat.lt_of_lt_of_le (hSl k hk) b4.size) (fun W h => hC W (F4.trans h)) hc0 u1 y2 (hfv ▸ x3) (nS _ (Nat.le_refl _)) (nS _ b1.size) (nS _ b2.size)
    (list.length + 1) s w4 (.slice none 0 0) [] (by rw [free_nil]; omega) (Fr.refl _ _) (T.st _ _ _ hI b4) (Kd.R_nil _ _ _ _ _) (fun x hx => by cases hx) (by rw [free_nil]; simp)
  have HCALL := Aside0.mk hcall
  have q4 := x3.cell
  have HF4 := Aside0.mk F4
  clear hcall x1 x2 x3 y1 y2 u1 b1 b2 b4 T hC hI F4
  subst hfv
  go_enter Try.func63, Try.ntmps63
  go_wp2_with (go_at_call 68; refine HCALL.out.mono ?_; rintro e w5 ⟨rfl, hI5, hF5⟩)
  go_end0
  exact ⟨rfl, hI5, HF4.out.trans hF5⟩

/-! bestSafe -/
abbrev BestS := List Int × Int
def bestStepS (sc : List Int → Int) (s : BestS) (st : List Int) : BestS := if s.2 < sc st then (st, sc st) else s
/-- What the score is. -/
def ScoreS (list : List Thing) (w : World) (g : Nat) (fr : Array Value) (sc : List Int → Int) : Prop :=
  ∀ (W : World) (A : Option Addr) (c : Nat) (st : List Int), Below w.heap.size w W → Inside list st → st.length ≤ list.length → Kd.C kInt W A st.length st → st.length ≤ c →
    Calls Try.prog g (#[.slice A st.length c] ++ fr) W fun e w' => e = .returned (.int .i64 (sc st)) ∧ Below W.heap.size W w'
def TwoV (base Bb Bm : Nat) (s : BestS) (W : World) : Prop :=
  (∃ v, Boxed W Bb 41 v ∧ Kd.R kInt 3 W base (fun k => ¬ (k = Bb ∨ k = Bm)) v s.1) ∧ Boxed W Bm 3 (.int .i64 s.2)
theorem TwoV.later {base Bb Bm : Nat} {s : BestS} {W W' : World} (h : TwoV base Bb Bm s W) (hb : Below W.heap.size W W') : TwoV base Bb Bm s W' := by
  obtain ⟨⟨v, h1, h2⟩, h3⟩ := h
  exact ⟨⟨v, box_below h1 hb, Kd.R_below h2 hb⟩, box_below h3 hb⟩

set_option maxRecDepth 100000 in
set_option maxHeartbeats 4000000 in
theorem bestSafe1_calls (list : List Thing) (w : World) (g : Nat) (fr : Array Value) (sc : List Int → Int) (eg : ∀ args w, (callFunc g args).run Try.prog w = .ok (.enter g args) w) (hsc : ScoreS list w g fr sc) (base Bs Bb Bm : Nat) (hbm : Bb ≠ Bm)
    (s : BestS) (W : World) (v : Value) (st : List Int) (hW : Below w.heap.size w W) (hs : Boxed W Bs 61 (.func (.func g) #[] fr)) (hI : TwoV base Bb Bm s W) (hv : Kd.R kInt 3 W base (fun k => ¬ (k = Bb ∨ k = Bm)) v st) (hin : Inside list st) (hl : st.length ≤ list.length) :
    Calls Try.prog 66 #[v, .pointer (some ⟨Bs, 0, none⟩), .pointer (some ⟨Bm, 0, none⟩), .pointer (some ⟨Bb, 0, none⟩)] W
      fun e w' => e = .returned (.tuple #[]) ∧ TwoV base Bb Bm (bestStepS sc s st) w' ∧ Fr (fun k => k = Bb ∨ k = Bm) W w' := by
  obtain ⟨A1, c1, rfl, hc1, hC1⟩ := Kd.R_reads hv
  have hcall := hsc W A1 c1 st hW hin hl hC1 hc1
  have HI := Aside0.mk hI
  have HV := Aside0.mk hv
  have q1 := hs.cell
  have HL := Aside0.mk hl
  clear hI hv hC1 hs hW hin hl
  generalize hn : sc st = n at hcall
  have HN := Aside0.mk hn
  clear hn
  have hbm2 := Ne.symm hbm
  obtain ⟨b, m⟩ := s
  go_enter Try.func66, Try.ntmps66
  by_cases h1 : m < n
  · go_wp2_with (go_at_fn g; refine hcall.mono ?_; rintro e w2 ⟨rfl, hb2⟩; have B2 := Aside0.mk hb2; obtain ⟨⟨vb, xb, xr⟩, xm⟩ := HI.out.later B2.out; have qm := xm.cell; have fm := xm.frozen; have fb := xb.frozen; have qb := xb.cell)
    go_end0
    have hF : Fr (fun k => k = Bb ∨ k = Bm) W ((w2.setCell ⟨Bb, 0, none⟩ (.slice A1 st.length c1)).setCell ⟨Bm, 0, none⟩ (.int .i64 n)) :=
      ((Fr.of B2.out).set _ _ (.inl (.inl rfl))).set _ _ (.inl (.inr rfl))
    refine ⟨rfl, ?_, hF⟩
    unfold bestStepS
    rw [HN.out, if_pos h1]
    exact ⟨⟨_, (xb.set _).other hbm _, R_fr HV.out hF (fun _ h => h)⟩, (xm.other hbm2 _).set _⟩
  · go_wp2_with (go_at_fn g; refine hcall.mono ?_; rintro e w2 ⟨rfl, hb2⟩; have B2 := Aside0.mk hb2; obtain ⟨⟨vb, xb, xr⟩, xm⟩ := HI.out.later B2.out; have qm := xm.cell; have fm := xm.frozen; have fb := xb.frozen; have qb := xb.cell)
    go_end0
    refine ⟨rfl, ?_, Fr.of B2.out⟩
    unfold bestStepS
    rw [HN.out, if_neg (by simp only; omega)]
    exact ⟨⟨_, xb, xr⟩, xm⟩

def bestAllS (list : List Thing) (sc : List Int → Int) : BestS := (allS list).foldl (bestStepS sc) ([], -1)

set_option maxRecDepth 100000 in
set_option maxHeartbeats 4000000 in
theorem bestSafe_calls (list : List Thing) (A0 : Option Addr) (c0 : Nat) (g : Nat) (fr : Array Value) (sc : List Int → Int) (w : World) (eg : ∀ args w, (callFunc g args).run Try.prog w = .ok (.enter g args) w) (hsc : ScoreS list w g fr sc)
    (hn : list.length ≤ 1000) (hr0 : Kd.C k49 w A0 list.length list) (hc0 : list.length ≤ c0) (r : BestS) (hr : bestAllS list sc = r) :
    Calls Try.prog 51 #[.slice A0 list.length c0, .func (.func g) #[] fr] w fun e w' => ∃ v0_ : Value, e = .returned (.tuple #[v0_, .int .i64 r.2]) ∧ Kd.R kInt 3 w' w.heap.size (fun _ => True) v0_ r.1 ∧ Below w.heap.size w w' := by
  have HR0 := Aside0.mk hr0
  have HSC := Aside0.mk hsc
  have HRR := Aside0.mk hr
  clear hr0 hsc hr
  go_enter Try.func51, Try.ntmps51
  go_wp2_with fail
  have x1 := ((Boxed.new w 61 (.func (.func g) #[] fr)).alloc (.cells #[.slice none 0 0] 41)).alloc (.cells #[.int .i64 (-1)] 3)
  have x2 := (Boxed.new (w.alloc (.cells #[.func (.func g) #[] fr] 61)) 41 (.slice none 0 0)).alloc (.cells #[.int .i64 (-1)] 3)
  have x3 := Boxed.new ((w.alloc (.cells #[.func (.func g) #[] fr] 61)).alloc (.cells #[.slice none 0 0] 41)) 3 (.int .i64 (-1))
  have b5 : Below w.heap.size w (((w.alloc (.cells #[.func (.func g) #[] fr] 61)).alloc (.cells #[.slice none 0 0] 41)).alloc (.cells #[.int .i64 (-1)] 3)) :=
    (((Below.refl _ w).alloc (by simp) _).alloc (by simp) _).alloc (by simp <;> omega) _
  have z5 : (((w.alloc (.cells #[.func (.func g) #[] fr] 61)).alloc (.cells #[.slice none 0 0] 41)).alloc (.cells #[.int .i64 (-1)] 3)).heap.size = w.heap.size + 3 := by simp
  generalize (((w.alloc (.cells #[.func (.func g) #[] fr] 61)).alloc (.cells #[.slice none 0 0] 41)).alloc (.cells #[.int .i64 (-1)] 3)) = W5 at x1 x2 x3 b5 z5 ⊢
  simp only [show ∀ (W : World) (o : Obj), (W.alloc o).heap.size = W.heap.size + 1 from fun W o => by simp] at x1 x2 x3
  have h3 : TwoV w.heap.size (w.heap.size + 1) (w.heap.size + 1 + 1) ([], -1) W5 := ⟨⟨_, x2, Kd.R_nil _ _ _ _ _⟩, x3⟩
  have hT : One list (fun k => k = w.heap.size + 1 ∨ k = w.heap.size + 1 + 1) (TwoV w.heap.size (w.heap.size + 1) (w.heap.size + 1 + 1)) w.heap.size W5
      66 #[] #[.pointer (some ⟨w.heap.size, 0, none⟩), .pointer (some ⟨w.heap.size + 1 + 1, 0, none⟩), .pointer (some ⟨w.heap.size + 1, 0, none⟩)] (bestStepS sc) := by
    refine ⟨enters_of Try.func66 (by kernel_rfl) rfl, fun s W W' h hb => h.later hb, fun s W v st hF hI hv hin hl => ?_⟩
    exact bestSafe1_calls list w g fr sc eg HSC.out w.heap.size w.heap.size (w.heap.size + 1) (w.heap.size + 1 + 1) (by omega) s W v st (b5.trans (hF.below (fun k hk => by omega) b5.size)) (box_fr x1 hF (by omega)) hI hv hin hl
  have hcall := safeStacks_calls list A0 c0 _ _ w.heap.size W5 _ _ _ _ ([], -1) hn hT b5.size (fun k hk => by rw [z5]; omega)
    (fun W h => Kd.C_below HR0.out (b5.trans (h.below (fun k hk => by omega) b5.size))) hc0 h3
  rw [show (allS list).foldl (bestStepS sc) ([], -1) = r from HRR.out] at hcall
  have B5 := Aside0.mk b5
  clear x1 x2 x3 h3 hT b5 z5
  go_wp2_with (go_at_call 63; refine hcall.mono ?_; rintro e w6 ⟨rfl, ⟨⟨v, xb, xr⟩, xm⟩, hF6⟩)
  obtain ⟨A1, c1, rfl⟩ := Kd.R_slice xr
  have q1 := xb.cell
  have q2 := xm.cell
  have HX := Aside0.mk xr
  clear xr
  go_region
  all_goals
    go_wp2
    go_ret2
    exact ⟨_, rfl, Kd.R_mono HX.out (fun _ _ => trivial), (B5.out.trans (hF6.below (fun k hk => by omega) B5.out.size)).drew⟩
end Go.Proofs.Ytbmefldckdaopaa.Q

namespace Go.Proofs.Ytbmefldckdaopaa.Q
open Go.RowKit Go.Shelf Go.Proofs.YtbmefldckdaopaaW.PrintWords Go.Proofs.YtbmefldckdaopaaW.PrintLast Go.Proofs.YtbmefldckdaopaaW.PrintMore
set_option linter.unusedVariables false
set_option linter.unusedSimpArgs false

def bitI (b : Bool) : Int := if b = true then 1 else 0
theorem bit_calls (b : Bool) (W : World) : Calls Try.prog 65 #[.bool b] W fun e w' => e = .returned (.int .i64 (bitI b)) ∧ w' = W := by
  cases b
  all_goals
    go_enter Try.func65, Try.ntmps65
    go_wp2
    go_ret
    exact ⟨rfl, rfl⟩

def countStep (many : Int) (n : Int) (st : List Int) : Int := wrap64 (n + bitI ((st.length : Int) == many))
def CountV (Ba : Nat) (n : Int) (W : World) : Prop := Boxed W Ba 3 (.int .i64 n)
set_option maxRecDepth 100000 in
set_option maxHeartbeats 4000000 in
theorem countSafe1_calls (Ba Bm : Nat) (many n : Int) (W : World) (base : Nat) (ok : Nat → Prop) (v : Value) (st : List Int) (hI : CountV Ba n W) (hm : Boxed W Bm 3 (.int .i64 many)) (hne : Ba ≠ Bm) (hv : Kd.R kInt 3 W base ok v st) :
    Calls Try.prog 64 #[v, .pointer (some ⟨Ba, 0, none⟩), .pointer (some ⟨Bm, 0, none⟩)] W
      fun e w' => e = .returned (.tuple #[]) ∧ CountV Ba (countStep many n st) w' ∧ Fr (fun k => k = Ba) W w' := by
  obtain ⟨A1, c1, rfl⟩ := Kd.R_slice hv
  have HI := Aside0.mk hI
  clear hv
  have q1 := hI.cell
  have f1 := hI.frozen
  have q2 := hm.cell
  clear hI hm
  go_enter Try.func64, Try.ntmps64
  go_region_with (first | (go_at_call 65; refine (bit_calls _ _).mono ?_; rintro e w' ⟨rfl, rfl⟩))
  all_goals
    go_wp2
    go_end0
    exact ⟨rfl, by rw [i64_w]; exact box_below (HI.out.set _) ((Below.refl _ _).drew), ((Fr.refl (fun k => k = Ba) W).set ⟨Ba, 0, none⟩ _ (.inl rfl)).drew⟩

def countAll (list : List Thing) (many : Int) : Int := (allS list).foldl (countStep many) 0
def impl_countSafe.f (l0 : List Thing) (a1 : Int) : Option Int := if l0.length ≤ 1000 then some (countAll l0 a1) else none
set_option maxRecDepth 100000 in
set_option maxHeartbeats 4000000 in
theorem impl_countSafe.calls (A0 : Option Addr) (c0 : Nat) (l0 : List Thing) (a1 : Int) (r : Int) (w : World) (hr0 : Kd.C k49 w A0 l0.length l0) (hc0 : l0.length ≤ c0) (h : impl_countSafe.f l0 a1 = some r) :
    Calls Try.prog 49 #[.slice A0 l0.length c0, .int .i64 a1] w fun e w' => e = .returned (.int .i64 r) ∧ Below w.heap.size w w' := by
  have hn : l0.length ≤ 1000 := by
    unfold impl_countSafe.f at h
    split at h
    · assumption
    · cases h
  have hr : countAll l0 a1 = r := by
    unfold impl_countSafe.f at h
    rw [if_pos hn] at h
    injection h
  have HR0 := Aside0.mk hr0
  have HRR := Aside0.mk hr
  clear hr0 hr h
  go_enter Try.func49, Try.ntmps49
  go_wp2_with fail
  have x1 := (Boxed.new w 3 (.int .i64 a1)).alloc (.cells #[.int .i64 0] 3)
  have x2 := Boxed.new (w.alloc (.cells #[.int .i64 a1] 3)) 3 (.int .i64 0)
  have b5 : Below w.heap.size w ((w.alloc (.cells #[.int .i64 a1] 3)).alloc (.cells #[.int .i64 0] 3)) := ((Below.refl _ w).alloc (by simp) _).alloc (by simp) _
  have z5 : ((w.alloc (.cells #[.int .i64 a1] 3)).alloc (.cells #[.int .i64 0] 3)).heap.size = w.heap.size + 2 := by simp
  generalize ((w.alloc (.cells #[.int .i64 a1] 3)).alloc (.cells #[.int .i64 0] 3)) = W5 at x1 x2 b5 z5 ⊢
  simp only [show ∀ (W : World) (o : Obj), (W.alloc o).heap.size = W.heap.size + 1 from fun W o => by simp] at x1 x2
  have hT : One l0 (fun k => k = w.heap.size + 1) (CountV (w.heap.size + 1)) w.heap.size W5
      64 #[] #[.pointer (some ⟨w.heap.size + 1, 0, none⟩), .pointer (some ⟨w.heap.size, 0, none⟩)] (countStep a1) := by
    refine ⟨enters_of Try.func64 (by kernel_rfl) rfl, fun s W W' h hb => box_below h hb, fun s W v st hF hI hv hin hl => ?_⟩
    exact countSafe1_calls (w.heap.size + 1) w.heap.size a1 s W _ _ v st hI (box_fr x1 hF (by omega)) (by omega) hv
  have hcall := safeStacks_calls l0 A0 c0 _ _ w.heap.size W5 _ _ _ _ 0 hn hT b5.size (fun k hk => by rw [z5]; omega)
    (fun W h => Kd.C_below HR0.out (b5.trans (h.below (fun k hk => by omega) b5.size))) hc0 x2
  rw [show (allS l0).foldl (countStep a1) 0 = r from HRR.out] at hcall
  have B5 := Aside0.mk b5
  clear x1 x2 hT b5 z5
  go_wp2_with (go_at_call 63; refine hcall.mono ?_; rintro e w6 ⟨rfl, hx, hF6⟩; have q1 := (show Boxed w6 (w.heap.size + 1) 3 (.int .i64 r) from hx).cell)
  go_ret
  exact ⟨rfl, B5.out.trans (hF6.below (fun k hk => by omega) B5.out.size)⟩
end Go.Proofs.Ytbmefldckdaopaa.Q

namespace Go.Proofs.Ytbmefldckdaopaa.Q
open Go.RowKit Go.Proofs.YtbmefldckdaopaaW.PrintWords Go.Proofs.YtbmefldckdaopaaW.PrintLast Go.Proofs.YtbmefldckdaopaaW.PrintMore
attribute [local go_sem] max2_int min2_int max_two min_two max_three min_three max_four min_four   -- for this text's walks alone
set_option linter.unusedVariables false
set_option linter.unusedSimpArgs false

/-! ### impl_CountSafe: function 24 -/
def impl_CountSafe.f (l0 : List (S49)) (a1 : Int) : Option (Int × Bool) := (impl_AreStackable.f l0).bind fun t257 => (if t257 = true then ((impl_within.f a1 0 (l0.length : Int)).bind fun t258 => (if t258 = true then ((impl_countSafe.f l0 a1).bind fun t259 => (some (t259, true))) else (some (0, false)))) else (some (0, false)))
set_option maxHeartbeats 8000000 in
set_option maxRecDepth 100000 in
theorem impl_CountSafe.calls (A0 : Option Addr) (c0 : Nat) (l0 : List (S49)) (a1 : Int) (r1 : Int) (r2 : Bool) (w : World) (hr0 : Kd.C k49 w A0 l0.length l0) (hc0 : l0.length ≤ c0) (h : impl_CountSafe.f l0 a1 = some (r1, r2)) :
    Calls Try.prog 24 #[.slice A0 l0.length c0, .int .i64 a1] w fun e w' => e = .returned (.tuple #[.int .i64 r1, .bool r2]) ∧ Below w.heap.size w w' := by
  have HR0 := Aside0.mk hr0
  have HC0 := Aside0.mk hc0
  clear hr0 hc0
  have HB := Aside0.mk (Below.refl w.heap.size w)
  have H : ((impl_AreStackable.f l0).bind fun t257 => (if t257 = true then ((impl_within.f a1 0 (l0.length : Int)).bind fun t258 => (if t258 = true then ((impl_countSafe.f l0 a1).bind fun t259 => (some (t259, true))) else (some (0, false)))) else (some (0, false)))) = some (r1, r2) := h
  clear h
  replace H := Option.bind_eq_some_iff.mp H
  obtain ⟨t257, A30, H⟩ := H
  replace H : (if t257 = true then ((impl_within.f a1 0 (l0.length : Int)).bind fun t258 => (if t258 = true then ((impl_countSafe.f l0 a1).bind fun t259 => (some (t259, true))) else (some (0, false)))) else (some (0, false))) = some (r1, r2) := H
  have A3 := Aside0.mk A30
  clear A30
  by_cases c4 : t257 = true
  · subst c4
    have H1 : ((impl_within.f a1 0 (l0.length : Int)).bind fun t258 => (if t258 = true then ((impl_countSafe.f l0 a1).bind fun t259 => (some (t259, true))) else (some (0, false)))) = some (r1, r2) := by rw [if_pos rfl] at H; exact H
    clear H
    have H := H1
    clear H1
    replace H := Option.bind_eq_some_iff.mp H
    obtain ⟨t258, A50, H⟩ := H
    replace H : (if t258 = true then ((impl_countSafe.f l0 a1).bind fun t259 => (some (t259, true))) else (some (0, false))) = some (r1, r2) := H
    have A5 := Aside0.mk A50
    clear A50
    by_cases c6 : t258 = true
    · subst c6
      have H1 : ((impl_countSafe.f l0 a1).bind fun t259 => (some (t259, true))) = some (r1, r2) := by rw [if_pos rfl] at H; exact H
      clear H
      have H := H1
      clear H1
      replace H := Option.bind_eq_some_iff.mp H
      obtain ⟨t259, A70, H⟩ := H
      replace H : (some (t259, true)) = some (r1, r2) := H
      have A7 := Aside0.mk A70
      clear A70
      simp only [Option.some.injEq, Prod.mk.injEq] at H
      obtain ⟨rfl, rfl⟩ := H
      go_enter Try.func24, Try.ntmps24
      go_wp2_with (first | ((with_reducible refine gate_callee (f := 15) rfl ?_); refine goesL_ (some 7) rfl rfl Try.func15 (by kernel_rfl) rfl #[.slice A0 l0.length c0] rfl (by (try simp only [List.map_toArray, List.map_cons, List.map_nil]); first | done | rfl | (simp only [List.length_drop, List.length_take]; rfl)) ?_; (with_reducible refine (impl_AreStackable.calls _ _ l0 true _ ?side1 ?side2 A3.out).mono ?_); (case side1 => repeat (first | exact HR0.out | (with_reducible refine Kd.C_alloc ?_ _) | (with_reducible refine Kd.C_drewN ?_ _) | (with_reducible refine Kd.C_drew ?_))); (case side2 => exact HC0.out); rintro e w8 ⟨rfl, hb⟩; refine ⟨_, rfl, ?_⟩; have n0_ := Aside0.mk (below_step (by repeat (first | (with_reducible first | exact HB.out | apply below_alloc | apply pw_below_drewN | apply below_drew1) | exact HB.out)) hb); clear HB; have HB := n0_; clear n0_; (try clear hb); (try clear hb2); (try clear hk); (try clear hi)) | (go_at_call 42; (with_reducible refine (impl_within.calls a1 0 (l0.length : Int) true _ A5.out).mono ?_); rintro e w' ⟨rfl, ⟨nd, rfl⟩⟩) | ((with_reducible refine gate_callee (f := 49) rfl ?_); refine goesL_ (some 18) rfl rfl Try.func49 (by kernel_rfl) rfl #[.slice A0 l0.length c0, .int .i64 a1] rfl (by (try simp only [List.map_toArray, List.map_cons, List.map_nil]); first | done | rfl | (simp only [List.length_drop, List.length_take]; rfl)) ?_; (with_reducible refine (impl_countSafe.calls _ _ l0 a1 t259 _ ?side1 ?side2 A7.out).mono ?_); (case side1 => repeat (first | exact (Kd.C_below HR0.out (by repeat (first | (with_reducible first | exact HB.out | apply below_alloc | apply pw_below_drewN | apply below_drew1) | exact HB.out))) | (with_reducible refine Kd.C_alloc ?_ _) | (with_reducible refine Kd.C_drewN ?_ _) | (with_reducible refine Kd.C_drew ?_))); (case side2 => exact HC0.out); rintro e w9 ⟨rfl, hb⟩; refine ⟨_, rfl, ?_⟩; have n0_ := Aside0.mk (below_step (by repeat (first | (with_reducible first | exact HB.out | apply below_alloc | apply pw_below_drewN | apply below_drew1) | exact HB.out)) hb); clear HB; have HB := n0_; clear n0_; (try clear hb); (try clear hb2); (try clear hk); (try clear hi)))
      go_ret2
      exact ⟨by first | rfl | (simp [errW_none, errW_some] <;> rfl) | (simp [*, errW_none, errW_some] <;> rfl), by repeat (first | (with_reducible first | exact HB.out | apply below_alloc | apply pw_below_drewN | apply below_drew1) | exact HB.out)⟩
    · replace c6 := Bool.eq_false_iff.mpr c6
      subst c6
      have H1 : (some (0, false)) = some (r1, r2) := by rw [if_neg (show ¬ (false = true) by decide)] at H; exact H
      clear H
      have H := H1
      clear H1
      simp only [Option.some.injEq, Prod.mk.injEq] at H
      obtain ⟨rfl, rfl⟩ := H
      go_enter Try.func24, Try.ntmps24
      go_wp2_with (first | ((with_reducible refine gate_callee (f := 15) rfl ?_); refine goesL_ (some 7) rfl rfl Try.func15 (by kernel_rfl) rfl #[.slice A0 l0.length c0] rfl (by (try simp only [List.map_toArray, List.map_cons, List.map_nil]); first | done | rfl | (simp only [List.length_drop, List.length_take]; rfl)) ?_; (with_reducible refine (impl_AreStackable.calls _ _ l0 true _ ?side1 ?side2 A3.out).mono ?_); (case side1 => repeat (first | exact HR0.out | (with_reducible refine Kd.C_alloc ?_ _) | (with_reducible refine Kd.C_drewN ?_ _) | (with_reducible refine Kd.C_drew ?_))); (case side2 => exact HC0.out); rintro e w10 ⟨rfl, hb⟩; refine ⟨_, rfl, ?_⟩; have n0_ := Aside0.mk (below_step (by repeat (first | (with_reducible first | exact HB.out | apply below_alloc | apply pw_below_drewN | apply below_drew1) | exact HB.out)) hb); clear HB; have HB := n0_; clear n0_; (try clear hb); (try clear hb2); (try clear hk); (try clear hi)) | (go_at_call 42; (with_reducible refine (impl_within.calls a1 0 (l0.length : Int) false _ A5.out).mono ?_); rintro e w' ⟨rfl, ⟨nd, rfl⟩⟩))
      go_ret2
      exact ⟨by first | rfl | (simp [errW_none, errW_some] <;> rfl) | (simp [*, errW_none, errW_some] <;> rfl), by repeat (first | (with_reducible first | exact HB.out | apply below_alloc | apply pw_below_drewN | apply below_drew1) | exact HB.out)⟩
  · replace c4 := Bool.eq_false_iff.mpr c4
    subst c4
    have H1 : (some (0, false)) = some (r1, r2) := by rw [if_neg (show ¬ (false = true) by decide)] at H; exact H
    clear H
    have H := H1
    clear H1
    simp only [Option.some.injEq, Prod.mk.injEq] at H
    obtain ⟨rfl, rfl⟩ := H
    go_enter Try.func24, Try.ntmps24
    go_wp2_with (first | ((with_reducible refine gate_callee (f := 15) rfl ?_); refine goesL_ (some 7) rfl rfl Try.func15 (by kernel_rfl) rfl #[.slice A0 l0.length c0] rfl (by (try simp only [List.map_toArray, List.map_cons, List.map_nil]); first | done | rfl | (simp only [List.length_drop, List.length_take]; rfl)) ?_; (with_reducible refine (impl_AreStackable.calls _ _ l0 false _ ?side1 ?side2 A3.out).mono ?_); (case side1 => repeat (first | exact HR0.out | (with_reducible refine Kd.C_alloc ?_ _) | (with_reducible refine Kd.C_drewN ?_ _) | (with_reducible refine Kd.C_drew ?_))); (case side2 => exact HC0.out); rintro e w11 ⟨rfl, hb⟩; refine ⟨_, rfl, ?_⟩; have n0_ := Aside0.mk (below_step (by repeat (first | (with_reducible first | exact HB.out | apply below_alloc | apply pw_below_drewN | apply below_drew1) | exact HB.out)) hb); clear HB; have HB := n0_; clear n0_; (try clear hb); (try clear hb2); (try clear hk); (try clear hi)))
    go_ret2
    exact ⟨by first | rfl | (simp [errW_none, errW_some] <;> rfl) | (simp [*, errW_none, errW_some] <;> rfl), by repeat (first | (with_reducible first | exact HB.out | apply below_alloc | apply pw_below_drewN | apply below_drew1) | exact HB.out)⟩

end Go.Proofs.Ytbmefldckdaopaa.Q

namespace Go.Proofs.Ytbmefldckdaopaa.Q
open Go.RowKit Go.Proofs.YtbmefldckdaopaaW.PrintWords Go.Proofs.YtbmefldckdaopaaW.PrintLast Go.Proofs.YtbmefldckdaopaaW.PrintMore
attribute [local go_sem] max2_int min2_int max_two min_two max_three min_three max_four min_four   -- for this text's walks alone
set_option linter.unusedVariables false
set_option linter.unusedSimpArgs false

/-! ### impl_CountSafeOrders: function 28 -/
def impl_CountSafeOrders.f (l0 : List (S49)) : Option (Int × Bool) := (impl_CountSafe.f l0 (l0.length : Int)).bind fun bt307 => (some (bt307.1, bt307.2))
set_option maxHeartbeats 8000000 in
set_option maxRecDepth 100000 in
theorem impl_CountSafeOrders.calls (A0 : Option Addr) (c0 : Nat) (l0 : List (S49)) (r1 : Int) (r2 : Bool) (w : World) (hr0 : Kd.C k49 w A0 l0.length l0) (hc0 : l0.length ≤ c0) (h : impl_CountSafeOrders.f l0 = some (r1, r2)) :
    Calls Try.prog 28 #[.slice A0 l0.length c0] w fun e w' => e = .returned (.tuple #[.int .i64 r1, .bool r2]) ∧ Below w.heap.size w w' := by
  have HR0 := Aside0.mk hr0
  have HC0 := Aside0.mk hc0
  clear hr0 hc0
  have HB := Aside0.mk (Below.refl w.heap.size w)
  have H : ((impl_CountSafe.f l0 (l0.length : Int)).bind fun bt307 => (some (bt307.1, bt307.2))) = some (r1, r2) := h
  clear h
  replace H := Option.bind_eq_some_iff.mp H
  obtain ⟨⟨t307, t308⟩, A20, H⟩ := H
  replace H : (some (t307, t308)) = some (r1, r2) := H
  have A2 := Aside0.mk A20
  clear A20
  simp only [Option.some.injEq, Prod.mk.injEq] at H
  obtain ⟨rfl, rfl⟩ := H
  go_enter Try.func28, Try.ntmps28
  go_wp2_with (first | ((with_reducible refine gate_callee (f := 24) rfl ?_); refine goesL_ (some 7) rfl rfl Try.func24 (by kernel_rfl) rfl #[.slice A0 l0.length c0, .int .i64 (l0.length : Int)] rfl (by (try simp only [List.map_toArray, List.map_cons, List.map_nil]); first | done | rfl | (simp only [List.length_drop, List.length_take]; rfl)) ?_; (with_reducible refine (impl_CountSafe.calls _ _ l0 (l0.length : Int) t307 t308 _ ?side1 ?side2 A2.out).mono ?_); (case side1 => repeat (first | exact HR0.out | (with_reducible refine Kd.C_alloc ?_ _) | (with_reducible refine Kd.C_drewN ?_ _) | (with_reducible refine Kd.C_drew ?_))); (case side2 => exact HC0.out); rintro e w3 ⟨rfl, hb⟩; refine ⟨_, rfl, ?_⟩; have n0_ := Aside0.mk (below_step (by repeat (first | (with_reducible first | exact HB.out | apply below_alloc | apply pw_below_drewN | apply below_drew1) | exact HB.out)) hb); clear HB; have HB := n0_; clear n0_; (try clear hb); (try clear hb2); (try clear hk); (try clear hi)))
  go_ret2
  exact ⟨by first | rfl | (simp [errW_none, errW_some] <;> rfl) | (simp [*, errW_none, errW_some] <;> rfl), by repeat (first | (with_reducible first | exact HB.out | apply below_alloc | apply pw_below_drewN | apply below_drew1) | exact HB.out)⟩

end Go.Proofs.Ytbmefldckdaopaa.Q

namespace Go.Proofs.Ytbmefldckdaopaa.Q
open Go.RowKit Go.Proofs.YtbmefldckdaopaaW.PrintWords Go.Proofs.YtbmefldckdaopaaW.PrintLast Go.Proofs.YtbmefldckdaopaaW.PrintMore
attribute [local go_sem] max2_int min2_int max_two min_two max_three min_three max_four min_four   -- for this text's walks alone
set_option linter.unusedVariables false
set_option linter.unusedSimpArgs false

/-! ### laws_FnExactCountSafeOrders: function 7 -/
def laws_FnExactCountSafeOrders.j0 : Nat → List (S51) → List (S49) → Bool → Option (Bool)
  | 0, _, _, _ => none
  | k + 1, x0, x6, x34 => if x34 = true then (some false) else ((laws_toThingS.f k x0).bind fun t320 => ((laws_eqThingS.f k x6 t320).bind fun t323 => (if t323 = true then (some true) else (some false))))
def laws_FnExactCountSafeOrders.f (k : Nat) (l0 : List (S51)) : Option (Bool) := (laws_szThingS.f l0 1048576).bind fun t309 => (if t309 < 0 then (some true) else ((laws_toThingS.f k l0).bind fun t310 => ((spec_CountSafeOrders.f k t310).bind fun bt313 => ((laws_toThingS.f k l0).bind fun t315 => ((impl_CountSafeOrders.f t315).bind fun bt318 => (if bt318.1 = bt313.1 then (laws_FnExactCountSafeOrders.j0 k l0 t315 (bt318.2 != bt313.2)) else (laws_FnExactCountSafeOrders.j0 k l0 t315 true)))))))
theorem laws_FnExactCountSafeOrders.mono_l : ∀ k, (∀ y0 y1 y2, LeO (laws_FnExactCountSafeOrders.j0 k y0 y1 y2) (laws_FnExactCountSafeOrders.j0 (k + 1) y0 y1 y2))
  | 0 => fun _ _ _ r h => by simp [laws_FnExactCountSafeOrders.j0] at h
  | k + 1 => by
    have ih0 := laws_FnExactCountSafeOrders.mono_l k
    · intro y0 y1 y2
      unfold laws_FnExactCountSafeOrders.j0
      repeat' first
      | (with_reducible exact ih0 _ _ _)
      | (with_reducible exact laws_eqThingS.mono _ _ _)
      | (with_reducible exact laws_toThingS.mono _ _)
      | (with_reducible exact spec_CountSafeOrders.mono _ _)
      | (with_reducible exact LeO.refl _)
      | (with_reducible exact LeO.none _)
      | (with_reducible refine LeO.ite ?_ ?_)
      | (with_reducible refine LeO.bind ?_ (fun _ => ?_))
      | exact ih0 _ _ _
      | exact laws_eqThingS.mono _ _ _
      | exact laws_toThingS.mono _ _
      | exact spec_CountSafeOrders.mono _ _
      | exact LeO.none _
      | refine LeO.ite ?_ ?_
      | refine LeO.bind ?_ (fun _ => ?_)
theorem laws_FnExactCountSafeOrders.mono : ∀ a0 k, LeO (laws_FnExactCountSafeOrders.f k a0) (laws_FnExactCountSafeOrders.f (k + 1) a0) := by
  intro a0 k
  have ih0 := laws_FnExactCountSafeOrders.mono_l k
  unfold laws_FnExactCountSafeOrders.f
  repeat' first
      | (with_reducible exact ih0 _ _ _)
      | (with_reducible exact laws_eqThingS.mono _ _ _)
      | (with_reducible exact laws_toThingS.mono _ _)
      | (with_reducible exact spec_CountSafeOrders.mono _ _)
      | (with_reducible exact LeO.refl _)
      | (with_reducible exact LeO.none _)
      | (with_reducible refine LeO.ite ?_ ?_)
      | (with_reducible refine LeO.bind ?_ (fun _ => ?_))
      | exact ih0 _ _ _
      | exact laws_eqThingS.mono _ _ _
      | exact laws_toThingS.mono _ _
      | exact spec_CountSafeOrders.mono _ _
      | exact LeO.none _
      | refine LeO.ite ?_ ?_
      | refine LeO.bind ?_ (fun _ => ?_)
set_option maxHeartbeats 8000000 in
set_option maxRecDepth 100000 in
theorem laws_FnExactCountSafeOrders.calls (k : Nat) (A0 : Option Addr) (c0 : Nat) (l0 : List (S51)) (r : Bool) (w : World) (hr0 : Kd.C k51 w A0 l0.length l0) (hc0 : l0.length ≤ c0) (h : laws_FnExactCountSafeOrders.f k l0 = some r) :
    Calls Try.prog 7 #[.slice A0 l0.length c0] w fun e w' => e = .returned (.bool r) ∧ Below w.heap.size w w' := by
  have HR0 := Aside0.mk hr0
  have HC0 := Aside0.mk hc0
  clear hr0 hc0
  have HB := Aside0.mk (Below.refl w.heap.size w)
  have H : ((laws_szThingS.f l0 1048576).bind fun t309 => (if t309 < 0 then (some true) else ((laws_toThingS.f k l0).bind fun t310 => ((spec_CountSafeOrders.f k t310).bind fun bt313 => ((laws_toThingS.f k l0).bind fun t315 => ((impl_CountSafeOrders.f t315).bind fun bt318 => (if bt318.1 = bt313.1 then (laws_FnExactCountSafeOrders.j0 k l0 t315 (bt318.2 != bt313.2)) else (laws_FnExactCountSafeOrders.j0 k l0 t315 true)))))))) = some r := h
  clear h
  replace H := Option.bind_eq_some_iff.mp H
  obtain ⟨t309, A20, H⟩ := H
  replace H : (if t309 < 0 then (some true) else ((laws_toThingS.f k l0).bind fun t310 => ((spec_CountSafeOrders.f k t310).bind fun bt313 => ((laws_toThingS.f k l0).bind fun t315 => ((impl_CountSafeOrders.f t315).bind fun bt318 => (if bt318.1 = bt313.1 then (laws_FnExactCountSafeOrders.j0 k l0 t315 (bt318.2 != bt313.2)) else (laws_FnExactCountSafeOrders.j0 k l0 t315 true))))))) = some r := H
  have A2 := Aside0.mk A20
  clear A20
  by_cases c3 : t309 < 0
  · rw [if_pos c3] at H
    have c3b0 : decide (t309 < 0) = true := decide_eq_true c3
    clear c3
    obtain rfl := Option.some.inj H
    go_enter Try.func7, Try.ntmps7
    go_wp2_with (first | ((with_reducible refine gate_callee (f := 12) rfl ?_); refine goesL_ (some 11) rfl rfl Try.func12 (by kernel_rfl) rfl #[.slice A0 l0.length c0, .int .i64 1048576] rfl (by (try simp only [List.map_toArray, List.map_cons, List.map_nil]); first | done | rfl | (simp only [List.length_drop, List.length_take]; rfl)) ?_; (with_reducible refine (laws_szThingS.calls _ _ l0 1048576 t309 _ ?side1 ?side2 A2.out).mono ?_); (case side1 => repeat (first | exact HR0.out | (with_reducible refine Kd.C_alloc ?_ _) | (with_reducible refine Kd.C_drewN ?_ _) | (with_reducible refine Kd.C_drew ?_))); (case side2 => exact HC0.out); rintro e w' ⟨rfl, ⟨nd, rfl⟩⟩; refine ⟨_, rfl, ?_⟩))
    go_ret
    exact ⟨by first | rfl | (simp [errW_none, errW_some] <;> rfl) | (simp [*, errW_none, errW_some] <;> rfl), by repeat (first | (with_reducible first | exact HB.out | apply below_alloc | apply pw_below_drewN | apply below_drew1) | exact HB.out)⟩
  · rw [if_neg c3] at H
    have c3b0 : decide (t309 < 0) = false := decide_eq_false c3
    clear c3
    replace H := Option.bind_eq_some_iff.mp H
    obtain ⟨t310, A40, H⟩ := H
    replace H : ((spec_CountSafeOrders.f k t310).bind fun bt313 => ((laws_toThingS.f k l0).bind fun t315 => ((impl_CountSafeOrders.f t315).bind fun bt318 => (if bt318.1 = bt313.1 then (laws_FnExactCountSafeOrders.j0 k l0 t315 (bt318.2 != bt313.2)) else (laws_FnExactCountSafeOrders.j0 k l0 t315 true))))) = some r := H
    have A4 := Aside0.mk A40
    clear A40
    replace H := Option.bind_eq_some_iff.mp H
    obtain ⟨⟨t313, t314⟩, A50, H⟩ := H
    replace H : ((laws_toThingS.f k l0).bind fun t315 => ((impl_CountSafeOrders.f t315).bind fun bt318 => (if bt318.1 = t313 then (laws_FnExactCountSafeOrders.j0 k l0 t315 (bt318.2 != t314)) else (laws_FnExactCountSafeOrders.j0 k l0 t315 true)))) = some r := H
    have A5 := Aside0.mk A50
    clear A50
    replace H := Option.bind_eq_some_iff.mp H
    obtain ⟨t315, A60, H⟩ := H
    replace H : ((impl_CountSafeOrders.f t315).bind fun bt318 => (if bt318.1 = t313 then (laws_FnExactCountSafeOrders.j0 k l0 t315 (bt318.2 != t314)) else (laws_FnExactCountSafeOrders.j0 k l0 t315 true))) = some r := H
    have A6 := Aside0.mk A60
    clear A60
    replace H := Option.bind_eq_some_iff.mp H
    obtain ⟨⟨t318, t319⟩, A70, H⟩ := H
    replace H : (if t318 = t313 then (laws_FnExactCountSafeOrders.j0 k l0 t315 (t319 != t314)) else (laws_FnExactCountSafeOrders.j0 k l0 t315 true)) = some r := H
    have A7 := Aside0.mk A70
    clear A70
    have HC8 := Aside0.mk H
    clear H
    go_enter Try.func7, Try.ntmps7
    go_upto_region 8 with (first | ((with_reducible refine gate_callee (f := 12) rfl ?_); refine goesL_ (some 11) rfl rfl Try.func12 (by kernel_rfl) rfl #[.slice A0 l0.length c0, .int .i64 1048576] rfl (by (try simp only [List.map_toArray, List.map_cons, List.map_nil]); first | done | rfl | (simp only [List.length_drop, List.length_take]; rfl)) ?_; (with_reducible refine (laws_szThingS.calls _ _ l0 1048576 t309 _ ?side1 ?side2 A2.out).mono ?_); (case side1 => repeat (first | exact HR0.out | (with_reducible refine Kd.C_alloc ?_ _) | (with_reducible refine Kd.C_drewN ?_ _) | (with_reducible refine Kd.C_drew ?_))); (case side2 => exact HC0.out); rintro e w' ⟨rfl, ⟨nd, rfl⟩⟩; refine ⟨_, rfl, ?_⟩) | ((with_reducible refine gate_callee (f := 14) rfl ?_); refine goesL_ (some 16) rfl rfl Try.func14 (by kernel_rfl) rfl #[.slice A0 l0.length c0] rfl (by (try simp only [List.map_toArray, List.map_cons, List.map_nil]); first | done | rfl | (simp only [List.length_drop, List.length_take]; rfl)) ?_; (with_reducible refine (laws_toThingS.calls k _ _ l0 t310 _ ?side1 ?side2 A4.out).mono ?_); (case side1 => repeat (first | exact HR0.out | (with_reducible refine Kd.C_alloc ?_ _) | (with_reducible refine Kd.C_drewN ?_ _) | (with_reducible refine Kd.C_drew ?_))); (case side2 => exact HC0.out); rintro e w9 ⟨v311, rfl, ho0, hb⟩; refine ⟨_, rfl, ?_⟩; have n0_ := Aside0.mk (Kd.R_lower ho0 (below_size (by repeat (first | (with_reducible first | exact HB.out | apply below_alloc | apply pw_below_drewN | apply below_drew1) | exact HB.out)))); have n1_ := Aside0.mk (below_step (by repeat (first | (with_reducible first | exact HB.out | apply below_alloc | apply pw_below_drewN | apply below_drew1) | exact HB.out)) hb); clear HB; have HO312 := n0_; have HB := n1_; clear n0_ n1_; (try clear hb); (try clear hb2); (try clear hk); (try clear hi); (try clear ho0); obtain ⟨Ao10, co10, eo10⟩ := Kd.R_slice HO312.out; subst eo10) | ((with_reducible refine gate_callee (f := 27) rfl ?_); refine goesL_ (some 17) rfl rfl Try.func27 (by kernel_rfl) rfl #[.slice Ao10 t310.length co10] rfl (by (try simp only [List.map_toArray, List.map_cons, List.map_nil]); first | done | rfl | (simp only [List.length_drop, List.length_take]; rfl)) ?_; (with_reducible refine (spec_CountSafeOrders.calls k _ _ t310 t313 t314 _ ?side1 ?side2 A5.out).mono ?_); (case side1 => repeat (first | exact (Kd.R_reads' HO312.out).2.2 | (with_reducible refine Kd.C_alloc ?_ _) | (with_reducible refine Kd.C_drewN ?_ _) | (with_reducible refine Kd.C_drew ?_))); (case side2 => exact (Kd.R_reads' HO312.out).2.1); rintro e w11 ⟨rfl, hb⟩; refine ⟨_, rfl, ?_⟩; have n0_ := Aside0.mk (Kd.R_below (by (with_reducible repeat (first | apply Kd.R_alloc | apply Kd.R_drewN | apply Kd.R_drew)); exact HO312.out) hb); have n1_ := Aside0.mk (below_step (by repeat (first | (with_reducible first | exact HB.out | apply below_alloc | apply pw_below_drewN | apply below_drew1) | exact HB.out)) hb); clear HO312; clear HB; have HO312 := n0_; have HB := n1_; clear n0_ n1_; (try clear hb); (try clear hb2); (try clear hk); (try clear hi)) | ((with_reducible refine gate_callee (f := 14) rfl ?_); refine goesL_ (some 21) rfl rfl Try.func14 (by kernel_rfl) rfl #[.slice A0 l0.length c0] rfl (by (try simp only [List.map_toArray, List.map_cons, List.map_nil]); first | done | rfl | (simp only [List.length_drop, List.length_take]; rfl)) ?_; (with_reducible refine (laws_toThingS.calls k _ _ l0 t315 _ ?side1 ?side2 A6.out).mono ?_); (case side1 => repeat (first | exact (Kd.C_below HR0.out HB.out) | (with_reducible refine Kd.C_alloc ?_ _) | (with_reducible refine Kd.C_drewN ?_ _) | (with_reducible refine Kd.C_drew ?_))); (case side2 => exact HC0.out); rintro e w12 ⟨v316, rfl, ho0, hb⟩; refine ⟨_, rfl, ?_⟩; have n0_ := Aside0.mk (Kd.R_elder' (by (with_reducible repeat (first | apply Kd.R_alloc | apply Kd.R_drewN | apply Kd.R_drew)); exact HO312.out) (Kd.R_base ho0) hb); have n1_ := Aside0.mk (Kd.R_lower (Kd.R_new' ho0 (Kd.R_lt (by (with_reducible repeat (first | apply Kd.R_alloc | apply Kd.R_drewN | apply Kd.R_drew)); exact HO312.out))) (below_size (by repeat (first | (with_reducible first | exact HB.out | apply below_alloc | apply pw_below_drewN | apply below_drew1) | exact HB.out)))); have n2_ := Aside0.mk (below_step (by repeat (first | (with_reducible first | exact HB.out | apply below_alloc | apply pw_below_drewN | apply below_drew1) | exact HB.out)) hb); clear HO312; clear HB; have HO312 := n0_; have HO317 := n1_; have HB := n2_; clear n0_ n1_ n2_; (try clear hb); (try clear hb2); (try clear hk); (try clear hi); (try clear ho0); obtain ⟨Ao13, co13, eo13⟩ := Kd.R_slice HO317.out; subst eo13) | ((with_reducible refine gate_callee (f := 28) rfl ?_); refine goesL_ (some 24) rfl rfl Try.func28 (by kernel_rfl) rfl #[.slice Ao13 t315.length co13] rfl (by (try simp only [List.map_toArray, List.map_cons, List.map_nil]); first | done | rfl | (simp only [List.length_drop, List.length_take]; rfl)) ?_; (with_reducible refine (impl_CountSafeOrders.calls _ _ t315 t318 t319 _ ?side1 ?side2 A7.out).mono ?_); (case side1 => repeat (first | exact (Kd.R_reads' HO317.out).2.2 | (with_reducible refine Kd.C_alloc ?_ _) | (with_reducible refine Kd.C_drewN ?_ _) | (with_reducible refine Kd.C_drew ?_))); (case side2 => exact (Kd.R_reads' HO317.out).2.1); rintro e w14 ⟨rfl, hb⟩; refine ⟨_, rfl, ?_⟩; have n0_ := Aside0.mk (Kd.R_below (by (with_reducible repeat (first | apply Kd.R_alloc | apply Kd.R_drewN | apply Kd.R_drew)); exact HO312.out) hb); have n1_ := Aside0.mk (Kd.R_below (by (with_reducible repeat (first | apply Kd.R_alloc | apply Kd.R_drewN | apply Kd.R_drew)); exact HO317.out) hb); have n2_ := Aside0.mk (below_step (by repeat (first | (with_reducible first | exact HB.out | apply below_alloc | apply pw_below_drewN | apply below_drew1) | exact HB.out)) hb); clear HO312; clear HO317; clear HB; have HO312 := n0_; have HO317 := n1_; have HB := n2_; clear n0_ n1_ n2_; (try clear hb); (try clear hb2); (try clear hk); (try clear hi)))
    (try simp only [Act.put, List.setIfInBounds_toArray, List.set_cons_zero, List.set_cons_succ])
    go_cut [34] (fun v34 wc => ∃ (kq : Nat) (x34_7 : Bool), v34 = .bool x34_7 ∧ Aside0 (laws_FnExactCountSafeOrders.j0 kq l0 t315 x34_7 = some r) ∧ Aside0 (kq ≤ k) ∧ Aside0 (Kd.R k49 49 wc w.heap.size (fun _ => True) (.slice Ao13 t315.length co13) t315) ∧ Aside0 (Below w.heap.size w wc))
    case first =>
      have H := HC8.out
      clear HC8
      by_cases c15 : t318 = t313
      · rw [if_pos c15] at H
        have c15b0 : (t318 == t313) = true := beq_iff_eq.mpr c15
        have c15b1 : (t318 != t313) = false := bne_eq_false_iff_eq.mpr c15
        clear c15
        (first | rw [c15b0] | (simp only [i64_w, i32_w]; rw [c15b0]) | skip)
        have H' := Aside0.mk H
        clear H
        go_wp2
        go_meet
        case rel => exact ⟨_, ((t319 != t314)), (by first | rfl | (simp; done) | (simp [*]; done)), H', ⟨by first | omega | exact Nat.le_refl _⟩, ⟨by (with_reducible repeat (first | apply Kd.R_alloc | apply Kd.R_drewN | apply Kd.R_drew)); exact Kd.R_mono HO317.out (fun _ hk => trivial)⟩, ⟨by repeat (first | (with_reducible first | exact HB.out | apply below_alloc | apply pw_below_drewN | apply below_drew1) | exact HB.out)⟩⟩
      · rw [if_neg c15] at H
        have c15b0 : (t318 == t313) = false := beq_eq_false_iff_ne.mpr c15
        have c15b1 : (t318 != t313) = true := bne_iff_ne.mpr c15
        (first | rw [c15b0] | (simp only [i64_w, i32_w]; rw [c15b0]) | skip)
        have H' := Aside0.mk H
        clear H
        go_wp2
        go_meet
        case rel => exact ⟨_, (true), (by first | rfl | (simp; done) | (simp [*]; done)), H', ⟨by first | omega | exact Nat.le_refl _⟩, ⟨by (with_reducible repeat (first | apply Kd.R_alloc | apply Kd.R_drewN | apply Kd.R_drew)); exact Kd.R_mono HO317.out (fun _ hk => trivial)⟩, ⟨by repeat (first | (with_reducible first | exact HB.out | apply below_alloc | apply pw_below_drewN | apply below_drew1) | exact HB.out)⟩⟩
    case rest =>
      clear HC8
      try clear c1
      try clear c2
      try clear p2
      try clear c3
      try clear c3b0
      try clear c7
      try clear c12
      try clear c14
      try clear c15
      try clear c15b0
      try clear c15b1
      obtain ⟨kq, x34_7, rfl, HA, HJ7, HO_6, HB⟩ := hcut
      cases kq with
      | zero => exact absurd HA.out (by simp [laws_FnExactCountSafeOrders.j0])
      | succ kj7 =>
        have H := HA.out
        clear HA
        simp only [laws_FnExactCountSafeOrders.j0] at H
        by_cases c16 : x34_7 = true
        · subst c16
          have H1 : (some false) = some r := by rw [if_pos rfl] at H; exact H
          clear H
          have H := H1
          clear H1
          obtain rfl := Option.some.inj H
          go_wp2
          go_ret
          exact ⟨by first | rfl | (simp [errW_none, errW_some] <;> rfl) | (simp [*, errW_none, errW_some] <;> rfl), by repeat (first | (with_reducible first | exact HB.out | apply below_alloc | apply pw_below_drewN | apply below_drew1) | exact HB.out)⟩
        · replace c16 := Bool.eq_false_iff.mpr c16
          subst c16
          have H1 : ((laws_toThingS.f kj7 l0).bind fun t320 => ((laws_eqThingS.f kj7 t315 t320).bind fun t323 => (if t323 = true then (some true) else (some false)))) = some r := by rw [if_neg (show ¬ (false = true) by decide)] at H; exact H
          clear H
          have H := H1
          clear H1
          replace H := Option.bind_eq_some_iff.mp H
          obtain ⟨t320, A170, H⟩ := H
          replace H : ((laws_eqThingS.f kj7 t315 t320).bind fun t323 => (if t323 = true then (some true) else (some false))) = some r := H
          have A17 := Aside0.mk A170
          clear A170
          replace H := Option.bind_eq_some_iff.mp H
          obtain ⟨t323, A180, H⟩ := H
          replace H : (if t323 = true then (some true) else (some false)) = some r := H
          have A18 := Aside0.mk A180
          clear A180
          by_cases c19 : t323 = true
          · subst c19
            have H1 : (some true) = some r := by rw [if_pos rfl] at H; exact H
            clear H
            have H := H1
            clear H1
            obtain rfl := Option.some.inj H
            go_wp2_with (first | ((with_reducible refine gate_callee (f := 14) rfl ?_); refine goesL_ (some 37) rfl rfl Try.func14 (by kernel_rfl) rfl #[.slice A0 l0.length c0] rfl (by (try simp only [List.map_toArray, List.map_cons, List.map_nil]); first | done | rfl | (simp only [List.length_drop, List.length_take]; rfl)) ?_; (with_reducible refine (laws_toThingS.calls kj7 _ _ l0 t320 _ ?side1 ?side2 A17.out).mono ?_); (case side1 => repeat (first | exact (Kd.C_below HR0.out HB.out) | (with_reducible refine Kd.C_alloc ?_ _) | (with_reducible refine Kd.C_drewN ?_ _) | (with_reducible refine Kd.C_drew ?_))); (case side2 => exact HC0.out); rintro e w20 ⟨v321, rfl, ho0, hb⟩; refine ⟨_, rfl, ?_⟩; have n0_ := Aside0.mk (Kd.R_elder' (by (with_reducible repeat (first | apply Kd.R_alloc | apply Kd.R_drewN | apply Kd.R_drew)); exact HO_6.out) (Kd.R_base ho0) hb); have n1_ := Aside0.mk (Kd.R_lower (Kd.R_new' ho0 (Kd.R_lt (by (with_reducible repeat (first | apply Kd.R_alloc | apply Kd.R_drewN | apply Kd.R_drew)); exact HO_6.out))) (below_size (by repeat (first | (with_reducible first | exact HB.out | apply below_alloc | apply pw_below_drewN | apply below_drew1) | exact HB.out)))); have n2_ := Aside0.mk (below_step (by repeat (first | (with_reducible first | exact HB.out | apply below_alloc | apply pw_below_drewN | apply below_drew1) | exact HB.out)) hb); clear HO_6; clear HB; have HO_6 := n0_; have HO322 := n1_; have HB := n2_; clear n0_ n1_ n2_; (try clear hb); (try clear hb2); (try clear hk); (try clear hi); (try clear ho0); obtain ⟨Ao21, co21, eo21⟩ := Kd.R_slice HO322.out; subst eo21) | ((with_reducible refine gate_callee (f := 16) rfl ?_); refine goesL_ (some 38) rfl rfl Try.func16 (by kernel_rfl) rfl #[.slice Ao13 t315.length co13, .slice Ao21 t320.length co21] rfl (by (try simp only [List.map_toArray, List.map_cons, List.map_nil]); first | done | rfl | (simp only [List.length_drop, List.length_take]; rfl)) ?_; (with_reducible refine (laws_eqThingS.calls kj7 _ _ t315 _ _ t320 true _ ?side1 ?side2 ?side3 ?side4 A18.out).mono ?_); (case side1 => repeat (first | exact (Kd.R_reads' HO_6.out).2.2 | (with_reducible refine Kd.C_alloc ?_ _) | (with_reducible refine Kd.C_drewN ?_ _) | (with_reducible refine Kd.C_drew ?_))); (case side2 => exact (Kd.R_reads' HO_6.out).2.1); (case side3 => repeat (first | exact (Kd.R_reads' HO322.out).2.2 | (with_reducible refine Kd.C_alloc ?_ _) | (with_reducible refine Kd.C_drewN ?_ _) | (with_reducible refine Kd.C_drew ?_))); (case side4 => exact (Kd.R_reads' HO322.out).2.1); rintro e w22 ⟨rfl, hb⟩; refine ⟨_, rfl, ?_⟩; have n0_ := Aside0.mk (Kd.R_below (by (with_reducible repeat (first | apply Kd.R_alloc | apply Kd.R_drewN | apply Kd.R_drew)); exact HO_6.out) hb); have n1_ := Aside0.mk (Kd.R_below (by (with_reducible repeat (first | apply Kd.R_alloc | apply Kd.R_drewN | apply Kd.R_drew)); exact HO322.out) hb); have n2_ := Aside0.mk (below_step (by repeat (first | (with_reducible first | exact HB.out | apply below_alloc | apply pw_below_drewN | apply below_drew1) | exact HB.out)) hb); clear HO_6; clear HO322; clear HB; have HO_6 := n0_; have HO322 := n1_; have HB := n2_; clear n0_ n1_ n2_; (try clear hb); (try clear hb2); (try clear hk); (try clear hi)))
            go_ret
            exact ⟨by first | rfl | (simp [errW_none, errW_some] <;> rfl) | (simp [*, errW_none, errW_some] <;> rfl), by repeat (first | (with_reducible first | exact HB.out | apply below_alloc | apply pw_below_drewN | apply below_drew1) | exact HB.out)⟩
          · replace c19 := Bool.eq_false_iff.mpr c19
            subst c19
            have H1 : (some false) = some r := by rw [if_neg (show ¬ (false = true) by decide)] at H; exact H
            clear H
            have H := H1
            clear H1
            obtain rfl := Option.some.inj H
            go_wp2_with (first | ((with_reducible refine gate_callee (f := 14) rfl ?_); refine goesL_ (some 37) rfl rfl Try.func14 (by kernel_rfl) rfl #[.slice A0 l0.length c0] rfl (by (try simp only [List.map_toArray, List.map_cons, List.map_nil]); first | done | rfl | (simp only [List.length_drop, List.length_take]; rfl)) ?_; (with_reducible refine (laws_toThingS.calls kj7 _ _ l0 t320 _ ?side1 ?side2 A17.out).mono ?_); (case side1 => repeat (first | exact (Kd.C_below HR0.out HB.out) | (with_reducible refine Kd.C_alloc ?_ _) | (with_reducible refine Kd.C_drewN ?_ _) | (with_reducible refine Kd.C_drew ?_))); (case side2 => exact HC0.out); rintro e w23 ⟨v321, rfl, ho0, hb⟩; refine ⟨_, rfl, ?_⟩; have n0_ := Aside0.mk (Kd.R_elder' (by (with_reducible repeat (first | apply Kd.R_alloc | apply Kd.R_drewN | apply Kd.R_drew)); exact HO_6.out) (Kd.R_base ho0) hb); have n1_ := Aside0.mk (Kd.R_lower (Kd.R_new' ho0 (Kd.R_lt (by (with_reducible repeat (first | apply Kd.R_alloc | apply Kd.R_drewN | apply Kd.R_drew)); exact HO_6.out))) (below_size (by repeat (first | (with_reducible first | exact HB.out | apply below_alloc | apply pw_below_drewN | apply below_drew1) | exact HB.out)))); have n2_ := Aside0.mk (below_step (by repeat (first | (with_reducible first | exact HB.out | apply below_alloc | apply pw_below_drewN | apply below_drew1) | exact HB.out)) hb); clear HO_6; clear HB; have HO_6 := n0_; have HO322 := n1_; have HB := n2_; clear n0_ n1_ n2_; (try clear hb); (try clear hb2); (try clear hk); (try clear hi); (try clear ho0); obtain ⟨Ao24, co24, eo24⟩ := Kd.R_slice HO322.out; subst eo24) | ((with_reducible refine gate_callee (f := 16) rfl ?_); refine goesL_ (some 38) rfl rfl Try.func16 (by kernel_rfl) rfl #[.slice Ao13 t315.length co13, .slice Ao24 t320.length co24] rfl (by (try simp only [List.map_toArray, List.map_cons, List.map_nil]); first | done | rfl | (simp only [List.length_drop, List.length_take]; rfl)) ?_; (with_reducible refine (laws_eqThingS.calls kj7 _ _ t315 _ _ t320 false _ ?side1 ?side2 ?side3 ?side4 A18.out).mono ?_); (case side1 => repeat (first | exact (Kd.R_reads' HO_6.out).2.2 | (with_reducible refine Kd.C_alloc ?_ _) | (with_reducible refine Kd.C_drewN ?_ _) | (with_reducible refine Kd.C_drew ?_))); (case side2 => exact (Kd.R_reads' HO_6.out).2.1); (case side3 => repeat (first | exact (Kd.R_reads' HO322.out).2.2 | (with_reducible refine Kd.C_alloc ?_ _) | (with_reducible refine Kd.C_drewN ?_ _) | (with_reducible refine Kd.C_drew ?_))); (case side4 => exact (Kd.R_reads' HO322.out).2.1); rintro e w25 ⟨rfl, hb⟩; refine ⟨_, rfl, ?_⟩; have n0_ := Aside0.mk (Kd.R_below (by (with_reducible repeat (first | apply Kd.R_alloc | apply Kd.R_drewN | apply Kd.R_drew)); exact HO_6.out) hb); have n1_ := Aside0.mk (Kd.R_below (by (with_reducible repeat (first | apply Kd.R_alloc | apply Kd.R_drewN | apply Kd.R_drew)); exact HO322.out) hb); have n2_ := Aside0.mk (below_step (by repeat (first | (with_reducible first | exact HB.out | apply below_alloc | apply pw_below_drewN | apply below_drew1) | exact HB.out)) hb); clear HO_6; clear HO322; clear HB; have HO_6 := n0_; have HO322 := n1_; have HB := n2_; clear n0_ n1_ n2_; (try clear hb); (try clear hb2); (try clear hk); (try clear hi)))
            go_ret
            exact ⟨by first | rfl | (simp [errW_none, errW_some] <;> rfl) | (simp [*, errW_none, errW_some] <;> rfl), by repeat (first | (with_reducible first | exact HB.out | apply below_alloc | apply pw_below_drewN | apply below_drew1) | exact HB.out)⟩

end Go.Proofs.Ytbmefldckdaopaa.Q

namespace Go.Proofs.Ytbmefldckdaopaa.Q
open Go.RowKit Go.Proofs.YtbmefldckdaopaaW.PrintWords Go.Proofs.YtbmefldckdaopaaW.PrintLast Go.Proofs.YtbmefldckdaopaaW.PrintMore
set_option linter.unusedVariables false
set_option linter.unusedSimpArgs false

/-- A law's Thing as the program's. -/
def cvThing (x : S51) : S49 := ⟨x.f0, x.f1, x.f2⟩
theorem w64Thing {i : Int} (h0 : -1000000000000000 ≤ i) (h : i ≤ 1000000000000000) : wrap64 i = i := by
  unfold wrap64; omega
theorem rdIThing (xs : List S49) (i : Nat) (h : i < xs.length) : rd_T49 xs (i : Int) = xs[i] := by
  simp [rd_T49, List.getD_eq_getElem?_getD, h]
theorem rdLThing (xs : List S51) (i : Nat) (h : i < xs.length) : rd_T51 xs (i : Int) = xs[i] := by
  simp [rd_T51, List.getD_eq_getElem?_getD, h]

theorem szThingS_small (l : List S51) (h : l.length ≤ 1048576) : laws_szThingS.f l 1048576 = some (1048576 - (l.length : Int)) := by
  unfold laws_szThingS.f
  rw [w64Thing (by omega) (by omega), if_neg (by omega)]
theorem szThingS_great (l : List S51) (h : 1048576 < l.length) (hm : l.length ≤ 100000000000000) : laws_szThingS.f l 1048576 = some (-1) := by
  unfold laws_szThingS.f
  rw [w64Thing (by omega) (by omega), if_pos (by omega)]

theorem toThingS_l0 (l : List S51) (hn : l.length ≤ 100000000000000) : ∀ d k i (x : List S49), i + d = l.length → d < k → x.length = l.length → (∀ j (hj : j < x.length) (hj2 : j < l.length), j < i → x[j] = cvThing l[j]) →
    laws_toThingS.l0 k l x (i : Int) = some (l.map cvThing) := by
  intro d
  induction d with
  | zero =>
    intro k i x hi hk hx hj
    obtain ⟨k, rfl⟩ : ∃ m, k = m + 1 := ⟨k - 1, by omega⟩
    simp only [laws_toThingS.l0]; rw [if_neg (by omega)]
    congr 1
    apply List.ext_getElem
    · simp [hx]
    · intro j h1 h2
      rw [hj j h1 (by omega) (by omega)]
      simp
  | succ d ih =>
    intro k i x hi hk hx hj
    obtain ⟨k, rfl⟩ : ∃ m, k = m + 1 := ⟨k - 1, by omega⟩
    simp only [laws_toThingS.l0, laws_toThing.f, Option.bind_some]
    rw [if_pos (by omega), if_pos (by omega), if_pos (by omega), w64Thing (i := (i : Int) + 1) (by omega) (by omega), rdLThing l i (by omega)]
    have := ih k (i + 1) (x.set (i : Int).toNat (cvThing (l[i]'(by omega)))) (by omega) (by omega) (by simp [hx]) (fun j hj1 hj2 hj3 => by
      simp only [Int.toNat_natCast]
      rw [List.getElem_set]
      split
      · rename_i e; subst e; rfl
      · rename_i e; exact hj j (by simpa using hj1) hj2 (by omega))
    rw [show ((i + 1 : Nat) : Int) = (i : Int) + 1 by omega] at this
    exact this
theorem toThingS_eq (l : List S51) (hn : l.length ≤ 1000000000) (k : Nat) (hk : l.length < k) : laws_toThingS.f k l = some (l.map cvThing) := by
  unfold laws_toThingS.f
  rw [if_pos (by omega), if_pos (by omega)]
  exact toThingS_l0 l (by omega) l.length k 0 _ (by omega) hk (by simp) (fun j _ _ h => absurd h (by omega))

theorem eqThingS_l0 (a : List S49) (hn : a.length ≤ 100000000000000) : ∀ d k i, i + d = a.length → d < k → laws_eqThingS.l0 k a a (i : Int) = some true := by
  intro d
  induction d with
  | zero =>
    intro k i hi hk
    obtain ⟨k, rfl⟩ : ∃ m, k = m + 1 := ⟨k - 1, by omega⟩
    simp only [laws_eqThingS.l0]; rw [if_neg (by omega)]
  | succ d ih =>
    intro k i hi hk
    obtain ⟨k, rfl⟩ : ∃ m, k = m + 1 := ⟨k - 1, by omega⟩
    simp only [laws_eqThingS.l0, laws_eqThing.f]
    rw [if_pos (by omega), if_pos (by omega), if_pos (by omega), w64Thing (by omega) (by omega)]
    simp only [if_true, Option.bind_some]
    exact ih k (i + 1) (by omega) (by omega)
theorem eqThingS_self (a : List S49) (hn : a.length ≤ 100000000000000) (k : Nat) (hk : a.length < k) : laws_eqThingS.f k a a = some true := by
  unfold laws_eqThingS.f
  rw [if_pos rfl]
  exact eqThingS_l0 a hn a.length k 0 (by omega) hk
theorem toThingS_ev (l : List S51) (hn : l.length ≤ 10000000) : Ev (fun k => laws_toThingS.f k l) (l.map cvThing) := ⟨l.length + 1, fun k hk => toThingS_eq l (by omega) k (by omega)⟩
theorem eqThingS_ev (l : List S49) (hn : l.length ≤ 10000000) : Ev (fun k => laws_eqThingS.f k l l) true := ⟨l.length + 1, fun k hk => eqThingS_self l (by omega) k (by omega)⟩
end Go.Proofs.Ytbmefldckdaopaa.Q

namespace Go.Proofs.Ytbmefldckdaopaa.Q
open Go.RowKit Go.Proofs.YtbmefldckdaopaaW.PrintWords Go.Proofs.YtbmefldckdaopaaW.PrintLast Go.Proofs.YtbmefldckdaopaaW.PrintMore
set_option linter.unusedVariables false
set_option linter.unusedSimpArgs false

theorem inThing (a lo hi : Int) : spec_l1In.f a lo hi = some (decide (lo ≤ a) && decide (a ≤ hi)) := by
  unfold spec_l1In.f
  by_cases h : lo ≤ a
  · rw [if_pos h]; simp [h]
  · rw [if_neg h]; simp [h]
theorem scGood_l0 (l : List Thing) (hn : l.length ≤ 100000000000000) : ∀ d k i, i + d = l.length → d < k → spec_scGood.l0 k l (l.length : Int) (i : Int) = some ((l.drop i).all okThing) := by
  intro d
  induction d with
  | zero =>
    intro k i hi hk
    obtain ⟨k, rfl⟩ : ∃ m, k = m + 1 := ⟨k - 1, by omega⟩
    simp only [spec_scGood.l0]; rw [if_neg (by omega), List.drop_of_length_le (by omega)]; rfl
  | succ d ih =>
    intro k i hi hk
    obtain ⟨k, rfl⟩ : ∃ m, k = m + 1 := ⟨k - 1, by omega⟩
    simp only [spec_scGood.l0]
    have hlt : i < l.length := by omega
    rw [if_pos (by omega), if_pos (by omega), if_pos (by omega), w64Thing (by omega) (by omega), rdIThing l i hlt, List.drop_eq_getElem_cons hlt, List.all_cons]
    rw [show (i : Int) + 1 = ((i + 1 : Nat) : Int) by omega, ih k (i + 1) (by omega) (by omega)]
    simp only [inThing, Option.bind_some]
    unfold okThing
    generalize l[i] = x
    cases (decide (1 ≤ x.f0) && decide (x.f0 ≤ 1000)) <;> cases (decide (0 ≤ x.f1) && decide (x.f1 ≤ 1000)) <;> cases (decide (1 ≤ x.f2) && decide (x.f2 ≤ 1000)) <;> simp
theorem scGood_eq (l : List Thing) (hn : l.length ≤ 100000000000000) (k : Nat) (hk : l.length < k) : spec_scGood.f k l = impl_AreStackable.f l := by
  unfold spec_scGood.f impl_AreStackable.f
  simp only [inThing, Option.bind_some]
  have e1 : decide ((1 : Int) ≤ (l.length : Int)) = decide (1 ≤ l.length) := by simp; omega
  have e2 : decide ((l.length : Int) ≤ 7) = decide (l.length ≤ 7) := by simp; omega
  rw [e1, e2]
  have := scGood_l0 l hn l.length k 0 (by omega) hk
  simp only [List.drop_zero, Int.natCast_zero] at this
  cases (decide (1 ≤ l.length) && decide (l.length ≤ 7))
  · simp
  · simp [this]
end Go.Proofs.Ytbmefldckdaopaa.Q

namespace Go.Proofs.Ytbmefldckdaopaa.Q
open Go.RowKit Go.Proofs.YtbmefldckdaopaaW.PrintWords Go.Proofs.YtbmefldckdaopaaW.PrintLast Go.Proofs.YtbmefldckdaopaaW.PrintMore
attribute [local go_sem] max2_int min2_int max_two min_two max_three min_three max_four min_four   -- for this text's walks alone
set_option linter.unusedVariables false
set_option linter.unusedSimpArgs false

/-! ### spec_scHigh: function 53 -/
def spec_scHigh.l0 : Nat → List (S49) → Int → List Int → Int → Int → Option (Int)
  | 0, _, _, _, _, _ => none
  | k + 1, x0, x5, x8, x9, x10 => if x10 < x9 then (if 0 ≤ x10 then (if x10 < (x8.length : Int) then (if 0 ≤ (rd x8 x10) then (if (rd x8 x10) < (x0.length : Int) then (spec_scHigh.l0 k x0 (wrap64 (x5 + ((rd_T49 x0 (rd x8 x10)).f2))) x8 x9 (wrap64 (x10 + 1))) else (none)) else (none)) else (none)) else (none)) else (some x5)
def spec_scHigh.f (k : Nat) (l0 : List (S49)) (l1 : List Int) : Option (Int) := spec_scHigh.l0 k l0 0 l1 (l1.length : Int) 0
theorem spec_scHigh.mono_l : ∀ k, (∀ y0 y1 y2 y3 y4, LeO (spec_scHigh.l0 k y0 y1 y2 y3 y4) (spec_scHigh.l0 (k + 1) y0 y1 y2 y3 y4))
  | 0 => fun _ _ _ _ _ r h => by simp [spec_scHigh.l0] at h
  | k + 1 => by
    have ih0 := spec_scHigh.mono_l k
    · intro y0 y1 y2 y3 y4
      unfold spec_scHigh.l0
      repeat' first
      | (with_reducible exact ih0 _ _ _ _ _)
      | (with_reducible exact LeO.refl _)
      | (with_reducible exact LeO.none _)
      | (with_reducible refine LeO.ite ?_ ?_)
      | (with_reducible refine LeO.bind ?_ (fun _ => ?_))
      | exact ih0 _ _ _ _ _
      | exact LeO.none _
      | refine LeO.ite ?_ ?_
      | refine LeO.bind ?_ (fun _ => ?_)
theorem spec_scHigh.mono : ∀ a0 a1 k, LeO (spec_scHigh.f k a0 a1) (spec_scHigh.f (k + 1) a0 a1) := by
  intro a0 a1 k
  have ih0 := spec_scHigh.mono_l k
  unfold spec_scHigh.f
  repeat' first
      | (with_reducible exact ih0 _ _ _ _ _)
      | (with_reducible exact LeO.refl _)
      | (with_reducible exact LeO.none _)
      | (with_reducible refine LeO.ite ?_ ?_)
      | (with_reducible refine LeO.bind ?_ (fun _ => ?_))
      | exact ih0 _ _ _ _ _
      | exact LeO.none _
      | refine LeO.ite ?_ ?_
      | refine LeO.bind ?_ (fun _ => ?_)
set_option maxHeartbeats 8000000 in
set_option maxRecDepth 100000 in
theorem spec_scHigh.calls (k : Nat) (A0 : Option Addr) (c0 : Nat) (l0 : List (S49)) (A1 : Option Addr) (c1 : Nat) (l1 : List Int) (r : Int) (w : World) (hr0 : Kd.C k49 w A0 l0.length l0) (hc0 : l0.length ≤ c0) (hr1 : Kd.C (Kd.int .i64) w A1 l1.length l1) (hc1 : l1.length ≤ c1) (h : spec_scHigh.f k l0 l1 = some r) :
    Calls Try.prog 53 #[.slice A0 l0.length c0, .slice A1 l1.length c1] w fun e w' => e = .returned (.int .i64 r) ∧ Drawn0 w w' := by
  have HR0 := Aside0.mk hr0
  have HC0 := Aside0.mk hc0
  clear hr0 hc0
  have HR1 := Aside0.mk hr1
  have HC1 := Aside0.mk hc1
  clear hr1 hc1
  have H : (spec_scHigh.l0 k l0 0 l1 (l1.length : Int) 0) = some r := h
  clear h
  have H' := Aside0.mk H
  clear H
  go_enter Try.func53, Try.ntmps53
  go_wp2
  go_loopg [5, 10] k (fun kq v5 v10 w' => ∃ (x5_1 : Int) (x10_1 : Int), v5 = .int .i64 x5_1 ∧ v10 = .int .i64 x10_1 ∧ Aside0 (spec_scHigh.l0 kq l0 x5_1 l1 (l1.length : Int) x10_1 = some r) ∧ Aside0 (kq ≤ k) ∧ Drawn0 w w')
  case atStart => exact ⟨(0), (0), (by first | rfl | (simp; done) | (simp [*]; done)), (by first | rfl | (simp; done) | (simp [*]; done)), H', ⟨Nat.le_refl _⟩, by repeat (first | exact Drawn0.refl _ | apply Drawn0.step)⟩
  case round =>
    clear H'
    try clear c1
    try clear p2
    obtain ⟨x5_1, x10_1, rfl, rfl, HA, HK1, ⟨m1, rfl⟩⟩ := hrel
    cases gk with
    | zero => exact absurd HA.out (by simp [spec_scHigh.l0])
    | succ k1 =>
      have H := HA.out
      clear HA
      simp only [spec_scHigh.l0] at H
      by_cases c3 : x10_1 < (l1.length : Int)
      · rw [if_pos c3] at H
        have c3b0 : decide (x10_1 < (l1.length : Int)) = true := decide_eq_true c3
        clear c3
        by_cases c4 : 0 ≤ x10_1
        · rw [if_pos c4] at H
          have c4b0 : decide (0 ≤ x10_1) = true := decide_eq_true c4
          clear c4
          by_cases c5 : x10_1 < (l1.length : Int)
          · rw [if_pos c5] at H
            have c5b0 : decide (x10_1 < (l1.length : Int)) = true := decide_eq_true c5
            clear c5
            by_cases c6 : 0 ≤ (rd l1 x10_1)
            · rw [if_pos c6] at H
              have c6b0 : decide (0 ≤ (rd l1 x10_1)) = true := decide_eq_true c6
              clear c6
              by_cases c7 : (rd l1 x10_1) < (l0.length : Int)
              · rw [if_pos c7] at H
                have c7b0 : decide ((rd l1 x10_1) < (l0.length : Int)) = true := decide_eq_true c7
                clear c7
                have H' := Aside0.mk H
                clear H
                have p408 : 0 ≤ (x10_1 : Int) := of_decide_eq_true (by first | (with_reducible assumption) | assumption)
                have q408 : x10_1 < (l1.length : Int) := of_decide_eq_true (by first | (with_reducible assumption) | assumption)
                obtain ⟨ad408, e408, hx408_0⟩ := Kd.at_int HR1.out x10_1 p408 q408
                cases e408
                replace p408 := eq_true p408
                replace q408 := eq_true q408
                have p409 : 0 ≤ ((rd l1 x10_1) : Int) := of_decide_eq_true (by first | (with_reducible assumption) | assumption)
                have q409 : (rd l1 x10_1) < (l0.length : Int) := of_decide_eq_true (by first | (with_reducible assumption) | assumption)
                obtain ⟨ad409, e409, hx409_0, hx409_1, hx409_2⟩ := at_T49 HR0.out (rd l1 x10_1) p409 q409
                cases e409
                replace p409 := eq_true p409
                replace q409 := eq_true q409
                go_wp2
                go_roundg k1
                case measure => have := HK1.out; omega
                case rel => exact ⟨(wrap64 (x5_1 + ((rd_T49 l0 (rd l1 x10_1)).f2))), (wrap64 (x10_1 + 1)), (by first | rfl | (simp; done) | (simp [*]; done)), (by first | rfl | (simp; done) | (simp [*]; done)), H', ⟨by have := HK1.out; omega⟩, by repeat (first | exact Drawn0.refl _ | apply Drawn0.step)⟩
              · rw [if_neg c7] at H
                exact absurd H (by simp)
            · rw [if_neg c6] at H
              exact absurd H (by simp)
          · rw [if_neg c5] at H
            exact absurd H (by simp)
        · rw [if_neg c4] at H
          exact absurd H (by simp)
      · rw [if_neg c3] at H
        have c3b0 : decide (x10_1 < (l1.length : Int)) = false := decide_eq_false c3
        clear c3
        obtain rfl := Option.some.inj H
        go_wp2
        go_ret
        exact ⟨by first | rfl | (simp; done) | (simp [*]; done), by repeat (first | exact Drawn0.refl _ | apply Drawn0.step)⟩

end Go.Proofs.Ytbmefldckdaopaa.Q

namespace Go.Proofs.Ytbmefldckdaopaa.Q
open Go.RowKit Go.Proofs.YtbmefldckdaopaaW.PrintWords Go.Proofs.YtbmefldckdaopaaW.PrintLast Go.Proofs.YtbmefldckdaopaaW.PrintMore
set_option linter.unusedVariables false
set_option linter.unusedSimpArgs false
set_option maxRecDepth 100000

/-- Things are right. -/
def Sound (list : List Thing) : Prop := list.length ≤ 7 ∧ ∀ i : Int, 0 ≤ i → i < (list.length : Int) → (1 ≤ (rd_T49 list i).f0 ∧ (rd_T49 list i).f0 ≤ 1000) ∧ (0 ≤ (rd_T49 list i).f1 ∧ (rd_T49 list i).f1 ≤ 1000) ∧ 1 ≤ (rd_T49 list i).f2 ∧ (rd_T49 list i).f2 ≤ 1000
theorem sound_of {list : List Thing} (h : impl_AreStackable.f list = some true) : Sound list := by
  unfold impl_AreStackable.f at h
  injection h with h
  simp only [Bool.and_eq_true, decide_eq_true_eq, List.all_eq_true] at h
  refine ⟨h.1.2, fun i h0 h1 => ?_⟩
  have hm : rd_T49 list i ∈ list := by
    unfold rd_T49
    rw [List.getD_eq_getElem?_getD, List.getElem?_eq_getElem (by omega)]
    exact List.getElem_mem _
  have := h.2 _ hm
  unfold okThing at this
  simp only [Bool.and_eq_true, decide_eq_true_eq] at this
  exact ⟨by omega, by omega, by omega⟩
/-- The weight of a stack. -/
def weighs (list : List Thing) : List Int → Int
  | [] => 0
  | i :: st => (rd_T49 list i).f0 + weighs list st
theorem weighs_bound {list : List Thing} (hS : Sound list) : ∀ st, Inside list st → 0 ≤ weighs list st ∧ weighs list st ≤ 1000 * st.length
  | [], _ => by simp [weighs]
  | i :: st, h => by
    have h1 := weighs_bound hS st (fun x hx => h x (List.mem_cons_of_mem _ hx))
    have hi := h i List.mem_cons_self
    have h2 := hS.2 i hi.1 hi.2
    simp only [weighs, List.length_cons]
    omega
theorem aboveAll_weighs {list : List Thing} (hS : Sound list) : ∀ st, Inside list st → st.length ≤ 1000000 → (aboveAll list st).2 = weighs list st
  | [], _, _ => rfl
  | i :: st, h, hl => by
    simp only [List.length_cons] at hl
    have h1 := weighs_bound hS st (fun x hx => h x (List.mem_cons_of_mem _ hx))
    have hi := h i List.mem_cons_self
    have h2 := hS.2 i hi.1 hi.2
    rw [aboveAll, weighs, aboveAll_weighs hS st (fun x hx => h x (List.mem_cons_of_mem _ hx)) (by omega)]
    simp only
    rw [w64 (by omega) (by omega)]
    omega
/-- Is it safe? -/
def safeL (list : List Thing) : List Int → Bool
  | [] => true
  | i :: st => decide (weighs list st ≤ (rd_T49 list i).f1) && safeL list st
theorem bears_safe {list : List Thing} (hS : Sound list) : ∀ st m, Inside list st → st.length ≤ 1000000 → (0 ≤ bearsL list st (aboveAll list st).1 m ↔ 0 ≤ m ∧ safeL list st = true)
  | [], m, _, _ => by simp [bearsL, safeL]
  | i :: st, m, h, hl => by
    simp only [List.length_cons] at hl
    have hst : Inside list st := fun x hx => h x (List.mem_cons_of_mem _ hx)
    have h1 := weighs_bound hS st hst
    have hi := h i List.mem_cons_self
    have h2 := hS.2 i hi.1 hi.2
    rw [aboveAll, bearsL, bears_safe hS st _ hst (by omega), aboveAll_weighs hS st hst (by omega), w64 (by omega) (by omega), safeL]
    simp only [Bool.and_eq_true, decide_eq_true_eq]
    unfold mn
    split <;> (constructor <;> (rintro ⟨a, b⟩; first | exact ⟨by omega, by omega, b⟩ | exact ⟨by omega, b.2⟩))
theorem safe_may {list : List Thing} (hS : Sound list) (st : List Int) (h : Inside list st) (hl : st.length ≤ 1000000) : decide (0 ≤ bearsV list st) = safeL list st := by
  rw [Bool.eq_iff_iff, decide_eq_true_eq]
  unfold bearsV
  rw [bears_safe hS st 1000 h hl]
  simp

/-! the reference -/
/-- The weights above. -/
def aboveS (list : List Thing) : List Int → List Int
  | [] => []
  | _ :: st => weighs list st :: aboveS list st
theorem aboveS_length (list : List Thing) : ∀ st, (aboveS list st).length = st.length
  | [] => rfl
  | _ :: st => by simp [aboveS, aboveS_length list st]
theorem drop_weighs (list : List Thing) (st : List Int) (j : Nat) (h : j < st.length) : weighs list (st.drop j) = (rd_T49 list st[j]).f0 + weighs list (st.drop (j + 1)) := by
  rw [List.drop_eq_getElem_cons h, weighs]
theorem aboveS_drop (list : List Thing) (st : List Int) (j : Nat) (h : j < st.length) : aboveS list (st.drop j) = weighs list (st.drop (j + 1)) :: aboveS list (st.drop (j + 1)) := by
  rw [List.drop_eq_getElem_cons h, aboveS]
theorem above_l1 {list : List Thing} (hS : Sound list) (st : List Int) (hin : Inside list st) (hl : st.length ≤ 1000) (out : List Int) (i : Nat) (hi : i < st.length) (ho : out.length ≤ 10000)
    (next : Nat → List Int → Option (List Int)) : ∀ d k j s, j + d = (st.drop (i + 1)).length → d < k → s + weighs list ((st.drop (i + 1)).drop j) = weighs list (st.drop (i + 1)) → 0 ≤ s →
    ∃ k', k' + d + 1 = k ∧ spec_scAbove.l1 k list st out s (st.length : Int) (i : Int) (st.drop (i + 1)) ((st.drop (i + 1)).length : Int) (j : Int) = spec_scAbove.l0 k' list st (out ++ [weighs list (st.drop (i + 1))]) (st.length : Int) ((i : Int) + 1) := by
  have hin2 : Inside list (st.drop (i + 1)) := fun x hx => hin x (List.mem_of_mem_drop hx)
  have hl2 : (st.drop (i + 1)).length ≤ 1000 := by rw [List.length_drop]; omega
  intro d
  induction d with
  | zero =>
    intro k j s hj hk hs h0
    obtain ⟨k, rfl⟩ : ∃ m, k = m + 1 := ⟨k - 1, by omega⟩
    refine ⟨k, by omega, ?_⟩
    simp only [spec_scAbove.l1]
    rw [List.drop_of_length_le (by omega)] at hs
    simp only [weighs] at hs
    rw [if_neg (by omega), if_pos (by omega), w64 (i := (i : Int) + 1) (by omega) (by omega), show s = weighs list (st.drop (i + 1)) by omega]
  | succ d ih =>
    intro k j s hj hk hs h0
    obtain ⟨k, rfl⟩ : ∃ m, k = m + 1 := ⟨k - 1, by omega⟩
    have hlt : j < (st.drop (i + 1)).length := by omega
    have hx := hin2 _ (List.getElem_mem hlt)
    have h2 := hS.2 _ hx.1 hx.2
    have hb := weighs_bound hS (st.drop (i + 1)) hin2
    have hb2 := weighs_bound hS ((st.drop (i + 1)).drop (j + 1)) (fun x hx => hin2 x (List.mem_of_mem_drop hx))
    have hw := drop_weighs list (st.drop (i + 1)) j hlt
    rw [hw] at hs
    obtain ⟨k', hk', hr⟩ := ih k (j + 1) (s + (rd_T49 list (st.drop (i + 1))[j]).f0) (by omega) (by omega) (by omega) (by omega)
    refine ⟨k', by omega, ?_⟩
    simp only [spec_scAbove.l1]
    rw [if_pos (by omega), if_pos (by omega), if_pos (by omega), rd_nat (st.drop (i + 1)) j hlt, if_pos hx.1, if_pos hx.2, w64 (i := (j : Int) + 1) (by omega) (by omega), w64 (i := s + _) (by omega) (by omega)]
    rw [show ((j + 1 : Nat) : Int) = (j : Int) + 1 by omega] at hr
    exact hr
theorem above_l0 {list : List Thing} (hS : Sound list) (st : List Int) (hin : Inside list st) (hl : st.length ≤ 1000) : ∀ d k i out, i + d = st.length → 1010 * d + 1010 ≤ k → out.length ≤ i →
    spec_scAbove.l0 k list st out (st.length : Int) (i : Int) = some (out ++ aboveS list (st.drop i)) := by
  intro d
  induction d with
  | zero =>
    intro k i out hi hk ho
    obtain ⟨k, rfl⟩ : ∃ m, k = m + 1 := ⟨k - 1, by omega⟩
    simp only [spec_scAbove.l0]; rw [if_neg (by omega), List.drop_of_length_le (by omega)]; simp [aboveS]
  | succ d ih =>
    intro k i out hi hk ho
    obtain ⟨k, rfl⟩ : ∃ m, k = m + 1 := ⟨k - 1, by omega⟩
    have hlt : i < st.length := by omega
    simp only [spec_scAbove.l0]
    rw [if_pos (by omega), w64 (i := (i : Int) + 1) (by omega) (by omega), if_pos (by omega), if_pos (by omega), show ((i : Int) + 1).toNat = i + 1 by omega]
    obtain ⟨k', hk', hr⟩ := above_l1 hS st hin hl out i hlt (by omega) (fun _ _ => none) (st.drop (i + 1)).length k 0 0 (by omega) (by rw [List.length_drop]; omega) (by simp) (by omega)
    simp only [Int.natCast_zero] at hr
    rw [List.length_drop] at hk'
    have e1 : i + 1 + d = st.length := by clear hr; omega
    have e2 : 1010 * d + 1010 ≤ k' := by clear hr; omega
    have e3 : (out ++ [weighs list (st.drop (i + 1))]).length ≤ i + 1 := by clear hr; rw [List.length_append, List.length_singleton]; omega
    have hnext := ih k' (i + 1) (out ++ [weighs list (st.drop (i + 1))]) e1 e2 e3
    rw [show ((i + 1 : Nat) : Int) = (i : Int) + 1 by omega] at hnext
    rw [hr, hnext, aboveS_drop list st i hlt, List.append_assoc, List.singleton_append]
theorem scAbove_eq {list : List Thing} (hS : Sound list) (st : List Int) (hin : Inside list st) (hl : st.length ≤ 1000) (k : Nat) (hk : 2000000 ≤ k) : spec_scAbove.f k list st = some (aboveS list st) := by
  unfold spec_scAbove.f
  have := above_l0 hS st hin hl st.length k 0 [] (by omega) (by omega) (by simp)
  simpa using this
theorem scSafe_l0 {list : List Thing} (st : List Int) (hin : Inside list st) (hl : st.length ≤ 1000) : ∀ d k i, i + d = st.length → d < k →
    spec_scSafe.l0 k list st (aboveS list st) ((aboveS list st).length : Int) (i : Int) = some (safeL list (st.drop i)) := by
  have hal := aboveS_length list st
  have hget : ∀ (st : List Int) (i : Nat) (h : i < st.length), (aboveS list st)[i]'(by rw [aboveS_length]; exact h) = weighs list (st.drop (i + 1)) := by
    intro st
    induction st with
    | nil => intro i h; simp at h
    | cons x st ih =>
      intro i h
      cases i with
      | zero => simp [aboveS]
      | succ i => simpa [aboveS] using ih i (by simpa using h)
  intro d
  induction d with
  | zero =>
    intro k i hi hk
    obtain ⟨k, rfl⟩ : ∃ m, k = m + 1 := ⟨k - 1, by omega⟩
    simp only [spec_scSafe.l0]; rw [if_neg (by omega), List.drop_of_length_le (by omega)]; rfl
  | succ d ih =>
    intro k i hi hk
    obtain ⟨k, rfl⟩ : ∃ m, k = m + 1 := ⟨k - 1, by omega⟩
    have hlt : i < st.length := by omega
    have hx := hin _ (List.getElem_mem hlt)
    simp only [spec_scSafe.l0]
    rw [if_pos (by omega), if_pos (by omega), if_pos (by omega), if_pos (by omega), rd_nat st i hlt, if_pos hx.1, if_pos hx.2, rd_nat (aboveS list st) i (by omega), hget st i hlt, w64 (i := (i : Int) + 1) (by omega) (by omega), List.drop_eq_getElem_cons hlt, safeL]
    have hi2 := ih k (i + 1) (by omega) (by omega)
    rw [show ((i + 1 : Nat) : Int) = (i : Int) + 1 by omega] at hi2
    by_cases h : weighs list (st.drop (i + 1)) ≤ (rd_T49 list st[i]).f1
    · rw [if_neg (by omega), hi2]
      simp [h]
    · rw [if_pos (by omega)]
      simp [h]
theorem scSafe_eq {list : List Thing} (hS : Sound list) (st : List Int) (hin : Inside list st) (hl : st.length ≤ 1000) (k : Nat) (hk : 2000000 ≤ k) : spec_scSafe.f k list st = some (safeL list st) := by
  unfold spec_scSafe.f
  rw [scAbove_eq hS st hin hl k hk]
  have := scSafe_l0 (list := list) st hin hl st.length k 0 (by omega) (by omega)
  simpa using this
theorem l1Has_l0 (st : List Int) (x : Int) (hn : st.length ≤ 1000000000) : ∀ d k i, i + d = st.length → d < k → spec_l1Has.l0 k x st (st.length : Int) (i : Int) = some ((st.drop i).contains x) := by
  intro d
  induction d with
  | zero =>
    intro k i hi hk
    obtain ⟨k, rfl⟩ : ∃ q, k = q + 1 := ⟨k - 1, by omega⟩
    simp only [spec_l1Has.l0]; rw [if_neg (by omega), List.drop_of_length_le (by omega)]; rfl
  | succ d ih =>
    intro k i hi hk
    obtain ⟨k, rfl⟩ : ∃ q, k = q + 1 := ⟨k - 1, by omega⟩
    have hlt : i < st.length := by omega
    simp only [spec_l1Has.l0]
    rw [if_pos (by omega), if_pos (by omega), if_pos (by omega), rd_nat st i hlt, w64 (i := (i : Int) + 1) (by omega) (by omega), List.drop_eq_getElem_cons hlt, List.contains_cons]
    by_cases h : st[i] = x
    · rw [if_pos h, beq_iff_eq.mpr h.symm, Bool.true_or]
    · rw [if_neg h, beq_eq_false_iff_ne.mpr (fun e => h e.symm), Bool.false_or, show (i : Int) + 1 = ((i + 1 : Nat) : Int) by omega, ih k (i + 1) (by omega) (by omega)]
theorem l1Has_eq (st : List Int) (x : Int) (hn : st.length ≤ 1000000000) (k : Nat) (hk : st.length < k) : spec_l1Has.f k st x = some (st.contains x) := by
  unfold spec_l1Has.f
  have := l1Has_l0 st x hn st.length k 0 (by omega) hk
  simpa using this
theorem l1Own_eq (l : List Int) (h : l.length < 1000000) : spec_l1Own.f l = some l := by
  unfold spec_l1Own.f
  simp only [Option.bind_some]
  rw [if_pos (by simp; omega)]
  simp
theorem treeV_length (list : List Thing) : ∀ d st, (treeV list d st).length ≤ (list.length + 1) ^ d
  | 0, _ => by simp [treeV]
  | d + 1, st => by
    rw [treeV_eq, List.length_cons, Nat.pow_succ]
    have key : ∀ m j, (((List.range' j m).flatMap fun i => if mayV list st i = true then treeV list d (st ++ [(i : Int)]) else []) : List (List Int)).length ≤ m * (list.length + 1) ^ d := by
      intro m
      induction m with
      | zero => intro j; simp
      | succ m ih =>
        intro j
        rw [List.range'_succ, List.flatMap_cons, List.length_append, Nat.succ_mul]
        have h1 := ih (j + 1)
        have h2 := treeV_length list d (st ++ [(j : Int)])
        split
        · omega
        · simp only [List.length_nil]; omega
    have h1 := key (list.length - 0) 0
    have hp : 1 ≤ (list.length + 1) ^ d := Nat.one_le_pow _ _ (by omega)
    unfold restV
    rw [Nat.sub_zero] at h1 ⊢
    rw [Nat.mul_add, Nat.mul_one, Nat.mul_comm]
    omega
theorem scAll_eq {list : List Thing} (hS : Sound list) : ∀ d k st, d ≤ 8 → freeV list st < d → Inside list st → st.length + freeV list st ≤ list.length → 2000000 + 20 * d ≤ k →
    spec_scAll.f k list st = some (if safeL list st = true then treeV list d st else []) := by
  have h7 := hS.1
  intro d
  induction d with
  | zero => intro k st _ h; omega
  | succ d ih =>
    intro k st hd8 hf hin hl hk
    obtain ⟨k, rfl⟩ : ∃ m, k = m + 1 := ⟨k - 1, by omega⟩
    simp only [spec_scAll.f]
    rw [scSafe_eq hS st hin (by omega) k (by omega)]
    simp only [Option.bind_some]
    cases hs : safeL list st with
    | false => rfl
    | true =>
      rw [if_pos rfl, if_pos rfl, l1Own_eq st (by omega), treeV_eq]
      simp only [Option.bind_some]
      have hp : (list.length + 1) ^ d ≤ 16777216 := Nat.le_trans (Nat.le_trans (Nat.pow_le_pow_left (show list.length + 1 ≤ 8 by omega) d) (Nat.pow_le_pow_right (by decide) (show d ≤ 8 by omega))) (by decide)
      have key : ∀ m k j (out : List (List Int)), j + m = list.length → 2000000 + 20 * d + m + 2 ≤ k → out.length + 16777216 * m ≤ 1000000000 → spec_scAll.l0 k list st out (list.length : Int) (j : Int) = some (out ++ restV list d st j) := by
        intro m
        induction m with
        | zero =>
          intro k j out hj hk ho
          obtain ⟨k, rfl⟩ : ∃ m, k = m + 1 := ⟨k - 1, by omega⟩
          simp only [spec_scAll.l0]; rw [if_neg (by omega), restV_end list d st j (by omega), List.append_nil]
        | succ m ihm =>
          intro k j out hj hk ho
          obtain ⟨k, rfl⟩ : ∃ m, k = m + 1 := ⟨k - 1, by omega⟩
          have hlt : j < list.length := by omega
          simp only [spec_scAll.l0]
          rw [if_pos (by omega), l1Has_eq st (j : Int) (by omega) k (by omega), w64 (i := (j : Int) + 1) (by omega) (by omega), restV_step list d st j hlt]
          simp only [Option.bind_some]
          have hin' : Inside list (st ++ [(j : Int)]) := fun x hx => by
            rcases List.mem_append.1 hx with hx | hx
            · exact hin x hx
            · have := List.mem_singleton.1 hx; omega
          have hmay : mayV list st j = (!st.contains (j : Int) && safeL list (st ++ [(j : Int)])) := by
            unfold mayV
            rw [safe_may hS _ hin' (by simp; omega)]
          have hnext := fun out ho => ihm k (j + 1) out (by omega) (by omega) ho
          rw [show ((j + 1 : Nat) : Int) = (j : Int) + 1 by omega] at hnext
          cases hc : st.contains (j : Int) with
          | true =>
            rw [if_pos rfl, if_neg (by rw [hmay, hc]; simp), List.nil_append]
            have e1 : out.length + 16777216 * m ≤ 1000000000 := by clear hnext ih ihm; omega
            exact hnext out e1
          | false =>
            have hfl := free_less list st j hlt hc
            rw [if_neg (by decide), l1Own_eq st (by omega)]
            simp only [Option.bind_some]
            rw [if_pos (by omega), ih k (st ++ [(j : Int)]) (by omega) (by omega) hin' (by simp; omega) (by omega)]
            simp only [Option.bind_some]
            have ht : mayV list st j = safeL list (st ++ [(j : Int)]) := by rw [hmay, hc]; simp
            rw [ht]
            have htl := treeV_length list d (st ++ [(j : Int)])
            have hlen : (if safeL list (st ++ [(j : Int)]) = true then treeV list d (st ++ [(j : Int)]) else []).length ≤ 16777216 := by
              split
              · omega
              · simp
            rw [if_pos (by omega), hnext _ (by rw [List.length_append]; omega), List.append_assoc]
      have := key list.length k 0 [st] (by omega) (by omega) (by simp; omega)
      simpa using this
/-- The reference's stacks are the program's. -/
theorem scAll_all {list : List Thing} (hS : Sound list) (k : Nat) (hk : 3000000 ≤ k) : spec_scAll.f k list [] = some (allS list) := by
  have h7 := hS.1
  have := scAll_eq hS (list.length + 1) k [] (by omega) (by rw [free_nil]; omega) (fun x hx => by cases hx) (by rw [free_nil]; simp) (by omega)
  simpa [safeL, allS] using this
end Go.Proofs.Ytbmefldckdaopaa.Q

namespace Go.Proofs.Ytbmefldckdaopaa.Q
open Go.RowKit Go.Shelf Go.Proofs.YtbmefldckdaopaaW.PrintWords Go.Proofs.YtbmefldckdaopaaW.PrintLast Go.Proofs.YtbmefldckdaopaaW.PrintMore
set_option linter.unusedVariables false
set_option linter.unusedSimpArgs false

theorem scoreLen_ok (list : List Thing) (w : World) : ScoreS list w 52 #[] (fun st => (st.length : Int)) := by
  intro W A c st _ _ _ hC hc
  simp only [Array.append_empty]
  go_enter Try.func52, Try.ntmps52
  go_wp2
  go_ret
  exact ⟨rfl, Below.refl _ W⟩

def impl_MostStacked.f (l0 : List Thing) : Option (List Int × Bool) :=
  (impl_AreStackable.f l0).bind fun t => if t = true then (if l0.length ≤ 1000 then some ((bestAllS l0 (fun st => (st.length : Int))).1, true) else none) else some ([], false)
set_option maxHeartbeats 2000000 in
theorem impl_MostStacked.calls (A0 : Option Addr) (c0 : Nat) (l0 : List Thing) (r1 : List Int) (r2 : Bool) (w : World) (hr0 : Kd.C k49 w A0 l0.length l0) (hc0 : l0.length ≤ c0) (h : impl_MostStacked.f l0 = some (r1, r2)) :
    Calls Try.prog 30 #[.slice A0 l0.length c0] w fun e w' => ∃ v0_ : Value, e = .returned (.tuple #[v0_, .bool r2]) ∧ Kd.R (Kd.int .i64) 3 w' w.heap.size (fun _ => True) v0_ r1 ∧ Below w.heap.size w w' := by
  unfold impl_MostStacked.f at h
  obtain ⟨t, ht, h⟩ := Option.bind_eq_some_iff.mp h
  have hare := impl_AreStackable.calls A0 c0 l0 t w hr0 hc0 ht
  have HR := Aside0.mk hr0
  clear hr0 ht
  cases t with
  | false =>
    have hr : [] = r1 ∧ false = r2 := by simpa using h
    obtain ⟨rfl, rfl⟩ := hr
    clear h
    go_enter Try.func30, Try.ntmps30
    go_wp2_with (go_at_call 15; refine hare.mono ?_; rintro e w' ⟨rfl, hb⟩)
    go_ret2
    exact ⟨_, rfl, Kd.R_nil _ _ _ _ _, hb⟩
  | true =>
    have hn : l0.length ≤ 1000 := by
      by_cases hn : l0.length ≤ 1000
      · exact hn
      · simp [hn] at h
    have hr : (bestAllS l0 (fun st => (st.length : Int))).1 = r1 ∧ true = r2 := by simpa [hn] using h
    obtain ⟨hr, rfl⟩ := hr
    have HRR := Aside0.mk hr
    clear h hr
    have eg := enters_of Try.func52 (by kernel_rfl) rfl
    go_enter Try.func30, Try.ntmps30
    go_wp2_with (first
      | (go_at_call 15; refine hare.mono ?_; rintro e w' ⟨rfl, hb⟩)
      | (go_at_call 51; refine (bestSafe_calls l0 A0 c0 _ #[] _ _ eg (scoreLen_ok l0 _) hn (Kd.C_below HR.out hb) hc0 _ rfl).mono ?_; rintro e w6 ⟨v, rfl, hR, hb6⟩; obtain ⟨A1, c1, rfl⟩ := Kd.R_slice hR))
    go_ret2
    exact ⟨_, rfl, by rw [← HRR.out]; exact Kd.R_lower hR hb.size, hb.trans (hb6.mono hb.size)⟩
end Go.Proofs.Ytbmefldckdaopaa.Q

namespace Go.Proofs.Ytbmefldckdaopaa.Q
open Go.RowKit Go.Shelf Go.Proofs.YtbmefldckdaopaaW.PrintWords Go.Proofs.YtbmefldckdaopaaW.PrintLast Go.Proofs.YtbmefldckdaopaaW.PrintMore
set_option linter.unusedVariables false
set_option linter.unusedSimpArgs false

theorem scoreHigh_ok (list : List Thing) (A0 : Option Addr) (c0 : Nat) (w : World) (B : Nat) (hn : list.length ≤ 1000) (hx : Boxed w B 25 (.slice A0 list.length c0)) (hC : Kd.C k49 w A0 list.length list) (hc0 : list.length ≤ c0) :
    ScoreS list w 54 #[.pointer (some ⟨B, 0, none⟩)] (highV list) := by
  intro W A c st hW hin hl hC1 hc
  have q1 := (box_below hx hW).cell
  have hcall := impl_high.calls (st.length + 1) A0 c0 list A c st (highV list st) W (Kd.C_below hC hW) hc0 hC1 hc (high_eq list st hin (by omega) _ (by omega))
  clear hx hC hC1 hW
  simp only [List.append_toArray, List.cons_append, List.nil_append]
  go_enter Try.func54, Try.ntmps54
  go_wp2_with (go_at_call 55; refine hcall.mono ?_; rintro e w' ⟨rfl, hdr⟩)
  go_ret
  obtain ⟨nd, hnd⟩ := hdr
  exact ⟨rfl, by rw [hnd]; exact pw_below_drewN (Below.refl _ _) nd⟩

def impl_TallestStack.f (l0 : List Thing) : Option (List Int × Int × Bool) :=
  (impl_AreStackable.f l0).bind fun t => if t = true then (if l0.length ≤ 1000 then some ((bestAllS l0 (highV l0)).1, (bestAllS l0 (highV l0)).2, true) else none) else some ([], 0, false)
set_option maxHeartbeats 2000000 in
theorem impl_TallestStack.calls (A0 : Option Addr) (c0 : Nat) (l0 : List Thing) (r1 : List Int) (r2 : Int) (r3 : Bool) (w : World) (hr0 : Kd.C k49 w A0 l0.length l0) (hc0 : l0.length ≤ c0) (h : impl_TallestStack.f l0 = some (r1, r2, r3)) :
    Calls Try.prog 37 #[.slice A0 l0.length c0] w fun e w' => ∃ v0_ : Value, e = .returned (.tuple #[v0_, .int .i64 r2, .bool r3]) ∧ Kd.R (Kd.int .i64) 3 w' w.heap.size (fun _ => True) v0_ r1 ∧ Below w.heap.size w w' := by
  unfold impl_TallestStack.f at h
  obtain ⟨t, ht, h⟩ := Option.bind_eq_some_iff.mp h
  have b1 : Below w.heap.size w (w.alloc (.cells #[.slice A0 l0.length c0] 25)) := (Below.refl _ w).alloc (Nat.le_refl _) _
  have hare := impl_AreStackable.calls A0 c0 l0 t _ (Kd.C_below hr0 b1) hc0 ht
  have x1 := Boxed.new w 25 (.slice A0 l0.length c0)
  have HR := Aside0.mk hr0
  have X1 := Aside0.mk x1
  have B1 := Aside0.mk b1
  clear hr0 ht x1 b1
  cases t with
  | false =>
    have hr : [] = r1 ∧ 0 = r2 ∧ false = r3 := by simpa using h
    obtain ⟨rfl, rfl, rfl⟩ := hr
    clear h
    go_enter Try.func37, Try.ntmps37
    go_wp2_with (go_at_call 15; refine hare.mono ?_; rintro e w' ⟨rfl, hb⟩)
    go_ret3
    exact ⟨_, rfl, Kd.R_nil _ _ _ _ _, B1.out.trans (hb.mono B1.out.size)⟩
  | true =>
    have hn : l0.length ≤ 1000 := by
      by_cases hn : l0.length ≤ 1000
      · exact hn
      · simp [hn] at h
    have hr : (bestAllS l0 (highV l0)).1 = r1 ∧ (bestAllS l0 (highV l0)).2 = r2 ∧ true = r3 := by simpa [hn] using h
    obtain ⟨hr1, hr2, rfl⟩ := hr
    have HR1 := Aside0.mk hr1
    have HR2 := Aside0.mk hr2
    clear h hr1 hr2
    have eg := enters_of Try.func54 (by kernel_rfl) rfl
    go_enter Try.func37, Try.ntmps37
    go_wp2_with (first
      | (go_at_call 15; refine hare.mono ?_; rintro e w' ⟨rfl, hb⟩; have B2 := Aside0.mk (B1.out.trans (hb.mono B1.out.size)); have X2 := Aside0.mk (box_below X1.out hb); have q2 := X2.out.cell)
      | (go_at_call 51; refine (bestSafe_calls l0 A0 c0 _ _ _ _ eg (scoreHigh_ok l0 A0 c0 _ _ hn X2.out (Kd.C_below HR.out B2.out) hc0) hn (Kd.C_below HR.out B2.out) hc0 _ rfl).mono ?_; rintro e w6 ⟨v, rfl, hR, hb6⟩; obtain ⟨A1, c1, rfl⟩ := Kd.R_slice hR))
    go_ret3
    obtain rfl := HR2.out
    obtain rfl := HR1.out
    exact ⟨_, rfl, Kd.R_lower hR B2.out.size, B2.out.trans (hb6.mono B2.out.size)⟩
end Go.Proofs.Ytbmefldckdaopaa.Q
