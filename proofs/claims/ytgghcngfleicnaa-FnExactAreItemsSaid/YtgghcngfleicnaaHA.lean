import Derived.Test.YtgghcngfleicnaaHB
namespace Go.Proofs.Ytgghcngfleicnaa.Q
open Go.RowKit Go.Proofs.YtgghcngfleicnaaW.PrintWords Go.Proofs.YtgghcngfleicnaaW.PrintLast Go.Proofs.YtgghcngfleicnaaW.PrintMore
set_option linter.unusedVariables false
set_option linter.unusedSimpArgs false

set_option maxHeartbeats 2000000 in
theorem index_int (g : Nat) (lb : Array Value) (p : Int → Bool) (eg : ∀ args w, (callFunc g args).run Try.prog w = .ok (.enter g args) w)
    (A : Option Addr) (c : Nat) (xs : List Int) (w : World) (hr : Kd.C (Kd.int .i64) w A xs.length xs) (hc : xs.length ≤ c) (hp : PredOk g lb (Value.int .i64) p w) :
    Calls Try.prog 80 #[.slice A xs.length c, .func (.func g) #[] lb] w fun e w' => e = .returned (.int .i64 (idxF p xs)) ∧ Below w.heap.size w w' := by
  have hn : xs.length ≤ 9223372036854775807 := hr.2.1
  have HR := Aside0.mk hr
  clear hr
  go_enter Try.func80, Try.ntmps80
  go_wp2
  go_loopg [5, 8] xs.length (fun gg _ s8 wr => ∃ kk : Nat, kk ≤ xs.length ∧ xs.length - kk ≤ gg ∧ s8 = .int .i64 kk ∧ Aside0 (Below w.heap.size w wr) ∧ Aside0 (∀ j (hj : j < xs.length), j < kk → p xs[j] = false))
  case atStart => exact ⟨0, Nat.zero_le _, by omega, rfl, ⟨Below.refl _ w⟩, ⟨fun j _ hj => absurd hj (Nat.not_lt_zero _)⟩⟩
  case round =>
    obtain ⟨kk, hkk, hg, rfl, BW, AA⟩ := hrel
    by_cases hlt : kk < xs.length
    · have hltz : (kk : Int) < (xs.length : Int) := by omega
      obtain ⟨ad, cs, e, _, hK, hcell⟩ := Kd.C_get HR.out 0 (kk : Int) (by omega) (by omega)
      have e2 : xs.getD (kk : Int).toNat 0 = xs[kk] := by simp [List.getD_eq_getElem?_getD, hlt]
      rw [e2] at hK
      have l1 : wr.cell? (ad.add kk) = some (.int .i64 xs[kk]) := by
        have h0 := hcell 0 (.int .i64 xs[kk]) (by rw [show cs = [Value.int .i64 xs[kk]] from hK]; rfl)
        rw [show (kk : Int).toNat * (Kd.int IntKind.i64).sz + 0 = kk by simp [Kd.int, Kd.scalar]] at h0
        exact (BW.out.cell (World.block_lt_of_cell? w _ h0)).trans h0
      have hcall := hp wr xs[kk] BW.out
      clear hK hcell e2
      subst e
      have hhit := fun h => idxF_hit p xs kk hlt h AA.out
      have HH : Aside0 (p xs[kk] = true → idxF p xs = kk) := ⟨hhit⟩
      clear hhit
      generalize hy : xs[kk] = y at l1 hcall HH
      have B : Aside0 (xs[kk] = y) := ⟨hy⟩
      clear hy
      cases hq : p y with
      | true =>
        rw [hq] at hcall
        go_wp2_with (go_at_fn g; refine hcall.mono ?_; rintro e w' ⟨rfl, hb'⟩)
        go_ret
        exact ⟨ret_int (HH.out hq).symm, BW.out.trans (hb'.mono BW.out.size)⟩
      | false =>
        rw [hq] at hcall
        go_wp2_with (go_at_fn g; refine hcall.mono ?_; rintro e w' ⟨rfl, hb'⟩)
        go_roundg (xs.length - (kk + 1))
        case measure => omega
        case rel =>
          refine ⟨kk + 1, by omega, by omega, by go_num, ⟨BW.out.trans (hb'.mono BW.out.size)⟩, ⟨fun j hj hlt2 => ?_⟩⟩
          by_cases e : j = kk
          · subst e
            rw [B.out]; exact hq
          · exact AA.out j hj (by omega)
    · have hltz : ¬ (kk : Int) < (xs.length : Int) := by omega
      have : kk = xs.length := by omega
      go_wp2
      go_ret
      exact ⟨ret_int (idxF_miss p xs (fun j hj => AA.out j hj (by omega))).symm, BW.out⟩

theorem contains_int (g : Nat) (lb : Array Value) (p : Int → Bool) (eg : ∀ args w, (callFunc g args).run Try.prog w = .ok (.enter g args) w)
    (A : Option Addr) (c : Nat) (xs : List Int) (w : World) (hr : Kd.C (Kd.int .i64) w A xs.length xs) (hc : xs.length ≤ c) (hp : PredOk g lb (Value.int .i64) p w) :
    Calls Try.prog 69 #[.slice A xs.length c, .func (.func g) #[] lb] w fun e w' => e = .returned (.bool (xs.any p)) ∧ Below w.heap.size w w' := by
  have hcon := index_int g lb p eg A c xs w hr hc hp
  have E := Aside0.mk (idxF_any p xs)
  clear hp hr
  generalize idxF p xs = r at hcon E
  go_enter Try.func69, Try.ntmps69
  go_wp2_with (go_at_call 80; refine hcon.mono ?_; rintro e w' ⟨rfl, hb'⟩)
  go_ret
  exact ⟨ret_bool E.out, hb'⟩

/-- 'areWithin': all numbers lie in low .. high. -/
def impl_areWithin.f (l0 : List Int) (a1 a2 : Int) : Option Bool := some (l0.all fun n => decide (a1 ≤ n) && decide (n ≤ a2))

theorem areWithin_pred (lo hi : Int) (b : Nat) (w : World) (h1 : w.cell? ⟨b, 0, none⟩ = some (.int .i64 lo)) (h2 : w.cell? ⟨b + 1, 0, none⟩ = some (.int .i64 hi)) :
    PredOk 70 #[.pointer (some ⟨b, 0, none⟩), .pointer (some ⟨b + 1, 0, none⟩)] (Value.int .i64) (fun n => !(decide (lo ≤ n) && decide (n ≤ hi))) w := fun W x hb => by
  have g1 : W.cell? ⟨b, 0, none⟩ = some (.int .i64 lo) := (hb.cell (World.block_lt_of_cell? w _ h1)).trans h1
  have g2 : W.cell? ⟨b + 1, 0, none⟩ = some (.int .i64 hi) := (hb.cell (World.block_lt_of_cell? w _ h2)).trans h2
  clear h1 h2 hb
  show Calls Try.prog 70 #[.int .i64 x, .pointer (some ⟨b, 0, none⟩), .pointer (some ⟨b + 1, 0, none⟩)] W _
  go_enter Try.func70, Try.ntmps70
  by_cases c1 : lo ≤ x
  · by_cases c2 : x ≤ hi
    · go_wp2
      go_ret
      exact ⟨by simp [c1, c2], Below.refl _ _⟩
    · go_wp2
      go_ret
      exact ⟨by simp [c1, c2], Below.refl _ _⟩
  · go_wp2
    go_ret
    exact ⟨by simp [c1], Below.refl _ _⟩

set_option maxHeartbeats 1000000 in
theorem impl_areWithin.calls (A0 : Option Addr) (c0 : Nat) (l0 : List Int) (a1 a2 : Int) (r : Bool) (w : World) (hr0 : Kd.C (Kd.int .i64) w A0 l0.length l0) (hc0 : l0.length ≤ c0) (h : impl_areWithin.f l0 a1 a2 = some r) :
    Calls Try.prog 44 #[.slice A0 l0.length c0, .int .i64 a1, .int .i64 a2] w fun e w' => e = .returned (.bool r) ∧ Below w.heap.size w w' := by
  have hbel : Below w.heap.size w ((w.alloc (.cells #[.int .i64 a1] 3)).alloc (.cells #[.int .i64 a2] 3)) := ((Below.refl _ w).alloc (Nat.le_refl _) _).alloc (by simp) _
  have hcon := contains_int 70 #[.pointer (some ⟨w.heap.size, 0, none⟩), .pointer (some ⟨w.heap.size + 1, 0, none⟩)] (fun n => !(decide (a1 ≤ n) && decide (n ≤ a2))) (enters_of Try.func70 (by kernel_rfl) rfl) A0 c0 l0 _ (Kd.C_below hr0 hbel) hc0 (areWithin_pred a1 a2 w.heap.size _ (by simp) (by simp))
  have E : Aside0 ((!l0.any fun n => !(decide (a1 ≤ n) && decide (n ≤ a2))) = r) := ⟨by
    injection h with h
    rw [← h, List.any_eq_not_all_not]
    simp⟩
  have HB := Aside0.mk hbel
  clear h hr0 hbel
  generalize (l0.any fun n => !(decide (a1 ≤ n) && decide (n ≤ a2))) = q at hcon E
  go_enter Try.func44, Try.ntmps44
  go_wp2_with (go_at_call 69; refine hcon.mono ?_; rintro e w' ⟨rfl, hb'⟩)
  go_ret
  exact ⟨ret_bool E.out, HB.out.trans (hb'.mono (by simp; omega))⟩
end Go.Proofs.Ytgghcngfleicnaa.Q
